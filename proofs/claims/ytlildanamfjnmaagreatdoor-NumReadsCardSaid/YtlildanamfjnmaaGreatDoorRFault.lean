/-
  RatFault of the reference: it is num.Check.
-/
import Derived.Test.YtlildanamfjnmaaGreatDoorRDigits
import Derived.Test.YtlildanamfjnmaaGreatDoorRNum2
namespace Go.Proofs.YtlildanamfjnmaaGreatDoor
open Go.RowKit Go.Shelf

set_option maxHeartbeats 4000000 in
set_option maxRecDepth 100000 in
theorem rfault_walk (nl dl c : List UInt8) (g b1 b2 : Bool) (m n : Nat) (w : World)
    (HC : Hid (∀ W, Calls Tryz.prog 66 #[.string ⟨nl.toArray⟩, .string ⟨#[45]⟩] W fun e w' => e = .returned (.tuple #[.string ⟨c.toArray⟩, .bool g]) ∧ w' = W))
    (HD1 : Hid (∀ W, Calls Tryz.prog 67 #[.string ⟨c.toArray⟩] W fun e w' => e = .returned (.bool b1) ∧ W = w'))
    (HD2 : Hid (∀ W, Calls Tryz.prog 67 #[.string ⟨dl.toArray⟩] W fun e w' => e = .returned (.bool b2) ∧ W = w'))
    (HP1 : Hid (b1 = true → ∀ W, Calls Tryz.prog 69 #[.string ⟨c.toArray⟩] W fun e w' => ∃ v, e = .returned v ∧ Below W.heap.size W w' ∧ Pt w' v m))
    (HP2 : Hid (b2 = true → ∀ W, Calls Tryz.prog 69 #[.string ⟨dl.toArray⟩] W fun e w' => ∃ v, e = .returned v ∧ Below W.heap.size W w' ∧ Pt w' v n))
    (HM : Hid (b1 = true → (Mth.dg 10000 m).length ≤ 100000000)) (HN : Hid (b2 = true → (Mth.dg 10000 n).length ≤ 100000000))
    (H1 : Hid ((dl == [49]) = true → Nat.gcd m n = 1)) :
    Calls Tryz.prog 22 #[.agg #[.string ⟨nl.toArray⟩, .string ⟨dl.toArray⟩]] w fun e w' => e = .returned (.int .i64 (chk b1 b2 c dl g m n)) ∧ Below w.heap.size w w' := by
  obtain ⟨W, hW⟩ : ∃ W, W = w.alloc (.cells #[.string ⟨nl.toArray⟩, .string ⟨dl.toArray⟩] 31) := ⟨_, rfl⟩
  have hk : Blk W w.heap.size 31 #[.string ⟨nl.toArray⟩, .string ⟨dl.toArray⟩] := by rw [hW]; exact Blk.new w _ _
  have c0 := hk.cell 0
  have c1 := hk.cell 1
  simp only [List.getElem?_toArray, List.getElem?_cons_zero, List.getElem?_cons_succ] at c0 c1
  have hlt := hk.lt
  have HBW : Hid (Below w.heap.size w W) := Lib.hid (by rw [hW]; exact (Below.refl _ w).alloc (Nat.le_refl _) _)
  have HW := Lib.hid hW
  have HS : Hid (∀ w', Below W.heap.size W w' → w'.cell? ⟨w.heap.size, 1, none⟩ = some (.string ⟨dl.toArray⟩)) := Lib.hid fun w' hb => (hb.cell (p := ⟨w.heap.size, 1, none⟩) hlt).trans c1
  clear hk hW
  go_enter Tryz.func22, Tryz.ntmps22
  go_wp2_with fail
  rw [← HW.out]
  refine (HC.out _).mono ?_
  rintro e w1 ⟨rfl, rfl⟩
  go_wp2_with fail
  refine (HD1.out _).mono ?_
  rintro e w1 ⟨rfl, rfl⟩
  cases b1 with
  | false =>
    go_wp2
    go_ret
    exact ⟨ret_int (by simp [chk]), HBW.out⟩
  | true =>
    have HQ1 := Lib.hid (HP1.out rfl)
    have hm := HM.out rfl
    clear HP1 HM
    go_wp2_with fail
    refine (HD2.out _).mono ?_
    rintro e w1 ⟨rfl, rfl⟩
    cases b2 with
    | false =>
      go_wp2
      go_ret
      exact ⟨ret_int (by simp [chk, *]), HBW.out⟩
    | true =>
      have HQ2 := Lib.hid (HP2.out rfl)
      have hn := HN.out rfl
      clear HP2 HN
      by_cases hd : (dl == [48]) = true
      · go_wp2
        go_ret
        exact ⟨ret_int (by simp [chk, *]), HBW.out⟩
      · replace hd := eq_false_of_ne_true hd
        have key : ((c == [48]) = true ∧ (g = true ∨ (g = false ∧ (dl == [49]) = false))) ∨ ((c == [48]) = true ∧ g = false ∧ (dl == [49]) = true) ∨ (c == [48]) = false := by
          cases (c == [48]) <;> cases g <;> cases (dl == [49]) <;> simp
        rcases key with ⟨hc, hg⟩ | key
        · rcases hg with rfl | ⟨rfl, h1⟩
          · go_wp2
            go_ret
            exact ⟨ret_int (by simp [chk, *]), HBW.out⟩
          · have h2 : (dl != [49]) = true := by simp only [bne, h1]; rfl
            go_wp2
            go_ret
            exact ⟨ret_int (by simp [chk, *]), HBW.out⟩
        · have HCHK : Hid ((Nat.gcd m n = 1 → chk true true c dl g m n = 0) ∧ (Nat.gcd m n ≠ 1 → chk true true c dl g m n = 3)) := Lib.hid (by
            have h1 := H1.out
            rcases key with ⟨hc, hg, h2⟩ | hc
            · exact ⟨fun _ => by simp [chk, hd, hc, hg, h2], fun h => absurd (h1 h2) h⟩
            · refine ⟨fun h => by simp [chk, hd, hc, h], fun h => ?_⟩
              have h2 : (dl == [49]) = false := by
                cases h3 : (dl == [49]) with
                | true => exact absurd (h1 h3) h
                | false => rfl
              simp [chk, hd, hc, h2, h])
          have tok1 : True := trivial
          have tok2 : True := trivial
          rcases key with ⟨hc, rfl, h1⟩ | hc
          all_goals
            (try (have h1' : (dl != [49]) = false := by simp only [bne, h1]; rfl))
            go_wp2_with fail
            go_region_held3 (fun w' => w'.cell? ⟨w.heap.size, 1, none⟩ = some (.string ⟨dl.toArray⟩))
              (first | exact c1 | exact HS.out _ HC3.out | exact HS.out _ HC2.out | exact HS.out _ HC1.out | go_keep)
              (first
                | (go_at_call 69; have _t := tok1; refine (HQ1.out _).mono ?_; rintro e w3 ⟨v1, rfl, hB1, hN1⟩; have HN1 := Lib.hid hN1; have HC1 : Hid (Below w1.heap.size w1 w3) := Lib.hid ((Below.refl _ w1).drew.trans hB1); clear hN1 hB1 tok1 _t)
                | (go_at_call 69; have _t := tok2; refine (HQ2.out _).mono ?_; rintro e w4 ⟨v2, rfl, hB2, hN2⟩; have HN2 := Lib.hid hN2; have HN12 := Lib.hid (HN1.out.below hB2); have HC2 : Hid (Below w1.heap.size w1 w4) := Lib.hid (HC1.out.trans (hB2.mono HC1.out.size)); clear hN2 hB2 tok2 _t)
                | (go_at_call 68; refine (rgcd_any m n _ _ _ HN12.out HN2.out hm hn).mono ?_; rintro e w5 ⟨v3, rfl, hB3, hN3⟩; have HN3 := Lib.hid hN3; have HC3 : Hid (Below w1.heap.size w1 w5) := Lib.hid (HC2.out.trans (hB3.mono HC2.out.size)); clear hN3 hB3))
            obtain ⟨A3, k3, c3, rfl, h3, -, h4⟩ := HN3.out.lenform
            have H4 : Hid (k3 = 1 → ∃ b o, A3 = some ⟨b, o, none⟩ ∧ w5.cell? ⟨b, o, none⟩ = some (.int .i64 (Nat.gcd m n : Int))) := Lib.hid h4
            have H3 := Lib.hid h3
            clear h3 h4 HN1 HN2 HN12 hm hn
            by_cases hk3 : k3 = 1
            · subst hk3
              obtain ⟨b3, o3, rfl, hcell⟩ := H4.out rfl
              by_cases hgg : Nat.gcd m n = 1
              · rw [hgg] at hcell
                have HE := Lib.hid (HCHK.out.1 hgg)
                clear hgg H3 H4
                go_wp2
                go_ret
                exact ⟨ret_int HE.out.symm, HBW.out.trans (HC3.out.mono HBW.out.size)⟩
              · have HE := Lib.hid (HCHK.out.2 hgg)
                have hne : ((Nat.gcd m n : Int) != 1) = true := by simp; omega
                clear hgg H3 H4
                go_wp2
                go_ret
                exact ⟨ret_int HE.out.symm, HBW.out.trans (HC3.out.mono HBW.out.size)⟩
            · have hgg : Nat.gcd m n ≠ 1 := by
                intro h
                have h3 := H3.out
                rw [h, Mth.dg_one (by omega) (by omega) (by omega)] at h3
                exact hk3 h3
              have HE := Lib.hid (HCHK.out.2 hgg)
              have hne : ((k3 : Int) != 1) = true := by simp; omega
              clear hgg H3 H4 hk3
              go_wp2
              go_ret
              exact ⟨ret_int HE.out.symm, HBW.out.trans (HC3.out.mono HBW.out.size)⟩

/-- RatFault of the reference says what num.Check says -/
theorem rfault_any (nl dl : List UInt8) (w : World) (hn : nl.length ≤ 100000000) (hd : dl.length ≤ 100000000) :
    Calls Tryz.prog 22 #[.agg #[.string ⟨nl.toArray⟩, .string ⟨dl.toArray⟩]] w fun e w' => e = .returned (.int .i64 (chkOf nl dl)) ∧ Below w.heap.size w w' := by
  have hcl : (cutNum nl).length ≤ nl.length := by unfold cutNum Lib.trimPrefix; split <;> simp
  have hlen : ∀ l : List UInt8, l.length ≤ 100000000 → l.all Mth.isD = true → (Mth.dg 10000 (Mth.dv l)).length ≤ 100000000 := fun l h1 h2 =>
    Nat.le_trans (Mth.dg_len_le (by omega) l.length _ (Nat.lt_of_lt_of_le (Mth.dv_lt l h2) (Nat.pow_le_pow_left (by omega) _))) (by omega)
  refine rfault_walk nl dl (cutNum nl) (negNum nl) (digB (cutNum nl)) (digB dl) (Mth.dv (cutNum nl)) (Mth.dv dl) w (Lib.hid ?_) (Lib.hid ?_) (Lib.hid ?_) (Lib.hid ?_) (Lib.hid ?_) (Lib.hid ?_) (Lib.hid ?_) (Lib.hid ?_)
  · intro W
    have hcut := Tryz.strings_CutPrefix ⟨nl.toArray⟩ ⟨#[45]⟩ W
    rw [bytes_toList] at hcut
    exact hcut
  · exact fun W => rdigits_any (cutNum nl) W (by omega)
  · exact fun W => rdigits_any dl W (by omega)
  · intro h W
    have := rread_any ⟨(cutNum nl).toArray⟩ W (by rw [bytes_toList]; exact digB_all h) (by rw [bytes_toList]; omega)
    rwa [bytes_toList] at this
  · intro h W
    have := rread_any ⟨dl.toArray⟩ W (by rw [bytes_toList]; exact digB_all h) (by rw [bytes_toList]; omega)
    rwa [bytes_toList] at this
  · exact fun h => hlen _ (by omega) (digB_all h)
  · exact fun h => hlen _ (by omega) (digB_all h)
  · intro h
    rw [show dl = [49] by simpa using h]
    exact Nat.gcd_one_right _
end Go.Proofs.YtlildanamfjnmaaGreatDoor
