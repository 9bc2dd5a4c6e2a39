/-
  Whole of the reference's numbers: strconv.Atoi over the digits, with its range error.
-/
import Derived.Test.YtaibpeokfbokfaaGreatDoorRD
import Derived.Test.YtaibpeokfbokfaaGreatDoorRString
import Derived.Test.YtaibpeokfbokfaaGreatDoorShelf
import Derived.Lib.AtoiAll
import Derived.Outline
namespace Go.Proofs.YtaibpeokfbokfaaGreatDoor.Mth
theorem dec_len_word {m k : Nat} (hk : 0 < k) (h : m < 10 ^ k) : (Lib.decDigits m).length ≤ k := (pad_eq k m h hk).2
theorem parse_never : ∀ (l : List UInt8) (acc : Nat), l.all isD = true → Lib.parseUint10 acc l = .range ∨ ∃ u, Lib.parseUint10 acc l = .ok u
  | [], acc, _ => Or.inr ⟨acc, by simp [Lib.parseUint10]⟩
  | c :: r, acc, h => by
    simp only [List.all_cons, Bool.and_eq_true, isD, decide_eq_true_eq] at h
    simp only [Lib.parseUint10]
    split
    · split
      · exact Or.inl rfl
      · split
        · exact Or.inl rfl
        · exact parse_never r _ h.2
    · rename_i hne
      exact absurd (by omega) hne
theorem atoi_never {l : List UInt8} (h : l.all isD = true) (h0 : l ≠ []) : Lib.atoiAll l = .range ∨ ∃ v, Lib.atoiAll l = .ok v := by
  cases l with
  | nil => exact absurd rfl h0
  | cons c r =>
    have hc : ¬ (c.toNat = 43 ∨ c.toNat = 45) := by
      simp only [List.all_cons, Bool.and_eq_true, isD, decide_eq_true_eq] at h
      omega
    have hn : ¬ c.toNat = 45 := fun e => hc (Or.inr e)
    unfold Lib.atoiAll
    simp only [if_neg hc, Lib.parseMag, List.cons_ne_nil, if_false]
    rcases parse_never (c :: r) 0 h with e | ⟨u, e⟩
    · rw [e]; exact Or.inl rfl
    · rw [e]
      simp only [hn, not_false_eq_true, true_and, false_and, if_false]
      split
      · exact Or.inl rfl
      · exact Or.inr ⟨_, rfl⟩
end Go.Proofs.YtaibpeokfbokfaaGreatDoor.Mth
namespace Go.Proofs.YtaibpeokfbokfaaGreatDoor
open Go.RowKit Go.Shelf

/-- the variable strconv.ErrRange holds an error -/
def ErrV (w : World) : Prop := 1 < w.heap.size ∧ ∃ te pe, w.var? Tryz.prog "strconv.ErrRange" = some #[.iface te pe]
theorem ErrV.low {w w' : World} (h : ErrV w) (hb : Below w.heap.size w w') : ErrV w' := by
  obtain ⟨h1, te, pe, h2⟩ := h
  exact ⟨Nat.lt_of_lt_of_le h1 hb.size, te, pe, var?_below hb (show Tryz.prog.globalNamed "strconv.ErrRange" = some 1 by kernel_rfl) h1 h2⟩
/-- the number as an int -/
def whB (m d : Nat) : Bool := decide ((Lib.decDigits m).length ≤ 18 ∧ d = 1)
def whV (g : Bool) (m d : Nat) : Int := if whB m d = true then (if g = true then -(m : Int) else m) else 0

set_option maxHeartbeats 4000000 in
set_option maxRecDepth 100000 in
theorem rwhole_any (g : Bool) (m d : Nat) (x y : Value) (w : World) (h1 : Pt w x m) (h2 : Pt w y d) (l1 : (Mth.dg 10000 m).length ≤ 1000000000) (htab : Tabs w) (herr : ErrV w) :
    Calls Tryz.prog 35 #[.agg #[.bool g, x, y]] w fun e w' => e = .returned (.tuple #[.int .i64 (whV g m d), .bool (whB m d)]) ∧ Below w.heap.size w w' := by
  obtain ⟨A1, n1, k1, rfl⟩ := h1.shape
  have HP2 := Lib.hid h2
  obtain ⟨A2, n2, k2, rfl, hn2, -, hd1⟩ := h2.lenform
  obtain ⟨W, hW⟩ : ∃ W, W = w.alloc (.cells #[.bool g, .slice A1 n1 k1, .slice A2 n2 k2] 33) := ⟨_, rfl⟩
  have hBW : Below w.heap.size w W := by rw [hW]; exact (Below.refl _ w).alloc (Nat.le_refl _) _
  have hk0 : Blk W w.heap.size 33 #[.bool g, .slice A1 n1 k1, .slice A2 n2 k2] := by rw [hW]; exact Blk.new w _ _
  have e0 := hk0.cell 0
  have e1 := hk0.cell 1
  have e2 := hk0.cell 2
  simp only [List.getElem?_toArray, List.getElem?_cons_zero, List.getElem?_cons_succ] at e0 e1 e2
  have z0 := hk0.lt
  have HS : Hid (∀ w', Below W.heap.size W w' → w'.cell? ⟨w.heap.size, 0, none⟩ = some (.bool g) ∧ w'.cell? ⟨w.heap.size, 1, none⟩ = some (.slice A1 n1 k1) ∧ w'.cell? ⟨w.heap.size, 2, none⟩ = some (.slice A2 n2 k2)) := Lib.hid fun w' hb =>
    ⟨(hb.cell (p := ⟨w.heap.size, 0, none⟩) z0).trans e0, (hb.cell (p := ⟨w.heap.size, 1, none⟩) z0).trans e1, (hb.cell (p := ⟨w.heap.size, 2, none⟩) z0).trans e2⟩
  have HT := Lib.hid (htab.low hBW)
  have HE := Lib.hid (herr.low hBW)
  have HSTR := Lib.hid (rstring_any m _ W (h1.below hBW) l1 (htab.low hBW))
  have HY : Hid (∀ w', Below W.heap.size W w' → n2 = 1 → ∃ b o, A2 = some ⟨b, o, none⟩ ∧ w'.cell? ⟨b, o, none⟩ = some (.int .i64 (d : Int))) := Lib.hid fun w' hb hk => by
    obtain ⟨b, o, e, hc⟩ := hd1 hk
    refine ⟨b, o, e, ?_⟩
    have hlt := World.block_lt_of_cell? w _ hc
    exact ((hBW.trans (hb.mono hBW.size)).cell (p := ⟨b, o, none⟩) hlt).trans hc
  have HD : Hid (d = 1 ↔ n2 = 1 ∧ d = 1) := Lib.hid ⟨fun e => ⟨by rw [hn2, e, Mth.dg_one (by omega) (by omega) (by omega)]; rfl, e⟩, fun h => h.2⟩
  obtain ⟨V, hV⟩ : ∃ V, whV g m d = V := ⟨_, rfl⟩
  obtain ⟨B, hB⟩ : ∃ B, whB m d = B := ⟨_, rfl⟩
  have HV := Lib.hid hV
  have HBB := Lib.hid hB
  have HBW := Lib.hid hBW
  have HW := Lib.hid hW
  rw [hV, hB]
  clear hV hB hBW hW hk0 h1 h2 htab herr hd1 hn2
  go_enter Tryz.func35, Tryz.ntmps35
  go_wp2_with fail
  rw [← HW.out]
  refine HSTR.out.mono ?_
  rintro e w1 ⟨S, rfl, hS, hB1⟩
  have HB1 := Lib.hid hB1
  have hall : S.data.toList.all Mth.isD = true := by rw [hS]; exact Mth.dec_all m
  have hne : S.data.toList ≠ [] := by rw [hS]; exact Mth.dec_ne_nil m
  have hlen : S.size = (Lib.decDigits m).length := by rw [bytes_size, hS]
  have hdv : Mth.dv S.data.toList = m := by rw [hS, Mth.dv_dec]
  have hmax : S.size ≤ 10000000000 := by
    rw [hlen]
    have h3 := Mth.dec_len_le m
    have h4 : (Mth.dg 1000000000 m).length ≤ (Mth.dg 10000 m).length := Mth.dg_len_le (by omega) _ _ (Nat.lt_of_lt_of_le (Mth.lt_pow_dg (by omega) m) (Nat.pow_le_pow_left (by omega) _))
    omega
  have HT1 := Lib.hid (HT.out.low hB1)
  have HE1 := Lib.hid (HE.out.low hB1)
  clear e0 e1 e2 hB1
  by_cases hl : S.size ≤ 18
  · have hA := atoi_str S w1 hall hne (by rw [← bytes_size]; exact hl)
    rw [hdv] at hA
    have HA := Lib.hid hA
    have hm18 : m < 1000000000000000000 := by
      have h3 := Mth.dv_lt S.data.toList hall
      rw [hdv, ← bytes_size] at h3
      exact Nat.lt_of_lt_of_le h3 (Nat.pow_le_pow_right (by omega) hl)
    have HM := Lib.hid hm18
    have hl2 : decide (18 < S.size) = false := by simpa using hl
    have hl3 : decide ((18 : Int) < (S.size : Int)) = false := by rw [decide_eq_false]; omega
    have hneg0 : IntKind.i64.wrap (-(m : Int)) = -(m : Int) := IntWalk.i64_in (-(m : Int)) ⟨by omega, by omega⟩
    have hneg : wrap64 (-(m : Int)) = -(m : Int) := by unfold wrap64; omega
    have HNEG := Lib.hid hneg
    have HL := Lib.hid hl
    have HLEN := Lib.hid hlen
    clear hall hne hlen hdv hmax hl hA hm18 hneg hneg0
    go_wp2_with fail
    refine HA.out.mono ?_
    rintro e w2 ⟨rfl, hB2⟩
    have HB2 := Lib.hid (HB1.out.trans (hB2.mono HB1.out.size))
    obtain ⟨e0, e1, e2⟩ := HS.out w2 HB2.out
    clear hB2
    by_cases hk : n2 = 1
    · obtain ⟨b, o, rfl, hc⟩ := HY.out w2 HB2.out hk
      subst hk
      by_cases hd : d = 1
      · subst hd
        have hB0 : whB m 1 = true := by unfold whB; rw [decide_eq_true]; exact ⟨by rw [← HLEN.out]; exact HL.out, rfl⟩
        have hBt : B = true := by rw [← HBB.out, hB0]
        have hVt : V = if g = true then -(m : Int) else m := by rw [← HV.out]; unfold whV; rw [if_pos hB0]
        clear hB0
        subst hBt
        cases g with
        | true =>
          have hVt2 : V = -(m : Int) := hVt
          clear hVt
          subst hVt2
          go_wp2
          rw [HNEG.out]
          go_ret2
          exact ⟨rfl, HBW.out.trans (HB2.out.mono HBW.out.size)⟩
        | false =>
          have hVt2 : V = (m : Int) := hVt
          clear hVt
          subst hVt2
          go_wp2
          go_ret2
          exact ⟨rfl, HBW.out.trans (HB2.out.mono HBW.out.size)⟩
      · have hB0 : whB m d = false := by unfold whB; rw [decide_eq_false]; intro h; exact hd h.2
        have hBf : B = false := by rw [← HBB.out, hB0]
        have hVf : V = 0 := by rw [← HV.out]; unfold whV; rw [hB0]; rfl
        have hd2 : ((d : Int) != 1) = true := by simp; omega
        clear hB0
        subst hBf
        subst hVf
        go_wp2
        go_ret2
        exact ⟨rfl, HBW.out.trans (HB2.out.mono HBW.out.size)⟩
    · have hB0 : whB m d = false := by unfold whB; rw [decide_eq_false]; intro h; exact hk ((HD.out).1 h.2).1
      have hBf : B = false := by rw [← HBB.out, hB0]
      have hVf : V = 0 := by rw [← HV.out]; unfold whV; rw [hB0]; rfl
      have hk2 : ((n2 : Int) != 1) = true := by simp; omega
      clear hB0
      subst hBf
      subst hVf
      go_wp2
      go_ret2
      exact ⟨rfl, HBW.out.trans (HB2.out.mono HBW.out.size)⟩
  · have hB0 : whB m d = false := by unfold whB; rw [decide_eq_false]; intro h; omega
    have hBf : B = false := by rw [← HBB.out, hB0]
    have hVf : V = 0 := by rw [← HV.out]; unfold whV; rw [hB0]; rfl
    subst hBf
    subst hVf
    have hl2 : decide (18 < S.size) = true := by simpa using hl
    have hl3 : (18 : Int) < (S.size : Int) := by omega
    rcases Mth.atoi_never hall hne with ha | ⟨v, ha⟩
    · obtain ⟨te, pe, hvar⟩ := HE1.out.2
      have HA := Lib.hid (Tryz.strconv_Atoi_range_var S (by omega) ha te pe w1 hvar)
      clear hall hne hlen hdv hmax hl ha hvar
      go_wp2_with fail
      refine HA.out.mono ?_
      rintro e w2 ⟨N, rfl, -, -, hB2⟩
      have HB2 := Lib.hid (HB1.out.trans (hB2.mono HB1.out.size))
      obtain ⟨e0, e1, e2⟩ := HS.out w2 HB2.out
      clear hB2
      go_wp2
      go_ret2
      exact ⟨rfl, HBW.out.trans (HB2.out.mono HBW.out.size)⟩
    · have HA := Lib.hid (Tryz.strconv_Atoi_ok S (by omega) v ha w1)
      clear hall hne hlen hdv hmax hl ha
      go_wp2_with fail
      refine HA.out.mono ?_
      rintro e w2 ⟨rfl, hw2⟩
      have HB2 : Hid (Below W.heap.size W w2) := by
        refine Lib.hid (HB1.out.trans (Below.mono ?_ HB1.out.size))
        rcases hw2 with rfl | ⟨t, rfl⟩
        · exact Below.refl _ _
        · exact Lib.bytesWorld_below w1 _ t
      obtain ⟨e0, e1, e2⟩ := HS.out w2 HB2.out
      clear hw2
      go_wp2
      go_ret2
      exact ⟨rfl, HBW.out.trans (HB2.out.mono HBW.out.size)⟩
end Go.Proofs.YtaibpeokfbokfaaGreatDoor
