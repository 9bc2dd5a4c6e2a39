/-
  The reference's faults, and Of of both sides.
-/
import Derived.Test.YtldjemlmjfpmjaaGreatDoorRA
import Derived.Test.YtldjemlmjfpmjaaGreatDoorCheck
import Derived.Lib.MinMax
import Derived.Test.YtldjemlmjfpmjaaGreatDoorRNum
import Derived.LoopN
namespace Go.Proofs.YtldjemlmjfpmjaaGreatDoor
open Go.RowKit Go.Shelf

theorem decFrom_digits : ∀ (l : List UInt8) (acc : Nat), l.all Mth.isD = true → Lib.decFrom acc l = some (acc * 10 ^ l.length + Mth.dv l)
  | [], acc, _ => by simp [Lib.decFrom, Mth.dv]
  | c :: l, acc, h => by
    simp only [List.all_cons, Bool.and_eq_true, Mth.isD, decide_eq_true_eq] at h
    have hd : Lib.digitVal c = some (c.toNat - 48) := by
      unfold Lib.digitVal
      simp
      omega
    rw [Lib.decFrom, hd]
    show Lib.decFrom (acc * 10 + (c.toNat - 48)) l = _
    rw [decFrom_digits l _ h.2, Mth.dv_cons, List.length_cons, Nat.pow_succ, Nat.add_mul, Nat.mul_assoc, Nat.mul_comm 10, Nat.add_assoc]
theorem atoi_digits {l : List UInt8} (h : l.all Mth.isD = true) (h0 : l ≠ []) : Lib.atoi l = some (Mth.dv l : Int) := by
  cases l with
  | nil => exact absurd rfl h0
  | cons c r =>
    have h2 := h
    simp only [List.all_cons, Bool.and_eq_true, Mth.isD, decide_eq_true_eq] at h2
    have n1 : (c == 45) = false := by
      rw [beq_eq_false_iff_ne]; rintro rfl; simp at h2
    have n2 : (c == 43) = false := by
      rw [beq_eq_false_iff_ne]; rintro rfl; simp at h2
    rw [Lib.atoi, n1, n2]
    simp only [Bool.false_eq_true, if_false, Lib.decNat, List.isEmpty_cons]
    rw [decFrom_digits _ 0 h]
    simp

theorem atoi_str (s : ByteArray) (w : World) (h : s.data.toList.all Mth.isD = true) (h0 : s.data.toList ≠ []) (h9 : s.data.toList.length ≤ 18) :
    Calls Tryz.prog 111 #[.string s] w fun e w' => e = .returned (.tuple #[.int .i64 (Mth.dv s.data.toList : Nat), .nilIface]) ∧ Below w.heap.size w w' := by
  have hs : s.size = s.data.toList.length := by rw [← ByteArray.size_data]; simp
  refine (Tryz.strconv_Atoi s (Mth.dv s.data.toList : Nat) (by omega) (atoi_digits h h0) w).mono ?_
  rintro e w' ⟨rfl, t, rfl⟩
  exact ⟨rfl, Lib.bytesWorld_below w _ t⟩

theorem all_take_succ {l : List UInt8} {k : Nat} {c : UInt8} (h : (l.take k).all Mth.isD = true) (hk : k < l.length) (hc : l[k] = c) (hd : Mth.isD c = true) : (l.take (k + 1)).all Mth.isD = true := by
  rw [List.take_succ_eq_append_getElem hk, List.all_append, h, hc]
  simp [hd]
set_option maxHeartbeats 1000000 in
set_option maxRecDepth 100000 in
theorem rdigits_any (l : List UInt8) (w : World) (hs : l.length ≤ 9000000000000000000) :
    Calls Tryz.prog 70 #[.string ⟨l.toArray⟩] w fun e w' => e = .returned (.bool (digB l)) ∧ w = w' := by
  go_enter Tryz.func70, Tryz.ntmps70
  go_wp2
  go_loopw [6] (fun a6 wr => ∃ k : Nat, a6 = .int .i64 k ∧ k ≤ l.length ∧ (l.take k).all Mth.isD = true ∧ w = wr) (fun a6 _ => l.length - (intOf a6).toNat)
  case atStart => exact ⟨0, rfl, by omega, by simp, rfl⟩
  case round =>
    obtain ⟨k, rfl, hk, hall, rfl⟩ := hrel
    have HA := Lib.hid hall
    clear hall
    by_cases hlt : k < l.length
    · have hlt2 : (k : Int) < (l.length : Int) := by omega
      obtain ⟨c, hc⟩ : ∃ c, l[k] = c := ⟨_, rfl⟩
      have hix : (ByteArray.mk l.toArray)[k]'(by rw [bytes_size]; simpa using hlt) = c := by rw [← hc]; rfl
      have HC := Lib.hid hc
      have HLT := Lib.hid hlt
      clear hc
      rcases (show (c.toNat : Int) < 48 ∨ (48 ≤ (c.toNat : Int) ∧ 57 < (c.toNat : Int)) ∨ (48 ≤ (c.toNat : Int) ∧ (c.toNat : Int) ≤ 57) by omega) with h | ⟨h, h'⟩ | ⟨h, h'⟩
      · go_wp2
        go_ret
        refine ⟨ret_bool ?_, rfl⟩
        have : l.all Mth.isD = false := by
          rw [List.all_eq_false]
          exact ⟨c, by rw [← HC.out]; exact List.getElem_mem _, by simp [Mth.isD]; omega⟩
        simp [digB, this]
      · go_wp2
        go_ret
        refine ⟨ret_bool ?_, rfl⟩
        have : l.all Mth.isD = false := by
          rw [List.all_eq_false]
          exact ⟨c, by rw [← HC.out]; exact List.getElem_mem _, by simp [Mth.isD]; omega⟩
        simp [digB, this]
      · go_wp2
        all_goals first
          | (exfalso; omega)
          | skip
        go_roundw
        case rel => exact ⟨k + 1, by go_num, by have := HLT.out; omega, all_take_succ HA.out HLT.out HC.out (by simp [Mth.isD]; omega), trivial⟩
        case measure => have := HLT.out; show l.length - (k + 1 : Int).toNat < l.length - (k : Int).toNat; omega
    · obtain rfl : k = l.length := by omega
      have hall := HA.out
      rw [List.take_length] at hall
      have HALL := Lib.hid hall
      clear hall hlt HA hk
      cases l with
      | nil =>
        go_wp2
        go_ret
        exact ⟨rfl, rfl⟩
      | cons c r =>
        have hi : (ByteArray.mk (c :: r).toArray)[0]'(by rw [bytes_size]; simp) = c := rfl
        by_cases hc : c = 48
        · subst hc
          cases r with
          | nil =>
            go_wp2
            go_ret
            exact ⟨rfl, rfl⟩
          | cons d r =>
            go_wp2
            go_ret
            exact ⟨ret_bool (by simp [digB]), rfl⟩
        · have hc2 : ((c.toNat : Int) != 48) = true := by
            have : c.toNat ≠ 48 := fun h => hc (UInt8.toNat_inj.1 (by rw [h]; rfl))
            simp; omega
          go_wp2
          go_ret
          exact ⟨ret_bool (by have := HALL.out; simp [digB, hc, this]), rfl⟩

set_option maxHeartbeats 2000000 in
set_option maxRecDepth 100000 in
theorem rread_any (s : ByteArray) (w : World) (h : s.data.toList.all Mth.isD = true) (hs : s.data.toList.length ≤ 1000000000000) :
    Calls Tryz.prog 72 #[.string s] w fun e w' => ∃ v, e = .returned v ∧ Below w.heap.size w w' ∧ Pt w' v (Mth.dv s.data.toList) := by
  obtain ⟨i0, hi, hz0, hz1, hz2⟩ := info_parts info_int
  have hsz : s.size = s.data.toList.length := by rw [← ByteArray.size_data]; simp
  obtain ⟨l, hl⟩ : ∃ l, s.data.toList = l := ⟨_, rfl⟩
  rw [hl] at h hs hsz
  rw [hl]
  have HS := Lib.hid hl
  have HA := Lib.hid h
  have HZ := Lib.hid hsz
  have hsn : (s.size : Int) ≤ 1000000000000 := by omega
  clear hl h hsz
  go_enter Tryz.func72, Tryz.ntmps72
  go_wp2
  go_loopw [0, 3] (fun a0 a3 wr => ∃ (S : ByteArray) (e k : Nat) (cs : List Nat), a0 = .string S ∧ S.data.toList = l.take e ∧ S.size = e ∧ ((e : Int) = (s.size : Int) - 4 * k ∨ e = 0 ∧ (s.size : Int) ≤ 4 * k ∧ 4 * (k : Int) ≤ s.size + 3) ∧ e ≤ s.size ∧ cs.length = k ∧ wr.ownsRow w.heap.size 3 1 a3 k (n64s cs) ∧ (∀ d ∈ cs, d < 10000) ∧
    Mth.val 10000 cs = Mth.dv (l.drop e) ∧ Below w.heap.size w wr) (fun a0 _ _ => match a0 with | .string S => S.size | _ => 0)
  case atStart => exact ⟨s, s.size, 0, [], rfl, by rw [HS.out, HZ.out, List.take_length], rfl, Or.inl (by omega), Nat.le_refl _, rfl, World.ownsRow_nil _ _ _ _, by simp, by rw [HZ.out, List.drop_length]; rfl, Below.refl _ _⟩
  case round =>
    obtain ⟨S, e, k, cs, rfl, hSl, hSe, he, hes, hc, hown, hd, hv, hB⟩ := hrel
    have HE := Lib.hid he
    have HC := Lib.hid hc
    have HD := Lib.hid hd
    have HV := Lib.hid hv
    have HSL := Lib.hid hSl
    have HSE := Lib.hid hSe
    have hBs := hB.size
    have hk : k ≤ 500000000000 := by omega
    clear hc hd hv hSl
    by_cases h0 : e = 0
    · have hsl := Sl.of_own hown
      have hv := HV.out
      rw [h0, List.drop_zero] at hv
      have HV2 := Lib.hid hv
      have hS0 : S.size = 0 := by omega
      clear hv he hSe
      go_wp2_with (go_at_call 112; refine (tidy_any cs _ _ hsl (by rw [HC.out]; omega)).mono ?_; rintro e w' ⟨v', rfl, hS, rfl⟩)
      go_ret
      refine ⟨v', rfl, hB, ?_⟩
      unfold Pt
      rw [← HV2.out, ← Mth.tidy_eq (by omega) cs HD.out]
      exact hS
    · obtain ⟨p, hp⟩ : ∃ p : Nat, e - 4 = p := ⟨_, rfl⟩
      have hmax : max 0 ((S.size : Int) - 4) = (p : Int) := by omega
      have hpq : p ≤ S.size := by omega
      have hpq2 : (p : Int) ≤ (S.size : Int) := by omega
      have hS0 : (0 : Int) < (S.size : Int) := by omega
      have hS1 : (S.size : Int) ≤ 1000000000000 := by omega
      have hchunk : (S.extract p S.size).data.toList = (l.drop p).take (e - p) := by
        rw [Lib.extract_data, HSL.out, HSE.out, List.drop_take, List.take_take]; simp
      have hcl : ((l.drop p).take (e - p)).length = e - p := by
        rw [List.length_take, List.length_drop]; have := HZ.out; omega
      have hat := fun W => atoi_str (S.extract p S.size) W (by rw [hchunk]; exact all_sub HA.out _ _) (by rw [hchunk]; intro h; rw [h] at hcl; simp at hcl; omega) (by rw [hchunk, hcl]; omega)
      rw [hchunk] at hat
      have hdl := Mth.dv_lt _ (all_sub HA.out p (e - p))
      rw [hcl] at hdl
      have hd4 : (10 : Nat) ^ (e - p) ≤ 10 ^ 4 := Nat.pow_le_pow_right (by omega) (by omega)
      obtain ⟨x, hx⟩ : ∃ x, Mth.dv ((l.drop p).take (e - p)) = x := ⟨_, rfl⟩
      rw [hx] at hat hdl
      have hx4 : x < 10000 := by omega
      have HP := Lib.hid hat
      have HX := Lib.hid hx
      have HQ := Lib.hid hp
      have HCL := Lib.hid hcl
      clear hchunk hcl hat hdl hd4 hx hp he hSe
      go_wp2_with fail
      refine (HP.out _).mono ?_
      rintro e1 w1 ⟨rfl, hB1⟩
      have hown1 := own_below hown hB1
      have hsz1 := hB1.size
      have HB1 := Lib.hid hB1
      clear hB1 hown
      go_wp2_with (at_builtin; refine wpList_append_own _ rfl _ _ 50 rfl w.heap.size 3 i0 (.int .i64 0) 1 8 Tryz.underlying50 hi hz0 hz1 hz2 rfl (by decide) _ _ _ rfl (hown1.alloc _) ⟨w1.heap.size, 0, none⟩ 1 1 [.int .i64 (x : Int)] rfl rfl (cell_one_new _ _ _) (by simp [Value.oneCell']) (by unfold maxLen; omega) (by omega) (by simp; omega) ?_; intro v' w2 hown' hgrow _)
      go_roundw
      case rel =>
        have hqe := HQ.out
        have hse := HSE.out
        have hee := HE.out
        refine ⟨S.extract 0 p, p, k + 1, cs ++ [x], rfl, ?_, ?_, by omega, by omega, by simp [HC.out], by rw [n64s_append]; exact hown', ?_, ?_, ((hB.trans (HB1.out.mono hBs)).alloc (by omega) _).grown hgrow (by simp; omega) (fun y hy => (hown1.lt y hy).1)⟩
        · rw [Lib.extract_data, HSL.out, List.drop_zero, Nat.sub_zero, List.take_take]; congr 1; omega
        · rw [ByteArray.size_extract]; omega
        · intro d hd
          rcases List.mem_append.1 hd with h | h
          · exact HD.out d h
          · simp at h; omega
        · rw [Mth.val_snoc, HC.out, HV.out]
          have e1 : l.drop p = (l.drop p).take (e - p) ++ l.drop e := by
            conv => lhs; rw [← List.take_append_drop (e - p) (l.drop p)]
            rw [List.drop_drop]
            congr 2
            omega
          rw [e1, Mth.dv_append, HX.out]
          have e2 : (l.drop e).length = 4 * k := by
            have h2 := HZ.out
            rw [List.length_drop]; omega
          rw [e2, Nat.pow_mul, Nat.add_comm, Nat.mul_comm x]
      case measure => have hqe := HQ.out; have hse := HSE.out; show (S.extract 0 p).size < S.size; rw [ByteArray.size_extract]; omega
end Go.Proofs.YtldjemlmjfpmjaaGreatDoor

namespace Go.Proofs.YtldjemlmjfpmjaaGreatDoor
open Go.RowKit Go.Shelf

set_option maxHeartbeats 4000000 in
set_option maxRecDepth 100000 in
theorem rfault_walk (nl dl c : List UInt8) (g b1 b2 : Bool) (m n : Nat) (w : World)
    (HC : Hid (∀ W, Calls Tryz.prog 69 #[.string ⟨nl.toArray⟩, .string ⟨#[45]⟩] W fun e w' => e = .returned (.tuple #[.string ⟨c.toArray⟩, .bool g]) ∧ w' = W))
    (HD1 : Hid (∀ W, Calls Tryz.prog 70 #[.string ⟨c.toArray⟩] W fun e w' => e = .returned (.bool b1) ∧ W = w'))
    (HD2 : Hid (∀ W, Calls Tryz.prog 70 #[.string ⟨dl.toArray⟩] W fun e w' => e = .returned (.bool b2) ∧ W = w'))
    (HP1 : Hid (b1 = true → ∀ W, Calls Tryz.prog 72 #[.string ⟨c.toArray⟩] W fun e w' => ∃ v, e = .returned v ∧ Below W.heap.size W w' ∧ Pt w' v m))
    (HP2 : Hid (b2 = true → ∀ W, Calls Tryz.prog 72 #[.string ⟨dl.toArray⟩] W fun e w' => ∃ v, e = .returned v ∧ Below W.heap.size W w' ∧ Pt w' v n))
    (HM : Hid (b1 = true → (Mth.dg 10000 m).length ≤ 100000000)) (HN : Hid (b2 = true → (Mth.dg 10000 n).length ≤ 100000000))
    (H1 : Hid ((dl == [49]) = true → Nat.gcd m n = 1)) :
    Calls Tryz.prog 23 #[.agg #[.string ⟨nl.toArray⟩, .string ⟨dl.toArray⟩]] w fun e w' => e = .returned (.int .i64 (chk b1 b2 c dl g m n)) ∧ Below w.heap.size w w' := by
  obtain ⟨W, hW⟩ : ∃ W, W = w.alloc (.cells #[.string ⟨nl.toArray⟩, .string ⟨dl.toArray⟩] 45) := ⟨_, rfl⟩
  have hk : Blk W w.heap.size 45 #[.string ⟨nl.toArray⟩, .string ⟨dl.toArray⟩] := by rw [hW]; exact Blk.new w _ _
  have c0 := hk.cell 0
  have c1 := hk.cell 1
  simp only [List.getElem?_toArray, List.getElem?_cons_zero, List.getElem?_cons_succ] at c0 c1
  have hlt := hk.lt
  have HBW : Hid (Below w.heap.size w W) := Lib.hid (by rw [hW]; exact (Below.refl _ w).alloc (Nat.le_refl _) _)
  have HW := Lib.hid hW
  have HS : Hid (∀ w', Below W.heap.size W w' → w'.cell? ⟨w.heap.size, 1, none⟩ = some (.string ⟨dl.toArray⟩)) := Lib.hid fun w' hb => (hb.cell (p := ⟨w.heap.size, 1, none⟩) hlt).trans c1
  clear hk hW
  go_enter Tryz.func23, Tryz.ntmps23
  go_wp2_with fail
  rw [← HW.out]
  refine (HC.out _).mono ?_
  rintro e w1 ⟨rfl, rfl⟩
  go_wp2_with fail
  refine (HD1.out _).mono ?_
  rintro e w1 ⟨rfl, rfl⟩
  cases b1 with
  | false =>
    go_wp2
    go_ret
    exact ⟨ret_int (by simp [chk]), HBW.out⟩
  | true =>
    have HQ1 := Lib.hid (HP1.out rfl)
    have hm := HM.out rfl
    clear HP1 HM
    go_wp2_with fail
    refine (HD2.out _).mono ?_
    rintro e w1 ⟨rfl, rfl⟩
    cases b2 with
    | false =>
      go_wp2
      go_ret
      exact ⟨ret_int (by simp [chk, *]), HBW.out⟩
    | true =>
      have HQ2 := Lib.hid (HP2.out rfl)
      have hn := HN.out rfl
      clear HP2 HN
      by_cases hd : (dl == [48]) = true
      · go_wp2
        go_ret
        exact ⟨ret_int (by simp [chk, *]), HBW.out⟩
      · replace hd := eq_false_of_ne_true hd
        have key : ((c == [48]) = true ∧ (g = true ∨ (g = false ∧ (dl == [49]) = false))) ∨ ((c == [48]) = true ∧ g = false ∧ (dl == [49]) = true) ∨ (c == [48]) = false := by
          cases (c == [48]) <;> cases g <;> cases (dl == [49]) <;> simp
        rcases key with ⟨hc, hg⟩ | key
        · rcases hg with rfl | ⟨rfl, h1⟩
          · go_wp2
            go_ret
            exact ⟨ret_int (by simp [chk, *]), HBW.out⟩
          · have h2 : (dl != [49]) = true := by simp only [bne, h1]; rfl
            go_wp2
            go_ret
            exact ⟨ret_int (by simp [chk, *]), HBW.out⟩
        · have HCHK : Hid ((Nat.gcd m n = 1 → chk true true c dl g m n = 0) ∧ (Nat.gcd m n ≠ 1 → chk true true c dl g m n = 3)) := Lib.hid (by
            have h1 := H1.out
            rcases key with ⟨hc, hg, h2⟩ | hc
            · exact ⟨fun _ => by simp [chk, hd, hc, hg, h2], fun h => absurd (h1 h2) h⟩
            · refine ⟨fun h => by simp [chk, hd, hc, h], fun h => ?_⟩
              have h2 : (dl == [49]) = false := by
                cases h3 : (dl == [49]) with
                | true => exact absurd (h1 h3) h
                | false => rfl
              simp [chk, hd, hc, h2, h])
          have tok1 : True := trivial
          have tok2 : True := trivial
          rcases key with ⟨hc, rfl, h1⟩ | hc
          all_goals
            (try (have h1' : (dl != [49]) = false := by simp only [bne, h1]; rfl))
            go_wp2_with fail
            go_region_held3 (fun w' => w'.cell? ⟨w.heap.size, 1, none⟩ = some (.string ⟨dl.toArray⟩))
              (first | exact c1 | exact HS.out _ HC3.out | exact HS.out _ HC2.out | exact HS.out _ HC1.out | go_keep)
              (first
                | (go_at_call 72; have _t := tok1; refine (HQ1.out _).mono ?_; rintro e w3 ⟨v1, rfl, hB1, hN1⟩; have HN1 := Lib.hid hN1; have HC1 : Hid (Below w1.heap.size w1 w3) := Lib.hid ((Below.refl _ w1).drew.trans hB1); clear hN1 hB1 tok1 _t)
                | (go_at_call 72; have _t := tok2; refine (HQ2.out _).mono ?_; rintro e w4 ⟨v2, rfl, hB2, hN2⟩; have HN2 := Lib.hid hN2; have HN12 := Lib.hid (HN1.out.below hB2); have HC2 : Hid (Below w1.heap.size w1 w4) := Lib.hid (HC1.out.trans (hB2.mono HC1.out.size)); clear hN2 hB2 tok2 _t)
                | (go_at_call 71; refine (rgcd_any m n _ _ _ HN12.out HN2.out hm hn).mono ?_; rintro e w5 ⟨v3, rfl, hB3, hN3⟩; have HN3 := Lib.hid hN3; have HC3 : Hid (Below w1.heap.size w1 w5) := Lib.hid (HC2.out.trans (hB3.mono HC2.out.size)); clear hN3 hB3))
            obtain ⟨A3, k3, c3, rfl, h3, -, h4⟩ := HN3.out.lenform
            have H4 : Hid (k3 = 1 → ∃ b o, A3 = some ⟨b, o, none⟩ ∧ w5.cell? ⟨b, o, none⟩ = some (.int .i64 (Nat.gcd m n : Int))) := Lib.hid h4
            have H3 := Lib.hid h3
            clear h3 h4 HN1 HN2 HN12 hm hn
            by_cases hk3 : k3 = 1
            · subst hk3
              obtain ⟨b3, o3, rfl, hcell⟩ := H4.out rfl
              by_cases hgg : Nat.gcd m n = 1
              · rw [hgg] at hcell
                have HE := Lib.hid (HCHK.out.1 hgg)
                clear hgg H3 H4
                go_wp2
                go_ret
                exact ⟨ret_int HE.out.symm, HBW.out.trans (HC3.out.mono HBW.out.size)⟩
              · have HE := Lib.hid (HCHK.out.2 hgg)
                have hne : ((Nat.gcd m n : Int) != 1) = true := by simp; omega
                clear hgg H3 H4
                go_wp2
                go_ret
                exact ⟨ret_int HE.out.symm, HBW.out.trans (HC3.out.mono HBW.out.size)⟩
            · have hgg : Nat.gcd m n ≠ 1 := by
                intro h
                have h3 := H3.out
                rw [h, Mth.dg_one (by omega) (by omega) (by omega)] at h3
                exact hk3 h3
              have HE := Lib.hid (HCHK.out.2 hgg)
              have hne : ((k3 : Int) != 1) = true := by simp; omega
              clear hgg H3 H4 hk3
              go_wp2
              go_ret
              exact ⟨ret_int HE.out.symm, HBW.out.trans (HC3.out.mono HBW.out.size)⟩

/-- RatFault of the reference says what num.Check says -/
theorem rfault_any (nl dl : List UInt8) (w : World) (hn : nl.length ≤ 100000000) (hd : dl.length ≤ 100000000) :
    Calls Tryz.prog 23 #[.agg #[.string ⟨nl.toArray⟩, .string ⟨dl.toArray⟩]] w fun e w' => e = .returned (.int .i64 (chkOf nl dl)) ∧ Below w.heap.size w w' := by
  have hcl : (cutNum nl).length ≤ nl.length := by unfold cutNum Lib.trimPrefix; split <;> simp
  have hlen : ∀ l : List UInt8, l.length ≤ 100000000 → l.all Mth.isD = true → (Mth.dg 10000 (Mth.dv l)).length ≤ 100000000 := fun l h1 h2 =>
    Nat.le_trans (Mth.dg_len_le (by omega) l.length _ (Nat.lt_of_lt_of_le (Mth.dv_lt l h2) (Nat.pow_le_pow_left (by omega) _))) (by omega)
  refine rfault_walk nl dl (cutNum nl) (negNum nl) (digB (cutNum nl)) (digB dl) (Mth.dv (cutNum nl)) (Mth.dv dl) w (Lib.hid ?_) (Lib.hid ?_) (Lib.hid ?_) (Lib.hid ?_) (Lib.hid ?_) (Lib.hid ?_) (Lib.hid ?_) (Lib.hid ?_)
  · intro W
    have hcut := Tryz.strings_CutPrefix ⟨nl.toArray⟩ ⟨#[45]⟩ W
    rw [bytes_toList] at hcut
    exact hcut
  · exact fun W => rdigits_any (cutNum nl) W (by omega)
  · exact fun W => rdigits_any dl W (by omega)
  · intro h W
    have := rread_any ⟨(cutNum nl).toArray⟩ W (by rw [bytes_toList]; exact digB_all h) (by rw [bytes_toList]; omega)
    rwa [bytes_toList] at this
  · intro h W
    have := rread_any ⟨dl.toArray⟩ W (by rw [bytes_toList]; exact digB_all h) (by rw [bytes_toList]; omega)
    rwa [bytes_toList] at this
  · exact fun h => hlen _ (by omega) (digB_all h)
  · exact fun h => hlen _ (by omega) (digB_all h)
  · intro h
    rw [show dl = [49] by simpa using h]
    exact Nat.gcd_one_right _
end Go.Proofs.YtldjemlmjfpmjaaGreatDoor

namespace Go.Proofs.YtldjemlmjfpmjaaGreatDoor
open Go.RowKit Go.Shelf

/-- the first fault of two numbers -/
def chk2 (K1 K2 : Int) : Int := if K1 = 0 then K2 else K1

end Go.Proofs.YtldjemlmjfpmjaaGreatDoor

namespace Go.Proofs.YtldjemlmjfpmjaaGreatDoor
open Go.RowKit Go.Shelf

namespace Mth
theorem dg_len_sum {b x y k : Nat} (hb : 2 ≤ b) (hx : (dg b x).length ≤ k) (hy : (dg b y).length ≤ k) : (dg b (x + y)).length ≤ k + 1 := by
  refine dg_len_le hb (k + 1) _ ?_
  have h1 := Nat.lt_of_lt_of_le (lt_pow_dg hb x) (Nat.pow_le_pow_right (by omega) hx)
  have h2 := Nat.lt_of_lt_of_le (lt_pow_dg hb y) (Nat.pow_le_pow_right (by omega) hy)
  have h3 : b ^ k * 2 ≤ b ^ k * b := Nat.mul_le_mul_left _ hb
  rw [Nat.pow_succ]
  omega
end Mth
/-- the sum's sign -/
def addS (na nb : Bool) (x y : Nat) : Bool := if na = nb then na else if y ≤ x then na else nb
/-- the sum's size -/
def addM (na nb : Bool) (x y : Nat) : Nat := if na = nb then x + y else if y ≤ x then x - y else y - x

/-- a number of the program -/
def FNum (neg : Bool) (m n : Nat) (w : World) (e : Ending) (w' : World) : Prop := ∃ v1 v2, e = .returned (.agg #[.bool neg, v1, v2]) ∧ Nt w' v1 m ∧ Nt w' v2 n ∧ Below w.heap.size w w'
theorem fnum_end {w w1 : World} {g : Nat} {t : TypeId} {neg b0 : Bool} {m n : Nat} {A B A1 B1 : Option Addr} {k c l d k1 c1 l1 d1 : Nat} (hg : w.heap.size ≤ g) (hb : Below w.heap.size w w1) (hk : Blk w1 g t #[.bool b0, .slice A1 k1 c1, .slice B1 l1 d1])
    (h1 : Nt w1 (.slice A k c) m) (h2 : Nt w1 (.slice B l d) n) :
    FNum neg m n w (.returned (.agg #[.bool neg, .slice A k c, .slice B l d])) (((w1.setCell ⟨g, 0, none⟩ (.bool neg)).setCell ⟨g, 1, none⟩ (.slice A k c)).setCell ⟨g, 2, none⟩ (.slice B l d)) :=
  ⟨_, _, rfl, nt_store3 h1 hk (notI_bool _) (notI_slice _ _ _) (notI_slice _ _ _) (notI_bool _) (notI_slice _ _ _), nt_store3 h2 hk (notI_bool _) (notI_slice _ _ _) (notI_slice _ _ _) (notI_bool _) (notI_slice _ _ _),
    ((hb.setCell (p := ⟨g, 0, none⟩) hg _).setCell (p := ⟨g, 1, none⟩) hg _).setCell (p := ⟨g, 2, none⟩) hg _⟩

set_option maxHeartbeats 4000000 in
set_option maxRecDepth 100000 in
theorem rnof_walk (nl dl c : List UInt8) (g : Bool) (m n : Nat) (w : World)
    (HC : Hid (∀ W, Calls Tryz.prog 69 #[.string ⟨nl.toArray⟩, .string ⟨#[45]⟩] W fun e w' => e = .returned (.tuple #[.string ⟨c.toArray⟩, .bool g]) ∧ w' = W))
    (HP1 : Hid (∀ W, Calls Tryz.prog 72 #[.string ⟨c.toArray⟩] W fun e w' => ∃ v, e = .returned v ∧ Below W.heap.size W w' ∧ Pt w' v m))
    (HP2 : Hid (∀ W, Calls Tryz.prog 72 #[.string ⟨dl.toArray⟩] W fun e w' => ∃ v, e = .returned v ∧ Below W.heap.size W w' ∧ Pt w' v n)) :
    Calls Tryz.prog 24 #[.agg #[.string ⟨nl.toArray⟩, .string ⟨dl.toArray⟩]] w (RNum g m n w) := by
  obtain ⟨W, hW⟩ : ∃ W, W = (w.alloc (.cells #[.string ⟨nl.toArray⟩, .string ⟨dl.toArray⟩] 45)).alloc (.cells #[.bool false, .slice none 0 0, .slice none 0 0] 52) := ⟨_, rfl⟩
  have hk : Blk W w.heap.size 45 #[.string ⟨nl.toArray⟩, .string ⟨dl.toArray⟩] := by rw [hW]; exact (Blk.new w _ _).alloc _
  have hk2 : Blk W (w.heap.size + 1) 52 #[.bool false, .slice none 0 0, .slice none 0 0] := by
    rw [hW]
    have := Blk.new (w.alloc (.cells #[.string ⟨nl.toArray⟩, .string ⟨dl.toArray⟩] 45)) 52 #[.bool false, .slice none 0 0, .slice none 0 0]
    rwa [World.size_alloc] at this
  have c0 := hk.cell 0
  have c1 := hk.cell 1
  simp only [List.getElem?_toArray, List.getElem?_cons_zero, List.getElem?_cons_succ] at c0 c1
  have hlt := hk.lt
  have HBW : Hid (Below w.heap.size w W) := Lib.hid (by rw [hW]; exact ((Below.refl _ w).alloc (Nat.le_refl _) _).alloc (by simp) _)
  have HW := Lib.hid hW
  have HK2 := Lib.hid hk2
  have HS : Hid (∀ w', Below W.heap.size W w' → w'.cell? ⟨w.heap.size, 1, none⟩ = some (.string ⟨dl.toArray⟩)) := Lib.hid fun w' hb => (hb.cell (p := ⟨w.heap.size, 1, none⟩) hlt).trans c1
  clear hk hk2 hW
  have tok : True := trivial
  go_enter Tryz.func24, Tryz.ntmps24
  go_wp2_with fail
  rw [← HW.out]
  refine (HC.out _).mono ?_
  rintro e w1 ⟨rfl, rfl⟩
  go_wp2_with fail
  go_region_held3 (fun w' => w'.cell? ⟨w.heap.size, 1, none⟩ = some (.string ⟨dl.toArray⟩))
    (first | exact c1 | exact HS.out _ HC2.out | exact HS.out _ HC1.out | go_keep)
    (first
      | (go_at_call 72; have _t := tok; refine (HP1.out _).mono ?_; rintro e w2 ⟨v1, rfl, hB1, hN1⟩; have HN1 := Lib.hid hN1; have HC1 : Hid (Below w1.heap.size w1 w2) := Lib.hid ((Below.refl _ w1).drew.trans hB1); clear hN1 hB1 tok _t)
      | (go_at_call 72; refine (HP2.out _).mono ?_; rintro e w3 ⟨v2, rfl, hB2, hN2⟩; have HN2 := Lib.hid hN2; have HN12 := Lib.hid (HN1.out.below hB2); have HC2 : Hid (Below w1.heap.size w1 w3) := Lib.hid (HC1.out.trans (hB2.mono HC1.out.size)); clear hN2 hB2; obtain ⟨A5, n5, k5, rfl⟩ := HN12.out.shape; obtain ⟨A6, n6, k6, rfl⟩ := HN2.out.shape; have hk := HK2.out.low HC2.out; have d0 := hk.cell 0; have d1 := hk.cell 1; have d2 := hk.cell 2; have f0 := hk.frozen 0; have f1 := hk.frozen 1; have f2 := hk.frozen 2; simp only [List.getElem?_toArray, List.getElem?_cons_zero, List.getElem?_cons_succ] at d0 d1 d2; have HK3 := Lib.hid hk; clear hk))
  go_wp2
  refine bodyPost_ret (v := .agg #[.bool g, .slice A5 n5 k5, .slice A6 n6 k6]) (by simp [results, Tryz.results24, go_sem, d0, d1, d2]) rfl ?_
  exact rnum_end (show w.heap.size ≤ w.heap.size + 1 by omega) (HBW.out.trans (HC2.out.mono HBW.out.size)) HK3.out HN12.out HN2.out
theorem rnof_any (nl dl : List UInt8) (w : World) (hn : nl.length ≤ 100000000) (hd : dl.length ≤ 100000000) (h1 : digB (cutNum nl) = true) (h2 : digB dl = true) :
    Calls Tryz.prog 24 #[.agg #[.string ⟨nl.toArray⟩, .string ⟨dl.toArray⟩]] w (RNum (negNum nl) (Mth.dv (cutNum nl)) (Mth.dv dl) w) := by
  have hcl : (cutNum nl).length ≤ nl.length := by unfold cutNum Lib.trimPrefix; split <;> simp
  refine rnof_walk nl dl (cutNum nl) (negNum nl) _ _ w (Lib.hid ?_) (Lib.hid ?_) (Lib.hid ?_)
  · intro W
    have hcut := Tryz.strings_CutPrefix ⟨nl.toArray⟩ ⟨#[45]⟩ W
    rw [bytes_toList] at hcut
    exact hcut
  · intro W
    have := rread_any ⟨(cutNum nl).toArray⟩ W (by rw [bytes_toList]; exact digB_all h1) (by rw [bytes_toList]; omega)
    rwa [bytes_toList] at this
  · intro W
    have := rread_any ⟨dl.toArray⟩ W (by rw [bytes_toList]; exact digB_all h2) (by rw [bytes_toList]; omega)
    rwa [bytes_toList] at this
set_option maxHeartbeats 4000000 in
set_option maxRecDepth 100000 in
theorem fof_walk (nl dl c : List UInt8) (g : Bool) (m n : Nat) (w : World)
    (HC : Hid (∀ W, Calls Tryz.prog 69 #[.string ⟨nl.toArray⟩, .string ⟨#[45]⟩] W fun e w' => e = .returned (.tuple #[.string ⟨c.toArray⟩, .bool g]) ∧ w' = W))
    (HP1 : Hid (∀ W, Calls Tryz.prog 102 #[.string ⟨c.toArray⟩] W fun e w' => ∃ v, e = .returned v ∧ Below W.heap.size W w' ∧ Nt w' v m))
    (HP2 : Hid (∀ W, Calls Tryz.prog 102 #[.string ⟨dl.toArray⟩] W fun e w' => ∃ v, e = .returned v ∧ Below W.heap.size W w' ∧ Nt w' v n)) :
    Calls Tryz.prog 66 #[.agg #[.string ⟨nl.toArray⟩, .string ⟨dl.toArray⟩]] w (FNum g m n w) := by
  obtain ⟨W, hW⟩ : ∃ W, W = (w.alloc (.cells #[.string ⟨nl.toArray⟩, .string ⟨dl.toArray⟩] 45)).alloc (.cells #[.bool false, .slice none 0 0, .slice none 0 0] 90) := ⟨_, rfl⟩
  have hk : Blk W w.heap.size 45 #[.string ⟨nl.toArray⟩, .string ⟨dl.toArray⟩] := by rw [hW]; exact (Blk.new w _ _).alloc _
  have hk2 : Blk W (w.heap.size + 1) 90 #[.bool false, .slice none 0 0, .slice none 0 0] := by
    rw [hW]
    have := Blk.new (w.alloc (.cells #[.string ⟨nl.toArray⟩, .string ⟨dl.toArray⟩] 45)) 90 #[.bool false, .slice none 0 0, .slice none 0 0]
    rwa [World.size_alloc] at this
  have c0 := hk.cell 0
  have c1 := hk.cell 1
  simp only [List.getElem?_toArray, List.getElem?_cons_zero, List.getElem?_cons_succ] at c0 c1
  have hlt := hk.lt
  have HBW : Hid (Below w.heap.size w W) := Lib.hid (by rw [hW]; exact ((Below.refl _ w).alloc (Nat.le_refl _) _).alloc (by simp) _)
  have HW := Lib.hid hW
  have HK2 := Lib.hid hk2
  have HS : Hid (∀ w', Below W.heap.size W w' → w'.cell? ⟨w.heap.size, 1, none⟩ = some (.string ⟨dl.toArray⟩)) := Lib.hid fun w' hb => (hb.cell (p := ⟨w.heap.size, 1, none⟩) hlt).trans c1
  clear hk hk2 hW
  have tok : True := trivial
  go_enter Tryz.func66, Tryz.ntmps66
  go_wp2_with fail
  rw [← HW.out]
  refine (HC.out _).mono ?_
  rintro e w1 ⟨rfl, rfl⟩
  go_wp2_with fail
  go_region_held3 (fun w' => w'.cell? ⟨w.heap.size, 1, none⟩ = some (.string ⟨dl.toArray⟩))
    (first | exact c1 | exact HS.out _ HC2.out | exact HS.out _ HC1.out | go_keep)
    (first
      | (go_at_call 102; have _t := tok; refine (HP1.out _).mono ?_; rintro e w2 ⟨v1, rfl, hB1, hN1⟩; have HN1 := Lib.hid hN1; have HC1 : Hid (Below w1.heap.size w1 w2) := Lib.hid ((Below.refl _ w1).drew.trans hB1); clear hN1 hB1 tok _t)
      | (go_at_call 102; refine (HP2.out _).mono ?_; rintro e w3 ⟨v2, rfl, hB2, hN2⟩; have HN2 := Lib.hid hN2; have HN12 := Lib.hid (HN1.out.below hB2); have HC2 : Hid (Below w1.heap.size w1 w3) := Lib.hid (HC1.out.trans (hB2.mono HC1.out.size)); clear hN2 hB2; obtain ⟨A5, n5, k5, rfl⟩ := HN12.out.shape; obtain ⟨A6, n6, k6, rfl⟩ := HN2.out.shape; have hk := HK2.out.low HC2.out; have d0 := hk.cell 0; have d1 := hk.cell 1; have d2 := hk.cell 2; have f0 := hk.frozen 0; have f1 := hk.frozen 1; have f2 := hk.frozen 2; simp only [List.getElem?_toArray, List.getElem?_cons_zero, List.getElem?_cons_succ] at d0 d1 d2; have HK3 := Lib.hid hk; clear hk))
  go_wp2
  refine bodyPost_ret (v := .agg #[.bool g, .slice A5 n5 k5, .slice A6 n6 k6]) (by simp [results, Tryz.results66, go_sem, d0, d1, d2]) rfl ?_
  exact fnum_end (show w.heap.size ≤ w.heap.size + 1 by omega) (HBW.out.trans (HC2.out.mono HBW.out.size)) HK3.out HN12.out HN2.out
theorem fof_any (nl dl : List UInt8) (w : World) (hn : nl.length ≤ 100000000) (hd : dl.length ≤ 100000000) (h1 : digB (cutNum nl) = true) (h2 : digB dl = true) :
    Calls Tryz.prog 66 #[.agg #[.string ⟨nl.toArray⟩, .string ⟨dl.toArray⟩]] w (FNum (negNum nl) (Mth.dv (cutNum nl)) (Mth.dv dl) w) := by
  have hcl : (cutNum nl).length ≤ nl.length := by unfold cutNum Lib.trimPrefix; split <;> simp
  refine fof_walk nl dl (cutNum nl) (negNum nl) _ _ w (Lib.hid ?_) (Lib.hid ?_) (Lib.hid ?_)
  · intro W
    have hcut := Tryz.strings_CutPrefix ⟨nl.toArray⟩ ⟨#[45]⟩ W
    rw [bytes_toList] at hcut
    exact hcut
  · intro W
    have := parse_any ⟨(cutNum nl).toArray⟩ W (by rw [bytes_toList]; exact digB_all h1) (by rw [bytes_toList]; omega)
    rwa [bytes_toList] at this
  · intro W
    have := parse_any ⟨dl.toArray⟩ W (by rw [bytes_toList]; exact digB_all h2) (by rw [bytes_toList]; omega)
    rwa [bytes_toList] at this
end Go.Proofs.YtldjemlmjfpmjaaGreatDoor
