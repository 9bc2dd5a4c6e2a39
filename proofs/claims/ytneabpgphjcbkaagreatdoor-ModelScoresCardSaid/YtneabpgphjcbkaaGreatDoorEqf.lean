/-
  Equal and EqualFunc.
-/
import Derived.Test.YtneabpgphjcbkaaGreatDoorSl
import Derived.Laws.StructEq
import Derived.BigQuiet
import Derived.Deep.QuietTactic
namespace Go.Proofs.YtneabpgphjcbkaaGreatDoor
open Go.RowKit


theorem run_neq_tm (x y : LTerm) (w : World) : (binOp .neq 279 (VTerm x) (VTerm y)).run Tryz.prog w = .ok (.bool (!eqTerm x y)) w := by
  have hS : Tryz.prog.underlying 279 = some (.struct (Tryz.prog.fieldsOf 279)) := by kernel_rfl
  have hp : Tryz.prog.stoodInHeld 279 = false := by kernel_rfl
  simp only [VTerm]
  rw [run_neq_struct, show (10000 : Nat) = 9999 + 1 from rfl, run_equalIn_agg w 9999 279 _ _ hS hp]
  simp only [Program.fieldsOf, Tryz.underlying279]
  go_simp
  unfold eqTerm sEq
  by_cases h0 : x.sym.toList = y.sym.toList <;> by_cases h1 : x.n = y.n <;> simp [h0, h1]


set_option maxHeartbeats 1000000 in
set_option maxRecDepth 100000 in
theorem equal_tm (xs ys : List LTerm) (v u : Value) (w : World) (hv : RTerms w.cell? v xs) (hu : RTerms w.cell? u ys) :
    Calls Tryz.prog 349 #[v, u] w fun e w' => e = .returned (.bool (eqL eqTerm xs ys)) ∧ Below w.heap.size w w' := by
  obtain ⟨A, c, rfl, -, -, hmx⟩ := Rws.shape hv
  obtain ⟨A2, c2, rfl, -, -, hmx2⟩ := Rws.shape hu
  have HV := Lib.hid hv
  have HU := Lib.hid hu
  obtain ⟨n, hn⟩ : ∃ n, xs.length = n := ⟨_, rfl⟩
  obtain ⟨m, hm⟩ : ∃ m, ys.length = m := ⟨_, rfl⟩
  rw [hn] at hmx HV ⊢
  rw [hm] at hmx2 HU ⊢
  have HL := Lib.hid hn
  have HM := Lib.hid hm
  have hn2 : (n : Int) ≤ 1000000 := by omega
  have hm2 : (m : Int) ≤ 1000000 := by omega
  clear hv hu
  by_cases hnm : n = m
  · subst hnm
    have hne0 : ((n : Int) != (n : Int)) = false := by simp
    clear hn hm
    go_enter Tryz.func349, Tryz.ntmps349
    go_wp2
    go_loopw [13] (fun a13 wr => ∃ (j q : Nat), a13 = .int .i64 j ∧ wr = w.drewN q ∧ j ≤ n ∧ eqL eqTerm (xs.take j) (ys.take j) = true) (fun a13 _ => n - (intOf a13).toNat)
    case atStart => exact ⟨0, 0, rfl, rfl, by omega, rfl⟩
    case round =>
      obtain ⟨j, q, rfl, rfl, hj, ht⟩ := hrel
      have HTK := Lib.hid ht
      clear ht
      by_cases hlt : j < n
      · have hlt2 : (j : Int) < (n : Int) := by omega
        have hjl : j < xs.length := by rw [HL.out]; exact hlt
        have hjm : j < ys.length := by rw [HM.out]; exact hlt
        obtain ⟨b, o, rfl, hc⟩ := Rws.at_ HV.out (by rw [HL.out]; omega)
        obtain ⟨b2, o2, rfl, hc2⟩ := Rws.at_ HU.out (by rw [HM.out]; omega)
        obtain ⟨x, hx⟩ : ∃ x, xs[j]? = some x := ⟨_, List.getElem?_eq_getElem hjl⟩
        obtain ⟨y, hy⟩ : ∃ y, ys[j]? = some y := ⟨_, List.getElem?_eq_getElem hjm⟩
        have hEp := hc j x hx
        have hEr := hc2 j y hy
        have HX := Lib.hid hx
        have HY := Lib.hid hy
        clear hc hc2 hx hy
        obtain ⟨p0, p1⟩ := hEp
        obtain ⟨r0, r1⟩ := hEr
        have hne := fun W => run_neq_tm x y W
        simp only [VTerm] at hne
        obtain ⟨bq, hbq⟩ : ∃ bq, eqTerm x y = bq := ⟨_, rfl⟩
        rw [hbq] at hne
        have HQ := Lib.hid hbq
        clear hbq
        cases bq with
        | true =>
          have HN : Hid (eqL eqTerm (xs.take (j + 1)) (ys.take (j + 1)) = true) := Lib.hid (by rw [eqL_take HX.out HY.out, HTK.out, HQ.out]; rfl)
          go_wp2
          go_quiet (fail)
          go_wp2
          go_roundw
          case rel => exact ⟨j + 1, q + nq, by go_num, by first | rfl | exact World.drewN_drewN _ _ _, by omega, HN.out⟩
          case measure => simp [intOf]; omega
        | false =>
          have HN : Hid (eqL eqTerm xs ys = false) := Lib.hid (eqL_no HX.out HY.out HQ.out)
          go_wp2
          go_quiet (fail)
          go_wp2
          go_ret
          refine ⟨ret_bool HN.out.symm, ?_⟩
          exact drawn (drawn (Below.refl _ w) _) _
      · obtain rfl : j = n := by omega
        have hE1 := HTK.out
        rw [List.take_of_length_le (by rw [HL.out]; omega), List.take_of_length_le (by rw [HM.out]; omega)] at hE1
        have HE1 := Lib.hid hE1
        clear hE1
        go_wp2
        go_ret
        exact ⟨ret_bool HE1.out.symm, drawn (Below.refl _ w) _⟩
  · have hne0 : ((n : Int) != (m : Int)) = true := by simp; omega
    have HN : Hid (eqL eqTerm xs ys = false) := Lib.hid (eqL_len (by rw [hn, hm]; exact hnm))
    clear hn hm
    go_enter Tryz.func349, Tryz.ntmps349
    go_wp2
    go_ret
    exact ⟨ret_bool HN.out.symm, Below.refl _ _⟩


theorem run_neq_sym (x y : LSym) (w : World) : (binOp .neq 273 (VSym x) (VSym y)).run Tryz.prog w = .ok (.bool (!eqSym x y)) w := by
  have hS : Tryz.prog.underlying 273 = some (.struct (Tryz.prog.fieldsOf 273)) := by kernel_rfl
  have hp : Tryz.prog.stoodInHeld 273 = false := by kernel_rfl
  simp only [VSym]
  rw [run_neq_struct, show (10000 : Nat) = 9999 + 1 from rfl, run_equalIn_agg w 9999 273 _ _ hS hp]
  simp only [Program.fieldsOf, Tryz.underlying273]
  go_simp
  unfold eqSym sEq
  by_cases h0 : x.name.toList = y.name.toList <;> by_cases h1 : x.lo = y.lo <;> by_cases h2 : x.hi = y.hi <;> simp [h0, h1, h2]


set_option maxHeartbeats 1000000 in
set_option maxRecDepth 100000 in
theorem equal_str (xs ys : List ByteArray) (v u : Value) (w : World) (hv : RStrs w.cell? v xs) (hu : RStrs w.cell? u ys) :
    Calls Tryz.prog 328 #[v, u] w fun e w' => e = .returned (.bool (eqL sEq xs ys)) ∧ Below w.heap.size w w' := by
  obtain ⟨A, c, rfl, -, -, hmx⟩ := Rws.shape hv
  obtain ⟨A2, c2, rfl, -, -, hmx2⟩ := Rws.shape hu
  have HV := Lib.hid hv
  have HU := Lib.hid hu
  obtain ⟨n, hn⟩ : ∃ n, xs.length = n := ⟨_, rfl⟩
  obtain ⟨m, hm⟩ : ∃ m, ys.length = m := ⟨_, rfl⟩
  rw [hn] at hmx HV ⊢
  rw [hm] at hmx2 HU ⊢
  have HL := Lib.hid hn
  have HM := Lib.hid hm
  have hn2 : (n : Int) ≤ 1000000 := by omega
  have hm2 : (m : Int) ≤ 1000000 := by omega
  clear hv hu
  by_cases hnm : n = m
  · subst hnm
    have hne0 : ((n : Int) != (n : Int)) = false := by simp
    clear hn hm
    go_enter Tryz.func328, Tryz.ntmps328
    go_wp2
    go_loopw [13] (fun a13 wr => ∃ (j q : Nat), a13 = .int .i64 j ∧ wr = w.drewN q ∧ j ≤ n ∧ eqL sEq (xs.take j) (ys.take j) = true) (fun a13 _ => n - (intOf a13).toNat)
    case atStart => exact ⟨0, 0, rfl, rfl, by omega, rfl⟩
    case round =>
      obtain ⟨j, q, rfl, rfl, hj, ht⟩ := hrel
      have HTK := Lib.hid ht
      clear ht
      by_cases hlt : j < n
      · have hlt2 : (j : Int) < (n : Int) := by omega
        have hjl : j < xs.length := by rw [HL.out]; exact hlt
        have hjm : j < ys.length := by rw [HM.out]; exact hlt
        obtain ⟨b, o, rfl, hc⟩ := Rws.at_ HV.out (by rw [HL.out]; omega)
        obtain ⟨b2, o2, rfl, hc2⟩ := Rws.at_ HU.out (by rw [HM.out]; omega)
        obtain ⟨x, hx⟩ : ∃ x, xs[j]? = some x := ⟨_, List.getElem?_eq_getElem hjl⟩
        obtain ⟨y, hy⟩ : ∃ y, ys[j]? = some y := ⟨_, List.getElem?_eq_getElem hjm⟩
        have hEp := hc j x hx
        have hEr := hc2 j y hy
        rw [Nat.mul_one] at hEp
        rw [Nat.mul_one] at hEr
        have HX := Lib.hid hx
        have HY := Lib.hid hy
        clear hc hc2 hx hy
        have p0 : _ = _ := hEp
        have r0 : _ = _ := hEr
        obtain ⟨bq, hbq⟩ : ∃ bq, sEq x y = bq := ⟨_, rfl⟩
        have hne : (!(x.toList == y.toList)) = !bq := by rw [← hbq]; rfl
        have HQ := Lib.hid hbq
        clear hbq
        cases bq with
        | true =>
          have HN : Hid (eqL sEq (xs.take (j + 1)) (ys.take (j + 1)) = true) := Lib.hid (by rw [eqL_take HX.out HY.out, HTK.out, HQ.out]; rfl)
          go_wp2
          go_quiet (fail)
          go_wp2
          go_roundw
          case rel => exact ⟨j + 1, q + nq, by go_num, by first | rfl | exact World.drewN_drewN _ _ _, by omega, HN.out⟩
          case measure => simp [intOf]; omega
        | false =>
          have HN : Hid (eqL sEq xs ys = false) := Lib.hid (eqL_no HX.out HY.out HQ.out)
          go_wp2
          go_quiet (fail)
          go_wp2
          go_ret
          refine ⟨ret_bool HN.out.symm, ?_⟩
          exact drawn (drawn (Below.refl _ w) _) _
      · obtain rfl : j = n := by omega
        have hE1 := HTK.out
        rw [List.take_of_length_le (by rw [HL.out]; omega), List.take_of_length_le (by rw [HM.out]; omega)] at hE1
        have HE1 := Lib.hid hE1
        clear hE1
        go_wp2
        go_ret
        exact ⟨ret_bool HE1.out.symm, drawn (Below.refl _ w) _⟩
  · have hne0 : ((n : Int) != (m : Int)) = true := by simp; omega
    have HN : Hid (eqL sEq xs ys = false) := Lib.hid (eqL_len (by rw [hn, hm]; exact hnm))
    clear hn hm
    go_enter Tryz.func328, Tryz.ntmps328
    go_wp2
    go_ret
    exact ⟨ret_bool HN.out.symm, Below.refl _ _⟩



set_option maxHeartbeats 1000000 in
set_option maxRecDepth 100000 in
theorem equal_int (xs ys : List Int) (v u : Value) (w : World) (hv : RInts w.cell? v xs) (hu : RInts w.cell? u ys) :
    Calls Tryz.prog 19 #[v, u] w fun e w' => e = .returned (.bool (eqL iEq xs ys)) ∧ Below w.heap.size w w' := by
  obtain ⟨A, c, rfl, -, -, hmx⟩ := Rws.shape hv
  obtain ⟨A2, c2, rfl, -, -, hmx2⟩ := Rws.shape hu
  have HV := Lib.hid hv
  have HU := Lib.hid hu
  obtain ⟨n, hn⟩ : ∃ n, xs.length = n := ⟨_, rfl⟩
  obtain ⟨m, hm⟩ : ∃ m, ys.length = m := ⟨_, rfl⟩
  rw [hn] at hmx HV ⊢
  rw [hm] at hmx2 HU ⊢
  have HL := Lib.hid hn
  have HM := Lib.hid hm
  have hn2 : (n : Int) ≤ 1000000 := by omega
  have hm2 : (m : Int) ≤ 1000000 := by omega
  clear hv hu
  by_cases hnm : n = m
  · subst hnm
    have hne0 : ((n : Int) != (n : Int)) = false := by simp
    clear hn hm
    go_enter Tryz.func19, Tryz.ntmps19
    go_wp2
    go_loopw [13] (fun a13 wr => ∃ (j q : Nat), a13 = .int .i64 j ∧ wr = w.drewN q ∧ j ≤ n ∧ eqL iEq (xs.take j) (ys.take j) = true) (fun a13 _ => n - (intOf a13).toNat)
    case atStart => exact ⟨0, 0, rfl, rfl, by omega, rfl⟩
    case round =>
      obtain ⟨j, q, rfl, rfl, hj, ht⟩ := hrel
      have HTK := Lib.hid ht
      clear ht
      by_cases hlt : j < n
      · have hlt2 : (j : Int) < (n : Int) := by omega
        have hjl : j < xs.length := by rw [HL.out]; exact hlt
        have hjm : j < ys.length := by rw [HM.out]; exact hlt
        obtain ⟨b, o, rfl, hc⟩ := Rws.at_ HV.out (by rw [HL.out]; omega)
        obtain ⟨b2, o2, rfl, hc2⟩ := Rws.at_ HU.out (by rw [HM.out]; omega)
        obtain ⟨x, hx⟩ : ∃ x, xs[j]? = some x := ⟨_, List.getElem?_eq_getElem hjl⟩
        obtain ⟨y, hy⟩ : ∃ y, ys[j]? = some y := ⟨_, List.getElem?_eq_getElem hjm⟩
        have hEp := hc j x hx
        have hEr := hc2 j y hy
        rw [Nat.mul_one] at hEp
        rw [Nat.mul_one] at hEr
        have HX := Lib.hid hx
        have HY := Lib.hid hy
        clear hc hc2 hx hy
        have p0 : _ = _ := hEp
        have r0 : _ = _ := hEr
        obtain ⟨bq, hbq⟩ : ∃ bq, iEq x y = bq := ⟨_, rfl⟩
        have hne : (x != y) = !bq := by rw [← hbq]; rfl
        have HQ := Lib.hid hbq
        clear hbq
        cases bq with
        | true =>
          have HN : Hid (eqL iEq (xs.take (j + 1)) (ys.take (j + 1)) = true) := Lib.hid (by rw [eqL_take HX.out HY.out, HTK.out, HQ.out]; rfl)
          go_wp2
          go_quiet (fail)
          go_wp2
          go_roundw
          case rel => exact ⟨j + 1, q + nq, by go_num, by first | rfl | exact World.drewN_drewN _ _ _, by omega, HN.out⟩
          case measure => simp [intOf]; omega
        | false =>
          have HN : Hid (eqL iEq xs ys = false) := Lib.hid (eqL_no HX.out HY.out HQ.out)
          go_wp2
          go_quiet (fail)
          go_wp2
          go_ret
          refine ⟨ret_bool HN.out.symm, ?_⟩
          exact drawn (drawn (Below.refl _ w) _) _
      · obtain rfl : j = n := by omega
        have hE1 := HTK.out
        rw [List.take_of_length_le (by rw [HL.out]; omega), List.take_of_length_le (by rw [HM.out]; omega)] at hE1
        have HE1 := Lib.hid hE1
        clear hE1
        go_wp2
        go_ret
        exact ⟨ret_bool HE1.out.symm, drawn (Below.refl _ w) _⟩
  · have hne0 : ((n : Int) != (m : Int)) = true := by simp; omega
    have HN : Hid (eqL iEq xs ys = false) := Lib.hid (eqL_len (by rw [hn, hm]; exact hnm))
    clear hn hm
    go_enter Tryz.func19, Tryz.ntmps19
    go_wp2
    go_ret
    exact ⟨ret_bool HN.out.symm, Below.refl _ _⟩

end Go.Proofs.YtneabpgphjcbkaaGreatDoor

namespace Go.Proofs.YtneabpgphjcbkaaGreatDoor
open Go.RowKit


set_option maxHeartbeats 2000000 in
set_option maxRecDepth 100000 in
theorem equalf_ax (F : Nat) (eq : LAxis → LAxis → Bool) (eF : ∀ args w, (callFunc F args).run Tryz.prog w = .ok (.enter F args) w) (xs ys : List (LAxis)) (v u : Value) (w : World) (hv : RAxes w.cell? v xs) (hu : RAxes w.cell? u ys)
    (hF : ∀ x ∈ xs, ∀ y ∈ ys, ∀ vx vy W, Below w.heap.size w W → VAxis W.cell? vx x → VAxis W.cell? vy y → Calls Tryz.prog F #[vx, vy] W fun e w' => e = .returned (.bool (eq x y)) ∧ Below W.heap.size W w') :
    Calls Tryz.prog 345 #[v, u, .func (.func F) #[] #[]] w fun e w' => e = .returned (.bool (eqL eq xs ys)) ∧ Below w.heap.size w w' := by
  obtain ⟨A, c, rfl, -, -, hmx⟩ := Rws.shape hv
  obtain ⟨A2, c2, rfl, -, -, hmx2⟩ := Rws.shape hu
  have HV := Lib.hid hv
  have HU := Lib.hid hu
  obtain ⟨n, hn⟩ : ∃ n, xs.length = n := ⟨_, rfl⟩
  obtain ⟨m, hm⟩ : ∃ m, ys.length = m := ⟨_, rfl⟩
  rw [hn] at hmx HV ⊢
  rw [hm] at hmx2 HU ⊢
  have HL := Lib.hid hn
  have HM := Lib.hid hm
  have HF := Lib.hid hF
  have hn2 : (n : Int) ≤ 1000000 := by omega
  have hm2 : (m : Int) ≤ 1000000 := by omega
  clear hv hu hF
  by_cases hnm : n = m
  · subst hnm
    have hne0 : ((n : Int) != (n : Int)) = false := by simp
    clear hn hm
    go_enter Tryz.func345, Tryz.ntmps345
    go_wp2
    go_loopw [17] (fun a17 wr => ∃ j : Nat, a17 = .int .i64 j ∧ Below w.heap.size w wr ∧ j ≤ n ∧ eqL eq (xs.take j) (ys.take j) = true) (fun a17 _ => n - (intOf a17).toNat)
    case atStart => exact ⟨0, rfl, Below.refl _ _, by omega, rfl⟩
    case round =>
      obtain ⟨j, rfl, hB, hj, ht⟩ := hrel
      have HTK := Lib.hid ht
      have HB := Lib.hid hB
      clear ht hB
      by_cases hlt : j < n
      · have hlt2 : (j : Int) < (n : Int) := by omega
        have hjl : j < xs.length := by rw [HL.out]; exact hlt
        have hjm : j < ys.length := by rw [HM.out]; exact hlt
        obtain ⟨b, o, rfl, hc⟩ := Rws.at_ (Rws.mono HV.out fun _ _ _ h => (RAxis.keep h (Keeps.of_below HB.out))) (by rw [HL.out]; omega)
        obtain ⟨b2, o2, rfl, hc2⟩ := Rws.at_ (Rws.mono HU.out fun _ _ _ h => (RAxis.keep h (Keeps.of_below HB.out))) (by rw [HM.out]; omega)
        obtain ⟨x, hx⟩ : ∃ x, xs[j]? = some x := ⟨_, List.getElem?_eq_getElem hjl⟩
        obtain ⟨y, hy⟩ : ∃ y, ys[j]? = some y := ⟨_, List.getElem?_eq_getElem hjm⟩
        have hEp := hc j x hx
        have hEr := hc2 j y hy
        have hxm : x ∈ xs := List.mem_of_getElem? hx
        have hym : y ∈ ys := List.mem_of_getElem? hy
        have HX := Lib.hid hx
        have HY := Lib.hid hy
        clear hc hc2 hx hy
        obtain ⟨pe0, pe1, ptv, pe2, pht⟩ := hEp
        obtain ⟨re0, re1, rtv, re2, rht⟩ := hEr
        obtain ⟨pA0, pn0, pc0, rfl⟩ := Rws.sl pht
        obtain ⟨rA0, rn0, rc0, rfl⟩ := Rws.sl rht
        have ra0 := fun ob => Keeps.alloc wr ob _ _ re0
        have ra1 := fun ob => Keeps.alloc wr ob _ _ re1
        have ra2 := fun ob => Keeps.alloc wr ob _ _ re2
        obtain ⟨bq, hbq⟩ : ∃ bq, eq x y = bq := ⟨_, rfl⟩
        have hf := HF.out _ hxm _ hym
        rw [hbq] at hf
        have HFX := Lib.hid hf
        have HQ := Lib.hid hbq
        clear hbq hf hxm hym
        go_wp2_with fail
        refine (HFX.out _ _ _ (laid (laid HB.out _) _) ⟨_, rfl, (pht.keep ((Keeps.alloc _ _).trans (Keeps.alloc _ _)))⟩ ⟨_, rfl, (rht.keep ((Keeps.alloc _ _).trans (Keeps.alloc _ _)))⟩).mono ?_
        rintro e w1 ⟨rfl, hB1⟩
        have hB2 := behind (laid (laid HB.out _) _) hB1
        have HB1 := Lib.hid hB2
        clear hB1 hB2
        cases bq with
        | true =>
          have HN : Hid (eqL eq (xs.take (j + 1)) (ys.take (j + 1)) = true) := Lib.hid (by rw [eqL_take HX.out HY.out, HTK.out, HQ.out]; rfl)
          go_wp2
          go_roundw
          case rel => exact ⟨j + 1, by go_num, HB1.out, by omega, HN.out⟩
          case measure => simp [intOf]; omega
        | false =>
          have HN : Hid (eqL eq xs ys = false) := Lib.hid (eqL_no HX.out HY.out HQ.out)
          go_wp2
          go_ret
          exact ⟨ret_bool HN.out.symm, HB1.out⟩
      · obtain rfl : j = n := by omega
        have hE1 := HTK.out
        rw [List.take_of_length_le (by rw [HL.out]; omega), List.take_of_length_le (by rw [HM.out]; omega)] at hE1
        have HE1 := Lib.hid hE1
        clear hE1
        go_wp2
        go_ret
        exact ⟨ret_bool HE1.out.symm, HB.out⟩
  · have hne0 : ((n : Int) != (m : Int)) = true := by simp; omega
    have HN : Hid (eqL eq xs ys = false) := Lib.hid (eqL_len (by rw [hn, hm]; exact hnm))
    clear hn hm
    go_enter Tryz.func345, Tryz.ntmps345
    go_wp2
    go_ret
    exact ⟨ret_bool HN.out.symm, Below.refl _ _⟩


end Go.Proofs.YtneabpgphjcbkaaGreatDoor
