/-
  Equal and SameModel; models with the same bytes are equal.
-/
import Derived.Test.YtneabpgphjcbkaaGreatDoorMby
import Derived.Test.YtneabpgphjcbkaaGreatDoorEqf
import Derived.Deep.RegionHeld3
import Derived.Deep.QuietTactic
import Derived.RegionTactic
namespace Go.Proofs.YtneabpgphjcbkaaGreatDoor
open Go.RowKit

def RBytes (C : Cl) (v : Value) (xs : List Int) : Prop := Rws 1 RByte C v xs
theorem tok2 : True := trivial
set_option maxHeartbeats 1000000 in
set_option maxRecDepth 100000 in
theorem equal_byte (xs ys : List Int) (v u : Value) (w : World) (hv : RBytes w.cell? v xs) (hu : RBytes w.cell? u ys) :
    Calls Tryz.prog 46 #[v, u] w fun e w' => e = .returned (.bool (eqL iEq xs ys)) ∧ Below w.heap.size w w' := by
  obtain ⟨A, c, rfl, -, -, hmx⟩ := Rws.shape hv
  obtain ⟨A2, c2, rfl, -, -, hmx2⟩ := Rws.shape hu
  have HV := Lib.hid hv
  have HU := Lib.hid hu
  obtain ⟨n, hn⟩ : ∃ n, xs.length = n := ⟨_, rfl⟩
  obtain ⟨m, hm⟩ : ∃ m, ys.length = m := ⟨_, rfl⟩
  rw [hn] at hmx HV ⊢
  rw [hm] at hmx2 HU ⊢
  have HL := Lib.hid hn
  have HM := Lib.hid hm
  have hn2 : (n : Int) ≤ 1000000 := by omega
  have hm2 : (m : Int) ≤ 1000000 := by omega
  clear hv hu
  by_cases hnm : n = m
  · subst hnm
    have hne0 : ((n : Int) != (n : Int)) = false := by simp
    clear hn hm
    go_enter Tryz.func46, Tryz.ntmps46
    go_wp2
    go_loopw [13] (fun a13 wr => ∃ (j q : Nat), a13 = .int .i64 j ∧ wr = w.drewN q ∧ j ≤ n ∧ eqL iEq (xs.take j) (ys.take j) = true) (fun a13 _ => n - (intOf a13).toNat)
    case atStart => exact ⟨0, 0, rfl, rfl, by omega, rfl⟩
    case round =>
      obtain ⟨j, q, rfl, rfl, hj, ht⟩ := hrel
      have HTK := Lib.hid ht
      clear ht
      by_cases hlt : j < n
      · have hlt2 : (j : Int) < (n : Int) := by omega
        have hjl : j < xs.length := by rw [HL.out]; exact hlt
        have hjm : j < ys.length := by rw [HM.out]; exact hlt
        obtain ⟨b, o, rfl, hc⟩ := Rws.at_ HV.out (by rw [HL.out]; omega)
        obtain ⟨b2, o2, rfl, hc2⟩ := Rws.at_ HU.out (by rw [HM.out]; omega)
        obtain ⟨x, hx⟩ : ∃ x, xs[j]? = some x := ⟨_, List.getElem?_eq_getElem hjl⟩
        obtain ⟨y, hy⟩ : ∃ y, ys[j]? = some y := ⟨_, List.getElem?_eq_getElem hjm⟩
        have hEp := hc j x hx
        have hEr := hc2 j y hy
        rw [Nat.mul_one] at hEp
        rw [Nat.mul_one] at hEr
        have HX := Lib.hid hx
        have HY := Lib.hid hy
        clear hc hc2 hx hy
        have p0 : _ = _ := hEp
        have r0 : _ = _ := hEr
        obtain ⟨bq, hbq⟩ : ∃ bq, iEq x y = bq := ⟨_, rfl⟩
        have hne : (x != y) = !bq := by rw [← hbq]; rfl
        have HQ := Lib.hid hbq
        clear hbq
        cases bq with
        | true =>
          have HN : Hid (eqL iEq (xs.take (j + 1)) (ys.take (j + 1)) = true) := Lib.hid (by rw [eqL_take HX.out HY.out, HTK.out, HQ.out]; rfl)
          go_wp2
          go_quiet (fail)
          go_wp2
          go_roundw
          case rel => exact ⟨j + 1, q + nq, by go_num, by first | rfl | exact World.drewN_drewN _ _ _, by omega, HN.out⟩
          case measure => simp [intOf]; omega
        | false =>
          have HN : Hid (eqL iEq xs ys = false) := Lib.hid (eqL_no HX.out HY.out HQ.out)
          go_wp2
          go_quiet (fail)
          go_wp2
          go_ret
          refine ⟨ret_bool HN.out.symm, ?_⟩
          exact drawn (drawn (Below.refl _ w) _) _
      · obtain rfl : j = n := by omega
        have hE1 := HTK.out
        rw [List.take_of_length_le (by rw [HL.out]; omega), List.take_of_length_le (by rw [HM.out]; omega)] at hE1
        have HE1 := Lib.hid hE1
        clear hE1
        go_wp2
        go_ret
        exact ⟨ret_bool HE1.out.symm, drawn (Below.refl _ w) _⟩
  · have hne0 : ((n : Int) != (m : Int)) = true := by simp; omega
    have HN : Hid (eqL iEq xs ys = false) := Lib.hid (eqL_len (by rw [hn, hm]; exact hnm))
    clear hn hm
    go_enter Tryz.func46, Tryz.ntmps46
    go_wp2
    go_ret
    exact ⟨ret_bool HN.out.symm, Below.refl _ _⟩


set_option maxHeartbeats 4000000 in
set_option maxRecDepth 100000 in
theorem same_any (ma mb : LModel) (a b : Value) (w : World) (ha : VModel w.cell? a ma) (hb : VModel w.cell? b mb) (hla : ∀ x ∈ listsM ma, x.length ≤ 2000) (hlb : ∀ x ∈ listsM mb, x.length ≤ 2000) :
    Calls Tryz.prog 15 #[a, b] w fun e w' => e = .returned (.bool (eqL iEq (mbytes ma) (mbytes mb))) ∧ Below w.heap.size w w' := by
  obtain ⟨ap, bp, cp, dp, ep, fp, gp, rfl, hrp⟩ := ha
  obtain ⟨⟨Ap1, np1, cp1, rfl⟩, ⟨Ap2, np2, cp2, rfl⟩, ⟨Ap3, np3, cp3, rfl⟩, ⟨Ap4, np4, cp4, rfl⟩, ⟨Ap5, np5, cp5, rfl⟩, ⟨Ap6, np6, cp6, rfl⟩, ⟨Ap7, np7, cp7, rfl⟩⟩ := (⟨hrp.1.sl, hrp.2.1.sl, hrp.2.2.1.sl, hrp.2.2.2.1.sl, hrp.2.2.2.2.1.sl, hrp.2.2.2.2.2.1.sl, hrp.2.2.2.2.2.2.sl⟩ : _ ∧ _ ∧ _ ∧ _ ∧ _ ∧ _ ∧ _)
  have hMp : VModel w.cell? (.agg #[.int .i64 ma.kind, .int .i64 ma.vocab, .int .i64 ma.width, .int .i64 ma.top, .slice Ap1 np1 cp1, .slice Ap2 np2 cp2, .slice Ap3 np3 cp3, .slice Ap4 np4 cp4, .slice Ap5 np5 cp5, .slice Ap6 np6 cp6, .slice Ap7 np7 cp7]) ma := ⟨_, _, _, _, _, _, _, rfl, hrp⟩
  obtain ⟨Kp, hKp⟩ : ∃ q, ma.kind = q := ⟨_, rfl⟩
  obtain ⟨Vp, hVp⟩ : ∃ q, ma.vocab = q := ⟨_, rfl⟩
  obtain ⟨Dp, hDp⟩ : ∃ q, ma.width = q := ⟨_, rfl⟩
  obtain ⟨Tp, hTp⟩ : ∃ q, ma.top = q := ⟨_, rfl⟩
  obtain ⟨aq, bq, cq, dq, eq, fq, gq, rfl, hrq⟩ := hb
  obtain ⟨⟨Aq1, nq1, cq1, rfl⟩, ⟨Aq2, nq2, cq2, rfl⟩, ⟨Aq3, nq3, cq3, rfl⟩, ⟨Aq4, nq4, cq4, rfl⟩, ⟨Aq5, nq5, cq5, rfl⟩, ⟨Aq6, nq6, cq6, rfl⟩, ⟨Aq7, nq7, cq7, rfl⟩⟩ := (⟨hrq.1.sl, hrq.2.1.sl, hrq.2.2.1.sl, hrq.2.2.2.1.sl, hrq.2.2.2.2.1.sl, hrq.2.2.2.2.2.1.sl, hrq.2.2.2.2.2.2.sl⟩ : _ ∧ _ ∧ _ ∧ _ ∧ _ ∧ _ ∧ _)
  have hMq : VModel w.cell? (.agg #[.int .i64 mb.kind, .int .i64 mb.vocab, .int .i64 mb.width, .int .i64 mb.top, .slice Aq1 nq1 cq1, .slice Aq2 nq2 cq2, .slice Aq3 nq3 cq3, .slice Aq4 nq4 cq4, .slice Aq5 nq5 cq5, .slice Aq6 nq6 cq6, .slice Aq7 nq7 cq7]) mb := ⟨_, _, _, _, _, _, _, rfl, hrq⟩
  obtain ⟨Kq, hKq⟩ : ∃ q, mb.kind = q := ⟨_, rfl⟩
  obtain ⟨Vq, hVq⟩ : ∃ q, mb.vocab = q := ⟨_, rfl⟩
  obtain ⟨Dq, hDq⟩ : ∃ q, mb.width = q := ⟨_, rfl⟩
  obtain ⟨Tq, hTq⟩ : ∃ q, mb.top = q := ⟨_, rfl⟩
  rw [hKp, hVp, hDp, hTp] at hMp
  rw [hKq, hVq, hDq, hTq] at hMq
  rw [hKp, hVp, hDp, hTp, hKq, hVq, hDq, hTq]
  clear hKp hVp hDp hTp hKq hVq hDq hTq hrp hrq
  obtain ⟨W1, hW1⟩ : ∃ W1, W1 = w.alloc (.cells #[.int .i64 Kp, .int .i64 Vp, .int .i64 Dp, .int .i64 Tp, .slice Ap1 np1 cp1, .slice Ap2 np2 cp2, .slice Ap3 np3 cp3, .slice Ap4 np4 cp4, .slice Ap5 np5 cp5, .slice Ap6 np6 cp6, .slice Ap7 np7 cp7] 27) := ⟨_, rfl⟩
  have z1 : W1.heap.size = w.heap.size + 1 := by rw [hW1]; exact World.size_alloc _ _
  have hb0 : Bk W1 w.heap.size 27 #[.int .i64 Kp, .int .i64 Vp, .int .i64 Dp, .int .i64 Tp, .slice Ap1 np1 cp1, .slice Ap2 np2 cp2, .slice Ap3 np3 cp3, .slice Ap4 np4 cp4, .slice Ap5 np5 cp5, .slice Ap6 np6 cp6, .slice Ap7 np7 cp7] := by rw [hW1]; exact Bk.new _ _ _
  obtain ⟨W2, hW2⟩ : ∃ W2, W2 = W1.alloc (.cells #[.int .i64 Kq, .int .i64 Vq, .int .i64 Dq, .int .i64 Tq, .slice Aq1 nq1 cq1, .slice Aq2 nq2 cq2, .slice Aq3 nq3 cq3, .slice Aq4 nq4 cq4, .slice Aq5 nq5 cq5, .slice Aq6 nq6 cq6, .slice Aq7 nq7 cq7] 27) := ⟨_, rfl⟩
  have hb1 : Bk W2 (w.heap.size + 1) 27 #[.int .i64 Kq, .int .i64 Vq, .int .i64 Dq, .int .i64 Tq, .slice Aq1 nq1 cq1, .slice Aq2 nq2 cq2, .slice Aq3 nq3 cq3, .slice Aq4 nq4 cq4, .slice Aq5 nq5 cq5, .slice Aq6 nq6 cq6, .slice Aq7 nq7 cq7] := by rw [hW2, ← z1]; exact Bk.new _ _ _
  have hb2 : Bk W2 w.heap.size 27 #[.int .i64 Kp, .int .i64 Vp, .int .i64 Dp, .int .i64 Tp, .slice Ap1 np1 cp1, .slice Ap2 np2 cp2, .slice Ap3 np3 cp3, .slice Ap4 np4 cp4, .slice Ap5 np5 cp5, .slice Ap6 np6 cp6, .slice Ap7 np7 cp7] := by rw [hW2]; exact hb0.alloc _
  have HB : Hid (Below w.heap.size w W2) := Lib.hid (by rw [hW2, hW1]; exact laid (laid (Below.refl _ _) _) _)
  have HS : Hid (∀ w', Below W2.heap.size W2 w' → (w'.cell? ⟨w.heap.size, 0, none⟩ = some (.int .i64 Kp) ∧ w'.cell? ⟨w.heap.size, 1, none⟩ = some (.int .i64 Vp) ∧ w'.cell? ⟨w.heap.size, 2, none⟩ = some (.int .i64 Dp) ∧ w'.cell? ⟨w.heap.size, 3, none⟩ = some (.int .i64 Tp) ∧ w'.cell? ⟨w.heap.size, 4, none⟩ = some (.slice Ap1 np1 cp1) ∧ w'.cell? ⟨w.heap.size, 5, none⟩ = some (.slice Ap2 np2 cp2) ∧ w'.cell? ⟨w.heap.size, 6, none⟩ = some (.slice Ap3 np3 cp3) ∧ w'.cell? ⟨w.heap.size, 7, none⟩ = some (.slice Ap4 np4 cp4) ∧ w'.cell? ⟨w.heap.size, 8, none⟩ = some (.slice Ap5 np5 cp5) ∧ w'.cell? ⟨w.heap.size, 9, none⟩ = some (.slice Ap6 np6 cp6) ∧ w'.cell? ⟨w.heap.size, 10, none⟩ = some (.slice Ap7 np7 cp7)) ∧ (w'.cell? ⟨(w.heap.size + 1), 0, none⟩ = some (.int .i64 Kq) ∧ w'.cell? ⟨(w.heap.size + 1), 1, none⟩ = some (.int .i64 Vq) ∧ w'.cell? ⟨(w.heap.size + 1), 2, none⟩ = some (.int .i64 Dq) ∧ w'.cell? ⟨(w.heap.size + 1), 3, none⟩ = some (.int .i64 Tq) ∧ w'.cell? ⟨(w.heap.size + 1), 4, none⟩ = some (.slice Aq1 nq1 cq1) ∧ w'.cell? ⟨(w.heap.size + 1), 5, none⟩ = some (.slice Aq2 nq2 cq2) ∧ w'.cell? ⟨(w.heap.size + 1), 6, none⟩ = some (.slice Aq3 nq3 cq3) ∧ w'.cell? ⟨(w.heap.size + 1), 7, none⟩ = some (.slice Aq4 nq4 cq4) ∧ w'.cell? ⟨(w.heap.size + 1), 8, none⟩ = some (.slice Aq5 nq5 cq5) ∧ w'.cell? ⟨(w.heap.size + 1), 9, none⟩ = some (.slice Aq6 nq6 cq6) ∧ w'.cell? ⟨(w.heap.size + 1), 10, none⟩ = some (.slice Aq7 nq7 cq7))) := Lib.hid fun w' hb => ⟨by have h := (hb2.low hb).cell; exact ⟨h 0, h 1, h 2, h 3, h 4, h 5, h 6, h 7, h 8, h 9, h 10⟩, by have h := (hb1.low hb).cell; exact ⟨h 0, h 1, h 2, h 3, h 4, h 5, h 6, h 7, h 8, h 9, h 10⟩⟩
  have HA : Hid (∀ W, Below W2.heap.size W2 W → Calls Tryz.prog 47 #[.agg #[.int .i64 Kp, .int .i64 Vp, .int .i64 Dp, .int .i64 Tp, .slice Ap1 np1 cp1, .slice Ap2 np2 cp2, .slice Ap3 np3 cp3, .slice Ap4 np4 cp4, .slice Ap5 np5 cp5, .slice Ap6 np6 cp6, .slice Ap7 np7 cp7]] W fun e w' => ∃ v', e = .returned v' ∧ Below W.heap.size W w' ∧ Ow 1 EByte 5 w' (fun _ => none) W.heap.size v' (mbytes ma)) := Lib.hid fun W hb => mbytes_any ma _ W (hMp.keep (Keeps.of_below (behind HB.out hb))) hla
  have HQ : Hid (∀ W, Below W2.heap.size W2 W → Calls Tryz.prog 47 #[.agg #[.int .i64 Kq, .int .i64 Vq, .int .i64 Dq, .int .i64 Tq, .slice Aq1 nq1 cq1, .slice Aq2 nq2 cq2, .slice Aq3 nq3 cq3, .slice Aq4 nq4 cq4, .slice Aq5 nq5 cq5, .slice Aq6 nq6 cq6, .slice Aq7 nq7 cq7]] W fun e w' => ∃ v', e = .returned v' ∧ Below W.heap.size W w' ∧ Ow 1 EByte 5 w' (fun _ => none) W.heap.size v' (mbytes mb)) := Lib.hid fun W hb => mbytes_any mb _ W (hMq.keep (Keeps.of_below (behind HB.out hb))) hlb
  have HE : Hid (∀ W x y, Rws 1 RByte W.cell? x (mbytes ma) → Rws 1 RByte W.cell? y (mbytes mb) → Calls Tryz.prog 46 #[x, y] W fun e w' => e = .returned (.bool (eqL iEq (mbytes ma) (mbytes mb))) ∧ Below W.heap.size W w') := Lib.hid fun W x y hx hy => equal_byte _ _ x y W hx hy
  have HW1 := Lib.hid hW1
  have HW2 := Lib.hid hW2
  obtain ⟨⟨p0, p1, p2, p3, p4, p5, p6, p7, p8, p9, p10⟩, ⟨q0, q1, q2, q3, q4, q5, q6, q7, q8, q9, q10⟩⟩ := HS.out W2 (Below.refl _ _)
  clear hW1 hW2 hb0 hb1 hb2 z1 hMp hMq
  go_enter Tryz.func15, Tryz.ntmps15
  go_wp2_with fail
  rw [← HW1.out, ← HW2.out]
  have _t := tok2
  go_region_held3 (fun w' => (w'.cell? ⟨w.heap.size, 0, none⟩ = some (.int .i64 Kp) ∧ w'.cell? ⟨w.heap.size, 1, none⟩ = some (.int .i64 Vp) ∧ w'.cell? ⟨w.heap.size, 2, none⟩ = some (.int .i64 Dp) ∧ w'.cell? ⟨w.heap.size, 3, none⟩ = some (.int .i64 Tp) ∧ w'.cell? ⟨w.heap.size, 4, none⟩ = some (.slice Ap1 np1 cp1) ∧ w'.cell? ⟨w.heap.size, 5, none⟩ = some (.slice Ap2 np2 cp2) ∧ w'.cell? ⟨w.heap.size, 6, none⟩ = some (.slice Ap3 np3 cp3) ∧ w'.cell? ⟨w.heap.size, 7, none⟩ = some (.slice Ap4 np4 cp4) ∧ w'.cell? ⟨w.heap.size, 8, none⟩ = some (.slice Ap5 np5 cp5) ∧ w'.cell? ⟨w.heap.size, 9, none⟩ = some (.slice Ap6 np6 cp6) ∧ w'.cell? ⟨w.heap.size, 10, none⟩ = some (.slice Ap7 np7 cp7)) ∧ (w'.cell? ⟨(w.heap.size + 1), 0, none⟩ = some (.int .i64 Kq) ∧ w'.cell? ⟨(w.heap.size + 1), 1, none⟩ = some (.int .i64 Vq) ∧ w'.cell? ⟨(w.heap.size + 1), 2, none⟩ = some (.int .i64 Dq) ∧ w'.cell? ⟨(w.heap.size + 1), 3, none⟩ = some (.int .i64 Tq) ∧ w'.cell? ⟨(w.heap.size + 1), 4, none⟩ = some (.slice Aq1 nq1 cq1) ∧ w'.cell? ⟨(w.heap.size + 1), 5, none⟩ = some (.slice Aq2 nq2 cq2) ∧ w'.cell? ⟨(w.heap.size + 1), 6, none⟩ = some (.slice Aq3 nq3 cq3) ∧ w'.cell? ⟨(w.heap.size + 1), 7, none⟩ = some (.slice Aq4 nq4 cq4) ∧ w'.cell? ⟨(w.heap.size + 1), 8, none⟩ = some (.slice Aq5 nq5 cq5) ∧ w'.cell? ⟨(w.heap.size + 1), 9, none⟩ = some (.slice Aq6 nq6 cq6) ∧ w'.cell? ⟨(w.heap.size + 1), 10, none⟩ = some (.slice Aq7 nq7 cq7)))
    (first | exact ⟨⟨p0, p1, p2, p3, p4, p5, p6, p7, p8, p9, p10⟩, ⟨q0, q1, q2, q3, q4, q5, q6, q7, q8, q9, q10⟩⟩ | exact HS.out _ HC1.out | exact HS.out _ HC2.out | exact HS.out _ HC3.out | go_keep)
    (first
      | (clear _t; go_at_call 47; refine (HA.out _ (drawn (Below.refl _ _) _)).mono ?_; rintro e w1 ⟨v1, rfl, hB1, hO1⟩; have HC1 : Hid (Below W2.heap.size W2 w1) := Lib.hid (behind (drawn (Below.refl _ _) _) hB1); have HO1 := Lib.hid hO1; clear hB1 hO1)
      | (go_at_call 47; refine (HQ.out _ HC1.out).mono ?_; rintro e w2 ⟨v2, rfl, hB2, hO2⟩; have HR1 := Lib.hid (Ow.rws cellsByte (Ow.below cellsByte HO1.out hB2 (Keeps.refl _)) (fun _ _ h => by cases h)); have HR2 := Lib.hid (Ow.rws cellsByte hO2 (fun _ _ h => by cases h)); have HC2 : Hid (Below W2.heap.size W2 w2) := Lib.hid (behind HC1.out hB2); clear hB2 hO2)
      | (go_at_call 46; refine (HE.out _ _ _ HR1.out HR2.out).mono ?_; rintro e w3 ⟨rfl, hB3⟩; have HC3 : Hid (Below W2.heap.size W2 w3) := Lib.hid (behind HC2.out hB3); clear hB3))
  go_wp2
  go_ret
  exact ⟨rfl, behind HB.out HC3.out⟩
end Go.Proofs.YtneabpgphjcbkaaGreatDoor

namespace Go.Proofs.YtneabpgphjcbkaaGreatDoor
open Go.RowKit

theorem or128_fin : ∀ v : Fin 256, bits BinOp.or IntKind.u8 ((v.val : Nat) : Int) 128 = ((v.val % 128 + 128 : Nat) : Int) := by decide +kernel
theorem moreB_eq {u : Int} (h : 0 ≤ u) : moreB u = u % 128 + 128 := by
  obtain ⟨n, rfl⟩ : ∃ n : Nat, u = n := ⟨u.toNat, by omega⟩
  have e : ((n : Int) % 256) = ((n % 256 : Nat) : Int) := by omega
  unfold moreB
  rw [e]
  have h2 := or128_fin ⟨n % 256, Nat.mod_lt _ (by decide)⟩
  rw [show ((⟨n % 256, Nat.mod_lt _ (by decide)⟩ : Fin 256).val) = n % 256 from rfl] at h2
  rw [h2]
  omega
theorem packU_inj : ∀ (f : Nat) (u u' : Int) (r r' : List Int), 0 ≤ u → u < 128 ^ (f + 1) → 0 ≤ u' → u' < 128 ^ (f + 1) → packU f u ++ r = packU f u' ++ r' → u = u' ∧ r = r'
  | 0, u, u', r, r', _, _, _, _, h => by
    simp only [packU, lowB, List.cons_append, List.nil_append, List.cons.injEq] at h
    exact h
  | f + 1, u, u', r, r', h0, h1, h2, h3, h => by
    have e : ∀ x : Int, x < 128 ^ (f + 1 + 1) → x / 128 < 128 ^ (f + 1) := fun x hx => by
      rw [Int.ediv_lt_iff_lt_mul (by decide)]
      rw [Int.pow_succ] at hx
      exact hx
    unfold packU at h
    by_cases c : 128 ≤ u
    · by_cases c' : 128 ≤ u'
      · rw [if_pos c, if_pos c', moreB_eq h0, moreB_eq h2] at h
        simp only [List.cons_append, List.cons.injEq] at h
        obtain ⟨q1, q2⟩ := h
        obtain ⟨q3, q4⟩ := packU_inj f _ _ r r' (by omega) (e u h1) (by omega) (e u' h3) q2
        exact ⟨by omega, q4⟩
      · rw [if_pos c, if_neg c', moreB_eq h0] at h
        simp only [List.cons_append, List.nil_append, List.cons.injEq, lowB] at h
        omega
    · by_cases c' : 128 ≤ u'
      · rw [if_neg c, if_pos c', moreB_eq h2] at h
        simp only [List.cons_append, List.nil_append, List.cons.injEq, lowB] at h
        omega
      · rw [if_neg c, if_neg c'] at h
        simp only [lowB, List.cons_append, List.nil_append, List.cons.injEq] at h
        exact h
/-- a number that the packer tells from others -/
def SmallN (n : Int) : Prop := -1000000000000 ≤ n ∧ n ≤ 1000000000000
theorem unB_eq {n : Int} (h : SmallN n) : unB n = if n < 0 then -2 * n - 1 else 2 * n := by
  obtain ⟨h1, h2⟩ := h
  have e1 : wrap64 (-2 * n) = -2 * n := by unfold wrap64; omega
  have e2 : wrap64 (-2 * n - 1) = -2 * n - 1 := by unfold wrap64; omega
  have e3 : wrap64 (2 * n) = 2 * n := by unfold wrap64; omega
  unfold unB
  rw [e1, e2, e3]
  split <;>
  · simp [IntKind.wrap, IntKind.signed, IntKind.bits]
    omega
theorem packN_inj {n n' : Int} {r r' : List Int} (h : SmallN n) (h' : SmallN n') (e : packN n ++ r = packN n' ++ r') : n = n' ∧ r = r' := by
  have b : (2000000000001 : Int) < 128 ^ (10 + 1) := by decide
  have u1 := unB_eq h
  have u2 := unB_eq h'
  obtain ⟨h1, h2⟩ := h
  obtain ⟨h3, h4⟩ := h'
  have k1 : 0 ≤ unB n ∧ unB n ≤ 2000000000001 := by rw [u1]; split <;> omega
  have k2 : 0 ≤ unB n' ∧ unB n' ≤ 2000000000001 := by rw [u2]; split <;> omega
  obtain ⟨q1, q2⟩ := packU_inj 10 _ _ r r' k1.1 (Int.lt_of_le_of_lt k1.2 b) k2.1 (Int.lt_of_le_of_lt k2.2 b) e
  refine ⟨?_, q2⟩
  rw [u1, u2] at q1
  split at q1 <;> split at q1 <;> omega
theorem packS_inj : ∀ {l l' : List Int} {r r' : List Int}, (∀ x ∈ l, SmallN x) → (∀ x ∈ l', SmallN x) → l.length = l'.length → packS l ++ r = packS l' ++ r' → l = l' ∧ r = r'
  | [], [], r, r', _, _, _, h => ⟨rfl, by simpa [packS] using h⟩
  | [], _ :: _, _, _, _, _, h, _ => by simp at h
  | _ :: _, [], _, _, _, _, h, _ => by simp at h
  | x :: l, y :: l', r, r', h1, h2, hl, h => by
    simp only [packS, List.flatMap_cons, List.append_assoc] at h
    obtain ⟨q1, q2⟩ := packN_inj (h1 x (by simp)) (h2 y (by simp)) h
    obtain ⟨q3, q4⟩ := packS_inj (l := l) (l' := l') (r := r) (r' := r') (fun z hz => h1 z (by simp [hz])) (fun z hz => h2 z (by simp [hz])) (by simpa using hl) q2
    exact ⟨by rw [q1, q3], q4⟩
/-- a list that the packer tells from others -/
def SmallL (l : List Int) : Prop := (∀ x ∈ l, SmallN x) ∧ l.length ≤ 1000000
theorem packL_inj {l l' r r' : List Int} (h : SmallL l) (h' : SmallL l') (e : packL l ++ r = packL l' ++ r') : l = l' ∧ r = r' := by
  unfold packL at e
  rw [List.append_assoc, List.append_assoc] at e
  obtain ⟨q1, q2⟩ := packN_inj ⟨by omega, by have := h.2; omega⟩ ⟨by omega, by have := h'.2; omega⟩ e
  exact packS_inj h.1 h'.1 (by omega) q2
theorem packLs_inj : ∀ {l l' : List (List Int)}, (∀ x ∈ l, SmallL x) → (∀ x ∈ l', SmallL x) → l.length = l'.length → packLs l = packLs l' → l = l'
  | [], [], _, _, _, _ => rfl
  | [], _ :: _, _, _, h, _ => by simp at h
  | _ :: _, [], _, _, h, _ => by simp at h
  | x :: l, y :: l', h1, h2, hl, h => by
    simp only [packLs, List.flatMap_cons] at h
    obtain ⟨q1, q2⟩ := packL_inj (h1 x (by simp)) (h2 y (by simp)) h
    have q3 := packLs_inj (l := l) (l' := l') (fun z hz => h1 z (by simp [hz])) (fun z hz => h2 z (by simp [hz])) (by simpa using hl) q2
    rw [q1, q3]
/-- a model that its bytes tell from others -/
def SmallM (m : LModel) : Prop := (∀ x ∈ [m.kind, m.vocab, m.width, m.top], SmallN x) ∧ ∀ x ∈ listsM m, SmallL x
theorem mbytes_inj {a b : LModel} (ha : SmallM a) (hb : SmallM b) (h : mbytes a = mbytes b) : a = b := by
  unfold mbytes at h
  obtain ⟨q1, q2⟩ := packS_inj ha.1 hb.1 rfl h
  have q3 := packLs_inj ha.2 hb.2 rfl q2
  cases a; cases b
  simp only [listsM, List.cons.injEq, and_true] at q1 q3
  simp_all
/-- the comparison of two models, list by list -/
def eqM (a b : LModel) : Bool := (a.kind == b.kind && a.vocab == b.vocab && a.width == b.width && a.top == b.top) && eqL (eqL iEq) (listsM a) (listsM b)
theorem eqM_iff (a b : LModel) : eqM a b = true ↔ a = b := by
  unfold eqM
  rw [Bool.and_eq_true, eqL_iff (fun x y => eqL_iff iEq_iff)]
  simp only [Bool.and_eq_true, beq_iff_eq]
  constructor
  · rintro ⟨⟨⟨⟨h1, h2⟩, h3⟩, h4⟩, h5⟩
    cases a; cases b
    simp only [listsM, List.cons.injEq, and_true] at h5
    simp_all
  · rintro rfl
    exact ⟨⟨⟨⟨rfl, rfl⟩, rfl⟩, rfl⟩, rfl⟩
theorem eqM_bytes {a b : LModel} (ha : SmallM a) (hb : SmallM b) : eqL iEq (mbytes a) (mbytes b) = eqM a b := by
  rw [Bool.eq_iff_iff, eqL_iff iEq_iff, eqM_iff]
  exact ⟨mbytes_inj ha hb, fun h => by rw [h]⟩
end Go.Proofs.YtneabpgphjcbkaaGreatDoor

namespace Go.Proofs.YtneabpgphjcbkaaGreatDoor
open Go.RowKit

def RPtr (C : Cl) (b o : Nat) (p : Addr) : Prop := C ⟨b, o, none⟩ = some (.pointer (some p))
def VPtr (_ : Cl) (v : Value) (p : Addr) : Prop := v = .pointer (some p)

set_option maxHeartbeats 2000000 in
set_option maxRecDepth 100000 in
theorem equalf_ptr (F : Nat) (eq : Addr → Addr → Bool) (eF : ∀ args w, (callFunc F args).run Tryz.prog w = .ok (.enter F args) w) (xs ys : List (Addr)) (v u : Value) (w : World) (hv : Rws 1 RPtr w.cell? v xs) (hu : Rws 1 RPtr w.cell? u ys)
    (hF : ∀ x ∈ xs, ∀ y ∈ ys, ∀ vx vy W, Below w.heap.size w W → VPtr W.cell? vx x → VPtr W.cell? vy y → Calls Tryz.prog F #[vx, vy] W fun e w' => e = .returned (.bool (eq x y)) ∧ Below W.heap.size W w') :
    Calls Tryz.prog 43 #[v, u, .func (.func F) #[] #[]] w fun e w' => e = .returned (.bool (eqL eq xs ys)) ∧ Below w.heap.size w w' := by
  obtain ⟨A, c, rfl, -, -, hmx⟩ := Rws.shape hv
  obtain ⟨A2, c2, rfl, -, -, hmx2⟩ := Rws.shape hu
  have HV := Lib.hid hv
  have HU := Lib.hid hu
  obtain ⟨n, hn⟩ : ∃ n, xs.length = n := ⟨_, rfl⟩
  obtain ⟨m, hm⟩ : ∃ m, ys.length = m := ⟨_, rfl⟩
  rw [hn] at hmx HV ⊢
  rw [hm] at hmx2 HU ⊢
  have HL := Lib.hid hn
  have HM := Lib.hid hm
  have HF := Lib.hid hF
  have hn2 : (n : Int) ≤ 1000000 := by omega
  have hm2 : (m : Int) ≤ 1000000 := by omega
  clear hv hu hF
  by_cases hnm : n = m
  · subst hnm
    have hne0 : ((n : Int) != (n : Int)) = false := by simp
    clear hn hm
    go_enter Tryz.func43, Tryz.ntmps43
    go_wp2
    go_loopw [17] (fun a17 wr => ∃ j : Nat, a17 = .int .i64 j ∧ Below w.heap.size w wr ∧ j ≤ n ∧ eqL eq (xs.take j) (ys.take j) = true) (fun a17 _ => n - (intOf a17).toNat)
    case atStart => exact ⟨0, rfl, Below.refl _ _, by omega, rfl⟩
    case round =>
      obtain ⟨j, rfl, hB, hj, ht⟩ := hrel
      have HTK := Lib.hid ht
      have HB := Lib.hid hB
      clear ht hB
      by_cases hlt : j < n
      · have hlt2 : (j : Int) < (n : Int) := by omega
        have hjl : j < xs.length := by rw [HL.out]; exact hlt
        have hjm : j < ys.length := by rw [HM.out]; exact hlt
        obtain ⟨b, o, rfl, hc⟩ := Rws.at_ (Rws.mono HV.out fun _ _ _ h => (Keeps.of_below HB.out _ _ h)) (by rw [HL.out]; omega)
        obtain ⟨b2, o2, rfl, hc2⟩ := Rws.at_ (Rws.mono HU.out fun _ _ _ h => (Keeps.of_below HB.out _ _ h)) (by rw [HM.out]; omega)
        obtain ⟨x, hx⟩ : ∃ x, xs[j]? = some x := ⟨_, List.getElem?_eq_getElem hjl⟩
        obtain ⟨y, hy⟩ : ∃ y, ys[j]? = some y := ⟨_, List.getElem?_eq_getElem hjm⟩
        have hEp := hc j x hx
        have hEr := hc2 j y hy
        rw [Nat.mul_one] at hEp
        rw [Nat.mul_one] at hEr
        have hxm : x ∈ xs := List.mem_of_getElem? hx
        have hym : y ∈ ys := List.mem_of_getElem? hy
        have HX := Lib.hid hx
        have HY := Lib.hid hy
        clear hc hc2 hx hy
        have pe0 := hEp; simp only [RPtr] at pe0
        have re0 := hEr; simp only [RPtr] at re0
        have ra0 := fun ob => Keeps.alloc wr ob _ _ re0
        obtain ⟨bq, hbq⟩ : ∃ bq, eq x y = bq := ⟨_, rfl⟩
        have hf := HF.out _ hxm _ hym
        rw [hbq] at hf
        have HFX := Lib.hid hf
        have HQ := Lib.hid hbq
        clear hbq hf hxm hym
        go_wp2_with fail
        refine (HFX.out _ _ _ HB.out rfl rfl).mono ?_
        rintro e w1 ⟨rfl, hB1⟩
        have hB2 := behind HB.out hB1
        have HB1 := Lib.hid hB2
        clear hB1 hB2
        cases bq with
        | true =>
          have HN : Hid (eqL eq (xs.take (j + 1)) (ys.take (j + 1)) = true) := Lib.hid (by rw [eqL_take HX.out HY.out, HTK.out, HQ.out]; rfl)
          go_wp2
          go_roundw
          case rel => exact ⟨j + 1, by go_num, HB1.out, by omega, HN.out⟩
          case measure => simp [intOf]; omega
        | false =>
          have HN : Hid (eqL eq xs ys = false) := Lib.hid (eqL_no HX.out HY.out HQ.out)
          go_wp2
          go_ret
          exact ⟨ret_bool HN.out.symm, HB1.out⟩
      · obtain rfl : j = n := by omega
        have hE1 := HTK.out
        rw [List.take_of_length_le (by rw [HL.out]; omega), List.take_of_length_le (by rw [HM.out]; omega)] at hE1
        have HE1 := Lib.hid hE1
        clear hE1
        go_wp2
        go_ret
        exact ⟨ret_bool HE1.out.symm, HB.out⟩
  · have hne0 : ((n : Int) != (m : Int)) = true := by simp; omega
    have HN : Hid (eqL eq xs ys = false) := Lib.hid (eqL_len (by rw [hn, hm]; exact hnm))
    clear hn hm
    go_enter Tryz.func43, Tryz.ntmps43
    go_wp2
    go_ret
    exact ⟨ret_bool HN.out.symm, Below.refl _ _⟩

set_option maxHeartbeats 2000000 in
set_option maxRecDepth 100000 in
theorem lists_any (p : Nat) (w : World) :
    Calls Tryz.prog 44 #[.pointer (some ⟨p, 0, none⟩)] w fun e w' => e = .returned (.slice (some ⟨w.heap.size, 0, none⟩) 7 7) ∧ Below w.heap.size w w' ∧ Bk w' w.heap.size 51 #[.pointer (some ⟨p, 4, none⟩), .pointer (some ⟨p, 5, none⟩), .pointer (some ⟨p, 6, none⟩), .pointer (some ⟨p, 7, none⟩), .pointer (some ⟨p, 8, none⟩), .pointer (some ⟨p, 9, none⟩), .pointer (some ⟨p, 10, none⟩)] := by
  go_enter Tryz.func44, Tryz.ntmps44
  go_wp2_with fail
  go_region
  go_wp2
  go_ret
  exact ⟨rfl, (laid (Below.refl _ w) _).drew, Bk.new w _ _⟩
/-- the seven places of a model's lists -/
def places (p : Nat) : List Addr := [⟨p, 4, none⟩, ⟨p, 5, none⟩, ⟨p, 6, none⟩, ⟨p, 7, none⟩, ⟨p, 8, none⟩, ⟨p, 9, none⟩, ⟨p, 10, none⟩]
theorem places_row {w : World} {p b : Nat} (h : Bk w b 51 #[.pointer (some ⟨p, 4, none⟩), .pointer (some ⟨p, 5, none⟩), .pointer (some ⟨p, 6, none⟩), .pointer (some ⟨p, 7, none⟩), .pointer (some ⟨p, 8, none⟩), .pointer (some ⟨p, 9, none⟩), .pointer (some ⟨p, 10, none⟩)]) : Rws 1 RPtr w.cell? (.slice (some ⟨b, 0, none⟩) 7 7) (places p) := by
  refine ⟨_, _, rfl, Nat.le_refl 7, (by decide : 7 ≤ maxLen), (by simp [places]), fun _ => ⟨b, 0, rfl, fun i x hx => ?_⟩⟩
  have hc := h.cell i
  unfold RPtr
  rw [Nat.zero_add, Nat.mul_one, hc]
  match i, hx with
  | 0, hx => simp [places] at hx; subst hx; rfl
  | 1, hx => simp [places] at hx; subst hx; rfl
  | 2, hx => simp [places] at hx; subst hx; rfl
  | 3, hx => simp [places] at hx; subst hx; rfl
  | 4, hx => simp [places] at hx; subst hx; rfl
  | 5, hx => simp [places] at hx; subst hx; rfl
  | 6, hx => simp [places] at hx; subst hx; rfl
  | i + 7, hx => simp [places] at hx
theorem enter_meq : ∀ args w, (callFunc 45 args).run Tryz.prog w = .ok (.enter 45 args) w := fun _ _ => by kernel_rfl
set_option maxHeartbeats 2000000 in
set_option maxRecDepth 100000 in
theorem meq1_any (p q i j : Nat) (A1 A2 : Option Addr) (n1 c1 n2 c2 : Nat) (xs ys : List Int) (w : World) (hp : w.cell? ⟨p, i, none⟩ = some (.slice A1 n1 c1)) (hq : w.cell? ⟨q, j, none⟩ = some (.slice A2 n2 c2)) (hv : RInts w.cell? (.slice A1 n1 c1) xs) (hu : RInts w.cell? (.slice A2 n2 c2) ys) :
    Calls Tryz.prog 45 #[.pointer (some ⟨p, i, none⟩), .pointer (some ⟨q, j, none⟩)] w fun e w' => e = .returned (.bool (eqL iEq xs ys)) ∧ Below w.heap.size w w' := by
  have HE : Hid (∀ W, Below w.heap.size w W → Calls Tryz.prog 19 #[.slice A1 n1 c1, .slice A2 n2 c2] W fun e w' => e = .returned (.bool (eqL iEq xs ys)) ∧ Below W.heap.size W w') := Lib.hid fun W hb => equal_int xs ys _ _ W (hv.keep (Keeps.of_below hb)) (hu.keep (Keeps.of_below hb))
  clear hv hu
  go_enter Tryz.func45, Tryz.ntmps45
  go_wp2_with fail
  go_region_held3 (fun w' => w'.cell? ⟨p, i, none⟩ = some (.slice A1 n1 c1) ∧ w'.cell? ⟨q, j, none⟩ = some (.slice A2 n2 c2))
    (first | exact ⟨hp, hq⟩ | exact ⟨Keeps.of_below HC.out _ _ hp, Keeps.of_below HC.out _ _ hq⟩ | go_keep)
    ((go_at_call 19; refine (HE.out _ (drawn (Below.refl _ _) _)).mono ?_; rintro e w1 ⟨rfl, hB1⟩; have HC : Hid (Below w.heap.size w w1) := Lib.hid (behind (drawn (Below.refl _ _) _) hB1); clear hB1))
  go_wp2
  go_ret
  exact ⟨rfl, HC.out⟩

/-- the comparison of the lists at two places -/
def eqPl (f g : Addr → List Int) (a b : Addr) : Bool := eqL iEq (f a) (g b)
def listAt (m : LModel) (a : Addr) : List Int := (listsM m)[a.off - 4]?.getD []
theorem eqL_map {α β γ δ : Type} (eq : γ → δ → Bool) (f : α → γ) (g : β → δ) : ∀ (xs : List α) (ys : List β), eqL (fun a b => eq (f a) (g b)) xs ys = eqL eq (xs.map f) (ys.map g)
  | [], [] => rfl
  | [], _ :: _ => rfl
  | _ :: _, [] => rfl
  | x :: xs, y :: ys => by simp [eqL, eqL_map eq f g xs ys]
theorem places_map (m : LModel) (p : Nat) : (places p).map (listAt m) = listsM m := rfl
theorem at_places {C : Cl} {m : LModel} {p : Nat} {K V D T : Int} {a b c d e f g : Value} (h : RInts C a m.cuts ∧ RInts C b m.embed ∧ RInts C c m.place ∧ RInts C d m.mix ∧ RInts C e m.out ∧ RInts C f m.soft ∧ RInts C g m.odds)
    (hb : ∀ i u, (#[.int .i64 K, .int .i64 V, .int .i64 D, .int .i64 T, a, b, c, d, e, f, g] : Array Value)[i]? = some u → C ⟨p, i, none⟩ = some u) {x : Addr} (hx : x ∈ places p) : ∃ j v, x = ⟨p, j, none⟩ ∧ C ⟨p, j, none⟩ = some v ∧ RInts C v (listAt m x) := by
  obtain ⟨h1, h2, h3, h4, h5, h6, h7⟩ := h
  simp only [places, List.mem_cons, List.not_mem_nil, or_false] at hx
  rcases hx with rfl | rfl | rfl | rfl | rfl | rfl | rfl
  · exact ⟨4, _, rfl, hb 4 _ rfl, h1⟩
  · exact ⟨5, _, rfl, hb 5 _ rfl, h2⟩
  · exact ⟨6, _, rfl, hb 6 _ rfl, h3⟩
  · exact ⟨7, _, rfl, hb 7 _ rfl, h4⟩
  · exact ⟨8, _, rfl, hb 8 _ rfl, h5⟩
  · exact ⟨9, _, rfl, hb 9 _ rfl, h6⟩
  · exact ⟨10, _, rfl, hb 10 _ rfl, h7⟩
set_option maxHeartbeats 8000000 in
set_option maxRecDepth 100000 in
theorem mequal_any (ma mb : LModel) (a b : Value) (w : World) (ha : VModel w.cell? a ma) (hb : VModel w.cell? b mb) :
    Calls Tryz.prog 14 #[a, b] w fun e w' => e = .returned (.bool (eqM ma mb)) ∧ Below w.heap.size w w' := by
  obtain ⟨ap, bp, cp, dp, ep, fp, gp, rfl, hrp⟩ := ha
  obtain ⟨⟨Ap1, np1, cp1, rfl⟩, ⟨Ap2, np2, cp2, rfl⟩, ⟨Ap3, np3, cp3, rfl⟩, ⟨Ap4, np4, cp4, rfl⟩, ⟨Ap5, np5, cp5, rfl⟩, ⟨Ap6, np6, cp6, rfl⟩, ⟨Ap7, np7, cp7, rfl⟩⟩ := (⟨hrp.1.sl, hrp.2.1.sl, hrp.2.2.1.sl, hrp.2.2.2.1.sl, hrp.2.2.2.2.1.sl, hrp.2.2.2.2.2.1.sl, hrp.2.2.2.2.2.2.sl⟩ : _ ∧ _ ∧ _ ∧ _ ∧ _ ∧ _ ∧ _)
  obtain ⟨Kp, hKp⟩ : ∃ q, ma.kind = q := ⟨_, rfl⟩
  obtain ⟨Vp, hVp⟩ : ∃ q, ma.vocab = q := ⟨_, rfl⟩
  obtain ⟨Dp, hDp⟩ : ∃ q, ma.width = q := ⟨_, rfl⟩
  obtain ⟨Tp, hTp⟩ : ∃ q, ma.top = q := ⟨_, rfl⟩
  obtain ⟨aq, bq, cq, dq, eq, fq, gq, rfl, hrq⟩ := hb
  obtain ⟨⟨Aq1, nq1, cq1, rfl⟩, ⟨Aq2, nq2, cq2, rfl⟩, ⟨Aq3, nq3, cq3, rfl⟩, ⟨Aq4, nq4, cq4, rfl⟩, ⟨Aq5, nq5, cq5, rfl⟩, ⟨Aq6, nq6, cq6, rfl⟩, ⟨Aq7, nq7, cq7, rfl⟩⟩ := (⟨hrq.1.sl, hrq.2.1.sl, hrq.2.2.1.sl, hrq.2.2.2.1.sl, hrq.2.2.2.2.1.sl, hrq.2.2.2.2.2.1.sl, hrq.2.2.2.2.2.2.sl⟩ : _ ∧ _ ∧ _ ∧ _ ∧ _ ∧ _ ∧ _)
  obtain ⟨Kq, hKq⟩ : ∃ q, mb.kind = q := ⟨_, rfl⟩
  obtain ⟨Vq, hVq⟩ : ∃ q, mb.vocab = q := ⟨_, rfl⟩
  obtain ⟨Dq, hDq⟩ : ∃ q, mb.width = q := ⟨_, rfl⟩
  obtain ⟨Tq, hTq⟩ : ∃ q, mb.top = q := ⟨_, rfl⟩
  have heq : eqM ma mb = ((Kp == Kq && Vp == Vq && Dp == Dq && Tp == Tq) && eqL (eqL iEq) (listsM ma) (listsM mb)) := by unfold eqM; rw [hKp, hVp, hDp, hTp, hKq, hVq, hDq, hTq]
  rw [heq, hKp, hVp, hDp, hTp, hKq, hVq, hDq, hTq]
  clear hKp hVp hDp hTp hKq hVq hDq hTq heq
  obtain ⟨W1, hW1⟩ : ∃ W1, W1 = w.alloc (.cells #[.int .i64 Kp, .int .i64 Vp, .int .i64 Dp, .int .i64 Tp, .slice Ap1 np1 cp1, .slice Ap2 np2 cp2, .slice Ap3 np3 cp3, .slice Ap4 np4 cp4, .slice Ap5 np5 cp5, .slice Ap6 np6 cp6, .slice Ap7 np7 cp7] 27) := ⟨_, rfl⟩
  have z1 : W1.heap.size = w.heap.size + 1 := by rw [hW1]; exact World.size_alloc _ _
  have hb0 : Bk W1 w.heap.size 27 #[.int .i64 Kp, .int .i64 Vp, .int .i64 Dp, .int .i64 Tp, .slice Ap1 np1 cp1, .slice Ap2 np2 cp2, .slice Ap3 np3 cp3, .slice Ap4 np4 cp4, .slice Ap5 np5 cp5, .slice Ap6 np6 cp6, .slice Ap7 np7 cp7] := by rw [hW1]; exact Bk.new _ _ _
  obtain ⟨W2, hW2⟩ : ∃ W2, W2 = W1.alloc (.cells #[.int .i64 Kq, .int .i64 Vq, .int .i64 Dq, .int .i64 Tq, .slice Aq1 nq1 cq1, .slice Aq2 nq2 cq2, .slice Aq3 nq3 cq3, .slice Aq4 nq4 cq4, .slice Aq5 nq5 cq5, .slice Aq6 nq6 cq6, .slice Aq7 nq7 cq7] 27) := ⟨_, rfl⟩
  have hb1 : Bk W2 (w.heap.size + 1) 27 #[.int .i64 Kq, .int .i64 Vq, .int .i64 Dq, .int .i64 Tq, .slice Aq1 nq1 cq1, .slice Aq2 nq2 cq2, .slice Aq3 nq3 cq3, .slice Aq4 nq4 cq4, .slice Aq5 nq5 cq5, .slice Aq6 nq6 cq6, .slice Aq7 nq7 cq7] := by rw [hW2, ← z1]; exact Bk.new _ _ _
  have hb2 : Bk W2 w.heap.size 27 #[.int .i64 Kp, .int .i64 Vp, .int .i64 Dp, .int .i64 Tp, .slice Ap1 np1 cp1, .slice Ap2 np2 cp2, .slice Ap3 np3 cp3, .slice Ap4 np4 cp4, .slice Ap5 np5 cp5, .slice Ap6 np6 cp6, .slice Ap7 np7 cp7] := by rw [hW2]; exact hb0.alloc _
  have HB : Hid (Below w.heap.size w W2) := Lib.hid (by rw [hW2, hW1]; exact laid (laid (Below.refl _ _) _) _)
  obtain ⟨bk, gk⟩ : ∃ x, (Kp == Kq) = x := ⟨_, rfl⟩
  obtain ⟨bv, gv⟩ : ∃ x, (Vp == Vq) = x := ⟨_, rfl⟩
  obtain ⟨bd, gd⟩ : ∃ x, (Dp == Dq) = x := ⟨_, rfl⟩
  obtain ⟨bt, gt⟩ : ∃ x, (Tp == Tq) = x := ⟨_, rfl⟩
  rw [gk, gv, gd, gt]
  have K0 : ∀ {v : Value} {x : List Int} (W : World), Below W2.heap.size W2 W → RInts w.cell? v x → RInts W.cell? v x := fun W hb h => h.keep (Keeps.of_below (behind HB.out hb))
  have HEF : Hid (∀ W x y, Below W2.heap.size W2 W → Rws 1 RPtr W.cell? x (places w.heap.size) → Rws 1 RPtr W.cell? y (places (w.heap.size + 1)) → Calls Tryz.prog 43 #[x, y, .func (.func 45) #[] #[]] W fun e w' => e = .returned (.bool (eqL (eqL iEq) (listsM ma) (listsM mb))) ∧ Below W.heap.size W w') := Lib.hid fun W x y hb hx hy => by
    have h := equalf_ptr 45 (eqPl (listAt ma) (listAt mb)) enter_meq (places w.heap.size) (places (w.heap.size + 1)) x y W hx hy (fun r hr s hs vx vy W' hb' hvx hvy => by
      have hbb := behind hb hb'
      obtain ⟨j1, v1, rfl, c1, r1⟩ := at_places (C := W'.cell?) ⟨K0 W' hbb hrp.1, K0 W' hbb hrp.2.1, K0 W' hbb hrp.2.2.1, K0 W' hbb hrp.2.2.2.1, K0 W' hbb hrp.2.2.2.2.1, K0 W' hbb hrp.2.2.2.2.2.1, K0 W' hbb hrp.2.2.2.2.2.2⟩ (fun i u hu => ((hb2.low hbb).cell i).trans hu) hr
      obtain ⟨j2, v2, rfl, c2, r2⟩ := at_places (C := W'.cell?) ⟨K0 W' hbb hrq.1, K0 W' hbb hrq.2.1, K0 W' hbb hrq.2.2.1, K0 W' hbb hrq.2.2.2.1, K0 W' hbb hrq.2.2.2.2.1, K0 W' hbb hrq.2.2.2.2.2.1, K0 W' hbb hrq.2.2.2.2.2.2⟩ (fun i u hu => ((hb1.low hbb).cell i).trans hu) hs
      obtain ⟨A1, n1, k1, rfl⟩ := r1.sl
      obtain ⟨A2, n2, k2, rfl⟩ := r2.sl
      cases hvx
      cases hvy
      exact meq1_any _ _ _ _ A1 A2 n1 k1 n2 k2 _ _ W' c1 c2 r1 r2)
    have e : eqL (eqPl (listAt ma) (listAt mb)) (places w.heap.size) (places (w.heap.size + 1)) = eqL (eqL iEq) (listsM ma) (listsM mb) := by
      have h := eqL_map (eqL iEq) (listAt ma) (listAt mb) (places w.heap.size) (places (w.heap.size + 1))
      rw [places_map, places_map] at h
      exact h
    rwa [e] at h
  have HLI := Lib.hid lists_any
  obtain ⟨p0, p1, p2, p3, p4, p5, p6, p7, p8, p9, p10⟩ : W2.cell? ⟨w.heap.size, 0, none⟩ = some (.int .i64 Kp) ∧ W2.cell? ⟨w.heap.size, 1, none⟩ = some (.int .i64 Vp) ∧ W2.cell? ⟨w.heap.size, 2, none⟩ = some (.int .i64 Dp) ∧ W2.cell? ⟨w.heap.size, 3, none⟩ = some (.int .i64 Tp) ∧ W2.cell? ⟨w.heap.size, 4, none⟩ = some (.slice Ap1 np1 cp1) ∧ W2.cell? ⟨w.heap.size, 5, none⟩ = some (.slice Ap2 np2 cp2) ∧ W2.cell? ⟨w.heap.size, 6, none⟩ = some (.slice Ap3 np3 cp3) ∧ W2.cell? ⟨w.heap.size, 7, none⟩ = some (.slice Ap4 np4 cp4) ∧ W2.cell? ⟨w.heap.size, 8, none⟩ = some (.slice Ap5 np5 cp5) ∧ W2.cell? ⟨w.heap.size, 9, none⟩ = some (.slice Ap6 np6 cp6) ∧ W2.cell? ⟨w.heap.size, 10, none⟩ = some (.slice Ap7 np7 cp7) := ⟨hb2.cell 0, hb2.cell 1, hb2.cell 2, hb2.cell 3, hb2.cell 4, hb2.cell 5, hb2.cell 6, hb2.cell 7, hb2.cell 8, hb2.cell 9, hb2.cell 10⟩
  obtain ⟨q0, q1, q2, q3, q4, q5, q6, q7, q8, q9, q10⟩ : W2.cell? ⟨w.heap.size + 1, 0, none⟩ = some (.int .i64 Kq) ∧ W2.cell? ⟨w.heap.size + 1, 1, none⟩ = some (.int .i64 Vq) ∧ W2.cell? ⟨w.heap.size + 1, 2, none⟩ = some (.int .i64 Dq) ∧ W2.cell? ⟨w.heap.size + 1, 3, none⟩ = some (.int .i64 Tq) ∧ W2.cell? ⟨w.heap.size + 1, 4, none⟩ = some (.slice Aq1 nq1 cq1) ∧ W2.cell? ⟨w.heap.size + 1, 5, none⟩ = some (.slice Aq2 nq2 cq2) ∧ W2.cell? ⟨w.heap.size + 1, 6, none⟩ = some (.slice Aq3 nq3 cq3) ∧ W2.cell? ⟨w.heap.size + 1, 7, none⟩ = some (.slice Aq4 nq4 cq4) ∧ W2.cell? ⟨w.heap.size + 1, 8, none⟩ = some (.slice Aq5 nq5 cq5) ∧ W2.cell? ⟨w.heap.size + 1, 9, none⟩ = some (.slice Aq6 nq6 cq6) ∧ W2.cell? ⟨w.heap.size + 1, 10, none⟩ = some (.slice Aq7 nq7 cq7) := ⟨hb1.cell 0, hb1.cell 1, hb1.cell 2, hb1.cell 3, hb1.cell 4, hb1.cell 5, hb1.cell 6, hb1.cell 7, hb1.cell 8, hb1.cell 9, hb1.cell 10⟩
  have HW1 := Lib.hid hW1
  have HW2 := Lib.hid hW2
  clear hW1 hW2 hb0 hb1 hb2 z1 hrp hrq K0
  obtain rfl | rfl : bk = false ∨ bk = true := by cases bk <;> simp
  · have gk2 : (Kp != Kq) = true := by rw [bne, gk]; rfl
    clear gk gv gd gt
    go_enter Tryz.func14, Tryz.ntmps14
    go_wp2
    go_ret
    exact ⟨ret_bool (by simp), laid (laid (Below.refl _ w) _) _⟩
  have gk2 : (Kp != Kq) = false := by rw [bne, gk]; rfl
  obtain rfl | rfl : bv = false ∨ bv = true := by cases bv <;> simp
  · have gv2 : (Vp != Vq) = true := by rw [bne, gv]; rfl
    clear gk gv gd gt
    go_enter Tryz.func14, Tryz.ntmps14
    go_wp2
    go_ret
    exact ⟨ret_bool (by simp), laid (laid (Below.refl _ w) _) _⟩
  have gv2 : (Vp != Vq) = false := by rw [bne, gv]; rfl
  obtain rfl | rfl : bd = false ∨ bd = true := by cases bd <;> simp
  · have gd2 : (Dp != Dq) = true := by rw [bne, gd]; rfl
    clear gk gv gd gt
    go_enter Tryz.func14, Tryz.ntmps14
    go_wp2
    go_ret
    exact ⟨ret_bool (by simp), laid (laid (Below.refl _ w) _) _⟩
  have gd2 : (Dp != Dq) = false := by rw [bne, gd]; rfl
  obtain rfl | rfl : bt = false ∨ bt = true := by cases bt <;> simp
  · have gt2 : (Tp != Tq) = true := by rw [bne, gt]; rfl
    clear gk gv gd gt
    go_enter Tryz.func14, Tryz.ntmps14
    go_wp2
    go_ret
    exact ⟨ret_bool (by simp), laid (laid (Below.refl _ w) _) _⟩
  have gt2 : (Tp != Tq) = false := by rw [bne, gt]; rfl
  clear gk gv gd gt
  go_enter Tryz.func14, Tryz.ntmps14
  go_wp2_with fail
  rw [← HW1.out, ← HW2.out]
  refine (HLI.out _ _).mono ?_
  rintro e w3 ⟨rfl, hB3, hb3⟩
  have HB3 := Lib.hid hB3
  have HK3 := Lib.hid hb3
  clear hB3 hb3
  go_wp2_with fail
  refine (HLI.out _ _).mono ?_
  rintro e w4 ⟨rfl, hB4, hb4⟩
  have HB4 : Hid (Below W2.heap.size W2 w4) := Lib.hid (behind HB3.out hB4)
  have HK4 := Lib.hid hb4
  have HK5 := Lib.hid (HK3.out.low hB4)
  clear hB4 hb4
  go_wp2_with fail
  refine (HEF.out _ _ _ HB4.out (places_row HK5.out) (places_row HK4.out)).mono ?_
  rintro e w5 ⟨rfl, hB5⟩
  have HB5 := Lib.hid (behind HB.out (behind HB4.out hB5))
  clear hB5
  go_wp2
  go_ret
  exact ⟨ret_bool (by simp), HB5.out⟩
end Go.Proofs.YtneabpgphjcbkaaGreatDoor
