/-
  The reference compares models.
-/
import Derived.Test.YtldjemlmjfpmjaaGreatDoorMby
import Derived.Test.YtldjemlmjfpmjaaGreatDoorEqf
import Derived.Deep.RegionHeld3
namespace Go.Proofs.YtldjemlmjfpmjaaGreatDoor
open Go.RowKit

def RBytes (C : Cl) (v : Value) (xs : List Int) : Prop := Rws 1 RByte C v xs
theorem tok2 : True := trivial
set_option maxHeartbeats 1000000 in
set_option maxRecDepth 100000 in
theorem equal_byte (xs ys : List Int) (v u : Value) (w : World) (hv : RBytes w.cell? v xs) (hu : RBytes w.cell? u ys) :
    Calls Tryz.prog 44 #[v, u] w fun e w' => e = .returned (.bool (eqL iEq xs ys)) ∧ Below w.heap.size w w' := by
  obtain ⟨A, c, rfl, -, -, hmx⟩ := Rws.shape hv
  obtain ⟨A2, c2, rfl, -, -, hmx2⟩ := Rws.shape hu
  have HV := Lib.hid hv
  have HU := Lib.hid hu
  obtain ⟨n, hn⟩ : ∃ n, xs.length = n := ⟨_, rfl⟩
  obtain ⟨m, hm⟩ : ∃ m, ys.length = m := ⟨_, rfl⟩
  rw [hn] at hmx HV ⊢
  rw [hm] at hmx2 HU ⊢
  have HL := Lib.hid hn
  have HM := Lib.hid hm
  have hn2 : (n : Int) ≤ 1000000 := by omega
  have hm2 : (m : Int) ≤ 1000000 := by omega
  clear hv hu
  by_cases hnm : n = m
  · subst hnm
    have hne0 : ((n : Int) != (n : Int)) = false := by simp
    clear hn hm
    go_enter Tryz.func44, Tryz.ntmps44
    go_wp2
    go_loopw [13] (fun a13 wr => ∃ (j q : Nat), a13 = .int .i64 j ∧ wr = w.drewN q ∧ j ≤ n ∧ eqL iEq (xs.take j) (ys.take j) = true) (fun a13 _ => n - (intOf a13).toNat)
    case atStart => exact ⟨0, 0, rfl, rfl, by omega, rfl⟩
    case round =>
      obtain ⟨j, q, rfl, rfl, hj, ht⟩ := hrel
      have HTK := Lib.hid ht
      clear ht
      by_cases hlt : j < n
      · have hlt2 : (j : Int) < (n : Int) := by omega
        have hjl : j < xs.length := by rw [HL.out]; exact hlt
        have hjm : j < ys.length := by rw [HM.out]; exact hlt
        obtain ⟨b, o, rfl, hc⟩ := Rws.at_ HV.out (by rw [HL.out]; omega)
        obtain ⟨b2, o2, rfl, hc2⟩ := Rws.at_ HU.out (by rw [HM.out]; omega)
        obtain ⟨x, hx⟩ : ∃ x, xs[j]? = some x := ⟨_, List.getElem?_eq_getElem hjl⟩
        obtain ⟨y, hy⟩ : ∃ y, ys[j]? = some y := ⟨_, List.getElem?_eq_getElem hjm⟩
        have hEp := hc j x hx
        have hEr := hc2 j y hy
        rw [Nat.mul_one] at hEp
        rw [Nat.mul_one] at hEr
        have HX := Lib.hid hx
        have HY := Lib.hid hy
        clear hc hc2 hx hy
        have p0 : _ = _ := hEp
        have r0 : _ = _ := hEr
        obtain ⟨bq, hbq⟩ : ∃ bq, iEq x y = bq := ⟨_, rfl⟩
        have hne : (x != y) = !bq := by rw [← hbq]; rfl
        have HQ := Lib.hid hbq
        clear hbq
        cases bq with
        | true =>
          have HN : Hid (eqL iEq (xs.take (j + 1)) (ys.take (j + 1)) = true) := Lib.hid (by rw [eqL_take HX.out HY.out, HTK.out, HQ.out]; rfl)
          go_wp2
          go_quiet (fail)
          go_wp2
          go_roundw
          case rel => exact ⟨j + 1, q + nq, by go_num, by first | rfl | exact World.drewN_drewN _ _ _, by omega, HN.out⟩
          case measure => simp [intOf]; omega
        | false =>
          have HN : Hid (eqL iEq xs ys = false) := Lib.hid (eqL_no HX.out HY.out HQ.out)
          go_wp2
          go_quiet (fail)
          go_wp2
          go_ret
          refine ⟨ret_bool HN.out.symm, ?_⟩
          exact drawn (drawn (Below.refl _ w) _) _
      · obtain rfl : j = n := by omega
        have hE1 := HTK.out
        rw [List.take_of_length_le (by rw [HL.out]; omega), List.take_of_length_le (by rw [HM.out]; omega)] at hE1
        have HE1 := Lib.hid hE1
        clear hE1
        go_wp2
        go_ret
        exact ⟨ret_bool HE1.out.symm, drawn (Below.refl _ w) _⟩
  · have hne0 : ((n : Int) != (m : Int)) = true := by simp; omega
    have HN : Hid (eqL iEq xs ys = false) := Lib.hid (eqL_len (by rw [hn, hm]; exact hnm))
    clear hn hm
    go_enter Tryz.func44, Tryz.ntmps44
    go_wp2
    go_ret
    exact ⟨ret_bool HN.out.symm, Below.refl _ _⟩


set_option maxHeartbeats 4000000 in
set_option maxRecDepth 100000 in
theorem same_any (ma mb : LModel) (a b : Value) (w : World) (ha : VModel w.cell? a ma) (hb : VModel w.cell? b mb) (hla : ∀ x ∈ listsM ma, x.length ≤ 2000) (hlb : ∀ x ∈ listsM mb, x.length ≤ 2000) :
    Calls Tryz.prog 10 #[a, b] w fun e w' => e = .returned (.bool (eqL iEq (mbytes ma) (mbytes mb))) ∧ Below w.heap.size w w' := by
  obtain ⟨ap, bp, cp, dp, ep, fp, gp, rfl, hrp⟩ := ha
  obtain ⟨⟨Ap1, np1, cp1, rfl⟩, ⟨Ap2, np2, cp2, rfl⟩, ⟨Ap3, np3, cp3, rfl⟩, ⟨Ap4, np4, cp4, rfl⟩, ⟨Ap5, np5, cp5, rfl⟩, ⟨Ap6, np6, cp6, rfl⟩, ⟨Ap7, np7, cp7, rfl⟩⟩ := (⟨hrp.1.sl, hrp.2.1.sl, hrp.2.2.1.sl, hrp.2.2.2.1.sl, hrp.2.2.2.2.1.sl, hrp.2.2.2.2.2.1.sl, hrp.2.2.2.2.2.2.sl⟩ : _ ∧ _ ∧ _ ∧ _ ∧ _ ∧ _ ∧ _)
  have hMp : VModel w.cell? (.agg #[.int .i64 ma.kind, .int .i64 ma.vocab, .int .i64 ma.width, .int .i64 ma.top, .slice Ap1 np1 cp1, .slice Ap2 np2 cp2, .slice Ap3 np3 cp3, .slice Ap4 np4 cp4, .slice Ap5 np5 cp5, .slice Ap6 np6 cp6, .slice Ap7 np7 cp7]) ma := ⟨_, _, _, _, _, _, _, rfl, hrp⟩
  obtain ⟨Kp, hKp⟩ : ∃ q, ma.kind = q := ⟨_, rfl⟩
  obtain ⟨Vp, hVp⟩ : ∃ q, ma.vocab = q := ⟨_, rfl⟩
  obtain ⟨Dp, hDp⟩ : ∃ q, ma.width = q := ⟨_, rfl⟩
  obtain ⟨Tp, hTp⟩ : ∃ q, ma.top = q := ⟨_, rfl⟩
  obtain ⟨aq, bq, cq, dq, eq, fq, gq, rfl, hrq⟩ := hb
  obtain ⟨⟨Aq1, nq1, cq1, rfl⟩, ⟨Aq2, nq2, cq2, rfl⟩, ⟨Aq3, nq3, cq3, rfl⟩, ⟨Aq4, nq4, cq4, rfl⟩, ⟨Aq5, nq5, cq5, rfl⟩, ⟨Aq6, nq6, cq6, rfl⟩, ⟨Aq7, nq7, cq7, rfl⟩⟩ := (⟨hrq.1.sl, hrq.2.1.sl, hrq.2.2.1.sl, hrq.2.2.2.1.sl, hrq.2.2.2.2.1.sl, hrq.2.2.2.2.2.1.sl, hrq.2.2.2.2.2.2.sl⟩ : _ ∧ _ ∧ _ ∧ _ ∧ _ ∧ _ ∧ _)
  have hMq : VModel w.cell? (.agg #[.int .i64 mb.kind, .int .i64 mb.vocab, .int .i64 mb.width, .int .i64 mb.top, .slice Aq1 nq1 cq1, .slice Aq2 nq2 cq2, .slice Aq3 nq3 cq3, .slice Aq4 nq4 cq4, .slice Aq5 nq5 cq5, .slice Aq6 nq6 cq6, .slice Aq7 nq7 cq7]) mb := ⟨_, _, _, _, _, _, _, rfl, hrq⟩
  obtain ⟨Kq, hKq⟩ : ∃ q, mb.kind = q := ⟨_, rfl⟩
  obtain ⟨Vq, hVq⟩ : ∃ q, mb.vocab = q := ⟨_, rfl⟩
  obtain ⟨Dq, hDq⟩ : ∃ q, mb.width = q := ⟨_, rfl⟩
  obtain ⟨Tq, hTq⟩ : ∃ q, mb.top = q := ⟨_, rfl⟩
  rw [hKp, hVp, hDp, hTp] at hMp
  rw [hKq, hVq, hDq, hTq] at hMq
  rw [hKp, hVp, hDp, hTp, hKq, hVq, hDq, hTq]
  clear hKp hVp hDp hTp hKq hVq hDq hTq hrp hrq
  obtain ⟨W1, hW1⟩ : ∃ W1, W1 = w.alloc (.cells #[.int .i64 Kp, .int .i64 Vp, .int .i64 Dp, .int .i64 Tp, .slice Ap1 np1 cp1, .slice Ap2 np2 cp2, .slice Ap3 np3 cp3, .slice Ap4 np4 cp4, .slice Ap5 np5 cp5, .slice Ap6 np6 cp6, .slice Ap7 np7 cp7] 24) := ⟨_, rfl⟩
  have z1 : W1.heap.size = w.heap.size + 1 := by rw [hW1]; exact World.size_alloc _ _
  have hb0 : Bk W1 w.heap.size 24 #[.int .i64 Kp, .int .i64 Vp, .int .i64 Dp, .int .i64 Tp, .slice Ap1 np1 cp1, .slice Ap2 np2 cp2, .slice Ap3 np3 cp3, .slice Ap4 np4 cp4, .slice Ap5 np5 cp5, .slice Ap6 np6 cp6, .slice Ap7 np7 cp7] := by rw [hW1]; exact Bk.new _ _ _
  obtain ⟨W2, hW2⟩ : ∃ W2, W2 = W1.alloc (.cells #[.int .i64 Kq, .int .i64 Vq, .int .i64 Dq, .int .i64 Tq, .slice Aq1 nq1 cq1, .slice Aq2 nq2 cq2, .slice Aq3 nq3 cq3, .slice Aq4 nq4 cq4, .slice Aq5 nq5 cq5, .slice Aq6 nq6 cq6, .slice Aq7 nq7 cq7] 24) := ⟨_, rfl⟩
  have hb1 : Bk W2 (w.heap.size + 1) 24 #[.int .i64 Kq, .int .i64 Vq, .int .i64 Dq, .int .i64 Tq, .slice Aq1 nq1 cq1, .slice Aq2 nq2 cq2, .slice Aq3 nq3 cq3, .slice Aq4 nq4 cq4, .slice Aq5 nq5 cq5, .slice Aq6 nq6 cq6, .slice Aq7 nq7 cq7] := by rw [hW2, ← z1]; exact Bk.new _ _ _
  have hb2 : Bk W2 w.heap.size 24 #[.int .i64 Kp, .int .i64 Vp, .int .i64 Dp, .int .i64 Tp, .slice Ap1 np1 cp1, .slice Ap2 np2 cp2, .slice Ap3 np3 cp3, .slice Ap4 np4 cp4, .slice Ap5 np5 cp5, .slice Ap6 np6 cp6, .slice Ap7 np7 cp7] := by rw [hW2]; exact hb0.alloc _
  have HB : Hid (Below w.heap.size w W2) := Lib.hid (by rw [hW2, hW1]; exact laid (laid (Below.refl _ _) _) _)
  have HS : Hid (∀ w', Below W2.heap.size W2 w' → (w'.cell? ⟨w.heap.size, 0, none⟩ = some (.int .i64 Kp) ∧ w'.cell? ⟨w.heap.size, 1, none⟩ = some (.int .i64 Vp) ∧ w'.cell? ⟨w.heap.size, 2, none⟩ = some (.int .i64 Dp) ∧ w'.cell? ⟨w.heap.size, 3, none⟩ = some (.int .i64 Tp) ∧ w'.cell? ⟨w.heap.size, 4, none⟩ = some (.slice Ap1 np1 cp1) ∧ w'.cell? ⟨w.heap.size, 5, none⟩ = some (.slice Ap2 np2 cp2) ∧ w'.cell? ⟨w.heap.size, 6, none⟩ = some (.slice Ap3 np3 cp3) ∧ w'.cell? ⟨w.heap.size, 7, none⟩ = some (.slice Ap4 np4 cp4) ∧ w'.cell? ⟨w.heap.size, 8, none⟩ = some (.slice Ap5 np5 cp5) ∧ w'.cell? ⟨w.heap.size, 9, none⟩ = some (.slice Ap6 np6 cp6) ∧ w'.cell? ⟨w.heap.size, 10, none⟩ = some (.slice Ap7 np7 cp7)) ∧ (w'.cell? ⟨(w.heap.size + 1), 0, none⟩ = some (.int .i64 Kq) ∧ w'.cell? ⟨(w.heap.size + 1), 1, none⟩ = some (.int .i64 Vq) ∧ w'.cell? ⟨(w.heap.size + 1), 2, none⟩ = some (.int .i64 Dq) ∧ w'.cell? ⟨(w.heap.size + 1), 3, none⟩ = some (.int .i64 Tq) ∧ w'.cell? ⟨(w.heap.size + 1), 4, none⟩ = some (.slice Aq1 nq1 cq1) ∧ w'.cell? ⟨(w.heap.size + 1), 5, none⟩ = some (.slice Aq2 nq2 cq2) ∧ w'.cell? ⟨(w.heap.size + 1), 6, none⟩ = some (.slice Aq3 nq3 cq3) ∧ w'.cell? ⟨(w.heap.size + 1), 7, none⟩ = some (.slice Aq4 nq4 cq4) ∧ w'.cell? ⟨(w.heap.size + 1), 8, none⟩ = some (.slice Aq5 nq5 cq5) ∧ w'.cell? ⟨(w.heap.size + 1), 9, none⟩ = some (.slice Aq6 nq6 cq6) ∧ w'.cell? ⟨(w.heap.size + 1), 10, none⟩ = some (.slice Aq7 nq7 cq7))) := Lib.hid fun w' hb => ⟨by have h := (hb2.low hb).cell; exact ⟨h 0, h 1, h 2, h 3, h 4, h 5, h 6, h 7, h 8, h 9, h 10⟩, by have h := (hb1.low hb).cell; exact ⟨h 0, h 1, h 2, h 3, h 4, h 5, h 6, h 7, h 8, h 9, h 10⟩⟩
  have HA : Hid (∀ W, Below W2.heap.size W2 W → Calls Tryz.prog 45 #[.agg #[.int .i64 Kp, .int .i64 Vp, .int .i64 Dp, .int .i64 Tp, .slice Ap1 np1 cp1, .slice Ap2 np2 cp2, .slice Ap3 np3 cp3, .slice Ap4 np4 cp4, .slice Ap5 np5 cp5, .slice Ap6 np6 cp6, .slice Ap7 np7 cp7]] W fun e w' => ∃ v', e = .returned v' ∧ Below W.heap.size W w' ∧ Ow 1 EByte 5 w' (fun _ => none) W.heap.size v' (mbytes ma)) := Lib.hid fun W hb => mbytes_any ma _ W (hMp.keep (Keeps.of_below (behind HB.out hb))) hla
  have HQ : Hid (∀ W, Below W2.heap.size W2 W → Calls Tryz.prog 45 #[.agg #[.int .i64 Kq, .int .i64 Vq, .int .i64 Dq, .int .i64 Tq, .slice Aq1 nq1 cq1, .slice Aq2 nq2 cq2, .slice Aq3 nq3 cq3, .slice Aq4 nq4 cq4, .slice Aq5 nq5 cq5, .slice Aq6 nq6 cq6, .slice Aq7 nq7 cq7]] W fun e w' => ∃ v', e = .returned v' ∧ Below W.heap.size W w' ∧ Ow 1 EByte 5 w' (fun _ => none) W.heap.size v' (mbytes mb)) := Lib.hid fun W hb => mbytes_any mb _ W (hMq.keep (Keeps.of_below (behind HB.out hb))) hlb
  have HE : Hid (∀ W x y, Rws 1 RByte W.cell? x (mbytes ma) → Rws 1 RByte W.cell? y (mbytes mb) → Calls Tryz.prog 44 #[x, y] W fun e w' => e = .returned (.bool (eqL iEq (mbytes ma) (mbytes mb))) ∧ Below W.heap.size W w') := Lib.hid fun W x y hx hy => equal_byte _ _ x y W hx hy
  have HW1 := Lib.hid hW1
  have HW2 := Lib.hid hW2
  obtain ⟨⟨p0, p1, p2, p3, p4, p5, p6, p7, p8, p9, p10⟩, ⟨q0, q1, q2, q3, q4, q5, q6, q7, q8, q9, q10⟩⟩ := HS.out W2 (Below.refl _ _)
  clear hW1 hW2 hb0 hb1 hb2 z1 hMp hMq
  go_enter Tryz.func10, Tryz.ntmps10
  go_wp2_with fail
  rw [← HW1.out, ← HW2.out]
  have _t := tok2
  go_region_held3 (fun w' => (w'.cell? ⟨w.heap.size, 0, none⟩ = some (.int .i64 Kp) ∧ w'.cell? ⟨w.heap.size, 1, none⟩ = some (.int .i64 Vp) ∧ w'.cell? ⟨w.heap.size, 2, none⟩ = some (.int .i64 Dp) ∧ w'.cell? ⟨w.heap.size, 3, none⟩ = some (.int .i64 Tp) ∧ w'.cell? ⟨w.heap.size, 4, none⟩ = some (.slice Ap1 np1 cp1) ∧ w'.cell? ⟨w.heap.size, 5, none⟩ = some (.slice Ap2 np2 cp2) ∧ w'.cell? ⟨w.heap.size, 6, none⟩ = some (.slice Ap3 np3 cp3) ∧ w'.cell? ⟨w.heap.size, 7, none⟩ = some (.slice Ap4 np4 cp4) ∧ w'.cell? ⟨w.heap.size, 8, none⟩ = some (.slice Ap5 np5 cp5) ∧ w'.cell? ⟨w.heap.size, 9, none⟩ = some (.slice Ap6 np6 cp6) ∧ w'.cell? ⟨w.heap.size, 10, none⟩ = some (.slice Ap7 np7 cp7)) ∧ (w'.cell? ⟨(w.heap.size + 1), 0, none⟩ = some (.int .i64 Kq) ∧ w'.cell? ⟨(w.heap.size + 1), 1, none⟩ = some (.int .i64 Vq) ∧ w'.cell? ⟨(w.heap.size + 1), 2, none⟩ = some (.int .i64 Dq) ∧ w'.cell? ⟨(w.heap.size + 1), 3, none⟩ = some (.int .i64 Tq) ∧ w'.cell? ⟨(w.heap.size + 1), 4, none⟩ = some (.slice Aq1 nq1 cq1) ∧ w'.cell? ⟨(w.heap.size + 1), 5, none⟩ = some (.slice Aq2 nq2 cq2) ∧ w'.cell? ⟨(w.heap.size + 1), 6, none⟩ = some (.slice Aq3 nq3 cq3) ∧ w'.cell? ⟨(w.heap.size + 1), 7, none⟩ = some (.slice Aq4 nq4 cq4) ∧ w'.cell? ⟨(w.heap.size + 1), 8, none⟩ = some (.slice Aq5 nq5 cq5) ∧ w'.cell? ⟨(w.heap.size + 1), 9, none⟩ = some (.slice Aq6 nq6 cq6) ∧ w'.cell? ⟨(w.heap.size + 1), 10, none⟩ = some (.slice Aq7 nq7 cq7)))
    (first | exact ⟨⟨p0, p1, p2, p3, p4, p5, p6, p7, p8, p9, p10⟩, ⟨q0, q1, q2, q3, q4, q5, q6, q7, q8, q9, q10⟩⟩ | exact HS.out _ HC1.out | exact HS.out _ HC2.out | exact HS.out _ HC3.out | go_keep)
    (first
      | (clear _t; go_at_call 45; refine (HA.out _ (drawn (Below.refl _ _) _)).mono ?_; rintro e w1 ⟨v1, rfl, hB1, hO1⟩; have HC1 : Hid (Below W2.heap.size W2 w1) := Lib.hid (behind (drawn (Below.refl _ _) _) hB1); have HO1 := Lib.hid hO1; clear hB1 hO1)
      | (go_at_call 45; refine (HQ.out _ HC1.out).mono ?_; rintro e w2 ⟨v2, rfl, hB2, hO2⟩; have HR1 := Lib.hid (Ow.rws cellsByte (Ow.below cellsByte HO1.out hB2 (Keeps.refl _)) (fun _ _ h => by cases h)); have HR2 := Lib.hid (Ow.rws cellsByte hO2 (fun _ _ h => by cases h)); have HC2 : Hid (Below W2.heap.size W2 w2) := Lib.hid (behind HC1.out hB2); clear hB2 hO2)
      | (go_at_call 44; refine (HE.out _ _ _ HR1.out HR2.out).mono ?_; rintro e w3 ⟨rfl, hB3⟩; have HC3 : Hid (Below W2.heap.size W2 w3) := Lib.hid (behind HC2.out hB3); clear hB3))
  go_wp2
  go_ret
  exact ⟨rfl, behind HB.out HC3.out⟩
end Go.Proofs.YtldjemlmjfpmjaaGreatDoor
