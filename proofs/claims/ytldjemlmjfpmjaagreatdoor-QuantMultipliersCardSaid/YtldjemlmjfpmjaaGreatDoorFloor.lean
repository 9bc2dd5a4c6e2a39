/-
  Floor of frac and of the reference.
-/
import Derived.Test.YtldjemlmjfpmjaaGreatDoorSgn
import Derived.Test.YtldjemlmjfpmjaaGreatDoorNatAdd
import Derived.Outline
namespace Go.Proofs.YtldjemlmjfpmjaaGreatDoor
open Go.RowKit

/-- the absolute value of the floor -/
def flM (g : Bool) (m d : Nat) : Nat := if g = true ∧ m % d ≠ 0 then m / d + 1 else m / d
theorem flM_false (m d : Nat) : flM false m d = m / d := by unfold flM; simp
theorem flM_zero {m d : Nat} (h : m % d = 0) : flM true m d = m / d := by unfold flM; simp [h]
theorem flM_up {m d : Nat} (h : m % d ≠ 0) : flM true m d = m / d + 1 := by unfold flM; simp [h]
theorem rneg_true (m : Nat) : rneg true m = !decide (m = 0) := by unfold rneg; by_cases h : m = 0 <;> simp [h]
theorem rneg_false (m : Nat) : rneg false m = false := by unfold rneg; split <;> rfl

set_option maxHeartbeats 4000000 in
set_option maxRecDepth 100000 in
theorem ffloor_any (g : Bool) (m d : Nat) (x y : Value) (w : World) (h1 : Nt w x m) (h2 : Nt w y d) (l1 : (Mth.dg 1000000000 m).length ≤ 10000000000) (l2 : (Mth.dg 1000000000 d).length ≤ 10000000000) (h0 : 0 < d) :
    Calls Tryz.prog 145 #[.agg #[.bool g, x, y]] w (FNum (rneg g (flM g m d)) (flM g m d) 1 w) := by
  obtain ⟨A1, n1, k1, rfl⟩ := h1.shape
  obtain ⟨A2, n2, k2, rfl⟩ := h2.shape
  obtain ⟨W, hW⟩ : ∃ W, W = (w.alloc (.cells #[.bool g, .slice A1 n1 k1, .slice A2 n2 k2] 90)).alloc (.cells #[.bool false, .slice none 0 0, .slice none 0 0] 90) := ⟨_, rfl⟩
  have hBW : Below w.heap.size w W := by rw [hW]; exact ((Below.refl _ w).alloc (Nat.le_refl _) _).alloc (by simp) _
  have hk0 : Blk W w.heap.size 90 #[.bool g, .slice A1 n1 k1, .slice A2 n2 k2] := by rw [hW]; exact (Blk.new w _ _).alloc _
  have hk2 : Blk W (w.heap.size + 1) 90 #[.bool false, .slice none 0 0, .slice none 0 0] := by
    rw [hW]
    have := Blk.new (w.alloc (.cells #[.bool g, .slice A1 n1 k1, .slice A2 n2 k2] 90)) 90 #[.bool false, .slice none 0 0, .slice none 0 0]
    rwa [World.size_alloc] at this
  have e0 := hk0.cell 0
  have e1 := hk0.cell 1
  have e2 := hk0.cell 2
  simp only [List.getElem?_toArray, List.getElem?_cons_zero, List.getElem?_cons_succ] at e0 e1 e2
  have z0 := hk2.lt
  have HS : Hid (∀ w', Below W.heap.size W w' → w'.cell? ⟨w.heap.size, 0, none⟩ = some (.bool g) ∧ w'.cell? ⟨w.heap.size, 1, none⟩ = some (.slice A1 n1 k1) ∧ w'.cell? ⟨w.heap.size, 2, none⟩ = some (.slice A2 n2 k2)) := Lib.hid fun w' hb =>
    ⟨(hb.cell (p := ⟨w.heap.size, 0, none⟩) (by show w.heap.size < _; omega)).trans e0, (hb.cell (p := ⟨w.heap.size, 1, none⟩) (by show w.heap.size < _; omega)).trans e1, (hb.cell (p := ⟨w.heap.size, 2, none⟩) (by show w.heap.size < _; omega)).trans e2⟩
  have H1 := Lib.hid (h1.below hBW)
  have H2 := Lib.hid (h2.below hBW)
  have HW := Lib.hid hW
  have HBW := Lib.hid hBW
  have HK2 := Lib.hid hk2
  clear hW hBW hk0 hk2 h1 h2
  obtain ⟨F, hF⟩ : ∃ F, flM g m d = F := ⟨_, rfl⟩
  obtain ⟨q, hqe⟩ : ∃ q, m / d = q := ⟨_, rfl⟩
  obtain ⟨r, hre⟩ : ∃ r, m % d = r := ⟨_, rfl⟩
  rw [hF]
  have HF := Lib.hid hF
  have QEQ := Lib.hid hqe
  have REQ := Lib.hid hre
  have LQ : (Mth.dg 1000000000 q).length ≤ 10000000000 := by rw [← hqe]; exact Nat.le_trans (Mth.dg_len_mono (by omega) (Nat.div_le_self _ _)) l1
  have LR : (Mth.dg 1000000000 r).length ≤ 10000000000 := by rw [← hre]; exact Nat.le_trans (Mth.dg_len_mono (by omega) (Nat.mod_le _ _)) l1
  have L1 : (Mth.dg 1000000000 1).length ≤ 10000000000 := Nat.le_trans (Mth.dg_len_le (b := 1000000000) (by omega) 1 _ (by omega)) (by omega)
  have LS : (Mth.dg 1000000000 (q + 1)).length ≤ 100000000000 := Nat.le_trans (Mth.dg_len_sum (k := 10000000000) (by omega) LQ L1) (by omega)
  have hdiv := div_any m d _ _ _ H1.out H2.out (by omega) (by omega) h0
  rw [hqe, hre] at hdiv
  have HDIV := Lib.hid hdiv
  clear hF hqe hre hdiv h0
  go_enter Tryz.func145, Tryz.ntmps145
  go_wp2_with fail
  rw [← HW.out]
  refine HDIV.out.mono ?_
  rintro e w1 ⟨vq, vr, rfl, hB1, hq, hr⟩
  have HB1 := Lib.hid hB1
  have HQ := Lib.hid hq
  have HR := Lib.hid hr
  obtain ⟨A3, n3, k3, rfl⟩ := hq.shape
  obtain ⟨A4, n4, k4, rfl⟩ := hr.shape
  obtain ⟨p0, p1, p2⟩ := HS.out w1 hB1
  clear hB1 hq hr e0 e1 e2
  cases g with
  | false =>
    go_wp2_with fail
    refine (fone_any _).mono ?_
    rintro e w9 ⟨v9, rfl, hN9, hB9⟩
    have HN9 := Lib.hid hN9
    have HC9 : Hid (Below W.heap.size W w9) := Lib.hid (HB1.out.trans (hB9.mono HB1.out.size))
    obtain ⟨A9, n9, k9, rfl⟩ := hN9.shape
    have HQ9 := Lib.hid (HQ.out.below hB9)
    clear hN9 hB9
    have HBL := HC9
    have hk := HK2.out.low HBL.out
    have c0 := hk.cell 0
    have c1 := hk.cell 1
    have c2 := hk.cell 2
    have f0 := hk.frozen 0
    have f1 := hk.frozen 1
    have f2 := hk.frozen 2
    simp only [List.getElem?_toArray, List.getElem?_cons_zero, List.getElem?_cons_succ] at c0 c1 c2
    have HK3 := Lib.hid hk
    clear hk
    go_wp2
    have e : F = q := by rw [← HF.out, flM_false, QEQ.out]
    rw [e, rneg_false]
    refine bodyPost_ret (v := .agg #[.bool false, .slice A3 n3 k3, .slice A9 n9 k9]) (by simp [results, Tryz.results145, go_sem, c0, c1, c2]) rfl ?_
    exact fnum_end (show w.heap.size ≤ w.heap.size + 1 by omega) (HBW.out.trans (HBL.out.mono HBW.out.size)) HK3.out HQ9.out HN9.out
  | true =>
    go_wp2_with fail
    refine (zero_any r _ _ HR.out (by omega)).mono ?_
    rintro e w2 ⟨rfl, rfl⟩
    by_cases hz : r = 0
    · have hd : decide (r = 0) = true := by simpa using hz
      have HZ := Lib.hid hz
      clear hz
      go_wp2_with fail
      refine (zero_any q _ _ HQ.out (by omega)).mono ?_
      rintro e w3 ⟨rfl, rfl⟩
      go_wp2_with fail
      refine (fone_any _).mono ?_
      rintro e w9 ⟨v9, rfl, hN9, hB9⟩
      have HN9 := Lib.hid hN9
      have HC9 : Hid (Below W.heap.size W w9) := Lib.hid (HB1.out.trans (hB9.mono HB1.out.size))
      obtain ⟨A9, n9, k9, rfl⟩ := hN9.shape
      have HQ9 := Lib.hid (HQ.out.below hB9)
      clear hN9 hB9
      have HBL := HC9
      have hk := HK2.out.low HBL.out
      have c0 := hk.cell 0
      have c1 := hk.cell 1
      have c2 := hk.cell 2
      have f0 := hk.frozen 0
      have f1 := hk.frozen 1
      have f2 := hk.frozen 2
      simp only [List.getElem?_toArray, List.getElem?_cons_zero, List.getElem?_cons_succ] at c0 c1 c2
      have HK3 := Lib.hid hk
      clear hk
      go_wp2
      have e : F = q := by rw [← HF.out, flM_zero (REQ.out.trans HZ.out), QEQ.out]
      rw [e, rneg_true]
      obtain ⟨zb, hzb⟩ : ∃ zb, (!decide (q = 0)) = zb := ⟨_, rfl⟩
      rw [hzb]
      refine bodyPost_ret (v := .agg #[.bool zb, .slice A3 n3 k3, .slice A9 n9 k9]) (by simp [results, Tryz.results145, go_sem, c0, c1, c2]) rfl ?_
      exact fnum_end (show w.heap.size ≤ w.heap.size + 1 by omega) (HBW.out.trans (HBL.out.mono HBW.out.size)) HK3.out HQ9.out HN9.out
    · have hd : decide (r = 0) = false := by simpa using hz
      have HZ := Lib.hid hz
      clear hz
      obtain ⟨q1, hq1⟩ : ∃ q1, q + 1 = q1 := ⟨_, rfl⟩
      try rw [hq1] at LS
      have Q1E := Lib.hid hq1
      go_wp2_with fail
      refine (fone_any _).mono ?_
      rintro e w4 ⟨v4, rfl, hN4, hB4⟩
      have HN4 := Lib.hid hN4
      have HQ4 := Lib.hid (HQ.out.below hB4)
      have HB4 : Hid (Below W.heap.size W w4) := Lib.hid (HB1.out.trans (hB4.mono HB1.out.size))
      clear hN4 hB4
      go_wp2_with fail
      have hadd := fun x y W h1 h2 => add_any q 1 x y W h1 h2 (by omega) (by omega)
      rw [hq1] at hadd
      refine (hadd _ _ _ HQ4.out HN4.out).mono ?_
      clear hadd
      rintro e w5 ⟨v5, rfl, hB5, hN5⟩
      clear hq1
      have HN5 := Lib.hid hN5
      have HB5 : Hid (Below W.heap.size W w5) := Lib.hid (HB4.out.trans (hB5.mono HB4.out.size))
      obtain ⟨A5, n5, k5, rfl⟩ := hN5.shape
      clear hN5 hB5 p0 p1 p2
      obtain ⟨p0, p1, p2⟩ := HS.out w5 HB5.out
      go_wp2_with fail
      refine (zero_any q1 _ _ HN5.out (by omega)).mono ?_
      rintro e w6 ⟨rfl, rfl⟩
      go_wp2_with fail
      refine (fone_any _).mono ?_
      rintro e w9 ⟨v9, rfl, hN9, hB9⟩
      have HN9 := Lib.hid hN9
      have HC9 : Hid (Below W.heap.size W w9) := Lib.hid (HB5.out.trans (hB9.mono HB5.out.size))
      obtain ⟨A9, n9, k9, rfl⟩ := hN9.shape
      have HQ9 := Lib.hid (HN5.out.below hB9)
      clear hN9 hB9
      have HBL := HC9
      have hk := HK2.out.low HBL.out
      have c0 := hk.cell 0
      have c1 := hk.cell 1
      have c2 := hk.cell 2
      have f0 := hk.frozen 0
      have f1 := hk.frozen 1
      have f2 := hk.frozen 2
      simp only [List.getElem?_toArray, List.getElem?_cons_zero, List.getElem?_cons_succ] at c0 c1 c2
      have HK3 := Lib.hid hk
      clear hk
      go_wp2
      have e : F = q1 := by rw [← HF.out, flM_up (fun e => HZ.out (REQ.out.symm.trans e)), QEQ.out, Q1E.out]
      rw [e, rneg_true]
      obtain ⟨zb, hzb⟩ : ∃ zb, (!decide (q1 = 0)) = zb := ⟨_, rfl⟩
      rw [hzb]
      refine bodyPost_ret (v := .agg #[.bool zb, .slice A5 n5 k5, .slice A9 n9 k9]) (by simp [results, Tryz.results145, go_sem, c0, c1, c2]) rfl ?_
      exact fnum_end (show w.heap.size ≤ w.heap.size + 1 by omega) (HBW.out.trans (HBL.out.mono HBW.out.size)) HK3.out HQ9.out HN9.out
set_option maxHeartbeats 4000000 in
set_option maxRecDepth 100000 in
theorem rnfloor_any (g : Bool) (m d : Nat) (x y : Value) (w : World) (h1 : Pt w x m) (h2 : Pt w y d) (l1 : (Mth.dg 10000 m).length ≤ 100000000) (l2 : (Mth.dg 10000 d).length ≤ 100000000) (h0 : 0 < d) :
    Calls Tryz.prog 119 #[.agg #[.bool g, x, y]] w (RNum (rneg g (flM g m d)) (flM g m d) 1 w) := by
  obtain ⟨A1, n1, k1, rfl⟩ := h1.shape
  obtain ⟨A2, n2, k2, rfl⟩ := h2.shape
  obtain ⟨W, hW⟩ : ∃ W, W = (w.alloc (.cells #[.bool g, .slice A1 n1 k1, .slice A2 n2 k2] 52)).alloc (.cells #[.bool false, .slice none 0 0, .slice none 0 0] 52) := ⟨_, rfl⟩
  have hBW : Below w.heap.size w W := by rw [hW]; exact ((Below.refl _ w).alloc (Nat.le_refl _) _).alloc (by simp) _
  have hk0 : Blk W w.heap.size 52 #[.bool g, .slice A1 n1 k1, .slice A2 n2 k2] := by rw [hW]; exact (Blk.new w _ _).alloc _
  have hk2 : Blk W (w.heap.size + 1) 52 #[.bool false, .slice none 0 0, .slice none 0 0] := by
    rw [hW]
    have := Blk.new (w.alloc (.cells #[.bool g, .slice A1 n1 k1, .slice A2 n2 k2] 52)) 52 #[.bool false, .slice none 0 0, .slice none 0 0]
    rwa [World.size_alloc] at this
  have e0 := hk0.cell 0
  have e1 := hk0.cell 1
  have e2 := hk0.cell 2
  simp only [List.getElem?_toArray, List.getElem?_cons_zero, List.getElem?_cons_succ] at e0 e1 e2
  have z0 := hk2.lt
  have HS : Hid (∀ w', Below W.heap.size W w' → w'.cell? ⟨w.heap.size, 0, none⟩ = some (.bool g) ∧ w'.cell? ⟨w.heap.size, 1, none⟩ = some (.slice A1 n1 k1) ∧ w'.cell? ⟨w.heap.size, 2, none⟩ = some (.slice A2 n2 k2)) := Lib.hid fun w' hb =>
    ⟨(hb.cell (p := ⟨w.heap.size, 0, none⟩) (by show w.heap.size < _; omega)).trans e0, (hb.cell (p := ⟨w.heap.size, 1, none⟩) (by show w.heap.size < _; omega)).trans e1, (hb.cell (p := ⟨w.heap.size, 2, none⟩) (by show w.heap.size < _; omega)).trans e2⟩
  have H1 := Lib.hid (h1.below hBW)
  have H2 := Lib.hid (h2.below hBW)
  have HW := Lib.hid hW
  have HBW := Lib.hid hBW
  have HK2 := Lib.hid hk2
  clear hW hBW hk0 hk2 h1 h2
  obtain ⟨F, hF⟩ : ∃ F, flM g m d = F := ⟨_, rfl⟩
  obtain ⟨q, hqe⟩ : ∃ q, m / d = q := ⟨_, rfl⟩
  obtain ⟨r, hre⟩ : ∃ r, m % d = r := ⟨_, rfl⟩
  rw [hF]
  have HF := Lib.hid hF
  have QEQ := Lib.hid hqe
  have REQ := Lib.hid hre
  have LQ : (Mth.dg 10000 q).length ≤ 100000000 := by rw [← hqe]; exact Nat.le_trans (Mth.dg_len_mono (by omega) (Nat.div_le_self _ _)) l1
  have L1 : (Mth.dg 10000 1).length ≤ 100000000 := Nat.le_trans (Mth.dg_len_le (b := 10000) (by omega) 1 _ (by omega)) (by omega)
  have hdiv : Calls Tryz.prog 110 #[.slice A1 n1 k1, .slice A2 n2 k2] W fun e w' => ∃ vq vr, e = .returned (.tuple #[vq, vr]) ∧ Below W.heap.size W w' ∧ Pt w' vq (m / d) ∧ Pt w' vr (m % d) := rdiv_any m d _ _ _ H1.out H2.out (by omega) (by omega) h0
  rw [hqe, hre] at hdiv
  have HDIV := Lib.hid hdiv
  clear hF hqe hre hdiv h0
  go_enter Tryz.func119, Tryz.ntmps119
  go_wp2_with fail
  rw [← HW.out]
  refine HDIV.out.mono ?_
  rintro e w1 ⟨vq, vr, rfl, hB1, hq, hr⟩
  have HB1 := Lib.hid hB1
  have HQ := Lib.hid hq
  obtain ⟨A3, n3, k3, rfl, -, hz3, -⟩ := hq.lenform
  obtain ⟨A4, n4, k4, rfl, -, hz4, -⟩ := hr.lenform
  obtain ⟨p0, p1, p2⟩ := HS.out w1 hB1
  clear hB1 hq hr e0 e1 e2
  cases g with
  | false =>
    go_wp2_with fail
    refine (rof_any 1 _ (by omega)).mono ?_
    rintro e w9 ⟨v9, rfl, hN9, hB9⟩
    have HN9 := Lib.hid hN9
    have HC9 : Hid (Below W.heap.size W w9) := Lib.hid (HB1.out.trans (hB9.mono HB1.out.size))
    obtain ⟨A9, n9, k9, rfl⟩ := hN9.shape
    have HQ9 := Lib.hid (HQ.out.below hB9)
    clear hN9 hB9
    have HBL := HC9
    have hk := HK2.out.low HBL.out
    have c0 := hk.cell 0
    have c1 := hk.cell 1
    have c2 := hk.cell 2
    have f0 := hk.frozen 0
    have f1 := hk.frozen 1
    have f2 := hk.frozen 2
    simp only [List.getElem?_toArray, List.getElem?_cons_zero, List.getElem?_cons_succ] at c0 c1 c2
    have HK3 := Lib.hid hk
    clear hk
    go_wp2
    have e : F = q := by rw [← HF.out, flM_false, QEQ.out]
    rw [e, rneg_false]
    refine bodyPost_ret (v := .agg #[.bool false, .slice A3 n3 k3, .slice A9 n9 k9]) (by simp [results, Tryz.results119, go_sem, c0, c1, c2]) rfl ?_
    exact rnum_end (show w.heap.size ≤ w.heap.size + 1 by omega) (HBW.out.trans (HBL.out.mono HBW.out.size)) HK3.out HQ9.out HN9.out
  | true =>
    rcases hz4 with ⟨hz, hn4⟩ | ⟨hz, hn4⟩
    · subst hn4
      have HZ := Lib.hid hz
      clear hz
      rcases hz3 with ⟨hy, hn3⟩ | ⟨hy, hn3⟩
      · subst hn3
        have HY : Hid ((!decide (q = 0)) = false) := Lib.hid (by simp [hy])
        clear hy
        go_wp2_with fail
        refine (rof_any 1 _ (by omega)).mono ?_
        rintro e w9 ⟨v9, rfl, hN9, hB9⟩
        have HN9 := Lib.hid hN9
        have HC9 : Hid (Below W.heap.size W w9) := Lib.hid (HB1.out.trans (hB9.mono HB1.out.size))
        obtain ⟨A9, n9, k9, rfl⟩ := hN9.shape
        have HQ9 := Lib.hid (HQ.out.below hB9)
        clear hN9 hB9
        have HBL := HC9
        have hk := HK2.out.low HBL.out
        have c0 := hk.cell 0
        have c1 := hk.cell 1
        have c2 := hk.cell 2
        have f0 := hk.frozen 0
        have f1 := hk.frozen 1
        have f2 := hk.frozen 2
        simp only [List.getElem?_toArray, List.getElem?_cons_zero, List.getElem?_cons_succ] at c0 c1 c2
        have HK3 := Lib.hid hk
        clear hk
        go_wp2
        have e : F = q := by rw [← HF.out, flM_zero (REQ.out.trans HZ.out), QEQ.out]
        rw [e, rneg_true, HY.out]
        refine bodyPost_ret (v := .agg #[.bool false, .slice A3 0 k3, .slice A9 n9 k9]) (by simp [results, Tryz.results119, go_sem, c0, c1, c2]) rfl ?_
        exact rnum_end (show w.heap.size ≤ w.heap.size + 1 by omega) (HBW.out.trans (HBL.out.mono HBW.out.size)) HK3.out HQ9.out HN9.out
      · have hn3' : decide (0 < n3) = true := by simpa using hn3
        have HY : Hid ((!decide (q = 0)) = true) := Lib.hid (by simp; omega)
        clear hy
        go_wp2_with fail
        refine (rof_any 1 _ (by omega)).mono ?_
        rintro e w9 ⟨v9, rfl, hN9, hB9⟩
        have HN9 := Lib.hid hN9
        have HC9 : Hid (Below W.heap.size W w9) := Lib.hid (HB1.out.trans (hB9.mono HB1.out.size))
        obtain ⟨A9, n9, k9, rfl⟩ := hN9.shape
        have HQ9 := Lib.hid (HQ.out.below hB9)
        clear hN9 hB9
        have HBL := HC9
        have hk := HK2.out.low HBL.out
        have c0 := hk.cell 0
        have c1 := hk.cell 1
        have c2 := hk.cell 2
        have f0 := hk.frozen 0
        have f1 := hk.frozen 1
        have f2 := hk.frozen 2
        simp only [List.getElem?_toArray, List.getElem?_cons_zero, List.getElem?_cons_succ] at c0 c1 c2
        have HK3 := Lib.hid hk
        clear hk
        go_wp2
        have e : F = q := by rw [← HF.out, flM_zero (REQ.out.trans HZ.out), QEQ.out]
        rw [e, rneg_true, HY.out]
        refine bodyPost_ret (v := .agg #[.bool true, .slice A3 n3 k3, .slice A9 n9 k9]) (by simp [results, Tryz.results119, go_sem, c0, c1, c2]) rfl ?_
        exact rnum_end (show w.heap.size ≤ w.heap.size + 1 by omega) (HBW.out.trans (HBL.out.mono HBW.out.size)) HK3.out HQ9.out HN9.out
    · have hn4' : decide (0 < n4) = true := by simpa using hn4
      have HZ : Hid (r ≠ 0) := Lib.hid (by omega)
      clear hz hz3
      obtain ⟨q1, hq1⟩ : ∃ q1, q + 1 = q1 := ⟨_, rfl⟩
      try rw [hq1] at LS
      have Q1E := Lib.hid hq1
      go_wp2_with fail
      refine (rof_any 1 _ (by omega)).mono ?_
      rintro e w4 ⟨v4, rfl, hN4, hB4⟩
      have HN4 := Lib.hid hN4
      have HQ4 := Lib.hid (HQ.out.below hB4)
      have HB4 : Hid (Below W.heap.size W w4) := Lib.hid (HB1.out.trans (hB4.mono HB1.out.size))
      clear hN4 hB4
      go_wp2_with fail
      have hadd := fun x y W h1 h2 => radd_any q 1 x y W h1 h2 (by omega) (by omega)
      rw [hq1] at hadd
      refine (hadd _ _ _ HQ4.out HN4.out).mono ?_
      clear hadd
      rintro e w5 ⟨v5, rfl, hB5, hN5, -⟩
      have HN5 := Lib.hid hN5
      have HB5 : Hid (Below W.heap.size W w5) := Lib.hid (HB4.out.trans (hB5.mono HB4.out.size))
      obtain ⟨A5, n5, k5, rfl, -, hz5, -⟩ := hN5.lenform
      have hn5n : 0 < n5 := by omega
      have hn5 : decide (0 < n5) = true := by simpa using hn5n
      have HY : Hid ((!decide (q1 = 0)) = true) := Lib.hid (by simp; omega)
      clear hN5 hB5 p0 p1 p2 hz5 hq1
      obtain ⟨p0, p1, p2⟩ := HS.out w5 HB5.out
      go_wp2_with fail
      refine (rof_any 1 _ (by omega)).mono ?_
      rintro e w9 ⟨v9, rfl, hN9, hB9⟩
      have HN9 := Lib.hid hN9
      have HC9 : Hid (Below W.heap.size W w9) := Lib.hid (HB5.out.trans (hB9.mono HB5.out.size))
      obtain ⟨A9, n9, k9, rfl⟩ := hN9.shape
      have HQ9 := Lib.hid (HN5.out.below hB9)
      clear hN9 hB9
      have HBL := HC9
      have hk := HK2.out.low HBL.out
      have c0 := hk.cell 0
      have c1 := hk.cell 1
      have c2 := hk.cell 2
      have f0 := hk.frozen 0
      have f1 := hk.frozen 1
      have f2 := hk.frozen 2
      simp only [List.getElem?_toArray, List.getElem?_cons_zero, List.getElem?_cons_succ] at c0 c1 c2
      have HK3 := Lib.hid hk
      clear hk
      go_wp2
      have e : F = q1 := by rw [← HF.out, flM_up (fun e => HZ.out (REQ.out.symm.trans e)), QEQ.out, Q1E.out]
      rw [e, rneg_true, HY.out]
      refine bodyPost_ret (v := .agg #[.bool true, .slice A5 n5 k5, .slice A9 n9 k9]) (by simp [results, Tryz.results119, go_sem, c0, c1, c2]) rfl ?_
      exact rnum_end (show w.heap.size ≤ w.heap.size + 1 by omega) (HBW.out.trans (HBL.out.mono HBW.out.size)) HK3.out HQ9.out HN9.out
end Go.Proofs.YtldjemlmjfpmjaaGreatDoor
