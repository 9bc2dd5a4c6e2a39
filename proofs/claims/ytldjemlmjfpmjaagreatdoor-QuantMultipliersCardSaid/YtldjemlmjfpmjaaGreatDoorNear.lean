/-
  Near of frac and of the reference.
-/
import Derived.Test.YtldjemlmjfpmjaaGreatDoorFloor
import Derived.Test.YtldjemlmjfpmjaaGreatDoorFracAdd
import Derived.Test.YtldjemlmjfpmjaaGreatDoorRNumAdd
import Derived.Test.YtldjemlmjfpmjaaGreatDoorVal
import Derived.Deep.RegionHeld3
import Derived.Outline
namespace Go.Proofs.YtldjemlmjfpmjaaGreatDoor
open Go.RowKit

/-- the number plus a half: the part above before it is reduced, its sign, and the reduced parts -/
def hfA (g : Bool) (m d : Nat) : Nat := addM g false (m * 2) (1 * d)
def hfS (g : Bool) (m d : Nat) : Bool := rneg (addS g false (m * 2) (1 * d)) (hfA g m d)
def hfN (g : Bool) (m d : Nat) : Nat := rnum (hfA g m d) (d * 2)
def hfD (g : Bool) (m d : Nat) : Nat := rden (hfA g m d) (d * 2)
/-- the nearest whole number: the absolute value and the sign -/
def neM (g : Bool) (m d : Nat) : Nat := flM (hfS g m d) (hfN g m d) (hfD g m d)
def neS (g : Bool) (m d : Nat) : Bool := rneg (hfS g m d) (neM g m d)
theorem rden_pos {m n : Nat} (hn : 0 < n) : 0 < rden m n := by
  unfold rden; split
  · omega
  · exact Nat.div_pos (Nat.le_of_dvd hn (Nat.gcd_dvd_right m n)) (Nat.gcd_pos_of_pos_right _ hn)
theorem hfA_len {b k : Nat} (hb : 10 ≤ b) (g : Bool) {m d : Nat} (h1 : (Mth.dg b m).length ≤ k) (h2 : (Mth.dg b d).length ≤ k) : (Mth.dg b (hfA g m d)).length ≤ k + 3 := by
  have l2 : (Mth.dg b 2).length ≤ 1 := Mth.dg_len_le (by omega) 1 _ (by rw [Nat.pow_one]; omega)
  have hx : (Mth.dg b (m * 2)).length ≤ k + 1 := Nat.le_trans (Mth.dg_len_mul (by omega) _ _) (by omega)
  have hy : (Mth.dg b (1 * d)).length ≤ k + 1 := by rw [Nat.one_mul]; omega
  unfold hfA addM
  split
  · exact Nat.le_trans (Mth.dg_len_sum (by omega) hx hy) (by omega)
  · split
    · exact Nat.le_trans (Mth.dg_len_mono (by omega) (Nat.sub_le _ _)) (by omega)
    · exact Nat.le_trans (Mth.dg_len_mono (by omega) (Nat.sub_le _ _)) (by omega)
theorem hfN_len {b k : Nat} (hb : 10 ≤ b) (g : Bool) {m d : Nat} (h1 : (Mth.dg b m).length ≤ k) (h2 : (Mth.dg b d).length ≤ k) : (Mth.dg b (hfN g m d)).length ≤ k + 3 :=
  Nat.le_trans (Mth.dg_len_mono (by omega) (rnum_le _ _)) (hfA_len hb g h1 h2)
theorem hfD_len {b k : Nat} (hb : 10 ≤ b) (g : Bool) {m d : Nat} (h2 : (Mth.dg b d).length ≤ k) (hd : 0 < d) : (Mth.dg b (hfD g m d)).length ≤ k + 3 := by
  have l2 : (Mth.dg b 2).length ≤ 1 := Mth.dg_len_le (by omega) 1 _ (by rw [Nat.pow_one]; omega)
  exact Nat.le_trans (Mth.dg_len_mono (by omega) (rden_le (by omega))) (Nat.le_trans (Mth.dg_len_mul (by omega) _ _) (by omega))
theorem neM_len {b k : Nat} (hb : 10 ≤ b) (g : Bool) {m d : Nat} (h1 : (Mth.dg b m).length ≤ k) (h2 : (Mth.dg b d).length ≤ k) : (Mth.dg b (neM g m d)).length ≤ k + 5 := by
  have l1 : (Mth.dg b 1).length ≤ k + 4 := Nat.le_trans (Mth.dg_len_le (by omega) 1 _ (by rw [Nat.pow_one]; omega)) (by omega)
  have hq : (Mth.dg b (hfN g m d / hfD g m d)).length ≤ k + 3 := Nat.le_trans (Mth.dg_len_mono (by omega) (Nat.div_le_self _ _)) (hfN_len hb g h1 h2)
  unfold neM flM
  split
  · exact Nat.le_trans (Mth.dg_len_sum (k := k + 4) (by omega) (by omega) l1) (by omega)
  · omega
theorem half_quo : qneg 1 2 = false ∧ qnum 1 2 = 1 ∧ qden 1 2 = 2 := by decide +kernel

set_option maxHeartbeats 4000000 in
set_option maxRecDepth 100000 in
theorem fnear_any (g : Bool) (m d : Nat) (x y : Value) (w : World) (h1 : Nt w x m) (h2 : Nt w y d) (l1 : (Mth.dg 1000000000 m).length ≤ 1000000) (l2 : (Mth.dg 1000000000 d).length ≤ 1000000) (h0 : 0 < d) :
    Calls Tryz.prog 105 #[.agg #[.bool g, x, y]] w (FNum (neS g m d) (neM g m d) 1 w) := by
  obtain ⟨A1, n1, k1, rfl⟩ := h1.shape
  obtain ⟨A2, n2, k2, rfl⟩ := h2.shape
  obtain ⟨W, hW⟩ : ∃ W, W = (w.alloc (.cells #[.bool g, .slice A1 n1 k1, .slice A2 n2 k2] 90)).alloc (.cells #[.bool false, .slice none 0 0, .slice none 0 0] 90) := ⟨_, rfl⟩
  have hBW : Below w.heap.size w W := by rw [hW]; exact ((Below.refl _ w).alloc (Nat.le_refl _) _).alloc (by simp) _
  have hk0 : Blk W w.heap.size 90 #[.bool g, .slice A1 n1 k1, .slice A2 n2 k2] := by rw [hW]; exact (Blk.new w _ _).alloc _
  have hk2 : Blk W (w.heap.size + 1) 90 #[.bool false, .slice none 0 0, .slice none 0 0] := by
    rw [hW]
    have := Blk.new (w.alloc (.cells #[.bool g, .slice A1 n1 k1, .slice A2 n2 k2] 90)) 90 #[.bool false, .slice none 0 0, .slice none 0 0]
    rwa [World.size_alloc] at this
  have e0 := hk0.cell 0
  have e1 := hk0.cell 1
  have e2 := hk0.cell 2
  simp only [List.getElem?_toArray, List.getElem?_cons_zero, List.getElem?_cons_succ] at e0 e1 e2
  have z0 := hk2.lt
  have HS : Hid (∀ w', Below W.heap.size W w' → w'.cell? ⟨w.heap.size, 0, none⟩ = some (.bool g) ∧ w'.cell? ⟨w.heap.size, 1, none⟩ = some (.slice A1 n1 k1) ∧ w'.cell? ⟨w.heap.size, 2, none⟩ = some (.slice A2 n2 k2)) := Lib.hid fun w' hb =>
    ⟨(hb.cell (p := ⟨w.heap.size, 0, none⟩) (by show w.heap.size < _; omega)).trans e0, (hb.cell (p := ⟨w.heap.size, 1, none⟩) (by show w.heap.size < _; omega)).trans e1, (hb.cell (p := ⟨w.heap.size, 2, none⟩) (by show w.heap.size < _; omega)).trans e2⟩
  have HST : Hid (∀ w' y0 y1 y2, Below W.heap.size W w' → (((w'.setCell ⟨w.heap.size + 1, 0, none⟩ y0).setCell ⟨w.heap.size + 1, 1, none⟩ y1).setCell ⟨w.heap.size + 1, 2, none⟩ y2).cell? ⟨w.heap.size, 0, none⟩ = some (.bool g) ∧ (((w'.setCell ⟨w.heap.size + 1, 0, none⟩ y0).setCell ⟨w.heap.size + 1, 1, none⟩ y1).setCell ⟨w.heap.size + 1, 2, none⟩ y2).cell? ⟨w.heap.size, 1, none⟩ = some (.slice A1 n1 k1) ∧ (((w'.setCell ⟨w.heap.size + 1, 0, none⟩ y0).setCell ⟨w.heap.size + 1, 1, none⟩ y1).setCell ⟨w.heap.size + 1, 2, none⟩ y2).cell? ⟨w.heap.size, 2, none⟩ = some (.slice A2 n2 k2)) := Lib.hid fun w' y0 y1 y2 hb => by
    obtain ⟨q0, q1, q2⟩ := HS.out w' hb
    refine ⟨?_, ?_, ?_⟩ <;> (rw [World.cell?_setCell_other _ _ _ _ (by intro h; injection h with h _; omega), World.cell?_setCell_other _ _ _ _ (by intro h; injection h with h _; omega), World.cell?_setCell_other _ _ _ _ (by intro h; injection h with h _; omega)]; assumption)
  have H1 := Lib.hid (h1.below hBW)
  have H2 := Lib.hid (h2.below hBW)
  have HW := Lib.hid hW
  have HBW := Lib.hid hBW
  have HK2 := Lib.hid hk2
  have hquo := fun W => quot_any 1 2 W (by omega) (by omega) (by omega) (by omega) (by omega)
  rw [half_quo.1, half_quo.2.1, half_quo.2.2] at hquo
  have HQUO := Lib.hid hquo
  have HADD : Hid (∀ (u1 u2 u3 u4 : Value) (W : World) (a1 : Nt W u1 m) (a2 : Nt W u2 d) (a3 : Nt W u3 1) (a4 : Nt W u4 2), Calls Tryz.prog 146 #[.agg #[.bool g, u1, u2], .agg #[.bool false, u3, u4]] W (FNum (hfS g m d) (hfN g m d) (hfD g m d) W)) := Lib.hid (fun u1 u2 u3 u4 W a1 a2 a3 a4 => fadd_any g false m d 1 2 u1 u2 u3 u4 W a1 a2 a3 a4 l1 l2 (Nat.le_trans (Mth.dg_len_le (b := 1000000000) (by omega) 1 _ (by omega)) (by omega)) (Nat.le_trans (Mth.dg_len_le (b := 1000000000) (by omega) 1 _ (by omega)) (by omega)) (by omega))
  have HFLO : Hid (∀ (u1 u2 : Value) (W : World) (a1 : Nt W u1 (hfN g m d)) (a2 : Nt W u2 (hfD g m d)), Calls Tryz.prog 145 #[.agg #[.bool (hfS g m d), u1, u2]] W (FNum (neS g m d) (neM g m d) 1 W)) := Lib.hid (fun u1 u2 W a1 a2 => ffloor_any (hfS g m d) (hfN g m d) (hfD g m d) u1 u2 W a1 a2 (Nat.le_trans (hfN_len (by omega) g l1 l2) (by omega)) (Nat.le_trans (hfD_len (by omega) g l2 h0) (by omega)) (rden_pos (by omega)))
  clear hW hBW hk0 hk2 h1 h2 hquo
  go_enter Tryz.func105, Tryz.ntmps105
  go_wp2_with fail
  rw [← HW.out]
  go_region_held3 (fun w' => w'.cell? ⟨w.heap.size, 0, none⟩ = some (.bool g) ∧ w'.cell? ⟨w.heap.size, 1, none⟩ = some (.slice A1 n1 k1) ∧ w'.cell? ⟨w.heap.size, 2, none⟩ = some (.slice A2 n2 k2))
    (first | exact ⟨e0, e1, e2⟩ | exact HST.out w3 _ _ _ HC3.out | go_keep)
    (first
      | (go_at_call 133; refine (HQUO.out _).mono ?_; rintro e w1 ⟨v1, v2, rfl, hN1, hN2, hB1⟩; have HN1 := Lib.hid hN1; have HN2 := Lib.hid hN2; have HC1 : Hid (Below W.heap.size W w1) := Lib.hid ((Below.refl _ W).drew.trans hB1); clear hN1 hN2 hB1 e0 e1 e2; obtain ⟨e0, e1, e2⟩ := HS.out w1 HC1.out)
      | (go_at_call 146; refine (HADD.out _ _ _ _ _ (H1.out.below HC1.out) (H2.out.below HC1.out) HN1.out HN2.out).mono ?_; rintro e w2 ⟨v3, v4, rfl, hN3, hN4, hB2⟩; have HN3 := Lib.hid hN3; have HN4 := Lib.hid hN4; have HC2 : Hid (Below W.heap.size W w2) := Lib.hid (HC1.out.trans (hB2.mono HC1.out.size)); clear hN3 hN4 hB2 e0 e1 e2; obtain ⟨e0, e1, e2⟩ := HS.out w2 HC2.out)
      | (go_at_call 145; refine (HFLO.out _ _ _ HN3.out HN4.out).mono ?_; rintro e w3 ⟨r1, r2, rfl, hR1, hR2, hB3⟩; have HR1 := Lib.hid hR1; have HR2 := Lib.hid hR2; have HC3 : Hid (Below W.heap.size W w3) := Lib.hid (HC2.out.trans (hB3.mono HC2.out.size)); clear hR1 hR2 hB3 e0 e1 e2; obtain ⟨e0, e1, e2⟩ := HS.out w3 HC3.out; obtain ⟨A5, n5, k5, rfl⟩ := HR1.out.shape; obtain ⟨A6, n6, k6, rfl⟩ := HR2.out.shape; have hk := HK2.out.low HC3.out; have c0 := hk.cell 0; have c1 := hk.cell 1; have c2 := hk.cell 2; have f0 := hk.frozen 0; have f1 := hk.frozen 1; have f2 := hk.frozen 2; simp only [List.getElem?_toArray, List.getElem?_cons_zero, List.getElem?_cons_succ] at c0 c1 c2; have HK3 := Lib.hid hk; clear hk))
  go_wp2
  refine bodyPost_ret (v := .agg #[.bool (neS g m d), .slice A5 n5 k5, .slice A6 n6 k6]) (by simp [results, Tryz.results105, go_sem, c0, c1, c2]) rfl ?_
  exact fnum_end (show w.heap.size ≤ w.heap.size + 1 by omega) (HBW.out.trans (HC3.out.mono HBW.out.size)) HK3.out HR1.out HR2.out

set_option maxHeartbeats 4000000 in
set_option maxRecDepth 100000 in
theorem rnnear_any (g : Bool) (m d : Nat) (x y : Value) (w : World) (h1 : Pt w x m) (h2 : Pt w y d) (l1 : (Mth.dg 10000 m).length ≤ 1000000) (l2 : (Mth.dg 10000 d).length ≤ 1000000) (h0 : 0 < d) :
    Calls Tryz.prog 75 #[.agg #[.bool g, x, y]] w (RNum (neS g m d) (neM g m d) 1 w) := by
  obtain ⟨A1, n1, k1, rfl⟩ := h1.shape
  obtain ⟨A2, n2, k2, rfl⟩ := h2.shape
  obtain ⟨W, hW⟩ : ∃ W, W = (w.alloc (.cells #[.bool g, .slice A1 n1 k1, .slice A2 n2 k2] 52)).alloc (.cells #[.bool false, .slice none 0 0, .slice none 0 0] 52) := ⟨_, rfl⟩
  have hBW : Below w.heap.size w W := by rw [hW]; exact ((Below.refl _ w).alloc (Nat.le_refl _) _).alloc (by simp) _
  have hk0 : Blk W w.heap.size 52 #[.bool g, .slice A1 n1 k1, .slice A2 n2 k2] := by rw [hW]; exact (Blk.new w _ _).alloc _
  have hk2 : Blk W (w.heap.size + 1) 52 #[.bool false, .slice none 0 0, .slice none 0 0] := by
    rw [hW]
    have := Blk.new (w.alloc (.cells #[.bool g, .slice A1 n1 k1, .slice A2 n2 k2] 52)) 52 #[.bool false, .slice none 0 0, .slice none 0 0]
    rwa [World.size_alloc] at this
  have e0 := hk0.cell 0
  have e1 := hk0.cell 1
  have e2 := hk0.cell 2
  simp only [List.getElem?_toArray, List.getElem?_cons_zero, List.getElem?_cons_succ] at e0 e1 e2
  have z0 := hk2.lt
  have HS : Hid (∀ w', Below W.heap.size W w' → w'.cell? ⟨w.heap.size, 0, none⟩ = some (.bool g) ∧ w'.cell? ⟨w.heap.size, 1, none⟩ = some (.slice A1 n1 k1) ∧ w'.cell? ⟨w.heap.size, 2, none⟩ = some (.slice A2 n2 k2)) := Lib.hid fun w' hb =>
    ⟨(hb.cell (p := ⟨w.heap.size, 0, none⟩) (by show w.heap.size < _; omega)).trans e0, (hb.cell (p := ⟨w.heap.size, 1, none⟩) (by show w.heap.size < _; omega)).trans e1, (hb.cell (p := ⟨w.heap.size, 2, none⟩) (by show w.heap.size < _; omega)).trans e2⟩
  have HST : Hid (∀ w' y0 y1 y2, Below W.heap.size W w' → (((w'.setCell ⟨w.heap.size + 1, 0, none⟩ y0).setCell ⟨w.heap.size + 1, 1, none⟩ y1).setCell ⟨w.heap.size + 1, 2, none⟩ y2).cell? ⟨w.heap.size, 0, none⟩ = some (.bool g) ∧ (((w'.setCell ⟨w.heap.size + 1, 0, none⟩ y0).setCell ⟨w.heap.size + 1, 1, none⟩ y1).setCell ⟨w.heap.size + 1, 2, none⟩ y2).cell? ⟨w.heap.size, 1, none⟩ = some (.slice A1 n1 k1) ∧ (((w'.setCell ⟨w.heap.size + 1, 0, none⟩ y0).setCell ⟨w.heap.size + 1, 1, none⟩ y1).setCell ⟨w.heap.size + 1, 2, none⟩ y2).cell? ⟨w.heap.size, 2, none⟩ = some (.slice A2 n2 k2)) := Lib.hid fun w' y0 y1 y2 hb => by
    obtain ⟨q0, q1, q2⟩ := HS.out w' hb
    refine ⟨?_, ?_, ?_⟩ <;> (rw [World.cell?_setCell_other _ _ _ _ (by intro h; injection h with h _; omega), World.cell?_setCell_other _ _ _ _ (by intro h; injection h with h _; omega), World.cell?_setCell_other _ _ _ _ (by intro h; injection h with h _; omega)]; assumption)
  have H1 := Lib.hid (h1.below hBW)
  have H2 := Lib.hid (h2.below hBW)
  have HW := Lib.hid hW
  have HBW := Lib.hid hBW
  have HK2 := Lib.hid hk2
  have hquo := fun W => rquo_any 1 2 W (by omega) (by omega) (by omega) (by omega) (by omega)
  rw [half_quo.1, half_quo.2.1, half_quo.2.2] at hquo
  have HQUO := Lib.hid hquo
  have HADD : Hid (∀ (u1 u2 u3 u4 : Value) (W : World) (a1 : Pt W u1 m) (a2 : Pt W u2 d) (a3 : Pt W u3 1) (a4 : Pt W u4 2), Calls Tryz.prog 117 #[.agg #[.bool g, u1, u2], .agg #[.bool false, u3, u4]] W (RNum (hfS g m d) (hfN g m d) (hfD g m d) W)) := Lib.hid (fun u1 u2 u3 u4 W a1 a2 a3 a4 => rnadd_any g false m d 1 2 u1 u2 u3 u4 W a1 a2 a3 a4 l1 l2 (Nat.le_trans (Mth.dg_len_le (b := 10000) (by omega) 1 _ (by omega)) (by omega)) (Nat.le_trans (Mth.dg_len_le (b := 10000) (by omega) 1 _ (by omega)) (by omega)) (by omega))
  have HFLO : Hid (∀ (u1 u2 : Value) (W : World) (a1 : Pt W u1 (hfN g m d)) (a2 : Pt W u2 (hfD g m d)), Calls Tryz.prog 119 #[.agg #[.bool (hfS g m d), u1, u2]] W (RNum (neS g m d) (neM g m d) 1 W)) := Lib.hid (fun u1 u2 W a1 a2 => rnfloor_any (hfS g m d) (hfN g m d) (hfD g m d) u1 u2 W a1 a2 (Nat.le_trans (hfN_len (by omega) g l1 l2) (by omega)) (Nat.le_trans (hfD_len (by omega) g l2 h0) (by omega)) (rden_pos (by omega)))
  clear hW hBW hk0 hk2 h1 h2 hquo
  go_enter Tryz.func75, Tryz.ntmps75
  go_wp2_with fail
  rw [← HW.out]
  go_region_held3 (fun w' => w'.cell? ⟨w.heap.size, 0, none⟩ = some (.bool g) ∧ w'.cell? ⟨w.heap.size, 1, none⟩ = some (.slice A1 n1 k1) ∧ w'.cell? ⟨w.heap.size, 2, none⟩ = some (.slice A2 n2 k2))
    (first | exact ⟨e0, e1, e2⟩ | exact HST.out w3 _ _ _ HC3.out | go_keep)
    (first
      | (go_at_call 118; refine (HQUO.out _).mono ?_; rintro e w1 ⟨v1, v2, rfl, hN1, hN2, hB1⟩; have HN1 := Lib.hid hN1; have HN2 := Lib.hid hN2; have HC1 : Hid (Below W.heap.size W w1) := Lib.hid ((Below.refl _ W).drew.trans hB1); clear hN1 hN2 hB1 e0 e1 e2; obtain ⟨e0, e1, e2⟩ := HS.out w1 HC1.out)
      | (go_at_call 117; refine (HADD.out _ _ _ _ _ (H1.out.below HC1.out) (H2.out.below HC1.out) HN1.out HN2.out).mono ?_; rintro e w2 ⟨v3, v4, rfl, hN3, hN4, hB2⟩; have HN3 := Lib.hid hN3; have HN4 := Lib.hid hN4; have HC2 : Hid (Below W.heap.size W w2) := Lib.hid (HC1.out.trans (hB2.mono HC1.out.size)); clear hN3 hN4 hB2 e0 e1 e2; obtain ⟨e0, e1, e2⟩ := HS.out w2 HC2.out)
      | (go_at_call 119; refine (HFLO.out _ _ _ HN3.out HN4.out).mono ?_; rintro e w3 ⟨r1, r2, rfl, hR1, hR2, hB3⟩; have HR1 := Lib.hid hR1; have HR2 := Lib.hid hR2; have HC3 : Hid (Below W.heap.size W w3) := Lib.hid (HC2.out.trans (hB3.mono HC2.out.size)); clear hR1 hR2 hB3 e0 e1 e2; obtain ⟨e0, e1, e2⟩ := HS.out w3 HC3.out; obtain ⟨A5, n5, k5, rfl⟩ := HR1.out.shape; obtain ⟨A6, n6, k6, rfl⟩ := HR2.out.shape; have hk := HK2.out.low HC3.out; have c0 := hk.cell 0; have c1 := hk.cell 1; have c2 := hk.cell 2; have f0 := hk.frozen 0; have f1 := hk.frozen 1; have f2 := hk.frozen 2; simp only [List.getElem?_toArray, List.getElem?_cons_zero, List.getElem?_cons_succ] at c0 c1 c2; have HK3 := Lib.hid hk; clear hk))
  go_wp2
  refine bodyPost_ret (v := .agg #[.bool (neS g m d), .slice A5 n5 k5, .slice A6 n6 k6]) (by simp [results, Tryz.results75, go_sem, c0, c1, c2]) rfl ?_
  exact rnum_end (show w.heap.size ≤ w.heap.size + 1 by omega) (HBW.out.trans (HC3.out.mono HBW.out.size)) HK3.out HR1.out HR2.out
end Go.Proofs.YtldjemlmjfpmjaaGreatDoor
