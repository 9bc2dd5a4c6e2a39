/-
  Mul and Div of the reference's numbers.
-/
import Derived.Test.YtldjemlmjfpmjaaGreatDoorRNum
import Derived.Outline
namespace Go.Proofs.YtldjemlmjfpmjaaGreatDoor
open Go.RowKit

set_option maxHeartbeats 4000000 in
set_option maxRecDepth 100000 in
theorem rnmul_any (na nb : Bool) (m1 d1 m2 d2 : Nat) (x1 y1 x2 y2 : Value) (w : World) (h1 : Pt w x1 m1) (h2 : Pt w y1 d1) (h3 : Pt w x2 m2) (h4 : Pt w y2 d2)
    (l1 : (Mth.dg 10000 m1).length ≤ 1000000) (l2 : (Mth.dg 10000 d1).length ≤ 1000000) (l3 : (Mth.dg 10000 m2).length ≤ 1000000) (l4 : (Mth.dg 10000 d2).length ≤ 1000000) (hpos : 0 < d1 * d2) :
    Calls Tryz.prog 73 #[.agg #[.bool na, x1, y1], .agg #[.bool nb, x2, y2]] w (RNum (rneg (!(na == nb)) (m1 * m2)) (rnum (m1 * m2) (d1 * d2)) (rden (m1 * m2) (d1 * d2)) w) := by
  obtain ⟨W, hW⟩ : ∃ W, W = ((w.alloc (.cells #[.bool na, x1, y1] 52)).alloc (.cells #[.bool nb, x2, y2] 52)).alloc (.cells #[.bool false, .slice none 0 0, .slice none 0 0] 52) := ⟨_, rfl⟩
  have HW := Lib.hid hW
  clear hW
  obtain ⟨A1, n1, k1, rfl⟩ : ∃ A n k, x1 = .slice A n k := by obtain ⟨A, c, e, _⟩ := h1; exact ⟨_, _, _, e⟩
  obtain ⟨A2, n2, k2, rfl⟩ : ∃ A n k, y1 = .slice A n k := by obtain ⟨A, c, e, _⟩ := h2; exact ⟨_, _, _, e⟩
  obtain ⟨A3, n3, k3, rfl⟩ : ∃ A n k, x2 = .slice A n k := by obtain ⟨A, c, e, _⟩ := h3; exact ⟨_, _, _, e⟩
  obtain ⟨A4, n4, k4, rfl⟩ : ∃ A n k, y2 = .slice A n k := by obtain ⟨A, c, e, _⟩ := h4; exact ⟨_, _, _, e⟩
  go_enter Tryz.func73, Tryz.ntmps73
  go_wp2_with fail
  rw [← HW.out]
  have hBW : Below w.heap.size w W := by
    rw [HW.out]
    exact (((Below.refl _ w).alloc (Nat.le_refl _) _).alloc (by simp) _).alloc (by simp; omega) _
  have hk0 : Blk W w.heap.size 52 #[.bool na, .slice A1 n1 k1, .slice A2 n2 k2] := by
    rw [HW.out]; exact ((Blk.new w _ _).alloc _).alloc _
  have hk1 : Blk W (w.heap.size + 1) 52 #[.bool nb, .slice A3 n3 k3, .slice A4 n4 k4] := by
    rw [HW.out]
    have := (Blk.new (w.alloc (.cells #[.bool na, .slice A1 n1 k1, .slice A2 n2 k2] 52)) 52 #[.bool nb, .slice A3 n3 k3, .slice A4 n4 k4]).alloc (.cells #[.bool false, .slice none 0 0, .slice none 0 0] 52)
    rwa [World.size_alloc] at this
  have hk2 : Blk W (w.heap.size + 1 + 1) 52 #[.bool false, .slice none 0 0, .slice none 0 0] := by
    rw [HW.out]
    have := Blk.new ((w.alloc (.cells #[.bool na, .slice A1 n1 k1, .slice A2 n2 k2] 52)).alloc (.cells #[.bool nb, .slice A3 n3 k3, .slice A4 n4 k4] 52)) 52 #[.bool false, .slice none 0 0, .slice none 0 0]
    rwa [World.size_alloc, World.size_alloc] at this
  have e0 := hk0.cell 0
  have e1 := hk0.cell 1
  have e2 := hk0.cell 2
  have e3 := hk1.cell 0
  have e4 := hk1.cell 1
  have e5 := hk1.cell 2
  simp only [List.getElem?_toArray, List.getElem?_cons_zero, List.getElem?_cons_succ] at e0 e1 e2 e3 e4 e5
  have z0 := hk2.lt
  have H1 := Lib.hid (h1.below hBW)
  have H2 := Lib.hid (h2.below hBW)
  have H3 := Lib.hid (h3.below hBW)
  have H4 := Lib.hid (h4.below hBW)
  have HB := Lib.hid hBW
  have HK2 := Lib.hid hk2
  clear h1 h2 h3 h4 hk0 hk1 hk2 hBW
  have tok1 : True := trivial
  have tok2 : True := trivial
  have ll1 : (Mth.dg 10000 (m1 * m2)).length ≤ 100000000 := Nat.le_trans (Mth.dg_len_mul (by omega) m1 m2) (by omega)
  have ll2 : (Mth.dg 10000 (d1 * d2)).length ≤ 100000000 := Nat.le_trans (Mth.dg_len_mul (by omega) d1 d2) (by omega)
  have HS : Hid (∀ w', Below W.heap.size W w' → w'.cell? ⟨w.heap.size, 0, none⟩ = some (.bool na) ∧ w'.cell? ⟨w.heap.size, 1, none⟩ = some (.slice A1 n1 k1) ∧ w'.cell? ⟨w.heap.size, 2, none⟩ = some (.slice A2 n2 k2) ∧
      w'.cell? ⟨w.heap.size + 1, 0, none⟩ = some (.bool nb) ∧ w'.cell? ⟨w.heap.size + 1, 1, none⟩ = some (.slice A3 n3 k3) ∧ w'.cell? ⟨w.heap.size + 1, 2, none⟩ = some (.slice A4 n4 k4)) := Lib.hid fun w' hb =>
    ⟨(hb.cell (p := ⟨w.heap.size, 0, none⟩) (by show w.heap.size < _; omega)).trans e0, (hb.cell (p := ⟨w.heap.size, 1, none⟩) (by show w.heap.size < _; omega)).trans e1, (hb.cell (p := ⟨w.heap.size, 2, none⟩) (by show w.heap.size < _; omega)).trans e2,
      (hb.cell (p := ⟨w.heap.size + 1, 0, none⟩) (by show w.heap.size + 1 < _; omega)).trans e3, (hb.cell (p := ⟨w.heap.size + 1, 1, none⟩) (by show w.heap.size + 1 < _; omega)).trans e4, (hb.cell (p := ⟨w.heap.size + 1, 2, none⟩) (by show w.heap.size + 1 < _; omega)).trans e5⟩
  have HST : Hid (∀ w' y0 y1 y2, Below W.heap.size W w' → (((w'.setCell ⟨w.heap.size + 1 + 1, 0, none⟩ y0).setCell ⟨w.heap.size + 1 + 1, 1, none⟩ y1).setCell ⟨w.heap.size + 1 + 1, 2, none⟩ y2).cell? ⟨w.heap.size, 0, none⟩ = some (.bool na) ∧ (((w'.setCell ⟨w.heap.size + 1 + 1, 0, none⟩ y0).setCell ⟨w.heap.size + 1 + 1, 1, none⟩ y1).setCell ⟨w.heap.size + 1 + 1, 2, none⟩ y2).cell? ⟨w.heap.size, 1, none⟩ = some (.slice A1 n1 k1) ∧ (((w'.setCell ⟨w.heap.size + 1 + 1, 0, none⟩ y0).setCell ⟨w.heap.size + 1 + 1, 1, none⟩ y1).setCell ⟨w.heap.size + 1 + 1, 2, none⟩ y2).cell? ⟨w.heap.size, 2, none⟩ = some (.slice A2 n2 k2) ∧
      (((w'.setCell ⟨w.heap.size + 1 + 1, 0, none⟩ y0).setCell ⟨w.heap.size + 1 + 1, 1, none⟩ y1).setCell ⟨w.heap.size + 1 + 1, 2, none⟩ y2).cell? ⟨w.heap.size + 1, 0, none⟩ = some (.bool nb) ∧ (((w'.setCell ⟨w.heap.size + 1 + 1, 0, none⟩ y0).setCell ⟨w.heap.size + 1 + 1, 1, none⟩ y1).setCell ⟨w.heap.size + 1 + 1, 2, none⟩ y2).cell? ⟨w.heap.size + 1, 1, none⟩ = some (.slice A3 n3 k3) ∧ (((w'.setCell ⟨w.heap.size + 1 + 1, 0, none⟩ y0).setCell ⟨w.heap.size + 1 + 1, 1, none⟩ y1).setCell ⟨w.heap.size + 1 + 1, 2, none⟩ y2).cell? ⟨w.heap.size + 1, 2, none⟩ = some (.slice A4 n4 k4)) := Lib.hid fun w' y0 y1 y2 hb => by
    obtain ⟨q0, q1, q2, q3, q4, q5⟩ := HS.out w' hb
    refine ⟨?_, ?_, ?_, ?_, ?_, ?_⟩ <;> (rw [World.cell?_setCell_other _ _ _ _ (by intro h; injection h with h _; omega), World.cell?_setCell_other _ _ _ _ (by intro h; injection h with h _; omega), World.cell?_setCell_other _ _ _ _ (by intro h; injection h with h _; omega)]; assumption)
  go_region_held3 (fun w' => w'.cell? ⟨w.heap.size, 0, none⟩ = some (.bool na) ∧ w'.cell? ⟨w.heap.size, 1, none⟩ = some (.slice A1 n1 k1) ∧ w'.cell? ⟨w.heap.size, 2, none⟩ = some (.slice A2 n2 k2) ∧
      w'.cell? ⟨w.heap.size + 1, 0, none⟩ = some (.bool nb) ∧ w'.cell? ⟨w.heap.size + 1, 1, none⟩ = some (.slice A3 n3 k3) ∧ w'.cell? ⟨w.heap.size + 1, 2, none⟩ = some (.slice A4 n4 k4))
    (first | exact ⟨e0, e1, e2, e3, e4, e5⟩ | exact HST.out w3 _ _ _ HC3.out | exact HS.out _ HC3.out | exact HS.out _ HC2.out | exact HS.out _ HC1.out | go_keep)
    (first
      | (go_at_call 114; have _t := tok1; refine (rmul_any m1 m2 _ _ _ (Sl.drew H1.out) (Sl.drew H3.out) (by omega) (by omega)).mono ?_; rintro e w1 ⟨v1, rfl, hB1, hN1, -⟩; have HN1 := Lib.hid hN1; have HC1 : Hid (Below W.heap.size W w1) := Lib.hid ((Below.refl _ W).drew.trans hB1); clear hN1 hB1 tok1 _t)
      | (go_at_call 114; have _t := tok2; refine (rmul_any d1 d2 _ _ _ (Sl.below H2.out HC1.out) (Sl.below H4.out HC1.out) (by omega) (by omega)).mono ?_; rintro e w2 ⟨v2, rfl, hB2, hN2, -⟩; have HN2 := Lib.hid hN2; have HN12 := Lib.hid (HN1.out.below hB2); have HC2 : Hid (Below W.heap.size W w2) := Lib.hid (HC1.out.trans (hB2.mono HC1.out.size)); clear hN2 hB2 tok2 _t)
      | (go_at_call 113; refine (rnumOf_any _ (m1 * m2) (d1 * d2) _ _ _ HN12.out HN2.out ll1 ll2 hpos).mono ?_; rintro e w3 ⟨r1, r2, rfl, hR1, hR2, hB3⟩; have HR1 := Lib.hid hR1; have HR2 := Lib.hid hR2; have HC3 : Hid (Below W.heap.size W w3) := Lib.hid (HC2.out.trans (hB3.mono HC2.out.size)); clear hR1 hR2 hB3; obtain ⟨A5, n5, k5, rfl⟩ := HR1.out.shape; obtain ⟨A6, n6, k6, rfl⟩ := HR2.out.shape; have hk := HK2.out.low HC3.out; have c0 := hk.cell 0; have c1 := hk.cell 1; have c2 := hk.cell 2; have f0 := hk.frozen 0; have f1 := hk.frozen 1; have f2 := hk.frozen 2; simp only [List.getElem?_toArray, List.getElem?_cons_zero, List.getElem?_cons_succ] at c0 c1 c2; have HK3 := Lib.hid hk; clear hk))
  go_wp2
  refine bodyPost_ret (v := .agg #[.bool (rneg (!(na == nb)) (m1 * m2)), .slice A5 n5 k5, .slice A6 n6 k6]) (by simp [results, Tryz.results73, go_sem, c0, c1, c2]) rfl ?_
  exact rnum_end (show w.heap.size ≤ w.heap.size + 1 + 1 by omega) (HB.out.trans (HC3.out.mono HB.out.size)) HK3.out HR1.out HR2.out
set_option maxHeartbeats 4000000 in
set_option maxRecDepth 100000 in
theorem rndiv_any (na nb : Bool) (m1 d1 m2 d2 : Nat) (x1 y1 x2 y2 : Value) (w : World) (h1 : Pt w x1 m1) (h2 : Pt w y1 d1) (h3 : Pt w x2 m2) (h4 : Pt w y2 d2)
    (l1 : (Mth.dg 10000 m1).length ≤ 1000000) (l2 : (Mth.dg 10000 d1).length ≤ 1000000) (l3 : (Mth.dg 10000 m2).length ≤ 1000000) (l4 : (Mth.dg 10000 d2).length ≤ 1000000) (hpos : 0 < d1 * m2) :
    Calls Tryz.prog 127 #[.agg #[.bool na, x1, y1], .agg #[.bool nb, x2, y2]] w (RNum (rneg (!(na == nb)) (m1 * d2)) (rnum (m1 * d2) (d1 * m2)) (rden (m1 * d2) (d1 * m2)) w) := by
  obtain ⟨W, hW⟩ : ∃ W, W = ((w.alloc (.cells #[.bool na, x1, y1] 52)).alloc (.cells #[.bool nb, x2, y2] 52)).alloc (.cells #[.bool false, .slice none 0 0, .slice none 0 0] 52) := ⟨_, rfl⟩
  have HW := Lib.hid hW
  clear hW
  obtain ⟨A1, n1, k1, rfl⟩ : ∃ A n k, x1 = .slice A n k := by obtain ⟨A, c, e, _⟩ := h1; exact ⟨_, _, _, e⟩
  obtain ⟨A2, n2, k2, rfl⟩ : ∃ A n k, y1 = .slice A n k := by obtain ⟨A, c, e, _⟩ := h2; exact ⟨_, _, _, e⟩
  obtain ⟨A3, n3, k3, rfl⟩ : ∃ A n k, x2 = .slice A n k := by obtain ⟨A, c, e, _⟩ := h3; exact ⟨_, _, _, e⟩
  obtain ⟨A4, n4, k4, rfl⟩ : ∃ A n k, y2 = .slice A n k := by obtain ⟨A, c, e, _⟩ := h4; exact ⟨_, _, _, e⟩
  go_enter Tryz.func127, Tryz.ntmps127
  go_wp2_with fail
  rw [← HW.out]
  have hBW : Below w.heap.size w W := by
    rw [HW.out]
    exact (((Below.refl _ w).alloc (Nat.le_refl _) _).alloc (by simp) _).alloc (by simp; omega) _
  have hk0 : Blk W w.heap.size 52 #[.bool na, .slice A1 n1 k1, .slice A2 n2 k2] := by
    rw [HW.out]; exact ((Blk.new w _ _).alloc _).alloc _
  have hk1 : Blk W (w.heap.size + 1) 52 #[.bool nb, .slice A3 n3 k3, .slice A4 n4 k4] := by
    rw [HW.out]
    have := (Blk.new (w.alloc (.cells #[.bool na, .slice A1 n1 k1, .slice A2 n2 k2] 52)) 52 #[.bool nb, .slice A3 n3 k3, .slice A4 n4 k4]).alloc (.cells #[.bool false, .slice none 0 0, .slice none 0 0] 52)
    rwa [World.size_alloc] at this
  have hk2 : Blk W (w.heap.size + 1 + 1) 52 #[.bool false, .slice none 0 0, .slice none 0 0] := by
    rw [HW.out]
    have := Blk.new ((w.alloc (.cells #[.bool na, .slice A1 n1 k1, .slice A2 n2 k2] 52)).alloc (.cells #[.bool nb, .slice A3 n3 k3, .slice A4 n4 k4] 52)) 52 #[.bool false, .slice none 0 0, .slice none 0 0]
    rwa [World.size_alloc, World.size_alloc] at this
  have e0 := hk0.cell 0
  have e1 := hk0.cell 1
  have e2 := hk0.cell 2
  have e3 := hk1.cell 0
  have e4 := hk1.cell 1
  have e5 := hk1.cell 2
  simp only [List.getElem?_toArray, List.getElem?_cons_zero, List.getElem?_cons_succ] at e0 e1 e2 e3 e4 e5
  have z0 := hk2.lt
  have H1 := Lib.hid (h1.below hBW)
  have H2 := Lib.hid (h2.below hBW)
  have H3 := Lib.hid (h3.below hBW)
  have H4 := Lib.hid (h4.below hBW)
  have HB := Lib.hid hBW
  have HK2 := Lib.hid hk2
  clear h1 h2 h3 h4 hk0 hk1 hk2 hBW
  have tok1 : True := trivial
  have tok2 : True := trivial
  have ll1 : (Mth.dg 10000 (m1 * d2)).length ≤ 100000000 := Nat.le_trans (Mth.dg_len_mul (by omega) m1 d2) (by omega)
  have ll2 : (Mth.dg 10000 (d1 * m2)).length ≤ 100000000 := Nat.le_trans (Mth.dg_len_mul (by omega) d1 m2) (by omega)
  have HS : Hid (∀ w', Below W.heap.size W w' → w'.cell? ⟨w.heap.size, 0, none⟩ = some (.bool na) ∧ w'.cell? ⟨w.heap.size, 1, none⟩ = some (.slice A1 n1 k1) ∧ w'.cell? ⟨w.heap.size, 2, none⟩ = some (.slice A2 n2 k2) ∧
      w'.cell? ⟨w.heap.size + 1, 0, none⟩ = some (.bool nb) ∧ w'.cell? ⟨w.heap.size + 1, 1, none⟩ = some (.slice A3 n3 k3) ∧ w'.cell? ⟨w.heap.size + 1, 2, none⟩ = some (.slice A4 n4 k4)) := Lib.hid fun w' hb =>
    ⟨(hb.cell (p := ⟨w.heap.size, 0, none⟩) (by show w.heap.size < _; omega)).trans e0, (hb.cell (p := ⟨w.heap.size, 1, none⟩) (by show w.heap.size < _; omega)).trans e1, (hb.cell (p := ⟨w.heap.size, 2, none⟩) (by show w.heap.size < _; omega)).trans e2,
      (hb.cell (p := ⟨w.heap.size + 1, 0, none⟩) (by show w.heap.size + 1 < _; omega)).trans e3, (hb.cell (p := ⟨w.heap.size + 1, 1, none⟩) (by show w.heap.size + 1 < _; omega)).trans e4, (hb.cell (p := ⟨w.heap.size + 1, 2, none⟩) (by show w.heap.size + 1 < _; omega)).trans e5⟩
  have HST : Hid (∀ w' y0 y1 y2, Below W.heap.size W w' → (((w'.setCell ⟨w.heap.size + 1 + 1, 0, none⟩ y0).setCell ⟨w.heap.size + 1 + 1, 1, none⟩ y1).setCell ⟨w.heap.size + 1 + 1, 2, none⟩ y2).cell? ⟨w.heap.size, 0, none⟩ = some (.bool na) ∧ (((w'.setCell ⟨w.heap.size + 1 + 1, 0, none⟩ y0).setCell ⟨w.heap.size + 1 + 1, 1, none⟩ y1).setCell ⟨w.heap.size + 1 + 1, 2, none⟩ y2).cell? ⟨w.heap.size, 1, none⟩ = some (.slice A1 n1 k1) ∧ (((w'.setCell ⟨w.heap.size + 1 + 1, 0, none⟩ y0).setCell ⟨w.heap.size + 1 + 1, 1, none⟩ y1).setCell ⟨w.heap.size + 1 + 1, 2, none⟩ y2).cell? ⟨w.heap.size, 2, none⟩ = some (.slice A2 n2 k2) ∧
      (((w'.setCell ⟨w.heap.size + 1 + 1, 0, none⟩ y0).setCell ⟨w.heap.size + 1 + 1, 1, none⟩ y1).setCell ⟨w.heap.size + 1 + 1, 2, none⟩ y2).cell? ⟨w.heap.size + 1, 0, none⟩ = some (.bool nb) ∧ (((w'.setCell ⟨w.heap.size + 1 + 1, 0, none⟩ y0).setCell ⟨w.heap.size + 1 + 1, 1, none⟩ y1).setCell ⟨w.heap.size + 1 + 1, 2, none⟩ y2).cell? ⟨w.heap.size + 1, 1, none⟩ = some (.slice A3 n3 k3) ∧ (((w'.setCell ⟨w.heap.size + 1 + 1, 0, none⟩ y0).setCell ⟨w.heap.size + 1 + 1, 1, none⟩ y1).setCell ⟨w.heap.size + 1 + 1, 2, none⟩ y2).cell? ⟨w.heap.size + 1, 2, none⟩ = some (.slice A4 n4 k4)) := Lib.hid fun w' y0 y1 y2 hb => by
    obtain ⟨q0, q1, q2, q3, q4, q5⟩ := HS.out w' hb
    refine ⟨?_, ?_, ?_, ?_, ?_, ?_⟩ <;> (rw [World.cell?_setCell_other _ _ _ _ (by intro h; injection h with h _; omega), World.cell?_setCell_other _ _ _ _ (by intro h; injection h with h _; omega), World.cell?_setCell_other _ _ _ _ (by intro h; injection h with h _; omega)]; assumption)
  go_region_held3 (fun w' => w'.cell? ⟨w.heap.size, 0, none⟩ = some (.bool na) ∧ w'.cell? ⟨w.heap.size, 1, none⟩ = some (.slice A1 n1 k1) ∧ w'.cell? ⟨w.heap.size, 2, none⟩ = some (.slice A2 n2 k2) ∧
      w'.cell? ⟨w.heap.size + 1, 0, none⟩ = some (.bool nb) ∧ w'.cell? ⟨w.heap.size + 1, 1, none⟩ = some (.slice A3 n3 k3) ∧ w'.cell? ⟨w.heap.size + 1, 2, none⟩ = some (.slice A4 n4 k4))
    (first | exact ⟨e0, e1, e2, e3, e4, e5⟩ | exact HST.out w3 _ _ _ HC3.out | exact HS.out _ HC3.out | exact HS.out _ HC2.out | exact HS.out _ HC1.out | go_keep)
    (first
      | (go_at_call 114; have _t := tok1; refine (rmul_any m1 d2 _ _ _ (Sl.drew H1.out) (Sl.drew H4.out) (by omega) (by omega)).mono ?_; rintro e w1 ⟨v1, rfl, hB1, hN1, -⟩; have HN1 := Lib.hid hN1; have HC1 : Hid (Below W.heap.size W w1) := Lib.hid ((Below.refl _ W).drew.trans hB1); clear hN1 hB1 tok1 _t)
      | (go_at_call 114; have _t := tok2; refine (rmul_any d1 m2 _ _ _ (Sl.below H2.out HC1.out) (Sl.below H3.out HC1.out) (by omega) (by omega)).mono ?_; rintro e w2 ⟨v2, rfl, hB2, hN2, -⟩; have HN2 := Lib.hid hN2; have HN12 := Lib.hid (HN1.out.below hB2); have HC2 : Hid (Below W.heap.size W w2) := Lib.hid (HC1.out.trans (hB2.mono HC1.out.size)); clear hN2 hB2 tok2 _t)
      | (go_at_call 113; refine (rnumOf_any _ (m1 * d2) (d1 * m2) _ _ _ HN12.out HN2.out ll1 ll2 hpos).mono ?_; rintro e w3 ⟨r1, r2, rfl, hR1, hR2, hB3⟩; have HR1 := Lib.hid hR1; have HR2 := Lib.hid hR2; have HC3 : Hid (Below W.heap.size W w3) := Lib.hid (HC2.out.trans (hB3.mono HC2.out.size)); clear hR1 hR2 hB3; obtain ⟨A5, n5, k5, rfl⟩ := HR1.out.shape; obtain ⟨A6, n6, k6, rfl⟩ := HR2.out.shape; have hk := HK2.out.low HC3.out; have c0 := hk.cell 0; have c1 := hk.cell 1; have c2 := hk.cell 2; have f0 := hk.frozen 0; have f1 := hk.frozen 1; have f2 := hk.frozen 2; simp only [List.getElem?_toArray, List.getElem?_cons_zero, List.getElem?_cons_succ] at c0 c1 c2; have HK3 := Lib.hid hk; clear hk))
  go_wp2
  refine bodyPost_ret (v := .agg #[.bool (rneg (!(na == nb)) (m1 * d2)), .slice A5 n5 k5, .slice A6 n6 k6]) (by simp [results, Tryz.results127, go_sem, c0, c1, c2]) rfl ?_
  exact rnum_end (show w.heap.size ≤ w.heap.size + 1 + 1 by omega) (HB.out.trans (HC3.out.mono HB.out.size)) HK3.out HR1.out HR2.out
end Go.Proofs.YtldjemlmjfpmjaaGreatDoor
