/-
  Num.Add of the reference.
-/
import Derived.Test.YtldjemlmjfpmjaaGreatDoorRD
import Derived.Outline
namespace Go.Proofs.YtldjemlmjfpmjaaGreatDoor
open Go.RowKit

set_option maxHeartbeats 8000000 in
set_option maxRecDepth 100000 in
theorem rnadd_any (na nb : Bool) (m1 d1 m2 d2 : Nat) (x1 y1 x2 y2 : Value) (w : World) (h1 : Pt w x1 m1) (h2 : Pt w y1 d1) (h3 : Pt w x2 m2) (h4 : Pt w y2 d2)
    (l1 : (Mth.dg 10000 m1).length ≤ 1000000) (l2 : (Mth.dg 10000 d1).length ≤ 1000000) (l3 : (Mth.dg 10000 m2).length ≤ 1000000) (l4 : (Mth.dg 10000 d2).length ≤ 1000000) (hpos : 0 < d1 * d2) :
    Calls Tryz.prog 117 #[.agg #[.bool na, x1, y1], .agg #[.bool nb, x2, y2]] w (RNum (rneg (addS na nb (m1 * d2) (m2 * d1)) (addM na nb (m1 * d2) (m2 * d1))) (rnum (addM na nb (m1 * d2) (m2 * d1)) (d1 * d2)) (rden (addM na nb (m1 * d2) (m2 * d1)) (d1 * d2)) w) := by
  obtain ⟨A1, n1, k1, rfl⟩ := h1.shape
  obtain ⟨A2, n2, k2, rfl⟩ := h2.shape
  obtain ⟨A3, n3, k3, rfl⟩ := h3.shape
  obtain ⟨A4, n4, k4, rfl⟩ := h4.shape
  obtain ⟨W, hW⟩ : ∃ W, W = ((w.alloc (.cells #[.bool na, .slice A1 n1 k1, .slice A2 n2 k2] 52)).alloc (.cells #[.bool nb, .slice A3 n3 k3, .slice A4 n4 k4] 52)).alloc (.cells #[.bool false, .slice none 0 0, .slice none 0 0] 52) := ⟨_, rfl⟩
  have HW := Lib.hid hW
  clear hW
  have hBW : Below w.heap.size w W := by
    rw [HW.out]
    exact (((Below.refl _ w).alloc (Nat.le_refl _) _).alloc (by simp) _).alloc (by simp; omega) _
  have hk0 : Blk W w.heap.size 52 #[.bool na, .slice A1 n1 k1, .slice A2 n2 k2] := by
    rw [HW.out]; exact ((Blk.new w _ _).alloc _).alloc _
  have hk1 : Blk W (w.heap.size + 1) 52 #[.bool nb, .slice A3 n3 k3, .slice A4 n4 k4] := by
    rw [HW.out]
    have := (Blk.new (w.alloc (.cells #[.bool na, .slice A1 n1 k1, .slice A2 n2 k2] 52)) 52 #[.bool nb, .slice A3 n3 k3, .slice A4 n4 k4]).alloc (.cells #[.bool false, .slice none 0 0, .slice none 0 0] 52)
    rwa [World.size_alloc] at this
  have hk2 : Blk W (w.heap.size + 1 + 1) 52 #[.bool false, .slice none 0 0, .slice none 0 0] := by
    rw [HW.out]
    have := Blk.new ((w.alloc (.cells #[.bool na, .slice A1 n1 k1, .slice A2 n2 k2] 52)).alloc (.cells #[.bool nb, .slice A3 n3 k3, .slice A4 n4 k4] 52)) 52 #[.bool false, .slice none 0 0, .slice none 0 0]
    rwa [World.size_alloc, World.size_alloc] at this
  have e0 := hk0.cell 0
  have e1 := hk0.cell 1
  have e2 := hk0.cell 2
  have e3 := hk1.cell 0
  have e4 := hk1.cell 1
  have e5 := hk1.cell 2
  simp only [List.getElem?_toArray, List.getElem?_cons_zero, List.getElem?_cons_succ] at e0 e1 e2 e3 e4 e5
  have z0 := hk2.lt
  have H1 := Lib.hid (h1.below hBW)
  have H2 := Lib.hid (h2.below hBW)
  have H3 := Lib.hid (h3.below hBW)
  have H4 := Lib.hid (h4.below hBW)
  have HB := Lib.hid hBW
  have HK2 := Lib.hid hk2
  have HS : Hid (∀ w', Below W.heap.size W w' → w'.cell? ⟨w.heap.size, 0, none⟩ = some (.bool na) ∧ w'.cell? ⟨w.heap.size, 1, none⟩ = some (.slice A1 n1 k1) ∧ w'.cell? ⟨w.heap.size, 2, none⟩ = some (.slice A2 n2 k2) ∧ w'.cell? ⟨w.heap.size + 1, 0, none⟩ = some (.bool nb) ∧ w'.cell? ⟨w.heap.size + 1, 1, none⟩ = some (.slice A3 n3 k3) ∧ w'.cell? ⟨w.heap.size + 1, 2, none⟩ = some (.slice A4 n4 k4)) := Lib.hid fun w' hb =>
    ⟨(hb.cell (p := ⟨w.heap.size, 0, none⟩) (by show w.heap.size < _; omega)).trans e0, (hb.cell (p := ⟨w.heap.size, 1, none⟩) (by show w.heap.size < _; omega)).trans e1, (hb.cell (p := ⟨w.heap.size, 2, none⟩) (by show w.heap.size < _; omega)).trans e2,
      (hb.cell (p := ⟨w.heap.size + 1, 0, none⟩) (by show w.heap.size + 1 < _; omega)).trans e3, (hb.cell (p := ⟨w.heap.size + 1, 1, none⟩) (by show w.heap.size + 1 < _; omega)).trans e4, (hb.cell (p := ⟨w.heap.size + 1, 2, none⟩) (by show w.heap.size + 1 < _; omega)).trans e5⟩
  clear h1 h2 h3 h4 hk0 hk1 hk2 hBW
  have hx : (Mth.dg 10000 (m1 * d2)).length ≤ 2 * 1000000 := Nat.le_trans (Mth.dg_len_mul (by omega) m1 d2) (by omega)
  have hy : (Mth.dg 10000 (m2 * d1)).length ≤ 2 * 1000000 := Nat.le_trans (Mth.dg_len_mul (by omega) m2 d1) (by omega)
  have hd : (Mth.dg 10000 (d1 * d2)).length ≤ 2 * 1000000 := Nat.le_trans (Mth.dg_len_mul (by omega) d1 d2) (by omega)
  have tok1 : True := trivial
  have tok2 : True := trivial
  go_enter Tryz.func117, Tryz.ntmps117
  go_wp2_with fail
  rw [← HW.out]
  go_region_held3 (fun w' => w'.cell? ⟨w.heap.size, 0, none⟩ = some (.bool na) ∧ w'.cell? ⟨w.heap.size, 1, none⟩ = some (.slice A1 n1 k1) ∧ w'.cell? ⟨w.heap.size, 2, none⟩ = some (.slice A2 n2 k2) ∧ w'.cell? ⟨w.heap.size + 1, 0, none⟩ = some (.bool nb) ∧ w'.cell? ⟨w.heap.size + 1, 1, none⟩ = some (.slice A3 n3 k3) ∧ w'.cell? ⟨w.heap.size + 1, 2, none⟩ = some (.slice A4 n4 k4))
    (first | exact ⟨e0, e1, e2, e3, e4, e5⟩ | exact HS.out _ HC3.out | exact HS.out _ HC2.out | exact HS.out _ HC1.out | go_keep)
    (first
      | (go_at_call 114; have _t := tok1; refine (rmul_any m1 d2 _ _ _ (Sl.drew H1.out) (Sl.drew H4.out) (by omega) (by omega)).mono ?_; rintro e w1 ⟨v1, rfl, hB1, hN1, -⟩; have HN1 := Lib.hid hN1; have HC1 : Hid (Below W.heap.size W w1) := Lib.hid ((Below.refl _ W).drew.trans hB1); clear hN1 hB1 tok1 _t)
      | (go_at_call 114; have _t := tok2; refine (rmul_any m2 d1 _ _ _ (Sl.below H3.out HC1.out) (Sl.below H2.out HC1.out) (by omega) (by omega)).mono ?_; rintro e w2 ⟨v2, rfl, hB2, hN2, -⟩; have HN2 := Lib.hid hN2; have HN12 := Lib.hid (HN1.out.below hB2); have HC2 : Hid (Below W.heap.size W w2) := Lib.hid (HC1.out.trans (hB2.mono HC1.out.size)); clear hN2 hB2 tok2 _t))
  obtain ⟨p0, p1, p2, p3, p4, p5⟩ := HS.out w2 HC2.out
  have HDM := Lib.hid (rmul_any d1 d2 _ _ w2 (Sl.below H2.out HC2.out) (Sl.below H4.out HC2.out) (by omega) (by omega))
  go_wp2_with fail
  refine HDM.out.mono ?_
  rintro e w3 ⟨v3, rfl, hB3, hN3, -⟩
  have HD := Lib.hid hN3
  have HX := Lib.hid (HN12.out.below hB3)
  have HY := Lib.hid (HN2.out.below hB3)
  have HC3 : Hid (Below W.heap.size W w3) := Lib.hid (HC2.out.trans (hB3.mono HC2.out.size))
  clear hN3 hB3 HDM HN1 HN12 HN2 H1 H2 H3 H4 HC1 e0 e1 e2 e3 e4 e5 p0 p1 p2 p3 p4 p5
  obtain ⟨q0, q1, q2, q3, q4, q5⟩ := HS.out w3 HC3.out
  rcases Bool.eq_false_or_eq_true (na == nb) with hnn | hnn
  · have HM9 := Lib.hid (show addM na nb (m1 * d2) (m2 * d1) = m1 * d2 + m2 * d1 by rw [addM, if_pos (by simpa using hnn)])
    have HS9 := Lib.hid (show addS na nb (m1 * d2) (m2 * d1) = na by rw [addS, if_pos (by simpa using hnn)])
    have hle : (Mth.dg 10000 (m1 * d2 + m2 * d1)).length ≤ 2 * 1000000 + 1 := Mth.dg_len_sum (by omega) hx hy
    go_wp2_with fail
    have HQN : Hid (∀ w', Below w3.heap.size w3 w' → w'.cell? ⟨w.heap.size, 0, none⟩ = some (.bool na)) := Lib.hid fun w' hb => (hb.cell (p := ⟨w.heap.size, 0, none⟩) (by show w.heap.size < _; have := HC3.out.size; omega)).trans q0
    have HQT : Hid (∀ w' y0 y1 y2, Below w3.heap.size w3 w' → (((w'.setCell ⟨w.heap.size + 1 + 1, 0, none⟩ y0).setCell ⟨w.heap.size + 1 + 1, 1, none⟩ y1).setCell ⟨w.heap.size + 1 + 1, 2, none⟩ y2).cell? ⟨w.heap.size, 0, none⟩ = some (.bool na)) := Lib.hid fun w' y0 y1 y2 hb => by
      rw [World.cell?_setCell_other _ _ _ _ (by intro h; injection h with h _; omega), World.cell?_setCell_other _ _ _ _ (by intro h; injection h with h _; omega), World.cell?_setCell_other _ _ _ _ (by intro h; injection h with h _; omega)]
      exact HQN.out _ hb
    go_region_held3 (fun w' => w'.cell? ⟨w.heap.size, 0, none⟩ = some (.bool na))
      (first | exact q0 | exact HQT.out w8 _ _ _ HE2.out | exact HQN.out _ HE2.out | exact HQN.out _ HE1.out | go_keep)
      (first
        | (go_at_call 156; refine (radd_any (m1 * d2) (m2 * d1) _ _ _ (Sl.drew HX.out) (Sl.drew HY.out) (by omega) (by omega)).mono ?_; rintro e w7 ⟨v7, rfl, hB7, hN7, -⟩; have HV7 := Lib.hid hN7; have HE1 : Hid (Below w3.heap.size w3 w7) := Lib.hid ((Below.refl _ w3).drew.trans hB7); clear hN7 hB7)
        | (go_at_call 113; refine (rnumOf_any na (m1 * d2 + m2 * d1) (d1 * d2) _ _ _ HV7.out (HD.out.below HE1.out) (by omega) (by omega) hpos).mono ?_; rintro e w8 ⟨r1, r2, rfl, hR1, hR2, hB8⟩; have HR1 := Lib.hid hR1; have HR2 := Lib.hid hR2; have HE2 : Hid (Below w3.heap.size w3 w8) := Lib.hid (HE1.out.trans (hB8.mono HE1.out.size)); clear hR1 hR2 hB8; obtain ⟨A5, n5, k5, rfl⟩ := HR1.out.shape; obtain ⟨A6, n6, k6, rfl⟩ := HR2.out.shape; have HB8 : Hid (Below W.heap.size W w8) := Lib.hid (HC3.out.trans (HE2.out.mono HC3.out.size)); have hk := HK2.out.low HB8.out; have c0 := hk.cell 0; have c1 := hk.cell 1; have c2 := hk.cell 2; have f0 := hk.frozen 0; have f1 := hk.frozen 1; have f2 := hk.frozen 2; simp only [List.getElem?_toArray, List.getElem?_cons_zero, List.getElem?_cons_succ] at c0 c1 c2; have HK3 := Lib.hid hk; clear hk))
    go_wp2
    refine bodyPost_ret (v := .agg #[.bool (rneg na (m1 * d2 + m2 * d1)), .slice A5 n5 k5, .slice A6 n6 k6]) (by simp [results, Tryz.results117, go_sem, c0, c1, c2]) rfl ?_
    rw [HM9.out, HS9.out]
    exact rnum_end (show w.heap.size ≤ w.heap.size + 1 + 1 by omega) (HB.out.trans (HB8.out.mono HB.out.size)) HK3.out HR1.out HR2.out
  · have hne : ¬ na = nb := by simpa using hnn
    have HCMP := Lib.hid (rcmp_any (m1 * d2) (m2 * d1) _ _ _ HX.out HY.out (by omega) (by omega))
    go_wp2_with fail
    refine HCMP.out.mono ?_
    rintro e wz ⟨z, rfl, hz, kq, hwz⟩
    have HZ := Lib.hid hz
    have HBQ : Below w3.heap.size w3 wz := by rw [hwz]; exact rbelow_drewN (Below.refl _ w3) kq
    have HX2 := Lib.hid (HX.out.below HBQ)
    have HY2 := Lib.hid (HY.out.below HBQ)
    have HD2 := Lib.hid (HD.out.below HBQ)
    have HCC : Hid (Below W.heap.size W wz) := Lib.hid (HC3.out.trans (HBQ.mono HC3.out.size))
    clear HX HY HD hz HBQ hwz
    obtain ⟨g0, g1, g2, g3, g4, g5⟩ := HS.out wz HCC.out
    have HX := HX2
    have HY := HY2
    have HD := HD2
    clear HX2 HY2 HD2
    by_cases hyx : m2 * d1 ≤ m1 * d2
    · have hz0 : 0 ≤ z := by rcases HZ.out with h | h | h <;> omega
      have HM9 := Lib.hid (show addM na nb (m1 * d2) (m2 * d1) = m1 * d2 - m2 * d1 by rw [addM, if_neg hne, if_pos hyx])
      have HS9 := Lib.hid (show addS na nb (m1 * d2) (m2 * d1) = na by rw [addS, if_neg hne, if_pos hyx])
      have hle : (Mth.dg 10000 (m1 * d2 - m2 * d1)).length ≤ 2 * 1000000 + 1 := Nat.le_trans (Mth.dg_len_mono (by omega) (Nat.sub_le _ _)) (by omega)
      clear HZ
      go_wp2_with fail
      have HQN : Hid (∀ w', Below wz.heap.size wz w' → w'.cell? ⟨w.heap.size, 0, none⟩ = some (.bool na)) := Lib.hid fun w' hb => (hb.cell (p := ⟨w.heap.size, 0, none⟩) (by show w.heap.size < _; have := HCC.out.size; omega)).trans g0
      have HQT : Hid (∀ w' y0 y1 y2, Below wz.heap.size wz w' → (((w'.setCell ⟨w.heap.size + 1 + 1, 0, none⟩ y0).setCell ⟨w.heap.size + 1 + 1, 1, none⟩ y1).setCell ⟨w.heap.size + 1 + 1, 2, none⟩ y2).cell? ⟨w.heap.size, 0, none⟩ = some (.bool na)) := Lib.hid fun w' y0 y1 y2 hb => by
        rw [World.cell?_setCell_other _ _ _ _ (by intro h; injection h with h _; omega), World.cell?_setCell_other _ _ _ _ (by intro h; injection h with h _; omega), World.cell?_setCell_other _ _ _ _ (by intro h; injection h with h _; omega)]
        exact HQN.out _ hb
      go_region_held3 (fun w' => w'.cell? ⟨w.heap.size, 0, none⟩ = some (.bool na))
        (first | exact g0 | exact HQT.out w8 _ _ _ HE2.out | exact HQN.out _ HE2.out | exact HQN.out _ HE1.out | go_keep)
        (first
          | (go_at_call 156; refine (rsub_any (m1 * d2) (m2 * d1) _ _ _ (Sl.drew HX.out) (Sl.drew HY.out) (by omega) (by omega) hyx).mono ?_; rintro e w7 ⟨v7, rfl, hB7, hN7, -⟩; have HV7 := Lib.hid hN7; have HE1 : Hid (Below wz.heap.size wz w7) := Lib.hid ((Below.refl _ wz).drew.trans hB7); clear hN7 hB7)
          | (go_at_call 113; refine (rnumOf_any na (m1 * d2 - m2 * d1) (d1 * d2) _ _ _ HV7.out (HD.out.below HE1.out) (by omega) (by omega) hpos).mono ?_; rintro e w8 ⟨r1, r2, rfl, hR1, hR2, hB8⟩; have HR1 := Lib.hid hR1; have HR2 := Lib.hid hR2; have HE2 : Hid (Below wz.heap.size wz w8) := Lib.hid (HE1.out.trans (hB8.mono HE1.out.size)); clear hR1 hR2 hB8; obtain ⟨A5, n5, k5, rfl⟩ := HR1.out.shape; obtain ⟨A6, n6, k6, rfl⟩ := HR2.out.shape; have HB8 : Hid (Below W.heap.size W w8) := Lib.hid (HCC.out.trans (HE2.out.mono HCC.out.size)); have hk := HK2.out.low HB8.out; have c0 := hk.cell 0; have c1 := hk.cell 1; have c2 := hk.cell 2; have f0 := hk.frozen 0; have f1 := hk.frozen 1; have f2 := hk.frozen 2; simp only [List.getElem?_toArray, List.getElem?_cons_zero, List.getElem?_cons_succ] at c0 c1 c2; have HK3 := Lib.hid hk; clear hk))
      go_wp2
      refine bodyPost_ret (v := .agg #[.bool (rneg na (m1 * d2 - m2 * d1)), .slice A5 n5 k5, .slice A6 n6 k6]) (by simp [results, Tryz.results117, go_sem, c0, c1, c2]) rfl ?_
      rw [HM9.out, HS9.out]
      exact rnum_end (show w.heap.size ≤ w.heap.size + 1 + 1 by omega) (HB.out.trans (HB8.out.mono HB.out.size)) HK3.out HR1.out HR2.out
    · have hz0 : ¬ 0 ≤ z := by rcases HZ.out with h | h | h <;> omega
      have HM9 := Lib.hid (show addM na nb (m1 * d2) (m2 * d1) = m2 * d1 - m1 * d2 by rw [addM, if_neg hne, if_neg hyx])
      have HS9 := Lib.hid (show addS na nb (m1 * d2) (m2 * d1) = nb by rw [addS, if_neg hne, if_neg hyx])
      have hle : (Mth.dg 10000 (m2 * d1 - m1 * d2)).length ≤ 2 * 1000000 + 1 := Nat.le_trans (Mth.dg_len_mono (by omega) (Nat.sub_le _ _)) (by omega)
      clear HZ
      go_wp2_with fail
      have HQN : Hid (∀ w', Below wz.heap.size wz w' → w'.cell? ⟨w.heap.size + 1, 0, none⟩ = some (.bool nb)) := Lib.hid fun w' hb => (hb.cell (p := ⟨w.heap.size + 1, 0, none⟩) (by show w.heap.size + 1 < _; have := HCC.out.size; omega)).trans g3
      have HQT : Hid (∀ w' y0 y1 y2, Below wz.heap.size wz w' → (((w'.setCell ⟨w.heap.size + 1 + 1, 0, none⟩ y0).setCell ⟨w.heap.size + 1 + 1, 1, none⟩ y1).setCell ⟨w.heap.size + 1 + 1, 2, none⟩ y2).cell? ⟨w.heap.size + 1, 0, none⟩ = some (.bool nb)) := Lib.hid fun w' y0 y1 y2 hb => by
        rw [World.cell?_setCell_other _ _ _ _ (by intro h; injection h with h _; omega), World.cell?_setCell_other _ _ _ _ (by intro h; injection h with h _; omega), World.cell?_setCell_other _ _ _ _ (by intro h; injection h with h _; omega)]
        exact HQN.out _ hb
      go_region_held3 (fun w' => w'.cell? ⟨w.heap.size + 1, 0, none⟩ = some (.bool nb))
        (first | exact g3 | exact HQT.out w8 _ _ _ HE2.out | exact HQN.out _ HE2.out | exact HQN.out _ HE1.out | go_keep)
        (first
          | (go_at_call 156; refine (rsub_any (m2 * d1) (m1 * d2) _ _ _ (Sl.drew HY.out) (Sl.drew HX.out) (by omega) (by omega) (Nat.le_of_lt (Nat.lt_of_not_le hyx))).mono ?_; rintro e w7 ⟨v7, rfl, hB7, hN7, -⟩; have HV7 := Lib.hid hN7; have HE1 : Hid (Below wz.heap.size wz w7) := Lib.hid ((Below.refl _ wz).drew.trans hB7); clear hN7 hB7)
          | (go_at_call 113; refine (rnumOf_any nb (m2 * d1 - m1 * d2) (d1 * d2) _ _ _ HV7.out (HD.out.below HE1.out) (by omega) (by omega) hpos).mono ?_; rintro e w8 ⟨r1, r2, rfl, hR1, hR2, hB8⟩; have HR1 := Lib.hid hR1; have HR2 := Lib.hid hR2; have HE2 : Hid (Below wz.heap.size wz w8) := Lib.hid (HE1.out.trans (hB8.mono HE1.out.size)); clear hR1 hR2 hB8; obtain ⟨A5, n5, k5, rfl⟩ := HR1.out.shape; obtain ⟨A6, n6, k6, rfl⟩ := HR2.out.shape; have HB8 : Hid (Below W.heap.size W w8) := Lib.hid (HCC.out.trans (HE2.out.mono HCC.out.size)); have hk := HK2.out.low HB8.out; have c0 := hk.cell 0; have c1 := hk.cell 1; have c2 := hk.cell 2; have f0 := hk.frozen 0; have f1 := hk.frozen 1; have f2 := hk.frozen 2; simp only [List.getElem?_toArray, List.getElem?_cons_zero, List.getElem?_cons_succ] at c0 c1 c2; have HK3 := Lib.hid hk; clear hk))
      go_wp2
      refine bodyPost_ret (v := .agg #[.bool (rneg nb (m2 * d1 - m1 * d2)), .slice A5 n5 k5, .slice A6 n6 k6]) (by simp [results, Tryz.results117, go_sem, c0, c1, c2]) rfl ?_
      rw [HM9.out, HS9.out]
      exact rnum_end (show w.heap.size ≤ w.heap.size + 1 + 1 by omega) (HB.out.trans (HB8.out.mono HB.out.size)) HK3.out HR1.out HR2.out
end Go.Proofs.YtldjemlmjfpmjaaGreatDoor
