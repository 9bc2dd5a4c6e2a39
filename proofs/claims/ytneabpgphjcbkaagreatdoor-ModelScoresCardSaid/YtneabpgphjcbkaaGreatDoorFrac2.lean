/-
  The fractions: Div, Mul, Quotient, Rat.
-/
import Derived.Test.YtneabpgphjcbkaaGreatDoorFrac
import Derived.Outline
namespace Go.Proofs.YtneabpgphjcbkaaGreatDoor
open Go.RowKit

set_option maxHeartbeats 4000000 in
set_option maxRecDepth 100000 in
theorem fdiv_any (na nb : Bool) (m1 d1 m2 d2 : Nat) (x1 y1 x2 y2 : Value) (w : World) (h1 : Nt w x1 m1) (h2 : Nt w y1 d1) (h3 : Nt w x2 m2) (h4 : Nt w y2 d2)
    (l1 : (Mth.dg 1000000000 m1).length ≤ 10000000000) (l2 : (Mth.dg 1000000000 d1).length ≤ 10000000000) (l3 : (Mth.dg 1000000000 m2).length ≤ 10000000000) (l4 : (Mth.dg 1000000000 d2).length ≤ 10000000000) (hpos : 0 < d1 * m2) :
    Calls Tryz.prog 99 #[.agg #[.bool na, x1, y1], .agg #[.bool nb, x2, y2]] w fun e w' => ∃ v1 v2, e = .returned (.agg #[.bool (rneg (!(na == nb)) (m1 * d2)), v1, v2]) ∧ Nt w' v1 (rnum (m1 * d2) (d1 * m2)) ∧ Nt w' v2 (rden (m1 * d2) (d1 * m2)) ∧ Below w.heap.size w w' := by
  obtain ⟨W, hW⟩ : ∃ W, W = ((w.alloc (.cells #[.bool na, x1, y1] 109)).alloc (.cells #[.bool nb, x2, y2] 109)).alloc (.cells #[.bool false, .slice none 0 0, .slice none 0 0] 109) := ⟨_, rfl⟩
  have HW := Lib.hid hW
  clear hW
  obtain ⟨A1, n1, k1, rfl⟩ : ∃ A n k, x1 = .slice A n k := by obtain ⟨A, c, e, _⟩ := h1; exact ⟨_, _, _, e⟩
  obtain ⟨A2, n2, k2, rfl⟩ : ∃ A n k, y1 = .slice A n k := by obtain ⟨A, c, e, _⟩ := h2; exact ⟨_, _, _, e⟩
  obtain ⟨A3, n3, k3, rfl⟩ : ∃ A n k, x2 = .slice A n k := by obtain ⟨A, c, e, _⟩ := h3; exact ⟨_, _, _, e⟩
  obtain ⟨A4, n4, k4, rfl⟩ : ∃ A n k, y2 = .slice A n k := by obtain ⟨A, c, e, _⟩ := h4; exact ⟨_, _, _, e⟩
  go_enter Tryz.func99, Tryz.ntmps99
  go_wp2_with fail
  rw [← HW.out]
  have hBW : Below w.heap.size w W := by
    rw [HW.out]
    exact (((Below.refl _ w).alloc (Nat.le_refl _) _).alloc (by simp) _).alloc (by simp; omega) _
  have hk0 : Blk W w.heap.size 109 #[.bool na, .slice A1 n1 k1, .slice A2 n2 k2] := by
    rw [HW.out]; exact ((Blk.new w _ _).alloc _).alloc _
  have hk1 : Blk W (w.heap.size + 1) 109 #[.bool nb, .slice A3 n3 k3, .slice A4 n4 k4] := by
    rw [HW.out]
    have := (Blk.new (w.alloc (.cells #[.bool na, .slice A1 n1 k1, .slice A2 n2 k2] 109)) 109 #[.bool nb, .slice A3 n3 k3, .slice A4 n4 k4]).alloc (.cells #[.bool false, .slice none 0 0, .slice none 0 0] 109)
    rwa [World.size_alloc] at this
  have hk2 : Blk W (w.heap.size + 1 + 1) 109 #[.bool false, .slice none 0 0, .slice none 0 0] := by
    rw [HW.out]
    have := Blk.new ((w.alloc (.cells #[.bool na, .slice A1 n1 k1, .slice A2 n2 k2] 109)).alloc (.cells #[.bool nb, .slice A3 n3 k3, .slice A4 n4 k4] 109)) 109 #[.bool false, .slice none 0 0, .slice none 0 0]
    rwa [World.size_alloc, World.size_alloc] at this
  have e0 := hk0.cell 0
  have e1 := hk0.cell 1
  have e2 := hk0.cell 2
  have e3 := hk1.cell 0
  have e4 := hk1.cell 1
  have e5 := hk1.cell 2
  simp only [List.getElem?_toArray, List.getElem?_cons_zero, List.getElem?_cons_succ] at e0 e1 e2 e3 e4 e5
  have z0 := hk2.lt
  have H1 := Lib.hid (h1.below hBW)
  have H2 := Lib.hid (h2.below hBW)
  have H3 := Lib.hid (h3.below hBW)
  have H4 := Lib.hid (h4.below hBW)
  have HB := Lib.hid hBW
  have HK2 := Lib.hid hk2
  clear h1 h2 h3 h4 hk0 hk1 hk2 hBW
  have tok1 : True := trivial
  have tok2 : True := trivial
  have ll1 : (Mth.dg 1000000000 (m1 * d2)).length ≤ 100000000000 := Nat.le_trans (Mth.dg_len_mul (by omega) m1 d2) (by omega)
  have ll2 : (Mth.dg 1000000000 (d1 * m2)).length ≤ 100000000000 := Nat.le_trans (Mth.dg_len_mul (by omega) d1 m2) (by omega)
  have HS : Hid (∀ w', Below W.heap.size W w' → w'.cell? ⟨w.heap.size, 0, none⟩ = some (.bool na) ∧ w'.cell? ⟨w.heap.size, 1, none⟩ = some (.slice A1 n1 k1) ∧ w'.cell? ⟨w.heap.size, 2, none⟩ = some (.slice A2 n2 k2) ∧
      w'.cell? ⟨w.heap.size + 1, 0, none⟩ = some (.bool nb) ∧ w'.cell? ⟨w.heap.size + 1, 1, none⟩ = some (.slice A3 n3 k3) ∧ w'.cell? ⟨w.heap.size + 1, 2, none⟩ = some (.slice A4 n4 k4)) := Lib.hid fun w' hb =>
    ⟨(hb.cell (p := ⟨w.heap.size, 0, none⟩) (by show w.heap.size < _; omega)).trans e0, (hb.cell (p := ⟨w.heap.size, 1, none⟩) (by show w.heap.size < _; omega)).trans e1, (hb.cell (p := ⟨w.heap.size, 2, none⟩) (by show w.heap.size < _; omega)).trans e2,
      (hb.cell (p := ⟨w.heap.size + 1, 0, none⟩) (by show w.heap.size + 1 < _; omega)).trans e3, (hb.cell (p := ⟨w.heap.size + 1, 1, none⟩) (by show w.heap.size + 1 < _; omega)).trans e4, (hb.cell (p := ⟨w.heap.size + 1, 2, none⟩) (by show w.heap.size + 1 < _; omega)).trans e5⟩
  have HST : Hid (∀ w' y0 y1 y2, Below W.heap.size W w' → (((w'.setCell ⟨w.heap.size + 1 + 1, 0, none⟩ y0).setCell ⟨w.heap.size + 1 + 1, 1, none⟩ y1).setCell ⟨w.heap.size + 1 + 1, 2, none⟩ y2).cell? ⟨w.heap.size, 0, none⟩ = some (.bool na) ∧ (((w'.setCell ⟨w.heap.size + 1 + 1, 0, none⟩ y0).setCell ⟨w.heap.size + 1 + 1, 1, none⟩ y1).setCell ⟨w.heap.size + 1 + 1, 2, none⟩ y2).cell? ⟨w.heap.size, 1, none⟩ = some (.slice A1 n1 k1) ∧ (((w'.setCell ⟨w.heap.size + 1 + 1, 0, none⟩ y0).setCell ⟨w.heap.size + 1 + 1, 1, none⟩ y1).setCell ⟨w.heap.size + 1 + 1, 2, none⟩ y2).cell? ⟨w.heap.size, 2, none⟩ = some (.slice A2 n2 k2) ∧
      (((w'.setCell ⟨w.heap.size + 1 + 1, 0, none⟩ y0).setCell ⟨w.heap.size + 1 + 1, 1, none⟩ y1).setCell ⟨w.heap.size + 1 + 1, 2, none⟩ y2).cell? ⟨w.heap.size + 1, 0, none⟩ = some (.bool nb) ∧ (((w'.setCell ⟨w.heap.size + 1 + 1, 0, none⟩ y0).setCell ⟨w.heap.size + 1 + 1, 1, none⟩ y1).setCell ⟨w.heap.size + 1 + 1, 2, none⟩ y2).cell? ⟨w.heap.size + 1, 1, none⟩ = some (.slice A3 n3 k3) ∧ (((w'.setCell ⟨w.heap.size + 1 + 1, 0, none⟩ y0).setCell ⟨w.heap.size + 1 + 1, 1, none⟩ y1).setCell ⟨w.heap.size + 1 + 1, 2, none⟩ y2).cell? ⟨w.heap.size + 1, 2, none⟩ = some (.slice A4 n4 k4)) := Lib.hid fun w' y0 y1 y2 hb => by
    obtain ⟨q0, q1, q2, q3, q4, q5⟩ := HS.out w' hb
    refine ⟨?_, ?_, ?_, ?_, ?_, ?_⟩ <;> (rw [World.cell?_setCell_other _ _ _ _ (by intro h; injection h with h _; omega), World.cell?_setCell_other _ _ _ _ (by intro h; injection h with h _; omega), World.cell?_setCell_other _ _ _ _ (by intro h; injection h with h _; omega)]; assumption)
  go_region_held3 (fun w' => w'.cell? ⟨w.heap.size, 0, none⟩ = some (.bool na) ∧ w'.cell? ⟨w.heap.size, 1, none⟩ = some (.slice A1 n1 k1) ∧ w'.cell? ⟨w.heap.size, 2, none⟩ = some (.slice A2 n2 k2) ∧
      w'.cell? ⟨w.heap.size + 1, 0, none⟩ = some (.bool nb) ∧ w'.cell? ⟨w.heap.size + 1, 1, none⟩ = some (.slice A3 n3 k3) ∧ w'.cell? ⟨w.heap.size + 1, 2, none⟩ = some (.slice A4 n4 k4))
    (first | exact ⟨e0, e1, e2, e3, e4, e5⟩ | exact HST.out w3 _ _ _ HC3.out | exact HS.out _ HC3.out | exact HS.out _ HC2.out | exact HS.out _ HC1.out | go_keep)
    (first
      | (go_at_call 119; have _t := tok1; refine (mul_any m1 d2 _ _ _ (Sl.drew H1.out) (Sl.drew H4.out) (by omega) (by omega)).mono ?_; rintro e w1 ⟨v1, rfl, hB1, hN1⟩; have HN1 := Lib.hid hN1; have HC1 : Hid (Below W.heap.size W w1) := Lib.hid ((Below.refl _ W).drew.trans hB1); clear hN1 hB1 tok1 _t)
      | (go_at_call 119; have _t := tok2; refine (mul_any d1 m2 _ _ _ (Sl.below H2.out HC1.out) (Sl.below H3.out HC1.out) (by omega) (by omega)).mono ?_; rintro e w2 ⟨v2, rfl, hB2, hN2⟩; have HN2 := Lib.hid hN2; have HN12 := Lib.hid (HN1.out.below hB2); have HC2 : Hid (Below W.heap.size W w2) := Lib.hid (HC1.out.trans (hB2.mono HC1.out.size)); clear hN2 hB2 tok2 _t)
      | (go_at_call 118; refine (red_any _ (m1 * d2) (d1 * m2) _ _ _ HN12.out HN2.out ll1 ll2 hpos).mono ?_; rintro e w3 ⟨r1, r2, rfl, hR1, hR2, hB3⟩; have HR1 := Lib.hid hR1; have HR2 := Lib.hid hR2; have HC3 : Hid (Below W.heap.size W w3) := Lib.hid (HC2.out.trans (hB3.mono HC2.out.size)); clear hR1 hR2 hB3; obtain ⟨A5, n5, k5, rfl⟩ := HR1.out.shape; obtain ⟨A6, n6, k6, rfl⟩ := HR2.out.shape; have hk := HK2.out.low HC3.out; have c0 := hk.cell 0; have c1 := hk.cell 1; have c2 := hk.cell 2; have f0 := hk.frozen 0; have f1 := hk.frozen 1; have f2 := hk.frozen 2; simp only [List.getElem?_toArray, List.getElem?_cons_zero, List.getElem?_cons_succ] at c0 c1 c2; have HK3 := Lib.hid hk; clear hk))
  go_wp2
  refine bodyPost_ret (v := .agg #[.bool (rneg (!(na == nb)) (m1 * d2)), .slice A5 n5 k5, .slice A6 n6 k6]) (by simp [results, Tryz.results99, go_sem, c0, c1, c2]) rfl ?_
  refine ⟨_, _, rfl, nt_store3 HR1.out HK3.out (notI_bool _) (notI_slice _ _ _) (notI_slice _ _ _) (notI_bool _) (notI_slice _ _ _), nt_store3 HR2.out HK3.out (notI_bool _) (notI_slice _ _ _) (notI_slice _ _ _) (notI_bool _) (notI_slice _ _ _), ?_⟩
  have hb3 := HB.out.trans (HC3.out.mono HB.out.size)
  exact ((hb3.setCell (p := ⟨w.heap.size + 1 + 1, 0, none⟩) (by show w.heap.size ≤ w.heap.size + 1 + 1; omega) _).setCell (p := ⟨w.heap.size + 1 + 1, 1, none⟩) (by show w.heap.size ≤ w.heap.size + 1 + 1; omega) _).setCell (p := ⟨w.heap.size + 1 + 1, 2, none⟩) (by show w.heap.size ≤ w.heap.size + 1 + 1; omega) _
end Go.Proofs.YtneabpgphjcbkaaGreatDoor

namespace Go.Proofs.YtneabpgphjcbkaaGreatDoor
open Go.RowKit

theorem natAbs_len {n : Int} (h1 : -9223372036854775808 ≤ n) (h2 : n ≤ 9223372036854775807) : (Mth.dg 1000000000 n.natAbs).length ≤ 3 :=
  Mth.dg_len_le (by omega) 3 _ (by omega)

/-- the sign, numerator and denominator of a quotient of ints -/
def qneg (a b : Int) : Bool := rneg (!(decide (a < 0) == decide (b < 0))) (a.natAbs * 1)
def qnum (a b : Int) : Nat := rnum (a.natAbs * 1) (1 * b.natAbs)
def qden (a b : Int) : Nat := rden (a.natAbs * 1) (1 * b.natAbs)

set_option maxHeartbeats 2000000 in
set_option maxRecDepth 100000 in
theorem quot_any (a b : Int) (w : World) (h1 : -9223372036854775808 ≤ a) (h2 : a ≤ 9223372036854775807) (h3 : -9223372036854775808 ≤ b) (h4 : b ≤ 9223372036854775807) (hb0 : b ≠ 0) :
    Calls Tryz.prog 87 #[.int .i64 a, .int .i64 b] w fun e w' => ∃ v1 v2, e = .returned (.agg #[.bool (qneg a b), v1, v2]) ∧ Nt w' v1 (qnum a b) ∧ Nt w' v2 (qden a b) ∧ Below w.heap.size w w' := by
  have hi1 := fun W => fint_any a W h1 h2
  have hi2 := fun W => fint_any b W h3 h4
  have HI1 := Lib.hid hi1
  have HI2 := Lib.hid hi2
  have HL1 := Lib.hid (natAbs_len h1 h2)
  have HL2 := Lib.hid (natAbs_len h3 h4)
  have HB0 := Lib.hid hb0
  have hone : (Mth.dg 1000000000 1).length = 1 := by rw [Mth.dg_one (by omega) (by omega) (by omega)]; rfl
  have HO := Lib.hid hone
  have hBW : Below w.heap.size w (w.alloc (.cells #[.bool false, .slice none 0 0, .slice none 0 0] 109)) := (Below.refl _ w).alloc (Nat.le_refl _) _
  have hbl := Blk.new w 109 #[.bool false, .slice none 0 0, .slice none 0 0]
  have HBW := Lib.hid hBW
  have HBL := Lib.hid hbl
  clear hi1 hi2 h1 h2 h3 h4 hb0 hone hBW hbl
  go_enter Tryz.func87, Tryz.ntmps87
  go_wp2_with fail
  refine (HI1.out _).mono ?_
  rintro e w1 ⟨x1, y1, rfl, hn1, hd1, hB1⟩
  have HN1 := Lib.hid hn1
  have HD1 := Lib.hid hd1
  have HB1 := Lib.hid (HBW.out.trans (hB1.mono HBW.out.size))
  have HBL1 := Lib.hid (HBL.out.low hB1)
  clear hn1 hd1 hB1
  obtain ⟨A1, n1, k1, rfl⟩ := HN1.out.shape
  obtain ⟨A2, n2, k2, rfl⟩ := HD1.out.shape
  go_wp2_with fail
  refine (HI2.out _).mono ?_
  rintro e w2 ⟨x2, y2, rfl, hn2, hd2, hB2⟩
  have HN2 := Lib.hid hn2
  have HD2 := Lib.hid hd2
  have HN12 := Lib.hid (HN1.out.below hB2)
  have HD12 := Lib.hid (HD1.out.below hB2)
  have HB2 := Lib.hid (HB1.out.trans (hB2.mono HB1.out.size))
  have HBL2 := Lib.hid (HBL1.out.low hB2)
  clear hn2 hd2 hB2
  obtain ⟨A3, n3, k3, rfl⟩ := HN2.out.shape
  obtain ⟨A4, n4, k4, rfl⟩ := HD2.out.shape
  have hdiv := fdiv_any (decide (a < 0)) (decide (b < 0)) a.natAbs 1 b.natAbs 1 _ _ _ _ w2 HN12.out HD12.out HN2.out HD2.out (by have := HL1.out; omega) (by rw [HO.out]; omega) (by have := HL2.out; omega) (by rw [HO.out]; omega) (by have := HB0.out; omega)
  have HDIV := Lib.hid hdiv
  clear hdiv
  go_wp2_with fail
  refine HDIV.out.mono ?_
  rintro e w3 ⟨x5, y5, rfl, hn5, hd5, hB5⟩
  have HN5 := Lib.hid hn5
  have HD5 := Lib.hid hd5
  have HB5 := Lib.hid (HB2.out.trans (hB5.mono HB2.out.size))
  have hk := HBL2.out.low hB5
  have HK := Lib.hid hk
  have c0 := hk.cell 0
  have c1 := hk.cell 1
  have c2 := hk.cell 2
  have f0 := hk.frozen 0
  have f1 := hk.frozen 1
  have f2 := hk.frozen 2
  simp only [List.getElem?_toArray, List.getElem?_cons_zero, List.getElem?_cons_succ] at c0 c1 c2
  clear hn5 hd5 hB5 hk
  obtain ⟨A5, n5, k5, rfl⟩ := HN5.out.shape
  obtain ⟨A6, n6, k6, rfl⟩ := HD5.out.shape
  go_wp2
  refine bodyPost_ret (v := .agg #[.bool (qneg a b), .slice A5 n5 k5, .slice A6 n6 k6]) (by simp [results, Tryz.results87, go_sem, c0, c1, c2, qneg]) rfl ?_
  exact ⟨_, _, rfl, nt_store3 HN5.out HK.out (notI_bool _) (notI_slice _ _ _) (notI_slice _ _ _) (notI_bool _) (notI_slice _ _ _), nt_store3 HD5.out HK.out (notI_bool _) (notI_slice _ _ _) (notI_slice _ _ _) (notI_bool _) (notI_slice _ _ _),
    ((HB5.out.setCell (p := ⟨w.heap.size, 0, none⟩) (Nat.le_refl _) _).setCell (p := ⟨w.heap.size, 1, none⟩) (Nat.le_refl _) _).setCell (p := ⟨w.heap.size, 2, none⟩) (Nat.le_refl _) _⟩

/-- the bytes of a numerator -/
def numBytes (neg : Bool) (n : Nat) : List UInt8 := if neg then 45 :: Lib.decDigits n else Lib.decDigits n

set_option maxHeartbeats 2000000 in
set_option maxRecDepth 100000 in
theorem rat_any (neg : Bool) (m n : Nat) (va vb : Value) (w : World) (ha : Nt w va m) (hb : Nt w vb n) (hs : (Mth.dg 1000000000 m).length ≤ 1000000000000) (ht : (Mth.dg 1000000000 n).length ≤ 1000000000000) (htab : Tabs w) :
    Calls Tryz.prog 88 #[.agg #[.bool neg, va, vb]] w fun e w' => ∃ S T : ByteArray, e = .returned (.agg #[.string S, .string T]) ∧ S.data.toList = numBytes neg m ∧ T.data.toList = Lib.decDigits n ∧ Below w.heap.size w w' := by
  obtain ⟨A1, n1, k1, rfl⟩ := ha.shape
  obtain ⟨A2, n2, k2, rfl⟩ := hb.shape
  obtain ⟨W, hW⟩ : ∃ W, W = (w.alloc (.cells #[.bool neg, .slice A1 n1 k1, .slice A2 n2 k2] 109)).alloc (.cells #[.string ⟨#[]⟩, .string ⟨#[]⟩] 76) := ⟨_, rfl⟩
  have hBW : Below w.heap.size w W := by
    rw [hW]
    exact ((Below.refl _ w).alloc (Nat.le_refl _) _).alloc (by simp) _
  have hk0 : Blk W w.heap.size 109 #[.bool neg, .slice A1 n1 k1, .slice A2 n2 k2] := by
    rw [hW]; exact (Blk.new w _ _).alloc _
  have hk1 : Blk W (w.heap.size + 1) 76 #[.string ⟨#[]⟩, .string ⟨#[]⟩] := by
    rw [hW]
    have := Blk.new (w.alloc (.cells #[.bool neg, .slice A1 n1 k1, .slice A2 n2 k2] 109)) 76 #[.string ⟨#[]⟩, .string ⟨#[]⟩]
    rwa [World.size_alloc] at this
  have HW := Lib.hid hW
  have e1 := hk0.cell 1
  simp only [List.getElem?_toArray, List.getElem?_cons_zero, List.getElem?_cons_succ] at e1
  have hs1 := string_any m _ W (ha.below hBW) hs (htab.low hBW)
  have HS1 := Lib.hid hs1
  have HB := Lib.hid hBW
  have HBb := Lib.hid (hb.below hBW)
  have HT := Lib.hid (htab.low hBW)
  have HK0 := Lib.hid hk0
  have HK1 := Lib.hid hk1
  have hdl := Mth.dec_len_le m
  clear hs1 hBW hk0 hk1 hW ha hb htab
  go_enter Tryz.func88, Tryz.ntmps88
  go_wp2_with fail
  rw [← HW.out]
  refine HS1.out.mono ?_
  rintro e w1 ⟨S, rfl, hS, hB1⟩
  have hk1 := HK0.out.low hB1
  have g0 := hk1.cell 0
  have g2 := hk1.cell 2
  simp only [List.getElem?_toArray, List.getElem?_cons_zero, List.getElem?_cons_succ] at g0 g2
  have hss : S.size ≤ 9000000000001 := by rw [bytes_size, hS]; omega
  have HS := Lib.hid hS
  have HB1 := Lib.hid (HB.out.trans (hB1.mono HB.out.size))
  have hs2 := string_any n _ w1 (HBb.out.below hB1) ht (HT.out.low hB1)
  have HS2 := Lib.hid hs2
  have HK11 := Lib.hid (HK1.out.low hB1)
  clear hS hB1 hs2 hk1 e1 hdl
  cases neg with
  | false =>
    go_wp2_with fail
    refine HS2.out.mono ?_
    rintro e w2 ⟨T, rfl, hT, hB2⟩
    have hk := HK11.out.low hB2
    have c0 := hk.cell 0
    have c1 := hk.cell 1
    have f0 := hk.frozen 0
    have f1 := hk.frozen 1
    simp only [List.getElem?_toArray, List.getElem?_cons_zero, List.getElem?_cons_succ] at c0 c1
    have HB2 := Lib.hid (HB1.out.trans (hB2.mono HB1.out.size))
    have HT2 := Lib.hid hT
    clear hk hT hB2 g0 g2
    go_wp2
    refine bodyPost_ret (v := .agg #[.string S, .string T]) (by simp [results, Tryz.results88, go_sem, c0, c1]) rfl ?_
    exact ⟨S, T, rfl, HS.out, HT2.out, (HB2.out.setCell (p := ⟨w.heap.size + 1, 0, none⟩) (by show w.heap.size ≤ w.heap.size + 1; omega) _).setCell (p := ⟨w.heap.size + 1, 1, none⟩) (by show w.heap.size ≤ w.heap.size + 1; omega) _⟩
  | true =>
    go_wp2_with fail
    refine HS2.out.mono ?_
    rintro e w2 ⟨T, rfl, hT, hB2⟩
    have hk := HK11.out.low hB2
    have c0 := hk.cell 0
    have c1 := hk.cell 1
    have f0 := hk.frozen 0
    have f1 := hk.frozen 1
    simp only [List.getElem?_toArray, List.getElem?_cons_zero, List.getElem?_cons_succ] at c0 c1
    have HB2 := Lib.hid (HB1.out.trans (hB2.mono HB1.out.size))
    have HT2 := Lib.hid hT
    clear hk hT hB2 g0 g2
    go_wp2
    refine bodyPost_ret (v := .agg #[.string (⟨#[45]⟩ ++ S), .string T]) (by simp [results, Tryz.results88, go_sem, c0, c1]) rfl ?_
    refine ⟨⟨#[45]⟩ ++ S, T, rfl, ?_, HT2.out, (HB2.out.setCell (p := ⟨w.heap.size + 1, 0, none⟩) (by show w.heap.size ≤ w.heap.size + 1; omega) _).setCell (p := ⟨w.heap.size + 1, 1, none⟩) (by show w.heap.size ≤ w.heap.size + 1; omega) _⟩
    rw [numBytes, if_pos rfl, ← HS.out]
    simp [ByteArray.data_append]
end Go.Proofs.YtneabpgphjcbkaaGreatDoor
