/-
  frac.Quotient, Rat; num.Make, num.Whole.
-/
import Derived.Test.YtlildanamfjnmaaGreatDoorFrac2
namespace Go.Proofs.YtlildanamfjnmaaGreatDoor
open Go.RowKit

theorem natAbs_len {n : Int} (h1 : -9223372036854775808 ≤ n) (h2 : n ≤ 9223372036854775807) : (Mth.dg 1000000000 n.natAbs).length ≤ 3 :=
  Mth.dg_len_le (by omega) 3 _ (by omega)

/-- the sign, numerator and denominator of a quotient of ints -/
def qneg (a b : Int) : Bool := rneg (!(decide (a < 0) == decide (b < 0))) (a.natAbs * 1)
def qnum (a b : Int) : Nat := rnum (a.natAbs * 1) (1 * b.natAbs)
def qden (a b : Int) : Nat := rden (a.natAbs * 1) (1 * b.natAbs)

set_option maxHeartbeats 2000000 in
set_option maxRecDepth 100000 in
theorem quot_any (a b : Int) (w : World) (h1 : -9223372036854775808 ≤ a) (h2 : a ≤ 9223372036854775807) (h3 : -9223372036854775808 ≤ b) (h4 : b ≤ 9223372036854775807) (hb0 : b ≠ 0) :
    Calls Tryz.prog 59 #[.int .i64 a, .int .i64 b] w fun e w' => ∃ v1 v2, e = .returned (.agg #[.bool (qneg a b), v1, v2]) ∧ Nt w' v1 (qnum a b) ∧ Nt w' v2 (qden a b) ∧ Below w.heap.size w w' := by
  have hi1 := fun W => fint_any a W h1 h2
  have hi2 := fun W => fint_any b W h3 h4
  have HI1 := Lib.hid hi1
  have HI2 := Lib.hid hi2
  have HL1 := Lib.hid (natAbs_len h1 h2)
  have HL2 := Lib.hid (natAbs_len h3 h4)
  have HB0 := Lib.hid hb0
  have hone : (Mth.dg 1000000000 1).length = 1 := by rw [Mth.dg_one (by omega) (by omega) (by omega)]; rfl
  have HO := Lib.hid hone
  have hBW : Below w.heap.size w (w.alloc (.cells #[.bool false, .slice none 0 0, .slice none 0 0] 76)) := (Below.refl _ w).alloc (Nat.le_refl _) _
  have hbl := Blk.new w 76 #[.bool false, .slice none 0 0, .slice none 0 0]
  have HBW := Lib.hid hBW
  have HBL := Lib.hid hbl
  clear hi1 hi2 h1 h2 h3 h4 hb0 hone hBW hbl
  go_enter Tryz.func59, Tryz.ntmps59
  go_wp2_with fail
  refine (HI1.out _).mono ?_
  rintro e w1 ⟨x1, y1, rfl, hn1, hd1, hB1⟩
  have HN1 := Lib.hid hn1
  have HD1 := Lib.hid hd1
  have HB1 := Lib.hid (HBW.out.trans (hB1.mono HBW.out.size))
  have HBL1 := Lib.hid (HBL.out.low hB1)
  clear hn1 hd1 hB1
  obtain ⟨A1, n1, k1, rfl⟩ := HN1.out.shape
  obtain ⟨A2, n2, k2, rfl⟩ := HD1.out.shape
  go_wp2_with fail
  refine (HI2.out _).mono ?_
  rintro e w2 ⟨x2, y2, rfl, hn2, hd2, hB2⟩
  have HN2 := Lib.hid hn2
  have HD2 := Lib.hid hd2
  have HN12 := Lib.hid (HN1.out.below hB2)
  have HD12 := Lib.hid (HD1.out.below hB2)
  have HB2 := Lib.hid (HB1.out.trans (hB2.mono HB1.out.size))
  have HBL2 := Lib.hid (HBL1.out.low hB2)
  clear hn2 hd2 hB2
  obtain ⟨A3, n3, k3, rfl⟩ := HN2.out.shape
  obtain ⟨A4, n4, k4, rfl⟩ := HD2.out.shape
  have hdiv := fdiv_any (decide (a < 0)) (decide (b < 0)) a.natAbs 1 b.natAbs 1 _ _ _ _ w2 HN12.out HD12.out HN2.out HD2.out (by have := HL1.out; omega) (by rw [HO.out]; omega) (by have := HL2.out; omega) (by rw [HO.out]; omega) (by have := HB0.out; omega)
  have HDIV := Lib.hid hdiv
  clear hdiv
  go_wp2_with fail
  refine HDIV.out.mono ?_
  rintro e w3 ⟨x5, y5, rfl, hn5, hd5, hB5⟩
  have HN5 := Lib.hid hn5
  have HD5 := Lib.hid hd5
  have HB5 := Lib.hid (HB2.out.trans (hB5.mono HB2.out.size))
  have hk := HBL2.out.low hB5
  have HK := Lib.hid hk
  have c0 := hk.cell 0
  have c1 := hk.cell 1
  have c2 := hk.cell 2
  have f0 := hk.frozen 0
  have f1 := hk.frozen 1
  have f2 := hk.frozen 2
  simp only [List.getElem?_toArray, List.getElem?_cons_zero, List.getElem?_cons_succ] at c0 c1 c2
  clear hn5 hd5 hB5 hk
  obtain ⟨A5, n5, k5, rfl⟩ := HN5.out.shape
  obtain ⟨A6, n6, k6, rfl⟩ := HD5.out.shape
  go_wp2
  refine bodyPost_ret (v := .agg #[.bool (qneg a b), .slice A5 n5 k5, .slice A6 n6 k6]) (by simp [results, Tryz.results59, go_sem, c0, c1, c2, qneg]) rfl ?_
  exact ⟨_, _, rfl, nt_store3 HN5.out HK.out (notI_bool _) (notI_slice _ _ _) (notI_slice _ _ _) (notI_bool _) (notI_slice _ _ _), nt_store3 HD5.out HK.out (notI_bool _) (notI_slice _ _ _) (notI_slice _ _ _) (notI_bool _) (notI_slice _ _ _),
    ((HB5.out.setCell (p := ⟨w.heap.size, 0, none⟩) (Nat.le_refl _) _).setCell (p := ⟨w.heap.size, 1, none⟩) (Nat.le_refl _) _).setCell (p := ⟨w.heap.size, 2, none⟩) (Nat.le_refl _) _⟩

/-- the bytes of a numerator -/
def numBytes (neg : Bool) (n : Nat) : List UInt8 := if neg then 45 :: Lib.decDigits n else Lib.decDigits n

set_option maxHeartbeats 2000000 in
set_option maxRecDepth 100000 in
theorem rat_any (neg : Bool) (m n : Nat) (va vb : Value) (w : World) (ha : Nt w va m) (hb : Nt w vb n) (hs : (Mth.dg 1000000000 m).length ≤ 1000000000000) (ht : (Mth.dg 1000000000 n).length ≤ 1000000000000) (htab : Tabs w) :
    Calls Tryz.prog 60 #[.agg #[.bool neg, va, vb]] w fun e w' => ∃ S T : ByteArray, e = .returned (.agg #[.string S, .string T]) ∧ S.data.toList = numBytes neg m ∧ T.data.toList = Lib.decDigits n ∧ Below w.heap.size w w' := by
  obtain ⟨A1, n1, k1, rfl⟩ := ha.shape
  obtain ⟨A2, n2, k2, rfl⟩ := hb.shape
  obtain ⟨W, hW⟩ : ∃ W, W = (w.alloc (.cells #[.bool neg, .slice A1 n1 k1, .slice A2 n2 k2] 76)).alloc (.cells #[.string ⟨#[]⟩, .string ⟨#[]⟩] 31) := ⟨_, rfl⟩
  have hBW : Below w.heap.size w W := by
    rw [hW]
    exact ((Below.refl _ w).alloc (Nat.le_refl _) _).alloc (by simp) _
  have hk0 : Blk W w.heap.size 76 #[.bool neg, .slice A1 n1 k1, .slice A2 n2 k2] := by
    rw [hW]; exact (Blk.new w _ _).alloc _
  have hk1 : Blk W (w.heap.size + 1) 31 #[.string ⟨#[]⟩, .string ⟨#[]⟩] := by
    rw [hW]
    have := Blk.new (w.alloc (.cells #[.bool neg, .slice A1 n1 k1, .slice A2 n2 k2] 76)) 31 #[.string ⟨#[]⟩, .string ⟨#[]⟩]
    rwa [World.size_alloc] at this
  have HW := Lib.hid hW
  have e1 := hk0.cell 1
  simp only [List.getElem?_toArray, List.getElem?_cons_zero, List.getElem?_cons_succ] at e1
  have hs1 := string_any m _ W (ha.below hBW) hs (htab.low hBW)
  have HS1 := Lib.hid hs1
  have HB := Lib.hid hBW
  have HBb := Lib.hid (hb.below hBW)
  have HT := Lib.hid (htab.low hBW)
  have HK0 := Lib.hid hk0
  have HK1 := Lib.hid hk1
  have hdl := Mth.dec_len_le m
  clear hs1 hBW hk0 hk1 hW ha hb htab
  go_enter Tryz.func60, Tryz.ntmps60
  go_wp2_with fail
  rw [← HW.out]
  refine HS1.out.mono ?_
  rintro e w1 ⟨S, rfl, hS, hB1⟩
  have hk1 := HK0.out.low hB1
  have g0 := hk1.cell 0
  have g2 := hk1.cell 2
  simp only [List.getElem?_toArray, List.getElem?_cons_zero, List.getElem?_cons_succ] at g0 g2
  have hss : S.size ≤ 9000000000001 := by rw [bytes_size, hS]; omega
  have HS := Lib.hid hS
  have HB1 := Lib.hid (HB.out.trans (hB1.mono HB.out.size))
  have hs2 := string_any n _ w1 (HBb.out.below hB1) ht (HT.out.low hB1)
  have HS2 := Lib.hid hs2
  have HK11 := Lib.hid (HK1.out.low hB1)
  clear hS hB1 hs2 hk1 e1 hdl
  cases neg with
  | false =>
    go_wp2_with fail
    refine HS2.out.mono ?_
    rintro e w2 ⟨T, rfl, hT, hB2⟩
    have hk := HK11.out.low hB2
    have c0 := hk.cell 0
    have c1 := hk.cell 1
    have f0 := hk.frozen 0
    have f1 := hk.frozen 1
    simp only [List.getElem?_toArray, List.getElem?_cons_zero, List.getElem?_cons_succ] at c0 c1
    have HB2 := Lib.hid (HB1.out.trans (hB2.mono HB1.out.size))
    have HT2 := Lib.hid hT
    clear hk hT hB2 g0 g2
    go_wp2
    refine bodyPost_ret (v := .agg #[.string S, .string T]) (by simp [results, Tryz.results60, go_sem, c0, c1]) rfl ?_
    exact ⟨S, T, rfl, HS.out, HT2.out, (HB2.out.setCell (p := ⟨w.heap.size + 1, 0, none⟩) (by show w.heap.size ≤ w.heap.size + 1; omega) _).setCell (p := ⟨w.heap.size + 1, 1, none⟩) (by show w.heap.size ≤ w.heap.size + 1; omega) _⟩
  | true =>
    go_wp2_with fail
    refine HS2.out.mono ?_
    rintro e w2 ⟨T, rfl, hT, hB2⟩
    have hk := HK11.out.low hB2
    have c0 := hk.cell 0
    have c1 := hk.cell 1
    have f0 := hk.frozen 0
    have f1 := hk.frozen 1
    simp only [List.getElem?_toArray, List.getElem?_cons_zero, List.getElem?_cons_succ] at c0 c1
    have HB2 := Lib.hid (HB1.out.trans (hB2.mono HB1.out.size))
    have HT2 := Lib.hid hT
    clear hk hT hB2 g0 g2
    go_wp2
    refine bodyPost_ret (v := .agg #[.string (⟨#[45]⟩ ++ S), .string T]) (by simp [results, Tryz.results60, go_sem, c0, c1]) rfl ?_
    refine ⟨⟨#[45]⟩ ++ S, T, rfl, ?_, HT2.out, (HB2.out.setCell (p := ⟨w.heap.size + 1, 0, none⟩) (by show w.heap.size ≤ w.heap.size + 1; omega) _).setCell (p := ⟨w.heap.size + 1, 1, none⟩) (by show w.heap.size ≤ w.heap.size + 1; omega) _⟩
    rw [numBytes, if_pos rfl, ← HS.out]
    simp [ByteArray.data_append]
end Go.Proofs.YtlildanamfjnmaaGreatDoor
