/-
  Quo, Rat of the reference.
-/
import Derived.Test.YtaibpeokfbokfaaGreatDoorRNum
import Derived.Test.YtaibpeokfbokfaaGreatDoorRString
namespace Go.Proofs.YtaibpeokfbokfaaGreatDoor
open Go.RowKit

theorem rdec_len_le (n : Nat) : (Lib.decDigits n).length ≤ 4 * (Mth.dg 10000 n).length + 1 := by
  have h := Mth.lt_pow_dg (b := 10000) (by omega) n
  have e : (10000 : Nat) ^ (Mth.dg 10000 n).length = 10 ^ (4 * (Mth.dg 10000 n).length) := by rw [Nat.pow_mul]
  rw [e] at h
  have h2 : 10 ^ (4 * (Mth.dg 10000 n).length) ≤ 10 ^ (4 * (Mth.dg 10000 n).length + 1) := Nat.pow_le_pow_right (by omega) (by omega)
  exact (Mth.pad_eq (4 * (Mth.dg 10000 n).length + 1) n (by omega) (by omega)).2

theorem rnatAbs_len {n : Int} (h1 : -9223372036854775808 ≤ n) (h2 : n ≤ 9223372036854775807) : (Mth.dg 10000 n.natAbs).length ≤ 5 :=
  Mth.dg_len_le (by omega) 5 _ (by omega)

set_option maxHeartbeats 2000000 in
set_option maxRecDepth 100000 in
theorem rrat_any (neg : Bool) (m n : Nat) (va vb : Value) (w : World) (ha : Pt w va m) (hb : Pt w vb n) (hs : (Mth.dg 10000 m).length ≤ 1000000000) (ht : (Mth.dg 10000 n).length ≤ 1000000000) (htab : Tabs w) :
    Calls Tryz.prog 48 #[.agg #[.bool neg, va, vb]] w fun e w' => ∃ S T : ByteArray, e = .returned (.agg #[.string S, .string T]) ∧ S.data.toList = numBytes neg m ∧ T.data.toList = Lib.decDigits n ∧ Below w.heap.size w w' := by
  obtain ⟨A1, n1, k1, rfl⟩ := ha.shape
  obtain ⟨A2, n2, k2, rfl⟩ := hb.shape
  obtain ⟨W, hW⟩ : ∃ W, W = (w.alloc (.cells #[.bool neg, .slice A1 n1 k1, .slice A2 n2 k2] 33)).alloc (.cells #[.string ⟨#[]⟩, .string ⟨#[]⟩] 27) := ⟨_, rfl⟩
  have hBW : Below w.heap.size w W := by
    rw [hW]
    exact ((Below.refl _ w).alloc (Nat.le_refl _) _).alloc (by simp) _
  have hk0 : Blk W w.heap.size 33 #[.bool neg, .slice A1 n1 k1, .slice A2 n2 k2] := by
    rw [hW]; exact (Blk.new w _ _).alloc _
  have hk1 : Blk W (w.heap.size + 1) 27 #[.string ⟨#[]⟩, .string ⟨#[]⟩] := by
    rw [hW]
    have := Blk.new (w.alloc (.cells #[.bool neg, .slice A1 n1 k1, .slice A2 n2 k2] 33)) 27 #[.string ⟨#[]⟩, .string ⟨#[]⟩]
    rwa [World.size_alloc] at this
  have HW := Lib.hid hW
  have e1 := hk0.cell 1
  simp only [List.getElem?_toArray, List.getElem?_cons_zero, List.getElem?_cons_succ] at e1
  have hs1 := rstring_any m _ W (ha.below hBW) hs (htab.low hBW)
  have HS1 := Lib.hid hs1
  have HB := Lib.hid hBW
  have HBb := Lib.hid (hb.below hBW)
  have HT := Lib.hid (htab.low hBW)
  have HK0 := Lib.hid hk0
  have HK1 := Lib.hid hk1
  have hdl := rdec_len_le m
  clear hs1 hBW hk0 hk1 hW ha hb htab
  go_enter Tryz.func48, Tryz.ntmps48
  go_wp2_with fail
  rw [← HW.out]
  refine HS1.out.mono ?_
  rintro e w1 ⟨S, rfl, hS, hB1⟩
  have hk1 := HK0.out.low hB1
  have g0 := hk1.cell 0
  have g2 := hk1.cell 2
  simp only [List.getElem?_toArray, List.getElem?_cons_zero, List.getElem?_cons_succ] at g0 g2
  have hss : S.size ≤ 9000000001 := by rw [bytes_size, hS]; omega
  have HS := Lib.hid hS
  have HB1 := Lib.hid (HB.out.trans (hB1.mono HB.out.size))
  have hs2 := rstring_any n _ w1 (HBb.out.below hB1) ht (HT.out.low hB1)
  have HS2 := Lib.hid hs2
  have HK11 := Lib.hid (HK1.out.low hB1)
  clear hS hB1 hs2 hk1 e1 hdl
  cases neg with
  | false =>
    go_wp2_with fail
    refine HS2.out.mono ?_
    rintro e w2 ⟨T, rfl, hT, hB2⟩
    have hk := HK11.out.low hB2
    have c0 := hk.cell 0
    have c1 := hk.cell 1
    have f0 := hk.frozen 0
    have f1 := hk.frozen 1
    simp only [List.getElem?_toArray, List.getElem?_cons_zero, List.getElem?_cons_succ] at c0 c1
    have HB2 := Lib.hid (HB1.out.trans (hB2.mono HB1.out.size))
    have HT2 := Lib.hid hT
    clear hk hT hB2 g0 g2
    go_wp2
    refine bodyPost_ret (v := .agg #[.string S, .string T]) (by simp [results, Tryz.results48, go_sem, c0, c1]) rfl ?_
    exact ⟨S, T, rfl, HS.out, HT2.out, (HB2.out.setCell (p := ⟨w.heap.size + 1, 0, none⟩) (by show w.heap.size ≤ w.heap.size + 1; omega) _).setCell (p := ⟨w.heap.size + 1, 1, none⟩) (by show w.heap.size ≤ w.heap.size + 1; omega) _⟩
  | true =>
    go_wp2_with fail
    refine HS2.out.mono ?_
    rintro e w2 ⟨T, rfl, hT, hB2⟩
    have hk := HK11.out.low hB2
    have c0 := hk.cell 0
    have c1 := hk.cell 1
    have f0 := hk.frozen 0
    have f1 := hk.frozen 1
    simp only [List.getElem?_toArray, List.getElem?_cons_zero, List.getElem?_cons_succ] at c0 c1
    have HB2 := Lib.hid (HB1.out.trans (hB2.mono HB1.out.size))
    have HT2 := Lib.hid hT
    clear hk hT hB2 g0 g2
    go_wp2
    refine bodyPost_ret (v := .agg #[.string (⟨#[45]⟩ ++ S), .string T]) (by simp [results, Tryz.results48, go_sem, c0, c1]) rfl ?_
    refine ⟨⟨#[45]⟩ ++ S, T, rfl, ?_, HT2.out, (HB2.out.setCell (p := ⟨w.heap.size + 1, 0, none⟩) (by show w.heap.size ≤ w.heap.size + 1; omega) _).setCell (p := ⟨w.heap.size + 1, 1, none⟩) (by show w.heap.size ≤ w.heap.size + 1; omega) _⟩
    rw [numBytes, if_pos rfl, ← HS.out]
    simp [ByteArray.data_append]


set_option maxHeartbeats 2000000 in
set_option maxRecDepth 100000 in
theorem rquo_any (a b : Int) (w : World) (h1 : -9223372036854775808 ≤ a) (h2 : a ≤ 9223372036854775807) (h3 : -9223372036854775808 ≤ b) (h4 : b ≤ 9223372036854775807) (hb0 : b ≠ 0) :
    Calls Tryz.prog 73 #[.int .i64 a, .int .i64 b] w (RNum (qneg a b) (qnum a b) (qden a b) w) := by
  have HSA := Lib.hid (fun W => rsize_any a W h1 h2)
  have HSB := Lib.hid (fun W => rsize_any b W h3 h4)
  have HOA := Lib.hid (fun W => rof_any a.natAbs W (by omega))
  have HOB := Lib.hid (fun W => rof_any b.natAbs W (by omega))
  have HLA := Lib.hid (rnatAbs_len h1 h2)
  have HLB := Lib.hid (rnatAbs_len h3 h4)
  have HB0 : Hid (0 < b.natAbs) := Lib.hid (by omega)
  have hq1 : qneg a b = rneg (!(decide (a < 0) == decide (b < 0))) a.natAbs := by rw [qneg, Nat.mul_one]
  have hq2 : qnum a b = rnum a.natAbs b.natAbs := by rw [qnum, Nat.mul_one, Nat.one_mul]
  have hq3 : qden a b = rden a.natAbs b.natAbs := by rw [qden, Nat.mul_one, Nat.one_mul]
  rw [hq1, hq2, hq3]
  clear h1 h2 h3 h4 hb0 hq1 hq2 hq3
  go_enter Tryz.func73, Tryz.ntmps73
  go_wp2_with fail
  refine (HSA.out _).mono ?_
  rintro e w1 ⟨rfl, rfl⟩
  go_wp2_with fail
  refine (HOA.out _).mono ?_
  rintro e w1 ⟨v1, rfl, hN1, hB1⟩
  have HN1 := Lib.hid hN1
  have HB1 : Hid (Below w.heap.size w w1) := Lib.hid (((Below.refl _ w).alloc (Nat.le_refl _) _).trans (hB1.mono (by simp)))
  have HK1 := Lib.hid ((Blk.new w 33 #[.bool false, .slice none 0 0, .slice none 0 0]).low hB1)
  clear hN1 hB1
  go_wp2_with fail
  refine (HSB.out _).mono ?_
  rintro e w2 ⟨rfl, rfl⟩
  go_wp2_with fail
  refine (HOB.out _).mono ?_
  rintro e w2 ⟨v2, rfl, hN2, hB2⟩
  have HN1' := Lib.hid (HN1.out.below hB2)
  have HB2 : Hid (Below w.heap.size w w2) := Lib.hid (HB1.out.trans (hB2.mono HB1.out.size))
  have HK2 := Lib.hid (HK1.out.low hB2)
  have HNO := Lib.hid (rnumOf_any (!(decide (a < 0) == decide (b < 0))) a.natAbs b.natAbs v1 v2 w2 HN1'.out hN2 (by have := HLA.out; omega) (by have := HLB.out; omega) HB0.out)
  clear hN2 hB2
  go_wp2_with fail
  refine HNO.out.mono ?_
  rintro e w3 ⟨v3, v4, rfl, hN3, hN4, hB3⟩
  have HB3 : Hid (Below w.heap.size w w3) := Lib.hid (HB2.out.trans (hB3.mono HB2.out.size))
  have hk := HK2.out.low hB3
  have c0 := hk.cell 0
  have c1 := hk.cell 1
  have c2 := hk.cell 2
  have f0 := hk.frozen 0
  have f1 := hk.frozen 1
  have f2 := hk.frozen 2
  simp only [List.getElem?_toArray, List.getElem?_cons_zero, List.getElem?_cons_succ] at c0 c1 c2
  have HK := Lib.hid hk
  have HN3 := Lib.hid hN3
  have HN4 := Lib.hid hN4
  obtain ⟨A1, k1, l1, rfl⟩ := hN3.shape
  obtain ⟨A2, k2, l2, rfl⟩ := hN4.shape
  clear hN3 hN4 hB3 hk
  go_wp2
  refine bodyPost_ret (v := .agg #[.bool (rneg (!(decide (a < 0) == decide (b < 0))) a.natAbs), .slice A1 k1 l1, .slice A2 k2 l2]) (by simp [results, Tryz.results73, go_sem, c0, c1, c2]) rfl ?_
  exact rnum_end (Nat.le_refl _) HB3.out HK.out HN3.out HN4.out
end Go.Proofs.YtaibpeokfbokfaaGreatDoor
