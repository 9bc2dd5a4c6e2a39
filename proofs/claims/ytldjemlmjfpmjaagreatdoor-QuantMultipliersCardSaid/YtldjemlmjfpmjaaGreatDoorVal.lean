/-
  Quo of the reference; what a valid text says.
-/
import Derived.Test.YtldjemlmjfpmjaaGreatDoorRNum
import Derived.Test.YtldjemlmjfpmjaaGreatDoorRString
import Derived.Test.YtldjemlmjfpmjaaGreatDoorRD
import Derived.Test.YtldjemlmjfpmjaaGreatDoorMake
namespace Go.Proofs.YtldjemlmjfpmjaaGreatDoor
open Go.RowKit

theorem rdec_len_le (n : Nat) : (Lib.decDigits n).length ≤ 4 * (Mth.dg 10000 n).length + 1 := by
  have h := Mth.lt_pow_dg (b := 10000) (by omega) n
  have e : (10000 : Nat) ^ (Mth.dg 10000 n).length = 10 ^ (4 * (Mth.dg 10000 n).length) := by rw [Nat.pow_mul]
  rw [e] at h
  have h2 : 10 ^ (4 * (Mth.dg 10000 n).length) ≤ 10 ^ (4 * (Mth.dg 10000 n).length + 1) := Nat.pow_le_pow_right (by omega) (by omega)
  exact (Mth.pad_eq (4 * (Mth.dg 10000 n).length + 1) n (by omega) (by omega)).2

theorem rnatAbs_len {n : Int} (h1 : -9223372036854775808 ≤ n) (h2 : n ≤ 9223372036854775807) : (Mth.dg 10000 n.natAbs).length ≤ 5 :=
  Mth.dg_len_le (by omega) 5 _ (by omega)

set_option maxHeartbeats 2000000 in
set_option maxRecDepth 100000 in
theorem rrat_any (neg : Bool) (m n : Nat) (va vb : Value) (w : World) (ha : Pt w va m) (hb : Pt w vb n) (hs : (Mth.dg 10000 m).length ≤ 1000000000) (ht : (Mth.dg 10000 n).length ≤ 1000000000) (htab : Tabs w) :
    Calls Tryz.prog 132 #[.agg #[.bool neg, va, vb]] w fun e w' => ∃ S T : ByteArray, e = .returned (.agg #[.string S, .string T]) ∧ S.data.toList = numBytes neg m ∧ T.data.toList = Lib.decDigits n ∧ Below w.heap.size w w' := by
  obtain ⟨A1, n1, k1, rfl⟩ := ha.shape
  obtain ⟨A2, n2, k2, rfl⟩ := hb.shape
  obtain ⟨W, hW⟩ : ∃ W, W = (w.alloc (.cells #[.bool neg, .slice A1 n1 k1, .slice A2 n2 k2] 52)).alloc (.cells #[.string ⟨#[]⟩, .string ⟨#[]⟩] 45) := ⟨_, rfl⟩
  have hBW : Below w.heap.size w W := by
    rw [hW]
    exact ((Below.refl _ w).alloc (Nat.le_refl _) _).alloc (by simp) _
  have hk0 : Blk W w.heap.size 52 #[.bool neg, .slice A1 n1 k1, .slice A2 n2 k2] := by
    rw [hW]; exact (Blk.new w _ _).alloc _
  have hk1 : Blk W (w.heap.size + 1) 45 #[.string ⟨#[]⟩, .string ⟨#[]⟩] := by
    rw [hW]
    have := Blk.new (w.alloc (.cells #[.bool neg, .slice A1 n1 k1, .slice A2 n2 k2] 52)) 45 #[.string ⟨#[]⟩, .string ⟨#[]⟩]
    rwa [World.size_alloc] at this
  have HW := Lib.hid hW
  have e1 := hk0.cell 1
  simp only [List.getElem?_toArray, List.getElem?_cons_zero, List.getElem?_cons_succ] at e1
  have hs1 := rstring_any m _ W (ha.below hBW) hs (htab.low hBW)
  have HS1 := Lib.hid hs1
  have HB := Lib.hid hBW
  have HBb := Lib.hid (hb.below hBW)
  have HT := Lib.hid (htab.low hBW)
  have HK0 := Lib.hid hk0
  have HK1 := Lib.hid hk1
  have hdl := rdec_len_le m
  clear hs1 hBW hk0 hk1 hW ha hb htab
  go_enter Tryz.func132, Tryz.ntmps132
  go_wp2_with fail
  rw [← HW.out]
  refine HS1.out.mono ?_
  rintro e w1 ⟨S, rfl, hS, hB1⟩
  have hk1 := HK0.out.low hB1
  have g0 := hk1.cell 0
  have g2 := hk1.cell 2
  simp only [List.getElem?_toArray, List.getElem?_cons_zero, List.getElem?_cons_succ] at g0 g2
  have hss : S.size ≤ 9000000001 := by rw [bytes_size, hS]; omega
  have HS := Lib.hid hS
  have HB1 := Lib.hid (HB.out.trans (hB1.mono HB.out.size))
  have hs2 := rstring_any n _ w1 (HBb.out.below hB1) ht (HT.out.low hB1)
  have HS2 := Lib.hid hs2
  have HK11 := Lib.hid (HK1.out.low hB1)
  clear hS hB1 hs2 hk1 e1 hdl
  cases neg with
  | false =>
    go_wp2_with fail
    refine HS2.out.mono ?_
    rintro e w2 ⟨T, rfl, hT, hB2⟩
    have hk := HK11.out.low hB2
    have c0 := hk.cell 0
    have c1 := hk.cell 1
    have f0 := hk.frozen 0
    have f1 := hk.frozen 1
    simp only [List.getElem?_toArray, List.getElem?_cons_zero, List.getElem?_cons_succ] at c0 c1
    have HB2 := Lib.hid (HB1.out.trans (hB2.mono HB1.out.size))
    have HT2 := Lib.hid hT
    clear hk hT hB2 g0 g2
    go_wp2
    refine bodyPost_ret (v := .agg #[.string S, .string T]) (by simp [results, Tryz.results132, go_sem, c0, c1]) rfl ?_
    exact ⟨S, T, rfl, HS.out, HT2.out, (HB2.out.setCell (p := ⟨w.heap.size + 1, 0, none⟩) (by show w.heap.size ≤ w.heap.size + 1; omega) _).setCell (p := ⟨w.heap.size + 1, 1, none⟩) (by show w.heap.size ≤ w.heap.size + 1; omega) _⟩
  | true =>
    go_wp2_with fail
    refine HS2.out.mono ?_
    rintro e w2 ⟨T, rfl, hT, hB2⟩
    have hk := HK11.out.low hB2
    have c0 := hk.cell 0
    have c1 := hk.cell 1
    have f0 := hk.frozen 0
    have f1 := hk.frozen 1
    simp only [List.getElem?_toArray, List.getElem?_cons_zero, List.getElem?_cons_succ] at c0 c1
    have HB2 := Lib.hid (HB1.out.trans (hB2.mono HB1.out.size))
    have HT2 := Lib.hid hT
    clear hk hT hB2 g0 g2
    go_wp2
    refine bodyPost_ret (v := .agg #[.string (⟨#[45]⟩ ++ S), .string T]) (by simp [results, Tryz.results132, go_sem, c0, c1]) rfl ?_
    refine ⟨⟨#[45]⟩ ++ S, T, rfl, ?_, HT2.out, (HB2.out.setCell (p := ⟨w.heap.size + 1, 0, none⟩) (by show w.heap.size ≤ w.heap.size + 1; omega) _).setCell (p := ⟨w.heap.size + 1, 1, none⟩) (by show w.heap.size ≤ w.heap.size + 1; omega) _⟩
    rw [numBytes, if_pos rfl, ← HS.out]
    simp [ByteArray.data_append]


set_option maxHeartbeats 2000000 in
set_option maxRecDepth 100000 in
theorem rquo_any (a b : Int) (w : World) (h1 : -9223372036854775808 ≤ a) (h2 : a ≤ 9223372036854775807) (h3 : -9223372036854775808 ≤ b) (h4 : b ≤ 9223372036854775807) (hb0 : b ≠ 0) :
    Calls Tryz.prog 118 #[.int .i64 a, .int .i64 b] w (RNum (qneg a b) (qnum a b) (qden a b) w) := by
  have HSA := Lib.hid (fun W => rsize_any a W h1 h2)
  have HSB := Lib.hid (fun W => rsize_any b W h3 h4)
  have HOA := Lib.hid (fun W => rof_any a.natAbs W (by omega))
  have HOB := Lib.hid (fun W => rof_any b.natAbs W (by omega))
  have HLA := Lib.hid (rnatAbs_len h1 h2)
  have HLB := Lib.hid (rnatAbs_len h3 h4)
  have HB0 : Hid (0 < b.natAbs) := Lib.hid (by omega)
  have hq1 : qneg a b = rneg (!(decide (a < 0) == decide (b < 0))) a.natAbs := by rw [qneg, Nat.mul_one]
  have hq2 : qnum a b = rnum a.natAbs b.natAbs := by rw [qnum, Nat.mul_one, Nat.one_mul]
  have hq3 : qden a b = rden a.natAbs b.natAbs := by rw [qden, Nat.mul_one, Nat.one_mul]
  rw [hq1, hq2, hq3]
  clear h1 h2 h3 h4 hb0 hq1 hq2 hq3
  go_enter Tryz.func118, Tryz.ntmps118
  go_wp2_with fail
  refine (HSA.out _).mono ?_
  rintro e w1 ⟨rfl, rfl⟩
  go_wp2_with fail
  refine (HOA.out _).mono ?_
  rintro e w1 ⟨v1, rfl, hN1, hB1⟩
  have HN1 := Lib.hid hN1
  have HB1 : Hid (Below w.heap.size w w1) := Lib.hid (((Below.refl _ w).alloc (Nat.le_refl _) _).trans (hB1.mono (by simp)))
  have HK1 := Lib.hid ((Blk.new w 52 #[.bool false, .slice none 0 0, .slice none 0 0]).low hB1)
  clear hN1 hB1
  go_wp2_with fail
  refine (HSB.out _).mono ?_
  rintro e w2 ⟨rfl, rfl⟩
  go_wp2_with fail
  refine (HOB.out _).mono ?_
  rintro e w2 ⟨v2, rfl, hN2, hB2⟩
  have HN1' := Lib.hid (HN1.out.below hB2)
  have HB2 : Hid (Below w.heap.size w w2) := Lib.hid (HB1.out.trans (hB2.mono HB1.out.size))
  have HK2 := Lib.hid (HK1.out.low hB2)
  have HNO := Lib.hid (rnumOf_any (!(decide (a < 0) == decide (b < 0))) a.natAbs b.natAbs v1 v2 w2 HN1'.out hN2 (by have := HLA.out; omega) (by have := HLB.out; omega) HB0.out)
  clear hN2 hB2
  go_wp2_with fail
  refine HNO.out.mono ?_
  rintro e w3 ⟨v3, v4, rfl, hN3, hN4, hB3⟩
  have HB3 : Hid (Below w.heap.size w w3) := Lib.hid (HB2.out.trans (hB3.mono HB2.out.size))
  have hk := HK2.out.low hB3
  have c0 := hk.cell 0
  have c1 := hk.cell 1
  have c2 := hk.cell 2
  have f0 := hk.frozen 0
  have f1 := hk.frozen 1
  have f2 := hk.frozen 2
  simp only [List.getElem?_toArray, List.getElem?_cons_zero, List.getElem?_cons_succ] at c0 c1 c2
  have HK := Lib.hid hk
  have HN3 := Lib.hid hN3
  have HN4 := Lib.hid hN4
  obtain ⟨A1, k1, l1, rfl⟩ := hN3.shape
  obtain ⟨A2, k2, l2, rfl⟩ := hN4.shape
  clear hN3 hN4 hB3 hk
  go_wp2
  refine bodyPost_ret (v := .agg #[.bool (rneg (!(decide (a < 0) == decide (b < 0))) a.natAbs), .slice A1 k1 l1, .slice A2 k2 l2]) (by simp [results, Tryz.results118, go_sem, c0, c1, c2]) rfl ?_
  exact rnum_end (Nat.le_refl _) HB3.out HK.out HN3.out HN4.out
end Go.Proofs.YtldjemlmjfpmjaaGreatDoor

namespace Go.Proofs.YtldjemlmjfpmjaaGreatDoor
open Go.RowKit Go.Shelf

theorem dv_pos {l : List UInt8} (h : digB l = true) (h0 : (l == [48]) = false) : 0 < Mth.dv l := by
  simp only [digB, Bool.and_eq_true, Bool.or_eq_true, bne_iff_ne] at h
  obtain ⟨⟨h1, h2⟩, h3⟩ := h
  cases l with
  | nil => cases h1
  | cons c r =>
    have h4 : ¬ c = 48 := by
      rcases h3 with h3 | h3
      · intro e; exact h3 (by rw [e]; rfl)
      · rw [h3] at h0; cases h0
    simp only [List.all_cons, Bool.and_eq_true, Mth.isD, decide_eq_true_eq] at h2
    have h5 : c.toNat ≠ 48 := fun e => h4 (UInt8.toNat.inj (by rw [e]; rfl))
    rw [Mth.dv_cons]
    have h6 : 0 < (c.toNat - 48) * 10 ^ r.length := Nat.mul_pos (by omega) (Nat.pow_pos (by omega))
    omega
/-- what a valid text says -/
theorem valid_of {nl dl : List UInt8} (h : chkOf nl dl = 0) : digB (cutNum nl) = true ∧ digB dl = true ∧ 0 < Mth.dv dl := by
  unfold chkOf chk at h
  by_cases hc : (!digB (cutNum nl) || !digB dl || dl == [48]) = true
  · rw [if_pos hc] at h; cases h
  · simp only [Bool.not_eq_true, Bool.or_eq_false_iff, Bool.not_eq_false'] at hc
    exact ⟨hc.1.1, hc.1.2, dv_pos hc.1.2 hc.2⟩
theorem dv_len {b k : Nat} (hb : 10 ≤ b) {l : List UInt8} (h : digB l = true) (hk : l.length ≤ k) : (Mth.dg b (Mth.dv l)).length ≤ k :=
  Nat.le_trans (Mth.dg_len_le (by omega) l.length _ (Nat.lt_of_lt_of_le (Mth.dv_lt l (digB_all h)) (Nat.pow_le_pow_left hb _))) hk
theorem cut_len (nl : List UInt8) : (cutNum nl).length ≤ nl.length := by unfold cutNum Lib.trimPrefix; split <;> simp
theorem rnum_le (m n : Nat) : rnum m n ≤ m := by
  unfold rnum; split
  · omega
  · exact Nat.div_le_self _ _
theorem rden_le {m n : Nat} (hn : 0 < n) : rden m n ≤ n := by
  unfold rden; split
  · omega
  · exact Nat.div_le_self _ _
/-- the reading of a text: the sign, the number above, the number below -/
def pN (nl : List UInt8) : Nat := Mth.dv (cutNum nl)
theorem rat_str (neg : Bool) (m n : Nat) (va vb : Value) (w : World) (ha : Nt w va m) (hb : Nt w vb n) (hs : (Mth.dg 1000000000 m).length ≤ 1000000000000) (ht : (Mth.dg 1000000000 n).length ≤ 1000000000000) (htab : Tabs w) :
    Calls Tryz.prog 131 #[.agg #[.bool neg, va, vb]] w fun e w' => e = .returned (.agg #[.string ⟨(numBytes neg m).toArray⟩, .string ⟨(Lib.decDigits n).toArray⟩]) ∧ Below w.heap.size w w' := by
  refine (rat_any neg m n va vb w ha hb hs ht htab).mono ?_
  rintro e w' ⟨S, T, rfl, hS, hT, hB⟩
  rw [str_eq hS, str_eq hT]
  exact ⟨rfl, hB⟩
theorem chk2_zero {a b : Int} (h : chk2 a b = 0) : a = 0 ∧ b = 0 := by
  unfold chk2 at h
  by_cases h1 : a = 0
  · rw [if_pos h1] at h; exact ⟨h1, h⟩
  · rw [if_neg h1] at h; exact absurd h h1
end Go.Proofs.YtldjemlmjfpmjaaGreatDoor
