/-
  num.Make, num.Whole.
-/
import Derived.Test.YtneabpgphjcbkaaGreatDoorCheck
namespace Go.Proofs.YtneabpgphjcbkaaGreatDoor
open Go.RowKit

theorem str_eq {S : ByteArray} {l : List UInt8} (h : S.data.toList = l) : S = ⟨l.toArray⟩ := by
  rw [← h]

theorem rnum_len {m d k : Nat} (hm : (Mth.dg 1000000000 m).length ≤ k) : (Mth.dg 1000000000 (rnum m d)).length ≤ k := by
  refine Nat.le_trans (Mth.dg_len_mono (by omega) ?_) hm
  unfold rnum
  split <;> first | exact Nat.div_le_self _ _ | omega
theorem rden_len {m d k : Nat} (hm : (Mth.dg 1000000000 d).length ≤ k) (h1 : 1 ≤ k) : (Mth.dg 1000000000 (rden m d)).length ≤ k := by
  unfold rden
  split
  · rw [Mth.dg_one (by omega) (by omega) (by omega)]; simpa using h1
  · exact Nat.le_trans (Mth.dg_len_mono (by omega) (Nat.div_le_self _ _)) hm

set_option maxHeartbeats 2000000 in
set_option maxRecDepth 100000 in
theorem make_any (a b : Int) (w : World) (h1 : -9223372036854775808 ≤ a) (h2 : a ≤ 9223372036854775807) (h3 : -9223372036854775808 ≤ b) (h4 : b ≤ 9223372036854775807) (hb0 : b ≠ 0) (htab : Tabs w) :
    Calls Tryz.prog 61 #[.int .i64 a, .int .i64 b] w fun e w' => e = .returned (.tuple #[.agg #[.string ⟨(numBytes (qneg a b) (qnum a b)).toArray⟩, .string ⟨(Lib.decDigits (qden a b)).toArray⟩], .int .i64 0]) ∧ Below w.heap.size w w' := by
  have hq := fun W => quot_any a b W h1 h2 h3 h4 hb0
  have l1 : (Mth.dg 1000000000 (qnum a b)).length ≤ 1000000000000 := Nat.le_trans (rnum_len (k := 3) (by rw [Nat.mul_one]; exact natAbs_len h1 h2)) (by omega)
  have l2 : (Mth.dg 1000000000 (qden a b)).length ≤ 1000000000000 := Nat.le_trans (rden_len (k := 3) (by rw [Nat.one_mul]; exact natAbs_len h3 h4) (by omega)) (by omega)
  have hbd : (b == 0) = false := by simpa using hb0
  have HQ := Lib.hid hq
  have HL1 := Lib.hid l1
  have HL2 := Lib.hid l2
  obtain ⟨W, hW⟩ : ∃ W, W = w.alloc (.cells #[.string ⟨#[]⟩, .string ⟨#[]⟩] 76) := ⟨_, rfl⟩
  have hBW : Below w.heap.size w W := by
    rw [hW]
    exact (Below.refl _ w).alloc (Nat.le_refl _) _
  have hk0 : Blk W w.heap.size 76 #[.string ⟨#[]⟩, .string ⟨#[]⟩] := by
    rw [hW]; exact Blk.new w _ _
  have HW := Lib.hid hW
  have HT := Lib.hid (htab.low hBW)
  have HB := Lib.hid hBW
  have HK := Lib.hid hk0
  have HZ := Lib.hid hb0
  clear hq l1 l2 hW htab hBW hk0 hb0
  go_enter Tryz.func61, Tryz.ntmps61
  go_wp2_with fail
  rw [← HW.out]
  refine (HQ.out _).mono ?_
  rintro e w1 ⟨v1, v2, rfl, hN1, hN2, hB1⟩
  have hr := rat_any (qneg a b) (qnum a b) (qden a b) v1 v2 w1 hN1 hN2 HL1.out HL2.out (HT.out.low hB1)
  have HR := Lib.hid hr
  have HB1 := Lib.hid hB1
  clear hr hN1 hN2 hB1
  go_wp2_with fail
  refine HR.out.mono ?_
  rintro e w2 ⟨S, T, rfl, hS, hT, hB2⟩
  have hk := (HK.out.low HB1.out).low hB2
  have c0 := hk.cell 0
  have c1 := hk.cell 1
  have f0 := hk.frozen 0
  have f1 := hk.frozen 1
  simp only [List.getElem?_toArray, List.getElem?_cons_zero, List.getElem?_cons_succ] at c0 c1
  have HS := Lib.hid (str_eq hS)
  have HT2 := Lib.hid (str_eq hT)
  have HBB := Lib.hid (HB.out.trans ((HB1.out.trans (hB2.mono HB1.out.size)).mono HB.out.size))
  clear hS hT hB2 hk
  go_wp2
  refine bodyPost_ret (v := .tuple #[.agg #[.string S, .string T], .int .i64 0]) (by simp [results, Tryz.results61, go_sem, c0, c1]) rfl ?_
  refine ⟨?_, (HBB.out.setCell (p := ⟨w.heap.size, 0, none⟩) (Nat.le_refl _) _).setCell (p := ⟨w.heap.size, 1, none⟩) (Nat.le_refl _) _⟩
  rw [HS.out, HT2.out]

set_option maxHeartbeats 2000000 in
set_option maxRecDepth 100000 in
theorem make_zero (a : Int) (w : World) :
    Calls Tryz.prog 61 #[.int .i64 a, .int .i64 0] w fun e w' => e = .returned (.tuple #[.agg #[.string ⟨#[]⟩, .string ⟨#[]⟩], .int .i64 23]) ∧ Below w.heap.size w w' := by
  obtain ⟨W, hW⟩ : ∃ W, W = w.alloc (.cells #[.string ⟨#[]⟩, .string ⟨#[]⟩] 76) := ⟨_, rfl⟩
  have hBW : Below w.heap.size w W := by
    rw [hW]
    exact (Below.refl _ w).alloc (Nat.le_refl _) _
  have hk : Blk W w.heap.size 76 #[.string ⟨#[]⟩, .string ⟨#[]⟩] := by
    rw [hW]; exact Blk.new w _ _
  have c0 := hk.cell 0
  have c1 := hk.cell 1
  have f0 := hk.frozen 0
  have f1 := hk.frozen 1
  simp only [List.getElem?_toArray, List.getElem?_cons_zero, List.getElem?_cons_succ] at c0 c1
  have HW := Lib.hid hW
  have HB := Lib.hid hBW
  have HK := Lib.hid hk
  clear hW hBW hk
  go_enter Tryz.func61, Tryz.ntmps61
  go_wp2
  rw [← HW.out]
  refine bodyPost_ret (v := .tuple #[.agg #[.string ⟨#[]⟩, .string ⟨#[]⟩], .int .i64 23]) (by simp [results, Tryz.results61, go_sem, c0, c1]) rfl ?_
  exact ⟨rfl, HB.out⟩
end Go.Proofs.YtneabpgphjcbkaaGreatDoor
