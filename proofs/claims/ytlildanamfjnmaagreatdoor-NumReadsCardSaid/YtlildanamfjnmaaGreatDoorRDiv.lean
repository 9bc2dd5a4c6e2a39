/-
  natDiv of the reference: quotient and rest.
-/
import Derived.Test.YtlildanamfjnmaaGreatDoorRAdd
import Derived.Test.YtlildanamfjnmaaGreatDoorRNatCmp
import Derived.Test.YtlildanamfjnmaaGreatDoorRClone
import Derived.Test.YtlildanamfjnmaaGreatDoorRInsert
import Derived.Deep.RegionHeld3
namespace Go.Proofs.YtlildanamfjnmaaGreatDoor
open Go.RowKit

theorem rbelow_drewN {B : Nat} {a w : World} (h : Below B a w) (n : Nat) : Below B a (w.drewN n) := ⟨h.os, h.tape, h.output, h.size, h.block⟩
theorem Pt.drewN {w : World} {v : Value} {n : Nat} (h : Pt w v n) (k : Nat) : Pt (w.drewN k) v n := h
theorem Pt.drew {w : World} {v : Value} {n : Nat} (h : Pt w v n) : Pt w.drew v n := h
theorem Pt.alloc {w : World} {v : Value} {n : Nat} (h : Pt w v n) (o : Obj) : Pt (w.alloc o) v n := Sl.alloc h o
theorem tidy_cons_dg {x r : Nat} (hx : x < 10000) : Mth.tidy (x :: Mth.dg 10000 r) = Mth.dg 10000 (x + 10000 * r) := by
  rw [Mth.tidy_eq (b := 10000) (by omega) _ (by
    intro d hd
    rcases List.mem_cons.1 hd with rfl | h
    · exact hx
    · exact Mth.dg_lt (by omega) r d h)]
  simp only [Mth.val]
  rw [Mth.val_dg (by omega)]
theorem rsub_any (m n : Nat) (va vb : Value) (w : World) (ha : Pt w va m) (hb : Pt w vb n) (hs : (Mth.dg 10000 m).length ≤ 1000000000) (ht : (Mth.dg 10000 n).length ≤ 1000000000) (h : n ≤ m) :
    Calls Tryz.prog 83 #[va, vb, .int .i64 (-1)] w (CarryPost w.heap.size w (m - n)) := by
  have e : ((m : Int) + -1 * (n : Int)).toNat = m - n := by omega
  have h := radd_list (Mth.dg 10000 m) (Mth.dg 10000 n) (-1) (Or.inr rfl) (Mth.dg_lt (by omega) m) (Mth.dg_lt (by omega) n) va vb w ha hb hs ht (by rw [Mth.val_dg (by omega), Mth.val_dg (by omega)]; omega)
  rwa [Mth.val_dg (by omega), Mth.val_dg (by omega), e] at h
theorem radd_any (m n : Nat) (va vb : Value) (w : World) (ha : Pt w va m) (hb : Pt w vb n) (hs : (Mth.dg 10000 m).length ≤ 1000000000) (ht : (Mth.dg 10000 n).length ≤ 1000000000) :
    Calls Tryz.prog 83 #[va, vb, .int .i64 1] w (CarryPost w.heap.size w (m + n)) := by
  have e : ((m : Int) + 1 * (n : Int)).toNat = m + n := by omega
  have h := radd_list (Mth.dg 10000 m) (Mth.dg 10000 n) 1 (Or.inl rfl) (Mth.dg_lt (by omega) m) (Mth.dg_lt (by omega) n) va vb w ha hb hs ht (by rw [Mth.val_dg (by omega), Mth.val_dg (by omega)]; omega)
  rwa [Mth.val_dg (by omega), Mth.val_dg (by omega), e] at h

/-- a quotient and a rest -/
def RDiv (m n : Nat) (w : World) (e : Ending) (w' : World) : Prop := ∃ q r, e = .returned (.tuple #[q, r]) ∧ Below w.heap.size w w' ∧ Pt w' q (m / n) ∧ Pt w' r (m % n)

set_option maxHeartbeats 1000000 in
set_option maxRecDepth 100000 in
theorem rdiv_small (m n : Nat) (va vb : Value) (w : World) (ha : Pt w va m) (hb : Pt w vb n) (hs : (Mth.dg 10000 m).length ≤ 100000000) (ht : (Mth.dg 10000 n).length ≤ 100000000) (h : m < n) :
    Calls Tryz.prog 101 #[va, vb] w (RDiv m n w) := by
  have HC := Lib.hid (rcmp_any m n va vb w ha hb (by omega) (by omega))
  have HA := Lib.hid ha
  have HLT := Lib.hid h
  clear ha hb h
  go_enter Tryz.func101, Tryz.ntmps101
  go_wp2_with fail
  refine HC.out.mono ?_
  rintro e w1 ⟨z, rfl, hz, k, rfl⟩
  have hz1 : z < 0 := by have := HLT.out; omega
  clear hz
  go_wp2
  go_ret2
  exact ⟨_, _, rfl, rbelow_drewN (Below.refl _ _) k, by rw [Nat.div_eq_of_lt HLT.out]; exact Pt.zero _, by rw [Nat.mod_eq_of_lt HLT.out]; exact HA.out.drewN k⟩
end Go.Proofs.YtlildanamfjnmaaGreatDoor
