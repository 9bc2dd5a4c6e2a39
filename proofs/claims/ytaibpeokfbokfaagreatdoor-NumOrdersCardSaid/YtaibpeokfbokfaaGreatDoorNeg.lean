/-
  Neg of the reference and of frac.
-/
import Derived.Test.YtaibpeokfbokfaaGreatDoorRD
import Derived.Outline
namespace Go.Proofs.YtaibpeokfbokfaaGreatDoor
open Go.RowKit

theorem rneg_not (na : Bool) (m : Nat) : rneg (!na) m = (!na && !decide (m = 0)) := by
  unfold rneg; by_cases h : m = 0 <;> simp [h]
set_option maxHeartbeats 4000000 in
set_option maxRecDepth 100000 in
theorem rnneg_any (na : Bool) (m1 d1 : Nat) (x1 y1 : Value) (w : World) (h1 : Pt w x1 m1) (h2 : Pt w y1 d1) :
    Calls Tryz.prog 26 #[.agg #[.bool na, x1, y1]] w (RNum (rneg (!na) m1) m1 d1 w) := by
  have H1 := Lib.hid h1
  have H2 := Lib.hid h2
  obtain ⟨A1, n1, k1, rfl, -, hz, -⟩ := h1.lenform
  obtain ⟨A2, n2, k2, rfl⟩ := h2.shape
  clear h1 h2
  have fin : ∀ b : Bool, Hid (rneg (!na) m1 = b → RNum (rneg (!na) m1) m1 d1 w (.returned (.agg #[.bool b, .slice A1 n1 k1, .slice A2 n2 k2])) ((w.alloc (.cells #[.bool na, .slice A1 n1 k1, .slice A2 n2 k2] 33)).alloc (.cells #[.bool b, .slice A1 n1 k1, .slice A2 n2 k2] 33))) := fun b => Lib.hid fun e =>
    ⟨_, _, by rw [e], (H1.out.alloc _).alloc _, (H2.out.alloc _).alloc _, ((Below.refl _ w).alloc (Nat.le_refl _) _).alloc (by simp) _⟩
  go_enter Tryz.func26, Tryz.ntmps26
  cases na with
  | true =>
    go_wp2
    refine bodyPost_ret (v := .agg #[.bool false, .slice A1 n1 k1, .slice A2 n2 k2]) (by simp [results, Tryz.results26, go_sem]) rfl ?_
    exact (fin false).out (by rw [rneg_not]; simp)
  | false =>
    rcases hz with ⟨h0, hn⟩ | ⟨h0, hn⟩
    · subst hn
      go_wp2
      refine bodyPost_ret (v := .agg #[.bool false, .slice A1 0 k1, .slice A2 n2 k2]) (by simp [results, Tryz.results26, go_sem]) rfl ?_
      exact (fin false).out (by rw [rneg_not]; simp [h0])
    · have hn1 : decide ((0 : Int) < (n1 : Int)) = true := by simp; omega
      go_wp2
      refine bodyPost_ret (v := .agg #[.bool true, .slice A1 n1 k1, .slice A2 n2 k2]) (by simp [results, Tryz.results26, go_sem]) rfl ?_
      exact (fin true).out (by rw [rneg_not]; simp; omega)
set_option maxHeartbeats 4000000 in
set_option maxRecDepth 100000 in
theorem fneg_any (na : Bool) (m1 d1 : Nat) (x1 y1 : Value) (w : World) (h1 : Nt w x1 m1) (h2 : Nt w y1 d1) (hs : (Mth.dg 1000000000 m1).length ≤ 1000000000000) :
    Calls Tryz.prog 61 #[.agg #[.bool na, x1, y1]] w (FNum (rneg (!na) m1) m1 d1 w) := by
  have H1 := Lib.hid h1
  have H2 := Lib.hid h2
  obtain ⟨A1, n1, k1, rfl⟩ := h1.shape
  obtain ⟨A2, n2, k2, rfl⟩ := h2.shape
  clear h1 h2
  have fin : ∀ b : Bool, Hid (rneg (!na) m1 = b → FNum (rneg (!na) m1) m1 d1 w (.returned (.agg #[.bool b, .slice A1 n1 k1, .slice A2 n2 k2])) ((w.alloc (.cells #[.bool b, .slice A1 n1 k1, .slice A2 n2 k2] 78)).alloc (.cells #[.bool b, .slice A1 n1 k1, .slice A2 n2 k2] 78))) := fun b => Lib.hid fun e =>
    ⟨_, _, by rw [e], (H1.out.alloc _).alloc _, (H2.out.alloc _).alloc _, ((Below.refl _ w).alloc (Nat.le_refl _) _).alloc (by simp) _⟩
  have HZ := Lib.hid (fun o1 o2 => zero_any m1 _ ((w.alloc o1).alloc o2) ((H1.out.alloc o1).alloc o2) hs)
  go_enter Tryz.func61, Tryz.ntmps61
  cases na with
  | true =>
    go_wp2
    refine bodyPost_ret (v := .agg #[.bool false, .slice A1 n1 k1, .slice A2 n2 k2]) (by simp [results, Tryz.results61, go_sem]) rfl ?_
    exact (fin false).out (by rw [rneg_not]; simp)
  | false =>
    go_wp2_with fail
    refine (HZ.out _ _).mono ?_
    rintro e w1 ⟨rfl, rfl⟩
    by_cases h0 : m1 = 0
    · have hd : decide (m1 = 0) = true := by simpa using h0
      go_wp2
      refine bodyPost_ret (v := .agg #[.bool false, .slice A1 n1 k1, .slice A2 n2 k2]) (by simp [results, Tryz.results61, go_sem]) rfl ?_
      exact (fin false).out (by rw [rneg_not]; simp [h0])
    · have hd : decide (m1 = 0) = false := by simpa using h0
      go_wp2
      refine bodyPost_ret (v := .agg #[.bool true, .slice A1 n1 k1, .slice A2 n2 k2]) (by simp [results, Tryz.results61, go_sem]) rfl ?_
      exact (fin true).out (by rw [rneg_not]; simp [h0])
end Go.Proofs.YtaibpeokfbokfaaGreatDoor
