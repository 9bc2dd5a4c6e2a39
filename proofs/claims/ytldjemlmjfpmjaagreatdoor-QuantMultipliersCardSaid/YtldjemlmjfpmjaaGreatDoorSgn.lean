/-
  Signs and the order of rational numbers; Sign of frac and of the reference.
-/
import Derived.Test.YtldjemlmjfpmjaaGreatDoorRD
import Derived.Outline
namespace Go.Proofs.YtldjemlmjfpmjaaGreatDoor
open Go.RowKit

theorem rnum_zero {m n : Nat} : rnum m n = 0 ↔ m = 0 := by
  unfold rnum
  by_cases h : m = 0
  · simp [h]
  · rw [if_neg h]
    have h1 : Nat.gcd m n ≤ m := Nat.le_of_dvd (by omega) (Nat.gcd_dvd_left m n)
    have h2 : 0 < m / Nat.gcd m n := Nat.div_pos h1 (Nat.gcd_pos_of_pos_left _ (by omega))
    omega
/-- the sign of a number -/
def sgn (neg : Bool) (m : Nat) : Int := if m = 0 then 0 else if neg = true then -1 else 1
/-- the order of two numbers -/
def cmpQ (g1 : Bool) (m1 d1 : Nat) (g2 : Bool) (m2 d2 : Nat) : Int :=
  if sgn g1 m1 < sgn g2 m2 then -1 else if sgn g2 m2 < sgn g1 m1 then 1 else sgn g1 m1 * Mth.cmp (m1 * d2) (m2 * d1)
theorem sgn_zero (g : Bool) : sgn g 0 = 0 := rfl
theorem sgn_pos {g : Bool} {m : Nat} (h : m ≠ 0) : sgn g m = if g = true then -1 else 1 := by unfold sgn; rw [if_neg h]
theorem sgn_rneg (g : Bool) (m d : Nat) : sgn (rneg g m) (rnum m d) = sgn g m := by
  unfold sgn rneg
  by_cases h : m = 0
  · rw [if_pos (rnum_zero.2 h), if_pos h]
  · rw [if_neg (fun e => h (rnum_zero.1 e)), if_neg h, if_neg h]
theorem sgn_sub (g1 g2 : Bool) (m1 d1 m2 d2 : Nat) (h1 : 0 < d1) (h2 : 0 < d2) :
    sgn (rneg (addS g1 (rneg (!g2) m2) (m1 * d2) (m2 * d1)) (addM g1 (rneg (!g2) m2) (m1 * d2) (m2 * d1))) (rnum (addM g1 (rneg (!g2) m2) (m1 * d2) (m2 * d1)) (d1 * d2)) = cmpQ g1 m1 d1 g2 m2 d2 := by
  rw [sgn_rneg]
  unfold cmpQ
  by_cases z2 : m2 = 0
  · subst z2
    rw [Nat.zero_mul, sgn_zero]
    have e1 : rneg (!g2) 0 = false := by unfold rneg; rw [if_pos rfl]
    rw [e1]
    have e2 : addM g1 false (m1 * d2) 0 = m1 * d2 := by unfold addM; cases g1 <;> simp
    have e3 : addS g1 false (m1 * d2) 0 = g1 := by unfold addS; cases g1 <;> simp
    rw [e2, e3]
    by_cases z1 : m1 = 0
    · subst z1; rw [Nat.zero_mul, sgn_zero]; simp
    · have z3 : m1 * d2 ≠ 0 := Nat.mul_ne_zero z1 (by omega)
      rw [sgn_pos z1, sgn_pos z3]
      cases g1 <;> simp
  · have e1 : rneg (!g2) m2 = !g2 := by unfold rneg; rw [if_neg z2]
    rw [e1, sgn_pos z2]
    obtain ⟨y, hy⟩ : ∃ y, m2 * d1 = y := ⟨_, rfl⟩
    have py : 0 < y := by rw [← hy]; exact Nat.mul_pos (by omega) h1
    rw [hy]
    by_cases z1 : m1 = 0
    · subst z1
      rw [Nat.zero_mul, sgn_zero]
      have e2 : addM g1 (!g2) 0 y = y := by unfold addM; cases g1 <;> cases g2 <;> simp <;> omega
      rw [e2, sgn_pos (by omega)]
      unfold addS
      have hle : ¬ y ≤ 0 := by omega
      cases g1 <;> cases g2 <;> simp [hle]
    · obtain ⟨x, hx⟩ : ∃ x, m1 * d2 = x := ⟨_, rfl⟩
      have px : 0 < x := by rw [← hx]; exact Nat.mul_pos (by omega) h2
      rw [hx, sgn_pos z1]
      rcases Nat.lt_trichotomy x y with h | h | h
      · rw [Mth.cmp_lt h]
        have hle : ¬ y ≤ x := by omega
        have hyx : y - x ≠ 0 := by omega
        cases g1 <;> cases g2 <;> simp [addM, addS, sgn, hle, hyx] <;> omega
      · subst h
        rw [Mth.cmp_eq]
        cases g1 <;> cases g2 <;> simp [addM, addS, sgn] <;> omega
      · rw [Mth.cmp_gt h]
        have hle : y ≤ x := by omega
        have hyx : x - y ≠ 0 := by omega
        cases g1 <;> cases g2 <;> simp [addM, addS, sgn, hle, hyx] <;> omega
end Go.Proofs.YtldjemlmjfpmjaaGreatDoor

namespace Go.Proofs.YtldjemlmjfpmjaaGreatDoor
open Go.RowKit

set_option maxHeartbeats 4000000 in
set_option maxRecDepth 100000 in
theorem fsign_any (na : Bool) (m1 d1 : Nat) (x1 y1 : Value) (w : World) (h1 : Nt w x1 m1) (h2 : Nt w y1 d1) (hs : (Mth.dg 1000000000 m1).length ≤ 1000000000000) :
    Calls Tryz.prog 67 #[.agg #[.bool na, x1, y1]] w fun e w' => e = .returned (.int .i64 (sgn na m1)) ∧ Below w.heap.size w w' := by
  have H1 := Lib.hid h1
  obtain ⟨A1, n1, k1, rfl⟩ := h1.shape
  obtain ⟨A2, n2, k2, rfl⟩ := h2.shape
  clear h1 h2
  have hb : Below w.heap.size w (w.alloc (.cells #[.bool na, .slice A1 n1 k1, .slice A2 n2 k2] 90)) := (Below.refl _ w).alloc (Nat.le_refl _) _
  have HB := Lib.hid hb
  have HZ := Lib.hid (fun o1 => zero_any m1 _ (w.alloc o1) (H1.out.alloc o1) hs)
  obtain ⟨s, hs⟩ : ∃ s, sgn na m1 = s := ⟨_, rfl⟩
  rw [hs]
  have HS := Lib.hid hs
  clear hb hs
  go_enter Tryz.func67, Tryz.ntmps67
  go_wp2_with fail
  refine (HZ.out _).mono ?_
  rintro e w1 ⟨rfl, rfl⟩
  by_cases h0 : m1 = 0
  · have hd : decide (m1 = 0) = true := by simpa using h0
    have e0 : s = 0 := by rw [← HS.out, h0]; rfl
    clear h0
    subst e0
    go_wp2
    go_ret
    exact ⟨rfl, HB.out⟩
  · have hd : decide (m1 = 0) = false := by simpa using h0
    have e0 : s = if na = true then -1 else 1 := by rw [← HS.out, sgn_pos h0]
    clear h0
    cases na with
    | true =>
      have e1 : s = -1 := by rw [e0]; rfl
      subst e1
      clear e0
      go_wp2
      go_ret
      exact ⟨rfl, HB.out⟩
    | false =>
      have e1 : s = 1 := by rw [e0]; rfl
      subst e1
      clear e0
      go_wp2
      go_ret
      exact ⟨rfl, HB.out⟩

set_option maxHeartbeats 4000000 in
set_option maxRecDepth 100000 in
theorem rsign_any (na : Bool) (m1 d1 : Nat) (x1 y1 : Value) (w : World) (h1 : Pt w x1 m1) (h2 : Pt w y1 d1) :
    Calls Tryz.prog 25 #[.agg #[.bool na, x1, y1]] w fun e w' => e = .returned (.int .i64 (sgn na m1)) ∧ Below w.heap.size w w' := by
  obtain ⟨A1, n1, k1, rfl, -, hz, -⟩ := h1.lenform
  obtain ⟨A2, n2, k2, rfl⟩ := h2.shape
  clear h1 h2
  have hb : Below w.heap.size w (w.alloc (.cells #[.bool na, .slice A1 n1 k1, .slice A2 n2 k2] 52)) := (Below.refl _ w).alloc (Nat.le_refl _) _
  have HB := Lib.hid hb
  obtain ⟨s, hs⟩ : ∃ s, sgn na m1 = s := ⟨_, rfl⟩
  rw [hs]
  have HS := Lib.hid hs
  clear hb hs
  go_enter Tryz.func25, Tryz.ntmps25
  rcases hz with ⟨h0, hn⟩ | ⟨h0, hn⟩
  · have e0 : s = 0 := by rw [← HS.out, h0]; rfl
    subst e0
    subst hn
    go_wp2
    go_ret
    exact ⟨rfl, HB.out⟩
  · have hn1 : ((n1 : Int) == 0) = false := by simp; omega
    have e0 : s = if na = true then -1 else 1 := by rw [← HS.out, sgn_pos (by omega)]
    cases na with
    | true =>
      have e1 : s = -1 := by rw [e0]; rfl
      subst e1
      clear e0
      go_wp2
      go_ret
      exact ⟨rfl, HB.out⟩
    | false =>
      have e1 : s = 1 := by rw [e0]; rfl
      subst e1
      clear e0
      go_wp2
      go_ret
      exact ⟨rfl, HB.out⟩
end Go.Proofs.YtldjemlmjfpmjaaGreatDoor
