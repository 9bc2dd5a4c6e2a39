/-
  num.Wrap, num.Root, num.Bits, the reference's Wrapped.
-/
import Derived.Test.YtmbccjncgikehaaGreatDoorRound
namespace Go.Proofs.YtmbccjncgikehaaGreatDoor
open Go.RowKit

theorem wrap_any (n : Int) (w : World) : Calls Tryz.prog 28 #[.int .i64 n] w fun e w' => e = .returned (.int .i64 (IntKind.i32.wrap n)) ∧ w' = w := by
  go_enter Tryz.func28, Tryz.ntmps28
  go_wp2
  go_ret
  exact ⟨ret_int (by simp [IntKind.wrap, IntKind.signed, IntKind.bits, wrap64, wrap32] <;> omega), rfl⟩
theorem wrapped_any (n : Int) (w : World) : Calls Tryz.prog 29 #[.int .i64 n] w fun e w' => e = .returned (.int .i64 (IntKind.i32.wrap n)) ∧ w' = w := by
  go_enter Tryz.func29, Tryz.ntmps29
  go_wp2
  go_ret
  exact ⟨ret_int (by simp [IntKind.wrap, IntKind.signed, IntKind.bits, wrap64, wrap32] <;> omega), rfl⟩

/-- the state of the root's loop: r is known down to the bit b -/
def RootInv (n r b : Int) (k : Nat) : Prop := b = 2 ^ k / 2 ∧ 0 ≤ r ∧ r + 2 ^ k ≤ 4294967296 ∧ r * r ≤ n ∧ n < (r + 2 ^ k) * (r + 2 ^ k)
theorem root_start {n : Int} (h0 : 0 ≤ n) (h : n ≤ 9223372036854775807) : RootInv n 0 2147483648 32 := by
  refine ⟨by decide, by omega, by decide, by omega, ?_⟩
  have : (18446744073709551616 : Int) = (0 + 2 ^ 32) * (0 + 2 ^ 32) := by decide
  omega
theorem root_pow {n r b : Int} {k : Nat} (h : RootInv n r b k) (hb : 0 < b) : ∃ j, k = j + 1 ∧ b = 2 ^ j := by
  obtain ⟨h1, -⟩ := h
  cases k with
  | zero => rw [h1] at hb; exact absurd hb (by decide)
  | succ j => exact ⟨j, rfl, by rw [h1, Int.pow_succ]; omega⟩
theorem root_pos {n r b : Int} {k : Nat} (h : RootInv n r b k) (hb : 0 < b) : 0 ≤ r ∧ b ≤ 4294967296 ∧ r + b ≤ 4294967296 := by
  obtain ⟨j, rfl, hj⟩ := root_pow h hb
  obtain ⟨h1, h2, h3, -⟩ := h
  rw [Int.pow_succ, ← hj] at h3
  omega
theorem root_yes {n r b : Int} {k : Nat} (h : RootInv n r b k) (hb : 0 < b) (hx : r + b ≤ n / (r + b)) : ∃ j, RootInv n (r + b) (b / 2) j := by
  obtain ⟨j, rfl, hj⟩ := root_pow h hb
  obtain ⟨h1, h2, h3, h4, h5⟩ := h
  rw [Int.pow_succ, ← hj] at h3 h5
  refine ⟨j, by rw [hj], by omega, by rw [← hj]; omega, (Int.le_ediv_iff_mul_le (by omega)).1 hx, ?_⟩
  rw [← hj, show r + b + b = r + b * 2 by omega]
  exact h5
theorem root_no {n r b : Int} {k : Nat} (h : RootInv n r b k) (hb : 0 < b) (hx : ¬ r + b ≤ n / (r + b)) : ∃ j, RootInv n r (b / 2) j := by
  obtain ⟨j, rfl, hj⟩ := root_pow h hb
  obtain ⟨h1, h2, h3, h4, h5⟩ := h
  rw [Int.pow_succ, ← hj] at h3 h5
  refine ⟨j, by rw [hj], h2, by rw [← hj]; omega, h4, ?_⟩
  rw [← hj]
  have h6 : ¬ (r + b) * (r + b) ≤ n := fun h7 => hx ((Int.le_ediv_iff_mul_le (by omega)).2 h7)
  omega
/-- what is said of a root -/
def RootOf (n r : Int) : Prop := 0 ≤ r ∧ r ≤ 3037000499 ∧ r * r ≤ n ∧ n - r * r ≤ 2 * r
theorem root_end {n r b : Int} {k : Nat} (h : RootInv n r b k) (hn : n ≤ 9223372036854775807) (hb : ¬ 0 < b) : RootOf n r := by
  obtain ⟨h1, h2, h3, h4, h5⟩ := h
  have hk : k = 0 := by
    cases k with
    | zero => rfl
    | succ j =>
      have := Int.pow_pos (n := 2) (m := j) (by decide)
      rw [h1, Int.pow_succ] at hb
      omega
  subst hk
  have e : (r + 2 ^ 0) * (r + 2 ^ 0) = r * r + 2 * r + 1 := by
    show (r + 1) * (r + 1) = _
    rw [Int.mul_add, Int.add_mul]; omega
  rw [e] at h5
  refine ⟨h2, ?_, h4, by omega⟩
  apply Int.not_lt.1
  intro h6
  have h7 : (3037000500 : Int) * 3037000500 ≤ r * r := Int.mul_le_mul (by omega) (by omega) (by decide) h2
  omega

def RootPost (n : Int) (w : World) (e : Ending) (w' : World) : Prop := ∃ r, RootOf n r ∧ e = .returned (.tuple #[.int .i64 r, .int .i64 0]) ∧ w' = w

/-- a word's bits: so many are too few -/
def Need (lo hi : Int) (k : Nat) : Prop := ∀ j < k, lo < -(2 ^ j) ∨ 2 ^ j - 1 < hi
theorem Need.next {lo hi : Int} {k : Nat} (h : Need lo hi k) (h1 : lo < -(2 ^ k) ∨ 2 ^ k - 1 < hi) : Need lo hi (k + 1) := fun j hj => by
  rcases (show j < k ∨ j = k by omega) with h2 | rfl
  · exact h j h2
  · exact h1
def BitsPost (lo hi : Int) (w : World) (e : Ending) (w' : World) : Prop :=
  ∃ k : Nat, k ≤ 31 ∧ Need lo hi k ∧ -(2 ^ k) ≤ lo ∧ hi ≤ 2 ^ k - 1 ∧ e = .returned (.tuple #[.int .i64 ((k : Int) + 1), .int .i64 0]) ∧ w' = w
theorem pow31 {k : Nat} (h : k ≤ 31) : 1 ≤ (2:Int) ^ k ∧ (2:Int) ^ k ≤ 2147483648 := by
  have h1 := Nat.pow_le_pow_right (n := 2) (by omega) h
  have h0 : 0 < 2 ^ k := Nat.pow_pos (by omega)
  have e : ((2 ^ k : Nat) : Int) = (2:Int) ^ k := by push_cast; rfl
  rw [← e]
  constructor
  · omega
  · exact Int.ofNat_le.2 h1
theorem need_31 {lo hi : Int} {k : Nat} (hk : k ≤ 31) (h1 : -2147483648 ≤ lo) (h2 : hi ≤ 2147483647) (h : lo < -(2 ^ k) ∨ 2 ^ k - 1 < hi) : k < 31 := by
  rcases (show k < 31 ∨ k = 31 by omega) with h3 | rfl
  · exact h3
  · have : (2:Int) ^ 31 = 2147483648 := by decide
    omega

theorem root_ok (n : Int) (w : World) (h0 : 0 ≤ n) (h : n ≤ 9223372036854775807) : Calls Tryz.prog 26 #[.int .i64 n] w (RootPost n w) := by
  have HS := Lib.hid (root_start h0 h)
  have HH := Lib.hid h
  clear h
  go_enter Tryz.func26, Tryz.ntmps26
  go_wp2
  go_loopw [4, 5] (fun a4 a5 wr => ∃ (r b : Int) (k : Nat), a4 = .int .i64 r ∧ a5 = .int .i64 b ∧ wr = w ∧ RootInv n r b k) (fun _ a5 _ => (intOf a5).toNat)
  case atStart => exact ⟨0, 2147483648, 32, rfl, rfl, rfl, HS.out⟩
  case round =>
    obtain ⟨r, b, k, rfl, rfl, rfl, hi⟩ := hrel
    by_cases hb : 0 < b
    · have hp := root_pos hi hb
      obtain ⟨h1, h2, h3⟩ := hp
      have hq : wrap64 (n.tdiv (r + b)) = n / (r + b) := by
        rw [Int.tdiv_eq_ediv_of_nonneg h0, wr64]
        have q1 : 0 ≤ n / (r + b) := Int.ediv_nonneg h0 (by omega)
        have q2 : n / (r + b) ≤ n := Int.ediv_le_self _ h0
        have q3 := HH.out
        omega
      by_cases hx : r + b ≤ wrap64 (n.tdiv (r + b))
      · have hy := root_yes hi hb (by rw [← hq]; exact hx)
        have HY := Lib.hid hy
        clear hy hi hq
        go_wp2
        go_roundw
        case rel =>
          obtain ⟨j, hj⟩ := HY.out
          exact ⟨r + b, b / 2, j, by first | rfl | trivial, by first | rfl | trivial, by first | rfl | trivial, hj⟩
        case measure => simp [intOf]; omega
      · have hy := root_no hi hb (by rw [← hq]; exact hx)
        have HY := Lib.hid hy
        clear hy hi hq
        go_wp2
        go_roundw
        case rel =>
          obtain ⟨j, hj⟩ := HY.out
          exact ⟨r, b / 2, j, by first | rfl | trivial, by first | rfl | trivial, by first | rfl | trivial, hj⟩
        case measure => simp [intOf]; omega
    · have hy := root_end hi HH.out hb
      have HY := Lib.hid hy
      clear hy hi
      go_wp2
      refine bodyPost_ret (results_tmp2 Tryz.results26 _ _ _) rfl ?_
      exact ⟨r, HY.out, rfl, rfl⟩
theorem root_bad (n : Int) (w : World) (h0 : n < 0) : Calls Tryz.prog 26 #[.int .i64 n] w fun e w' => e = .returned (.tuple #[.int .i64 0, .int .i64 1]) ∧ w' = w := by
  go_enter Tryz.func26, Tryz.ntmps26
  go_wp2
  refine bodyPost_ret (results_tmp2 Tryz.results26 _ _ _) rfl ?_
  exact ⟨rfl, rfl⟩
theorem bits_bad (lo hi : Int) (w : World) (h : ¬ (-2147483648 ≤ lo ∧ lo ≤ hi ∧ hi ≤ 2147483647)) : Calls Tryz.prog 27 #[.int .i64 lo, .int .i64 hi] w fun e w' => e = .returned (.tuple #[.int .i64 0, .int .i64 1]) ∧ w' = w := by
  rcases (show lo < -2147483648 ∨ (-2147483648 ≤ lo ∧ hi < lo) ∨ (-2147483648 ≤ lo ∧ lo ≤ hi ∧ 2147483647 < hi) by omega) with h1 | ⟨h1, h2⟩ | ⟨h1, h2, h3⟩
  all_goals
    clear h
    go_enter Tryz.func27, Tryz.ntmps27
    go_wp2
    all_goals first
      | (exfalso; omega)
      | (refine bodyPost_ret (results_tmp2 Tryz.results27 _ _ _) rfl ?_
         exact ⟨rfl, rfl⟩)
theorem bits_ok (lo hi : Int) (w : World) (h1 : -2147483648 ≤ lo) (h2 : lo ≤ hi) (h3 : hi ≤ 2147483647) : Calls Tryz.prog 27 #[.int .i64 lo, .int .i64 hi] w (BitsPost lo hi w) := by
  go_enter Tryz.func27, Tryz.ntmps27
  go_wp2
  all_goals first
    | (exfalso; omega)
    | skip
  go_loopw [6] (fun a6 wr => ∃ k : Nat, a6 = .int .i64 (k + 1) ∧ wr = w ∧ k ≤ 31 ∧ Need lo hi k) (fun a6 _ => 40 - (intOf a6).toNat)
  case atStart => exact ⟨0, rfl, rfl, by omega, fun j hj => by omega⟩
  case round =>
    obtain ⟨k, rfl, rfl, hk, hn⟩ := hrel
    have HN := Lib.hid hn
    have hp := pow31 hk
    obtain ⟨P, hP⟩ : ∃ P, (2:Int) ^ k = P := ⟨_, rfl⟩
    rw [hP] at hp
    have HP := Lib.hid hP
    obtain ⟨p1, p2⟩ := hp
    have hk2 : (k:Int) ≤ 31 := by omega
    clear hn
    by_cases hc : lo < -P
    · have hl := need_31 hk h1 h3 (by rw [hP]; exact Or.inl hc)
      have HL := Lib.hid hl
      have HNN := Lib.hid (HN.out.next (by rw [HP.out]; exact Or.inl hc))
      clear hl
      go_wp2
      go_roundw
      case rel => exact ⟨k + 1, by go_num, by first | rfl | trivial, by have := HL.out; omega, HNN.out⟩
      case measure => simp [intOf]; omega
    · by_cases hc2 : P - 1 < hi
      · have hl := need_31 hk h1 h3 (by rw [hP]; exact Or.inr hc2)
        have HL := Lib.hid hl
        have HNN := Lib.hid (HN.out.next (by rw [HP.out]; exact Or.inr hc2))
        clear hl
        go_wp2
        go_roundw
        case rel => exact ⟨k + 1, by go_num, by first | rfl | trivial, by have := HL.out; omega, HNN.out⟩
        case measure => simp [intOf]; omega
      · have HE : Hid (-(2 ^ k) ≤ lo ∧ hi ≤ 2 ^ k - 1) := Lib.hid (by rw [hP]; omega)
        go_wp2
        refine bodyPost_ret (results_tmp2 Tryz.results27 _ _ _) rfl ?_
        exact ⟨k, hk, HN.out, HE.out.1, HE.out.2, rfl, rfl⟩
end Go.Proofs.YtmbccjncgikehaaGreatDoor
