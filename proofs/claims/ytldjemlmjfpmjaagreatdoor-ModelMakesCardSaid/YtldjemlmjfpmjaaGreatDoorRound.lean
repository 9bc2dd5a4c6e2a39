/-
  num.isWord, num.Round, the reference's Rounded.
-/
import Derived.Test.YtldjemlmjfpmjaaGreatDoorBase
import Derived.Outline
import Derived.Lib.MinMax
namespace Go.Proofs.YtldjemlmjfpmjaaGreatDoor
open Go.RowKit

theorem wr64 (n : Int) (h : -9223372036854775808 ≤ n ∧ n ≤ 9223372036854775807) : wrap64 n = n := by unfold wrap64; omega

def isW (n : Int) : Bool := decide (-2147483648 ≤ n) && decide (n ≤ 2147483647)

/-- the result of rounding -/
def rounded (x m s : Int) : Int := min (max (wrap64 (wrap64 (x * m) + wrap64 (2 ^ (s.toNat - 1))) / 2 ^ s.toNat) (-2147483648)) 2147483647

theorem tdiv_fl {a b : Int} (hb : 0 < b) (h : a.tmod b < 0) : a.tdiv b - 1 = a / b := by
  have h1 := Int.tmod_add_mul_tdiv a b
  have h2 := Int.lt_tmod_of_pos a hb
  have h3 : a = (a.tmod b + b) + b * (a.tdiv b - 1) := by rw [Int.mul_sub]; omega
  have h4 : (a.tmod b + b + b * (a.tdiv b - 1)) / b = (a.tmod b + b) / b + (a.tdiv b - 1) := Int.add_mul_ediv_left _ _ (by omega)
  rw [← h3, Int.ediv_eq_zero_of_lt (a := a.tmod b + b) (by omega) (by omega)] at h4
  omega
theorem tdiv_fl0 {a b : Int} (hb : 0 < b) (h : 0 ≤ a.tmod b) : a.tdiv b = a / b := by
  have h1 := Int.tmod_add_mul_tdiv a b
  have h2 := Int.tmod_lt_of_pos a hb
  have h4 : (a.tmod b + b * (a.tdiv b)) / b = (a.tmod b) / b + (a.tdiv b) := Int.add_mul_ediv_left _ _ (by omega)
  rw [h1, Int.ediv_eq_zero_of_lt (a := a.tmod b) (by omega) (by omega)] at h4
  omega

theorem within_any (a b c : Int) (w : World) :
    Calls Tryz.prog 34 #[.int .i64 a, .int .i64 b, .int .i64 c] w fun e w' => e = .returned (.int .i64 (max b (min a c))) ∧ w' = w := by
  go_enter Tryz.func34, Tryz.ntmps34
  go_wp2
  go_ret
  exact ⟨rfl, rfl⟩
theorem pow62 {s : Int} (h5 : 1 ≤ s) (h6 : s ≤ 62) : 1 ≤ (2:Int) ^ s.toNat ∧ (2:Int) ^ s.toNat ≤ 4611686018427387904 := by
  obtain ⟨k, hk⟩ : ∃ k, k = s.toNat := ⟨_, rfl⟩
  have hk2 : k ≤ 62 := by omega
  have h := Nat.pow_le_pow_right (n := 2) (by omega) hk2
  have h0 : 0 < 2 ^ k := Nat.pow_pos (by omega)
  have e : ((2 ^ k : Nat) : Int) = (2:Int) ^ k := by push_cast; rfl
  rw [← hk, ← e]
  constructor
  · omega
  · exact Int.ofNat_le.2 h
end Go.Proofs.YtldjemlmjfpmjaaGreatDoor
