/-
  num.isWord, num.Round, the reference's Rounded.
-/
import Derived.Test.YtmbccjncgikehaaGreatDoorBase
import Derived.Outline
import Derived.Lib.MinMax
namespace Go.Proofs.YtmbccjncgikehaaGreatDoor
open Go.RowKit

theorem wr64 (n : Int) (h : -9223372036854775808 ≤ n ∧ n ≤ 9223372036854775807) : wrap64 n = n := by unfold wrap64; omega

def isW (n : Int) : Bool := decide (-2147483648 ≤ n) && decide (n ≤ 2147483647)

theorem isWord_any (n : Int) (w : World) : Calls Tryz.prog 87 #[.int .i64 n] w fun e w' => e = .returned (.bool (isW n)) ∧ w' = w := by
  by_cases h1 : -2147483648 ≤ n
  · by_cases h2 : n ≤ 2147483647
    · go_enter Tryz.func87, Tryz.ntmps87
      go_wp2
      go_ret
      exact ⟨ret_bool (by simp [isW]; omega), rfl⟩
    · go_enter Tryz.func87, Tryz.ntmps87
      go_wp2
      go_ret
      exact ⟨ret_bool (by simp [isW]; omega), rfl⟩
  · go_enter Tryz.func87, Tryz.ntmps87
    go_wp2
    go_ret
    exact ⟨ret_bool (by simp [isW]; omega), rfl⟩

theorem round_bad (x m s : Int) (w : World) (h : ¬ (-2147483648 ≤ x ∧ x ≤ 2147483647 ∧ 0 ≤ m ∧ m ≤ 2147483647 ∧ 1 ≤ s ∧ s ≤ 62)) :
    Calls Tryz.prog 19 #[.int .i64 x, .int .i64 m, .int .i64 s] w fun e w' => e = .returned (.tuple #[.int .i64 0, .int .i64 1]) ∧ w' = w := by
  have hw := isWord_any x
  have HW := Lib.hid hw
  clear hw
  obtain ⟨b, hb⟩ : ∃ b, isW x = b := ⟨_, rfl⟩
  rw [hb] at HW
  have hb2 : b = true → -2147483648 ≤ x ∧ x ≤ 2147483647 := by
    intro h1; rw [h1] at hb; simpa [isW] using hb
  clear hb
  cases b with
  | false =>
    clear h hb2
    go_enter Tryz.func19, Tryz.ntmps19
    go_wp2_with fail
    refine (HW.out _).mono ?_
    rintro e w1 ⟨rfl, rfl⟩
    go_wp2
    all_goals first
      | (exfalso; omega)
      | (refine bodyPost_ret (results_tmp2 Tryz.results19 _ _ _) rfl ?_
         exact ⟨rfl, rfl⟩)
  | true =>
    have hb3 := hb2 rfl
    clear hb2
    by_cases h3 : 0 ≤ m
    · by_cases h4 : m ≤ 2147483647
      · by_cases h5 : 1 ≤ s
        · have h6 : ¬ s ≤ 62 := by omega
          clear h
          go_enter Tryz.func19, Tryz.ntmps19
          go_wp2_with fail
          refine (HW.out _).mono ?_
          rintro e w1 ⟨rfl, rfl⟩
          go_wp2
          all_goals first
            | (exfalso; omega)
            | (refine bodyPost_ret (results_tmp2 Tryz.results19 _ _ _) rfl ?_
               exact ⟨rfl, rfl⟩)
        · clear h
          go_enter Tryz.func19, Tryz.ntmps19
          go_wp2_with fail
          refine (HW.out _).mono ?_
          rintro e w1 ⟨rfl, rfl⟩
          go_wp2
          all_goals first
            | (exfalso; omega)
            | (refine bodyPost_ret (results_tmp2 Tryz.results19 _ _ _) rfl ?_
               exact ⟨rfl, rfl⟩)
      · clear h
        go_enter Tryz.func19, Tryz.ntmps19
        go_wp2_with fail
        refine (HW.out _).mono ?_
        rintro e w1 ⟨rfl, rfl⟩
        go_wp2
        all_goals first
          | (exfalso; omega)
          | (refine bodyPost_ret (results_tmp2 Tryz.results19 _ _ _) rfl ?_
             exact ⟨rfl, rfl⟩)
    · clear h
      go_enter Tryz.func19, Tryz.ntmps19
      go_wp2_with fail
      refine (HW.out _).mono ?_
      rintro e w1 ⟨rfl, rfl⟩
      go_wp2
      all_goals first
        | (exfalso; omega)
        | (refine bodyPost_ret (results_tmp2 Tryz.results19 _ _ _) rfl ?_
           exact ⟨rfl, rfl⟩)

/-- the result of rounding -/
def rounded (x m s : Int) : Int := min (max (wrap64 (wrap64 (x * m) + wrap64 (2 ^ (s.toNat - 1))) / 2 ^ s.toNat) (-2147483648)) 2147483647

theorem round_ok (x m s : Int) (w : World) (h1 : -2147483648 ≤ x) (h2 : x ≤ 2147483647) (h3 : 0 ≤ m) (h4 : m ≤ 2147483647) (h5 : 1 ≤ s) (h6 : s ≤ 62) :
    Calls Tryz.prog 19 #[.int .i64 x, .int .i64 m, .int .i64 s] w fun e w' => e = .returned (.tuple #[.int .i64 (rounded x m s), .int .i64 0]) ∧ w' = w := by
  have hw := isWord_any x
  rw [show isW x = true by simp [isW, h1, h2]] at hw
  have HW := Lib.hid hw
  have hs : (62 < s) = False := by simpa using h6
  clear hw
  go_enter Tryz.func19, Tryz.ntmps19
  go_wp2_with fail
  refine (HW.out _).mono ?_
  rintro e w1 ⟨rfl, rfl⟩
  go_wp2
  all_goals first
    | (exfalso; omega)
    | (refine bodyPost_ret (results_tmp2 Tryz.results19 _ _ _) rfl ?_
       exact ⟨rfl, rfl⟩)

theorem tdiv_fl {a b : Int} (hb : 0 < b) (h : a.tmod b < 0) : a.tdiv b - 1 = a / b := by
  have h1 := Int.tmod_add_mul_tdiv a b
  have h2 := Int.lt_tmod_of_pos a hb
  have h3 : a = (a.tmod b + b) + b * (a.tdiv b - 1) := by rw [Int.mul_sub]; omega
  have h4 : (a.tmod b + b + b * (a.tdiv b - 1)) / b = (a.tmod b + b) / b + (a.tdiv b - 1) := Int.add_mul_ediv_left _ _ (by omega)
  rw [← h3, Int.ediv_eq_zero_of_lt (a := a.tmod b + b) (by omega) (by omega)] at h4
  omega
theorem tdiv_fl0 {a b : Int} (hb : 0 < b) (h : 0 ≤ a.tmod b) : a.tdiv b = a / b := by
  have h1 := Int.tmod_add_mul_tdiv a b
  have h2 := Int.tmod_lt_of_pos a hb
  have h4 : (a.tmod b + b * (a.tdiv b)) / b = (a.tmod b) / b + (a.tdiv b) := Int.add_mul_ediv_left _ _ (by omega)
  rw [h1, Int.ediv_eq_zero_of_lt (a := a.tmod b) (by omega) (by omega)] at h4
  omega

theorem floorDiv_any (a b : Int) (w : World) (h1 : -9223372036854775808 ≤ a) (h2 : a ≤ 9223372036854775807) (h3 : 1 ≤ b) :
    Calls Tryz.prog 89 #[.int .i64 a, .int .i64 b] w fun e w' => e = .returned (.int .i64 (a / b)) ∧ w' = w := by
  have hz : (b == 0) = false := by simp; omega
  have hm : (b == -1) = false := by simp; omega
  have hq : ∀ k : Int, a.tmod b < 0 → a.tdiv b - 1 = a / b := fun _ h => tdiv_fl (by omega) h
  have hlo : a.tmod b < 0 → -9223372036854775808 ≤ a.tdiv b - 1 ∧ a.tdiv b - 1 ≤ 9223372036854775807 := fun h => by
    rw [tdiv_fl (by omega) h]
    constructor
    · exact (Int.le_ediv_iff_mul_le (by omega)).2 (by omega)
    · exact Int.lt_add_one_iff.1 ((Int.ediv_lt_iff_lt_mul (by omega)).2 (by omega))
  have HLO := Lib.hid hlo
  have HA := Lib.hid (show 0 < b by omega)
  clear hq hlo
  by_cases ht : a.tmod b < 0
  · go_enter Tryz.func89, Tryz.ntmps89
    go_wp2
    go_ret
    exact ⟨ret_int (by rw [wr64 _ (HLO.out ht)]; exact tdiv_fl HA.out ht), rfl⟩
  · go_enter Tryz.func89, Tryz.ntmps89
    go_wp2
    go_ret
    exact ⟨ret_int (tdiv_fl0 HA.out (by omega)), rfl⟩
theorem within_any (a b c : Int) (w : World) :
    Calls Tryz.prog 88 #[.int .i64 a, .int .i64 b, .int .i64 c] w fun e w' => e = .returned (.int .i64 (max b (min a c))) ∧ w' = w := by
  go_enter Tryz.func88, Tryz.ntmps88
  go_wp2
  go_ret
  exact ⟨rfl, rfl⟩
theorem pow62 {s : Int} (h5 : 1 ≤ s) (h6 : s ≤ 62) : 1 ≤ (2:Int) ^ s.toNat ∧ (2:Int) ^ s.toNat ≤ 4611686018427387904 := by
  obtain ⟨k, hk⟩ : ∃ k, k = s.toNat := ⟨_, rfl⟩
  have hk2 : k ≤ 62 := by omega
  have h := Nat.pow_le_pow_right (n := 2) (by omega) hk2
  have h0 : 0 < 2 ^ k := Nat.pow_pos (by omega)
  have e : ((2 ^ k : Nat) : Int) = (2:Int) ^ k := by push_cast; rfl
  rw [← hk, ← e]
  constructor
  · omega
  · exact Int.ofNat_le.2 h
theorem rounded_any (x m s : Int) (w : World) (h5 : 1 ≤ s) (h6 : s ≤ 62) :
    Calls Tryz.prog 21 #[.int .i64 x, .int .i64 m, .int .i64 s] w fun e w' => e = .returned (.int .i64 (rounded x m s)) ∧ w' = w := by
  have hp := pow62 h5 h6
  obtain ⟨P, hP⟩ : ∃ P, P = (2:Int) ^ s.toNat := ⟨_, rfl⟩
  rw [← hP] at hp
  obtain ⟨A, hA⟩ : ∃ A, A = wrap64 (wrap64 (x * m) + wrap64 (2 ^ (s.toNat - 1))) := ⟨_, rfl⟩
  have hA2 : -9223372036854775808 ≤ A ∧ A ≤ 9223372036854775807 := by rw [hA]; unfold wrap64; omega
  have hf := fun W => floorDiv_any A P W hA2.1 hA2.2 hp.1
  have hww := fun W => within_any (A / P) (-2147483648) 2147483647 W
  have HF := Lib.hid hf
  have HWW := Lib.hid hww
  have HP := Lib.hid hP
  have HA := Lib.hid hA
  have HQ := Lib.hid hp
  clear hf hww hP hA hp hA2
  go_enter Tryz.func21, Tryz.ntmps21
  go_wp2_with fail
  rw [← HA.out, ← HP.out, wr64 P (by have := HQ.out; omega)]
  refine (HF.out _).mono ?_
  rintro e w1 ⟨rfl, rfl⟩
  go_wp2_with fail
  refine (HWW.out _).mono ?_
  rintro e w2 ⟨rfl, rfl⟩
  go_wp2
  go_ret
  refine ⟨ret_int ?_, rfl⟩
  unfold rounded
  rw [← HA.out, ← HP.out]
  omega
end Go.Proofs.YtmbccjncgikehaaGreatDoor
