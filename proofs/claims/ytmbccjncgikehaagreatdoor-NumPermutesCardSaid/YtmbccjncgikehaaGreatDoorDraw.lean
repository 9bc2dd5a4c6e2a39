/-
  num.Draw, num.Below and the reference's Drawn, DrawnBelow.
-/
import Derived.Test.YtmbccjncgikehaaGreatDoorRound
namespace Go.Proofs.YtmbccjncgikehaaGreatDoor
open Go.RowKit

def mix1 (s k : Int) : Int := IntKind.u64.wrap (IntKind.u64.wrap s + IntKind.u64.wrap (IntKind.u64.wrap (IntKind.u64.wrap k + 1) * 11400714819323198485))
def mix2 (x : Int) : Int := IntKind.u64.wrap (bits BinOp.xor IntKind.u64 x (x / 1073741824) * 13787848793156543929)
def mix3 (x : Int) : Int := IntKind.u64.wrap (bits BinOp.xor IntKind.u64 x (x / 134217728) * 10723151780598845931)
def mix4 (x : Int) : Int := wrap64 (bits BinOp.xor IntKind.u64 x (x / 2147483648) / 4294967296)
/-- the number that is drawn -/
def drawn (s k : Int) : Int := mix4 (mix3 (mix2 (mix1 s k)))

theorem draw_any (s k : Int) (w : World) : Calls Tryz.prog 23 #[.int .i64 s, .int .i64 k] w fun e w' => e = .returned (.int .i64 (drawn s k)) ∧ w' = w := by
  go_enter Tryz.func23, Tryz.ntmps23
  go_wp2
  go_ret
  exact ⟨rfl, rfl⟩
theorem drawn_any (s k : Int) (w : World) : Calls Tryz.prog 24 #[.int .i64 s, .int .i64 k] w fun e w' => e = .returned (.int .i64 (drawn s k)) ∧ w' = w := by
  go_enter Tryz.func24, Tryz.ntmps24
  go_wp2
  go_ret
  exact ⟨rfl, rfl⟩

/-- draws until one lies below the limit, 64 at most: the number, and how many were drawn; r: how many may still follow, u: how many were drawn -/
def below (s k lim : Int) : Nat → Int → Int × Int
  | 0, u => (drawn s (wrap64 (k + u)), u + 1)
  | r + 1, u => if drawn s (wrap64 (k + u)) < lim then (drawn s (wrap64 (k + u)), u + 1) else below s k lim r (u + 1)

theorem below_hit {s k lim : Int} {r : Nat} {u : Int} (h : drawn s (wrap64 (k + u)) < lim) : below s k lim r u = (drawn s (wrap64 (k + u)), u + 1) := by
  cases r with
  | zero => rfl
  | succ r => rw [below, if_pos h]
theorem below_miss {s k lim : Int} {r : Nat} {u : Int} (h : ¬ drawn s (wrap64 (k + u)) < lim) : below s k lim (r + 1) u = below s k lim r (u + 1) := by
  rw [below, if_neg h]

/-- the limit of draws -/
def lim (n : Int) : Int := 4294967296 - 4294967296 % n

set_option maxHeartbeats 1000000 in
set_option maxRecDepth 100000 in
theorem below_ok (s k n : Int) (w : World) (h1 : 1 ≤ n) (h2 : n ≤ 2147483647) :
    Calls Tryz.prog 22 #[.int .i64 s, .int .i64 k, .int .i64 n] w fun e w' => e = .returned (.tuple #[.int .i64 ((below s k (lim n) 63 0).1.tmod n), .int .i64 (below s k (lim n) 63 0).2, .int .i64 0]) ∧ w' = w := by
  have HD := Lib.hid draw_any
  have m1 : 0 ≤ 4294967296 % n := Int.emod_nonneg _ (by omega)
  have m2 : 4294967296 % n < n := Int.emod_lt_of_pos _ (by omega)
  obtain ⟨T, hT⟩ : ∃ T, T = below s k (lim n) 63 0 := ⟨_, rfl⟩
  obtain ⟨L, hL⟩ : ∃ L, L = lim n := ⟨_, rfl⟩
  have hL2 : 4294967296 - 4294967296 % n = L := by rw [hL]; rfl
  rw [← hT]
  rw [← hL] at hT
  have HT := Lib.hid hT
  have HL := Lib.hid hL2
  clear hT hL hL2
  go_enter Tryz.func22, Tryz.ntmps22
  go_wp2
  rw [HL.out]
  clear m1 m2
  go_loopw [6, 7] (fun a6 a7 wr => ∃ (u : Nat) (v : Int), a6 = .int .i64 v ∧ a7 = .int .i64 u ∧ wr = w ∧ ((u < 64 ∧ T = below s k L (63 - u) u) ∨ (u = 64 ∧ T = (v, 64)))) (fun _ a7 _ => 64 - (intOf a7).toNat)
  case atStart => exact ⟨0, 0, rfl, rfl, rfl, Or.inl ⟨by omega, HT.out⟩⟩
  case round =>
    obtain ⟨u, v, rfl, rfl, rfl, hh⟩ := hrel
    rcases hh with ⟨hu, hT⟩ | ⟨hu, hT⟩
    · have hu2 : (u : Int) < 64 := by omega
      have HTT := Lib.hid hT
      clear hT
      go_wp2_with fail
      refine (HD.out _ _ _).mono ?_
      rintro e w1 ⟨rfl, rfl⟩
      obtain ⟨D, hD⟩ : ∃ D, D = drawn s (wrap64 (k + u)) := ⟨_, rfl⟩
      rw [← hD]
      have HDD := Lib.hid hD
      clear hD
      by_cases hlt : D < L
      · have hr : T = (D, (u : Int) + 1) := by
          rw [HTT.out, HDD.out]
          exact below_hit (by rw [← HDD.out]; exact hlt)
        have HR := Lib.hid hr
        clear hr
        go_wp2
        go_ret3
        refine ⟨?_, rfl⟩
        rw [HR.out]
        rfl
      · have HN : Hid (L ≤ drawn s (wrap64 (k + u))) := Lib.hid (by rw [← HDD.out]; omega)
        go_wp2
        go_roundw
        case rel =>
          by_cases he : u = 63
          · refine ⟨u + 1, D, by first | rfl | trivial, by go_num, by first | rfl | trivial, Or.inr ⟨by omega, ?_⟩⟩
            rw [HTT.out, he, HDD.out, he]
            rfl
          · refine ⟨u + 1, D, by first | rfl | trivial, by go_num, by first | rfl | trivial, Or.inl ⟨by omega, ?_⟩⟩
            rw [HTT.out]
            obtain ⟨r, hr⟩ : ∃ r, 63 - u = r + 1 := ⟨62 - u, by omega⟩
            rw [hr, below_miss (Int.not_lt.2 HN.out), show 63 - (u + 1) = r by omega]
            simp
        case measure => simp [intOf]; omega
    · have HTT := Lib.hid hT
      clear hT
      subst hu
      go_wp2
      go_ret3
      refine ⟨?_, rfl⟩
      rw [HTT.out]
      rfl
theorem below_bad (s k n : Int) (w : World) (h : ¬ (1 ≤ n ∧ n ≤ 2147483647)) :
    Calls Tryz.prog 22 #[.int .i64 s, .int .i64 k, .int .i64 n] w fun e w' => e = .returned (.tuple #[.int .i64 0, .int .i64 0, .int .i64 1]) ∧ w' = w := by
  rcases (show n < 1 ∨ (1 ≤ n ∧ 2147483647 < n) by omega) with h1 | ⟨h1, h2⟩
  all_goals
    clear h
    go_enter Tryz.func22, Tryz.ntmps22
    go_wp2
    go_ret3
    exact ⟨rfl, rfl⟩
set_option maxHeartbeats 1000000 in
set_option maxRecDepth 100000 in
theorem drawnBelow_any (s k n : Int) (w : World) (h1 : 1 ≤ n) (h2 : n ≤ 2147483647) :
    Calls Tryz.prog 25 #[.int .i64 s, .int .i64 k, .int .i64 n] w fun e w' => e = .returned (.tuple #[.int .i64 ((below s k (lim n) 63 0).1.tmod n), .int .i64 (below s k (lim n) 63 0).2]) ∧ w' = w := by
  have HD := Lib.hid drawn_any
  obtain ⟨T, hT⟩ : ∃ T, T = below s k (lim n) 63 0 := ⟨_, rfl⟩
  obtain ⟨L, hL⟩ : ∃ L, L = lim n := ⟨_, rfl⟩
  have hL2 : wrap64 (4294967296 / n * n) = L := by
    have h3 := Int.emod_add_mul_ediv 4294967296 n
    have h4 : 0 ≤ 4294967296 % n := Int.emod_nonneg _ (by omega)
    have h5 : 4294967296 % n < n := Int.emod_lt_of_pos _ (by omega)
    rw [Int.mul_comm] at h3
    obtain ⟨X, hX⟩ : ∃ X, X = 4294967296 / n * n := ⟨_, rfl⟩
    rw [← hX] at h3 ⊢
    rw [wr64 _ (by omega), hL, lim]
    omega
  rw [← hT]
  rw [← hL] at hT
  have HT := Lib.hid hT
  have HL := Lib.hid hL2
  clear hT hL hL2
  go_enter Tryz.func25, Tryz.ntmps25
  go_wp2
  rw [HL.out]
  go_loopw [9] (fun a9 wr => ∃ u : Nat, a9 = .int .i64 (u + 1) ∧ wr = w ∧ u < 64 ∧ T = below s k L (63 - u) u) (fun a9 _ => 65 - (intOf a9).toNat)
  case atStart => exact ⟨0, rfl, rfl, by omega, HT.out⟩
  case round =>
    obtain ⟨u, rfl, rfl, hu, hT⟩ := hrel
    have hu2 : (u : Int) < 64 := by omega
    have HTT := Lib.hid hT
    have hww : wrap64 (wrap64 (k + (u + 1)) - 1) = wrap64 (k + u) := by unfold wrap64; omega
    have HWW := Lib.hid hww
    clear hT hww
    go_wp2_with fail
    rw [HWW.out]
    refine (HD.out _ _ _).mono ?_
    rintro e w1 ⟨rfl, rfl⟩
    obtain ⟨D, hD⟩ : ∃ D, D = drawn s (wrap64 (k + u)) := ⟨_, rfl⟩
    rw [← hD]
    have HDD := Lib.hid hD
    clear hD
    by_cases hlt : D < L
    · have hr : T = (D, (u : Int) + 1) := by
        rw [HTT.out, HDD.out]
        exact below_hit (by rw [← HDD.out]; exact hlt)
      have HR := Lib.hid hr
      clear hr
      go_wp2
      refine bodyPost_ret (results_tmp2 Tryz.results25 _ _ _) rfl ?_
      refine ⟨?_, rfl⟩
      rw [HR.out]
      rfl
    · have HN : Hid (L ≤ drawn s (wrap64 (k + u))) := Lib.hid (by rw [← HDD.out]; omega)
      by_cases he : u = 63
      · have hr : T = (D, 64) := by
          rw [HTT.out, he, HDD.out, he]
          rfl
        have HR := Lib.hid hr
        have hu3 : (u : Int) + 1 = 64 := by omega
        clear hr he
        go_wp2
        refine bodyPost_ret (results_tmp2 Tryz.results25 _ _ _) rfl ?_
        refine ⟨?_, rfl⟩
        rw [HR.out, ← hu3]
        rfl
      · have hu3 : ¬ (u : Int) + 1 = 64 := by omega
        have hu4 : ((u : Int) + 1 == 64) = false := by simp; omega
        have hr : T = below s k L (63 - (u + 1)) ((u + 1 : Nat) : Int) := by
          rw [HTT.out]
          obtain ⟨r, hr⟩ : ∃ r, 63 - u = r + 1 := ⟨62 - u, by omega⟩
          rw [hr, below_miss (Int.not_lt.2 HN.out), show 63 - (u + 1) = r by omega]
          simp
        have HR := Lib.hid hr
        clear hr
        go_wp2
        go_roundw
        case rel => exact ⟨u + 1, by go_num, by first | rfl | trivial, by omega, HR.out⟩
        case measure => simp [intOf]; omega
end Go.Proofs.YtmbccjncgikehaaGreatDoor
