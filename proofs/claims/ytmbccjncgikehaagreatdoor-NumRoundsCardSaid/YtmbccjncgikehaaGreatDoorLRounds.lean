/-
  The law NumRounds: the walk.
-/
import Derived.Test.YtmbccjncgikehaaGreatDoorRound
namespace Go.Proofs.YtmbccjncgikehaaGreatDoor
open Go.RowKit

theorem rounds_law (x m s : Int) (w : World) (htab : Tabs w) :
    Calls Tryz.prog 3 #[.int .i64 x, .int .i64 m, .int .i64 s] w fun e w' => e = .returned (.bool true) ∧ Below w.heap.size w w' := by
  have hn := fun W (h : Tabs W) => nums_any W h
  have HN := Lib.hid hn
  have HT := Lib.hid htab
  clear hn htab
  by_cases hv : -2147483648 ≤ x ∧ x ≤ 2147483647 ∧ 0 ≤ m ∧ m ≤ 2147483647 ∧ 1 ≤ s ∧ s ≤ 62
  · obtain ⟨h1, h2, h3, h4, h5, h6⟩ := hv
    have hr := fun W => round_ok x m s W h1 h2 h3 h4 h5 h6
    have hq := fun W => rounded_any x m s W h5 h6
    obtain ⟨r, hr0⟩ : ∃ r, r = rounded x m s := ⟨_, rfl⟩
    rw [← hr0] at hr hq
    have HR := Lib.hid hr
    have HQ := Lib.hid hq
    clear hr hq hr0
    have g6 : (62 < s) = False := by simpa using h6
    go_enter Tryz.func3, Tryz.ntmps3
    go_wp2_with fail
    refine (HR.out _).mono ?_
    rintro e w1 ⟨rfl, rfl⟩
    go_wp2_with fail
    all_goals first
      | (exfalso; omega)
      | skip
    refine (HN.out _ HT.out).mono ?_
    rintro e w1 ⟨rfl, hB⟩
    go_wp2_with fail
    refine (HQ.out _).mono ?_
    rintro e w2 ⟨rfl, rfl⟩
    go_wp2
    go_ret
    exact ⟨rfl, hB⟩
  · have hr := fun W => round_bad x m s W hv
    have HR := Lib.hid hr
    clear hr
    rcases (show x < -2147483648 ∨ (-2147483648 ≤ x ∧ 2147483647 < x) ∨ (-2147483648 ≤ x ∧ x ≤ 2147483647 ∧ m < 0) ∨ (-2147483648 ≤ x ∧ x ≤ 2147483647 ∧ 0 ≤ m ∧ 2147483647 < m) ∨
      (-2147483648 ≤ x ∧ x ≤ 2147483647 ∧ 0 ≤ m ∧ m ≤ 2147483647 ∧ s < 1) ∨ (-2147483648 ≤ x ∧ x ≤ 2147483647 ∧ 0 ≤ m ∧ m ≤ 2147483647 ∧ 1 ≤ s ∧ 62 < s) by omega) with
      h1 | ⟨h1, h2⟩ | ⟨h1, h2, h3⟩ | ⟨h1, h2, h3, h4⟩ | ⟨h1, h2, h3, h4, h5⟩ | ⟨h1, h2, h3, h4, h5, h6⟩
    all_goals
      clear hv
      go_enter Tryz.func3, Tryz.ntmps3
      go_wp2_with fail
      refine (HR.out _).mono ?_
      rintro e w1 ⟨rfl, rfl⟩
      go_wp2_with fail
      all_goals first
        | (exfalso; omega)
        | skip
      refine (HN.out _ HT.out).mono ?_
      rintro e w1 ⟨rfl, hB⟩
      go_wp2
      go_ret
      exact ⟨rfl, hB⟩
end Go.Proofs.YtmbccjncgikehaaGreatDoor
