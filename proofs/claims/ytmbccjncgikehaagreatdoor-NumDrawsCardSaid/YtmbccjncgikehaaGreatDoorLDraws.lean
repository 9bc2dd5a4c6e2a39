/-
  The law NumDraws: the walk.
-/
import Derived.Test.YtmbccjncgikehaaGreatDoorNums
import Derived.Test.YtmbccjncgikehaaGreatDoorDraw
namespace Go.Proofs.YtmbccjncgikehaaGreatDoor
open Go.RowKit

theorem draws_law (s k n : Int) (w : World) (htab : Tabs w) :
    Calls Tryz.prog 4 #[.int .i64 s, .int .i64 k, .int .i64 n] w fun e w' => e = .returned (.bool true) ∧ Below w.heap.size w w' := by
  have HN := Lib.hid (fun W (h : Tabs W) => nums_any W h)
  have HT := Lib.hid htab
  have hd := fun W => draw_any s k W
  have hd2 := fun W => drawn_any s k W
  obtain ⟨D, hD⟩ : ∃ D, D = drawn s k := ⟨_, rfl⟩
  rw [← hD] at hd hd2
  have HD := Lib.hid hd
  have HD2 := Lib.hid hd2
  clear htab hd hd2 hD
  by_cases hv : 1 ≤ n ∧ n ≤ 2147483647
  · obtain ⟨h1, h2⟩ := hv
    have hr := fun W => below_ok s k n W h1 h2
    have hq := fun W => drawnBelow_any s k n W h1 h2
    obtain ⟨x, hx⟩ : ∃ x, x = (below s k (lim n) 63 0).1.tmod n := ⟨_, rfl⟩
    obtain ⟨y, hy⟩ : ∃ y, y = (below s k (lim n) 63 0).2 := ⟨_, rfl⟩
    rw [← hx, ← hy] at hr hq
    have HR := Lib.hid hr
    have HQ := Lib.hid hq
    clear hr hq hx hy
    go_enter Tryz.func4, Tryz.ntmps4
    go_wp2_with fail
    refine (HR.out _).mono ?_
    rintro e w1 ⟨rfl, rfl⟩
    go_wp2_with fail
    all_goals first
      | (exfalso; omega)
      | skip
    refine (HQ.out _).mono ?_
    rintro e w2 ⟨rfl, rfl⟩
    go_wp2_with fail
    refine (HN.out _ HT.out).mono ?_
    rintro e w1 ⟨rfl, hB⟩
    go_wp2_with fail
    refine (HD.out _).mono ?_
    rintro e w2 ⟨rfl, rfl⟩
    go_wp2_with fail
    refine (HD2.out _).mono ?_
    rintro e w2 ⟨rfl, rfl⟩
    go_wp2
    go_ret
    exact ⟨rfl, hB⟩
  · have hr := fun W => below_bad s k n W hv
    have HR := Lib.hid hr
    clear hr
    rcases (show n < 1 ∨ (1 ≤ n ∧ 2147483647 < n) by omega) with h1 | ⟨h1, h2⟩
    all_goals
      clear hv
      go_enter Tryz.func4, Tryz.ntmps4
      go_wp2_with fail
      refine (HR.out _).mono ?_
      rintro e w1 ⟨rfl, rfl⟩
      go_wp2_with fail
      all_goals first
        | (exfalso; omega)
        | skip
      refine (HN.out _ HT.out).mono ?_
      rintro e w1 ⟨rfl, hB⟩
      go_wp2_with fail
      refine (HD.out _).mono ?_
      rintro e w2 ⟨rfl, rfl⟩
      go_wp2_with fail
      refine (HD2.out _).mono ?_
      rintro e w2 ⟨rfl, rfl⟩
      go_wp2
      go_ret
      exact ⟨rfl, hB⟩
end Go.Proofs.YtmbccjncgikehaaGreatDoor
