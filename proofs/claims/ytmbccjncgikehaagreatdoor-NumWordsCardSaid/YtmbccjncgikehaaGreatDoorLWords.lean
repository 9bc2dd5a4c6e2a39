/-
  The law NumWords: the walk.
-/
import Derived.Test.YtmbccjncgikehaaGreatDoorNums
import Derived.Test.YtmbccjncgikehaaGreatDoorWord
namespace Go.Proofs.YtmbccjncgikehaaGreatDoor
open Go.RowKit

set_option maxHeartbeats 1000000 in
set_option maxRecDepth 100000 in
theorem words_law (n lo hi : Int) (w : World) (hr : -9223372036854775808 ≤ n ∧ n ≤ 9223372036854775807) (htab : Tabs w) :
    Calls Tryz.prog 5 #[.int .i64 n, .int .i64 lo, .int .i64 hi] w fun e w' => e = .returned (.bool true) ∧ Below w.heap.size w w' := by
  have HN := Lib.hid (fun W (h : Tabs W) => nums_any W h)
  have HT := Lib.hid htab
  have hd := fun W => wrap_any n W
  have hd2 := fun W => wrapped_any n W
  obtain ⟨D, hD⟩ : ∃ D, D = IntKind.i32.wrap n := ⟨_, rfl⟩
  rw [← hD] at hd hd2
  have HD := Lib.hid hd
  have HD2 := Lib.hid hd2
  have HRB := Lib.hid (fun W => root_bad n W)
  have HRO := Lib.hid (fun W => root_ok n W)
  have HBB := Lib.hid (fun W => bits_bad lo hi W)
  have HBO := Lib.hid (fun W => bits_ok lo hi W)
  obtain ⟨hr1, hr2⟩ := hr
  clear htab hd hd2 hD
  by_cases hn : n < 0
  · by_cases hv : -2147483648 ≤ lo ∧ lo ≤ hi ∧ hi ≤ 2147483647
    · obtain ⟨h1, h2, h3⟩ := hv
      go_enter Tryz.func5, Tryz.ntmps5
      go_wp2_with fail
      refine (HRB.out _ hn).mono ?_
      rintro e w1 ⟨rfl, rfl⟩
      go_wp2_with fail
      refine (HBO.out _ h1 h2 h3).mono ?_
      rintro e w1 ⟨k, hk, hneed, hb1, hb2, rfl, rfl⟩
      have HK := Lib.hid hneed
      have hb3 := Lib.hid hb1
      have hb4 := Lib.hid hb2
      have hk2 : (k : Int) ≤ 31 := by omega
      clear hneed hb1 hb2
      go_wp2
      all_goals first
        | (exfalso; omega)
        | skip
      go_loopw [11] (fun a11 wr => ∃ j : Nat, a11 = .int .i64 (j + 1) ∧ wr = w1 ∧ j ≤ k) (fun a11 _ => 40 - (intOf a11).toNat)
      case atStart => exact ⟨0, rfl, rfl, by omega⟩
      case round =>
        obtain ⟨j, rfl, rfl, hj⟩ := hrel
        have hp := pow31 (k := j) (by omega)
        obtain ⟨P, hP⟩ : ∃ P, (2:Int) ^ j = P := ⟨_, rfl⟩
        rw [hP] at hp
        obtain ⟨p1, p2⟩ := hp
        have hj2 : (j : Int) ≤ 31 := by omega
        by_cases hlt : j < k
        · have hc := HK.out j hlt
          rw [hP] at hc
          rcases (show lo < -P ∨ (-P ≤ lo ∧ P - 1 < hi) by omega) with c1 | ⟨c1, c2⟩
          all_goals
            go_wp2
            go_roundw
            case rel => exact ⟨j + 1, by go_num, by first | rfl | trivial, by omega⟩
            case measure => simp [intOf]; omega
        · obtain rfl : j = k := by omega
          have c3 := hb3.out
          have c4 := hb4.out
          rw [hP] at c3 c4
          have c1 : ¬ lo < -P := by omega
          have c2 : ¬ P - 1 < hi := by omega
          clear c3 c4
          go_wp2_with fail
          refine (HN.out _ HT.out).mono ?_
          rintro e w1 ⟨rfl, hB⟩
          go_wp2_with fail
          refine (HD.out _).mono ?_
          rintro e w2 ⟨rfl, rfl⟩
          go_wp2_with fail
          refine (HD2.out _).mono ?_
          rintro e w2 ⟨rfl, rfl⟩
          go_wp2
          go_ret
          exact ⟨rfl, hB⟩
    · rcases (show lo < -2147483648 ∨ (-2147483648 ≤ lo ∧ hi < lo) ∨ (-2147483648 ≤ lo ∧ lo ≤ hi ∧ 2147483647 < hi) by omega) with h1 | ⟨h1, h2⟩ | ⟨h1, h2, h3⟩
      all_goals
        have HB := Lib.hid (fun W => HBB.out W hv)
        clear hv
        go_enter Tryz.func5, Tryz.ntmps5
        go_wp2_with fail
        refine (HRB.out _ hn).mono ?_
        rintro e w1 ⟨rfl, rfl⟩
        go_wp2_with fail
        refine (HB.out _).mono ?_
        rintro e w1 ⟨rfl, rfl⟩
        go_wp2_with fail
        all_goals first
          | (exfalso; omega)
          | skip
        refine (HN.out _ HT.out).mono ?_
        rintro e w1 ⟨rfl, hB⟩
        go_wp2_with fail
        refine (HD.out _).mono ?_
        rintro e w2 ⟨rfl, rfl⟩
        go_wp2_with fail
        refine (HD2.out _).mono ?_
        rintro e w2 ⟨rfl, rfl⟩
        go_wp2
        go_ret
        exact ⟨rfl, hB⟩
  · have hn0 : 0 ≤ n := by omega
    by_cases hv : -2147483648 ≤ lo ∧ lo ≤ hi ∧ hi ≤ 2147483647
    · obtain ⟨h1, h2, h3⟩ := hv
      clear hn
      go_enter Tryz.func5, Tryz.ntmps5
      go_wp2_with fail
      refine (HRO.out _ hn0 hr2).mono ?_
      rintro e w1 ⟨r, ⟨r1, r2, r3, r4⟩, rfl, rfl⟩
      obtain ⟨Q, hQ⟩ : ∃ Q, r * r = Q := ⟨_, rfl⟩
      have hQ0 : 0 ≤ Q := by rw [← hQ]; exact Int.mul_nonneg r1 r1
      rw [hQ] at r3 r4
      go_wp2_with fail
      all_goals first
        | (exfalso; omega)
        | skip
      refine (HBO.out _ h1 h2 h3).mono ?_
      rintro e w1 ⟨k, hk, hneed, hb1, hb2, rfl, rfl⟩
      have HK := Lib.hid hneed
      have hb3 := Lib.hid hb1
      have hb4 := Lib.hid hb2
      have hk2 : (k : Int) ≤ 31 := by omega
      clear hneed hb1 hb2 hQ r3 r4 r1 r2 hQ0
      go_wp2
      all_goals first
        | (exfalso; omega)
        | skip
      go_loopw [11] (fun a11 wr => ∃ j : Nat, a11 = .int .i64 (j + 1) ∧ wr = w1 ∧ j ≤ k) (fun a11 _ => 40 - (intOf a11).toNat)
      case atStart => exact ⟨0, rfl, rfl, by omega⟩
      case round =>
        obtain ⟨j, rfl, rfl, hj⟩ := hrel
        have hp := pow31 (k := j) (by omega)
        obtain ⟨P, hP⟩ : ∃ P, (2:Int) ^ j = P := ⟨_, rfl⟩
        rw [hP] at hp
        obtain ⟨p1, p2⟩ := hp
        have hj2 : (j : Int) ≤ 31 := by omega
        by_cases hlt : j < k
        · have hc := HK.out j hlt
          rw [hP] at hc
          rcases (show lo < -P ∨ (-P ≤ lo ∧ P - 1 < hi) by omega) with c1 | ⟨c1, c2⟩
          all_goals
            go_wp2
            go_roundw
            case rel => exact ⟨j + 1, by go_num, by first | rfl | trivial, by omega⟩
            case measure => simp [intOf]; omega
        · obtain rfl : j = k := by omega
          have c3 := hb3.out
          have c4 := hb4.out
          rw [hP] at c3 c4
          have c1 : ¬ lo < -P := by omega
          have c2 : ¬ P - 1 < hi := by omega
          clear c3 c4
          go_wp2_with fail
          refine (HN.out _ HT.out).mono ?_
          rintro e w1 ⟨rfl, hB⟩
          go_wp2_with fail
          refine (HD.out _).mono ?_
          rintro e w2 ⟨rfl, rfl⟩
          go_wp2_with fail
          refine (HD2.out _).mono ?_
          rintro e w2 ⟨rfl, rfl⟩
          go_wp2
          go_ret
          exact ⟨rfl, hB⟩
    · rcases (show lo < -2147483648 ∨ (-2147483648 ≤ lo ∧ hi < lo) ∨ (-2147483648 ≤ lo ∧ lo ≤ hi ∧ 2147483647 < hi) by omega) with h1 | ⟨h1, h2⟩ | ⟨h1, h2, h3⟩
      all_goals
        have HB := Lib.hid (fun W => HBB.out W hv)
        clear hv hn
        go_enter Tryz.func5, Tryz.ntmps5
        go_wp2_with fail
        refine (HRO.out _ hn0 hr2).mono ?_
        rintro e w1 ⟨r, ⟨r1, r2, r3, r4⟩, rfl, rfl⟩
        obtain ⟨Q, hQ⟩ : ∃ Q, r * r = Q := ⟨_, rfl⟩
        have hQ0 : 0 ≤ Q := by rw [← hQ]; exact Int.mul_nonneg r1 r1
        rw [hQ] at r3 r4
        go_wp2_with fail
        all_goals first
          | (exfalso; omega)
          | skip
        refine (HB.out _).mono ?_
        rintro e w1 ⟨rfl, rfl⟩
        go_wp2_with fail
        all_goals first
          | (exfalso; omega)
          | skip
        refine (HN.out _ HT.out).mono ?_
        rintro e w1 ⟨rfl, hB⟩
        go_wp2_with fail
        refine (HD.out _).mono ?_
        rintro e w2 ⟨rfl, rfl⟩
        go_wp2_with fail
        refine (HD2.out _).mono ?_
        rintro e w2 ⟨rfl, rfl⟩
        go_wp2
        go_ret
        exact ⟨rfl, hB⟩
end Go.Proofs.YtmbccjncgikehaaGreatDoor
