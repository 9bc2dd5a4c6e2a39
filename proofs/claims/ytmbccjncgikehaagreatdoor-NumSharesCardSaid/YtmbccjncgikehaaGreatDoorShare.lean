/-
  num.Share and the reference's Shared.
-/
import Derived.Test.YtmbccjncgikehaaGreatDoorRound
import Derived.Test.YtmbccjncgikehaaGreatDoorInts
import Derived.Outline
import Derived.IntWalk
import Derived.Deep.RegionHeld3
import Derived.Deep.AppendLies
namespace Go.Proofs.YtmbccjncgikehaaGreatDoor
open Go.RowKit

theorem fill_set (f : Nat → Int) {k P : Nat} (h : k < P) (x : Int) : ((List.range k).map f ++ List.replicate (P - k) (0:Int)).set k x = (List.range k).map f ++ x :: List.replicate (P - (k + 1)) 0 := by
  rw [List.set_append_right _ _ (by simp)]
  obtain ⟨m, hm⟩ : ∃ m, P - k = m + 1 := ⟨P - (k + 1), by omega⟩
  rw [hm, show P - (k + 1) = m by omega]
  simp [List.replicate_succ]
theorem fill_next (f : Nat → Int) {k P : Nat} : (List.range k).map f ++ f k :: List.replicate (P - (k + 1)) (0:Int) = (List.range (k + 1)).map f ++ List.replicate (P - (k + 1)) 0 := by
  rw [List.range_succ, List.map_append, List.append_assoc]; rfl

/-- the parts of a number -/
def part (n : Int) (P i : Nat) : Int := n / P + if (i : Int) < n % P then 1 else 0

theorem info_int : (Tryz.prog.info? 3).map (fun i => (i.zero, i.size, i.bytes)) = some (some (.int .i64 0), 1, 8) := by kernel_rfl

set_option maxHeartbeats 1000000 in
set_option maxRecDepth 100000 in
theorem share_ok (n : Int) (P : Nat) (w : World) (h1 : 0 ≤ n) (h2 : n ≤ 2147483647) (h3 : 1 ≤ P) (h4 : P ≤ 1024) :
    Calls Tryz.prog 30 #[.int .i64 n, .int .i64 (P : Int)] w fun e w' => e = .returned (.tuple #[.slice (some ⟨w.heap.size, 0, none⟩) P P, .int .i64 0]) ∧ OwnI w' w.heap.size ((List.range P).map (part n P)) ∧ Below w.heap.size w w' := by
  have hmk := run_make_row' (P := Tryz.prog) 36 3 (.int .i64 0) 8 Tryz.underlying36 info_int rfl .i64 .i64 P (by omega) (by omega)
  have hp1 : (1:Int) ≤ P := by omega
  have hp2 : (P:Int) ≤ 1024 := by omega
  go_enter Tryz.func30, Tryz.ntmps30
  go_wp2
  clear hmk
  go_loopw [26] (fun a26 wr => ∃ k : Nat, a26 = .int .i64 k ∧ k ≤ P ∧ OwnI wr w.heap.size ((List.range k).map (part n P) ++ List.replicate (P - k) 0) ∧ Below w.heap.size w wr) (fun a26 _ => P - (intOf a26).toNat)
  case atStart => exact ⟨0, rfl, by omega, by have := OwnI.made w P; simpa using this, (Below.refl _ _).alloc (Nat.le_refl _) _⟩
  case round =>
    obtain ⟨k, rfl, hk, hown, hB⟩ := hrel
    have HB := Lib.hid hB
    have hBs := hB.size
    clear hB
    by_cases hlt : k < P
    · have hk2 : (k : Int) < (P : Int) := by omega
      have hlen : ((List.range k).map (part n P) ++ List.replicate (P - k) (0:Int)).length = P := by simp; omega
      have gf := hown.frozen k
      have h6 := hown.set k ((n / P))
      have g6 := h6.cell (j := k) (by rw [List.length_set, hlen]; exact hlt)
      rw [fill_set _ hlt] at h6 g6
      have hg : ((List.range k).map (part n P) ++ (n / P) :: List.replicate (P - (k + 1)) (0:Int))[k]?.getD 0 = (n / P) := by
        rw [List.getElem?_append_right (by simp)]; simp
      rw [hg] at g6
      have gf6 := h6.frozen k
      have g0 := hown.cell (j := k) (by rw [hlen]; exact hlt)
      have H6 := Lib.hid h6
      have HO := Lib.hid hown
      clear h6 hown hg hlen
      have HLT := Lib.hid hlt
      clear hlt
      by_cases hr : (k : Int) < n % P
      · have hq : part n P k = wrap64 (n / P + 1) := by
          have h5 : n / P ≤ n := Int.ediv_le_self _ h1
          have h6 : 0 ≤ n / P := Int.ediv_nonneg h1 (by omega)
          rw [wr64 _ (by omega), part, if_pos hr]
        have HQ := Lib.hid hq
        clear hq
        go_wp2
        go_roundw
        case rel =>
          refine ⟨k + 1, by go_num, by have := HLT.out; omega, ?_, (HB.out.setCell (p := ⟨w.heap.size, k, none⟩) (Nat.le_refl _) _).setCell (p := ⟨w.heap.size, k, none⟩) (Nat.le_refl _) _⟩
          have h7 := H6.out.set k (wrap64 (n / P + 1))
          rw [← HQ.out, List.set_append_right _ _ (by simp)] at h7
          rw [← fill_next, ← HQ.out]
          simpa using h7
        case measure => simp [intOf]; omega
      · have hq : part n P k = n / P := by rw [part, if_neg hr]; omega
        have HQ := Lib.hid hq
        clear hq
        go_wp2
        go_roundw
        case rel =>
          refine ⟨k + 1, by go_num, by have := HLT.out; omega, ?_, HB.out.setCell (p := ⟨w.heap.size, k, none⟩) (Nat.le_refl _) _⟩
          have h7 := H6.out
          rw [← fill_next, HQ.out]
          exact h7
        case measure => simp [intOf]; omega
    · obtain rfl : k = P := by omega
      have HO := Lib.hid hown
      clear hown
      go_wp2
      refine bodyPost_ret (results_tmp2 Tryz.results30 _ _ _) rfl ?_
      refine ⟨rfl, ?_, HB.out⟩
      have h7 := HO.out
      simpa using h7

theorem truth_any (b : Bool) (w : World) : Calls Tryz.prog 90 #[.bool b] w fun e w' => e = .returned (.int .i64 (if b then 1 else 0)) ∧ w' = w := by
  cases b
  · go_enter Tryz.func90, Tryz.ntmps90
    go_wp2
    go_ret
    exact ⟨rfl, rfl⟩
  · go_enter Tryz.func90, Tryz.ntmps90
    go_wp2
    go_ret
    exact ⟨rfl, rfl⟩

set_option maxHeartbeats 1000000 in
set_option maxRecDepth 100000 in
theorem shared_any (n : Int) (P : Nat) (w : World) (h1 : 0 ≤ n) (h2 : n ≤ 2147483647) (h3 : 1 ≤ P) (h4 : P ≤ 1024) :
    Calls Tryz.prog 32 #[.int .i64 n, .int .i64 (P : Int)] w fun e w' => ∃ v, e = .returned v ∧ w'.ownsRow w.heap.size 3 1 v P (i64s ((List.range P).map (part n P))) ∧ Below w.heap.size w w' := by
  obtain ⟨i0, hi, hz0, hz1, hz2⟩ := info_parts info_int
  have hp1 : (1:Int) ≤ P := by omega
  have hp2 : (P:Int) ≤ 1024 := by omega
  have hp0 : ((P:Int) == 0) = false := by simp; omega
  have hp00 : ((P:Int) = 0) = False := by simp; omega
  have hp000 : decide ((P:Int) = 0) = false := by simp; omega
  have hP1 : (P = 0) = False := by simp; omega
  have hP2 : (P == 0) = false := by simp; omega
  have hP3 : ¬ P = 0 := by omega
  have hP4 : decide (P = 0) = false := by simp; omega
  have hP5 : ¬ (P:Int) = 0 := by omega
  have hwq2 : n.tdiv P = n / P := Int.tdiv_eq_ediv_of_nonneg h1
  have hwr : n.tmod P = n % P := Int.tmod_eq_emod_of_nonneg h1
  have HT := Lib.hid truth_any
  have q5 : n / P ≤ n := Int.ediv_le_self _ h1
  have q6 : 0 ≤ n / P := Int.ediv_nonneg h1 (by omega)
  have q7 : n % P < P := Int.emod_lt_of_pos _ (by omega)
  have q8 : 0 ≤ n % P := Int.emod_nonneg _ (by omega)
  have hw1 : IntKind.i64.wrap (n.tdiv P) = n / P := by rw [hwq2]; exact IntWalk.i64_in _ (by omega)
  have hw2 : IntKind.i64.wrap (n.tmod P) = n % P := by rw [hwr]; exact IntWalk.i64_in _ (by omega)
  have hw4 : IntKind.i64.wrap (n / P) = n / P := IntWalk.i64_in _ (by omega)
  have hw3 : IntKind.i64.wrap (n / P + 1) = n / P + 1 := IntWalk.i64_in _ (by omega)
  clear q5 q6 q7 q8
  go_enter Tryz.func32, Tryz.ntmps32
  go_wp2
  go_loopw [5, 8] (fun a5 a8 wr => ∃ k : Nat, a8 = .int .i64 k ∧ k ≤ P ∧ wr.ownsRow w.heap.size 3 1 a5 k (i64s ((List.range k).map (part n P))) ∧ Below w.heap.size w wr) (fun _ a8 _ => P - (intOf a8).toNat)
  case atStart => exact ⟨0, rfl, by omega, World.ownsRow_nil _ _ _ _, Below.refl _ _⟩
  case round =>
    obtain ⟨k, rfl, hk, hown, hB⟩ := hrel
    have HB := Lib.hid hB
    have hBs := hB.size
    clear hB
    by_cases hlt : k < P
    · have hk2 : (k : Int) < (P : Int) := by omega
      have HO := Lib.hid hown
      have HLT := Lib.hid hlt
      clear hown hlt
      have F1 : Hid (∀ z : Int, ∀ u ∈ [Value.int .i64 z], u.oneCell' = true) := Lib.hid (fun z u hu => by simp at hu; subst hu; rfl)
      have F2 : Hid (k + 1 ≤ maxLen) := Lib.hid (by unfold maxLen; omega)
      have F3 : Hid ((k + 1) * 8 ≤ 140737488355328) := Lib.hid (by omega)
      have F4 : Hid (∀ o, w.heap.size ≤ ((wr.alloc o).drew).heap.size) := Lib.hid (fun o => by show _ ≤ (wr.heap.push o).size; rw [Array.size_push]; omega)
      have F5 : Hid (∀ o, ((wr.alloc o).drew).heap.size = wr.heap.size + 1) := Lib.hid (fun o => by show (wr.heap.push o).size = _; rw [Array.size_push])
      by_cases hr : (k : Int) < n % P
      · have hq : part n P k = n / P + 1 := by rw [part, if_pos hr]
        have HQ := Lib.hid hq
        clear hq
        go_wp2_with fail
        go_region_held3 (fun _ => True) (trivial)
          (first
            | (go_at_call 90; refine (HT.out true _).mono ?_; rintro e w1 ⟨rfl, rfl⟩)
            | (refine step_append_lies _ rfl _ _ _ rfl w.heap.size 3 i0 _ 1 8 Tryz.underlying36 hi hz0 hz1 hz2 rfl Nat.one_pos _ k _ rfl ((HO.out.alloc _).drew) ⟨wr.heap.size, 0, none⟩ 1 1 [.int .i64 (n / P + 1)] rfl rfl (World.news_of_block (cs := #[.int .i64 (n / P + 1)]) (t := 3) (fr := (0, 0)) (heap_alloc_new wr _)) (F1.out _) Nat.one_pos F2.out F3.out (F4.out _) (wr.heap.size + 1) (F5.out _) ?_; intro g cap w1 hown1 hgrow hat hlt2))
        go_wp2
        go_roundw
        case rel =>
          refine ⟨k + 1, by go_num, by have := HLT.out; omega, ?_, ((HB.out.alloc hBs _).drew).grown hgrow (by simp; omega) (fun q hq => (HO.out.lt q hq).1)⟩
          rw [List.range_succ, List.map_append, i64s_append, List.map_singleton, HQ.out]
          exact hown1
        case measure => simp [intOf]; omega
      · have hq : part n P k = n / P := by rw [part, if_neg hr]; omega
        have hr2 : decide ((k : Int) < n % P) = false := by simpa using hr
        have HQ := Lib.hid hq
        clear hq
        go_wp2_with fail
        go_region_held3 (fun _ => True) (trivial)
          (first
            | (go_at_call 90; refine (HT.out false _).mono ?_; rintro e w1 ⟨rfl, rfl⟩)
            | (refine step_append_lies _ rfl _ _ _ rfl w.heap.size 3 i0 _ 1 8 Tryz.underlying36 hi hz0 hz1 hz2 rfl Nat.one_pos _ k _ rfl ((HO.out.alloc _).drew) ⟨wr.heap.size, 0, none⟩ 1 1 [.int .i64 (n / P)] rfl rfl (World.news_of_block (cs := #[.int .i64 (n / P)]) (t := 3) (fr := (0, 0)) (heap_alloc_new wr _)) (F1.out _) Nat.one_pos F2.out F3.out (F4.out _) (wr.heap.size + 1) (F5.out _) ?_; intro g cap w1 hown1 hgrow hat hlt2))
        go_wp2
        go_roundw
        case rel =>
          refine ⟨k + 1, by go_num, by have := HLT.out; omega, ?_, ((HB.out.alloc hBs _).drew).grown hgrow (by simp; omega) (fun q hq => (HO.out.lt q hq).1)⟩
          rw [List.range_succ, List.map_append, i64s_append, List.map_singleton, HQ.out]
          exact hown1
        case measure => simp [intOf]; omega
    · obtain rfl : k = P := by omega
      have HO := Lib.hid hown
      clear hown
      go_wp2
      go_ret
      exact ⟨_, rfl, HO.out, HB.out⟩
theorem share_bad (n p : Int) (w : World) (h : ¬ (0 ≤ n ∧ n ≤ 2147483647 ∧ 1 ≤ p ∧ p ≤ 1024)) : Calls Tryz.prog 30 #[.int .i64 n, .int .i64 p] w fun e w' => e = .returned (.tuple #[.slice none 0 0, .int .i64 1]) ∧ w' = w := by
  rcases (show n < 0 ∨ (0 ≤ n ∧ 2147483647 < n) ∨ (0 ≤ n ∧ n ≤ 2147483647 ∧ p < 1) ∨ (0 ≤ n ∧ n ≤ 2147483647 ∧ 1 ≤ p ∧ 1024 < p) by omega) with h1 | ⟨h1, h2⟩ | ⟨h1, h2, h3⟩ | ⟨h1, h2, h3, h4⟩
  all_goals
    clear h
    go_enter Tryz.func30, Tryz.ntmps30
    go_wp2
    all_goals first
      | (exfalso; omega)
      | (refine bodyPost_ret (results_tmp2 Tryz.results30 _ _ _) rfl ?_
         exact ⟨rfl, rfl⟩)
end Go.Proofs.YtmbccjncgikehaaGreatDoor
