/-
  cmp.Or at two ints; the reference's compare of ranks.
-/
import Derived.Test.YtadkhechobeccaaGreatDoorK12
import Derived.Sort.Grow
namespace Go.Proofs.YtadkhechobeccaaGreatDoor
open Go.RowKit
def orV (x y : Int) : Int := if x = 0 then y else x
set_option maxHeartbeats 1000000 in
theorem or_any (x y : Int) (g cap : Nat) (W : World) (h0 : W.cell? ⟨g, 0, none⟩ = some (.int .i64 x)) (h1 : W.cell? ⟨g, 1, none⟩ = some (.int .i64 y)) :
    Calls Tryz.prog 73 #[.slice (some ⟨g, 0, none⟩) 2 cap] W fun e w' => e = .returned (.int .i64 (orV x y)) ∧ w' = W := by
  have HX : Hid (∀ j, j < 2 → W.cell? ⟨g, j, none⟩ = some (.int .i64 (if j = 0 then x else y))) := Lib.hid fun j hj => by
    match j, hj with
    | 0, _ => exact h0
    | 1, _ => exact h1
  clear h0 h1
  go_enter Tryz.func73, Tryz.ntmps73
  go_wp2
  go_loopw [8] (fun a8 wr => ∃ j : Nat, a8 = .int .i64 j ∧ wr = W ∧ j ≤ 2 ∧ Hid (1 ≤ j → x = 0) ∧ Hid (2 ≤ j → y = 0)) (fun a8 _ => 2 - (intOf a8).toNat)
  case atStart => exact ⟨0, rfl, rfl, by omega, Lib.hid (by omega), Lib.hid (by omega)⟩
  case round =>
    obtain ⟨j, rfl, rfl, hj, hx, hy⟩ := hrel
    by_cases hlt : j < 2
    · have hlt2 : (j : Int) < 2 := by omega
      have hc := HX.out j hlt
      obtain ⟨z, hz⟩ : ∃ z, (if j = 0 then x else y) = z := ⟨_, rfl⟩
      rw [hz] at hc
      have HZ := Lib.hid hz
      clear hz
      by_cases h : z = 0
      · subst h
        go_wp2
        go_roundw
        case rel => exact ⟨j + 1, by go_num, by first | rfl | trivial, by omega, Lib.hid (fun hj1 => by
            have h := HZ.out
            by_cases h0 : j = 0
            · simpa [h0] using h
            · exact hx.out (by omega)), Lib.hid (fun hj1 => by
            have h := HZ.out
            have h0 : j ≠ 0 := by omega
            simpa [h0] using h)⟩
        case measure => simp [intOf]; omega
      · go_wp2
        go_ret
        refine ⟨?_, rfl⟩
        have hz := HZ.out
        by_cases h0 : j = 0
        · subst h0; simp at hz; subst hz; simp [orV, h]
        · simp [h0] at hz; subst hz; rw [orV, if_pos (hx.out (by omega))]; rfl
    · obtain rfl : j = 2 := by omega
      go_wp2
      go_ret
      exact ⟨by rw [orV, if_pos (hx.out (by omega)), hy.out (by omega)]; rfl, rfl⟩
theorem two_cells (W : World) (a b : Value) (t : TypeId) : ((W.alloc (.cells #[a, b] t)).drew).cell? ⟨W.heap.size, 0, none⟩ = some a ∧ ((W.alloc (.cells #[a, b] t)).drew).cell? ⟨W.heap.size, 1, none⟩ = some b := by
  have h : ∀ i, ((W.alloc (.cells #[a, b] t)).drew).cell? ⟨W.heap.size, i, none⟩ = (Sort.grow W #[.cells #[a, b] t]).cell? ⟨W.heap.size, i, none⟩ := fun i => by
    rw [← Sort.alloc_eq_grow]; rfl
  rw [h, h]
  refine ⟨?_, ?_⟩ <;> (unfold World.cell? Sort.grow; simp only [Array.getElem?_append_right (Nat.le_refl _), Nat.sub_self]; rfl)
set_option maxHeartbeats 1000000 in
theorem ranked1_any (x y : Nat) (sx sy : Int) (n cap c sb so : Nat) (W : World) (hc : W.cell? ⟨c, 0, none⟩ = some (.slice (some ⟨sb, so, none⟩) n cap)) (hx : x < n) (hy : y < n) (hn : n < 4611686018427387904) (hX : W.cell? ⟨sb, so + x, none⟩ = some (.int .i64 sx)) (hY : W.cell? ⟨sb, so + y, none⟩ = some (.int .i64 sy)) :
    Calls Tryz.prog 72 #[.int .i64 x, .int .i64 y, .pointer (some ⟨c, 0, none⟩)] W fun e w' => e = .returned (.int .i64 (orV (cmpV sy sx) ((x : Int) - y))) ∧ ∃ q os, w' = Sort.grow (W.drewN q) os := by
  have H := Lib.hid cmpC_any
  have HO := Lib.hid or_any
  have HW := Lib.hid (show IntKind.i64.wrap ((x : Int) - y) = (x : Int) - y by simp [IntKind.wrap, IntKind.bits, IntKind.signed]; omega)
  have hx' : (x : Int) < n := by omega
  have hy' : (y : Int) < n := by omega
  have hx0 : 0 ≤ (x : Int) := by omega
  have hy0 : 0 ≤ (y : Int) := by omega
  go_enter Tryz.func72, Tryz.ntmps72
  go_wp2_with fail
  go_region_held3 (fun w' => w'.cell? ⟨c, 0, none⟩ = some (.slice (some ⟨sb, so, none⟩) n cap) ∧ w'.cell? ⟨sb, so + x, none⟩ = some (.int .i64 sx) ∧ w'.cell? ⟨sb, so + y, none⟩ = some (.int .i64 sy))
    (first | exact ⟨hc, hX, hY⟩ | go_keep)
    (first | (go_at_call 74; refine (H.out _ _ _).mono ?_; rintro e w1 ⟨rfl, rfl⟩) | (go_at_call 73; refine (HO.out (cmpV sy sx) ((x : Int) - y) _ _ _ (two_cells _ _ _ _).1 ((two_cells _ _ _ _).2.trans (by rw [HW.out]))).mono ?_; rintro e w1 ⟨rfl, rfl⟩))
  go_wp2
  go_ret
  exact ⟨rfl, 1, #[_], by rw [Sort.alloc_eq_grow]; rfl⟩
end Go.Proofs.YtadkhechobeccaaGreatDoor
