/-
  cmp.Compare at int.
-/
import Derived.Test.YtadkhechobeccaaGreatDoorK01
import Derived.Deep.RegionHeld3
import Derived.Deep.QuietTactic
import Derived.RegionTactic
namespace Go.Proofs.YtadkhechobeccaaGreatDoor
open Go.RowKit
def cmpV (x y : Int) : Int := if x < y then -1 else if y < x then 1 else 0
theorem isnan_any (x : Int) (w : World) : Calls Tryz.prog 107 #[.int .i64 x] w fun e w' => e = .returned (.bool false) ∧ w' = w := by
  go_enter Tryz.func107, Tryz.ntmps107
  go_wp2
  go_ret
  exact ⟨by simp, rfl⟩
theorem cmpC_any (x y : Int) (w : World) : Calls Tryz.prog 74 #[.int .i64 x, .int .i64 y] w fun e w' => e = .returned (.int .i64 (cmpV x y)) ∧ w' = w := by
  have H := Lib.hid isnan_any
  go_enter Tryz.func74, Tryz.ntmps74
  by_cases h : x < y
  · go_wp2_with (go_at_call 107; refine (H.out _ _).mono ?_; rintro e w1 ⟨rfl, rfl⟩)
    go_ret
    exact ⟨by simp [cmpV, h], rfl⟩
  · by_cases h2 : y < x
    · go_wp2_with (go_at_call 107; refine (H.out _ _).mono ?_; rintro e w1 ⟨rfl, rfl⟩)
      go_ret
      exact ⟨by simp [cmpV, h, h2], rfl⟩
    · go_wp2_with (go_at_call 107; refine (H.out _ _).mono ?_; rintro e w1 ⟨rfl, rfl⟩)
      go_ret
      exact ⟨by simp [cmpV, show ¬ x < y by omega, show ¬ y < x by omega], rfl⟩
set_option maxHeartbeats 1000000 in
theorem rank1_any (x y : Nat) (sx sy : Int) (n cap c sb so : Nat) (W : World) (hc : W.cell? ⟨c, 0, none⟩ = some (.slice (some ⟨sb, so, none⟩) n cap)) (hx : x < n) (hy : y < n) (hX : W.cell? ⟨sb, so + x, none⟩ = some (.int .i64 sx)) (hY : W.cell? ⟨sb, so + y, none⟩ = some (.int .i64 sy)) :
    Calls Tryz.prog 93 #[.int .i64 x, .int .i64 y, .pointer (some ⟨c, 0, none⟩)] W fun e w' => e = .returned (.int .i64 (cmpV sy sx)) ∧ ∃ q, w' = W.drewN q := by
  have H := Lib.hid cmpC_any
  have hx' : (x : Int) < n := by omega
  have hy' : (y : Int) < n := by omega
  have hx0 : 0 ≤ (x : Int) := by omega
  have hy0 : 0 ≤ (y : Int) := by omega
  go_enter Tryz.func93, Tryz.ntmps93
  go_wp2_with fail
  go_region_held3 (fun w' => w'.cell? ⟨c, 0, none⟩ = some (.slice (some ⟨sb, so, none⟩) n cap) ∧ w'.cell? ⟨sb, so + x, none⟩ = some (.int .i64 sx) ∧ w'.cell? ⟨sb, so + y, none⟩ = some (.int .i64 sy))
    (first | exact ⟨hc, hX, hY⟩ | go_keep)
    (first | (go_at_call 74; refine (H.out _ _ _).mono ?_; rintro e w1 ⟨rfl, rfl⟩))
  go_wp2
  go_ret
  exact ⟨rfl, 1, rfl⟩
end Go.Proofs.YtadkhechobeccaaGreatDoor
