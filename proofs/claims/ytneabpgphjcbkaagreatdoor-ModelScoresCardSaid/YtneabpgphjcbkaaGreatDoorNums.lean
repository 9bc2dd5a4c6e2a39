/-
  nums().
-/
import Derived.Test.YtneabpgphjcbkaaGreatDoorMake
namespace Go.Proofs.YtneabpgphjcbkaaGreatDoor
open Go.RowKit

theorem n64 : numBytes (qneg 6 (-4)) (qnum 6 (-4)) = [45, 51] := by decide +kernel
theorem d64 : Lib.decDigits (qden 6 (-4)) = [50] := by decide +kernel
theorem chk_64 : chkOf [45, 51] [50] = 0 := by decide +kernel
theorem chk_nil : chkOf [] [] = 3 := by decide +kernel

set_option maxHeartbeats 2000000 in
set_option maxRecDepth 100000 in
theorem nums_any (w : World) (htab : Tabs w) :
    Calls Tryz.prog 37 #[] w fun e w' => e = .returned (.bool true) ∧ Below w.heap.size w w' := by
  have hm := make_any 6 (-4) w (by omega) (by omega) (by omega) (by omega) (by omega) htab
  rw [n64, d64] at hm
  have hc1 := fun W => numCheck_any [45, 51] [50] W (by simp) (by simp)
  have hc2 := fun W => numCheck_any [] [] W (by simp) (by simp)
  rw [chk_64] at hc1
  rw [chk_nil] at hc2
  have HM := Lib.hid hm
  have HC1 := Lib.hid hc1
  have HC2 := Lib.hid hc2
  clear hm hc1 hc2
  go_enter Tryz.func37, Tryz.ntmps37
  go_wp2_with fail
  refine HM.out.mono ?_
  rintro e w1 ⟨rfl, hB1⟩
  have HB1 := Lib.hid hB1
  clear hB1
  have hk := Blk.new w1 76 #[.string ⟨#[45, 51]⟩, .string ⟨#[50]⟩]
  go_wp2_with fail
  refine (HC1.out _).mono ?_
  rintro e w2 ⟨rfl, hB2⟩
  have HB2 : Hid (Below w1.heap.size w1 w2) := Lib.hid (((Below.refl _ w1).alloc (Nat.le_refl _) _).trans (hB2.mono (by simp)))
  clear hB2
  go_wp2_with fail
  refine (HC2.out _).mono ?_
  rintro e w3 ⟨rfl, hB3⟩
  have HB3 := Lib.hid hB3
  clear hB3
  go_wp2
  go_ret
  exact ⟨rfl, HB1.out.trans ((HB2.out.trans (HB3.out.mono HB2.out.size)).mono HB1.out.size)⟩
end Go.Proofs.YtneabpgphjcbkaaGreatDoor
