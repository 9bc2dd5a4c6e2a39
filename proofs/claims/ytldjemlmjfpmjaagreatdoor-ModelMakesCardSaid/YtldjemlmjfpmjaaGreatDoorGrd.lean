/-
  The guard on package graph holds in every world.
-/
import Derived.Test.YtldjemlmjfpmjaaGreatDoorEm
import Derived.Recover
namespace Go.Proofs.YtldjemlmjfpmjaaGreatDoor
open Go.RowKit

set_option maxRecDepth 100000 in
theorem catch_idle (p : Addr) (w : World) :
    CallsD Tryz.prog 318 #[.pointer (some p)] .returning w fun e u' w' => e = .returned (.tuple #[]) ∧ u' = .returning ∧ w' = w := by
  refine callsD_of_wpS Tryz.func318 rfl fun c₀ cs hu => ?_
  apply wpS_seq
  apply wpS_region
  simp [wpOpsS, go_sem, recoverD, hu, Tryz.ntmps318, Exit.thenS]
  refine wpS_of_wp ?_
  go_wp2
  cases c₀
  simp_all [bodyPostS, results, Tryz.results318]
def idleG (g : Nat) : Bool := Nat.beq g 318
theorem idleG_ok : IdleOk Tryz.prog idleG := fun g h p w => by
  have := Nat.eq_of_beq_eq_true h
  subst this
  exact catch_idle p w
theorem graphs_true : trueX Tryz.prog noTbl idleG noHook 50 43 = true := by kernel_rfl
theorem graphs_any (w : World) : Calls Tryz.prog 43 #[] w fun e w' => e = .returned (.bool true) ∧ Below w.heap.size w w' :=
  trueX_ok (by kernel_rfl) idleG_ok graphs_true w (noTbl_ok _ _) (noHook_ok _ _)
end Go.Proofs.YtldjemlmjfpmjaaGreatDoor
