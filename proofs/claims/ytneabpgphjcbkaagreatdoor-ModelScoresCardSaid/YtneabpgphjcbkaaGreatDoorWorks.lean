/-
  The guards on the packages graph, models and quant hold.
-/
import Derived.Test.YtneabpgphjcbkaaGreatDoorEm
import Derived.Recover
import Derived.Test.YtneabpgphjcbkaaGreatDoorNums
namespace Go.Proofs.YtneabpgphjcbkaaGreatDoor
open Go.RowKit

set_option maxRecDepth 100000 in
theorem catch_idle (p : Addr) (w : World) :
    CallsD Tryz.prog 249 #[.pointer (some p)] .returning w fun e u' w' => e = .returned (.tuple #[]) ∧ u' = .returning ∧ w' = w := by
  refine callsD_of_wpS Tryz.func249 rfl fun c₀ cs hu => ?_
  apply wpS_seq
  apply wpS_region
  simp [wpOpsS, go_sem, recoverD, hu, Tryz.ntmps249, Exit.thenS]
  refine wpS_of_wp ?_
  go_wp2
  cases c₀
  simp_all [bodyPostS, results, Tryz.results249]
def idleG (g : Nat) : Bool := Nat.beq g 249
theorem idleG_ok : IdleOk Tryz.prog idleG := fun g h p w => by
  have := Nat.eq_of_beq_eq_true h
  subst this
  exact catch_idle p w
theorem graphs_true : trueX Tryz.prog noTbl idleG noHook 50 38 = true := by kernel_rfl
theorem graphs_any (w : World) : Calls Tryz.prog 38 #[] w fun e w' => e = .returned (.bool true) ∧ Below w.heap.size w w' :=
  trueX_ok (by kernel_rfl) idleG_ok graphs_true w (noTbl_ok _ _) (noHook_ok _ _)
end Go.Proofs.YtneabpgphjcbkaaGreatDoor

namespace Go.Proofs.YtneabpgphjcbkaaGreatDoor
open Go.RowKit

def yesA : AV := .one (.leaf (.val (.bool true)))
def hookW (f : Nat) (args : List AV) (_ : St) : Option AV :=
  match args with
  | [] => cond (Nat.beq f 37 || Nat.beq f 38) (some yesA) none
  | _ => none
theorem hookW_ok (w0 : World) (ht : Tabs w0) : HookOk Tryz.prog w0.heap.size w0 hookW := fun f args st r h E w hr _ => by
  unfold hookW at h
  split at h
  · obtain ⟨h1, h2⟩ := cond_true h
    cases h2
    simp only [Bool.or_eq_true] at h1
    have hb := hr.below
    rcases h1 with h1 | h1
    · have := Nat.eq_of_beq_eq_true h1
      subst this
      exact nums_any w (ht.below ht.1 hb)
    · have := Nat.eq_of_beq_eq_true h1
      subst this
      exact graphs_any w
  · cases h
theorem works_true : trueX Tryz.prog noTbl idleG hookW 50 12 = true := by kernel_rfl
theorem works_any (w : World) (ht : Tabs w) : Calls Tryz.prog 12 #[] w fun e w' => e = .returned (.bool true) ∧ Below w.heap.size w w' :=
  trueX_ok (by kernel_rfl) idleG_ok works_true w (noTbl_ok _ _) (hookW_ok w ht)
end Go.Proofs.YtneabpgphjcbkaaGreatDoor

namespace Go.Proofs.YtneabpgphjcbkaaGreatDoor
open Go.RowKit

end Go.Proofs.YtneabpgphjcbkaaGreatDoor
