/-
  An axis by its name, a symbol by its name.
-/
import Derived.Test.YtneabpgphjcbkaaGreatDoorSize
namespace Go.Proofs.YtneabpgphjcbkaaGreatDoor
open Go.RowKit

def AxisPlace (F : Nat) : Prop := ∀ (l : List LAxis) (name : ByteArray) (v : Value) (w : World), RAxes w.cell? v l → Calls Tryz.prog F #[v, .string name] w fun e w' => e = .returned (.int .i64 (placeI l name)) ∧ Below w.heap.size w w'

set_option maxRecDepth 100000 in
theorem axisAt_fn_P (x : LAxis) (name : ByteArray) (u : Value) (b : Nat) (W : World) (hu : VAxis W.cell? u x) (hb : W.cell? ⟨b, 0, none⟩ = some (.string name)) :
    Calls Tryz.prog 252 #[u, .pointer (some ⟨b, 0, none⟩)] W fun e w' => e = .returned (.bool (sEq x.name name)) ∧ Below W.heap.size W w' := by
  obtain ⟨tv, rfl, h⟩ := hu
  obtain ⟨A, n, c, rfl⟩ := Rws.sl h
  have hb2 := fun ob => Keeps.alloc W ob _ _ hb
  clear h
  go_enter Tryz.func252, Tryz.ntmps252
  go_wp2
  go_ret
  exact ⟨rfl, laid (Below.refl _ _) _⟩
theorem enter_axisAt_P : ∀ args w, (callFunc 252 args).run Tryz.prog w = .ok (.enter 252 args) w := fun _ _ => by kernel_rfl
set_option maxRecDepth 100000 in
theorem axisAt_P : AxisPlace 199 := by
  intro l name v w hv
  have HV := Lib.hid hv
  clear hv
  go_enter Tryz.func199, Tryz.ntmps199
  go_wp2_with fail
  refine (idx_ax 252 #[.pointer (some ⟨w.heap.size, 0, none⟩)] (fun x => sEq x.name name) enter_axisAt_P l _ _ (HV.out.keep (Keeps.alloc _ _)) (fun x _ u W hB hu => axisAt_fn_P x name u w.heap.size W hu (Keeps.of_below hB _ _ (by go_simp)))).mono ?_
  rintro e w1 ⟨rfl, hB⟩
  have HB1 := Lib.hid (behind (laid (Below.refl _ w) _) hB)
  clear hB
  go_wp2
  go_ret
  exact ⟨rfl, HB1.out⟩

end Go.Proofs.YtneabpgphjcbkaaGreatDoor
