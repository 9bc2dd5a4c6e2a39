/-
  Equal sizes, equal axes, equal shapes.
-/
import Derived.Test.YtneabpgphjcbkaaGreatDoorEqf
namespace Go.Proofs.YtneabpgphjcbkaaGreatDoor
open Go.RowKit

theorem keep2 (w : World) (o o' : Obj) : Keeps w.cell? ((w.alloc o).alloc o').cell? := (Keeps.alloc _ _).trans (Keeps.alloc _ _)
theorem laid2 (w : World) (o o' : Obj) : Below w.heap.size w ((w.alloc o).alloc o') := laid (laid (Below.refl _ _) _) _

def SizeSame (F : Nat) : Prop := ∀ (a b : LSize) (va vb : Value) (w : World), VSize w.cell? va a → VSize w.cell? vb b → Calls Tryz.prog F #[va, vb] w fun e w' => e = .returned (.bool (eqSize a b)) ∧ Below w.heap.size w w'

set_option maxRecDepth 100000 in
theorem eqSize_P : SizeSame 340 := by
  intro a b va vb w ha hb
  obtain ⟨ta, rfl, h1⟩ := ha
  obtain ⟨tb, rfl, h2⟩ := hb
  obtain ⟨A1, n1, c1, rfl⟩ := Rws.sl h1
  obtain ⟨A2, n2, c2, rfl⟩ := Rws.sl h2
  have H1 := Lib.hid h1
  have H2 := Lib.hid h2
  obtain ⟨bq, hbq⟩ : ∃ bq, (a.base == b.base) = bq := ⟨_, rfl⟩
  have HE : Hid (eqSize a b = (bq && eqL eqTerm a.terms b.terms)) := Lib.hid (by rw [← hbq]; rfl)
  clear h1 h2
  cases bq with
  | true =>
    go_enter Tryz.func340, Tryz.ntmps340
    go_wp2_with fail
    refine (equal_tm _ _ _ _ _ (H1.out.keep (keep2 _ _ _)) (H2.out.keep (keep2 _ _ _))).mono ?_
    rintro e w1 ⟨rfl, hB⟩
    have HB := Lib.hid (behind (laid2 _ _ _) hB)
    clear hB
    go_wp2
    go_ret
    exact ⟨ret_bool (by rw [HE.out, Bool.true_and]), HB.out⟩
  | false =>
    go_enter Tryz.func340, Tryz.ntmps340
    go_wp2
    go_ret
    exact ⟨ret_bool (by rw [HE.out, Bool.false_and]), laid2 _ _ _⟩
def AxisSame (F : Nat) : Prop := ∀ (a b : LAxis) (va vb : Value) (w : World), VAxis w.cell? va a → VAxis w.cell? vb b → Calls Tryz.prog F #[va, vb] w fun e w' => e = .returned (.bool (eqAxis a b)) ∧ Below w.heap.size w w'

set_option maxRecDepth 100000 in
theorem eqAxis_P : AxisSame 346 := by
  intro a b va vb w ha hb
  obtain ⟨ta, rfl, h1⟩ := ha
  obtain ⟨tb, rfl, h2⟩ := hb
  obtain ⟨A1, n1, c1, rfl⟩ := Rws.sl h1
  obtain ⟨A2, n2, c2, rfl⟩ := Rws.sl h2
  have H1 := Lib.hid h1
  have H2 := Lib.hid h2
  obtain ⟨bq, hbq⟩ : ∃ bq, (a.name.toList == b.name.toList) = bq := ⟨_, rfl⟩
  have HE : Hid (eqAxis a b = (bq && eqSize a.size b.size)) := Lib.hid (by rw [← hbq]; rfl)
  clear h1 h2
  cases bq with
  | true =>
    go_enter Tryz.func346, Tryz.ntmps346
    go_wp2_with fail
    refine (eqSize_P a.size b.size _ _ _ ⟨_, rfl, H1.out.keep (keep2 _ _ _)⟩ ⟨_, rfl, H2.out.keep (keep2 _ _ _)⟩).mono ?_
    rintro e w1 ⟨rfl, hB⟩
    have HB := Lib.hid (behind (laid2 _ _ _) hB)
    clear hB
    go_wp2
    go_ret
    exact ⟨ret_bool (by rw [HE.out, Bool.true_and]), HB.out⟩
  | false =>
    go_enter Tryz.func346, Tryz.ntmps346
    go_wp2
    go_ret
    exact ⟨ret_bool (by rw [HE.out, Bool.false_and]), laid2 _ _ _⟩
theorem enter_eqAxis_P : ∀ args w, (callFunc 346 args).run Tryz.prog w = .ok (.enter 346 args) w := fun _ _ => by kernel_rfl

def AxesSame (F : Nat) : Prop := ∀ (a b : List LAxis) (va vb : Value) (w : World), RAxes w.cell? va a → RAxes w.cell? vb b → Calls Tryz.prog F #[va, vb] w fun e w' => e = .returned (.bool (eqAxes a b)) ∧ Below w.heap.size w w'

theorem eqAxes_P : AxesSame 330 := by
  intro a b va vb w ha hb
  have HA := Lib.hid ha
  have HB := Lib.hid hb
  clear ha hb
  go_enter Tryz.func330, Tryz.ntmps330
  go_wp2_with fail
  refine (equalf_ax _ eqAxis enter_eqAxis_P a b _ _ _ HA.out HB.out (fun x _ y _ vx vy W _ hx hy => eqAxis_P x y vx vy W hx hy)).mono ?_
  rintro e w1 ⟨rfl, hB⟩
  have HB1 := Lib.hid hB
  clear hB
  go_wp2
  go_ret
  exact ⟨rfl, HB1.out⟩

end Go.Proofs.YtneabpgphjcbkaaGreatDoor
