/-
  num.Permute.
-/
import Derived.Test.YtldjemlmjfpmjaaGreatDoorPick
import Derived.RegionTactic
import Derived.BigRegion
import Derived.WalkArith
namespace Go.Proofs.YtldjemlmjfpmjaaGreatDoor
open Go.RowKit

/-- two places change their contents -/
def swp (l : List Int) (i j : Nat) : List Int := (l.set i (l[j]?.getD 0)).set j (l[i]?.getD 0)
theorem swp_length (l : List Int) (i j : Nat) : (swp l i j).length = l.length := by simp [swp]
/-- the order that is drawV, and how many numbers were drawV -/
def perm (s k : Int) : Nat → List Int → Int → List Int × Int
  | 0, l, u => (l, u)
  | i + 1, l, u => perm s k i (swp l (i + 1) (dv s (wrap64 (k + u)) ((i : Int) + 1 + 1)).toNat) (wrap64 (u + du s (wrap64 (k + u)) ((i : Int) + 1 + 1)))

/-- the cells of block g from its head on are the ints l, and may be written -/
def Rw (w : World) (g : Nat) (l : List Int) : Prop := ∀ j, j < l.length → w.cell? ⟨g, j, none⟩ = some (.int .i64 (l[j]?.getD 0)) ∧ w.frozen? ⟨g, j, none⟩ = false
theorem Rw.set {w : World} {g : Nat} {l : List Int} (h : Rw w g l) {i : Nat} (hi : i < l.length) (x : Int) : Rw (w.setCell ⟨g, i, none⟩ (.int .i64 x)) g (l.set i x) := by
  intro j hj
  rw [List.length_set] at hj
  obtain ⟨h1, h2⟩ := h j hj
  refine ⟨?_, by rw [World.frozen?_setCell]; exact h2⟩
  by_cases e : i = j
  · subst e
    rw [World.cell?_setCell_same _ _ _ (h i hi).1]
    simp [hj]
  · rw [World.cell?_setCell_other _ _ _ _ (by intro h; apply e; injection h with _ h), h1]
    simp [e]
theorem OwnI.rw {w : World} {g : Nat} {l : List Int} (h : OwnI w g l) : Rw w g l := fun j hj => ⟨h.cell hj, h.frozen j⟩

theorem pfill_set {k P : Nat} (h : k < P) (x : Int) (f : Nat → Int) : ((List.range k).map f ++ List.replicate (P - k) (0:Int)).set k x = (List.range k).map f ++ x :: List.replicate (P - (k + 1)) 0 := by
  rw [List.set_append_right _ _ (by simp)]
  obtain ⟨m, hm⟩ : ∃ m, P - k = m + 1 := ⟨P - (k + 1), by omega⟩
  rw [hm, show P - (k + 1) = m by omega]
  simp [List.replicate_succ]
theorem pfill_next {k P : Nat} (f : Nat → Int) : (List.range k).map f ++ f k :: List.replicate (P - (k + 1)) (0:Int) = (List.range (k + 1)).map f ++ List.replicate (P - (k + 1)) 0 := by
  rw [List.range_succ, List.map_append, List.append_assoc]; rfl
/-- the numbers below n -/
def upTo (n : Nat) : List Int := (List.range n).map fun i : Nat => (i : Int)
theorem upTo_length (n : Nat) : (upTo n).length = n := by simp [upTo]
theorem pinfo_int : (Tryz.prog.info? 3).map (fun i => (i.zero, i.size, i.bytes)) = some (some (.int .i64 0), 1, 8) := by kernel_rfl

def PermPost (s k : Int) (n : Nat) (w : World) (e : Ending) (w' : World) : Prop :=
  e = .returned (.tuple #[.slice (some ⟨w.heap.size, 0, none⟩) n n, .int .i64 (perm s k (n - 1) (upTo n) 0).2, .int .i64 0]) ∧ Rw w' w.heap.size (perm s k (n - 1) (upTo n) 0).1 ∧ Below w.heap.size w w'

end Go.Proofs.YtldjemlmjfpmjaaGreatDoor
