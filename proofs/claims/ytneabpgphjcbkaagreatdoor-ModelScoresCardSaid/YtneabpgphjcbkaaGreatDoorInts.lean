/-
  Slices of ints.
-/
import Derived.Test.YtneabpgphjcbkaaGreatDoorBase
namespace Go.Proofs.YtneabpgphjcbkaaGreatDoor
open Go.RowKit

def i64s (l : List Int) : List Value := l.map fun z => .int .i64 z
theorem i64s_length (l : List Int) : (i64s l).length = l.length := by simp [i64s]
theorem i64s_append (l m : List Int) : i64s (l ++ m) = i64s l ++ i64s m := by simp [i64s]
theorem i64s_at {l : List Int} {j : Nat} (h : j < l.length) : (i64s l)[j]? = some (.int .i64 (l[j]?.getD 0)) := by
  simp [i64s, List.getElem?_eq_getElem h]

/-- block g is a row of ints of our own -/
def OwnI (w : World) (g : Nat) (l : List Int) : Prop := w.heap[g]? = some (.cells (i64s l).toArray 3 (0, 0))
section
variable {w w' : World} {g j : Nat} {l : List Int}
theorem OwnI.lt (h : OwnI w g l) : g < w.heap.size := (Array.getElem?_eq_some_iff.1 h).1
theorem OwnI.cell (h : OwnI w g l) (hj : j < l.length) : w.cell? ⟨g, j, none⟩ = some (.int .i64 (l[j]?.getD 0)) := by
  simp [World.cell?, show w.heap[g]? = _ from h, i64s, List.getElem?_eq_getElem hj]
theorem OwnI.frozen (h : OwnI w g l) (j : Nat) : w.frozen? ⟨g, j, none⟩ = false := by
  simp [World.frozen?, show w.heap[g]? = _ from h]
theorem OwnI.set (h : OwnI w g l) (j : Nat) (x : Int) : OwnI (w.setCell ⟨g, j, none⟩ (.int .i64 x)) g (l.set j x) := by
  unfold OwnI at h ⊢
  simp [World.setCell, Array.getElem?_modify, h, i64s, List.map_set]
theorem OwnI.far (h : OwnI w g l) {p : Addr} (hp : g ≠ p.block) (u : Value) : OwnI (w.setCell p u) g l := (Below.heap_setCell w p u g hp).trans h
theorem OwnI.alloc (h : OwnI w g l) (o : Obj) : OwnI (w.alloc o) g l := (Below.heap_alloc w o g h.lt).trans h
theorem OwnI.drew (h : OwnI w g l) : OwnI w.drew g l := h
theorem OwnI.drewN (h : OwnI w g l) (n : Nat) : OwnI (w.drewN n) g l := h
theorem OwnI.below {B : Nat} (h : OwnI w g l) (hb : Below B w w') (hg : g < B) : OwnI w' g l := (hb.block g hg).trans h
theorem OwnI.low (h : OwnI w g l) (hb : Below w.heap.size w w') : OwnI w' g l := h.below hb h.lt
theorem OwnI.sl (h : OwnI w g l) {c : Nat} (h1 : l.length ≤ c) (h2 : c ≤ maxLen) : Sl w (.slice (some ⟨g, 0, none⟩) l.length c) (i64s l) := by
  refine ⟨some ⟨g, 0, none⟩, c, by rw [i64s_length], by rw [i64s_length]; exact h1, h2, fun _ => ⟨g, 0, rfl, fun j u hu => ?_⟩⟩
  rw [Nat.zero_add, cell_of_row w g j _ _ (0, 0) h, List.getElem?_toArray]
  exact hu
theorem OwnI.made (w : World) (n : Nat) : OwnI (w.alloc (.cells (madeCells #[.int .i64 0] n) 3)) w.heap.size (List.replicate n 0) := by
  unfold OwnI
  rw [madeCells_rep, heap_alloc_new]
  simp [i64s]
end

/-- the slice value v reads as the ints xs -/
def LI (w : World) (v : Value) (xs : List Int) : Prop := Sl w v (i64s xs) ∧ xs.length ≤ maxLen ∧ ∀ x ∈ xs, -9223372036854775808 ≤ x ∧ x ≤ 9223372036854775807
theorem LI.form {w : World} {v : Value} {xs : List Int} (h : LI w v xs) : ∃ A c, v = .slice A xs.length c := by
  obtain ⟨⟨A, c, e, -⟩, -⟩ := h
  exact ⟨A, c, by rw [e, i64s_length]⟩
theorem LI.at_ {w : World} {A : Option Addr} {c n : Nat} {xs : List Int} (h : LI w (.slice A n c) xs) (hn : 0 < xs.length) :
    ∃ b o, A = some ⟨b, o, none⟩ ∧ ∀ j, j < xs.length → w.cell? ⟨b, o + j, none⟩ = some (.int .i64 (xs[j]?.getD 0)) := by
  obtain ⟨⟨A', c', e, h1, h2, h3⟩, -⟩ := h
  injection e with e1 e2 e3
  subst e1
  obtain ⟨b, o, e, h4⟩ := h3 (by rw [i64s_length]; exact hn)
  exact ⟨b, o, e, fun j hj => h4 j _ (i64s_at hj)⟩
theorem LI.len {w : World} {A : Option Addr} {c n : Nat} {xs : List Int} (h : LI w (.slice A n c) xs) : n = xs.length := by
  obtain ⟨h1, -⟩ := h
  rw [h1.len_, i64s_length]
end Go.Proofs.YtneabpgphjcbkaaGreatDoor
