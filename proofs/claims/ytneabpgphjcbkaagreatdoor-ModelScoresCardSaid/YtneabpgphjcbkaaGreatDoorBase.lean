/-
  What the walks share: a slice value that reads as a list of values; a slice that holds a natural number.
-/
import Derived.Test.YtneabpgphjcbkaaGreatDoorProg
import Derived.Test.YtneabpgphjcbkaaGreatDoorMath
import Derived.WalkKit
import Derived.WalkSpells
import Derived.WalkLawsBesides
import Derived.Below
import Derived.Laws.OwnMore
import Derived.Lib.Hide
import Derived.Maps.AppendAt
import Derived.Deep.Draws
import Derived.Deep.OwnRows
namespace Go.Proofs.YtneabpgphjcbkaaGreatDoor
open Go.RowKit

/-- the slice value v reads as the values xs in the world w -/
def Sl (w : World) (v : Value) (xs : List Value) : Prop :=
  ∃ A c, v = .slice A xs.length c ∧ xs.length ≤ c ∧ c ≤ maxLen ∧
    (0 < xs.length → ∃ b o, A = some ⟨b, o, none⟩ ∧ ∀ j u, xs[j]? = some u → w.cell? ⟨b, o + j, none⟩ = some u)

theorem Sl.nil_ (w : World) : Sl w (.slice none 0 0) [] := ⟨none, 0, rfl, Nat.le_refl _, Nat.zero_le _, fun h => absurd h (by simp)⟩
theorem Sl.keep {w w' : World} {v : Value} {xs : List Value} (h : Sl w v xs) (hk : ∀ (p : Addr) u, w.cell? p = some u → w'.cell? p = some u) : Sl w' v xs := by
  obtain ⟨A, c, e, h1, h2, h3⟩ := h
  refine ⟨A, c, e, h1, h2, fun h0 => ?_⟩
  obtain ⟨b, o, e2, h4⟩ := h3 h0
  exact ⟨b, o, e2, fun j u hu => hk _ _ (h4 j u hu)⟩
theorem Sl.below {w w' : World} {v : Value} {xs : List Value} (h : Sl w v xs) (hb : Below w.heap.size w w') : Sl w' v xs :=
  h.keep fun p _ hu => (hb.cell (World.block_lt_of_cell? w p hu)).trans hu
theorem Sl.drew {w : World} {v : Value} {xs : List Value} (h : Sl w v xs) : Sl w.drew v xs := h
theorem Sl.drewN {w : World} {v : Value} {xs : List Value} (h : Sl w v xs) (n : Nat) : Sl (w.drewN n) v xs := h
theorem Sl.alloc {w : World} {v : Value} {xs : List Value} (h : Sl w v xs) (o : Obj) : Sl (w.alloc o) v xs :=
  h.below ((Below.refl _ _).alloc (Nat.le_refl _) o)
theorem Sl.set {w : World} {v : Value} {xs : List Value} (h : Sl w v xs) (p : Addr) (u : Value) (hp : ∀ b o c, v = .slice (some ⟨b, o, none⟩) xs.length c → b ≠ p.block) : Sl (w.setCell p u) v xs := by
  obtain ⟨A, c, e, h1, h2, h3⟩ := h
  refine ⟨A, c, e, h1, h2, fun h0 => ?_⟩
  obtain ⟨b, o, rfl, h4⟩ := h3 h0
  exact ⟨b, o, rfl, fun j x hx => (World.cell?_setCell_other _ _ _ _ (by
    intro h; exact hp b o c e (by rw [h]))).trans (h4 j x hx)⟩
/-- a row that the call owns reads -/
theorem Sl.of_own {w : World} {base : Nat} {e : TypeId} {v : Value} {n : Nat} {xs : List Value} (h : w.ownsRow base e 1 v n xs) : Sl w v xs := by
  have hl : xs.length = n := by simpa using h.1
  rcases h.2 with ⟨rfl, rfl⟩ | ⟨g, cap, cur, rfl, _, hg, h1, h2, h3, h4⟩
  · have : xs = [] := List.eq_nil_of_length_eq_zero hl
    subst this; exact Sl.nil_ w
  · refine ⟨some ⟨g, 0, none⟩, cap, by rw [hl], by omega, h2, fun h0 => ⟨g, 0, rfl, fun j u hu => ?_⟩⟩
    have := h.cells (g := g) rfl j u hu
    rwa [Addr.add_lit] at this

def u32s (l : List Nat) : List Value := l.map fun d : Nat => .int .u32 (d : Int)
theorem u32s_length (l : List Nat) : (u32s l).length = l.length := by simp [u32s]
theorem u32s_append (l m : List Nat) : u32s (l ++ m) = u32s l ++ u32s m := by simp [u32s]
theorem u32s_get (l : List Nat) (j : Nat) : (u32s l)[j]? = (l[j]?).map fun d : Nat => Value.int .u32 (d : Int) := by simp [u32s]

theorem u32s_at {l : List Nat} {j : Nat} (h : j < l.length) : (u32s l)[j]? = some (.int .u32 ((l[j]?.getD 0 : Nat) : Int)) := by
  rw [u32s_get, List.getElem?_eq_getElem h]; rfl

/-- the slice value v holds the number n: its digits to the base 10^9, the lowest first -/
def Nt (w : World) (v : Value) (n : Nat) : Prop := Sl w v (u32s (Mth.dg 1000000000 n))
theorem Nt.shape {w : World} {v : Value} {n : Nat} (h : Nt w v n) : ∃ A k c, v = .slice A k c := by
  obtain ⟨A, c, e, _⟩ := h
  exact ⟨_, _, _, e⟩
theorem Nt.below {w w' : World} {v : Value} {n : Nat} (h : Nt w v n) (hb : Below w.heap.size w w') : Nt w' v n := Sl.below h hb


/-- block g is a row of 32-bit words that the call itself has made: the words l -/
def Own (w : World) (g : Nat) (l : List Nat) : Prop := w.heap[g]? = some (.cells (u32s l).toArray 126 (0, 0))
section
variable {w w' : World} {g j : Nat} {l : List Nat}
theorem Own.lt (h : Own w g l) : g < w.heap.size := (Array.getElem?_eq_some_iff.1 h).1
theorem Own.cell (h : Own w g l) (hj : j < l.length) : w.cell? ⟨g, j, none⟩ = some (.int .u32 ((l[j]?.getD 0 : Nat) : Int)) := by
  rw [cell_of_row w g j _ _ (0, 0) h, List.getElem?_toArray, u32s_at hj]
theorem Own.frozen (h : Own w g l) (j : Nat) : w.frozen? ⟨g, j, none⟩ = false := by
  unfold Own at h
  simp [World.frozen?, h]
theorem Own.set (h : Own w g l) (j x : Nat) : Own (w.setCell ⟨g, j, none⟩ (.int .u32 (x : Int))) g (l.set j x) := by
  unfold Own at h ⊢
  simp [World.setCell, Array.getElem?_modify, h, u32s, List.map_set]
theorem Own.far (h : Own w g l) {p : Addr} (hp : g ≠ p.block) (u : Value) : Own (w.setCell p u) g l := (Below.heap_setCell w p u g hp).trans h
theorem Own.alloc (h : Own w g l) (o : Obj) : Own (w.alloc o) g l := (Below.heap_alloc w o g h.lt).trans h
theorem Own.drew (h : Own w g l) : Own w.drew g l := h
theorem Own.drewN (h : Own w g l) (n : Nat) : Own (w.drewN n) g l := h
theorem Own.below {B : Nat} (h : Own w g l) (hb : Below B w w') (hg : g < B) : Own w' g l := (hb.block g hg).trans h
theorem Own.sl (h : Own w g l) {c : Nat} (h1 : l.length ≤ c) (h2 : c ≤ maxLen) : Sl w (.slice (some ⟨g, 0, none⟩) l.length c) (u32s l) := by
  refine ⟨_, c, by rw [u32s_length], by rw [u32s_length]; exact h1, h2, fun _ => ⟨g, 0, rfl, fun j u hu => ?_⟩⟩
  rw [Nat.zero_add, cell_of_row w g j _ _ (0, 0) h, List.getElem?_toArray]
  exact hu
theorem madeCells_rep (z : Value) (n : Nat) : madeCells #[z] n = Array.replicate n z := by
  apply Array.ext
  · simp [size_madeCells]
  · intro i h1 h2
    simp [madeCells, Nat.mod_one]
theorem Own.made (w : World) (n : Nat) : Own (w.alloc (.cells (madeCells #[.int .u32 0] n) 126)) w.heap.size (List.replicate n 0) := by
  unfold Own
  rw [madeCells_rep, heap_alloc_new]
  simp [u32s]
end

section
variable {w w' a b c : World} {g k : Nat} {P W S : List Nat} {row : Option Nat}
theorem own3_cell (h : Own w g (P ++ W ++ S)) (hk : k < W.length) : w.cell? ⟨g, P.length + k, none⟩ = some (.int .u32 ((W[k]?.getD 0 : Nat) : Int)) := by
  rw [h.cell (by simp; omega), List.append_assoc, List.getElem?_append_right (by omega), Nat.add_sub_cancel_left, List.getElem?_append_left hk]
theorem own3_set (h : Own w g (P ++ W ++ S)) (hk : k < W.length) (d : Nat) : Own (w.setCell ⟨g, P.length + k, none⟩ (.int .u32 (d : Int))) g (P ++ W.set k d ++ S) := by
  have := h.set (P.length + k) d
  rwa [List.append_assoc, List.set_append_right _ _ (by omega), Nat.add_sub_cancel_left, List.set_append_left _ _ hk, ← List.append_assoc] at this
theorem only_refl (w : World) (row : Option Nat) : w.grownBy w row := ⟨rfl, rfl, rfl, Nat.le_refl _, fun _ _ _ => rfl⟩
theorem only_trans (h : a.grownBy b row) (k : b.grownBy c row) : a.grownBy c row :=
  ⟨k.os.trans h.os, k.tape.trans h.tape, k.output.trans h.output, Nat.le_trans h.size k.size, fun i hi hn => (k.block i (Nat.lt_of_lt_of_le hi h.size) hn).trans (h.block i hi hn)⟩
theorem only_set (h : a.grownBy w (some g)) (j : Nat) (u : Value) : a.grownBy (w.setCell ⟨g, j, none⟩ u) (some g) :=
  ⟨h.os, h.tape, h.output, by simpa [World.setCell] using h.size, fun i hi hne => (Below.heap_setCell w _ u i (by rintro rfl; exact hne rfl)).trans (h.block i hi hne)⟩
theorem only_drew (h : a.grownBy w row) : a.grownBy w.drew row := ⟨h.os, h.tape, h.output, h.size, h.block⟩
theorem only_drewN (h : a.grownBy w row) (n : Nat) : a.grownBy (w.drewN n) row := ⟨h.os, h.tape, h.output, h.size, h.block⟩
theorem Own.only {l : List Nat} {g' : Nat} (h : Own a g' l) (hg : a.grownBy w (some g)) (hne : g' ≠ g) : Own w g' l := (hg.block g' h.lt (by simpa using hne)).trans h
end

theorem own_below {w w' : World} {base : Nat} {e : TypeId} {size : Nat} {v : Value} {n : Nat} {xs : List Value} (h : w.ownsRow base e size v n xs) (hb : Below w.heap.size w w') : w'.ownsRow base e size v n xs :=
  h.kept (row := none) ⟨hb.os, hb.tape, hb.output, hb.size, fun i hi _ => hb.block i hi⟩ (by cases hv : v.ownBlock <;> simp)

theorem ret_int {k : IntKind} {a b : Int} (h : a = b) : Ending.returned (.int k a) = .returned (.int k b) := by rw [h]
theorem ret_bool {a b : Bool} (h : a = b) : Ending.returned (.bool a) = .returned (.bool b) := by rw [h]

/-- a quiet call inside a quiet region whose world has drawn already -/
theorem quiet_more {P : Program} {f : FuncId} {args : Array Value} {w : World} {a n : Nat} {v : Value}
    (h : Calls P f args (w.drewN (a + n)) fun e w' => e = .returned v ∧ w' = w.drewN (a + n)) :
    Calls P f args (w.drewN (a + n)) fun e w'' => e = .returned v ∧ ∃ m, w'' = w.drewN (a + m) :=
  h.mono fun _ _ ⟨he, hm⟩ => ⟨he, n, hm⟩

/-- the length of a slice value, for a measure -/
def lenOf : Value → Nat
  | .slice _ k _ => k
  | _ => 0
theorem take_snoc_nat (l : List Nat) (k : Nat) (h : k < l.length) : l.take (k + 1) = l.take k ++ [l[k]?.getD 0] := by
  rw [List.take_add_one, List.getElem?_eq_getElem h]; rfl
/-- the slice is long enough: a cut of its head reads as the head -/
theorem Sl.head {w : World} {A : Option Addr} {n c k : Nat} {xs : List Value} (h : Sl w (.slice A n c) xs) (hk : k ≤ xs.length) : Sl w (.slice A k c) (xs.take k) := by
  obtain ⟨A', c', e, h1, h2, h3⟩ := h
  injection e with e1 e2 e3
  subst e1 e2 e3
  have hl : (xs.take k).length = k := by rw [List.length_take]; omega
  refine ⟨A, c, by rw [hl], by omega, h2, fun h0 => ?_⟩
  obtain ⟨b, o, e, h4⟩ := h3 (by omega)
  refine ⟨b, o, e, fun j u hu => h4 j u ?_⟩
  rw [List.getElem?_take] at hu
  split at hu
  · exact hu
  · cases hu
theorem Sl.len_ {w : World} {A : Option Addr} {n c : Nat} {xs : List Value} (h : Sl w (.slice A n c) xs) : n = xs.length := by
  obtain ⟨A', c', e, _⟩ := h
  injection e

end Go.Proofs.YtneabpgphjcbkaaGreatDoor
