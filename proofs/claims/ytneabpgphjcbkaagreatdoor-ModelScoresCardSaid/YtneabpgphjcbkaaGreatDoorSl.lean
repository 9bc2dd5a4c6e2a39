/-
  Relations over cells; the plain spec; searches in slices.
-/
import Derived.Test.YtneabpgphjcbkaaGreatDoorBase
namespace Go.Proofs.YtneabpgphjcbkaaGreatDoor
open Go.RowKit

/-- a further call behind what has turned so far -/
theorem behind {B : Nat} {a w w' : World} (h : Below B a w) (k : Below w.heap.size w w') (hB : B ≤ a.heap.size := by exact Nat.le_refl _) : Below B a w' := h.trans (k.mono (Nat.le_trans hB h.size))

theorem laid {B : Nat} {a w : World} (h : Below B a w) (o : Obj) (hB : B ≤ a.heap.size := by exact Nat.le_refl _) : Below B a (w.alloc o) := h.alloc (Nat.le_trans hB h.size) o
theorem drawn {B : Nat} {a w : World} (h : Below B a w) (q : Nat) : Below B a (w.drewN q) := ⟨h.os, h.tape, h.output, h.size, h.block⟩

/-- a block known whole -/
def Bk (w : World) (g : Nat) (t : TypeId) (cs : Array Value) : Prop := w.heap[g]? = some (.cells cs t (0, 0))
theorem Bk.lt {w : World} {g : Nat} {t : TypeId} {cs : Array Value} (h : Bk w g t cs) : g < w.heap.size := (Array.getElem?_eq_some_iff.1 h).1
theorem Bk.cell {w : World} {g : Nat} {t : TypeId} {cs : Array Value} (h : Bk w g t cs) (i : Nat) : w.cell? ⟨g, i, none⟩ = cs[i]? := cell_of_row w g i cs t (0, 0) h
theorem Bk.frozen {w : World} {g : Nat} {t : TypeId} {cs : Array Value} (h : Bk w g t cs) (i : Nat) : w.frozen? ⟨g, i, none⟩ = false := by
  unfold Bk at h
  simp [World.frozen?, h]
theorem Bk.new (w : World) (t : TypeId) (cs : Array Value) : Bk (w.alloc (.cells cs t)) w.heap.size t cs := heap_alloc_new w _
theorem Bk.below {w w' : World} {g B : Nat} {t : TypeId} {cs : Array Value} (h : Bk w g t cs) (hb : Below B w w') (hg : g < B) : Bk w' g t cs := (hb.block g hg).trans h
theorem Bk.low {w w' : World} {g : Nat} {t : TypeId} {cs : Array Value} (h : Bk w g t cs) (hb : Below w.heap.size w w') : Bk w' g t cs := h.below hb h.lt
theorem Bk.alloc {w : World} {g : Nat} {t : TypeId} {cs : Array Value} (h : Bk w g t cs) (o : Obj) : Bk (w.alloc o) g t cs := (Below.heap_alloc w o g h.lt).trans h
theorem Bk.far {w : World} {g : Nat} {t : TypeId} {cs : Array Value} (h : Bk w g t cs) {p : Addr} (hp : g ≠ p.block) (u : Value) : Bk (w.setCell p u) g t cs := (Below.heap_setCell w p u g hp).trans h
theorem Bk.set {w : World} {g : Nat} {t : TypeId} {cs : Array Value} (h : Bk w g t cs) (i : Nat) (u : Value) : Bk (w.setCell ⟨g, i, none⟩ u) g t (cs.setIfInBounds i u) := by
  unfold Bk at h ⊢
  simp [World.setCell, Array.getElem?_modify, h]

structure LTerm where
  sym : ByteArray
  n : Int
structure LSize where
  base : Int
  terms : List LTerm
structure LAxis where
  name : ByteArray
  size : LSize
structure LSym where
  name : ByteArray
  lo : Int
  hi : Int
structure LNode where
  op : Int
  args : List Int
  name : ByteArray
  axes : List LAxis
  axis : ByteArray
  to : List ByteArray
  lo : Int
  hi : Int
  n : Int
  m : Int
  data : List Int
  subs : List Int
inductive LGraph where
  | mk (name : ByteArray) (syms : List LSym) (nodes : List LNode) (outs : List Int) (subs : List LGraph)

/-- a partial map of cells -/
abbrev Cl := Addr → Option Value
/-- what one map says of cells the other says, too -/
def Keeps (C C' : Cl) : Prop := ∀ p u, C p = some u → C' p = some u
theorem Keeps.refl (C : Cl) : Keeps C C := fun _ _ h => h
theorem Keeps.trans {a b d : Cl} (h : Keeps a b) (k : Keeps b d) : Keeps a d := fun p u e => k p u (h p u e)
theorem Keeps.of_below {w w' : World} (hb : Below w.heap.size w w') : Keeps w.cell? w'.cell? := fun p _ hu => (hb.cell (World.block_lt_of_cell? w p hu)).trans hu
theorem Keeps.alloc (w : World) (o : Obj) : Keeps w.cell? (w.alloc o).cell? := Keeps.of_below ((Below.refl _ w).alloc (Nat.le_refl _) o)
/-- the cells outside some blocks -/
def offB (w : World) (S : Nat → Bool) : Cl := fun p => if S p.block = true then none else w.cell? p
theorem offB_cell {w : World} {S : Nat → Bool} {p : Addr} {u : Value} (h : offB w S p = some u) : w.cell? p = some u := by
  unfold offB at h; split at h
  · cases h
  · exact h
theorem offB_in {w : World} {S : Nat → Bool} {p : Addr} (h : S p.block = false) : offB w S p = w.cell? p := by unfold offB; rw [if_neg (by rw [h]; exact Bool.false_ne_true)]
theorem Keeps.off (w : World) (S : Nat → Bool) : Keeps (offB w S) w.cell? := fun _ _ h => offB_cell h
theorem Keeps.off_mono {w w' : World} {S S' : Nat → Bool} (h : ∀ p u, S p.block = false → w.cell? p = some u → S' p.block = false ∧ w'.cell? p = some u) : Keeps (offB w S) (offB w' S') := by
  intro p u hu
  have h1 := offB_cell hu
  have h2 : S p.block = false := by
    unfold offB at hu; split at hu
    · cases hu
    · rename_i h; simpa using h
  obtain ⟨h3, h4⟩ := h p u h2 h1
  rw [offB_in h3, h4]

/-- a slice of structs of k cells each -/
def Rws (k : Nat) {α : Type} (E : Cl → Nat → Nat → α → Prop) (C : Cl) (v : Value) (xs : List α) : Prop :=
  ∃ A c, v = .slice A xs.length c ∧ xs.length ≤ c ∧ c ≤ maxLen ∧ xs.length ≤ 1000000 ∧ (0 < xs.length → ∃ b o, A = some ⟨b, o, none⟩ ∧ ∀ (i : Nat) x, xs[i]? = some x → E C b (o + i * k) x)
theorem Rws.mono {k : Nat} {α : Type} {E : Cl → Nat → Nat → α → Prop} {C C' : Cl} {v : Value} {xs : List α} (h : Rws k E C v xs) (hE : ∀ b o x, E C b o x → E C' b o x) : Rws k E C' v xs := by
  obtain ⟨A, c, e, h1, h2, h5, h3⟩ := h
  exact ⟨A, c, e, h1, h2, h5, fun h0 => by obtain ⟨b, o, e2, hc⟩ := h3 h0; exact ⟨b, o, e2, fun i x hx => hE _ _ _ (hc i x hx)⟩⟩
theorem Rws.shape {k : Nat} {α : Type} {E : Cl → Nat → Nat → α → Prop} {C : Cl} {v : Value} {xs : List α} (h : Rws k E C v xs) : ∃ A c, v = .slice A xs.length c ∧ xs.length ≤ c ∧ c ≤ maxLen ∧ xs.length ≤ 1000000 := by
  obtain ⟨A, c, e, h1, h2, h5, -⟩ := h; exact ⟨A, c, e, h1, h2, h5⟩
theorem Rws.sl {k : Nat} {α : Type} {E : Cl → Nat → Nat → α → Prop} {C : Cl} {v : Value} {xs : List α} (h : Rws k E C v xs) : ∃ A n c, v = .slice A n c := by
  obtain ⟨A, c, e, -⟩ := h; exact ⟨A, _, c, e⟩
theorem Rws.nil (k : Nat) {α : Type} (E : Cl → Nat → Nat → α → Prop) (C : Cl) : Rws k E C (.slice none 0 0) ([] : List α) :=
  ⟨none, 0, rfl, Nat.le_refl _, by unfold maxLen; omega, Nat.zero_le _, fun h => by simp at h⟩
theorem Rws.at_ {k : Nat} {α : Type} {E : Cl → Nat → Nat → α → Prop} {C : Cl} {A : Option Addr} {n c : Nat} {xs : List α} (h : Rws k E C (.slice A n c) xs) (h0 : 0 < xs.length) : ∃ b o, A = some ⟨b, o, none⟩ ∧ ∀ (i : Nat) x, xs[i]? = some x → E C b (o + i * k) x := by
  obtain ⟨A', c', e, -, -, -, h3⟩ := h
  injection e with e1 e2 e3
  subst e1
  exact h3 h0
theorem Rws.len {k : Nat} {α : Type} {E : Cl → Nat → Nat → α → Prop} {C : Cl} {A : Option Addr} {n c : Nat} {xs : List α} (h : Rws k E C (.slice A n c) xs) : n = xs.length := by
  obtain ⟨A', c', e, -⟩ := h
  injection e
/-- a cut of a slice -/
theorem Rws.cut {k : Nat} {α : Type} {E : Cl → Nat → Nat → α → Prop} {C : Cl} {b o n c : Nat} {xs : List α} (h : Rws k E C (.slice (some ⟨b, o, none⟩) n c) xs) (i j : Nat) (hij : i ≤ j) (hj : j ≤ n) :
    Rws k E C (.slice (some ⟨b, o + i * k, none⟩) (j - i) (c - i)) ((xs.take j).drop i) := by
  have hn := h.len
  obtain ⟨A', c', e, h1, h2, h5, h3⟩ := h
  injection e with e1 e2 e3
  subst e1 e3
  have hl : ((xs.take j).drop i).length = j - i := by simp; omega
  refine ⟨some ⟨b, o + i * k, none⟩, c - i, by rw [hl], by rw [hl]; omega, by omega, by rw [hl]; omega, fun h0 => ⟨b, o + i * k, rfl, fun t x hx => ?_⟩⟩
  obtain ⟨b', o', e, h4⟩ := h3 (by omega)
  injection e with e
  injection e with e1 e2
  subst e1 e2
  have ht : t < j - i := by
    have := (List.getElem?_eq_some_iff.1 hx).1
    omega
  rw [List.getElem?_drop, List.getElem?_take_of_lt (by omega)] at hx
  have := h4 _ _ hx
  rwa [Nat.add_mul, ← Nat.add_assoc] at this

def RInt (C : Cl) (b o : Nat) (x : Int) : Prop := C ⟨b, o, none⟩ = some (.int .i64 x)
def RBool (C : Cl) (b o : Nat) (x : Bool) : Prop := C ⟨b, o, none⟩ = some (.bool x)
def RStr (C : Cl) (b o : Nat) (x : ByteArray) : Prop := C ⟨b, o, none⟩ = some (.string x)
def RInts (C : Cl) (v : Value) (xs : List Int) : Prop := Rws 1 RInt C v xs
def RBools (C : Cl) (v : Value) (xs : List Bool) : Prop := Rws 1 RBool C v xs
def RStrs (C : Cl) (v : Value) (xs : List ByteArray) : Prop := Rws 1 RStr C v xs
def RTerm (C : Cl) (b o : Nat) (t : LTerm) : Prop := C ⟨b, o, none⟩ = some (.string t.sym) ∧ C ⟨b, o + 1, none⟩ = some (.int .i64 t.n)
def RTerms (C : Cl) (v : Value) (xs : List LTerm) : Prop := Rws 2 RTerm C v xs
def RSym (C : Cl) (b o : Nat) (s : LSym) : Prop := C ⟨b, o, none⟩ = some (.string s.name) ∧ C ⟨b, o + 1, none⟩ = some (.int .i64 s.lo) ∧ C ⟨b, o + 2, none⟩ = some (.int .i64 s.hi)
def RSyms (C : Cl) (v : Value) (xs : List LSym) : Prop := Rws 3 RSym C v xs
def RAxis (C : Cl) (b o : Nat) (x : LAxis) : Prop := C ⟨b, o, none⟩ = some (.string x.name) ∧ C ⟨b, o + 1, none⟩ = some (.int .i64 x.size.base) ∧ ∃ tv, C ⟨b, o + 2, none⟩ = some tv ∧ RTerms C tv x.size.terms
def RAxes (C : Cl) (v : Value) (xs : List LAxis) : Prop := Rws 3 RAxis C v xs
/-- a slice of shapes -/
def RShape (C : Cl) (b o : Nat) (x : List LAxis) : Prop := ∃ v, C ⟨b, o, none⟩ = some v ∧ RAxes C v x
def RShapes (C : Cl) (v : Value) (xs : List (List LAxis)) : Prop := Rws 1 RShape C v xs
/-- a term, a size, an axis, a symbol as a value -/
def VTerm (x : LTerm) : Value := .agg #[.string x.sym, .int .i64 x.n]
def VSym (x : LSym) : Value := .agg #[.string x.name, .int .i64 x.lo, .int .i64 x.hi]
def VSize (C : Cl) (v : Value) (s : LSize) : Prop := ∃ tv, v = .agg #[.int .i64 s.base, tv] ∧ RTerms C tv s.terms
def VAxis (C : Cl) (v : Value) (x : LAxis) : Prop := ∃ tv, v = .agg #[.string x.name, .int .i64 x.size.base, tv] ∧ RTerms C tv x.size.terms
def RNode (C : Cl) (b o : Nat) (x : LNode) : Prop := ∃ v1 v3 v5 v10 v11,
  (C ⟨b, o, none⟩ = some (.int .i64 x.op) ∧ C ⟨b, o + 1, none⟩ = some v1 ∧ C ⟨b, o + 2, none⟩ = some (.string x.name) ∧ C ⟨b, o + 3, none⟩ = some v3 ∧
    C ⟨b, o + 4, none⟩ = some (.string x.axis) ∧ C ⟨b, o + 5, none⟩ = some v5 ∧ C ⟨b, o + 6, none⟩ = some (.int .i64 x.lo) ∧ C ⟨b, o + 7, none⟩ = some (.int .i64 x.hi) ∧
    C ⟨b, o + 8, none⟩ = some (.int .i64 x.n) ∧ C ⟨b, o + 9, none⟩ = some (.int .i64 x.m) ∧ C ⟨b, o + 10, none⟩ = some v10 ∧ C ⟨b, o + 11, none⟩ = some v11) ∧
  RInts C v1 x.args ∧ RAxes C v3 x.axes ∧ RStrs C v5 x.to ∧ RInts C v10 x.data ∧ RInts C v11 x.subs
def VNode (C : Cl) (v : Value) (x : LNode) : Prop := ∃ v1 v3 v5 v10 v11,
  v = .agg #[.int .i64 x.op, v1, .string x.name, v3, .string x.axis, v5, .int .i64 x.lo, .int .i64 x.hi, .int .i64 x.n, .int .i64 x.m, v10, v11] ∧
  RInts C v1 x.args ∧ RAxes C v3 x.axes ∧ RStrs C v5 x.to ∧ RInts C v10 x.data ∧ RInts C v11 x.subs
def RNodes (C : Cl) (v : Value) (xs : List LNode) : Prop := Rws 12 RNode C v xs
/-- a graph of at most so many levels -/
def RGraph : Nat → Cl → Nat → Nat → LGraph → Prop
  | 0, _, _, _, _ => False
  | d + 1, C, b, o, .mk name syms nodes outs subs => ∃ v1 v2 v3 v4,
    (C ⟨b, o, none⟩ = some (.string name) ∧ C ⟨b, o + 1, none⟩ = some v1 ∧ C ⟨b, o + 2, none⟩ = some v2 ∧ C ⟨b, o + 3, none⟩ = some v3 ∧ C ⟨b, o + 4, none⟩ = some v4) ∧
    RSyms C v1 syms ∧ RNodes C v2 nodes ∧ RInts C v3 outs ∧ Rws 5 (RGraph d) C v4 subs
def RGraphs (d : Nat) (C : Cl) (v : Value) (xs : List LGraph) : Prop := Rws 5 (RGraph d) C v xs
def VGraph (d : Nat) (C : Cl) (v : Value) : LGraph → Prop
  | .mk name syms nodes outs subs => ∃ v1 v2 v3 v4, v = .agg #[.string name, v1, v2, v3, v4] ∧ RSyms C v1 syms ∧ RNodes C v2 nodes ∧ RInts C v3 outs ∧ RGraphs d C v4 subs

theorem RTerms.keep {C C' : Cl} {v : Value} {xs : List LTerm} (h : RTerms C v xs) (k : Keeps C C') : RTerms C' v xs := Rws.mono h fun _ _ _ ⟨h1, h2⟩ => ⟨k _ _ h1, k _ _ h2⟩
theorem RSyms.keep {C C' : Cl} {v : Value} {xs : List LSym} (h : RSyms C v xs) (k : Keeps C C') : RSyms C' v xs := Rws.mono h fun _ _ _ ⟨h1, h2, h3⟩ => ⟨k _ _ h1, k _ _ h2, k _ _ h3⟩
theorem RInts.keep {C C' : Cl} {v : Value} {xs : List Int} (h : RInts C v xs) (k : Keeps C C') : RInts C' v xs := Rws.mono h fun _ _ _ h1 => k _ _ h1
theorem RBools.keep {C C' : Cl} {v : Value} {xs : List Bool} (h : RBools C v xs) (k : Keeps C C') : RBools C' v xs := Rws.mono h fun _ _ _ h1 => k _ _ h1
theorem RStrs.keep {C C' : Cl} {v : Value} {xs : List ByteArray} (h : RStrs C v xs) (k : Keeps C C') : RStrs C' v xs := Rws.mono h fun _ _ _ h1 => k _ _ h1
theorem RAxis.keep {C C' : Cl} {b o : Nat} {x : LAxis} (h : RAxis C b o x) (k : Keeps C C') : RAxis C' b o x := by
  obtain ⟨h1, h2, tv, h3, h4⟩ := h
  exact ⟨k _ _ h1, k _ _ h2, tv, k _ _ h3, h4.keep k⟩
theorem RAxes.keep {C C' : Cl} {v : Value} {xs : List LAxis} (h : RAxes C v xs) (k : Keeps C C') : RAxes C' v xs := Rws.mono h fun _ _ _ h => h.keep k
theorem RShapes.keep {C C' : Cl} {v : Value} {xs : List (List LAxis)} (h : RShapes C v xs) (k : Keeps C C') : RShapes C' v xs := Rws.mono h fun _ _ _ ⟨v, h1, h2⟩ => ⟨v, k _ _ h1, h2.keep k⟩
theorem VSize.keep {C C' : Cl} {v : Value} {x : LSize} (h : VSize C v x) (k : Keeps C C') : VSize C' v x := by obtain ⟨tv, e, h⟩ := h; exact ⟨tv, e, h.keep k⟩
theorem VAxis.keep {C C' : Cl} {v : Value} {x : LAxis} (h : VAxis C v x) (k : Keeps C C') : VAxis C' v x := by obtain ⟨tv, e, h⟩ := h; exact ⟨tv, e, h.keep k⟩
theorem RNode.keep {C C' : Cl} {b o : Nat} {x : LNode} (h : RNode C b o x) (k : Keeps C C') : RNode C' b o x := by
  obtain ⟨v1, v3, v5, v10, v11, ⟨c0, c1, c2, c3, c4, c5, c6, c7, c8, c9, c10, c11⟩, h1, h3, h5, h10, h11⟩ := h
  exact ⟨v1, v3, v5, v10, v11, ⟨k _ _ c0, k _ _ c1, k _ _ c2, k _ _ c3, k _ _ c4, k _ _ c5, k _ _ c6, k _ _ c7, k _ _ c8, k _ _ c9, k _ _ c10, k _ _ c11⟩, h1.keep k, h3.keep k, h5.keep k, h10.keep k, h11.keep k⟩
theorem VNode.keep {C C' : Cl} {v : Value} {x : LNode} (h : VNode C v x) (k : Keeps C C') : VNode C' v x := by
  obtain ⟨v1, v3, v5, v10, v11, e, h1, h3, h5, h10, h11⟩ := h
  exact ⟨v1, v3, v5, v10, v11, e, h1.keep k, h3.keep k, h5.keep k, h10.keep k, h11.keep k⟩
theorem RNodes.keep {C C' : Cl} {v : Value} {xs : List LNode} (h : RNodes C v xs) (k : Keeps C C') : RNodes C' v xs := Rws.mono h fun _ _ _ h1 => h1.keep k
theorem RGraph.keep : ∀ {d : Nat} {C C' : Cl} {b o : Nat} {g : LGraph}, RGraph d C b o g → Keeps C C' → RGraph d C' b o g
  | 0, _, _, _, _, _, h, _ => h.elim
  | d + 1, _, _, _, _, .mk _ _ _ _ _, h, k => by
    obtain ⟨v1, v2, v3, v4, ⟨c0, c1, c2, c3, c4⟩, h1, h2, h3, h4⟩ := h
    exact ⟨v1, v2, v3, v4, ⟨k _ _ c0, k _ _ c1, k _ _ c2, k _ _ c3, k _ _ c4⟩, h1.keep k, h2.keep k, h3.keep k, Rws.mono h4 fun _ _ _ hg => RGraph.keep hg k⟩
theorem RGraphs.keep {d : Nat} {C C' : Cl} {v : Value} {xs : List LGraph} (h : RGraphs d C v xs) (k : Keeps C C') : RGraphs d C' v xs := Rws.mono h fun _ _ _ hg => hg.keep k
theorem VGraph.keep {d : Nat} {C C' : Cl} {v : Value} {g : LGraph} (h : VGraph d C v g) (k : Keeps C C') : VGraph d C' v g := by
  obtain ⟨name, syms, nodes, outs, subs⟩ := g
  obtain ⟨v1, v2, v3, v4, e, h1, h2, h3, h4⟩ := h
  exact ⟨v1, v2, v3, v4, e, h1.keep k, h2.keep k, h3.keep k, h4.keep k⟩
end Go.Proofs.YtneabpgphjcbkaaGreatDoor

namespace Go.Proofs.YtneabpgphjcbkaaGreatDoor

/-- texts: equal, less -/
def sEq (a b : ByteArray) : Bool := a.toList == b.toList
def sLt (a b : ByteArray) : Bool := Op.bytesLess a.toList b.toList
def iEq (a b : Int) : Bool := a == b
theorem iEq_iff (a b : Int) : iEq a b = true ↔ a = b := by simp [iEq]
theorem toList_inj {a b : ByteArray} (h : a.toList = b.toList) : a = b := by
  have h1 : a.data.toList = b.data.toList := by rw [← Go.ByteArray.toList_eq, ← Go.ByteArray.toList_eq, h]
  cases a; cases b
  simp only [ByteArray.mk.injEq]
  exact Array.toList_inj.1 h1
theorem sEq_iff {a b : ByteArray} : sEq a b = true ↔ a = b := by
  unfold sEq
  rw [beq_iff_eq]
  exact ⟨toList_inj, fun h => by rw [h]⟩
theorem sEq_refl (a : ByteArray) : sEq a a = true := sEq_iff.2 rfl
theorem bl_irrefl : ∀ l : List UInt8, Op.bytesLess l l = false
  | [] => rfl
  | a :: l => by simp [Op.bytesLess, bl_irrefl l]
theorem bl_trans : ∀ {a b d : List UInt8}, Op.bytesLess a b = true → Op.bytesLess b d = true → Op.bytesLess a d = true
  | [], _ :: _, _ :: _, _, _ => rfl
  | [], [], _, h, _ => by simp [Op.bytesLess] at h
  | _ :: _, [], _, h, _ => by simp [Op.bytesLess] at h
  | _, _ :: _, [], _, h => by simp [Op.bytesLess] at h
  | x :: a, y :: b, z :: d, h1, h2 => by
    simp only [Op.bytesLess, Bool.or_eq_true, decide_eq_true_eq, Bool.and_eq_true, beq_iff_eq] at h1 h2 ⊢
    rcases h1 with h1 | ⟨rfl, h1⟩
    · rcases h2 with h2 | ⟨rfl, _⟩
      · exact .inl (UInt8.lt_trans h1 h2)
      · exact .inl h1
    · rcases h2 with h2 | ⟨rfl, h2⟩
      · exact .inl h2
      · exact .inr ⟨rfl, bl_trans h1 h2⟩
theorem bl_tri : ∀ (a b : List UInt8), Op.bytesLess a b = false → Op.bytesLess b a = false → a = b
  | [], [], _, _ => rfl
  | [], _ :: _, h, _ => by simp [Op.bytesLess] at h
  | _ :: _, [], _, h => by simp [Op.bytesLess] at h
  | x :: a, y :: b, h1, h2 => by
    simp only [Op.bytesLess, Bool.or_eq_false_iff, decide_eq_false_iff_not, Bool.and_eq_false_iff] at h1 h2
    have hxy : x = y := by
      have h3 : ¬ x.toNat < y.toNat := h1.1
      have h4 : ¬ y.toNat < x.toNat := h2.1
      exact UInt8.toNat_inj.1 (by omega)
    subst hxy
    have h5 : Op.bytesLess a b = false := by rcases h1.2 with h | h <;> simp_all
    have h6 : Op.bytesLess b a = false := by rcases h2.2 with h | h <;> simp_all
    rw [bl_tri a b h5 h6]
theorem sLt_irrefl (a : ByteArray) : sLt a a = false := bl_irrefl _
theorem sLt_trans {a b d : ByteArray} (h : sLt a b = true) (k : sLt b d = true) : sLt a d = true := bl_trans h k
theorem sLt_tri {a b : ByteArray} (h : sLt a b = false) (k : sLt b a = false) : a = b := toList_inj (bl_tri _ _ h k)
theorem sLt_asymm {a b : ByteArray} (h : sLt a b = true) : sLt b a = false := by
  cases k : sLt b a
  · rfl
  · have := sLt_trans h k
    rw [sLt_irrefl] at this
    cases this

/-- letters, names -/
def low (c : UInt8) : Bool := decide (97 ≤ c.toNat) && decide (c.toNat ≤ 122)
def alnum (c : UInt8) : Bool := low c || (decide (48 ≤ c.toNat) && decide (c.toNat ≤ 57))
def nameB : List UInt8 → Bool
  | [] => false
  | c :: t => low c && t.all alnum && decide (t.length ≤ 7)
def isName (s : ByteArray) : Bool := nameB s.toList

def eqL {α β : Type} (eq : α → β → Bool) : List α → List β → Bool
  | [], [] => true
  | x :: xs, y :: ys => eq x y && eqL eq xs ys
  | _, _ => false
theorem eqL_len {α β : Type} {eq : α → β → Bool} : ∀ {xs : List α} {ys : List β}, xs.length ≠ ys.length → eqL eq xs ys = false
  | [], [], h => absurd rfl h
  | [], _ :: _, _ => rfl
  | _ :: _, [], _ => rfl
  | x :: xs, y :: ys, h => by rw [eqL, eqL_len (by simpa using h), Bool.and_false]
theorem eqL_iff {α : Type} {eq : α → α → Bool} (h : ∀ a b, eq a b = true ↔ a = b) : ∀ {xs ys : List α}, eqL eq xs ys = true ↔ xs = ys
  | [], [] => by simp [eqL]
  | [], _ :: _ => by simp [eqL]
  | _ :: _, [] => by simp [eqL]
  | x :: xs, y :: ys => by rw [eqL, Bool.and_eq_true, h, eqL_iff h, List.cons.injEq]
/-- the loop of slices.Equal -/
theorem eqL_take {α β : Type} {eq : α → β → Bool} : ∀ {xs : List α} {ys : List β} {j : Nat} {x : α} {y : β}, xs[j]? = some x → ys[j]? = some y → eqL eq (xs.take (j + 1)) (ys.take (j + 1)) = (eqL eq (xs.take j) (ys.take j) && eq x y)
  | [], _, _, _, _, h, _ => by simp at h
  | _, [], _, _, _, _, h => by simp at h
  | a :: xs, b :: ys, 0, x, y, h, k => by
    simp at h k; subst h; subst k
    simp [eqL]
  | a :: xs, b :: ys, j + 1, x, y, h, k => by
    simp at h k
    rw [List.take_succ_cons, List.take_succ_cons, List.take_succ_cons, List.take_succ_cons, eqL, eqL_take h k, eqL, Bool.and_assoc]
theorem eqL_no {α β : Type} {eq : α → β → Bool} : ∀ {xs : List α} {ys : List β} {j : Nat} {x : α} {y : β}, xs[j]? = some x → ys[j]? = some y → eq x y = false → eqL eq xs ys = false
  | [], _, _, _, _, h, _, _ => by simp at h
  | _, [], _, _, _, _, h, _ => by simp at h
  | a :: xs, b :: ys, 0, x, y, h, k, e => by
    simp at h k; subst h; subst k
    rw [eqL, e, Bool.false_and]
  | a :: xs, b :: ys, j + 1, x, y, h, k, e => by
    simp at h k
    rw [eqL, eqL_no h k e, Bool.and_false]

/-- the place of the first element that answers, or -1 -/
def idxI {α : Type} (p : α → Bool) (xs : List α) : Int := match xs.findIdx? p with
  | some i => (i : Int)
  | none => -1
theorem idxI_none {α : Type} {p : α → Bool} {xs : List α} (h : xs.any p = false) : idxI p xs = -1 := by
  have : xs.findIdx? p = none := by rw [List.findIdx?_eq_none_iff]; intro x hx; exact List.any_eq_false.1 h x hx |> (fun h => by simpa using h)
  rw [idxI, this]
theorem idxI_some {α : Type} {p : α → Bool} {xs : List α} {j : Nat} {x : α} (h : (xs.take j).any p = false) (hx : xs[j]? = some x) (hp : p x = true) : idxI p xs = (j : Int) := by
  have hj := (List.getElem?_eq_some_iff.1 hx)
  obtain ⟨hj, hxj⟩ := hj
  have : xs.findIdx? p = some j := by
    rw [List.findIdx?_eq_some_iff_getElem]
    refine ⟨hj, by rw [hxj]; exact hp, fun i hi => ?_⟩
    have := List.any_eq_false.1 h (xs[i]'(by omega)) (by rw [List.mem_take_iff_getElem]; exact ⟨i, by omega, rfl⟩)
    simpa using this
  rw [idxI, this]
theorem idxI_any {α : Type} (p : α → Bool) (xs : List α) : decide (0 ≤ idxI p xs) = xs.any p := by
  cases h : xs.any p
  · rw [idxI_none h]; rfl
  · unfold idxI
    cases h2 : xs.findIdx? p
    · rw [List.findIdx?_eq_none_iff] at h2
      rw [List.any_eq_true] at h
      obtain ⟨x, hx, hp⟩ := h
      rw [h2 x hx] at hp
      cases hp
    · simp
theorem idxI_lt {α : Type} {p : α → Bool} {xs : List α} {j : Nat} (h : idxI p xs = (j : Int)) : ∃ x, xs[j]? = some x ∧ p x = true ∧ xs.find? p = some x := by
  unfold idxI at h
  split at h
  · rename_i i hi
    have : i = j := by omega
    subst this
    rw [List.findIdx?_eq_some_iff_getElem] at hi
    obtain ⟨h1, h2, h3⟩ := hi
    refine ⟨xs[i], List.getElem?_eq_getElem h1, h2, ?_⟩
    rw [List.find?_eq_some_iff_getElem]
    exact ⟨h2, i, h1, rfl, fun k hk => by simpa using h3 k hk⟩
  · omega
theorem idxI_find_none {α : Type} {p : α → Bool} {xs : List α} (h : idxI p xs < 0) : xs.find? p = none := by
  unfold idxI at h
  split at h
  · omega
  · rename_i h2
    rw [List.findIdx?_eq_none_iff] at h2
    rw [List.find?_eq_none]
    intro x hx
    rw [h2 x hx]; exact Bool.false_ne_true
theorem idxI_dom {α : Type} (p : α → Bool) (xs : List α) : idxI p xs = -1 ∨ ∃ j : Nat, j < xs.length ∧ idxI p xs = (j : Int) := by
  unfold idxI
  split
  · rename_i i hi
    rw [List.findIdx?_eq_some_iff_getElem] at hi
    exact .inr ⟨i, hi.1, rfl⟩
  · exact .inl rfl

def eqTerm (a b : LTerm) : Bool := sEq a.sym b.sym && decide (a.n = b.n)
def eqSym (a b : LSym) : Bool := sEq a.name b.name && decide (a.lo = b.lo) && decide (a.hi = b.hi)
def eqSize (a b : LSize) : Bool := decide (a.base = b.base) && eqL eqTerm a.terms b.terms
def eqAxis (a b : LAxis) : Bool := sEq a.name b.name && eqSize a.size b.size
def eqAxes (a b : List LAxis) : Bool := eqL eqAxis a b
theorem eqTerm_iff (a b : LTerm) : eqTerm a b = true ↔ a = b := by
  cases a; cases b
  simp [eqTerm, sEq_iff]
theorem eqSym_iff (a b : LSym) : eqSym a b = true ↔ a = b := by
  cases a; cases b
  simp [eqSym, sEq_iff, and_assoc]
theorem eqSize_iff (a b : LSize) : eqSize a b = true ↔ a = b := by
  cases a; cases b
  simp [eqSize, eqL_iff eqTerm_iff]
theorem eqAxis_iff (a b : LAxis) : eqAxis a b = true ↔ a = b := by
  cases a; cases b
  simp [eqAxis, sEq_iff, eqSize_iff]
theorem eqAxes_iff (a b : List LAxis) : eqAxes a b = true ↔ a = b := eqL_iff eqAxis_iff

/-- a symbol by its name; the place of an axis -/
def symAt (syms : List LSym) (name : ByteArray) : Option LSym := syms.find? fun s => sEq s.name name
def placeI (l : List LAxis) (name : ByteArray) : Int := idxI (fun x => sEq x.name name) l
def axAt (l : List LAxis) (name : ByteArray) : Option LAxis := l.find? fun x => sEq x.name name
def numS (n : Int) : LSize := ⟨n, []⟩
def near (n : Int) : Bool := decide (-1000 ≤ n) && decide (n ≤ 1000)
def tLo (syms : List LSym) (t : LTerm) : Int := match symAt syms t.sym with
  | some y => if t.n * y.hi < t.n * y.lo then t.n * y.hi else t.n * y.lo
  | none => 0
def tHi (syms : List LSym) (t : LTerm) : Int := match symAt syms t.sym with
  | some y => if t.n * y.lo < t.n * y.hi then t.n * y.hi else t.n * y.lo
  | none => 0
/-- a term that may stand behind the one ahead of it -/
def tAt (f : LTerm → Bool) (l : List LTerm) : Nat → Bool
  | 0 => match l[0]? with
    | some t => f t
    | none => true
  | i + 1 => match l[i]?, l[i + 1]? with
    | some q, some t => f t && sLt q.sym t.sym
    | _, _ => true
def tSeq (f : LTerm → Bool) (l : List LTerm) : Bool := (List.range l.length).all (tAt f l)
def tOkP (t : LTerm) : Bool := near t.n && decide (t.n ≠ 0)
def tOkR (syms : List LSym) (t : LTerm) : Bool := (symAt syms t.sym).isSome && decide (t.n ≠ 0) && near t.n
theorem tOkR_true {syms : List LSym} {t : LTerm} {y : LSym} (h1 : symAt syms t.sym = some y) (h2 : (t.n == 0) = false) (h3 : near t.n = true) : tOkR syms t = true := by
  simp [tOkR, h1, h3]; simpa using h2
theorem tOkP_true {t : LTerm} (h2 : (t.n == 0) = false) (h3 : near t.n = true) : tOkP t = true := by
  simp [tOkP, h3]; simpa using h2
def sizeOk (f : LTerm → Bool) (syms : List LSym) (s : LSize) : Bool :=
  decide (s.terms.length ≤ 2) && near s.base && tSeq f s.terms && decide (s.base + (s.terms.map (tLo syms)).sum ≤ 16) && decide (1 ≤ s.base + (s.terms.map (tHi syms)).sum)
/-- ValidSize, goodSize -/
def validSize (syms : List LSym) (s : LSize) : Bool := sizeOk tOkP syms s
def goodSize (syms : List LSym) (s : LSize) : Bool := sizeOk (tOkR syms) syms s
def SymsOk (syms : List LSym) : Prop := ∀ y ∈ syms, (0 ≤ y.lo ∧ y.lo ≤ 16) ∧ (0 ≤ y.hi ∧ y.hi ≤ 16)
theorem symAt_mem {syms : List LSym} {name : ByteArray} {y : LSym} (h : symAt syms name = some y) : y ∈ syms := List.mem_of_find?_eq_some h
theorem near_iff {n : Int} : near n = true ↔ -1000 ≤ n ∧ n ≤ 1000 := by simp [near]
theorem sum_take_succ {α : Type} (f : α → Int) {l : List α} {j : Nat} {x : α} (h : l[j]? = some x) : ((l.take (j + 1)).map f).sum = ((l.take j).map f).sum + f x := by
  rw [List.take_add_one, h]; simp
theorem range_all_succ (p : Nat → Bool) (j : Nat) : (List.range (j + 1)).all p = ((List.range j).all p && p j) := by
  rw [List.range_succ, List.all_append]; simp
theorem tSeq_no {f : LTerm → Bool} {l : List LTerm} {j : Nat} (hj : j < l.length) (h : tAt f l j = false) : tSeq f l = false := by
  rw [tSeq, List.all_eq_false]
  exact ⟨j, by simpa using hj, by rw [h]; exact Bool.false_ne_true⟩
theorem tAt_eq (f : LTerm → Bool) {l : List LTerm} {j : Nat} {t : LTerm} (h : l[j]? = some t) : tAt f l j = (f t && (decide (j = 0) || (match l[j - 1]? with | some q => sLt q.sym t.sym | none => true))) := by
  cases j with
  | zero => simp [tAt, h]
  | succ i =>
    have hi : i < l.length := by have := (List.getElem?_eq_some_iff.1 h).1; omega
    simp only [tAt, h, Nat.add_sub_cancel, List.getElem?_eq_getElem hi]
    simp
theorem mul_near {a b : Int} (ha : -1000 ≤ a ∧ a ≤ 1000) (hb : 0 ≤ b ∧ b ≤ 16) : -16000 ≤ a * b ∧ a * b ≤ 16000 := by
  obtain ⟨h1, h2⟩ := ha
  obtain ⟨h3, h4⟩ := hb
  constructor
  · have := Int.mul_le_mul_of_nonneg_right h1 h3
    omega
  · have := Int.mul_le_mul_of_nonneg_right h2 h3
    omega

/-- without terms; how many elements -/
def hasTerms (x : LAxis) : Bool := decide (0 < x.size.terms.length)
def closedL (l : List LAxis) : Bool := !l.any hasTerms
def prodL (l : List LAxis) : Int := l.foldl (fun n x => n * x.size.base) 1
def countL (l : List LAxis) : Int := if closedL l = true then prodL l else -1
def NearL (l : List LAxis) : Prop := l.length ≤ 4 ∧ ∀ x ∈ l, -1000 ≤ x.size.base ∧ x.size.base ≤ 1000
theorem prodL_take {l : List LAxis} {j : Nat} {x : LAxis} (h : l[j]? = some x) : prodL (l.take (j + 1)) = prodL (l.take j) * x.size.base := by
  rw [prodL, List.take_add_one, h, List.foldl_append]; rfl
theorem mul_bound {a b A : Int} (ha : -A ≤ a ∧ a ≤ A) (hb : -1000 ≤ b ∧ b ≤ 1000) : -(A * 1000) ≤ a * b ∧ a * b ≤ A * 1000 := by
  have h1 : (a * b).natAbs = a.natAbs * b.natAbs := Int.natAbs_mul a b
  have h2 : a.natAbs * b.natAbs ≤ A.natAbs * 1000 := Nat.mul_le_mul (by omega) (by omega)
  have h3 : ((A.natAbs * 1000 : Nat) : Int) = A * 1000 := by omega
  omega
theorem prodL_bound {l : List LAxis} (h : NearL l) : ∀ j, j ≤ l.length → -(1000000000000) ≤ prodL (l.take j) ∧ prodL (l.take j) ≤ 1000000000000 := by
  have key : ∀ j, j ≤ l.length → -(1000 ^ j : Int) ≤ prodL (l.take j) ∧ prodL (l.take j) ≤ 1000 ^ j := by
    intro j
    induction j with
    | zero => intro _; rw [Int.pow_zero]; exact ⟨show (-1 : Int) ≤ 1 by decide, show (1 : Int) ≤ 1 by decide⟩
    | succ j ih =>
      intro hj
      obtain ⟨x, hx⟩ : ∃ x, l[j]? = some x := ⟨_, List.getElem?_eq_getElem (by omega)⟩
      rw [prodL_take hx, Int.pow_succ]
      exact mul_bound (ih (by omega)) (h.2 x (List.mem_of_getElem? hx))
  intro j hj
  have h1 := key j hj
  have h2 : j ≤ 4 := by have := h.1; omega
  have h3 : (1000 ^ j : Int) ≤ 1000000000000 := by
    rcases (show j = 0 ∨ j = 1 ∨ j = 2 ∨ j = 3 ∨ j = 4 by omega) with h | h | h | h | h <;> rw [h] <;> decide
  omega

/-- sums of sizes -/
def nz (l : List LTerm) : List LTerm := l.filter fun t => decide (t.n ≠ 0)
def mulT (k : Int) (t : LTerm) : LTerm := ⟨t.sym, k * t.n⟩
def addT : List LTerm → LTerm → List LTerm
  | [], t => [t]
  | u :: l, t => if sLt u.sym t.sym = true then u :: addT l t else if sEq u.sym t.sym = true then ⟨u.sym, u.n + t.n⟩ :: l else t :: u :: l
def sumS (a b : LSize) (k : Int) : LSize := ⟨a.base + k * b.base, nz (b.terms.foldl (fun l t => addT l (mulT k t)) a.terms)⟩
def mrg : List LTerm → List LTerm → List LTerm
  | [], b => b
  | a :: la, [] => a :: la
  | a :: la, b :: lb => if sLt a.sym b.sym = true then a :: mrg la (b :: lb) else if sLt b.sym a.sym = true then b :: mrg (a :: la) lb else ⟨a.sym, a.n + b.n⟩ :: mrg la lb
  termination_by a b => a.length + b.length
def plusS (a b : LSize) (k : Int) : LSize := ⟨a.base + k * b.base, nz (mrg a.terms (b.terms.map (mulT k)))⟩
/-- in strictly ascending order -/
def Asc (l : List LTerm) : Prop := l.Pairwise fun a b => sLt a.sym b.sym = true
theorem mrg_one {t : LTerm} : ∀ {l : List LTerm}, Asc l → addT l t = mrg l [t]
  | [], _ => by rw [addT, mrg]
  | u :: l, h => by
    have h2 : Asc l := (List.pairwise_cons.1 h).2
    rw [addT, mrg]
    by_cases h1 : sLt u.sym t.sym = true
    · rw [if_pos h1, if_pos h1, mrg_one h2]
    · rw [if_neg h1, if_neg h1]
      by_cases h3 : sEq u.sym t.sym = true
      · have h4 : u.sym = t.sym := sEq_iff.1 h3
        rw [if_pos h3, if_neg (by rw [h4, sLt_irrefl]; exact Bool.false_ne_true)]
        cases l <;> rw [mrg]
      · rw [if_neg h3]
        have h5 : sLt t.sym u.sym = true := by
          cases h6 : sLt t.sym u.sym
          · exact absurd (sEq_iff.2 (sLt_tri (by simpa using h1) h6)) h3
          · rfl
        rw [if_pos h5, mrg]
end Go.Proofs.YtneabpgphjcbkaaGreatDoor

namespace Go.Proofs.YtneabpgphjcbkaaGreatDoor
open Go.RowKit


set_option maxHeartbeats 1000000 in
set_option maxRecDepth 100000 in
theorem idx_ax (F : Nat) (caps : Array Value) (p : LAxis → Bool) (eF : ∀ args w, (callFunc F args).run Tryz.prog w = .ok (.enter F args) w) (xs : List (LAxis)) (v : Value) (w : World) (hv : RAxes w.cell? v xs)
    (hF : ∀ x ∈ xs, ∀ u W, Below w.heap.size w W → VAxis W.cell? u x → Calls Tryz.prog F (#[u] ++ caps) W fun e w' => e = .returned (.bool (p x)) ∧ Below W.heap.size W w') :
    Calls Tryz.prog 247 #[v, .func (.func F) #[] caps] w fun e w' => e = .returned (.int .i64 (idxI p xs)) ∧ Below w.heap.size w w' := by
  obtain ⟨A, c, rfl, -, -, hmx⟩ := Rws.shape hv
  have HV := Lib.hid hv
  obtain ⟨n, hn⟩ : ∃ n, xs.length = n := ⟨_, rfl⟩
  rw [hn] at hmx HV ⊢
  have HL := Lib.hid hn
  have HF := Lib.hid hF
  have hn2 : (n : Int) ≤ 1000000 := by omega
  clear hv hn hF
  go_enter Tryz.func247, Tryz.ntmps247
  go_wp2
  go_loopw [8] (fun a8 wr => ∃ j : Nat, a8 = .int .i64 j ∧ Below w.heap.size w wr ∧ j ≤ n ∧ (xs.take j).any p = false) (fun a8 _ => n - (intOf a8).toNat)
  case atStart => exact ⟨0, rfl, Below.refl _ _, by omega, rfl⟩
  case round =>
    obtain ⟨j, rfl, hB, hj, hp⟩ := hrel
    have HP := Lib.hid hp
    have HB := Lib.hid hB
    clear hp hB
    by_cases hlt : j < n
    · have hlt2 : (j : Int) < (n : Int) := by omega
      have hjl : j < xs.length := by rw [HL.out]; exact hlt
      obtain ⟨b, o, rfl, hc⟩ := Rws.at_ (Rws.mono HV.out fun _ _ _ h => RAxis.keep h (Keeps.of_below HB.out)) (by rw [HL.out]; omega)
      obtain ⟨x, hx⟩ : ∃ x, xs[j]? = some x := ⟨_, List.getElem?_eq_getElem hjl⟩
      have hE := hc j x hx
      have hxm : x ∈ xs := List.mem_of_getElem? hx
      have HX := Lib.hid hx
      clear hc hx
      obtain ⟨e0, e1, tv, e2, ht⟩ := hE
      obtain ⟨bx, hbx⟩ : ∃ bx, p x = bx := ⟨_, rfl⟩
      have hf := HF.out x hxm
      rw [hbx] at hf
      have HBX := Lib.hid hbx
      have HFX := Lib.hid hf
      clear hxm hbx hf
      go_wp2_with fail
      refine (HFX.out _ _ HB.out ⟨tv, rfl, ht⟩).mono ?_
      rintro e w1 ⟨rfl, hB1⟩
      have HB1 := Lib.hid hB1
      clear hB1
      cases bx with
      | true =>
        go_wp2
        go_ret
        exact ⟨ret_int (idxI_some HP.out HX.out HBX.out).symm, behind HB.out HB1.out⟩
      | false =>
        have HN : Hid ((xs.take (j + 1)).any p = false) := Lib.hid (by
          rw [List.take_add_one, List.any_append, HP.out, HX.out]
          simp [HBX.out])
        go_wp2
        go_roundw
        case rel => exact ⟨j + 1, by go_num, behind HB.out HB1.out, by omega, HN.out⟩
        case measure => simp [intOf]; omega
    · obtain rfl : j = n := by omega
      have hp := HP.out
      rw [List.take_of_length_le (by rw [HL.out]; omega)] at hp
      have HP2 := Lib.hid hp
      clear hp
      go_wp2
      go_ret
      exact ⟨ret_int (idxI_none HP2.out).symm, HB.out⟩


set_option maxHeartbeats 1000000 in
set_option maxRecDepth 100000 in
theorem idx_sym (F : Nat) (caps : Array Value) (p : LSym → Bool) (eF : ∀ args w, (callFunc F args).run Tryz.prog w = .ok (.enter F args) w) (xs : List (LSym)) (v : Value) (w : World) (hv : RSyms w.cell? v xs)
    (hF : ∀ x ∈ xs, ∀ u W, Below w.heap.size w W → (fun _ u x => u = VSym x) W.cell? u x → Calls Tryz.prog F (#[u] ++ caps) W fun e w' => e = .returned (.bool (p x)) ∧ Below W.heap.size W w') :
    Calls Tryz.prog 281 #[v, .func (.func F) #[] caps] w fun e w' => e = .returned (.int .i64 (idxI p xs)) ∧ Below w.heap.size w w' := by
  obtain ⟨A, c, rfl, -, -, hmx⟩ := Rws.shape hv
  have HV := Lib.hid hv
  obtain ⟨n, hn⟩ : ∃ n, xs.length = n := ⟨_, rfl⟩
  rw [hn] at hmx HV ⊢
  have HL := Lib.hid hn
  have HF := Lib.hid hF
  have hn2 : (n : Int) ≤ 1000000 := by omega
  clear hv hn hF
  go_enter Tryz.func281, Tryz.ntmps281
  go_wp2
  go_loopw [8] (fun a8 wr => ∃ j : Nat, a8 = .int .i64 j ∧ Below w.heap.size w wr ∧ j ≤ n ∧ (xs.take j).any p = false) (fun a8 _ => n - (intOf a8).toNat)
  case atStart => exact ⟨0, rfl, Below.refl _ _, by omega, rfl⟩
  case round =>
    obtain ⟨j, rfl, hB, hj, hp⟩ := hrel
    have HP := Lib.hid hp
    have HB := Lib.hid hB
    clear hp hB
    by_cases hlt : j < n
    · have hlt2 : (j : Int) < (n : Int) := by omega
      have hjl : j < xs.length := by rw [HL.out]; exact hlt
      obtain ⟨b, o, rfl, hc⟩ := Rws.at_ (Rws.mono HV.out fun _ _ _ h => ⟨Keeps.of_below HB.out _ _ h.1, Keeps.of_below HB.out _ _ h.2.1, Keeps.of_below HB.out _ _ h.2.2⟩) (by rw [HL.out]; omega)
      obtain ⟨x, hx⟩ : ∃ x, xs[j]? = some x := ⟨_, List.getElem?_eq_getElem hjl⟩
      have hE := hc j x hx
      have hxm : x ∈ xs := List.mem_of_getElem? hx
      have HX := Lib.hid hx
      clear hc hx
      obtain ⟨e0, e1, e2⟩ := hE
      obtain ⟨bx, hbx⟩ : ∃ bx, p x = bx := ⟨_, rfl⟩
      have hf := HF.out x hxm
      rw [hbx] at hf
      have HBX := Lib.hid hbx
      have HFX := Lib.hid hf
      clear hxm hbx hf
      go_wp2_with fail
      refine (HFX.out _ _ HB.out rfl).mono ?_
      rintro e w1 ⟨rfl, hB1⟩
      have HB1 := Lib.hid hB1
      clear hB1
      cases bx with
      | true =>
        go_wp2
        go_ret
        exact ⟨ret_int (idxI_some HP.out HX.out HBX.out).symm, behind HB.out HB1.out⟩
      | false =>
        have HN : Hid ((xs.take (j + 1)).any p = false) := Lib.hid (by
          rw [List.take_add_one, List.any_append, HP.out, HX.out]
          simp [HBX.out])
        go_wp2
        go_roundw
        case rel => exact ⟨j + 1, by go_num, behind HB.out HB1.out, by omega, HN.out⟩
        case measure => simp [intOf]; omega
    · obtain rfl : j = n := by omega
      have hp := HP.out
      rw [List.take_of_length_le (by rw [HL.out]; omega)] at hp
      have HP2 := Lib.hid hp
      clear hp
      go_wp2
      go_ret
      exact ⟨ret_int (idxI_none HP2.out).symm, HB.out⟩


set_option maxHeartbeats 1000000 in
set_option maxRecDepth 100000 in
theorem idx_str (F : Nat) (caps : Array Value) (p : ByteArray → Bool) (eF : ∀ args w, (callFunc F args).run Tryz.prog w = .ok (.enter F args) w) (xs : List (ByteArray)) (v : Value) (w : World) (hv : RStrs w.cell? v xs)
    (hF : ∀ x ∈ xs, ∀ u W, Below w.heap.size w W → (fun _ u x => u = Value.string x) W.cell? u x → Calls Tryz.prog F (#[u] ++ caps) W fun e w' => e = .returned (.bool (p x)) ∧ Below W.heap.size W w') :
    Calls Tryz.prog 284 #[v, .func (.func F) #[] caps] w fun e w' => e = .returned (.int .i64 (idxI p xs)) ∧ Below w.heap.size w w' := by
  obtain ⟨A, c, rfl, -, -, hmx⟩ := Rws.shape hv
  have HV := Lib.hid hv
  obtain ⟨n, hn⟩ : ∃ n, xs.length = n := ⟨_, rfl⟩
  rw [hn] at hmx HV ⊢
  have HL := Lib.hid hn
  have HF := Lib.hid hF
  have hn2 : (n : Int) ≤ 1000000 := by omega
  clear hv hn hF
  go_enter Tryz.func284, Tryz.ntmps284
  go_wp2
  go_loopw [8] (fun a8 wr => ∃ j : Nat, a8 = .int .i64 j ∧ Below w.heap.size w wr ∧ j ≤ n ∧ (xs.take j).any p = false) (fun a8 _ => n - (intOf a8).toNat)
  case atStart => exact ⟨0, rfl, Below.refl _ _, by omega, rfl⟩
  case round =>
    obtain ⟨j, rfl, hB, hj, hp⟩ := hrel
    have HP := Lib.hid hp
    have HB := Lib.hid hB
    clear hp hB
    by_cases hlt : j < n
    · have hlt2 : (j : Int) < (n : Int) := by omega
      have hjl : j < xs.length := by rw [HL.out]; exact hlt
      obtain ⟨b, o, rfl, hc⟩ := Rws.at_ (Rws.mono HV.out fun _ _ _ h => Keeps.of_below HB.out _ _ h) (by rw [HL.out]; omega)
      obtain ⟨x, hx⟩ : ∃ x, xs[j]? = some x := ⟨_, List.getElem?_eq_getElem hjl⟩
      have hE := hc j x hx
      rw [Nat.mul_one] at hE
      have hxm : x ∈ xs := List.mem_of_getElem? hx
      have HX := Lib.hid hx
      clear hc hx
      have e0 : _ = _ := hE
      obtain ⟨bx, hbx⟩ : ∃ bx, p x = bx := ⟨_, rfl⟩
      have hf := HF.out x hxm
      rw [hbx] at hf
      have HBX := Lib.hid hbx
      have HFX := Lib.hid hf
      clear hxm hbx hf
      go_wp2_with fail
      refine (HFX.out _ _ HB.out rfl).mono ?_
      rintro e w1 ⟨rfl, hB1⟩
      have HB1 := Lib.hid hB1
      clear hB1
      cases bx with
      | true =>
        go_wp2
        go_ret
        exact ⟨ret_int (idxI_some HP.out HX.out HBX.out).symm, behind HB.out HB1.out⟩
      | false =>
        have HN : Hid ((xs.take (j + 1)).any p = false) := Lib.hid (by
          rw [List.take_add_one, List.any_append, HP.out, HX.out]
          simp [HBX.out])
        go_wp2
        go_roundw
        case rel => exact ⟨j + 1, by go_num, behind HB.out HB1.out, by omega, HN.out⟩
        case measure => simp [intOf]; omega
    · obtain rfl : j = n := by omega
      have hp := HP.out
      rw [List.take_of_length_le (by rw [HL.out]; omega)] at hp
      have HP2 := Lib.hid hp
      clear hp
      go_wp2
      go_ret
      exact ⟨ret_int (idxI_none HP2.out).symm, HB.out⟩


set_option maxHeartbeats 1000000 in
set_option maxRecDepth 100000 in
theorem idx_int (F : Nat) (caps : Array Value) (p : Int → Bool) (eF : ∀ args w, (callFunc F args).run Tryz.prog w = .ok (.enter F args) w) (xs : List (Int)) (v : Value) (w : World) (hv : RInts w.cell? v xs)
    (hF : ∀ x ∈ xs, ∀ u W, Below w.heap.size w W → (fun _ u x => u = Value.int .i64 x) W.cell? u x → Calls Tryz.prog F (#[u] ++ caps) W fun e w' => e = .returned (.bool (p x)) ∧ Below W.heap.size W w') :
    Calls Tryz.prog 58 #[v, .func (.func F) #[] caps] w fun e w' => e = .returned (.int .i64 (idxI p xs)) ∧ Below w.heap.size w w' := by
  obtain ⟨A, c, rfl, -, -, hmx⟩ := Rws.shape hv
  have HV := Lib.hid hv
  obtain ⟨n, hn⟩ : ∃ n, xs.length = n := ⟨_, rfl⟩
  rw [hn] at hmx HV ⊢
  have HL := Lib.hid hn
  have HF := Lib.hid hF
  have hn2 : (n : Int) ≤ 1000000 := by omega
  clear hv hn hF
  go_enter Tryz.func58, Tryz.ntmps58
  go_wp2
  go_loopw [8] (fun a8 wr => ∃ j : Nat, a8 = .int .i64 j ∧ Below w.heap.size w wr ∧ j ≤ n ∧ (xs.take j).any p = false) (fun a8 _ => n - (intOf a8).toNat)
  case atStart => exact ⟨0, rfl, Below.refl _ _, by omega, rfl⟩
  case round =>
    obtain ⟨j, rfl, hB, hj, hp⟩ := hrel
    have HP := Lib.hid hp
    have HB := Lib.hid hB
    clear hp hB
    by_cases hlt : j < n
    · have hlt2 : (j : Int) < (n : Int) := by omega
      have hjl : j < xs.length := by rw [HL.out]; exact hlt
      obtain ⟨b, o, rfl, hc⟩ := Rws.at_ (Rws.mono HV.out fun _ _ _ h => Keeps.of_below HB.out _ _ h) (by rw [HL.out]; omega)
      obtain ⟨x, hx⟩ : ∃ x, xs[j]? = some x := ⟨_, List.getElem?_eq_getElem hjl⟩
      have hE := hc j x hx
      rw [Nat.mul_one] at hE
      have hxm : x ∈ xs := List.mem_of_getElem? hx
      have HX := Lib.hid hx
      clear hc hx
      have e0 : _ = _ := hE
      obtain ⟨bx, hbx⟩ : ∃ bx, p x = bx := ⟨_, rfl⟩
      have hf := HF.out x hxm
      rw [hbx] at hf
      have HBX := Lib.hid hbx
      have HFX := Lib.hid hf
      clear hxm hbx hf
      go_wp2_with fail
      refine (HFX.out _ _ HB.out rfl).mono ?_
      rintro e w1 ⟨rfl, hB1⟩
      have HB1 := Lib.hid hB1
      clear hB1
      cases bx with
      | true =>
        go_wp2
        go_ret
        exact ⟨ret_int (idxI_some HP.out HX.out HBX.out).symm, behind HB.out HB1.out⟩
      | false =>
        have HN : Hid ((xs.take (j + 1)).any p = false) := Lib.hid (by
          rw [List.take_add_one, List.any_append, HP.out, HX.out]
          simp [HBX.out])
        go_wp2
        go_roundw
        case rel => exact ⟨j + 1, by go_num, behind HB.out HB1.out, by omega, HN.out⟩
        case measure => simp [intOf]; omega
    · obtain rfl : j = n := by omega
      have hp := HP.out
      rw [List.take_of_length_le (by rw [HL.out]; omega)] at hp
      have HP2 := Lib.hid hp
      clear hp
      go_wp2
      go_ret
      exact ⟨ret_int (idxI_none HP2.out).symm, HB.out⟩


theorem has_ax (F : Nat) (caps : Array Value) (p : LAxis → Bool) (eF : ∀ args w, (callFunc F args).run Tryz.prog w = .ok (.enter F args) w) (xs : List (LAxis)) (v : Value) (w : World) (hv : RAxes w.cell? v xs)
    (hF : ∀ x ∈ xs, ∀ u W, Below w.heap.size w W → VAxis W.cell? u x → Calls Tryz.prog F (#[u] ++ caps) W fun e w' => e = .returned (.bool (p x)) ∧ Below W.heap.size W w') :
    Calls Tryz.prog 194 #[v, .func (.func F) #[] caps] w fun e w' => e = .returned (.bool (xs.any p)) ∧ Below w.heap.size w w' := by
  have HI := Lib.hid (idx_ax F caps p eF xs v w hv hF)
  have HD := Lib.hid (idxI_any p xs)
  obtain ⟨z, hz⟩ : ∃ z, idxI p xs = z := ⟨_, rfl⟩
  rw [hz] at HI HD
  clear eF hF hv hz
  go_enter Tryz.func194, Tryz.ntmps194
  go_wp2_with fail
  refine HI.out.mono ?_
  rintro e w1 ⟨rfl, hB⟩
  have HB := Lib.hid hB
  clear hB
  go_wp2
  go_ret
  exact ⟨ret_bool HD.out, HB.out⟩


theorem has_str (F : Nat) (caps : Array Value) (p : ByteArray → Bool) (eF : ∀ args w, (callFunc F args).run Tryz.prog w = .ok (.enter F args) w) (xs : List (ByteArray)) (v : Value) (w : World) (hv : RStrs w.cell? v xs)
    (hF : ∀ x ∈ xs, ∀ u W, Below w.heap.size w W → (fun _ u x => u = Value.string x) W.cell? u x → Calls Tryz.prog F (#[u] ++ caps) W fun e w' => e = .returned (.bool (p x)) ∧ Below W.heap.size W w') :
    Calls Tryz.prog 236 #[v, .func (.func F) #[] caps] w fun e w' => e = .returned (.bool (xs.any p)) ∧ Below w.heap.size w w' := by
  have HI := Lib.hid (idx_str F caps p eF xs v w hv hF)
  have HD := Lib.hid (idxI_any p xs)
  obtain ⟨z, hz⟩ : ∃ z, idxI p xs = z := ⟨_, rfl⟩
  rw [hz] at HI HD
  clear eF hF hv hz
  go_enter Tryz.func236, Tryz.ntmps236
  go_wp2_with fail
  refine HI.out.mono ?_
  rintro e w1 ⟨rfl, hB⟩
  have HB := Lib.hid hB
  clear hB
  go_wp2
  go_ret
  exact ⟨ret_bool HD.out, HB.out⟩


theorem has_int (F : Nat) (caps : Array Value) (p : Int → Bool) (eF : ∀ args w, (callFunc F args).run Tryz.prog w = .ok (.enter F args) w) (xs : List (Int)) (v : Value) (w : World) (hv : RInts w.cell? v xs)
    (hF : ∀ x ∈ xs, ∀ u W, Below w.heap.size w W → (fun _ u x => u = Value.int .i64 x) W.cell? u x → Calls Tryz.prog F (#[u] ++ caps) W fun e w' => e = .returned (.bool (p x)) ∧ Below W.heap.size W w') :
    Calls Tryz.prog 31 #[v, .func (.func F) #[] caps] w fun e w' => e = .returned (.bool (xs.any p)) ∧ Below w.heap.size w w' := by
  have HI := Lib.hid (idx_int F caps p eF xs v w hv hF)
  have HD := Lib.hid (idxI_any p xs)
  obtain ⟨z, hz⟩ : ∃ z, idxI p xs = z := ⟨_, rfl⟩
  rw [hz] at HI HD
  clear eF hF hv hz
  go_enter Tryz.func31, Tryz.ntmps31
  go_wp2_with fail
  refine HI.out.mono ?_
  rintro e w1 ⟨rfl, hB⟩
  have HB := Lib.hid hB
  clear hB
  go_wp2
  go_ret
  exact ⟨ret_bool HD.out, HB.out⟩


end Go.Proofs.YtneabpgphjcbkaaGreatDoor
