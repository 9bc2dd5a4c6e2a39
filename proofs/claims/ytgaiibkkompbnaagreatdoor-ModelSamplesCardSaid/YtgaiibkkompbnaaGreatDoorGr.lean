/-
  Graphs in memory: terms, sizes, axes, symbols, nodes and graphs as rows of cells; what is read is a partial map of cells (all of a world's, or those outside some blocks).
-/
import Derived.Test.YtgaiibkkompbnaaGreatDoorBase
namespace Go.Proofs.YtgaiibkkompbnaaGreatDoor
open Go.RowKit

/-- a further call behind what has turned so far -/
theorem behind {B : Nat} {a w w' : World} (h : Below B a w) (k : Below w.heap.size w w') (hB : B ≤ a.heap.size := by exact Nat.le_refl _) : Below B a w' := h.trans (k.mono (Nat.le_trans hB h.size))

theorem laid {B : Nat} {a w : World} (h : Below B a w) (o : Obj) (hB : B ≤ a.heap.size := by exact Nat.le_refl _) : Below B a (w.alloc o) := h.alloc (Nat.le_trans hB h.size) o
theorem drawn {B : Nat} {a w : World} (h : Below B a w) (q : Nat) : Below B a (w.drewN q) := ⟨h.os, h.tape, h.output, h.size, h.block⟩

/-- a block known whole -/
def Bk (w : World) (g : Nat) (t : TypeId) (cs : Array Value) : Prop := w.heap[g]? = some (.cells cs t (0, 0))
theorem Bk.lt {w : World} {g : Nat} {t : TypeId} {cs : Array Value} (h : Bk w g t cs) : g < w.heap.size := (Array.getElem?_eq_some_iff.1 h).1
theorem Bk.cell {w : World} {g : Nat} {t : TypeId} {cs : Array Value} (h : Bk w g t cs) (i : Nat) : w.cell? ⟨g, i, none⟩ = cs[i]? := cell_of_row w g i cs t (0, 0) h
theorem Bk.frozen {w : World} {g : Nat} {t : TypeId} {cs : Array Value} (h : Bk w g t cs) (i : Nat) : w.frozen? ⟨g, i, none⟩ = false := by
  unfold Bk at h
  simp [World.frozen?, h]
theorem Bk.new (w : World) (t : TypeId) (cs : Array Value) : Bk (w.alloc (.cells cs t)) w.heap.size t cs := heap_alloc_new w _
theorem Bk.below {w w' : World} {g B : Nat} {t : TypeId} {cs : Array Value} (h : Bk w g t cs) (hb : Below B w w') (hg : g < B) : Bk w' g t cs := (hb.block g hg).trans h
theorem Bk.low {w w' : World} {g : Nat} {t : TypeId} {cs : Array Value} (h : Bk w g t cs) (hb : Below w.heap.size w w') : Bk w' g t cs := h.below hb h.lt
theorem Bk.alloc {w : World} {g : Nat} {t : TypeId} {cs : Array Value} (h : Bk w g t cs) (o : Obj) : Bk (w.alloc o) g t cs := (Below.heap_alloc w o g h.lt).trans h
theorem Bk.far {w : World} {g : Nat} {t : TypeId} {cs : Array Value} (h : Bk w g t cs) {p : Addr} (hp : g ≠ p.block) (u : Value) : Bk (w.setCell p u) g t cs := (Below.heap_setCell w p u g hp).trans h
theorem Bk.set {w : World} {g : Nat} {t : TypeId} {cs : Array Value} (h : Bk w g t cs) (i : Nat) (u : Value) : Bk (w.setCell ⟨g, i, none⟩ u) g t (cs.setIfInBounds i u) := by
  unfold Bk at h ⊢
  simp [World.setCell, Array.getElem?_modify, h]

structure LTerm where
  sym : ByteArray
  n : Int
structure LSize where
  base : Int
  terms : List LTerm
structure LAxis where
  name : ByteArray
  size : LSize
structure LSym where
  name : ByteArray
  lo : Int
  hi : Int
structure LNode where
  op : Int
  args : List Int
  name : ByteArray
  axes : List LAxis
  axis : ByteArray
  to : List ByteArray
  lo : Int
  hi : Int
  n : Int
  m : Int
  data : List Int
  subs : List Int
inductive LGraph where
  | mk (name : ByteArray) (syms : List LSym) (nodes : List LNode) (outs : List Int) (subs : List LGraph)

/-- a partial map of cells -/
abbrev Cl := Addr → Option Value
/-- what one map says of cells the other says, too -/
def Keeps (C C' : Cl) : Prop := ∀ p u, C p = some u → C' p = some u
theorem Keeps.refl (C : Cl) : Keeps C C := fun _ _ h => h
theorem Keeps.trans {a b d : Cl} (h : Keeps a b) (k : Keeps b d) : Keeps a d := fun p u e => k p u (h p u e)
theorem Keeps.of_below {w w' : World} (hb : Below w.heap.size w w') : Keeps w.cell? w'.cell? := fun p _ hu => (hb.cell (World.block_lt_of_cell? w p hu)).trans hu
theorem Keeps.alloc (w : World) (o : Obj) : Keeps w.cell? (w.alloc o).cell? := Keeps.of_below ((Below.refl _ w).alloc (Nat.le_refl _) o)
/-- the cells outside some blocks -/
def offB (w : World) (S : Nat → Bool) : Cl := fun p => if S p.block = true then none else w.cell? p
theorem offB_cell {w : World} {S : Nat → Bool} {p : Addr} {u : Value} (h : offB w S p = some u) : w.cell? p = some u := by
  unfold offB at h; split at h
  · cases h
  · exact h
theorem offB_in {w : World} {S : Nat → Bool} {p : Addr} (h : S p.block = false) : offB w S p = w.cell? p := by unfold offB; rw [if_neg (by rw [h]; exact Bool.false_ne_true)]
theorem Keeps.off (w : World) (S : Nat → Bool) : Keeps (offB w S) w.cell? := fun _ _ h => offB_cell h
theorem Keeps.off_mono {w w' : World} {S S' : Nat → Bool} (h : ∀ p u, S p.block = false → w.cell? p = some u → S' p.block = false ∧ w'.cell? p = some u) : Keeps (offB w S) (offB w' S') := by
  intro p u hu
  have h1 := offB_cell hu
  have h2 : S p.block = false := by
    unfold offB at hu; split at hu
    · cases hu
    · rename_i h; simpa using h
  obtain ⟨h3, h4⟩ := h p u h2 h1
  rw [offB_in h3, h4]

/-- a slice of structs of k cells each -/
def Rws (k : Nat) {α : Type} (E : Cl → Nat → Nat → α → Prop) (C : Cl) (v : Value) (xs : List α) : Prop :=
  ∃ A c, v = .slice A xs.length c ∧ xs.length ≤ c ∧ c ≤ maxLen ∧ xs.length ≤ 1000000 ∧ (0 < xs.length → ∃ b o, A = some ⟨b, o, none⟩ ∧ ∀ (i : Nat) x, xs[i]? = some x → E C b (o + i * k) x)
theorem Rws.mono {k : Nat} {α : Type} {E : Cl → Nat → Nat → α → Prop} {C C' : Cl} {v : Value} {xs : List α} (h : Rws k E C v xs) (hE : ∀ b o x, E C b o x → E C' b o x) : Rws k E C' v xs := by
  obtain ⟨A, c, e, h1, h2, h5, h3⟩ := h
  exact ⟨A, c, e, h1, h2, h5, fun h0 => by obtain ⟨b, o, e2, hc⟩ := h3 h0; exact ⟨b, o, e2, fun i x hx => hE _ _ _ (hc i x hx)⟩⟩
theorem Rws.shape {k : Nat} {α : Type} {E : Cl → Nat → Nat → α → Prop} {C : Cl} {v : Value} {xs : List α} (h : Rws k E C v xs) : ∃ A c, v = .slice A xs.length c ∧ xs.length ≤ c ∧ c ≤ maxLen ∧ xs.length ≤ 1000000 := by
  obtain ⟨A, c, e, h1, h2, h5, -⟩ := h; exact ⟨A, c, e, h1, h2, h5⟩
theorem Rws.sl {k : Nat} {α : Type} {E : Cl → Nat → Nat → α → Prop} {C : Cl} {v : Value} {xs : List α} (h : Rws k E C v xs) : ∃ A n c, v = .slice A n c := by
  obtain ⟨A, c, e, -⟩ := h; exact ⟨A, _, c, e⟩
theorem Rws.nil (k : Nat) {α : Type} (E : Cl → Nat → Nat → α → Prop) (C : Cl) : Rws k E C (.slice none 0 0) ([] : List α) :=
  ⟨none, 0, rfl, Nat.le_refl _, by unfold maxLen; omega, Nat.zero_le _, fun h => by simp at h⟩
theorem Rws.at_ {k : Nat} {α : Type} {E : Cl → Nat → Nat → α → Prop} {C : Cl} {A : Option Addr} {n c : Nat} {xs : List α} (h : Rws k E C (.slice A n c) xs) (h0 : 0 < xs.length) : ∃ b o, A = some ⟨b, o, none⟩ ∧ ∀ (i : Nat) x, xs[i]? = some x → E C b (o + i * k) x := by
  obtain ⟨A', c', e, -, -, -, h3⟩ := h
  injection e with e1 e2 e3
  subst e1
  exact h3 h0
theorem Rws.len {k : Nat} {α : Type} {E : Cl → Nat → Nat → α → Prop} {C : Cl} {A : Option Addr} {n c : Nat} {xs : List α} (h : Rws k E C (.slice A n c) xs) : n = xs.length := by
  obtain ⟨A', c', e, -⟩ := h
  injection e
/-- a cut of a slice -/
theorem Rws.cut {k : Nat} {α : Type} {E : Cl → Nat → Nat → α → Prop} {C : Cl} {b o n c : Nat} {xs : List α} (h : Rws k E C (.slice (some ⟨b, o, none⟩) n c) xs) (i j : Nat) (hij : i ≤ j) (hj : j ≤ n) :
    Rws k E C (.slice (some ⟨b, o + i * k, none⟩) (j - i) (c - i)) ((xs.take j).drop i) := by
  have hn := h.len
  obtain ⟨A', c', e, h1, h2, h5, h3⟩ := h
  injection e with e1 e2 e3
  subst e1 e3
  have hl : ((xs.take j).drop i).length = j - i := by simp; omega
  refine ⟨some ⟨b, o + i * k, none⟩, c - i, by rw [hl], by rw [hl]; omega, by omega, by rw [hl]; omega, fun h0 => ⟨b, o + i * k, rfl, fun t x hx => ?_⟩⟩
  obtain ⟨b', o', e, h4⟩ := h3 (by omega)
  injection e with e
  injection e with e1 e2
  subst e1 e2
  have ht : t < j - i := by
    have := (List.getElem?_eq_some_iff.1 hx).1
    omega
  rw [List.getElem?_drop, List.getElem?_take_of_lt (by omega)] at hx
  have := h4 _ _ hx
  rwa [Nat.add_mul, ← Nat.add_assoc] at this

def RInt (C : Cl) (b o : Nat) (x : Int) : Prop := C ⟨b, o, none⟩ = some (.int .i64 x)
def RBool (C : Cl) (b o : Nat) (x : Bool) : Prop := C ⟨b, o, none⟩ = some (.bool x)
def RStr (C : Cl) (b o : Nat) (x : ByteArray) : Prop := C ⟨b, o, none⟩ = some (.string x)
def RInts (C : Cl) (v : Value) (xs : List Int) : Prop := Rws 1 RInt C v xs
def RBools (C : Cl) (v : Value) (xs : List Bool) : Prop := Rws 1 RBool C v xs
def RStrs (C : Cl) (v : Value) (xs : List ByteArray) : Prop := Rws 1 RStr C v xs
def RTerm (C : Cl) (b o : Nat) (t : LTerm) : Prop := C ⟨b, o, none⟩ = some (.string t.sym) ∧ C ⟨b, o + 1, none⟩ = some (.int .i64 t.n)
def RTerms (C : Cl) (v : Value) (xs : List LTerm) : Prop := Rws 2 RTerm C v xs
def RSym (C : Cl) (b o : Nat) (s : LSym) : Prop := C ⟨b, o, none⟩ = some (.string s.name) ∧ C ⟨b, o + 1, none⟩ = some (.int .i64 s.lo) ∧ C ⟨b, o + 2, none⟩ = some (.int .i64 s.hi)
def RSyms (C : Cl) (v : Value) (xs : List LSym) : Prop := Rws 3 RSym C v xs
def RAxis (C : Cl) (b o : Nat) (x : LAxis) : Prop := C ⟨b, o, none⟩ = some (.string x.name) ∧ C ⟨b, o + 1, none⟩ = some (.int .i64 x.size.base) ∧ ∃ tv, C ⟨b, o + 2, none⟩ = some tv ∧ RTerms C tv x.size.terms
def RAxes (C : Cl) (v : Value) (xs : List LAxis) : Prop := Rws 3 RAxis C v xs
/-- a slice of shapes -/
def RShape (C : Cl) (b o : Nat) (x : List LAxis) : Prop := ∃ v, C ⟨b, o, none⟩ = some v ∧ RAxes C v x
def RShapes (C : Cl) (v : Value) (xs : List (List LAxis)) : Prop := Rws 1 RShape C v xs
/-- a term, a size, an axis, a symbol as a value -/
def VTerm (x : LTerm) : Value := .agg #[.string x.sym, .int .i64 x.n]
def VSym (x : LSym) : Value := .agg #[.string x.name, .int .i64 x.lo, .int .i64 x.hi]
def VSize (C : Cl) (v : Value) (s : LSize) : Prop := ∃ tv, v = .agg #[.int .i64 s.base, tv] ∧ RTerms C tv s.terms
def VAxis (C : Cl) (v : Value) (x : LAxis) : Prop := ∃ tv, v = .agg #[.string x.name, .int .i64 x.size.base, tv] ∧ RTerms C tv x.size.terms
def RNode (C : Cl) (b o : Nat) (x : LNode) : Prop := ∃ v1 v3 v5 v10 v11,
  (C ⟨b, o, none⟩ = some (.int .i64 x.op) ∧ C ⟨b, o + 1, none⟩ = some v1 ∧ C ⟨b, o + 2, none⟩ = some (.string x.name) ∧ C ⟨b, o + 3, none⟩ = some v3 ∧
    C ⟨b, o + 4, none⟩ = some (.string x.axis) ∧ C ⟨b, o + 5, none⟩ = some v5 ∧ C ⟨b, o + 6, none⟩ = some (.int .i64 x.lo) ∧ C ⟨b, o + 7, none⟩ = some (.int .i64 x.hi) ∧
    C ⟨b, o + 8, none⟩ = some (.int .i64 x.n) ∧ C ⟨b, o + 9, none⟩ = some (.int .i64 x.m) ∧ C ⟨b, o + 10, none⟩ = some v10 ∧ C ⟨b, o + 11, none⟩ = some v11) ∧
  RInts C v1 x.args ∧ RAxes C v3 x.axes ∧ RStrs C v5 x.to ∧ RInts C v10 x.data ∧ RInts C v11 x.subs
def VNode (C : Cl) (v : Value) (x : LNode) : Prop := ∃ v1 v3 v5 v10 v11,
  v = .agg #[.int .i64 x.op, v1, .string x.name, v3, .string x.axis, v5, .int .i64 x.lo, .int .i64 x.hi, .int .i64 x.n, .int .i64 x.m, v10, v11] ∧
  RInts C v1 x.args ∧ RAxes C v3 x.axes ∧ RStrs C v5 x.to ∧ RInts C v10 x.data ∧ RInts C v11 x.subs
def RNodes (C : Cl) (v : Value) (xs : List LNode) : Prop := Rws 12 RNode C v xs
/-- a graph of at most so many levels -/
def RGraph : Nat → Cl → Nat → Nat → LGraph → Prop
  | 0, _, _, _, _ => False
  | d + 1, C, b, o, .mk name syms nodes outs subs => ∃ v1 v2 v3 v4,
    (C ⟨b, o, none⟩ = some (.string name) ∧ C ⟨b, o + 1, none⟩ = some v1 ∧ C ⟨b, o + 2, none⟩ = some v2 ∧ C ⟨b, o + 3, none⟩ = some v3 ∧ C ⟨b, o + 4, none⟩ = some v4) ∧
    RSyms C v1 syms ∧ RNodes C v2 nodes ∧ RInts C v3 outs ∧ Rws 5 (RGraph d) C v4 subs
def RGraphs (d : Nat) (C : Cl) (v : Value) (xs : List LGraph) : Prop := Rws 5 (RGraph d) C v xs
def VGraph (d : Nat) (C : Cl) (v : Value) : LGraph → Prop
  | .mk name syms nodes outs subs => ∃ v1 v2 v3 v4, v = .agg #[.string name, v1, v2, v3, v4] ∧ RSyms C v1 syms ∧ RNodes C v2 nodes ∧ RInts C v3 outs ∧ RGraphs d C v4 subs

theorem RTerms.keep {C C' : Cl} {v : Value} {xs : List LTerm} (h : RTerms C v xs) (k : Keeps C C') : RTerms C' v xs := Rws.mono h fun _ _ _ ⟨h1, h2⟩ => ⟨k _ _ h1, k _ _ h2⟩
theorem RSyms.keep {C C' : Cl} {v : Value} {xs : List LSym} (h : RSyms C v xs) (k : Keeps C C') : RSyms C' v xs := Rws.mono h fun _ _ _ ⟨h1, h2, h3⟩ => ⟨k _ _ h1, k _ _ h2, k _ _ h3⟩
theorem RInts.keep {C C' : Cl} {v : Value} {xs : List Int} (h : RInts C v xs) (k : Keeps C C') : RInts C' v xs := Rws.mono h fun _ _ _ h1 => k _ _ h1
theorem RBools.keep {C C' : Cl} {v : Value} {xs : List Bool} (h : RBools C v xs) (k : Keeps C C') : RBools C' v xs := Rws.mono h fun _ _ _ h1 => k _ _ h1
theorem RStrs.keep {C C' : Cl} {v : Value} {xs : List ByteArray} (h : RStrs C v xs) (k : Keeps C C') : RStrs C' v xs := Rws.mono h fun _ _ _ h1 => k _ _ h1
theorem RAxis.keep {C C' : Cl} {b o : Nat} {x : LAxis} (h : RAxis C b o x) (k : Keeps C C') : RAxis C' b o x := by
  obtain ⟨h1, h2, tv, h3, h4⟩ := h
  exact ⟨k _ _ h1, k _ _ h2, tv, k _ _ h3, h4.keep k⟩
theorem RAxes.keep {C C' : Cl} {v : Value} {xs : List LAxis} (h : RAxes C v xs) (k : Keeps C C') : RAxes C' v xs := Rws.mono h fun _ _ _ h => h.keep k
theorem RShapes.keep {C C' : Cl} {v : Value} {xs : List (List LAxis)} (h : RShapes C v xs) (k : Keeps C C') : RShapes C' v xs := Rws.mono h fun _ _ _ ⟨v, h1, h2⟩ => ⟨v, k _ _ h1, h2.keep k⟩
theorem VSize.keep {C C' : Cl} {v : Value} {x : LSize} (h : VSize C v x) (k : Keeps C C') : VSize C' v x := by obtain ⟨tv, e, h⟩ := h; exact ⟨tv, e, h.keep k⟩
theorem VAxis.keep {C C' : Cl} {v : Value} {x : LAxis} (h : VAxis C v x) (k : Keeps C C') : VAxis C' v x := by obtain ⟨tv, e, h⟩ := h; exact ⟨tv, e, h.keep k⟩
theorem RNode.keep {C C' : Cl} {b o : Nat} {x : LNode} (h : RNode C b o x) (k : Keeps C C') : RNode C' b o x := by
  obtain ⟨v1, v3, v5, v10, v11, ⟨c0, c1, c2, c3, c4, c5, c6, c7, c8, c9, c10, c11⟩, h1, h3, h5, h10, h11⟩ := h
  exact ⟨v1, v3, v5, v10, v11, ⟨k _ _ c0, k _ _ c1, k _ _ c2, k _ _ c3, k _ _ c4, k _ _ c5, k _ _ c6, k _ _ c7, k _ _ c8, k _ _ c9, k _ _ c10, k _ _ c11⟩, h1.keep k, h3.keep k, h5.keep k, h10.keep k, h11.keep k⟩
theorem VNode.keep {C C' : Cl} {v : Value} {x : LNode} (h : VNode C v x) (k : Keeps C C') : VNode C' v x := by
  obtain ⟨v1, v3, v5, v10, v11, e, h1, h3, h5, h10, h11⟩ := h
  exact ⟨v1, v3, v5, v10, v11, e, h1.keep k, h3.keep k, h5.keep k, h10.keep k, h11.keep k⟩
theorem RNodes.keep {C C' : Cl} {v : Value} {xs : List LNode} (h : RNodes C v xs) (k : Keeps C C') : RNodes C' v xs := Rws.mono h fun _ _ _ h1 => h1.keep k
theorem RGraph.keep : ∀ {d : Nat} {C C' : Cl} {b o : Nat} {g : LGraph}, RGraph d C b o g → Keeps C C' → RGraph d C' b o g
  | 0, _, _, _, _, _, h, _ => h.elim
  | d + 1, _, _, _, _, .mk _ _ _ _ _, h, k => by
    obtain ⟨v1, v2, v3, v4, ⟨c0, c1, c2, c3, c4⟩, h1, h2, h3, h4⟩ := h
    exact ⟨v1, v2, v3, v4, ⟨k _ _ c0, k _ _ c1, k _ _ c2, k _ _ c3, k _ _ c4⟩, h1.keep k, h2.keep k, h3.keep k, Rws.mono h4 fun _ _ _ hg => RGraph.keep hg k⟩
theorem RGraphs.keep {d : Nat} {C C' : Cl} {v : Value} {xs : List LGraph} (h : RGraphs d C v xs) (k : Keeps C C') : RGraphs d C' v xs := Rws.mono h fun _ _ _ hg => hg.keep k
theorem VGraph.keep {d : Nat} {C C' : Cl} {v : Value} {g : LGraph} (h : VGraph d C v g) (k : Keeps C C') : VGraph d C' v g := by
  obtain ⟨name, syms, nodes, outs, subs⟩ := g
  obtain ⟨v1, v2, v3, v4, e, h1, h2, h3, h4⟩ := h
  exact ⟨v1, v2, v3, v4, e, h1.keep k, h2.keep k, h3.keep k, h4.keep k⟩
end Go.Proofs.YtgaiibkkompbnaaGreatDoor
