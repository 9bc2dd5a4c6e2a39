/-
  Frames: all but some blocks is as it was. Laws on rows of elements of k cells: copy, clear, store.
-/
import Derived.Test.YtneabpgphjcbkaaGreatDoorGt
import Derived.Laws.CopyRow
import Derived.Laws.CopyOwn
import Derived.Lib.SliceRun
namespace Go.Proofs.YtneabpgphjcbkaaGreatDoor
open Go.RowKit

/-- all blocks but those of S are as they were -/
structure Frm (S : Nat → Bool) (w w' : World) : Prop where
  os : w'.os = w.os
  tape : w'.tape = w.tape
  output : w'.output = w.output
  size : w.heap.size ≤ w'.heap.size
  block : ∀ k, k < w.heap.size → S k = false → w'.heap[k]? = w.heap[k]?
def orB (S S' : Nat → Bool) : Nat → Bool := fun b => S b || S' b
def isB (g : Nat) : Nat → Bool := fun b => decide (b = g)
def rowB (v : Value) : Nat → Bool := fun b => decide (v.ownBlock = some b)
theorem orB_false {S S' : Nat → Bool} {b : Nat} : orB S S' b = false ↔ S b = false ∧ S' b = false := by simp [orB]
theorem isB_false {g b : Nat} : isB g b = false ↔ b ≠ g := by simp [isB]
theorem rowB_false {v : Value} {b : Nat} : rowB v b = false ↔ v.ownBlock ≠ some b := by simp [rowB]
section
variable {S S' : Nat → Bool} {a w w' : World}
theorem Frm.refl (S : Nat → Bool) (w : World) : Frm S w w := ⟨rfl, rfl, rfl, Nat.le_refl _, fun _ _ _ => rfl⟩
theorem Frm.trans (h : Frm S a w) (k : Frm S' w w') (hS : ∀ b, b < a.heap.size → S b = false → S' b = false) : Frm S a w' :=
  ⟨k.os.trans h.os, k.tape.trans h.tape, k.output.trans h.output, Nat.le_trans h.size k.size, fun b hb hs => (k.block b (Nat.lt_of_lt_of_le hb h.size) (hS b hb hs)).trans (h.block b hb hs)⟩
theorem Frm.mono (h : Frm S w w') (hS : ∀ b, b < w.heap.size → S' b = false → S b = false) : Frm S' w w' := ⟨h.os, h.tape, h.output, h.size, fun b hb hs => h.block b hb (hS b hb hs)⟩
theorem Frm.of_below (h : Below w.heap.size w w') : Frm S w w' := ⟨h.os, h.tape, h.output, h.size, fun b hb _ => h.block b hb⟩
theorem Frm.of_low {B : Nat} (h : Below B w w') (hS : ∀ b, b < w.heap.size → S b = false → b < B) : Frm S w w' := ⟨h.os, h.tape, h.output, h.size, fun b hb hs => h.block b (hS b hb hs)⟩
theorem Frm.of_grown {v : Value} (h : w.grownBy w' v.ownBlock) : Frm (rowB v) w w' := ⟨h.os, h.tape, h.output, h.size, fun b hb hs => h.block b hb fun e => rowB_false.1 hs e.symm⟩
theorem Frm.below (h : Frm S w w') {B : Nat} (hB : B ≤ w.heap.size) (hS : ∀ b, b < B → S b = false) : Below B w w' := ⟨h.os, h.tape, h.output, h.size, fun b hb => h.block b (Nat.lt_of_lt_of_le hb hB) (hS b hb)⟩
theorem Frm.alloc (h : Frm S a w) (o : Obj) : Frm S a (w.alloc o) := h.trans (Frm.of_below ((Below.refl _ w).alloc (Nat.le_refl _) o)) fun _ _ h => h
theorem Frm.drewN (h : Frm S a w) (n : Nat) : Frm S a (w.drewN n) := ⟨h.os, h.tape, h.output, h.size, h.block⟩
theorem Frm.drew (h : Frm S a w) : Frm S a w.drew := ⟨h.os, h.tape, h.output, h.size, h.block⟩
theorem Frm.set (h : Frm S a w) {p : Addr} (hp : p.block < a.heap.size → S p.block = true) (u : Value) : Frm S a (w.setCell p u) :=
  ⟨h.os, h.tape, h.output, by simpa [World.setCell] using h.size, fun b hb hs => (Below.heap_setCell w p u b (by rintro rfl; rw [hp hb] at hs; cases hs)).trans (h.block b hb hs)⟩
theorem Frm.cell (h : Frm S w w') {p : Addr} {u : Value} (hu : w.cell? p = some u) (hp : S p.block = false) : w'.cell? p = some u :=
  (World.cell?_of_block (w := w) (h.block p.block (World.block_lt_of_cell? w p hu) hp)).trans hu
theorem Frm.bk (h : Frm S w w') {g : Nat} {t : TypeId} {cs : Array Value} (hg : Bk w g t cs) (hs : S g = false) : Bk w' g t cs := (h.block g hg.lt hs).trans hg
theorem Frm.keeps (h : Frm S w w') (hS : ∀ b, b < w.heap.size → S b = false → S' b = false) : Keeps (offB w S) (offB w' S') :=
  Keeps.off_mono fun p _ hp hu => ⟨hS _ (World.block_lt_of_cell? w p hu) hp, h.cell hu hp⟩
theorem Frm.own (h : Frm S w w') {base : Nat} {e : TypeId} {k : Nat} {v : Value} {n : Nat} {cs : List Value} (ho : w.ownsRow base e k v n cs) (hs : ∀ b, v.ownBlock = some b → S b = false) : w'.ownsRow base e k v n cs := by
  obtain ⟨h1, h2⟩ := ho
  refine ⟨h1, ?_⟩
  rcases h2 with h2 | ⟨g, cap, cur, rfl, hg, hh, r⟩
  · exact .inl h2
  · exact .inr ⟨g, cap, cur, rfl, hg, (h.block g (Array.getElem?_eq_some_iff.1 hh).1 (hs g rfl)).trans hh, r⟩
theorem Frm.ow {α : Type} {k : Nat} {R : Cl → Nat → Nat → α → Prop} {E : Cl → List Value → α → Prop} (L : Cells k R E) {T : TypeId} {C C' : Cl} {base : Nat} {v : Value} {xs : List α} (h : Frm S w w') (ho : Ow k E T w C base v xs) (hs : ∀ b, v.ownBlock = some b → S b = false) (hk : Keeps C C') : Ow k E T w' C' base v xs := by
  obtain ⟨cs, h1, h2, h3⟩ := ho
  exact ⟨cs, h.own h1 hs, h2.keep L hk, h3⟩
end
/-- a smaller base, a shorter row -/
theorem Ow.base {α : Type} {k : Nat} {E : Cl → List Value → α → Prop} {T : TypeId} {w : World} {C : Cl} {base base' : Nat} {v : Value} {xs : List α} (h : Ow k E T w C base v xs) (hb : base' ≤ base) : Ow k E T w C base' v xs := by
  obtain ⟨cs, ⟨h1, h2⟩, h3, h4⟩ := h
  refine ⟨cs, ⟨h1, ?_⟩, h3, h4⟩
  rcases h2 with h2 | ⟨g, cap, cur, hv, hg, r⟩
  · exact .inl h2
  · exact .inr ⟨g, cap, cur, hv, Nat.le_trans hb hg, r⟩
theorem Ow.cut {α : Type} {k : Nat} {E : Cl → List Value → α → Prop} {T : TypeId} {w : World} {C : Cl} {base : Nat} {g n cap : Nat} {xs : List α} (h : Ow k E T w C base (.slice (some ⟨g, 0, none⟩) n cap) xs) {m : Nat} (hm : m ≤ n) : Ow k E T w C base (.slice (some ⟨g, 0, none⟩) m cap) (xs.take m) := by
  obtain ⟨cs, ⟨h1, h2⟩, h3, h4⟩ := h
  rcases h2 with ⟨h2, -⟩ | ⟨g', cap', cur, hv, hg, hh, h5, h6, h7, h8⟩
  · cases h2
  · injection hv with hv1 hv2 hv3
    subst hv2 hv3
    have hl : (xs.take m).length = m := by rw [List.length_take]; omega
    refine ⟨cs.take (m * k), ⟨?_, .inr ⟨g', cap, cur, ?_, hg, hh, by omega, h6, h7, ?_⟩⟩, h3.take m, by omega⟩
    · rw [hl, List.length_take, h1]; exact Nat.min_eq_left (Nat.mul_le_mul_right k hm)
    · rw [hl, hv1]
    · rw [hl, ← h8, List.take_take, Nat.min_eq_left (Nat.mul_le_mul_right k hm)]
/-- the block of a row that is not empty -/
theorem Ow.row {α : Type} {k : Nat} {E : Cl → List Value → α → Prop} {T : TypeId} {w : World} {C : Cl} {base : Nat} {v : Value} {xs : List α} (h : Ow k E T w C base v xs) (h0 : 0 < xs.length) :
    ∃ g cap cur cs, v = .slice (some ⟨g, 0, none⟩) xs.length cap ∧ base ≤ g ∧ Bk w g T cur ∧ xs.length ≤ cap ∧ cap ≤ maxLen ∧ cur.size = cap * k ∧ cur.toList.take (xs.length * k) = cs ∧ Enc k E C cs xs := by
  obtain ⟨cs, ⟨h1, h2⟩, h3, h4⟩ := h
  rcases h2 with ⟨-, h2⟩ | ⟨g, cap, cur, hv, hg, hh, h5, h6, h7, h8⟩
  · omega
  · exact ⟨g, cap, cur, cs, hv, hg, hh, h5, h6, h7, h8, h3⟩
theorem Ow.of_row {α : Type} {k : Nat} {E : Cl → List Value → α → Prop} {T : TypeId} {w : World} {C : Cl} {base g cap n : Nat} {xs : List α} {cur : Array Value} {cs : List Value} (hg : base ≤ g) (hb : Bk w g T cur) (h1 : n ≤ cap) (h2 : cap ≤ maxLen) (h3 : cur.size = cap * k) (h4 : cur.toList.take (n * k) = cs) (h5 : Enc k E C cs xs) (h6 : xs.length = n) (h7 : n ≤ 1000000) :
    Ow k E T w C base (.slice (some ⟨g, 0, none⟩) n cap) xs :=
  ⟨cs, ⟨h5.1, .inr ⟨g, cap, cur, by rw [h6], hg, hb, by rw [h6]; exact h1, h2, h3, by rw [h6]; exact h4⟩⟩, h5, by rw [h6]; exact h7⟩

/-- copy, elements of k cells -/
theorem run_copy_rowk {P : Program} (w : World) (dT sT ty elem : TypeId) (k g o dLen dCap : Nat) (a : Addr) (sLen sCap : Nat) (cur : Array Value) (t : TypeId) (cs : List Value)
    (hu : P.underlying dT = some (.slice elem)) (hs : (P.info? elem).map (·.size) = some k)
    (hg : w.heap[g]? = some (.cells cur t (0, 0))) (hn : cs.length = Nat.min sLen dLen * k)
    (hsrc : ∀ j v, cs[j]? = some v → w.cell? (a.add j) = some v) (hfit : o + cs.length ≤ cur.size) (h1 : ∀ v ∈ cs, v.oneCell' = true) :
    (Builtin.copy_ #[dT, sT] ty #[.slice (some ⟨g, o, none⟩) dLen dCap, .slice (some a) sLen sCap]).run P w =
      .ok (goInt (Nat.min sLen dLen)) (w.setRow g (cur.toList.take o ++ cs ++ cur.toList.drop (o + cs.length)).toArray) := by
  have hl := run_loadCells_list (P := P) w a cs hsrc
  have hst := run_storeCells_at P g o t cs 0 cur w hg (by simpa using hfit) h1
  cases hq : P.info? elem with
  | none => simp [hq] at hs
  | some i =>
    have hi : i.size = k := by simpa [hq] using hs
    simp [Builtin.copy_, run_underlying hu, Builtin.lenOf, Builtin.firstCells, sizeOf, typeInfo, hq, hi, ← hn, hl, hst]
theorem grown_setRow (w : World) (g : Nat) (cs : Array Value) : w.grownBy (w.setRow g cs) (some g) :=
  ⟨rfl, rfl, rfl, by simp [World.setRow], fun k _ hne => setRow_other w g k cs (by rintro rfl; exact hne rfl)⟩
theorem wpList_copy_rowk {P : Program} {w : World} {ops : Array Oper} {rest : List Oper} {o : Oper} {a : Act} {Q : Exit → Act → World → Prop} (hgd : o.guard = none) (d s : Operand) (dT sT : TypeId)
    (ho : o.op = .call { callee := .builtin .copy, args := #[d, s], argTypes := #[dT, sT] }) (elem : TypeId) (k : Nat) (hu : P.underlying dT = some (.slice elem)) (hsz : (P.info? elem).map (·.size) = some k)
    (g off dLen dCap sLen sCap : Nat) (ad : Addr) (hd : a.eval d = .slice (some ⟨g, off, none⟩) dLen dCap) (hs : a.eval s = .slice (some ad) sLen sCap)
    (cur : List Value) (t : TypeId) (hg : w.heap[g]? = some (.cells cur.toArray t (0, 0))) (cs : List Value) (hn : cs.length = Nat.min sLen dLen * k)
    (hsrc : ∀ j v, cs[j]? = some v → w.cell? (ad.add j) = some v) (hfit : off + cs.length ≤ cur.length) (h1 : ∀ v ∈ cs, v.oneCell' = true)
    (h : ∀ w', Hid (w'.heap[g]? = some (.cells (splice cur off cs).toArray t (0, 0))) → Hid (w.grownBy w' (some g)) → wpList P ops Q rest (a.put o.dst (goInt (Nat.min sLen dLen))) w') : wpList P ops Q (o :: rest) a w := by
  refine wpList_plain hgd fun K hK => ?_
  have hrun := run_copy_rowk (P := P) w dT sT o.type elem k g off dLen dCap ad sLen sCap cur.toArray t cs hu hsz hg hn hsrc (by simpa using hfit) h1
  unfold Oper.wp
  simp [execOp, ho, resolve, invoke, builtin, hd, hs, hrun, Result.andThen]
  refine hK _ _ (h _ (Lib.hid ?_) (Lib.hid (grown_setRow _ _ _)))
  simpa [splice] using setRow_heap w g _ _ t _ hg
theorem step_copy_rowk {P : Program} {ops : Array Oper} {o : Oper} {a : Act} {w : World} {K : Act → World → Prop} {Q : Exit → Act → World → Prop} {D : Prop} (hgd : o.guard = none) (d s : Operand) (dT sT : TypeId)
    (ho : o.op = .call { callee := .builtin .copy, args := #[d, s], argTypes := #[dT, sT] }) (elem : TypeId) (k : Nat) (hu : P.underlying dT = some (.slice elem)) (hsz : (P.info? elem).map (·.size) = some k)
    (g off dLen dCap sLen sCap : Nat) (ad : Addr) (hd : a.eval d = .slice (some ⟨g, off, none⟩) dLen dCap) (hs : a.eval s = .slice (some ad) sLen sCap)
    (cur : List Value) (t : TypeId) (hg : w.heap[g]? = some (.cells cur.toArray t (0, 0))) (cs : List Value) (hn : cs.length = Nat.min sLen dLen * k)
    (hsrc : ∀ j v, cs[j]? = some v → w.cell? (ad.add j) = some v) (hfit : off + cs.length ≤ cur.length) (h1 : ∀ v ∈ cs, v.oneCell' = true)
    (h : ∀ w', Hid (w'.heap[g]? = some (.cells (splice cur off cs).toArray t (0, 0))) → Hid (w.grownBy w' (some g)) → K (a.put o.dst (goInt (Nat.min sLen dLen))) w') :
    if Region.wanted o (yielded ops a.tmps) = true then Oper.wp P o a w K Q else D := by
  have hw : Region.wanted o (yielded ops a.tmps) = true := by simp [Region.wanted, hgd]
  rw [if_pos hw]
  have hrun := run_copy_rowk (P := P) w dT sT o.type elem k g off dLen dCap ad sLen sCap cur.toArray t cs hu hsz hg hn hsrc (by simpa using hfit) h1
  unfold Oper.wp
  simp [execOp, ho, resolve, invoke, builtin, hd, hs, hrun, Result.andThen]
  refine h _ (Lib.hid ?_) (Lib.hid (grown_setRow _ _ _))
  simpa [splice] using setRow_heap w g _ _ t _ hg
/-- clear, elements of k cells -/
theorem run_clear_rowk {P : Program} (w : World) (t e ty : TypeId) (z : Value) (ht : P.underlying t = some (.slice e)) (hv : ∀ w, (zeroValue e).run P w = .ok z w) (g o n c : Nat) (cur : Array Value) (T : TypeId)
    (hg : w.heap[g]? = some (.cells cur T (0, 0))) (hn : 0 < n) (hfit : o + (Builtin.zeroCells z.cells n).toList.length ≤ cur.size) (h1 : ∀ v ∈ (Builtin.zeroCells z.cells n).toList, v.oneCell' = true) :
    (Builtin.clear_ #[t] ty #[.slice (some ⟨g, o, none⟩) n c]).run P w = .ok (.tuple #[]) (w.setRow g (splice cur.toList o (Builtin.zeroCells z.cells n).toList).toArray) := by
  have hst := run_storeCells_at P g o T (Builtin.zeroCells z.cells n).toList 0 cur w hg (by simpa using hfit) h1
  obtain ⟨m, rfl⟩ : ∃ m, n = m + 1 := ⟨n - 1, by omega⟩
  simp only [Nat.add_zero] at hst
  simp [Builtin.clear_, run_underlying ht, hv, hst, splice]
end Go.Proofs.YtneabpgphjcbkaaGreatDoor
