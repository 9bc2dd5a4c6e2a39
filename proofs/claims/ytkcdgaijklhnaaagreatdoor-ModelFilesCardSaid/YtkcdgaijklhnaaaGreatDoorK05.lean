/-
  Owned rows and sums of terms.
  slices.Clone, for several types of elements.
  Frames: all but some blocks is as it was. Laws on rows of elements of k cells: copy, clear, store.
  Equal and EqualFunc.
  Equal sizes, equal axes, equal shapes.
  An axis by its name, a symbol by its name.
  Copies of sizes and axes; rows appended.
  slices.Grow (of nil) and slices.Concat, for whole numbers.
  The models: Make, Check by hand, and what a drawn model keeps to.
-/
import Derived.Test.YtkcdgaijklhnaaaGreatDoorK01
import Derived.Deep.AppendLies
import Derived.Lib.SliceRun
import Derived.Laws.CopyRow
import Derived.Laws.CopyOwn
import Derived.Laws.StructEq
import Derived.BigQuiet
import Derived.Deep.QuietTactic
import Derived.Deep.RegionHeld3
import Derived.Lib.AppendZeros
import Derived.Laws.Append
namespace Go.Proofs.YtkcdgaijklhnaaaGreatDoor
open Go.RowKit
def Enc {α : Type} (k : Nat) (E : Cl → List Value → α → Prop) (C : Cl) (cs : List Value) (xs : List α) : Prop :=
 cs.length = xs.length * k ∧ ∀ (i : Nat) x, xs[i]? = some x → E C ((cs.drop (i * k)).take k) x
structure Cells {α : Type} (k : Nat) (R : Cl → Nat → Nat → α → Prop) (E : Cl → List Value → α → Prop) : Prop where
 pos : 0 < k
 down : ∀ {C b o x}, R C b o x → ∃ cs : List Value, cs.length = k ∧ E C cs x ∧ ∀ (i : Nat) u, cs[i]? = some u → C ⟨b, o + i, none⟩ = some u
 up : ∀ {C b o x} {cs : List Value}, E C cs x → (∀ (i : Nat) u, cs[i]? = some u → C ⟨b, o + i, none⟩ = some u) → R C b o x
 keep : ∀ {C C' cs x}, E C cs x → Keeps C C' → E C' cs x
 one : ∀ {C cs x}, E C cs x → ∀ u ∈ cs, u.oneCell' = true
 len : ∀ {C cs x}, E C cs x → cs.length = k
section
variable {α : Type} {k : Nat} {R : Cl → Nat → Nat → α → Prop} {E : Cl → List Value → α → Prop}
theorem Enc.nil (k : Nat) (E : Cl → List Value → α → Prop) (C : Cl) : Enc k E C [] ([] : List α) := ⟨by simp, fun i x hx => by simp at hx⟩
theorem Enc.keep (L : Cells k R E) {C C' : Cl} {cs : List Value} {xs : List α} (h : Enc k E C cs xs) (hk : Keeps C C') : Enc k E C' cs xs := ⟨h.1, fun i x hx => L.keep (h.2 i x hx) hk⟩
theorem Enc.append {C : Cl} {cs ds : List Value} {xs ys : List α} (h : Enc k E C cs xs) (h' : Enc k E C ds ys) : Enc k E C (cs ++ ds) (xs ++ ys) := by
 refine ⟨by rw [List.length_append, List.length_append, h.1, h'.1, Nat.add_mul], fun i x hx => ?_⟩
 by_cases hi : i < xs.length
 ·rw [List.getElem?_append_left hi] at hx
  have h2 := h.2 i x hx
  have h3 : i * k + k ≤ cs.length := by rw [h.1, ← Nat.succ_mul]; exact Nat.mul_le_mul_right k hi
  rwa [List.drop_append_of_le_length (by omega), List.take_append_of_le_length (by rw [List.length_drop]; omega)]
 ·rw [List.getElem?_append_right (by omega)] at hx
  have h2 := h'.2 _ x hx
  have h3 : i * k - cs.length = (i - xs.length) * k := by rw [h.1, Nat.sub_mul]
  rw [List.drop_append, List.drop_of_length_le (by rw [h.1]; exact Nat.mul_le_mul_right k (by omega)), List.nil_append, h3]
  exact h2
theorem Enc.single (L : Cells k R E) {C : Cl} {cs : List Value} {x : α} (h : E C cs x) : Enc k E C cs [x] := by
 refine ⟨by rw [L.len h]; simp, fun i y hy => ?_⟩
 cases i with
 | zero =>
  simp at hy; subst hy
  rw [Nat.zero_mul, List.drop_zero, List.take_of_length_le (by rw [L.len h]; exact Nat.le_refl _)]
  exact h
 | succ i => simp at hy
theorem Enc.one (L : Cells k R E) {C : Cl} {cs : List Value} {xs : List α} (h : Enc k E C cs xs) : ∀ u ∈ cs, u.oneCell' = true := by
 intro u hu
 obtain ⟨j, hj⟩ := List.getElem?_of_mem hu
 have hjl := (List.getElem?_eq_some_iff.1 hj).1
 rw [h.1] at hjl
 have hq : j / k < xs.length := by rw [Nat.div_lt_iff_lt_mul L.pos]; exact hjl
 have h2 := h.2 (j / k) _ (List.getElem?_eq_getElem hq)
 refine L.one h2 u (List.mem_of_getElem? (i := j % k) ?_)
 rw [List.getElem?_take_of_lt (Nat.mod_lt _ L.pos), List.getElem?_drop, Nat.div_add_mod']
 exact hj
theorem Enc.take {C : Cl} {cs : List Value} {xs : List α} (h : Enc k E C cs xs) (m : Nat) : Enc k E C (cs.take (m * k)) (xs.take m) := by
 refine ⟨?_, fun i x hx => ?_⟩
 ·rw [List.length_take, List.length_take, h.1, ← Nat.mul_min_mul_right]
 ·have hi : i < m := by
   have := (List.getElem?_eq_some_iff.1 hx).1
   rw [List.length_take] at this; omega
  rw [List.getElem?_take_of_lt hi] at hx
  have h2 := h.2 i x hx
  have h3 : i * k + k ≤ m * k := by rw [← Nat.succ_mul]; exact Nat.mul_le_mul_right k hi
  rw [List.drop_take, List.take_take, Nat.min_eq_left (by omega)]
  exact h2
theorem Enc.drop {C : Cl} {cs : List Value} {xs : List α} (h : Enc k E C cs xs) (m : Nat) : Enc k E C (cs.drop (m * k)) (xs.drop m) := by
 refine ⟨by rw [List.length_drop, List.length_drop, h.1, Nat.sub_mul], fun i x hx => ?_⟩
 rw [List.getElem?_drop] at hx
 have h2 := h.2 _ x hx
 rw [List.drop_drop, ← Nat.add_mul]
 exact h2
theorem Rws.cells (L : Cells k R E) {C : Cl} {v : Value} {xs : List α} (h : Rws k R C v xs) : ∃ cs, Enc k E C cs xs ∧ ∃ A c, v = .slice A xs.length c ∧ xs.length ≤ c ∧ c ≤ maxLen ∧ xs.length ≤ 1000000 ∧
  (0 < xs.length → ∃ b o, A = some ⟨b, o, none⟩ ∧ ∀ (j : Nat) u, cs[j]? = some u → C ⟨b, o + j, none⟩ = some u) := by
 obtain ⟨A, c, e, h1, h2, h5, h3⟩ := h
 rcases Nat.eq_zero_or_pos xs.length with h0 | h0
 ·have : xs = [] := List.length_eq_zero_iff.1 h0
  subst this
  exact ⟨[], Enc.nil k E C, A, c, e, h1, h2, h5, fun h => by omega⟩
 ·obtain ⟨b, o, rfl, hc⟩ := h3 h0
  have hex : ∀ i : Nat, ∃ cs : List Value, ∀ x, xs[i]? = some x → cs.length = k ∧ E C cs x ∧ ∀ (t : Nat) u, cs[t]? = some u → C ⟨b, o + i * k + t, none⟩ = some u := by
   intro i
   cases hx : xs[i]? with
   | none => exact ⟨[], fun x h => by cases h⟩
   | some x =>
    obtain ⟨cs, h6, h7, h8⟩ := L.down (hc i x hx)
    exact ⟨cs, fun y hy => by injection hy with hy; subst hy; exact ⟨h6, h7, h8⟩⟩
  have key : ∀ m, m ≤ xs.length → ∃ cs, Enc k E C cs (xs.take m) ∧ ∀ (j : Nat) u, cs[j]? = some u → C ⟨b, o + j, none⟩ = some u := by
   intro m
   induction m with
   | zero => intro _; exact ⟨[], Enc.nil k E C, fun j u h => by simp at h⟩
   | succ m ih =>
    intro hm
    obtain ⟨cs, h6, h7⟩ := ih (by omega)
    obtain ⟨ds, h8⟩ := hex m
    have hx : xs[m]? = some xs[m] := List.getElem?_eq_getElem (by omega)
    obtain ⟨h9, h10, h11⟩ := h8 _ hx
    refine ⟨cs ++ ds, ?_, fun j u hu => ?_⟩
    ·rw [List.take_add_one, hx]
     exact h6.append (Enc.single L h10)
    ·have hl : cs.length = m * k := by rw [h6.1, List.length_take, Nat.min_eq_left (by omega)]
     by_cases hj : j < cs.length
     ·rw [List.getElem?_append_left hj] at hu; exact h7 j u hu
     ·rw [List.getElem?_append_right (by omega)] at hu
      have := h11 _ u hu
      rw [show o + m * k + (j - cs.length) = o + j by omega] at this
      exact this
  obtain ⟨cs, h6, h7⟩ := key xs.length (Nat.le_refl _)
  rw [List.take_of_length_le (Nat.le_refl _)] at h6
  exact ⟨cs, h6, some ⟨b, o, none⟩, c, e, h1, h2, h5, fun _ => ⟨b, o, rfl, h7⟩⟩
def Ow {α : Type} (k : Nat) (E : Cl → List Value → α → Prop) (T : TypeId) (w : World) (C : Cl) (base : Nat) (v : Value) (xs : List α) : Prop :=
 ∃ cs, w.ownsRow base T k v xs.length cs ∧ Enc k E C cs xs ∧ xs.length ≤ 1000000
theorem Ow.nil (k : Nat) (E : Cl → List Value → α → Prop) (T : TypeId) (w : World) (C : Cl) (base : Nat) : Ow k E T w C base (.slice none 0 0) ([] : List α) := ⟨[], World.ownsRow_nil _ _ _ _, Enc.nil k E C, Nat.zero_le _⟩
theorem Ow.rws (L : Cells k R E) {T : TypeId} {w : World} {C : Cl} {base : Nat} {v : Value} {xs : List α} (h : Ow k E T w C base v xs) (hk : Keeps C w.cell?) : Rws k R w.cell? v xs := by
 obtain ⟨cs, ho, he, hl⟩ := h
 rcases ho.2 with ⟨rfl, h0⟩ | ⟨g, cap, cur, rfl, -, hg, h1, h2, h3, h4⟩
 ·have : xs = [] := List.length_eq_zero_iff.1 h0
  subst this; exact Rws.nil _ _ _
 ·refine ⟨some ⟨g, 0, none⟩, cap, rfl, h1, h2, hl, fun h0 => ⟨g, 0, rfl, fun i x hx => ?_⟩⟩
  refine L.up (L.keep (he.2 i x hx) hk) fun t u hu => ?_
  have ht : t < k := by
   have := (List.getElem?_eq_some_iff.1 hu).1
   rw [List.length_take] at this; omega
  rw [List.getElem?_take_of_lt ht, List.getElem?_drop] at hu
  have := ho.cells (g := g) rfl _ u hu
  rw [Addr.add_lit] at this
  rwa [Nat.zero_add] at this ⊢
theorem Ow.below {T : TypeId} {w w' : World} {C C' : Cl} {base : Nat} {v : Value} {xs : List α} (L : Cells k R E) (h : Ow k E T w C base v xs) (hb : Below w.heap.size w w') (hk : Keeps C C') : Ow k E T w' C' base v xs := by
 obtain ⟨cs, ho, he, hl⟩ := h
 exact ⟨cs, own_below ho hb, he.keep L hk, hl⟩
end
def EInt (_ : Cl) (cs : List Value) (x : Int) : Prop := cs = [.int .i64 x]
theorem Rws.one {k : Nat} {α : Type} {E : Cl → Nat → Nat → α → Prop} {C : Cl} {v : Value} {xs : List α} (h : Rws k E C v xs) : v.oneCell' = true := by
 obtain ⟨A, c, rfl, -⟩ := h; rfl
theorem cellsInt : Cells 1 RInt EInt where
  pos := by decide
  down := fun {C b o x} h => ⟨_, rfl, rfl, fun i u hu => by
    match i, hu with
    | 0, hu => simp at hu; subst hu; exact h
    | i + 1, hu => simp at hu⟩
  up := fun {C b o x cs} h hc => by subst h; exact hc 0 _ rfl
  keep := fun h _ => h
  one := fun h u hu => by subst h; simp at hu; rcases hu with rfl; rfl
  len := fun h => by subst h; rfl
end Go.Proofs.YtkcdgaijklhnaaaGreatDoor
namespace Go.Proofs.YtkcdgaijklhnaaaGreatDoor
open Go.RowKit
def offS (w : World) (S : Nat → Bool) (v : Value) : Cl := offB w fun b => S b || decide (v.ownBlock = some b)
def Od {α : Type} (S : Nat → Bool) (k : Nat) (E : Cl → List Value → α → Prop) (T : TypeId) (w : World) (base : Nat) (v : Value) (xs : List α) : Prop := Ow k E T w (offS w S v) base v xs
def Inf (P : Program) (T : TypeId) (k bytes : Nat) : Prop := ∃ (i : TypeInfo) (z : Value), P.info? T = some i ∧ i.zero = some z ∧ i.size = k ∧ i.bytes = bytes ∧ z.cells.size = k ∧ bytes ≤ 1000
section
variable {α : Type} {k : Nat} {R : Cl → Nat → Nat → α → Prop} {E : Cl → List Value → α → Prop} {S : Nat → Bool}
theorem offS_below {w w' : World} (v : Value) (hb : Below w.heap.size w w') : Keeps (offS w S v) (offS w' S v) :=
 Keeps.off_mono fun p _ h hu => ⟨h, (hb.cell (World.block_lt_of_cell? w p hu)).trans hu⟩
theorem offS_cell {w : World} {v : Value} : Keeps (offS w S v) w.cell? := Keeps.off w _
theorem Od.nil (S : Nat → Bool) (k : Nat) (E : Cl → List Value → α → Prop) (T : TypeId) (w : World) (base : Nat) : Od S k E T w base (.slice none 0 0) ([] : List α) := Ow.nil _ _ _ _ _ _
theorem Od.below (L : Cells k R E) {T : TypeId} {w w' : World} {base : Nat} {v : Value} {xs : List α} (h : Od S k E T w base v xs) (hb : Below w.heap.size w w') : Od S k E T w' base v xs := Ow.below L h hb (offS_below v hb)
theorem Ow.lt {T : TypeId} {w : World} {C : Cl} {base : Nat} {v : Value} {xs : List α} (h : Ow k E T w C base v xs) : ∀ b, v.ownBlock = some b → base ≤ b ∧ b < w.heap.size := by
 obtain ⟨cs, ho, -, -⟩ := h
 exact ho.lt
theorem Od.lt {T : TypeId} {w : World} {base : Nat} {v : Value} {xs : List α} (h : Od S k E T w base v xs) : ∀ b, v.ownBlock = some b → base ≤ b ∧ b < w.heap.size := Ow.lt h
theorem Od.rws (L : Cells k R E) {T : TypeId} {w : World} {base : Nat} {v : Value} {xs : List α} (h : Od S k E T w base v xs) : Rws k R w.cell? v xs := Ow.rws L h offS_cell
theorem wpList_append_Ow {P : Program} (L : Cells k R E) {T : TypeId} {bytes : Nat} (hi : Inf P T k bytes) (w : World) {ops : Array Oper} {rest : List Oper} {o : Oper} {a : Act} {Q : Exit → Act → World → Prop} (hgd : o.guard = none) (s x : Operand) (t : TypeId)
  (ho : o.op = .call { callee := .builtin .append, args := #[s, x], argTypes := #[t, t] })
  (base : Nat) (ht : P.underlying t = some (.slice T)) (v : Value) (xs : List α) (C : Cl) (hs : a.eval s = v) (hown : Ow k E T w C base v xs)
  (ad : Addr) (m c : Nat) (cs : List Value) (ys : List α) (hx : a.eval x = .slice (some ad) m c) (hm : ys.length = m) (hcs : Enc k E C cs ys) (hnews : ∀ j u, cs[j]? = some u → w.cell? (ad.add j) = some u)
  (hlen : xs.length + m ≤ 1000000) (hbase : base ≤ w.heap.size)
  (h : ∀ v' w', Ow k E T w' C base v' (xs ++ ys) → Below base w w' → w.grownBy w' v.ownBlock → wpList P ops Q rest (a.put o.dst v') w') : wpList P ops Q (o :: rest) a w := by
 have hlt := hown.lt
 obtain ⟨ds, ho', he, hl⟩ := hown
 obtain ⟨i, z, hi0, hz, h1, h2, h3, h4⟩ := hi
 refine wpList_append_own_at w hgd s x t ho base T i z k bytes ht hi0 hz h1 h2 h3 L.pos v xs.length ds hs ho' ad m c cs hx (by rw [hcs.1, hm]) hnews (hcs.one L) (by unfold maxLen; omega) (Nat.le_trans (Nat.mul_le_mul hlen h4) (by decide)) hbase ?_
 intro v' w' hown' hgrow _ hat
 exact h v' w' ⟨ds ++ cs, by rw [List.length_append, hm]; exact hown', he.append hcs, by rw [List.length_append, hm]; exact hlen⟩ ((Below.refl base w).grown hgrow hbase fun b hb => (hlt b hb).1) hgrow
end
theorem inf_of {T : TypeId} {z : Value} {k bytes : Nat} (h : (Tryz.prog.info? T).map (fun i => (i.zero, i.size, i.bytes)) = some (some z, k, bytes)) (hz : z.cells.size = k) (hb : bytes ≤ 1000) : Inf Tryz.prog T k bytes := by
 obtain ⟨i, h1, h2, h3, h4⟩ := info_parts h
 exact ⟨i, z, h1, h2, h3, h4, hz, hb⟩
end Go.Proofs.YtkcdgaijklhnaaaGreatDoor
namespace Go.Proofs.YtkcdgaijklhnaaaGreatDoor
open Go.RowKit
theorem Asc.tail {u : LTerm} {l : List LTerm} (h : Asc (u :: l)) : Asc l := (List.pairwise_cons.1 h).2
theorem Asc.head {u t : LTerm} {l : List LTerm} (h : Asc (u :: l)) (ht : t ∈ l) : sLt u.sym t.sym = true := (List.pairwise_cons.1 h).1 t ht
theorem Asc.mul {l : List LTerm} (h : Asc l) (k : Int) : Asc (l.map (mulT k)) := by
 rw [Asc, List.pairwise_map]
 exact h
structure LRule where
 kind : Int
 left : LSize
 right : LSize
def RRule (C : Cl) (b o : Nat) (x : LRule) : Prop := ∃ t1 t2, (C ⟨b, o, none⟩ = some (.int .i64 x.kind) ∧ C ⟨b, o + 1, none⟩ = some (.int .i64 x.left.base) ∧ C ⟨b, o + 2, none⟩ = some t1 ∧
 C ⟨b, o + 3, none⟩ = some (.int .i64 x.right.base) ∧ C ⟨b, o + 4, none⟩ = some t2) ∧ RTerms C t1 x.left.terms ∧ RTerms C t2 x.right.terms
def RRules (C : Cl) (v : Value) (xs : List LRule) : Prop := Rws 5 RRule C v xs
theorem RRule.keep {C C' : Cl} {b o : Nat} {x : LRule} (h : RRule C b o x) (k : Keeps C C') : RRule C' b o x := by
 obtain ⟨t1, t2, ⟨h0, h1, h2, h3, h4⟩, h5, h6⟩ := h
 exact ⟨t1, t2, ⟨k _ _ h0, k _ _ h1, k _ _ h2, k _ _ h3, k _ _ h4⟩, h5.keep k, h6.keep k⟩
theorem RRules.keep {C C' : Cl} {v : Value} {xs : List LRule} (h : RRules C v xs) (k : Keeps C C') : RRules C' v xs := Rws.mono h fun _ _ _ h => h.keep k
end Go.Proofs.YtkcdgaijklhnaaaGreatDoor
namespace Go.Proofs.YtkcdgaijklhnaaaGreatDoor
open Go.RowKit
theorem inf_int : Inf Tryz.prog 3 1 8 := inf_of (z := .int .i64 0) (by kernel_rfl) rfl (by decide)
end Go.Proofs.YtkcdgaijklhnaaaGreatDoor
namespace Go.Proofs.YtkcdgaijklhnaaaGreatDoor
open Go.RowKit
structure Frm (S : Nat → Bool) (w w' : World) : Prop where
 os : w'.os = w.os
 tape : w'.tape = w.tape
 output : w'.output = w.output
 size : w.heap.size ≤ w'.heap.size
 block : ∀ k, k < w.heap.size → S k = false → w'.heap[k]? = w.heap[k]?
def isB (g : Nat) : Nat → Bool := fun b => decide (b = g)
theorem isB_false {g b : Nat} : isB g b = false ↔ b ≠ g := by simp [isB]
section
variable {S S' : Nat → Bool} {a w w' : World}
theorem Frm.refl (S : Nat → Bool) (w : World) : Frm S w w := ⟨rfl, rfl, rfl, Nat.le_refl _, fun _ _ _ => rfl⟩
theorem Frm.trans (h : Frm S a w) (k : Frm S' w w') (hS : ∀ b, b < a.heap.size → S b = false → S' b = false) : Frm S a w' :=
 ⟨k.os.trans h.os, k.tape.trans h.tape, k.output.trans h.output, Nat.le_trans h.size k.size, fun b hb hs => (k.block b (Nat.lt_of_lt_of_le hb h.size) (hS b hb hs)).trans (h.block b hb hs)⟩
theorem Frm.mono (h : Frm S w w') (hS : ∀ b, b < w.heap.size → S' b = false → S b = false) : Frm S' w w' := ⟨h.os, h.tape, h.output, h.size, fun b hb hs => h.block b hb (hS b hb hs)⟩
theorem Frm.of_below (h : Below w.heap.size w w') : Frm S w w' := ⟨h.os, h.tape, h.output, h.size, fun b hb _ => h.block b hb⟩
theorem Frm.below (h : Frm S w w') {B : Nat} (hB : B ≤ w.heap.size) (hS : ∀ b, b < B → S b = false) : Below B w w' := ⟨h.os, h.tape, h.output, h.size, fun b hb => h.block b (Nat.lt_of_lt_of_le hb hB) (hS b hb)⟩
theorem Frm.alloc (h : Frm S a w) (o : Obj) : Frm S a (w.alloc o) := h.trans (Frm.of_below ((Below.refl _ w).alloc (Nat.le_refl _) o)) fun _ _ h => h
theorem Frm.drewN (h : Frm S a w) (n : Nat) : Frm S a (w.drewN n) := ⟨h.os, h.tape, h.output, h.size, h.block⟩
theorem Frm.drew (h : Frm S a w) : Frm S a w.drew := ⟨h.os, h.tape, h.output, h.size, h.block⟩
theorem Frm.set (h : Frm S a w) {p : Addr} (hp : p.block < a.heap.size → S p.block = true) (u : Value) : Frm S a (w.setCell p u) :=
 ⟨h.os, h.tape, h.output, by simpa [World.setCell] using h.size, fun b hb hs => (Below.heap_setCell w p u b (by rintro rfl; rw [hp hb] at hs; cases hs)).trans (h.block b hb hs)⟩
theorem Frm.cell (h : Frm S w w') {p : Addr} {u : Value} (hu : w.cell? p = some u) (hp : S p.block = false) : w'.cell? p = some u :=
 (World.cell?_of_block (w := w) (h.block p.block (World.block_lt_of_cell? w p hu) hp)).trans hu
theorem Frm.bk (h : Frm S w w') {g : Nat} {t : TypeId} {cs : Array Value} (hg : Bk w g t cs) (hs : S g = false) : Bk w' g t cs := (h.block g hg.lt hs).trans hg
theorem Frm.own (h : Frm S w w') {base : Nat} {e : TypeId} {k : Nat} {v : Value} {n : Nat} {cs : List Value} (ho : w.ownsRow base e k v n cs) (hs : ∀ b, v.ownBlock = some b → S b = false) : w'.ownsRow base e k v n cs := by
 obtain ⟨h1, h2⟩ := ho
 refine ⟨h1, ?_⟩
 rcases h2 with h2 | ⟨g, cap, cur, rfl, hg, hh, r⟩
 ·exact .inl h2
 ·exact .inr ⟨g, cap, cur, rfl, hg, (h.block g (Array.getElem?_eq_some_iff.1 hh).1 (hs g rfl)).trans hh, r⟩
theorem Frm.ow {α : Type} {k : Nat} {R : Cl → Nat → Nat → α → Prop} {E : Cl → List Value → α → Prop} (L : Cells k R E) {T : TypeId} {C C' : Cl} {base : Nat} {v : Value} {xs : List α} (h : Frm S w w') (ho : Ow k E T w C base v xs) (hs : ∀ b, v.ownBlock = some b → S b = false) (hk : Keeps C C') : Ow k E T w' C' base v xs := by
 obtain ⟨cs, h1, h2, h3⟩ := ho
 exact ⟨cs, h.own h1 hs, h2.keep L hk, h3⟩
end
theorem Ow.base {α : Type} {k : Nat} {E : Cl → List Value → α → Prop} {T : TypeId} {w : World} {C : Cl} {base base' : Nat} {v : Value} {xs : List α} (h : Ow k E T w C base v xs) (hb : base' ≤ base) : Ow k E T w C base' v xs := by
 obtain ⟨cs, ⟨h1, h2⟩, h3, h4⟩ := h
 refine ⟨cs, ⟨h1, ?_⟩, h3, h4⟩
 rcases h2 with h2 | ⟨g, cap, cur, hv, hg, r⟩
 ·exact .inl h2
 ·exact .inr ⟨g, cap, cur, hv, Nat.le_trans hb hg, r⟩
theorem Ow.row {α : Type} {k : Nat} {E : Cl → List Value → α → Prop} {T : TypeId} {w : World} {C : Cl} {base : Nat} {v : Value} {xs : List α} (h : Ow k E T w C base v xs) (h0 : 0 < xs.length) :
  ∃ g cap cur cs, v = .slice (some ⟨g, 0, none⟩) xs.length cap ∧ base ≤ g ∧ Bk w g T cur ∧ xs.length ≤ cap ∧ cap ≤ maxLen ∧ cur.size = cap * k ∧ cur.toList.take (xs.length * k) = cs ∧ Enc k E C cs xs := by
 obtain ⟨cs, ⟨h1, h2⟩, h3, h4⟩ := h
 rcases h2 with ⟨-, h2⟩ | ⟨g, cap, cur, hv, hg, hh, h5, h6, h7, h8⟩
 ·omega
 ·exact ⟨g, cap, cur, cs, hv, hg, hh, h5, h6, h7, h8, h3⟩
theorem Ow.of_row {α : Type} {k : Nat} {E : Cl → List Value → α → Prop} {T : TypeId} {w : World} {C : Cl} {base g cap n : Nat} {xs : List α} {cur : Array Value} {cs : List Value} (hg : base ≤ g) (hb : Bk w g T cur) (h1 : n ≤ cap) (h2 : cap ≤ maxLen) (h3 : cur.size = cap * k) (h4 : cur.toList.take (n * k) = cs) (h5 : Enc k E C cs xs) (h6 : xs.length = n) (h7 : n ≤ 1000000) :
  Ow k E T w C base (.slice (some ⟨g, 0, none⟩) n cap) xs :=
 ⟨cs, ⟨h5.1, .inr ⟨g, cap, cur, by rw [h6], hg, hb, by rw [h6]; exact h1, h2, h3, by rw [h6]; exact h4⟩⟩, h5, by rw [h6]; exact h7⟩
end Go.Proofs.YtkcdgaijklhnaaaGreatDoor
namespace Go.Proofs.YtkcdgaijklhnaaaGreatDoor
open Go.RowKit
end Go.Proofs.YtkcdgaijklhnaaaGreatDoor
namespace Go.Proofs.YtkcdgaijklhnaaaGreatDoor
open Go.RowKit
end Go.Proofs.YtkcdgaijklhnaaaGreatDoor
namespace Go.Proofs.YtkcdgaijklhnaaaGreatDoor
open Go.RowKit
theorem keep2 (w : World) (o o' : Obj) : Keeps w.cell? ((w.alloc o).alloc o').cell? := (Keeps.alloc _ _).trans (Keeps.alloc _ _)
end Go.Proofs.YtkcdgaijklhnaaaGreatDoor
namespace Go.Proofs.YtkcdgaijklhnaaaGreatDoor
open Go.RowKit
end Go.Proofs.YtkcdgaijklhnaaaGreatDoor
namespace Go.Proofs.YtkcdgaijklhnaaaGreatDoor
open Go.RowKit
section
variable {α : Type} {k : Nat} {R : Cl → Nat → Nat → α → Prop} {E : Cl → List Value → α → Prop}
theorem Ow.form {T : TypeId} {w : World} {C : Cl} {base : Nat} {v : Value} {xs : List α} (h : Ow k E T w C base v xs) : ∃ A n c, v = .slice A n c := by
 obtain ⟨cs, ho, -, -⟩ := h
 rcases ho.2 with ⟨h, -⟩ | ⟨g, cap, cur, h, -⟩
 ·exact ⟨_, _, _, h⟩
 ·exact ⟨_, _, _, h⟩
theorem Ow.shape {T : TypeId} {w : World} {C : Cl} {base : Nat} {v : Value} {xs : List α} (h : Ow k E T w C base v xs) : ∃ A c, v = .slice A xs.length c ∧ c ≤ maxLen := by
 obtain ⟨cs, ho, -, -⟩ := h
 rcases ho.2 with ⟨h, h0⟩ | ⟨g, cap, cur, h, -, -, -, h2, -⟩
 ·exact ⟨none, 0, by rw [h0]; exact h, by unfold maxLen; omega⟩
 ·exact ⟨_, _, h, h2⟩
theorem Ow.flat {T : TypeId} {w : World} {C C' : Cl} {base : Nat} {v : Value} {xs : List α} (hf : ∀ C C' cs x, E C cs x → E C' cs x) (h : Ow k E T w C base v xs) : Ow k E T w C' base v xs := by
 obtain ⟨cs, ho, he, hl⟩ := h
 exact ⟨cs, ho, ⟨he.1, fun i x hx => hf _ _ _ _ (he.2 i x hx)⟩, hl⟩
end
end Go.Proofs.YtkcdgaijklhnaaaGreatDoor
namespace Go.Proofs.YtkcdgaijklhnaaaGreatDoor
open Go.RowKit
end Go.Proofs.YtkcdgaijklhnaaaGreatDoor
namespace Go.Proofs.YtkcdgaijklhnaaaGreatDoor
open Go.RowKit
theorem run_append_empty {P : Program} {w : World} {t e ty : TypeId} {i : TypeInfo} (ht : P.underlying t = some (.slice e)) (hi : P.info? e = some i) (b A : Option Addr) (n cap c : Nat) (h : n ≤ cap) :
  (Builtin.append_ #[t, t] ty #[.slice b n cap, .slice A 0 c]).run P w = .ok (.slice b n cap) w := by
 cases b <;> cases A <;> simp [Builtin.append_, run_underlying ht, sizeOf, typeInfo, hi, Builtin.lenOf, Builtin.firstCells, loadCells, loadCellsFrom, storeCells, h]
def Out {α : Type} (R : Cl → Value → List α → Prop) (C D : Cl) (v : Value) (xs : List (List α)) : Prop := Rws 1 (fun D b o x => ∃ v, D ⟨b, o, none⟩ = some v ∧ R C v x) D v xs
theorem Out.keep {α : Type} {R : Cl → Value → List α → Prop} {C D D' : Cl} {v : Value} {xs : List (List α)} (h : Out R C D v xs) (k : Keeps D D') : Out R C D' v xs := Rws.mono h fun _ _ _ ⟨v, h1, h2⟩ => ⟨v, k _ _ h1, h2⟩
def sumLen {α : Type} (xss : List (List α)) : Nat := (xss.map List.length).sum
theorem sumLen_take {α : Type} {xss : List (List α)} {j : Nat} {x : List α} (h : xss[j]? = some x) : sumLen (xss.take (j + 1)) = sumLen (xss.take j) + x.length := by
 rw [sumLen, List.take_add_one, h]; simp [sumLen]
theorem sumLen_le {α : Type} (xss : List (List α)) (j : Nat) : sumLen (xss.take j) ≤ sumLen xss := by
 have h : sumLen xss = sumLen (xss.take j) + sumLen (xss.drop j) := by
  rw [sumLen, sumLen, sumLen, ← List.sum_append, ← List.map_append, List.take_append_drop]
 omega
theorem sumLen_flat {α : Type} (xss : List (List α)) : xss.flatten.length = sumLen xss := by rw [List.length_flatten]; rfl
theorem flatten_take {α : Type} {xss : List (List α)} {j : Nat} {x : List α} (h : xss[j]? = some x) : (xss.take (j + 1)).flatten = (xss.take j).flatten ++ x := by
 rw [List.take_add_one, h]; simp
end Go.Proofs.YtkcdgaijklhnaaaGreatDoor
namespace Go.Proofs.YtkcdgaijklhnaaaGreatDoor
open Go.RowKit
set_option maxHeartbeats 1000000 in
set_option maxRecDepth 100000 in
theorem grow_int (n : Nat) (w : World) (hn : n ≤ 1000000) :
  Calls Tryz.prog 85 #[.slice none 0 0, .int .i64 (n : Int)] w fun e w' => ∃ v', e = .returned v' ∧ Below w.heap.size w w' ∧ ∀ C, Ow 1 EInt 3 w' C w.heap.size v' [] := by
 obtain ⟨i, z, hi, hz, h1, h2, h3, h4⟩ := inf_int
 rcases Nat.eq_zero_or_pos n with rfl | h0
 ·go_enter Tryz.func85, Tryz.ntmps85
  go_wp2
  go_ret
  exact ⟨_, rfl, Below.refl _ _, fun C => Ow.nil _ _ _ _ _ _⟩
 ·have hn2 : (n : Int) ≤ 1000000 := by omega
  have hn3 : (0 : Int) < (n : Int) := by omega
  have hrun := fun ty => Lib.run_append_nil_zeros (P := Tryz.prog) w 22 3 ty 3 i z .i64 .i64 Tryz.underlying22 Tryz.underlying3 hi hz n h0 (by rw [h1]; decide) (by omega) (Nat.le_trans (Nat.mul_le_mul hn (by rw [h2]; exact h4)) (by decide))
  obtain ⟨G, hG⟩ : ∃ G, G = grownCap w n 0 3 := ⟨_, rfl⟩
  have hGn : n ≤ G := by rw [hG]; exact grownCap_ge w _ _ _
  have hG63 : G ≤ maxLen := by rw [hG]; exact grownCap_le_maxLen w n 0 3 (by unfold maxLen; omega)
  rw [← hG] at hrun
  obtain ⟨Z, hZ⟩ : ∃ Z, Z = Builtin.zeroCells z.cells n ++ Builtin.zeroCells z.cells (G - n) := ⟨_, rfl⟩
  have hZl : Z.size = G * 1 := by rw [hZ, Array.size_append, size_zeroCells, size_zeroCells, h3, ← Nat.add_mul]; congr 1; omega
  rw [← hZ] at hrun
  have HR := Lib.hid hrun
  have HZL := Lib.hid hZl
  have HG := Lib.hid hG63
  have HGN := Lib.hid hGn
  clear hrun hZ hG hZl hi hz h1 h2 h3 hG63
  go_enter Tryz.func85, Tryz.ntmps85
  go_wp2_with (at_builtin; refine Lib.wpList_append_run _ rfl _ _ _ _ rfl _ _ rfl rfl _ _ (HR.out _) ?_)
  go_ret
  refine ⟨_, rfl, (Below.refl _ w).drew.alloc (Nat.le_refl _) _, fun C => Ow.of_row (cur := Z) (cs := []) (Nat.le_refl _) (by show Bk _ _ _ _; exact Bk.new w.drew _ _) (Nat.zero_le _) HG.out HZL.out (by simp) (Enc.nil _ _ _) rfl (Nat.zero_le _)⟩
set_option maxHeartbeats 4000000 in
set_option maxRecDepth 100000 in
theorem concat_int (xss : List (List (Int))) (v : Value) (w : World) (C : Cl) (hC : Keeps C w.cell?) (hv : Out RInts C w.cell? v xss) (hs : sumLen xss ≤ 1000000) :
  Calls Tryz.prog 45 #[v] w fun e w' => ∃ v', e = .returned v' ∧ Below w.heap.size w w' ∧ Ow 1 EInt 3 w' C w.heap.size v' xss.flatten := by
 obtain ⟨A, c, rfl, -, -, hmx⟩ := Rws.shape hv
 have HV := Lib.hid hv
 have HCC := Lib.hid hC
 obtain ⟨n, hn⟩ : ∃ n, xss.length = n := ⟨_, rfl⟩
 rw [hn] at hmx HV ⊢
 have HL := Lib.hid hn
 have hn2 : (n : Int) ≤ 1000000 := by omega
 obtain ⟨m, hm⟩ : ∃ m, sumLen xss = m := ⟨_, rfl⟩
 have HS : Hid (∀ j, sumLen (xss.take j) ≤ m) := Lib.hid (by intro j; rw [← hm]; exact sumLen_le _ _)
 have HM := Lib.hid hm
 rw [hm] at hs
 have hm2 : (m : Int) ≤ 1000000 := by omega
 obtain ⟨i0, z0, hi, hz, h1, h2, h3, h4⟩ := inf_int
 clear hv hn hm hz hC h1 h2 h3 h4
 go_enter Tryz.func45, Tryz.ntmps45
 go_wp2
 go_loopw [3, 11] (fun a3 a11 wr => ∃ j : Nat, a11 = .int .i64 j ∧ a3 = .int .i64 (sumLen (xss.take j) : Nat) ∧ Below w.heap.size w wr ∧ j ≤ n) (fun _ a11 _ => n - (intOf a11).toNat)
 case atStart => exact ⟨0, rfl, rfl, Below.refl _ _, by omega⟩
 case round =>
  obtain ⟨j, rfl, rfl, hB, hj⟩ := hrel
  have HB := Lib.hid hB
  have hsj := HS.out j
  by_cases hlt : j < n
  ·have hlt2 : (j : Int) < (n : Int) := by omega
   have hjl : j < xss.length := by rw [HL.out]; exact hlt
   obtain ⟨b, o, rfl, hc⟩ := Rws.at_ (Out.keep HV.out (Keeps.of_below hB)) (by rw [HL.out]; omega)
   obtain ⟨x, hx⟩ : ∃ x, xss[j]? = some x := ⟨_, List.getElem?_eq_getElem hjl⟩
   obtain ⟨xv, e0, ht⟩ := hc j x hx
   rw [Nat.mul_one] at e0
   obtain ⟨A2, c2, rfl, -⟩ := Rws.shape ht
   have HX := Lib.hid (sumLen_take hx)
   have hsj1 := HS.out (j + 1)
   rw [HX.out] at hsj1
   obtain ⟨p, hp⟩ : ∃ p, sumLen (xss.take j) = p := ⟨_, rfl⟩
   obtain ⟨q, hq⟩ : ∃ q, x.length = q := ⟨_, rfl⟩
   rw [hp] at hsj hsj1 HX ⊢
   rw [hq] at hsj1 HX e0
   have hpq : (p : Int) + (q : Int) ≤ 1000000 := by omega
   clear hB hc hx ht hp hq
   go_wp2
   go_roundw
   case rel => exact ⟨j + 1, by go_num, by rw [HX.out, Int.natCast_add], HB.out, by omega⟩
   case measure => simp [intOf]; omega
  ·obtain rfl : j = n := by omega
   have hz : sumLen (xss.take j) = m := by rw [List.take_of_length_le (by rw [HL.out]; omega)]; exact HM.out
   rw [hz] at hsj ⊢
   clear hB hz
   go_wp2_with (go_at_call 85; refine (grow_int m _ hs).mono ?_; rintro e w1 ⟨v1, rfl, hB1, hO1⟩; have HB1 : Hid (Below w.heap.size w w1) := Lib.hid (behind HB.out hB1); have HO1 : Hid (Ow 1 EInt 3 w1 C w.heap.size v1 []) := Lib.hid ((hO1 _).base HB.out.size); clear hB1 hO1)
   go_loopw [6, 27] (fun a6 a27 wr => ∃ i : Nat, a27 = .int .i64 i ∧ Ow 1 EInt 3 wr C w.heap.size a6 (xss.take i).flatten ∧ Below w.heap.size w wr ∧ i ≤ j) (fun _ a27 _ => j - (intOf a27).toNat)
   case atStart => exact ⟨0, rfl, HO1.out, HB1.out, by omega⟩
   case round =>
    obtain ⟨i, rfl, hO, hB2, hi2⟩ := hrel
    have HB2 := Lib.hid hB2
    have HO := Lib.hid hO
    obtain ⟨A6, c6, rfl, -⟩ := hO.shape
    have HLE : Hid ((xss.take i).flatten.length ≤ c6) := Lib.hid (by
     obtain ⟨cs, ho, -, -⟩ := hO
     rcases ho.2 with ⟨e, h0⟩ | ⟨g, cap, cur, e, -, -, h2, -⟩
     ·omega
     ·injection e with _ _ e3
      subst e3; exact h2)
    obtain ⟨pl, hpl⟩ : ∃ pl, (xss.take i).flatten.length = pl := ⟨_, rfl⟩
    rw [hpl] at HO HLE ⊢
    have HPL := Lib.hid hpl
    clear hpl
    by_cases hlt3 : i < j
    ·have hlt4 : (i : Int) < (j : Int) := by omega
     have hil : i < xss.length := by rw [HL.out]; exact hlt3
     obtain ⟨b, o, rfl, hc⟩ := Rws.at_ (Out.keep HV.out (Keeps.of_below hB2)) (by rw [HL.out]; omega)
     obtain ⟨x, hx⟩ : ∃ x, xss[i]? = some x := ⟨_, List.getElem?_eq_getElem hil⟩
     obtain ⟨xv, e0, ht⟩ := hc i x hx
     rw [Nat.mul_one] at e0
     obtain ⟨b0, o0, e9, hc0⟩ := Rws.at_ HV.out (by rw [HL.out]; omega)
     injection e9 with e9
     injection e9 with e9 e10
     subst e9 e10
     obtain ⟨xv', e0', ht'⟩ := hc0 i x hx
     rw [Nat.mul_one] at e0'
     obtain rfl : xv = xv' := by
      have := Keeps.of_below hB2 _ _ e0'
      rw [this] at e0
      injection e0 with e0
      exact e0.symm
     obtain ⟨cs, hen, A2, c2, rfl, -, -, -, hcs⟩ := Rws.cells cellsInt ht'
     have HFL := Lib.hid (flatten_take hx)
     have hf1 : (xss.take i).flatten.length + x.length ≤ m := by
      have h := HS.out (i + 1)
      rw [← sumLen_flat, flatten_take hx, List.length_append] at h
      exact h
     obtain ⟨q, hq⟩ : ∃ q, x.length = q := ⟨_, rfl⟩
     rw [hq] at e0 hf1 hcs
     rw [HPL.out] at hf1
     have HQ := Lib.hid hq
     have HEN := Lib.hid hen
     have HCS := Lib.hid hcs
     have HI := Lib.hid hi
     have HF1 := Lib.hid hf1
     clear hB2 hO hc hc0 hx ht ht' e0' hq hen hcs hi hf1
     rcases Nat.eq_zero_or_pos q with h0 | h0
     ·subst h0
      have hx0 : x = [] := List.length_eq_zero_iff.1 HQ.out
      have HR : Hid (∀ ty, (Builtin.append_ #[22, 22] ty #[.slice A6 pl c6, .slice A2 0 c2]).run Tryz.prog wr = .ok (.slice A6 pl c6) wr) := Lib.hid fun ty => run_append_empty Tryz.underlying22 HI.out _ _ _ _ _ HLE.out
      have HE0 := Lib.hid hx0
      clear hx0
      go_wp2_with (at_builtin; refine Lib.wpList_append_run _ rfl _ _ _ _ rfl _ _ rfl rfl _ _ (HR.out _) ?_)
      go_roundw
      case rel => exact ⟨i + 1, by go_num, by rw [HFL.out, HE0.out, List.append_nil]; exact HO.out, HB2.out, by omega⟩
      case measure => simp [intOf]; omega
     ·obtain ⟨b2, o2, rfl, hcc⟩ := HCS.out h0
      have HN : Hid (∀ j u, cs[j]? = some u → wr.cell? ((⟨b2, o2, none⟩ : Addr).add j) = some u) := Lib.hid fun j u hu => by rw [Addr.add_lit]; exact Keeps.of_below HB2.out _ _ (HCC.out _ _ (hcc j u hu))
      clear hcc
      go_wp2_with (at_builtin; refine wpList_append_Ow cellsInt inf_int _ rfl _ _ 22 rfl w.heap.size Tryz.underlying22 _ (xss.take i).flatten C rfl HO.out ⟨b2, o2, none⟩ q c2 cs x rfl HQ.out HEN.out HN.out (by have := HF1.out; have := HPL.out; omega) HB2.out.size ?_; intro v' w2 hown' hB3 _; obtain ⟨A7, n7, c7, rfl⟩ := hown'.form; have HO2 := Lib.hid hown'; have HB3 := Lib.hid hB3; clear hown' hB3)
      go_roundw
      case rel => exact ⟨i + 1, by go_num, by rw [HFL.out]; exact HO2.out, HB2.out.trans HB3.out, by omega⟩
      case measure => simp [intOf]; omega
    ·obtain rfl : i = j := by omega
     have HFL : Hid ((xss.take i).flatten = xss.flatten) := Lib.hid (by rw [List.take_of_length_le (by rw [HL.out]; omega)])
     clear hB2 hO
     go_wp2
     go_ret
     exact ⟨_, rfl, HB2.out, by rw [← HFL.out]; exact HO.out⟩
end Go.Proofs.YtkcdgaijklhnaaaGreatDoor
namespace Go.Proofs.YtkcdgaijklhnaaaGreatDoor
open Go.RowKit
def inB (lo hi n : Int) : Bool := decide (lo ≤ n) && decide (n ≤ hi)
theorem mwithin_any (n lo hi : Int) (w : World) : Calls Tryz.prog 87 #[.int .i64 n, .int .i64 lo, .int .i64 hi] w fun e w' => e = .returned (.bool (inB lo hi n)) ∧ w' = w := by
 go_enter Tryz.func87, Tryz.ntmps87
 by_cases h : lo ≤ n
 ·go_wp2
  go_ret
  exact ⟨by simp [inB, h], rfl⟩
 ·go_wp2
  go_ret
  exact ⟨by simp [inB, show ¬ lo ≤ n by omega], rfl⟩
theorem enter_all1 : ∀ args w, (callFunc 136 args).run Tryz.prog w = .ok (.enter 136 args) w := fun _ _ => by kernel_rfl
theorem all1_any (n lo hi : Int) (p q : Nat) (w : World) (hp : w.cell? ⟨p, 0, none⟩ = some (.int .i64 lo)) (hq : w.cell? ⟨q, 0, none⟩ = some (.int .i64 hi)) :
  Calls Tryz.prog 136 #[.int .i64 n, .pointer (some ⟨p, 0, none⟩), .pointer (some ⟨q, 0, none⟩)] w fun e w' => e = .returned (.bool (!inB lo hi n)) ∧ Below w.heap.size w w' := by
 have HW := Lib.hid (mwithin_any n lo hi)
 go_enter Tryz.func136, Tryz.ntmps136
 go_wp2_with (go_at_call 87; refine (HW.out _).mono ?_; rintro e w1 ⟨rfl, rfl⟩)
 go_ret
 exact ⟨rfl, Below.refl _ _⟩
set_option maxHeartbeats 1000000 in
set_option maxRecDepth 100000 in
theorem all_any (l : List Int) (lo hi : Int) (v : Value) (w : World) (hv : RInts w.cell? v l) :
  Calls Tryz.prog 89 #[v, .int .i64 lo, .int .i64 hi] w fun e w' => e = .returned (.bool (l.all (inB lo hi))) ∧ Below w.heap.size w w' := by
 obtain ⟨A, n, c, rfl⟩ := hv.sl
 obtain ⟨W, hW⟩ : ∃ W, W = (w.alloc (.cells #[.int .i64 lo] 3)).alloc (.cells #[.int .i64 hi] 3) := ⟨_, rfl⟩
 have hz1 : (w.alloc (.cells #[.int .i64 lo] 3)).heap.size = w.heap.size + 1 := World.size_alloc _ _
 have hb0 : Bk W w.heap.size 3 #[.int .i64 lo] := by rw [hW]; exact (Bk.new _ _ _).alloc _
 have hb1 : Bk W (w.heap.size + 1) 3 #[.int .i64 hi] := by rw [hW, ← hz1]; exact Bk.new _ _ _
 have HBW : Hid (Below w.heap.size w W) := Lib.hid (by rw [hW]; exact laid (laid (Below.refl _ _) _) _)
 have HC : Hid (Calls Tryz.prog 42 #[.slice A n c, .func (.func 136) #[] #[.pointer (some ⟨w.heap.size, 0, none⟩), .pointer (some ⟨w.heap.size + 1, 0, none⟩)]] W fun e w' => e = .returned (.bool (l.any fun n => !inB lo hi n)) ∧ Below W.heap.size W w') :=
  Lib.hid (has_int 136 #[.pointer (some ⟨w.heap.size, 0, none⟩), .pointer (some ⟨w.heap.size + 1, 0, none⟩)] (fun n => !inB lo hi n) enter_all1 l (.slice A n c) W (Rws.mono hv fun b o x h => Keeps.of_below HBW.out _ _ h) (fun n _ u W' hB hu => by subst hu; exact all1_any n lo hi _ _ W' ((hb0.low hB).cell 0) ((hb1.low hB).cell 0)))
 have HW := Lib.hid hW
 clear hW hb0 hb1 hz1 hv
 go_enter Tryz.func89, Tryz.ntmps89
 go_wp2_with (go_at_call 42; rw [← HW.out]; refine HC.out.mono ?_; rintro e w1 ⟨rfl, hB⟩; have HB := Lib.hid (behind HBW.out hB); clear hB)
 go_ret
 exact ⟨by simp [List.any_eq_not_all_not], HB.out⟩
def sizedM (kind vocab width : Int) : Int := if inB 1 3 kind then (if inB 2 16 vocab && inB 1 5 width then 0 else 9) else 4
set_option maxHeartbeats 1000000 in
set_option maxRecDepth 100000 in
theorem sized_any (kind vocab width : Int) (w : World) : Calls Tryz.prog 86 #[.int .i64 kind, .int .i64 vocab, .int .i64 width] w fun e w' => e = .returned (.int .i64 (sizedM kind vocab width)) ∧ w' = w := by
 have HW := Lib.hid mwithin_any
 obtain ⟨a, ha⟩ : ∃ a, inB 1 3 kind = a := ⟨_, rfl⟩
 obtain ⟨b, hb⟩ : ∃ a, inB 2 16 vocab = a := ⟨_, rfl⟩
 obtain ⟨c, hc⟩ : ∃ a, inB 1 5 width = a := ⟨_, rfl⟩
 have hs : sizedM kind vocab width = if a then (if b && c then 0 else 9) else 4 := by rw [sizedM, ha, hb, hc]
 rw [hs]
 have HA := Lib.hid ha
 have HB := Lib.hid hb
 have HC := Lib.hid hc
 clear ha hb hc hs
 cases a <;> cases b <;> cases c <;>
 ·go_enter Tryz.func86, Tryz.ntmps86
  go_wp2_with (go_at_call 87; refine (HW.out _ _ _ _).mono ?_; rintro e w1 ⟨rfl, rfl⟩; (first | rw [HA.out] | rw [HB.out] | rw [HC.out]))
  go_ret
  exact ⟨rfl, rfl⟩
def rowsM (n w : Nat) : Nat := if n % w = 0 then n / w else 0
set_option maxHeartbeats 1000000 in
theorem rows_any (A : Option Addr) (n c : Nat) (k : Nat) (w : World) (hk : 1 ≤ k) (hk2 : k ≤ 1000) (hn : n ≤ 1000000) : Calls Tryz.prog 135 #[.slice A n c, .int .i64 k] w fun e w' => e = .returned (.int .i64 (rowsM n k)) ∧ w' = w := by
 have h1 : (1 : Int) ≤ (k : Int) := by omega
 have h2 : (k : Int) ≤ 1000 := by omega
 have h3 : (n : Int) ≤ 1000000 := by omega
 by_cases h : n % k = 0
 ·have h4 : (n : Int).tmod (k : Int) = 0 := by rw [← Int.ofNat_tmod, h]; rfl
  have hr : Hid (wrap64 ((n : Int) / (k : Int)) = (rowsM n k : Nat)) := Lib.hid (by
   rw [rowsM, if_pos h]
   have h5 : n / k ≤ n := Nat.div_le_self n k
   have h6 : ((n : Int) / (k : Int)) = ((n / k : Nat) : Int) := (Int.natCast_ediv n k).symm
   rw [h6]
   obtain ⟨q, hq⟩ : ∃ q, n / k = q := ⟨_, rfl⟩
   rw [hq] at h5 ⊢
   unfold wrap64; omega)
  go_enter Tryz.func135, Tryz.ntmps135
  go_wp2
  go_ret
  exact ⟨by rw [hr.out]; rfl, rfl⟩
 ·have h4 : ¬ (n : Int).tmod (k : Int) = 0 := by rw [← Int.ofNat_tmod]; omega
  have h5 : ((n : Int).tmod (k : Int) == 0) = false := by simpa using h4
  have h6 : ((n : Int) % (k : Int) == 0) = false := by rw [← Int.tmod_eq_emod_of_nonneg (by omega)]; exact h5
  have hr : Hid ((rowsM n k) = 0) := Lib.hid (by rw [rowsM, if_neg h])
  go_enter Tryz.func135, Tryz.ntmps135
  go_wp2
  all_goals go_ret
  all_goals exact ⟨by rw [hr.out]; rfl, rfl⟩
end Go.Proofs.YtkcdgaijklhnaaaGreatDoor
namespace Go.Proofs.YtkcdgaijklhnaaaGreatDoor
open Go.RowKit
theorem i64_wrap_id {x : Int} (h1 : -1000000000000 ≤ x) (h2 : x ≤ 1000000000000) : IntKind.i64.wrap x = x := by
 simp [IntKind.wrap, IntKind.signed, IntKind.bits]; omega
theorem wrap64_id {x : Int} (h1 : -1000000000000 ≤ x) (h2 : x ≤ 1000000000000) : wrap64 x = x := by
 unfold wrap64; omega
structure LModel where
 kind : Int
 vocab : Int
 width : Int
 top : Int
 cuts : List Int
 embed : List Int
 place : List Int
 mix : List Int
 out : List Int
 soft : List Int
 odds : List Int
def VModel (C : Cl) (v : Value) (m : LModel) : Prop := ∃ a b c d e f g, v = .agg #[.int .i64 m.kind, .int .i64 m.vocab, .int .i64 m.width, .int .i64 m.top, a, b, c, d, e, f, g] ∧ RInts C a m.cuts ∧ RInts C b m.embed ∧ RInts C c m.place ∧ RInts C d m.mix ∧ RInts C e m.out ∧ RInts C f m.soft ∧ RInts C g m.odds
theorem VModel.keep {C C' : Cl} {v : Value} {m : LModel} (h : VModel C v m) (k : Keeps C C') : VModel C' v m := by
 obtain ⟨a, b, c, d, e, f, g, hv, h1, h2, h3, h4, h5, h6, h7⟩ := h
 have K : ∀ (b o : Nat) (x : Int), RInt C b o x → RInt C' b o x := fun b o x h => k _ _ h
 exact ⟨a, b, c, d, e, f, g, hv, h1.mono K, h2.mono K, h3.mono K, h4.mono K, h5.mono K, h6.mono K, h7.mono K⟩
structure GoodM (m : LModel) : Prop where
 kind : m.kind = 1
 vocab : inB 2 16 m.vocab = true
 width : inB 1 5 m.width = true
 top : inB 1 m.vocab m.top = true
 cuts : m.cuts.length = 4
 embed : (m.embed.length : Int) = m.vocab * m.width
 out : (m.out.length : Int) = m.vocab * m.width
 place : inB 1 16 (rowsM m.place.length m.width.toNat : Nat) = true
 mix : (m.mix.length : Int) = 3 * m.width * m.width
 soft : inB 1 64 (m.soft.length : Nat) = true
 odds : inB 1 64 (m.odds.length : Nat) = true
 rcuts : m.cuts.all (inB 1 15) = true
 rembed : m.embed.all (inB (-128) 127) = true
 rplace : m.place.all (inB (-128) 127) = true
 rmix : m.mix.all (inB (-128) 127) = true
 rout : m.out.all (inB (-128) 127) = true
 rsoft : m.soft.all (inB 0 1000) = true
 rodds : m.odds.all (inB 0 1000) = true
 first : m.odds[0]?.getD 0 ≠ 0
end Go.Proofs.YtkcdgaijklhnaaaGreatDoor
namespace Go.Proofs.YtkcdgaijklhnaaaGreatDoor
open Go.RowKit
theorem rows_le {n k : Nat} (h : inB 1 16 (rowsM n k : Nat) = true) (hk : k = 1 ∨ k = 2 ∨ k = 3 ∨ k = 4 ∨ k = 5) : n ≤ 80 := by
 by_cases hh : n % k = 0
 ·rw [rowsM, if_pos hh] at h
  simp only [inB, Bool.and_eq_true, decide_eq_true_eq] at h
  rcases hk with rfl | rfl | rfl | rfl | rfl <;> omega
 ·rw [rowsM, if_neg hh] at h
  simp [inB] at h
theorem GoodM.sum {m : LModel} (g : GoodM m) : sumLen [m.embed, m.place, m.mix, m.out] ≤ 1000000 := by
 have hV : 2 ≤ m.vocab ∧ m.vocab ≤ 16 := by simpa [inB] using g.vocab
 have hD : 1 ≤ m.width ∧ m.width ≤ 5 := by simpa [inB] using g.width
 have hp := rows_le g.place (by omega)
 have he := g.embed
 have ho := g.out
 have hm := g.mix
 have hW : m.width = 1 ∨ m.width = 2 ∨ m.width = 3 ∨ m.width = 4 ∨ m.width = 5 := by omega
 simp only [sumLen, List.map_cons, List.map_nil, List.sum_cons, List.sum_nil]
 rcases hW with e | e | e | e | e <;> rw [e] at he ho hm <;> omega
theorem cell_lits (w : World) (l : Array Value) (T : TypeId) {i : Nat} {u : Value} (h : l.toList[i]? = some u) : (w.alloc (.cells l T)).cell? ⟨w.heap.size, i, none⟩ = some u := by
 rw [Array.getElem?_toList] at h
 exact ((Bk.new w T l).cell i).trans h
end Go.Proofs.YtkcdgaijklhnaaaGreatDoor
namespace Go.Proofs.YtkcdgaijklhnaaaGreatDoor
open Go.RowKit
structure GenM (m : LModel) : Prop where
 kind : 1 ≤ m.kind ∧ m.kind ≤ 3
 vocab : 2 ≤ m.vocab ∧ m.vocab ≤ 16
 width : 1 ≤ m.width ∧ m.width ≤ 5
 top : 1 ≤ m.top ∧ m.top ≤ m.vocab
 cuts : m.cuts.length = 4 ∧ ∀ x ∈ m.cuts, 1 ≤ x ∧ x ≤ 15
 embed : (m.embed.length : Int) = m.vocab * m.width ∧ ∀ x ∈ m.embed, -128 ≤ x ∧ x ≤ 127
 place : (∃ r : Int, 1 ≤ r ∧ r ≤ 16 ∧ (m.place.length : Int) = r * m.width) ∧ ∀ x ∈ m.place, -128 ≤ x ∧ x ≤ 127
 mix : (∃ r : Int, 1 ≤ r ∧ r ≤ 4 ∧ (m.kind = 1 → r = 3) ∧ (m.kind = 2 → r = 2) ∧ (m.mix.length : Int) = r * m.width * m.width) ∧ ∀ x ∈ m.mix, -128 ≤ x ∧ x ≤ 127
 out : (m.out.length : Int) = m.vocab * m.width ∧ ∀ x ∈ m.out, -128 ≤ x ∧ x ≤ 127
 soft : (1 ≤ m.soft.length ∧ m.soft.length ≤ 64) ∧ ∀ x ∈ m.soft, 0 ≤ x ∧ x ≤ 1000
 odds : (1 ≤ m.odds.length ∧ m.odds.length ≤ 64) ∧ (∀ x ∈ m.odds, 0 ≤ x ∧ x ≤ 1000) ∧ ∃ x0, m.odds[0]? = some x0 ∧ 1 ≤ x0
def listsM (m : LModel) : List (List Int) := [m.cuts, m.embed, m.place, m.mix, m.out, m.soft, m.odds]
end Go.Proofs.YtkcdgaijklhnaaaGreatDoor
