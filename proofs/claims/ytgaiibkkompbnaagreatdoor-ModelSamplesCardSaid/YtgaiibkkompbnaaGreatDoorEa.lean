/-
  Reckoning closed code over named blocks: values, blocks, what a state says of a world.
-/
import Derived.Test.YtgaiibkkompbnaaGreatDoorTail
import Derived.Laws.CopyRow
import Derived.Laws.AppendOwn
import Derived.Laws.MakeOwn
import Derived.Deep.MidRow
import Derived.Scope
import Derived.Recover
namespace Go.Proofs.YtgaiibkkompbnaaGreatDoor
open Go.RowKit

/-- a table: place 0 at the root, odd places to the left -/
inductive Tr (α : Type) where
  | lf
  | nd (l : Tr α) (v : α) (r : Tr α)
def Tr.get {α : Type} : Tr α → Nat → Option α
  | .lf, _ => none
  | .nd l v r, i => cond (Nat.beq i 0) (some v) (cond (Nat.beq (Nat.mod i 2) 1) (l.get (Nat.div i 2)) (r.get (Nat.sub (Nat.div i 2) 1)))
def Tr.set {α : Type} : Tr α → Nat → α → Option (Tr α)
  | .lf, _, _ => none
  | .nd l v r, i, x => cond (Nat.beq i 0) (some (.nd l x r))
      (cond (Nat.beq (Nat.mod i 2) 1) (match l.set (Nat.div i 2) x with | some l' => some (.nd l' v r) | none => none)
        (match r.set (Nat.sub (Nat.div i 2) 1) x with | some r' => some (.nd l v r') | none => none))
def Tr.full {α : Type} (x : α) : Nat → Tr α
  | 0 => .lf
  | n + 1 => .nd (Tr.full x n) x (Tr.full x n)
theorem Tr.get_set {α : Type} : ∀ (t t' : Tr α) (i : Nat) (x : α), t.set i x = some t' → ∀ j, t'.get j = if j = i then some x else t.get j
  | .lf, _, _, _, h, _ => by cases h
  | .nd l v r, t', i, x, h, j => by
    rw [Tr.set] at h
    cases hi : Nat.beq i 0 with
    | true =>
      have hi0 : i = 0 := Nat.eq_of_beq_eq_true hi
      subst hi0
      rw [hi] at h
      cases h
      cases hj : Nat.beq j 0 with
      | true => have : j = 0 := Nat.eq_of_beq_eq_true hj; subst this; simp [Tr.get]
      | false => have : j ≠ 0 := Nat.ne_of_beq_eq_false hj; simp [Tr.get, hj, this]
    | false =>
      have hi0 : i ≠ 0 := Nat.ne_of_beq_eq_false hi
      rw [hi] at h
      cases hm : Nat.beq (Nat.mod i 2) 1 with
      | true =>
        have hm1 : i % 2 = 1 := Nat.eq_of_beq_eq_true hm
        rw [hm] at h
        simp only [cond] at h
        cases hl : l.set (Nat.div i 2) x with
        | none => rw [hl] at h; cases h
        | some l' =>
          rw [hl] at h
          cases h
          have ih := Tr.get_set l l' _ x hl
          cases hj : Nat.beq j 0 with
          | true => have : j = 0 := Nat.eq_of_beq_eq_true hj; subst this; simp [Tr.get, Ne.symm hi0]
          | false =>
            have hj0 : j ≠ 0 := Nat.ne_of_beq_eq_false hj
            cases hjm : Nat.beq (Nat.mod j 2) 1 with
            | true =>
              have hj1 : j % 2 = 1 := Nat.eq_of_beq_eq_true hjm
              simp only [Tr.get, hj, hjm, cond, ih]
              have : (j.div 2 = i.div 2) ↔ j = i := by show j / 2 = i / 2 ↔ j = i; omega
              simp only [this]
            | false =>
              have hj1 : j % 2 ≠ 1 := Nat.ne_of_beq_eq_false hjm
              simp only [Tr.get, hj, hjm, cond]
              rw [if_neg (by omega)]
      | false =>
        have hm1 : i % 2 ≠ 1 := Nat.ne_of_beq_eq_false hm
        rw [hm] at h
        simp only [cond] at h
        cases hl : r.set (Nat.sub (Nat.div i 2) 1) x with
        | none => rw [hl] at h; cases h
        | some r' =>
          rw [hl] at h
          cases h
          have ih := Tr.get_set r r' _ x hl
          cases hj : Nat.beq j 0 with
          | true => have : j = 0 := Nat.eq_of_beq_eq_true hj; subst this; simp [Tr.get, Ne.symm hi0]
          | false =>
            have hj0 : j ≠ 0 := Nat.ne_of_beq_eq_false hj
            cases hjm : Nat.beq (Nat.mod j 2) 1 with
            | true =>
              have hj1 : j % 2 = 1 := Nat.eq_of_beq_eq_true hjm
              simp only [Tr.get, hj, hjm, cond]
              rw [if_neg (by omega)]
            | false =>
              have hj1 : j % 2 ≠ 1 := Nat.ne_of_beq_eq_false hjm
              simp only [Tr.get, hj, hjm, cond, ih]
              have : (Nat.sub (j.div 2) 1 = Nat.sub (i.div 2) 1) ↔ j = i := by show j / 2 - 1 = i / 2 - 1 ↔ j = i; omega
              simp only [this]

/-- one cell: a value in which nothing points, a pointer into a block, a slice of a row, a slice of no room, a map -/
inductive Leaf where
  | val (v : Value)
  | ptr (b o : Nat)
  | sl (b o lo n : Nat)
  | emp (b o : Nat)
  | mp (b : Nat)
inductive One where
  | leaf (x : Leaf)
  | agg (l : List Leaf)
  | fn (f : Nat) (caps : List Leaf)
inductive AV where
  | one (x : One)
  | tup (l : List One)
/-- which block of the heap a name stands for, and how many elements its row has room for -/
structure Env where
  φ : Nat → Nat
  κ : Nat → Nat
def Leaf.conc (E : Env) : Leaf → Value
  | .val v => v
  | .ptr b o => .pointer (some ⟨E.φ b, o, none⟩)
  | .sl b o lo n => .slice (some ⟨E.φ b, o, none⟩) n (E.κ b - lo)
  | .emp b o => .slice (some ⟨E.φ b, o, none⟩) 0 0
  | .mp b => .map (some (E.φ b))
def One.conc (E : Env) : One → Value
  | .leaf x => x.conc E
  | .agg l => .agg (l.map (Leaf.conc E)).toArray
  | .fn f caps => .func (.func f) #[] (caps.map (Leaf.conc E)).toArray
def AV.conc (E : Env) : AV → Value
  | .one x => x.conc E
  | .tup l => .tuple (l.map (One.conc E)).toArray
def Leaf.below (m : Nat) : Leaf → Bool
  | .val _ => true
  | .ptr b _ => Nat.blt b m
  | .sl b _ _ _ => Nat.blt b m
  | .emp b _ => Nat.blt b m
  | .mp b => Nat.blt b m
def One.below (m : Nat) : One → Bool
  | .leaf x => x.below m
  | .agg l => l.all (Leaf.below m)
  | .fn _ l => l.all (Leaf.below m)
def AV.below (m : Nat) : AV → Bool
  | .one x => x.below m
  | .tup l => l.all (One.below m)
def Leaf.cell : Leaf → Bool
  | .val v => v.oneCell'
  | _ => true
theorem Leaf.cell_conc {x : Leaf} (h : x.cell = true) (E : Env) : (x.conc E).oneCell' = true := by
  cases x <;> first | exact h | rfl
def Env.same (m : Nat) (E E' : Env) : Prop := ∀ b, b < m → E'.φ b = E.φ b ∧ E'.κ b = E.κ b
theorem Env.same_refl (m : Nat) (E : Env) : Env.same m E E := fun _ _ => ⟨rfl, rfl⟩
theorem blt_lt {a b : Nat} (h : Nat.blt a b = true) : a < b := Nat.le_of_ble_eq_true h
theorem lt_blt {a b : Nat} (h : a < b) : Nat.blt a b = true := Nat.ble_eq_true_of_le h
section
variable {E E' : Env} {m m' : Nat}
theorem Leaf.conc_same (h : Env.same m E E') {x : Leaf} (hx : x.below m = true) : x.conc E' = x.conc E := by
  cases x with
  | val v => rfl
  | ptr b o => simp only [Leaf.conc, (h b (blt_lt hx)).1]
  | sl b o lo n => simp only [Leaf.conc, (h b (blt_lt hx)).1, (h b (blt_lt hx)).2]
  | emp b o => simp only [Leaf.conc, (h b (blt_lt hx)).1]
  | mp b => simp only [Leaf.conc, (h b (blt_lt hx)).1]
theorem Leaf.map_same (h : Env.same m E E') {l : List Leaf} (hl : l.all (Leaf.below m) = true) : l.map (Leaf.conc E') = l.map (Leaf.conc E) :=
  List.map_congr_left fun _ hx => Leaf.conc_same h (List.all_eq_true.1 hl _ hx)
theorem One.conc_same (h : Env.same m E E') {x : One} (hx : x.below m = true) : x.conc E' = x.conc E := by
  cases x with
  | leaf x => exact Leaf.conc_same h hx
  | agg l => simp only [One.conc, Leaf.map_same h hx]
  | fn f l => simp only [One.conc, Leaf.map_same h hx]
theorem AV.conc_same (h : Env.same m E E') {x : AV} (hx : x.below m = true) : x.conc E' = x.conc E := by
  cases x with
  | one x => exact One.conc_same h hx
  | tup l => simp only [AV.conc]; congr 2; exact List.map_congr_left fun _ hx' => One.conc_same h (List.all_eq_true.1 hx _ hx')
theorem Leaf.below_mono (h : m ≤ m') {x : Leaf} (hx : x.below m = true) : x.below m' = true := by
  cases x with
  | val v => rfl
  | ptr b o => exact lt_blt (Nat.lt_of_lt_of_le (blt_lt hx) h)
  | sl b o lo n => exact lt_blt (Nat.lt_of_lt_of_le (blt_lt hx) h)
  | emp b o => exact lt_blt (Nat.lt_of_lt_of_le (blt_lt hx) h)
  | mp b => exact lt_blt (Nat.lt_of_lt_of_le (blt_lt hx) h)
theorem Leaf.all_mono (h : m ≤ m') {l : List Leaf} (hl : l.all (Leaf.below m) = true) : l.all (Leaf.below m') = true :=
  List.all_eq_true.2 fun x hx => Leaf.below_mono h (List.all_eq_true.1 hl x hx)
theorem One.below_mono (h : m ≤ m') {x : One} (hx : x.below m = true) : x.below m' = true := by
  cases x with
  | leaf x => exact Leaf.below_mono h hx
  | agg l => exact Leaf.all_mono h hx
  | fn f l => exact Leaf.all_mono h hx
theorem AV.below_mono (h : m ≤ m') {x : AV} (hx : x.below m = true) : x.below m' = true := by
  cases x with
  | one x => exact One.below_mono h hx
  | tup l => exact List.all_eq_true.2 fun y hy => One.below_mono h (List.all_eq_true.1 hx y hy)
end
/-- a value of which nothing points, in parts -/
def normOne : Value → One
  | .agg cs => .agg (cs.toList.map .val)
  | .func (.func f) first caps => cond first.isEmpty (.fn f (caps.toList.map .val)) (.leaf (.val (.func (.func f) first caps)))
  | v => .leaf (.val v)
def norm : Value → AV
  | .tuple vs => .tup (vs.toList.map normOne)
  | v => .one (normOne v)
theorem conc_vals (E : Env) (l : List Value) : (l.map Leaf.val).map (Leaf.conc E) = l := by
  rw [List.map_map]; exact List.map_id l
theorem conc_normOne (E : Env) (v : Value) : (normOne v).conc E = v := by
  unfold normOne
  split
  · simp only [One.conc, conc_vals, Array.toArray_toList]
  · rename_i f first caps
    cases h : first.isEmpty with
    | true => simp only [cond, One.conc, conc_vals, Array.toArray_toList]; rw [Array.isEmpty_iff.1 h]
    | false => rfl
  · rfl
theorem conc_norm (E : Env) (v : Value) : (norm v).conc E = v := by
  unfold norm
  split
  · simp only [AV.conc, List.map_map]
    rw [show ((One.conc E) ∘ normOne) = id from funext fun v => conc_normOne E v, List.map_id, Array.toArray_toList]
  · exact conc_normOne E _
theorem below_vals (m : Nat) (l : List Value) : (l.map Leaf.val).all (Leaf.below m) = true := List.all_eq_true.2 fun x hx => by
  obtain ⟨v, -, rfl⟩ := List.mem_map.1 hx; rfl
theorem below_normOne (m : Nat) (v : Value) : (normOne v).below m = true := by
  unfold normOne
  split
  · exact below_vals m _
  · rename_i f first caps
    cases h : first.isEmpty with
    | true => exact below_vals m _
    | false => rfl
  · rfl
theorem below_norm (m : Nat) (v : Value) : (norm v).below m = true := by
  unfold norm
  split
  · exact List.all_eq_true.2 fun x hx => by obtain ⟨v, -, rfl⟩ := List.mem_map.1 hx; exact below_normOne m v
  · exact below_normOne m _

inductive Xblk where
  | dead
  | row (t k : Nat) (cs : List Leaf)
structure St where
  bl : Tr Xblk
  nx : Nat
  wr : List Nat
/-- the row i as the state has it -/
def RowOk (E : Env) (w : World) (i t k : Nat) (cs : List Leaf) : Prop :=
  ∃ cur : Array Value, w.heap[E.φ i]? = some (.cells cur t (0, 0)) ∧ cur.size = E.κ i * k ∧ E.κ i ≤ maxLen ∧ cur.toList.take cs.length = cs.map (Leaf.conc E)
structure Rep (B : Nat) (w0 : World) (E : Env) (st : St) (w : World) : Prop where
  base : B ≤ w0.heap.size
  below : Below B w0 w
  top : ∀ i, st.nx ≤ i → ∀ t k cs, st.bl.get i ≠ some (.row t k cs)
  ok : ∀ i t k cs, st.bl.get i = some (.row t k cs) → RowOk E w i t k cs ∧ B ≤ E.φ i ∧ cs.all (Leaf.below st.nx) = true ∧ cs.all Leaf.cell = true
  inj : ∀ i j t k cs t' k' cs', st.bl.get i = some (.row t k cs) → st.bl.get j = some (.row t' k' cs') → E.φ i = E.φ j → i = j
structure Ext (E : Env) (st : St) (E' : Env) (st' : St) : Prop where
  nx : st.nx ≤ st'.nx
  env : Env.same st.nx E E'
  wr : ∀ b, b ∈ st.wr → b ∈ st'.wr
  bl : ∀ b, b < st.nx → b ∉ st'.wr → st'.bl.get b = st.bl.get b
theorem Ext.refl (E : Env) (st : St) : Ext E st E st := ⟨Nat.le_refl _, Env.same_refl _ _, fun _ h => h, fun _ _ _ => rfl⟩
theorem Ext.trans {E E' E'' : Env} {st st' st'' : St} (h : Ext E st E' st') (k : Ext E' st' E'' st'') : Ext E st E'' st'' :=
  ⟨Nat.le_trans h.nx k.nx, fun b hb => ⟨((k.env b (Nat.lt_of_lt_of_le hb h.nx)).1).trans (h.env b hb).1, ((k.env b (Nat.lt_of_lt_of_le hb h.nx)).2).trans (h.env b hb).2⟩,
    fun b hb => k.wr b (h.wr b hb), fun b hb hw => (k.bl b (Nat.lt_of_lt_of_le hb h.nx) hw).trans (h.bl b hb fun hh => hw (k.wr b hh))⟩
theorem Rep.lt {B : Nat} {w0 : World} {E : Env} {st : St} {w : World} (h : Rep B w0 E st w) {i t k : Nat} {cs : List Leaf} (hi : st.bl.get i = some (.row t k cs)) : i < st.nx :=
  Nat.lt_of_not_le fun hn => h.top i hn t k cs hi
theorem Rep.drew {B : Nat} {w0 : World} {E : Env} {st : St} {w : World} (h : Rep B w0 E st w) : Rep B w0 E st w.drew :=
  ⟨h.base, h.below.drew, h.top, h.ok, h.inj⟩
theorem Rep.mem {B : Nat} {w0 : World} {E : Env} {st : St} {w : World} (h : Rep B w0 E st w) {i t k : Nat} {cs : List Leaf} (hi : st.bl.get i = some (.row t k cs)) : E.φ i < w.heap.size := by
  obtain ⟨⟨cur, hg, -⟩, -⟩ := h.ok i t k cs hi
  exact (Array.getElem?_eq_some_iff.1 hg).1
/-- a new row -/
theorem Rep.push {B : Nat} {w0 : World} {E : Env} {st : St} {w : World} (h : Rep B w0 E st w) {t k c : Nat} {cs : List Leaf} {cur : Array Value} {bl' : Tr Xblk}
    (hs : st.bl.set st.nx (.row t k cs) = some bl') (hz : cur.size = c * k) (hc : c ≤ maxLen) (ht : cur.toList.take cs.length = cs.map (Leaf.conc E))
    (hb : cs.all (Leaf.below st.nx) = true) (h1 : cs.all Leaf.cell = true) :
    Rep B w0 ⟨fun i => if i = st.nx then w.heap.size else E.φ i, fun i => if i = st.nx then c else E.κ i⟩ ⟨bl', st.nx + 1, st.wr⟩ (w.alloc (.cells cur t)) ∧
      Ext E st ⟨fun i => if i = st.nx then w.heap.size else E.φ i, fun i => if i = st.nx then c else E.κ i⟩ ⟨bl', st.nx + 1, st.wr⟩ := by
  have hget := Tr.get_set _ _ _ _ hs
  have hsame : Env.same st.nx E ⟨fun i => if i = st.nx then w.heap.size else E.φ i, fun i => if i = st.nx then c else E.κ i⟩ := fun b hb => by
    have : b ≠ st.nx := by omega
    simp [this]
  have hB : B ≤ w.heap.size := Nat.le_trans h.base h.below.size
  refine ⟨⟨h.base, h.below.alloc hB _, ?_, ?_, ?_⟩, ⟨Nat.le_succ _, hsame, fun _ h => h, fun b hb hw => ?_⟩⟩
  · intro i hi t' k' cs' e
    rw [hget, if_neg (by simp at hi; omega)] at e
    exact h.top i (by simp at hi; omega) _ _ _ e
  · intro i t' k' cs' e
    rw [hget] at e
    split at e
    · rename_i hi
      subst hi
      injection e with e
      injection e with e1 e2 e3
      subst e1 e2 e3
      refine ⟨⟨cur, ?_, ?_, ?_, ?_⟩, ?_, Leaf.all_mono (Nat.le_succ _) hb, h1⟩
      · simp only [if_true]
        exact heap_alloc_new w _
      · simpa using hz
      · simpa using hc
      · rw [ht, Leaf.map_same hsame hb]
      · simpa using hB
    · rename_i hi
      obtain ⟨⟨cur', hg, g1, g2, g3⟩, g4, g5, g6⟩ := h.ok i t' k' cs' e
      have hlt := h.lt e
      refine ⟨⟨cur', ?_, ?_, ?_, ?_⟩, ?_, Leaf.all_mono (Nat.le_succ _) g5, g6⟩
      · simp only [hi, if_false]
        rw [Below.heap_alloc w _ _ (h.mem e)]
        exact hg
      · simpa [hi] using g1
      · simpa [hi] using g2
      · rw [g3, Leaf.map_same hsame g5]
      · simpa [hi] using g4
  · intro i j t1 k1 c1 t2 k2 c2 e1 e2 e
    rw [hget] at e1 e2
    split at e1 <;> split at e2 <;> rename_i hi hj
    · rw [hi, hj]
    · exfalso
      have := h.mem e2
      simp only [hi, hj, if_true, if_false] at e
      omega
    · exfalso
      have := h.mem e1
      simp only [hi, hj, if_true, if_false] at e
      omega
    · simp only [hi, hj, if_false] at e
      exact h.inj i j _ _ _ _ _ _ e1 e2 e
  · simp only
    rw [hget, if_neg (by omega)]
/-- cells of a row written anew -/
theorem Rep.write {B : Nat} {w0 : World} {E : Env} {st : St} {w : World} (h : Rep B w0 E st w) {i t k : Nat} {cs cs' : List Leaf} {cur cur' : Array Value} {bl' : Tr Xblk}
    (hi : st.bl.get i = some (.row t k cs)) (hs : st.bl.set i (.row t k cs') = some bl') (hg : w.heap[E.φ i]? = some (.cells cur t (0, 0))) (hz : cur'.size = cur.size)
    (ht : cur'.toList.take cs'.length = cs'.map (Leaf.conc E)) (hb : cs'.all (Leaf.below st.nx) = true) (h1 : cs'.all Leaf.cell = true) :
    Rep B w0 E ⟨bl', st.nx, i :: st.wr⟩ (w.setRow (E.φ i) cur') ∧ Ext E st E ⟨bl', st.nx, i :: st.wr⟩ := by
  have hget := Tr.get_set _ _ _ _ hs
  obtain ⟨⟨cur0, hg0, z0, z1, z2⟩, hB, -, -⟩ := h.ok i t k cs hi
  have hc0 : cur0 = cur := by rw [hg0] at hg; injection hg with hg; injection hg
  subst hc0
  have hmem := h.mem hi
  refine ⟨⟨h.base, ?_, ?_, ?_, ?_⟩, ⟨Nat.le_refl _, Env.same_refl _ _, fun _ h => List.mem_cons_of_mem _ h, fun b hb hw => ?_⟩⟩
  · exact ⟨h.below.os, h.below.tape, h.below.output, by simpa [World.setRow] using h.below.size, fun k hk => (setRow_other w _ _ _ (by omega)).trans (h.below.block k hk)⟩
  · intro j hj t' k' c' e
    rw [hget] at e
    split at e
    · rename_i hji
      exact h.top i (by rw [← hji]; exact hj) _ _ _ hi
    · exact h.top j hj _ _ _ e
  · intro j t' k' c' e
    rw [hget] at e
    split at e
    · rename_i hji
      subst hji
      injection e with e
      injection e with e1 e2 e3
      subst e1 e2 e3
      exact ⟨⟨cur', setRow_heap w _ _ _ _ _ hg, by rw [hz, z0], z1, ht⟩, hB, hb, h1⟩
    · rename_i hji
      obtain ⟨⟨cur2, hg2, g1, g2, g3⟩, g4, g5, g6⟩ := h.ok j t' k' c' e
      exact ⟨⟨cur2, (setRow_other w _ _ _ (fun he => hji (h.inj _ _ _ _ _ _ _ _ e hi he))).trans hg2, g1, g2, g3⟩, g4, g5, g6⟩
  · intro a b t1 k1 c1 t2 k2 c2 e1 e2 e
    rw [hget] at e1 e2
    split at e1 <;> split at e2 <;> rename_i ha hb
    · rw [ha, hb]
    · subst ha; exact h.inj _ _ _ _ _ _ _ _ hi e2 e
    · subst hb; exact h.inj _ _ _ _ _ _ _ _ e1 hi e
    · exact h.inj _ _ _ _ _ _ _ _ e1 e2 e
  · simp only
    rw [hget, if_neg (fun e => hw (by rw [e]; exact List.mem_cons_self))]
end Go.Proofs.YtgaiibkkompbnaaGreatDoor
