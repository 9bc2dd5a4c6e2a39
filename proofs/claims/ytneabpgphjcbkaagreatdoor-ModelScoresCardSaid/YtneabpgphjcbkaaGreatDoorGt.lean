/-
  Owned rows and sums of terms.
-/
import Derived.Test.YtneabpgphjcbkaaGreatDoorSl
import Derived.Deep.AppendLies
namespace Go.Proofs.YtneabpgphjcbkaaGreatDoor
open Go.RowKit

/-- the cells cs hold the elements xs, k cells each -/
def Enc {α : Type} (k : Nat) (E : Cl → List Value → α → Prop) (C : Cl) (cs : List Value) (xs : List α) : Prop :=
  cs.length = xs.length * k ∧ ∀ (i : Nat) x, xs[i]? = some x → E C ((cs.drop (i * k)).take k) x
/-- an element in memory, and its cells as a list -/
structure Cells {α : Type} (k : Nat) (R : Cl → Nat → Nat → α → Prop) (E : Cl → List Value → α → Prop) : Prop where
  pos : 0 < k
  down : ∀ {C b o x}, R C b o x → ∃ cs : List Value, cs.length = k ∧ E C cs x ∧ ∀ (i : Nat) u, cs[i]? = some u → C ⟨b, o + i, none⟩ = some u
  up : ∀ {C b o x} {cs : List Value}, E C cs x → (∀ (i : Nat) u, cs[i]? = some u → C ⟨b, o + i, none⟩ = some u) → R C b o x
  keep : ∀ {C C' cs x}, E C cs x → Keeps C C' → E C' cs x
  one : ∀ {C cs x}, E C cs x → ∀ u ∈ cs, u.oneCell' = true
  len : ∀ {C cs x}, E C cs x → cs.length = k

section
variable {α : Type} {k : Nat} {R : Cl → Nat → Nat → α → Prop} {E : Cl → List Value → α → Prop}
theorem Enc.nil (k : Nat) (E : Cl → List Value → α → Prop) (C : Cl) : Enc k E C [] ([] : List α) := ⟨by simp, fun i x hx => by simp at hx⟩
theorem Enc.keep (L : Cells k R E) {C C' : Cl} {cs : List Value} {xs : List α} (h : Enc k E C cs xs) (hk : Keeps C C') : Enc k E C' cs xs := ⟨h.1, fun i x hx => L.keep (h.2 i x hx) hk⟩
theorem Enc.append {C : Cl} {cs ds : List Value} {xs ys : List α} (h : Enc k E C cs xs) (h' : Enc k E C ds ys) : Enc k E C (cs ++ ds) (xs ++ ys) := by
  refine ⟨by rw [List.length_append, List.length_append, h.1, h'.1, Nat.add_mul], fun i x hx => ?_⟩
  by_cases hi : i < xs.length
  · rw [List.getElem?_append_left hi] at hx
    have h2 := h.2 i x hx
    have h3 : i * k + k ≤ cs.length := by rw [h.1, ← Nat.succ_mul]; exact Nat.mul_le_mul_right k hi
    rwa [List.drop_append_of_le_length (by omega), List.take_append_of_le_length (by rw [List.length_drop]; omega)]
  · rw [List.getElem?_append_right (by omega)] at hx
    have h2 := h'.2 _ x hx
    have h3 : i * k - cs.length = (i - xs.length) * k := by rw [h.1, Nat.sub_mul]
    rw [List.drop_append, List.drop_of_length_le (by rw [h.1]; exact Nat.mul_le_mul_right k (by omega)), List.nil_append, h3]
    exact h2
theorem Enc.single (L : Cells k R E) {C : Cl} {cs : List Value} {x : α} (h : E C cs x) : Enc k E C cs [x] := by
  refine ⟨by rw [L.len h]; simp, fun i y hy => ?_⟩
  cases i with
  | zero =>
    simp at hy; subst hy
    rw [Nat.zero_mul, List.drop_zero, List.take_of_length_le (by rw [L.len h]; exact Nat.le_refl _)]
    exact h
  | succ i => simp at hy
theorem Enc.one (L : Cells k R E) {C : Cl} {cs : List Value} {xs : List α} (h : Enc k E C cs xs) : ∀ u ∈ cs, u.oneCell' = true := by
  intro u hu
  obtain ⟨j, hj⟩ := List.getElem?_of_mem hu
  have hjl := (List.getElem?_eq_some_iff.1 hj).1
  rw [h.1] at hjl
  have hq : j / k < xs.length := by rw [Nat.div_lt_iff_lt_mul L.pos]; exact hjl
  have h2 := h.2 (j / k) _ (List.getElem?_eq_getElem hq)
  refine L.one h2 u (List.mem_of_getElem? (i := j % k) ?_)
  rw [List.getElem?_take_of_lt (Nat.mod_lt _ L.pos), List.getElem?_drop, Nat.div_add_mod']
  exact hj
theorem Enc.take {C : Cl} {cs : List Value} {xs : List α} (h : Enc k E C cs xs) (m : Nat) : Enc k E C (cs.take (m * k)) (xs.take m) := by
  refine ⟨?_, fun i x hx => ?_⟩
  · rw [List.length_take, List.length_take, h.1, ← Nat.mul_min_mul_right]
  · have hi : i < m := by
      have := (List.getElem?_eq_some_iff.1 hx).1
      rw [List.length_take] at this; omega
    rw [List.getElem?_take_of_lt hi] at hx
    have h2 := h.2 i x hx
    have h3 : i * k + k ≤ m * k := by rw [← Nat.succ_mul]; exact Nat.mul_le_mul_right k hi
    rw [List.drop_take, List.take_take, Nat.min_eq_left (by omega)]
    exact h2
theorem Enc.drop {C : Cl} {cs : List Value} {xs : List α} (h : Enc k E C cs xs) (m : Nat) : Enc k E C (cs.drop (m * k)) (xs.drop m) := by
  refine ⟨by rw [List.length_drop, List.length_drop, h.1, Nat.sub_mul], fun i x hx => ?_⟩
  rw [List.getElem?_drop] at hx
  have h2 := h.2 _ x hx
  rw [List.drop_drop, ← Nat.add_mul]
  exact h2
/-- the cells of a slice that reads -/
theorem Rws.cells (L : Cells k R E) {C : Cl} {v : Value} {xs : List α} (h : Rws k R C v xs) : ∃ cs, Enc k E C cs xs ∧ ∃ A c, v = .slice A xs.length c ∧ xs.length ≤ c ∧ c ≤ maxLen ∧ xs.length ≤ 1000000 ∧
    (0 < xs.length → ∃ b o, A = some ⟨b, o, none⟩ ∧ ∀ (j : Nat) u, cs[j]? = some u → C ⟨b, o + j, none⟩ = some u) := by
  obtain ⟨A, c, e, h1, h2, h5, h3⟩ := h
  rcases Nat.eq_zero_or_pos xs.length with h0 | h0
  · have : xs = [] := List.length_eq_zero_iff.1 h0
    subst this
    exact ⟨[], Enc.nil k E C, A, c, e, h1, h2, h5, fun h => by omega⟩
  · obtain ⟨b, o, rfl, hc⟩ := h3 h0
    have hex : ∀ i : Nat, ∃ cs : List Value, ∀ x, xs[i]? = some x → cs.length = k ∧ E C cs x ∧ ∀ (t : Nat) u, cs[t]? = some u → C ⟨b, o + i * k + t, none⟩ = some u := by
      intro i
      cases hx : xs[i]? with
      | none => exact ⟨[], fun x h => by cases h⟩
      | some x =>
        obtain ⟨cs, h6, h7, h8⟩ := L.down (hc i x hx)
        exact ⟨cs, fun y hy => by injection hy with hy; subst hy; exact ⟨h6, h7, h8⟩⟩
    have key : ∀ m, m ≤ xs.length → ∃ cs, Enc k E C cs (xs.take m) ∧ ∀ (j : Nat) u, cs[j]? = some u → C ⟨b, o + j, none⟩ = some u := by
      intro m
      induction m with
      | zero => intro _; exact ⟨[], Enc.nil k E C, fun j u h => by simp at h⟩
      | succ m ih =>
        intro hm
        obtain ⟨cs, h6, h7⟩ := ih (by omega)
        obtain ⟨ds, h8⟩ := hex m
        have hx : xs[m]? = some xs[m] := List.getElem?_eq_getElem (by omega)
        obtain ⟨h9, h10, h11⟩ := h8 _ hx
        refine ⟨cs ++ ds, ?_, fun j u hu => ?_⟩
        · rw [List.take_add_one, hx]
          exact h6.append (Enc.single L h10)
        · have hl : cs.length = m * k := by rw [h6.1, List.length_take, Nat.min_eq_left (by omega)]
          by_cases hj : j < cs.length
          · rw [List.getElem?_append_left hj] at hu; exact h7 j u hu
          · rw [List.getElem?_append_right (by omega)] at hu
            have := h11 _ u hu
            rw [show o + m * k + (j - cs.length) = o + j by omega] at this
            exact this
    obtain ⟨cs, h6, h7⟩ := key xs.length (Nat.le_refl _)
    rw [List.take_of_length_le (Nat.le_refl _)] at h6
    exact ⟨cs, h6, some ⟨b, o, none⟩, c, e, h1, h2, h5, fun _ => ⟨b, o, rfl, h7⟩⟩
/-- a row that the call owns, and what its cells hold -/
def Ow {α : Type} (k : Nat) (E : Cl → List Value → α → Prop) (T : TypeId) (w : World) (C : Cl) (base : Nat) (v : Value) (xs : List α) : Prop :=
  ∃ cs, w.ownsRow base T k v xs.length cs ∧ Enc k E C cs xs ∧ xs.length ≤ 1000000
theorem Ow.nil (k : Nat) (E : Cl → List Value → α → Prop) (T : TypeId) (w : World) (C : Cl) (base : Nat) : Ow k E T w C base (.slice none 0 0) ([] : List α) := ⟨[], World.ownsRow_nil _ _ _ _, Enc.nil k E C, Nat.zero_le _⟩
/-- an owned row reads -/
theorem Ow.rws (L : Cells k R E) {T : TypeId} {w : World} {C : Cl} {base : Nat} {v : Value} {xs : List α} (h : Ow k E T w C base v xs) (hk : Keeps C w.cell?) : Rws k R w.cell? v xs := by
  obtain ⟨cs, ho, he, hl⟩ := h
  rcases ho.2 with ⟨rfl, h0⟩ | ⟨g, cap, cur, rfl, -, hg, h1, h2, h3, h4⟩
  · have : xs = [] := List.length_eq_zero_iff.1 h0
    subst this; exact Rws.nil _ _ _
  · refine ⟨some ⟨g, 0, none⟩, cap, rfl, h1, h2, hl, fun h0 => ⟨g, 0, rfl, fun i x hx => ?_⟩⟩
    refine L.up (L.keep (he.2 i x hx) hk) fun t u hu => ?_
    have ht : t < k := by
      have := (List.getElem?_eq_some_iff.1 hu).1
      rw [List.length_take] at this; omega
    rw [List.getElem?_take_of_lt ht, List.getElem?_drop] at hu
    have := ho.cells (g := g) rfl _ u hu
    rw [Addr.add_lit] at this
    rwa [Nat.zero_add] at this ⊢
theorem Ow.below {T : TypeId} {w w' : World} {C C' : Cl} {base : Nat} {v : Value} {xs : List α} (L : Cells k R E) (h : Ow k E T w C base v xs) (hb : Below w.heap.size w w') (hk : Keeps C C') : Ow k E T w' C' base v xs := by
  obtain ⟨cs, ho, he, hl⟩ := h
  exact ⟨cs, own_below ho hb, he.keep L hk, hl⟩
end

def ETerm (_ : Cl) (cs : List Value) (x : LTerm) : Prop := cs = [.string x.sym, .int .i64 x.n]
def ESym (_ : Cl) (cs : List Value) (x : LSym) : Prop := cs = [.string x.name, .int .i64 x.lo, .int .i64 x.hi]
def EInt (_ : Cl) (cs : List Value) (x : Int) : Prop := cs = [.int .i64 x]
def EBool (_ : Cl) (cs : List Value) (x : Bool) : Prop := cs = [.bool x]
def EStr (_ : Cl) (cs : List Value) (x : ByteArray) : Prop := cs = [.string x]
def EAxis (C : Cl) (cs : List Value) (x : LAxis) : Prop := ∃ tv, cs = [.string x.name, .int .i64 x.size.base, tv] ∧ RTerms C tv x.size.terms
def EShape (C : Cl) (cs : List Value) (x : List LAxis) : Prop := ∃ tv, cs = [tv] ∧ RAxes C tv x
def ENode (C : Cl) (cs : List Value) (x : LNode) : Prop := ∃ v1 v3 v5 v10 v11,
  cs = [.int .i64 x.op, v1, .string x.name, v3, .string x.axis, v5, .int .i64 x.lo, .int .i64 x.hi, .int .i64 x.n, .int .i64 x.m, v10, v11] ∧
  RInts C v1 x.args ∧ RAxes C v3 x.axes ∧ RStrs C v5 x.to ∧ RInts C v10 x.data ∧ RInts C v11 x.subs
def EGraph (d : Nat) (C : Cl) (cs : List Value) : LGraph → Prop
  | .mk name syms nodes outs subs => ∃ v1 v2 v3 v4, cs = [.string name, v1, v2, v3, v4] ∧ RSyms C v1 syms ∧ RNodes C v2 nodes ∧ RInts C v3 outs ∧ RGraphs d C v4 subs
theorem Rws.one {k : Nat} {α : Type} {E : Cl → Nat → Nat → α → Prop} {C : Cl} {v : Value} {xs : List α} (h : Rws k E C v xs) : v.oneCell' = true := by
  obtain ⟨A, c, rfl, -⟩ := h; rfl
theorem cellsTerm : Cells 2 RTerm ETerm where
  pos := by decide
  down := fun {C b o x} h => ⟨_, rfl, rfl, fun i u hu => by
    obtain ⟨h0, h1⟩ := h
    match i, hu with
    | 0, hu => simp at hu; subst hu; exact h0
    | 1, hu => simp at hu; subst hu; exact h1
    | i + 2, hu => simp at hu⟩
  up := fun {C b o x cs} h hc => by subst h; exact ⟨hc 0 _ rfl, hc 1 _ rfl⟩
  keep := fun h _ => h
  one := fun h u hu => by subst h; simp at hu; rcases hu with rfl | rfl <;> rfl
  len := fun h => by subst h; rfl
theorem cellsSym : Cells 3 RSym ESym where
  pos := by decide
  down := fun {C b o x} h => ⟨_, rfl, rfl, fun i u hu => by
    obtain ⟨h0, h1, h2⟩ := h
    match i, hu with
    | 0, hu => simp at hu; subst hu; exact h0
    | 1, hu => simp at hu; subst hu; exact h1
    | 2, hu => simp at hu; subst hu; exact h2
    | i + 3, hu => simp at hu⟩
  up := fun {C b o x cs} h hc => by subst h; exact ⟨hc 0 _ rfl, hc 1 _ rfl, hc 2 _ rfl⟩
  keep := fun h _ => h
  one := fun h u hu => by subst h; simp at hu; rcases hu with rfl | rfl | rfl <;> rfl
  len := fun h => by subst h; rfl
theorem cellsInt : Cells 1 RInt EInt where
  pos := by decide
  down := fun {C b o x} h => ⟨_, rfl, rfl, fun i u hu => by
    match i, hu with
    | 0, hu => simp at hu; subst hu; exact h
    | i + 1, hu => simp at hu⟩
  up := fun {C b o x cs} h hc => by subst h; exact hc 0 _ rfl
  keep := fun h _ => h
  one := fun h u hu => by subst h; simp at hu; rcases hu with rfl; rfl
  len := fun h => by subst h; rfl
theorem cellsBool : Cells 1 RBool EBool where
  pos := by decide
  down := fun {C b o x} h => ⟨_, rfl, rfl, fun i u hu => by
    match i, hu with
    | 0, hu => simp at hu; subst hu; exact h
    | i + 1, hu => simp at hu⟩
  up := fun {C b o x cs} h hc => by subst h; exact hc 0 _ rfl
  keep := fun h _ => h
  one := fun h u hu => by subst h; simp at hu; rcases hu with rfl; rfl
  len := fun h => by subst h; rfl
theorem cellsStr : Cells 1 RStr EStr where
  pos := by decide
  down := fun {C b o x} h => ⟨_, rfl, rfl, fun i u hu => by
    match i, hu with
    | 0, hu => simp at hu; subst hu; exact h
    | i + 1, hu => simp at hu⟩
  up := fun {C b o x cs} h hc => by subst h; exact hc 0 _ rfl
  keep := fun h _ => h
  one := fun h u hu => by subst h; simp at hu; rcases hu with rfl; rfl
  len := fun h => by subst h; rfl
theorem cellsAxis : Cells 3 RAxis EAxis where
  pos := by decide
  down := fun {C b o x} h => by
    obtain ⟨h0, h1, tv, h2, ht⟩ := h
    refine ⟨_, rfl, ⟨tv, rfl, ht⟩, fun i u hu => ?_⟩
    match i, hu with
    | 0, hu => simp at hu; subst hu; exact h0
    | 1, hu => simp at hu; subst hu; exact h1
    | 2, hu => simp at hu; subst hu; exact h2
    | i + 3, hu => simp at hu
  up := fun {C b o x cs} h hc => by obtain ⟨tv, rfl, ht⟩ := h; exact ⟨hc 0 _ rfl, hc 1 _ rfl, tv, hc 2 _ rfl, ht⟩
  keep := fun h k => by obtain ⟨tv, e, ht⟩ := h; exact ⟨tv, e, ht.keep k⟩
  one := fun h u hu => by obtain ⟨tv, rfl, ht⟩ := h; simp at hu; rcases hu with rfl | rfl | rfl; rfl; rfl; exact Rws.one ht
  len := fun h => by obtain ⟨tv, rfl, ht⟩ := h; rfl
theorem cellsShape : Cells 1 RShape EShape where
  pos := by decide
  down := fun {C b o x} h => by
    obtain ⟨v, h0, ht⟩ := h
    refine ⟨_, rfl, ⟨v, rfl, ht⟩, fun i u hu => ?_⟩
    match i, hu with
    | 0, hu => simp at hu; subst hu; exact h0
    | i + 1, hu => simp at hu
  up := fun {C b o x cs} h hc => by obtain ⟨tv, rfl, ht⟩ := h; exact ⟨tv, hc 0 _ rfl, ht⟩
  keep := fun h k => by obtain ⟨tv, e, ht⟩ := h; exact ⟨tv, e, ht.keep k⟩
  one := fun h u hu => by obtain ⟨tv, rfl, ht⟩ := h; simp at hu; rcases hu with rfl; exact Rws.one ht
  len := fun h => by obtain ⟨tv, rfl, ht⟩ := h; rfl
theorem cellsNode : Cells 12 RNode ENode where
  pos := by decide
  down := fun {C b o x} h => by
    obtain ⟨v1, v3, v5, v10, v11, ⟨c0, c1, c2, c3, c4, c5, c6, c7, c8, c9, c10, c11⟩, h1, h3, h5, h10, h11⟩ := h
    refine ⟨_, rfl, ⟨v1, v3, v5, v10, v11, rfl, h1, h3, h5, h10, h11⟩, fun i u hu => ?_⟩
    match i, hu with
    | 0, hu => simp at hu; subst hu; exact c0
    | 1, hu => simp at hu; subst hu; exact c1
    | 2, hu => simp at hu; subst hu; exact c2
    | 3, hu => simp at hu; subst hu; exact c3
    | 4, hu => simp at hu; subst hu; exact c4
    | 5, hu => simp at hu; subst hu; exact c5
    | 6, hu => simp at hu; subst hu; exact c6
    | 7, hu => simp at hu; subst hu; exact c7
    | 8, hu => simp at hu; subst hu; exact c8
    | 9, hu => simp at hu; subst hu; exact c9
    | 10, hu => simp at hu; subst hu; exact c10
    | 11, hu => simp at hu; subst hu; exact c11
    | i + 12, hu => simp at hu
  up := fun {C b o x cs} h hc => by
    obtain ⟨v1, v3, v5, v10, v11, rfl, h1, h3, h5, h10, h11⟩ := h
    exact ⟨v1, v3, v5, v10, v11, ⟨hc 0 _ rfl, hc 1 _ rfl, hc 2 _ rfl, hc 3 _ rfl, hc 4 _ rfl, hc 5 _ rfl, hc 6 _ rfl, hc 7 _ rfl, hc 8 _ rfl, hc 9 _ rfl, hc 10 _ rfl, hc 11 _ rfl⟩, h1, h3, h5, h10, h11⟩
  keep := fun h k => by
    obtain ⟨v1, v3, v5, v10, v11, e, h1, h3, h5, h10, h11⟩ := h
    exact ⟨v1, v3, v5, v10, v11, e, h1.keep k, h3.keep k, h5.keep k, h10.keep k, h11.keep k⟩
  one := fun h u hu => by
    obtain ⟨v1, v3, v5, v10, v11, rfl, h1, h3, h5, h10, h11⟩ := h
    simp at hu
    rcases hu with rfl | rfl | rfl | rfl | rfl | rfl | rfl | rfl | rfl | rfl | rfl | rfl
    all_goals first | rfl | exact Rws.one h1 | exact Rws.one h3 | exact Rws.one h5 | exact Rws.one h10 | exact Rws.one h11
  len := fun h => by obtain ⟨v1, v3, v5, v10, v11, rfl, -⟩ := h; rfl
theorem cellsGraph (d : Nat) : Cells 5 (RGraph (d + 1)) (EGraph d) where
  pos := by decide
  down := fun {C b o x} h => by
    obtain ⟨name, syms, nodes, outs, subs⟩ := x
    obtain ⟨v1, v2, v3, v4, ⟨c0, c1, c2, c3, c4⟩, h1, h2, h3, h4⟩ := h
    refine ⟨_, rfl, ⟨v1, v2, v3, v4, rfl, h1, h2, h3, h4⟩, fun i u hu => ?_⟩
    match i, hu with
    | 0, hu => simp at hu; subst hu; exact c0
    | 1, hu => simp at hu; subst hu; exact c1
    | 2, hu => simp at hu; subst hu; exact c2
    | 3, hu => simp at hu; subst hu; exact c3
    | 4, hu => simp at hu; subst hu; exact c4
    | i + 5, hu => simp at hu
  up := fun {C b o x cs} h hc => by
    obtain ⟨name, syms, nodes, outs, subs⟩ := x
    obtain ⟨v1, v2, v3, v4, rfl, h1, h2, h3, h4⟩ := h
    exact ⟨v1, v2, v3, v4, ⟨hc 0 _ rfl, hc 1 _ rfl, hc 2 _ rfl, hc 3 _ rfl, hc 4 _ rfl⟩, h1, h2, h3, h4⟩
  keep := fun {C C' cs x} h k => by
    obtain ⟨name, syms, nodes, outs, subs⟩ := x
    obtain ⟨v1, v2, v3, v4, e, h1, h2, h3, h4⟩ := h
    exact ⟨v1, v2, v3, v4, e, h1.keep k, h2.keep k, h3.keep k, h4.keep k⟩
  one := fun {C cs x} h u hu => by
    obtain ⟨name, syms, nodes, outs, subs⟩ := x
    obtain ⟨v1, v2, v3, v4, rfl, h1, h2, h3, h4⟩ := h
    simp at hu
    rcases hu with rfl | rfl | rfl | rfl | rfl
    all_goals first | rfl | exact Rws.one h1 | exact Rws.one h2 | exact Rws.one h3 | exact Rws.one h4
  len := fun {C cs x} h => by
    obtain ⟨name, syms, nodes, outs, subs⟩ := x
    obtain ⟨v1, v2, v3, v4, rfl, -⟩ := h; rfl
end Go.Proofs.YtneabpgphjcbkaaGreatDoor

namespace Go.Proofs.YtneabpgphjcbkaaGreatDoor
open Go.RowKit

/-- the cells outside the blocks S and outside the block of the row v -/
def offS (w : World) (S : Nat → Bool) (v : Value) : Cl := offB w fun b => S b || decide (v.ownBlock = some b)
/-- a row that the call owns; what its elements point to lies outside the blocks S and outside the row -/
def Od {α : Type} (S : Nat → Bool) (k : Nat) (E : Cl → List Value → α → Prop) (T : TypeId) (w : World) (base : Nat) (v : Value) (xs : List α) : Prop := Ow k E T w (offS w S v) base v xs
def none_ : Nat → Bool := fun _ => false
def under (B : Nat) : Nat → Bool := fun b => decide (b < B)

/-- the size of a type -/
def Inf (P : Program) (T : TypeId) (k bytes : Nat) : Prop := ∃ (i : TypeInfo) (z : Value), P.info? T = some i ∧ i.zero = some z ∧ i.size = k ∧ i.bytes = bytes ∧ z.cells.size = k ∧ bytes ≤ 1000

section
variable {α : Type} {k : Nat} {R : Cl → Nat → Nat → α → Prop} {E : Cl → List Value → α → Prop} {S : Nat → Bool}
theorem offS_below {w w' : World} (v : Value) (hb : Below w.heap.size w w') : Keeps (offS w S v) (offS w' S v) :=
  Keeps.off_mono fun p _ h hu => ⟨h, (hb.cell (World.block_lt_of_cell? w p hu)).trans hu⟩
theorem offS_grown {w w' : World} {v v' : Value} (hg : w.grownBy w' v.ownBlock) (hat : v'.ownBlock = v.ownBlock ∨ v'.ownBlock = some w.heap.size) : Keeps (offS w S v) (offS w' S v') := by
  refine Keeps.off_mono fun p u h hu => ?_
  simp only [Bool.or_eq_false_iff, decide_eq_false_iff_not] at h ⊢
  have hlt := World.block_lt_of_cell? w p hu
  refine ⟨⟨h.1, ?_⟩, hg.cell hu (fun e => h.2 e.symm)⟩
  rcases hat with e | e <;> rw [e]
  · exact h.2
  · intro e2
    injection e2 with e2
    omega
theorem offS_cell {w : World} {v : Value} : Keeps (offS w S v) w.cell? := Keeps.off w _
theorem offS_new {w : World} {v : Value} {p : Addr} {u : Value} (h : w.cell? p = some u) (hS : S p.block = false) (hv : v.ownBlock ≠ some p.block) : offS w S v p = some u := by
  unfold offS
  rw [offB_in (by rw [hS, decide_eq_false hv]; rfl)]
  exact h
/-- what was there at the start -/
theorem offS_old {w0 w : World} {v : Value} (hb : Below w0.heap.size w0 w) (hv : ∀ b, v.ownBlock = some b → w0.heap.size ≤ b) : Keeps w0.cell? (offS w none_ v) := by
  intro p u hu
  have hlt := World.block_lt_of_cell? w0 p hu
  exact offS_new ((hb.cell hlt).trans hu) rfl fun e => by have := hv _ e; omega
/-- what has been made since -/
theorem offS_fresh {w w' : World} {v : Value} {B : Nat} (hB : B ≤ w.heap.size) (hv : ∀ b, v.ownBlock = some b → b < w.heap.size) (_hb : Below w.heap.size w w') : Keeps (offB w' (under w.heap.size)) (offS w' (under B) v) := by
  intro p u hu
  have h1 := offB_cell hu
  have h2 : under w.heap.size p.block = false := by
    unfold offB at hu; split at hu
    · cases hu
    · rename_i h; simpa using h
  have h3 : w.heap.size ≤ p.block := by simpa [under] using h2
  refine offS_new h1 (by simp [under]; omega) fun e => ?_
  have := hv _ e
  omega
theorem Od.nil (S : Nat → Bool) (k : Nat) (E : Cl → List Value → α → Prop) (T : TypeId) (w : World) (base : Nat) : Od S k E T w base (.slice none 0 0) ([] : List α) := Ow.nil _ _ _ _ _ _
theorem Od.below (L : Cells k R E) {T : TypeId} {w w' : World} {base : Nat} {v : Value} {xs : List α} (h : Od S k E T w base v xs) (hb : Below w.heap.size w w') : Od S k E T w' base v xs := Ow.below L h hb (offS_below v hb)
theorem Od.of_ow (L : Cells k R E) {T : TypeId} {w : World} {C : Cl} {base : Nat} {v : Value} {xs : List α} (h : Ow k E T w C base v xs) (hk : Keeps C (offS w S v)) : Od S k E T w base v xs := by
  obtain ⟨cs, ho, he, hl⟩ := h
  exact ⟨cs, ho, he.keep L hk, hl⟩
theorem Ow.lt {T : TypeId} {w : World} {C : Cl} {base : Nat} {v : Value} {xs : List α} (h : Ow k E T w C base v xs) : ∀ b, v.ownBlock = some b → base ≤ b ∧ b < w.heap.size := by
  obtain ⟨cs, ho, -, -⟩ := h
  exact ho.lt
theorem Od.lt {T : TypeId} {w : World} {base : Nat} {v : Value} {xs : List α} (h : Od S k E T w base v xs) : ∀ b, v.ownBlock = some b → base ≤ b ∧ b < w.heap.size := Ow.lt h
theorem Ow.long {T : TypeId} {w : World} {C : Cl} {base : Nat} {v : Value} {xs : List α} (h : Ow k E T w C base v xs) : xs.length ≤ 1000000 := h.choose_spec.2.2
theorem Od.long {T : TypeId} {w : World} {base : Nat} {v : Value} {xs : List α} (h : Od S k E T w base v xs) : xs.length ≤ 1000000 := Ow.long h
/-- a row that was made outside the blocks S reads there -/
theorem Od.rws_off (L : Cells k R E) {T : TypeId} {w : World} {base : Nat} {v : Value} {xs : List α} (h : Od S k E T w base v xs) (hS : ∀ b, base ≤ b → S b = false) : Rws k R (offB w S) v xs := by
  obtain ⟨cs, ho, he, hl⟩ := h
  have hk : Keeps (offS w S v) (offB w S) := by
    intro p u hu
    have h1 := offB_cell hu
    unfold offS offB at hu
    split at hu
    · cases hu
    · rename_i h
      simp only [Bool.or_eq_true, not_or, Bool.not_eq_true] at h
      rw [offB_in h.1]; exact h1
  rcases ho.2 with ⟨rfl, h0⟩ | ⟨g, cap, cur, rfl, hb, hg, h1, h2, h3, h4⟩
  · have : xs = [] := List.length_eq_zero_iff.1 h0
    subst this; exact Rws.nil _ _ _
  · refine ⟨some ⟨g, 0, none⟩, cap, rfl, h1, h2, hl, fun h0 => ⟨g, 0, rfl, fun i x hx => ?_⟩⟩
    refine L.up (L.keep (he.2 i x hx) hk) fun t u hu => ?_
    have ht : t < k := by
      have := (List.getElem?_eq_some_iff.1 hu).1
      rw [List.length_take] at this; omega
    rw [List.getElem?_take_of_lt ht, List.getElem?_drop] at hu
    have := ho.cells (g := g) rfl _ u hu
    rw [Addr.add_lit] at this
    rw [offB_in (hS g hb)]
    rwa [Nat.zero_add] at this ⊢
theorem Od.rws (L : Cells k R E) {T : TypeId} {w : World} {base : Nat} {v : Value} {xs : List α} (h : Od S k E T w base v xs) : Rws k R w.cell? v xs := Ow.rws L h offS_cell

theorem wpList_append_Od {P : Program} (L : Cells k R E) {T : TypeId} {bytes : Nat} (hi : Inf P T k bytes) (w : World) {ops : Array Oper} {rest : List Oper} {o : Oper} {a : Act} {Q : Exit → Act → World → Prop} (hgd : o.guard = none) (s x : Operand) (t : TypeId)
    (ho : o.op = .call { callee := .builtin .append, args := #[s, x], argTypes := #[t, t] })
    (base : Nat) (ht : P.underlying t = some (.slice T)) (v : Value) (xs : List α) (hs : a.eval s = v) (hown : Od S k E T w base v xs)
    (ad : Addr) (m c : Nat) (cs : List Value) (ys : List α) (hx : a.eval x = .slice (some ad) m c) (hm : ys.length = m) (hcs : Enc k E (offS w S v) cs ys) (hnews : ∀ j u, cs[j]? = some u → w.cell? (ad.add j) = some u)
    (hlen : xs.length + m ≤ 1000000) (hbase : base ≤ w.heap.size)
    (h : ∀ v' w', Od S k E T w' base v' (xs ++ ys) → Below base w w' → w.grownBy w' v.ownBlock → wpList P ops Q rest (a.put o.dst v') w') : wpList P ops Q (o :: rest) a w := by
  have hlt := hown.lt
  obtain ⟨ds, ho', he, hl⟩ := hown
  obtain ⟨i, z, hi0, hz, h1, h2, h3, h4⟩ := hi
  refine wpList_append_own_at w hgd s x t ho base T i z k bytes ht hi0 hz h1 h2 h3 L.pos v xs.length ds hs ho' ad m c cs hx (by rw [hcs.1, hm]) hnews (hcs.one L) (by unfold maxLen; omega) (Nat.le_trans (Nat.mul_le_mul hlen h4) (by decide)) hbase ?_
  intro v' w' hown' hgrow _ hat
  refine h v' w' ⟨ds ++ cs, by rw [List.length_append, hm]; exact hown', (he.append hcs).keep L (offS_grown hgrow hat), by rw [List.length_append, hm]; exact hlen⟩ ((Below.refl base w).grown hgrow hbase fun b hb => (hlt b hb).1) hgrow

/-- what the elements point to is read in one and the same map -/
theorem wpList_append_Ow {P : Program} (L : Cells k R E) {T : TypeId} {bytes : Nat} (hi : Inf P T k bytes) (w : World) {ops : Array Oper} {rest : List Oper} {o : Oper} {a : Act} {Q : Exit → Act → World → Prop} (hgd : o.guard = none) (s x : Operand) (t : TypeId)
    (ho : o.op = .call { callee := .builtin .append, args := #[s, x], argTypes := #[t, t] })
    (base : Nat) (ht : P.underlying t = some (.slice T)) (v : Value) (xs : List α) (C : Cl) (hs : a.eval s = v) (hown : Ow k E T w C base v xs)
    (ad : Addr) (m c : Nat) (cs : List Value) (ys : List α) (hx : a.eval x = .slice (some ad) m c) (hm : ys.length = m) (hcs : Enc k E C cs ys) (hnews : ∀ j u, cs[j]? = some u → w.cell? (ad.add j) = some u)
    (hlen : xs.length + m ≤ 1000000) (hbase : base ≤ w.heap.size)
    (h : ∀ v' w', Ow k E T w' C base v' (xs ++ ys) → Below base w w' → w.grownBy w' v.ownBlock → wpList P ops Q rest (a.put o.dst v') w') : wpList P ops Q (o :: rest) a w := by
  have hlt := hown.lt
  obtain ⟨ds, ho', he, hl⟩ := hown
  obtain ⟨i, z, hi0, hz, h1, h2, h3, h4⟩ := hi
  refine wpList_append_own_at w hgd s x t ho base T i z k bytes ht hi0 hz h1 h2 h3 L.pos v xs.length ds hs ho' ad m c cs hx (by rw [hcs.1, hm]) hnews (hcs.one L) (by unfold maxLen; omega) (Nat.le_trans (Nat.mul_le_mul hlen h4) (by decide)) hbase ?_
  intro v' w' hown' hgrow _ hat
  exact h v' w' ⟨ds ++ cs, by rw [List.length_append, hm]; exact hown', he.append hcs, by rw [List.length_append, hm]; exact hlen⟩ ((Below.refl base w).grown hgrow hbase fun b hb => (hlt b hb).1) hgrow

/-- at a step of a region that draws -/
theorem step_append_Od {P : Program} (L : Cells k R E) {T : TypeId} {bytes : Nat} (hi : Inf P T k bytes) (w : World) {ops : Array Oper} {o : Oper} {a : Act} {K : Act → World → Prop} {Q : Exit → Act → World → Prop} {D : Prop} (hgd : o.guard = none) (s x : Operand) (t : TypeId)
    (ho : o.op = .call { callee := .builtin .append, args := #[s, x], argTypes := #[t, t] })
    (base : Nat) (ht : P.underlying t = some (.slice T)) (v : Value) (xs : List α) (hs : a.eval s = v) (hown : Od S k E T w base v xs)
    (ad : Addr) (m c : Nat) (cs : List Value) (ys : List α) (hx : a.eval x = .slice (some ad) m c) (hm : ys.length = m) (hcs : Enc k E (offS w S v) cs ys) (hnews : ∀ j u, cs[j]? = some u → w.cell? (ad.add j) = some u)
    (hlen : xs.length + m ≤ 1000000) (hbase : base ≤ w.heap.size) (hpos : 0 < m)
    (h : ∀ g cap w', Od S k E T w' base (.slice (some ⟨g, 0, none⟩) (xs.length + m) cap) (xs ++ ys) → Below base w w' → w.grownBy w' v.ownBlock → K (a.put o.dst (.slice (some ⟨g, 0, none⟩) (xs.length + m) cap)) w') :
    if Region.wanted o (yielded ops a.tmps) = true then Oper.wp P o a w K Q else D := by
  have hlt := hown.lt
  obtain ⟨ds, ho', he, hl⟩ := hown
  obtain ⟨i, z, hi0, hz, h1, h2, h3, h4⟩ := hi
  refine step_append_lies w hgd s x t ho base T i z k bytes ht hi0 hz h1 h2 h3 L.pos v xs.length ds hs ho' ad m c cs hx (by rw [hcs.1, hm]) hnews (hcs.one L) hpos (by unfold maxLen; omega) (Nat.le_trans (Nat.mul_le_mul hlen h4) (by decide)) hbase _ rfl ?_
  intro g cap w' hown' hgrow hat _
  refine h g cap w' ⟨ds ++ cs, by rw [List.length_append, hm]; exact hown', (he.append hcs).keep L (offS_grown hgrow ?_), by rw [List.length_append, hm]; exact hlen⟩ ((Below.refl base w).grown hgrow hbase fun b hb => (hlt b hb).1) hgrow
  rcases hat with e | e
  · exact .inl (by rw [e]; rfl)
  · exact .inr (by rw [e]; rfl)
end

theorem inf_of {T : TypeId} {z : Value} {k bytes : Nat} (h : (Tryz.prog.info? T).map (fun i => (i.zero, i.size, i.bytes)) = some (some z, k, bytes)) (hz : z.cells.size = k) (hb : bytes ≤ 1000) : Inf Tryz.prog T k bytes := by
  obtain ⟨i, h1, h2, h3, h4⟩ := info_parts h
  exact ⟨i, z, h1, h2, h3, h4, hz, hb⟩
end Go.Proofs.YtneabpgphjcbkaaGreatDoor

namespace Go.Proofs.YtneabpgphjcbkaaGreatDoor
open Go.RowKit

theorem Asc.tail {u : LTerm} {l : List LTerm} (h : Asc (u :: l)) : Asc l := (List.pairwise_cons.1 h).2
theorem Asc.head {u t : LTerm} {l : List LTerm} (h : Asc (u :: l)) (ht : t ∈ l) : sLt u.sym t.sym = true := (List.pairwise_cons.1 h).1 t ht
theorem mrg_nil_right : ∀ l : List LTerm, mrg l [] = l
  | [] => by rw [mrg]
  | _ :: _ => by rw [mrg]
theorem sLt_ne {a b : ByteArray} (h : sLt a b = true) : ¬ sLt b a = true := by rw [sLt_asymm h]; exact Bool.false_ne_true
theorem sLt_lt_of {a b d : ByteArray} (h : sLt a b = true) (k : sLt b d = true) : sLt a d = true := sLt_trans h k
theorem mrg_add {t : LTerm} {bs : List LTerm} (hb : Asc (t :: bs)) : ∀ {l : List LTerm}, Asc l → mrg (addT l t) bs = mrg l (t :: bs)
  | [], _ => by
    rw [addT]
    cases bs with
    | nil => rw [mrg, mrg]
    | cons b bs => rw [mrg, mrg, if_pos (hb.head (t := b) (by simp)), mrg]
  | u :: l, h => by
    rw [addT]
    by_cases h1 : sLt u.sym t.sym = true
    · rw [if_pos h1]
      have ih := mrg_add hb h.tail
      cases bs with
      | nil =>
        rw [mrg_nil_right] at ih ⊢
        rw [mrg, if_pos h1, ih]
      | cons b bs =>
        have h2 := sLt_trans h1 (hb.head (t := b) (by simp))
        rw [mrg, if_pos h2, ih]
        conv => rhs; rw [mrg, if_pos h1]
    · rw [if_neg h1]
      by_cases h3 : sEq u.sym t.sym = true
      · have h4 : u.sym = t.sym := sEq_iff.1 h3
        rw [if_pos h3]
        have h5 : ¬ sLt t.sym u.sym = true := by rw [h4, sLt_irrefl]; exact Bool.false_ne_true
        cases bs with
        | nil =>
          rw [mrg_nil_right, mrg, if_neg h1, if_neg h5, mrg_nil_right]
        | cons b bs =>
          have h2 : sLt u.sym b.sym = true := by rw [h4]; exact hb.head (t := b) (by simp)
          rw [mrg, if_pos h2]
          conv => rhs; rw [mrg, if_neg h1, if_neg h5]
      · rw [if_neg h3]
        have h5 : sLt t.sym u.sym = true := by
          cases h6 : sLt t.sym u.sym
          · exact absurd (sEq_iff.2 (sLt_tri (by simpa using h1) h6)) h3
          · rfl
        cases bs with
        | nil =>
          rw [mrg_nil_right, mrg, if_neg h1, if_pos h5, mrg_nil_right]
        | cons b bs =>
          rw [mrg, if_pos (hb.head (t := b) (by simp))]
          conv => rhs; rw [mrg, if_neg h1, if_pos h5]
theorem addT_mem {t : LTerm} : ∀ {l : List LTerm} {x : LTerm}, x ∈ addT l t → x.sym = t.sym ∨ ∃ y ∈ l, x.sym = y.sym
  | [], x, h => by rw [addT] at h; simp at h; exact .inl (by rw [h])
  | u :: l, x, h => by
    rw [addT] at h
    split at h
    · rcases List.mem_cons.1 h with rfl | h
      · exact .inr ⟨x, by simp, rfl⟩
      · rcases addT_mem h with h | ⟨y, hy, h⟩
        · exact .inl h
        · exact .inr ⟨y, by simp [hy], h⟩
    · split at h
      · rcases List.mem_cons.1 h with rfl | h
        · exact .inr ⟨u, by simp, rfl⟩
        · exact .inr ⟨x, by simp [h], rfl⟩
      · rcases List.mem_cons.1 h with rfl | h
        · exact .inl rfl
        · exact .inr ⟨x, h, rfl⟩
theorem addT_asc {t : LTerm} : ∀ {l : List LTerm}, Asc l → Asc (addT l t)
  | [], _ => by rw [addT]; exact List.pairwise_singleton _ _
  | u :: l, h => by
    rw [addT]
    split
    · rename_i h1
      refine List.pairwise_cons.2 ⟨fun x hx => ?_, addT_asc h.tail⟩
      rcases addT_mem hx with e | ⟨y, hy, e⟩
      · rw [e]; exact h1
      · rw [e]; exact h.head hy
    · rename_i h1
      split
      · exact List.pairwise_cons.2 ⟨fun x hx => h.head hx, h.tail⟩
      · rename_i h3
        have h5 : sLt t.sym u.sym = true := by
          cases h6 : sLt t.sym u.sym
          · exact absurd (sEq_iff.2 (sLt_tri (by simpa using h1) h6)) h3
          · rfl
        refine List.pairwise_cons.2 ⟨fun x hx => ?_, h⟩
        rcases List.mem_cons.1 hx with rfl | hx
        · exact h5
        · exact sLt_trans h5 (h.head hx)
theorem Asc.mul {l : List LTerm} (h : Asc l) (k : Int) : Asc (l.map (mulT k)) := by
  rw [Asc, List.pairwise_map]
  exact h
theorem fold_mrg : ∀ {bs l : List LTerm}, Asc l → Asc bs → bs.foldl addT l = mrg l bs
  | [], l, _, _ => by rw [mrg_nil_right]; rfl
  | t :: bs, l, h, hb => by
    rw [List.foldl_cons, fold_mrg (addT_asc h) hb.tail, mrg_add hb h]
theorem sumS_eq {a b : LSize} (ha : Asc a.terms) (hb : Asc b.terms) (k : Int) : sumS a b k = plusS a b k := by
  rw [sumS, plusS]
  congr 2
  rw [← fold_mrg ha (hb.mul k), List.foldl_map]

/-- a constraint -/
structure LRule where
  kind : Int
  left : LSize
  right : LSize
def ERule (C : Cl) (cs : List Value) (x : LRule) : Prop := ∃ t1 t2, cs = [.int .i64 x.kind, .int .i64 x.left.base, t1, .int .i64 x.right.base, t2] ∧ RTerms C t1 x.left.terms ∧ RTerms C t2 x.right.terms
def RRule (C : Cl) (b o : Nat) (x : LRule) : Prop := ∃ t1 t2, (C ⟨b, o, none⟩ = some (.int .i64 x.kind) ∧ C ⟨b, o + 1, none⟩ = some (.int .i64 x.left.base) ∧ C ⟨b, o + 2, none⟩ = some t1 ∧
  C ⟨b, o + 3, none⟩ = some (.int .i64 x.right.base) ∧ C ⟨b, o + 4, none⟩ = some t2) ∧ RTerms C t1 x.left.terms ∧ RTerms C t2 x.right.terms
def RRules (C : Cl) (v : Value) (xs : List LRule) : Prop := Rws 5 RRule C v xs
theorem RRule.keep {C C' : Cl} {b o : Nat} {x : LRule} (h : RRule C b o x) (k : Keeps C C') : RRule C' b o x := by
  obtain ⟨t1, t2, ⟨h0, h1, h2, h3, h4⟩, h5, h6⟩ := h
  exact ⟨t1, t2, ⟨k _ _ h0, k _ _ h1, k _ _ h2, k _ _ h3, k _ _ h4⟩, h5.keep k, h6.keep k⟩
theorem RRules.keep {C C' : Cl} {v : Value} {xs : List LRule} (h : RRules C v xs) (k : Keeps C C') : RRules C' v xs := Rws.mono h fun _ _ _ h => h.keep k
theorem cellsRule : Cells 5 RRule ERule where
  pos := by decide
  down := fun {C b o x} h => by
    obtain ⟨t1, t2, ⟨c0, c1, c2, c3, c4⟩, h1, h2⟩ := h
    refine ⟨_, rfl, ⟨t1, t2, rfl, h1, h2⟩, fun i u hu => ?_⟩
    match i, hu with
    | 0, hu => simp at hu; subst hu; exact c0
    | 1, hu => simp at hu; subst hu; exact c1
    | 2, hu => simp at hu; subst hu; exact c2
    | 3, hu => simp at hu; subst hu; exact c3
    | 4, hu => simp at hu; subst hu; exact c4
    | i + 5, hu => simp at hu
  up := fun {C b o x cs} h hc => by obtain ⟨t1, t2, rfl, h1, h2⟩ := h; exact ⟨t1, t2, ⟨hc 0 _ rfl, hc 1 _ rfl, hc 2 _ rfl, hc 3 _ rfl, hc 4 _ rfl⟩, h1, h2⟩
  keep := fun h k => by obtain ⟨t1, t2, e, h1, h2⟩ := h; exact ⟨t1, t2, e, h1.keep k, h2.keep k⟩
  one := fun h u hu => by obtain ⟨t1, t2, rfl, h1, h2⟩ := h; simp at hu; rcases hu with rfl | rfl | rfl | rfl | rfl <;> first | rfl | exact Rws.one h1 | exact Rws.one h2
  len := fun h => by obtain ⟨t1, t2, rfl, h1, h2⟩ := h; rfl
end Go.Proofs.YtneabpgphjcbkaaGreatDoor
