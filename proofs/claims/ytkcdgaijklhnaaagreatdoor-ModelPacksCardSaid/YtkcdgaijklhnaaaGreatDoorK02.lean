/-
  A region that draws its order and ends with stores in one forced order: the operations ahead of the stores in any order, under a condition on the world that the stores need not keep.
  Slices of ints.
-/
import Derived.Test.YtkcdgaijklhnaaaGreatDoorK01
import Derived.StillTail
import Derived.OrdersHeld
import Derived.Deep.RegionHeld3
namespace Go.Proofs.YtkcdgaijklhnaaaGreatDoor
section
variable {P : Program} {ops : Array Oper} {Q : Exit → Act → World → Prop} {md : Region.Mode} {S : World → Prop}
def wpHeadH (P : Program) (md : Region.Mode) (ops : Array Oper) (Q : Exit → Act → World → Prop) (S : World → Prop) (n : Nat) (L : Array Bool → Act → World → Prop) : Nat → Array Bool → Act → World → Prop
  | 0, listed, a, w => L listed a w
  | f + 1, listed, a, w => Region.ready md ops listed ≠ [] ∧ ∀ i ∈ Region.ready md ops listed, i < n ∧ wpOp P ops Q i (fun a' w' => S w' ∧ wpHeadH P md ops Q S n L f (listed.setIfInBounds i true) a' w') a w
theorem wpAny_of_headH {n g : Nat} {L : Array Bool → Act → World → Prop} (hL : ∀ listed a w, L listed a w → wpAny P md ops Q g listed a w) :
    ∀ (f : Nat) (listed : Array Bool) (a : Act) (w : World), wpHeadH P md ops Q S n L f listed a w → wpAny P md ops Q (f + g) listed a w
  | 0, listed, a, w, h => by rw [Nat.zero_add]; exact hL _ _ _ h
  | f + 1, listed, a, w, h => by
    rw [show f + 1 + g = (f + g) + 1 by omega]
    exact ⟨fun h0 => absurd h0 h.1, fun i hi => wpOp_mono (fun a' w' h' => wpAny_of_headH hL f _ a' w' h'.2) (h.2 i hi).2⟩
theorem wpHeadH_first {n i : Nat} {oi : Oper} {v : Value} {L : Array Bool → Act → World → Prop} (hi : ops[i]? = some oi) (hsel : ∀ (j : Nat) (o : Oper) cs b, ops[j]? = some o → o.op ≠ .select cs b)
    (hQ : ∀ c a w, Q (.panic c) (a.put oi.dst v) w → Q (.panic c) a w)
    (hs : Region.sinkB md ops n = true) (hc : Region.chainB md ops n = true) (hn : n < ops.size) (hin : i < n)
    (hdone : ∀ listed a w, L listed a w → ∀ j ∈ Region.ready md ops listed, n ≤ j) :
    ∀ (f : Nat) (listed : Array Bool) (a : Act) (w : World), HeadInv md ops n listed →
      (∀ j oj, ops[j]? = some oj → j ≠ i → listed.getD j true = false → (∀ e ∈ oj.after, Region.binds md e = true → e.on ≠ i) → oi.apart ops oj = true) →
      i ∈ Region.ready md ops listed → YieldsIf P ops S oi v a → S w →
      wpHeadH P md ops Q S n L f (listed.setIfInBounds i true) (a.put oi.dst v) w → wpHeadH P md ops Q S n L (f + 1) listed a w := by
  intro f
  induction f with
  | zero =>
    intro listed a w inv _ hr hy hS H
    have hun := (mem_ready.1 hr).1
    refine ⟨fun h => (by rw [h] at hr; cases hr), fun j hj => ?_⟩
    have hjn : j < n := by
      rcases Nat.lt_or_ge j n with h | h
      · exact h
      · exact absurd hj (tail_waits hs hc hn inv _ i rfl hin hun j h)
    refine ⟨hjn, ?_⟩
    by_cases hji : j = i
    · subst hji; exact hy.wpOp hi hS ⟨hS, H⟩
    · have := hdone _ _ _ H j (ready_mono hj hji)
      omega
  | succ f ih =>
    intro listed a w inv hfree hr hy hS H
    have hun := (mem_ready.1 hr).1
    refine ⟨fun h => (by rw [h] at hr; cases hr), fun j hj => ?_⟩
    have hjn : j < n := by
      rcases Nat.lt_or_ge j n with h | h
      · exact h
      · exact absurd hj (tail_waits hs hc hn inv _ i rfl hin hun j h)
    refine ⟨hjn, ?_⟩
    by_cases hji : j = i
    · subst hji; exact hy.wpOp hi hS ⟨hS, H⟩
    · have h1 := (H.2 j (ready_mono hj hji)).2
      obtain ⟨hjun, oj, hoj, hall⟩ := mem_ready.1 hj
      have hnot : ∀ e ∈ oj.after, Region.binds md e = true → e.on ≠ i := fun e he hb heq => by
        have h1 := hall e he hb
        rw [heq, getD_both hun] at h1
        cases h1
      have h2 := wpOp_putIf hoj (hfree j oj hoj hji hjun hnot) (fun cs b => hsel i oi cs b hi) (fun cs b => hsel j oj cs b hoj) hQ hy h1
      have hfree' : ∀ k ok, ops[k]? = some ok → k ≠ i → (listed.setIfInBounds j true).getD k true = false →
          (∀ e ∈ ok.after, Region.binds md e = true → e.on ≠ i) → oi.apart ops ok = true := fun k ok hk hki hun hno => by
        refine hfree k ok hk hki ?_ hno
        by_cases hjk : j = k
        · subst hjk; exact hjun
        · rw [getD_set_ne true hjk] at hun; exact hun
      refine wpOp_mono (fun a' w' h3 => ⟨h3.2.1, ih (listed.setIfInBounds j true) a' w' (inv.set hj hjn) hfree' (ready_mono hr (Ne.symm hji)) h3.1 h3.2.1 ?_⟩) h2
      rw [Array.setIfInBounds_comm _ _ hji]
      exact h3.2.2
def wpSteps (P : Program) (ops : Array Oper) (Q : Exit → Act → World → Prop) (S : World → Prop) (T : Act → World → Prop) : List (Nat × Bool) → Act → World → Prop
  | [], a, w => T a w
  | (i, true) :: r, a, w => ∃ oi v, ops[i]? = some oi ∧ YieldsIf P ops S oi v a ∧ (∀ c a w, Q (.panic c) (a.put oi.dst v) w → Q (.panic c) a w) ∧ wpSteps P ops Q S T r (a.put oi.dst v) w
  | (i, false) :: r, a, w => wpOp P ops Q i (fun a' w' => S w' ∧ wpSteps P ops Q S T r a' w') a w
def okSteps (md : Region.Mode) (ops : Array Oper) (n : Nat) : List (Nat × Bool) → Array Bool → Bool
  | [], listed => Region.seqB md ops (ops.size - n) n listed
  | (i, true) :: r, listed => decide (i < n) && (Region.ready md ops listed).contains i && Region.free md ops listed i && okSteps md ops n r (listed.setIfInBounds i true)
  | (i, false) :: r, listed => decide (i < n) && decide (Region.ready md ops listed = [i]) && okSteps md ops n r (listed.setIfInBounds i true)
theorem wpHeadH_steps {n : Nat} {T : Act → World → Prop} (hsel : Region.noSelect ops = true) (hs : Region.sinkB md ops n = true) (hc : Region.chainB md ops n = true) (hn : n < ops.size) :
    ∀ (l : List (Nat × Bool)) (listed : Array Bool) (a : Act) (w : World), HeadInv md ops n listed → okSteps md ops n l listed = true → S w → wpSteps P ops Q S T l a w →
      wpHeadH P md ops Q S n (fun listed' a' w' => Region.seqB md ops (ops.size - n) n listed' = true ∧ T a' w') l.length listed a w
  | [], listed, a, w, _, hB, _, h => ⟨hB, h⟩
  | (i, true) :: r, listed, a, w, inv, hB, hS, h => by
    simp only [okSteps, Bool.and_eq_true, decide_eq_true_eq] at hB
    obtain ⟨⟨⟨hin, hr⟩, hf⟩, hB'⟩ := hB
    obtain ⟨oi, v, hoi, hy, hQ, h'⟩ := h
    have hr' : i ∈ Region.ready md ops listed := by simpa using hr
    exact wpHeadH_first hoi (Region.noSelect_spec hsel) hQ hs hc hn hin (fun listed' a' w' hL => seqB_ready hL.1) r.length listed a w inv (Region.free_spec hoi hf) hr' hy hS
      (wpHeadH_steps hsel hs hc hn r _ _ w (inv.set hr' hin) hB' hS h')
  | (i, false) :: r, listed, a, w, inv, hB, hS, h => by
    simp only [okSteps, Bool.and_eq_true, decide_eq_true_eq] at hB
    obtain ⟨⟨hin, hr⟩, hB'⟩ := hB
    have hr' : i ∈ Region.ready md ops listed := by rw [hr]; simp
    refine ⟨by rw [hr]; simp, fun j hj => ?_⟩
    rw [hr] at hj
    have hji : j = i := by simpa using hj
    subst hji
    exact ⟨hin, wpOp_mono (fun a' w' h3 => ⟨h3.1, wpHeadH_steps hsel hs hc hn r _ a' w' (inv.set hr' hin) hB' h3.1 h3.2⟩) h⟩
theorem wp_region_steps {id : Nat} {a : Act} {w : World} {l : List Oper} (S : World → Prop) (n : Nat) (st : List (Nat × Bool)) (hm : P.follows .mixedOrders = true)
    (hB : (Region.noSelect l.toArray && decide (n < l.toArray.size) && decide (st.length = n) && Region.sinkB .any l.toArray n && Region.chainB .any l.toArray n && okSteps .any l.toArray n st (Array.replicate l.toArray.size false)) = true)
    (hS : S w.drew) (h : wpSteps P l.toArray Q S (fun a' w' => wpList P l.toArray Q (l.drop n) a' w') st a w.drew) : (Code.region id l.toArray true).wp P Q a w := by
  simp only [Bool.and_eq_true, decide_eq_true_eq] at hB
  obtain ⟨⟨⟨⟨⟨hsel, hn⟩, hlen⟩, hs⟩, hc⟩, hok⟩ := hB
  have hdl : (l.drop n).length = l.toArray.size - n := by simp
  have inv0 : HeadInv .any l.toArray n (Array.replicate l.toArray.size false) :=
    ⟨by simp, fun j oj _ hl => (by rw [getD_replicate_false] at hl; cases hl), fun t _ ht => getD_in (by simpa using ht) (getD_replicate_false _ _)⟩
  have H := wpHeadH_steps (P := P) (Q := Q) hsel hs hc hn st _ a _ inv0 hok hS h
  refine wp_region_any hm ?_
  have := wpAny_of_headH (Q := Q) (g := l.toArray.size - n) (fun listed a' w' hL => by
    have := wpAny_of_seq (md := .any) (Q' := Q) (l.drop n) n listed a' w' (fun j => by simp [List.getElem?_drop]) (by rw [hdl]; exact hL.1) hL.2
    rwa [hdl] at this) _ _ _ _ H
  rw [hlen, show n + (l.toArray.size - n) = l.toArray.size by omega] at this
  exact this
end
end Go.Proofs.YtkcdgaijklhnaaaGreatDoor
namespace Go.Proofs.YtkcdgaijklhnaaaGreatDoor
open Go.RowKit
def i64s (l : List Int) : List Value := l.map fun z => .int .i64 z
theorem i64s_length (l : List Int) : (i64s l).length = l.length := by simp [i64s]
theorem i64s_at {l : List Int} {j : Nat} (h : j < l.length) : (i64s l)[j]? = some (.int .i64 (l[j]?.getD 0)) := by
  simp [i64s, List.getElem?_eq_getElem h]
def OwnI (w : World) (g : Nat) (l : List Int) : Prop := w.heap[g]? = some (.cells (i64s l).toArray 3 (0, 0))
section
variable {w w' : World} {g j : Nat} {l : List Int}
theorem OwnI.lt (h : OwnI w g l) : g < w.heap.size := (Array.getElem?_eq_some_iff.1 h).1
theorem OwnI.cell (h : OwnI w g l) (hj : j < l.length) : w.cell? ⟨g, j, none⟩ = some (.int .i64 (l[j]?.getD 0)) := by
  simp [World.cell?, show w.heap[g]? = _ from h, i64s, List.getElem?_eq_getElem hj]
theorem OwnI.frozen (h : OwnI w g l) (j : Nat) : w.frozen? ⟨g, j, none⟩ = false := by
  simp [World.frozen?, show w.heap[g]? = _ from h]
theorem OwnI.set (h : OwnI w g l) (j : Nat) (x : Int) : OwnI (w.setCell ⟨g, j, none⟩ (.int .i64 x)) g (l.set j x) := by
  unfold OwnI at h ⊢
  simp [World.setCell, Array.getElem?_modify, h, i64s, List.map_set]
theorem OwnI.far (h : OwnI w g l) {p : Addr} (hp : g ≠ p.block) (u : Value) : OwnI (w.setCell p u) g l := (Below.heap_setCell w p u g hp).trans h
theorem OwnI.alloc (h : OwnI w g l) (o : Obj) : OwnI (w.alloc o) g l := (Below.heap_alloc w o g h.lt).trans h
theorem OwnI.drew (h : OwnI w g l) : OwnI w.drew g l := h
theorem OwnI.drewN (h : OwnI w g l) (n : Nat) : OwnI (w.drewN n) g l := h
theorem OwnI.below {B : Nat} (h : OwnI w g l) (hb : Below B w w') (hg : g < B) : OwnI w' g l := (hb.block g hg).trans h
theorem OwnI.low (h : OwnI w g l) (hb : Below w.heap.size w w') : OwnI w' g l := h.below hb h.lt
theorem OwnI.sl (h : OwnI w g l) {c : Nat} (h1 : l.length ≤ c) (h2 : c ≤ maxLen) : Sl w (.slice (some ⟨g, 0, none⟩) l.length c) (i64s l) := by
  refine ⟨some ⟨g, 0, none⟩, c, by rw [i64s_length], by rw [i64s_length]; exact h1, h2, fun _ => ⟨g, 0, rfl, fun j u hu => ?_⟩⟩
  rw [Nat.zero_add, cell_of_row w g j _ _ (0, 0) h, List.getElem?_toArray]
  exact hu
theorem OwnI.made (w : World) (n : Nat) : OwnI (w.alloc (.cells (madeCells #[.int .i64 0] n) 3)) w.heap.size (List.replicate n 0) := by
  unfold OwnI
  rw [madeCells_rep, heap_alloc_new]
  simp [i64s]
end
def LI (w : World) (v : Value) (xs : List Int) : Prop := Sl w v (i64s xs) ∧ xs.length ≤ maxLen ∧ ∀ x ∈ xs, -9223372036854775808 ≤ x ∧ x ≤ 9223372036854775807
theorem LI.form {w : World} {v : Value} {xs : List Int} (h : LI w v xs) : ∃ A c, v = .slice A xs.length c := by
  obtain ⟨⟨A, c, e, -⟩, -⟩ := h
  exact ⟨A, c, by rw [e, i64s_length]⟩
theorem LI.at_ {w : World} {A : Option Addr} {c n : Nat} {xs : List Int} (h : LI w (.slice A n c) xs) (hn : 0 < xs.length) :
    ∃ b o, A = some ⟨b, o, none⟩ ∧ ∀ j, j < xs.length → w.cell? ⟨b, o + j, none⟩ = some (.int .i64 (xs[j]?.getD 0)) := by
  obtain ⟨⟨A', c', e, h1, h2, h3⟩, -⟩ := h
  injection e with e1 e2 e3
  subst e1
  obtain ⟨b, o, e, h4⟩ := h3 (by rw [i64s_length]; exact hn)
  exact ⟨b, o, e, fun j hj => h4 j _ (i64s_at hj)⟩
theorem LI.len {w : World} {A : Option Addr} {c n : Nat} {xs : List Int} (h : LI w (.slice A n c) xs) : n = xs.length := by
  obtain ⟨h1, -⟩ := h
  rw [h1.len_, i64s_length]
end Go.Proofs.YtkcdgaijklhnaaaGreatDoor
