/-
  A region that draws its order and ends with stores in one forced order: the operations ahead of the stores in any order, under a condition on the world that the stores need not keep.
  The reckoner: values, blocks, reads.
-/
import Derived.Test.YtkcdgaijklhnaaaGreatDoorK01
import Derived.StillTail
import Derived.OrdersHeld
import Derived.Deep.RegionHeld3
import Derived.Laws.CopyRow
import Derived.Laws.AppendOwn
import Derived.Laws.MakeOwn
import Derived.Deep.MidRow
import Derived.Scope
import Derived.Recover
namespace Go.Proofs.YtkcdgaijklhnaaaGreatDoor
section
variable {P : Program} {ops : Array Oper} {Q : Exit → Act → World → Prop} {md : Region.Mode} {S : World → Prop}
def wpHeadH (P : Program) (md : Region.Mode) (ops : Array Oper) (Q : Exit → Act → World → Prop) (S : World → Prop) (n : Nat) (L : Array Bool → Act → World → Prop) : Nat → Array Bool → Act → World → Prop
 | 0, listed, a, w => L listed a w
 | f + 1, listed, a, w => Region.ready md ops listed ≠ [] ∧ ∀ i ∈ Region.ready md ops listed, i < n ∧ wpOp P ops Q i (fun a' w' => S w' ∧ wpHeadH P md ops Q S n L f (listed.setIfInBounds i true) a' w') a w
theorem wpAny_of_headH {n g : Nat} {L : Array Bool → Act → World → Prop} (hL : ∀ listed a w, L listed a w → wpAny P md ops Q g listed a w) :
  ∀ (f : Nat) (listed : Array Bool) (a : Act) (w : World), wpHeadH P md ops Q S n L f listed a w → wpAny P md ops Q (f + g) listed a w
 | 0, listed, a, w, h => by rw [Nat.zero_add]; exact hL _ _ _ h
 | f + 1, listed, a, w, h => by
  rw [show f + 1 + g = (f + g) + 1 by omega]
  exact ⟨fun h0 => absurd h0 h.1, fun i hi => wpOp_mono (fun a' w' h' => wpAny_of_headH hL f _ a' w' h'.2) (h.2 i hi).2⟩
theorem wpHeadH_first {n i : Nat} {oi : Oper} {v : Value} {L : Array Bool → Act → World → Prop} (hi : ops[i]? = some oi) (hsel : ∀ (j : Nat) (o : Oper) cs b, ops[j]? = some o → o.op ≠ .select cs b)
  (hQ : ∀ c a w, Q (.panic c) (a.put oi.dst v) w → Q (.panic c) a w)
  (hs : Region.sinkB md ops n = true) (hc : Region.chainB md ops n = true) (hn : n < ops.size) (hin : i < n)
  (hdone : ∀ listed a w, L listed a w → ∀ j ∈ Region.ready md ops listed, n ≤ j) :
  ∀ (f : Nat) (listed : Array Bool) (a : Act) (w : World), HeadInv md ops n listed →
   (∀ j oj, ops[j]? = some oj → j ≠ i → listed.getD j true = false → (∀ e ∈ oj.after, Region.binds md e = true → e.on ≠ i) → oi.apart ops oj = true) →
   i ∈ Region.ready md ops listed → YieldsIf P ops S oi v a → S w →
   wpHeadH P md ops Q S n L f (listed.setIfInBounds i true) (a.put oi.dst v) w → wpHeadH P md ops Q S n L (f + 1) listed a w := by
 intro f
 induction f with
 | zero =>
  intro listed a w inv _ hr hy hS H
  have hun := (mem_ready.1 hr).1
  refine ⟨fun h => (by rw [h] at hr; cases hr), fun j hj => ?_⟩
  have hjn : j < n := by
   rcases Nat.lt_or_ge j n with h | h
   ·exact h
   ·exact absurd hj (tail_waits hs hc hn inv _ i rfl hin hun j h)
  refine ⟨hjn, ?_⟩
  by_cases hji : j = i
  ·subst hji; exact hy.wpOp hi hS ⟨hS, H⟩
  ·have := hdone _ _ _ H j (ready_mono hj hji)
   omega
 | succ f ih =>
  intro listed a w inv hfree hr hy hS H
  have hun := (mem_ready.1 hr).1
  refine ⟨fun h => (by rw [h] at hr; cases hr), fun j hj => ?_⟩
  have hjn : j < n := by
   rcases Nat.lt_or_ge j n with h | h
   ·exact h
   ·exact absurd hj (tail_waits hs hc hn inv _ i rfl hin hun j h)
  refine ⟨hjn, ?_⟩
  by_cases hji : j = i
  ·subst hji; exact hy.wpOp hi hS ⟨hS, H⟩
  ·have h1 := (H.2 j (ready_mono hj hji)).2
   obtain ⟨hjun, oj, hoj, hall⟩ := mem_ready.1 hj
   have hnot : ∀ e ∈ oj.after, Region.binds md e = true → e.on ≠ i := fun e he hb heq => by
    have h1 := hall e he hb
    rw [heq, getD_both hun] at h1
    cases h1
   have h2 := wpOp_putIf hoj (hfree j oj hoj hji hjun hnot) (fun cs b => hsel i oi cs b hi) (fun cs b => hsel j oj cs b hoj) hQ hy h1
   have hfree' : ∀ k ok, ops[k]? = some ok → k ≠ i → (listed.setIfInBounds j true).getD k true = false →
     (∀ e ∈ ok.after, Region.binds md e = true → e.on ≠ i) → oi.apart ops ok = true := fun k ok hk hki hun hno => by
    refine hfree k ok hk hki ?_ hno
    by_cases hjk : j = k
    ·subst hjk; exact hjun
    ·rw [getD_set_ne true hjk] at hun; exact hun
   refine wpOp_mono (fun a' w' h3 => ⟨h3.2.1, ih (listed.setIfInBounds j true) a' w' (inv.set hj hjn) hfree' (ready_mono hr (Ne.symm hji)) h3.1 h3.2.1 ?_⟩) h2
   rw [Array.setIfInBounds_comm _ _ hji]
   exact h3.2.2
def wpSteps (P : Program) (ops : Array Oper) (Q : Exit → Act → World → Prop) (S : World → Prop) (T : Act → World → Prop) : List (Nat × Bool) → Act → World → Prop
 | [], a, w => T a w
 | (i, true) :: r, a, w => ∃ oi v, ops[i]? = some oi ∧ YieldsIf P ops S oi v a ∧ (∀ c a w, Q (.panic c) (a.put oi.dst v) w → Q (.panic c) a w) ∧ wpSteps P ops Q S T r (a.put oi.dst v) w
 | (i, false) :: r, a, w => wpOp P ops Q i (fun a' w' => S w' ∧ wpSteps P ops Q S T r a' w') a w
def okSteps (md : Region.Mode) (ops : Array Oper) (n : Nat) : List (Nat × Bool) → Array Bool → Bool
 | [], listed => Region.seqB md ops (ops.size - n) n listed
 | (i, true) :: r, listed => decide (i < n) && (Region.ready md ops listed).contains i && Region.free md ops listed i && okSteps md ops n r (listed.setIfInBounds i true)
 | (i, false) :: r, listed => decide (i < n) && decide (Region.ready md ops listed = [i]) && okSteps md ops n r (listed.setIfInBounds i true)
theorem wpHeadH_steps {n : Nat} {T : Act → World → Prop} (hsel : Region.noSelect ops = true) (hs : Region.sinkB md ops n = true) (hc : Region.chainB md ops n = true) (hn : n < ops.size) :
  ∀ (l : List (Nat × Bool)) (listed : Array Bool) (a : Act) (w : World), HeadInv md ops n listed → okSteps md ops n l listed = true → S w → wpSteps P ops Q S T l a w →
   wpHeadH P md ops Q S n (fun listed' a' w' => Region.seqB md ops (ops.size - n) n listed' = true ∧ T a' w') l.length listed a w
 | [], listed, a, w, _, hB, _, h => ⟨hB, h⟩
 | (i, true) :: r, listed, a, w, inv, hB, hS, h => by
  simp only [okSteps, Bool.and_eq_true, decide_eq_true_eq] at hB
  obtain ⟨⟨⟨hin, hr⟩, hf⟩, hB'⟩ := hB
  obtain ⟨oi, v, hoi, hy, hQ, h'⟩ := h
  have hr' : i ∈ Region.ready md ops listed := by simpa using hr
  exact wpHeadH_first hoi (Region.noSelect_spec hsel) hQ hs hc hn hin (fun listed' a' w' hL => seqB_ready hL.1) r.length listed a w inv (Region.free_spec hoi hf) hr' hy hS
   (wpHeadH_steps hsel hs hc hn r _ _ w (inv.set hr' hin) hB' hS h')
 | (i, false) :: r, listed, a, w, inv, hB, hS, h => by
  simp only [okSteps, Bool.and_eq_true, decide_eq_true_eq] at hB
  obtain ⟨⟨hin, hr⟩, hB'⟩ := hB
  have hr' : i ∈ Region.ready md ops listed := by rw [hr]; simp
  refine ⟨by rw [hr]; simp, fun j hj => ?_⟩
  rw [hr] at hj
  have hji : j = i := by simpa using hj
  subst hji
  exact ⟨hin, wpOp_mono (fun a' w' h3 => ⟨h3.1, wpHeadH_steps hsel hs hc hn r _ a' w' (inv.set hr' hin) hB' h3.1 h3.2⟩) h⟩
theorem wp_region_steps {id : Nat} {a : Act} {w : World} {l : List Oper} (S : World → Prop) (n : Nat) (st : List (Nat × Bool)) (hm : P.follows .mixedOrders = true)
  (hB : (Region.noSelect l.toArray && decide (n < l.toArray.size) && decide (st.length = n) && Region.sinkB .any l.toArray n && Region.chainB .any l.toArray n && okSteps .any l.toArray n st (Array.replicate l.toArray.size false)) = true)
  (hS : S w.drew) (h : wpSteps P l.toArray Q S (fun a' w' => wpList P l.toArray Q (l.drop n) a' w') st a w.drew) : (Code.region id l.toArray true).wp P Q a w := by
 simp only [Bool.and_eq_true, decide_eq_true_eq] at hB
 obtain ⟨⟨⟨⟨⟨hsel, hn⟩, hlen⟩, hs⟩, hc⟩, hok⟩ := hB
 have hdl : (l.drop n).length = l.toArray.size - n := by simp
 have inv0 : HeadInv .any l.toArray n (Array.replicate l.toArray.size false) :=
  ⟨by simp, fun j oj _ hl => (by rw [getD_replicate_false] at hl; cases hl), fun t _ ht => getD_in (by simpa using ht) (getD_replicate_false _ _)⟩
 have H := wpHeadH_steps (P := P) (Q := Q) hsel hs hc hn st _ a _ inv0 hok hS h
 refine wp_region_any hm ?_
 have := wpAny_of_headH (Q := Q) (g := l.toArray.size - n) (fun listed a' w' hL => by
  have := wpAny_of_seq (md := .any) (Q' := Q) (l.drop n) n listed a' w' (fun j => by simp [List.getElem?_drop]) (by rw [hdl]; exact hL.1) hL.2
  rwa [hdl] at this) _ _ _ _ H
 rw [hlen, show n + (l.toArray.size - n) = l.toArray.size by omega] at this
 exact this
end
end Go.Proofs.YtkcdgaijklhnaaaGreatDoor
namespace Go.Proofs.YtkcdgaijklhnaaaGreatDoor
open Go.RowKit
inductive Tr (α : Type) where
 | lf
 | nd (l : Tr α) (v : α) (r : Tr α)
def Tr.get {α : Type} : Tr α → Nat → Option α
 | .lf, _ => none
 | .nd l v r, i => cond (Nat.beq i 0) (some v) (cond (Nat.beq (Nat.mod i 2) 1) (l.get (Nat.div i 2)) (r.get (Nat.sub (Nat.div i 2) 1)))
def Tr.set {α : Type} : Tr α → Nat → α → Option (Tr α)
 | .lf, _, _ => none
 | .nd l v r, i, x => cond (Nat.beq i 0) (some (.nd l x r))
   (cond (Nat.beq (Nat.mod i 2) 1) (match l.set (Nat.div i 2) x with | some l' => some (.nd l' v r) | none => none)
    (match r.set (Nat.sub (Nat.div i 2) 1) x with | some r' => some (.nd l v r') | none => none))
def Tr.full {α : Type} (x : α) : Nat → Tr α
 | 0 => .lf
 | n + 1 => .nd (Tr.full x n) x (Tr.full x n)
theorem Tr.get_set {α : Type} : ∀ (t t' : Tr α) (i : Nat) (x : α), t.set i x = some t' → ∀ j, t'.get j = if j = i then some x else t.get j
 | .lf, _, _, _, h, _ => by cases h
 | .nd l v r, t', i, x, h, j => by
  rw [Tr.set] at h
  cases hi : Nat.beq i 0 with
  | true =>
   have hi0 : i = 0 := Nat.eq_of_beq_eq_true hi
   subst hi0
   rw [hi] at h
   cases h
   cases hj : Nat.beq j 0 with
   | true => have : j = 0 := Nat.eq_of_beq_eq_true hj; subst this; simp [Tr.get]
   | false => have : j ≠ 0 := Nat.ne_of_beq_eq_false hj; simp [Tr.get, hj, this]
  | false =>
   have hi0 : i ≠ 0 := Nat.ne_of_beq_eq_false hi
   rw [hi] at h
   cases hm : Nat.beq (Nat.mod i 2) 1 with
   | true =>
    have hm1 : i % 2 = 1 := Nat.eq_of_beq_eq_true hm
    rw [hm] at h
    simp only [cond] at h
    cases hl : l.set (Nat.div i 2) x with
    | none => rw [hl] at h; cases h
    | some l' =>
     rw [hl] at h
     cases h
     have ih := Tr.get_set l l' _ x hl
     cases hj : Nat.beq j 0 with
     | true => have : j = 0 := Nat.eq_of_beq_eq_true hj; subst this; simp [Tr.get, Ne.symm hi0]
     | false =>
      have hj0 : j ≠ 0 := Nat.ne_of_beq_eq_false hj
      cases hjm : Nat.beq (Nat.mod j 2) 1 with
      | true =>
       have hj1 : j % 2 = 1 := Nat.eq_of_beq_eq_true hjm
       simp only [Tr.get, hj, hjm, cond, ih]
       have : (j.div 2 = i.div 2) ↔ j = i := by show j / 2 = i / 2 ↔ j = i; omega
       simp only [this]
      | false =>
       have hj1 : j % 2 ≠ 1 := Nat.ne_of_beq_eq_false hjm
       simp only [Tr.get, hj, hjm, cond]
       rw [if_neg (by omega)]
   | false =>
    have hm1 : i % 2 ≠ 1 := Nat.ne_of_beq_eq_false hm
    rw [hm] at h
    simp only [cond] at h
    cases hl : r.set (Nat.sub (Nat.div i 2) 1) x with
    | none => rw [hl] at h; cases h
    | some r' =>
     rw [hl] at h
     cases h
     have ih := Tr.get_set r r' _ x hl
     cases hj : Nat.beq j 0 with
     | true => have : j = 0 := Nat.eq_of_beq_eq_true hj; subst this; simp [Tr.get, Ne.symm hi0]
     | false =>
      have hj0 : j ≠ 0 := Nat.ne_of_beq_eq_false hj
      cases hjm : Nat.beq (Nat.mod j 2) 1 with
      | true =>
       have hj1 : j % 2 = 1 := Nat.eq_of_beq_eq_true hjm
       simp only [Tr.get, hj, hjm, cond]
       rw [if_neg (by omega)]
      | false =>
       have hj1 : j % 2 ≠ 1 := Nat.ne_of_beq_eq_false hjm
       simp only [Tr.get, hj, hjm, cond, ih]
       have : (Nat.sub (j.div 2) 1 = Nat.sub (i.div 2) 1) ↔ j = i := by show j / 2 - 1 = i / 2 - 1 ↔ j = i; omega
       simp only [this]
inductive Leaf where
 | val (v : Value)
 | ptr (b o : Nat)
 | sl (b o lo n : Nat)
 | emp (b o : Nat)
 | mp (b : Nat)
inductive One where
 | leaf (x : Leaf)
 | agg (l : List Leaf)
 | fn (f : Nat) (caps : List Leaf)
inductive AV where
 | one (x : One)
 | tup (l : List One)
structure Env where
 φ : Nat → Nat
 κ : Nat → Nat
def Leaf.conc (E : Env) : Leaf → Value
 | .val v => v
 | .ptr b o => .pointer (some ⟨E.φ b, o, none⟩)
 | .sl b o lo n => .slice (some ⟨E.φ b, o, none⟩) n (E.κ b - lo)
 | .emp b o => .slice (some ⟨E.φ b, o, none⟩) 0 0
 | .mp b => .map (some (E.φ b))
def One.conc (E : Env) : One → Value
 | .leaf x => x.conc E
 | .agg l => .agg (l.map (Leaf.conc E)).toArray
 | .fn f caps => .func (.func f) #[] (caps.map (Leaf.conc E)).toArray
def AV.conc (E : Env) : AV → Value
 | .one x => x.conc E
 | .tup l => .tuple (l.map (One.conc E)).toArray
def Leaf.below (m : Nat) : Leaf → Bool
 | .val _ => true
 | .ptr b _ => Nat.blt b m
 | .sl b _ _ _ => Nat.blt b m
 | .emp b _ => Nat.blt b m
 | .mp b => Nat.blt b m
def One.below (m : Nat) : One → Bool
 | .leaf x => x.below m
 | .agg l => l.all (Leaf.below m)
 | .fn _ l => l.all (Leaf.below m)
def AV.below (m : Nat) : AV → Bool
 | .one x => x.below m
 | .tup l => l.all (One.below m)
def Leaf.cell : Leaf → Bool
 | .val v => v.oneCell'
 | _ => true
theorem Leaf.cell_conc {x : Leaf} (h : x.cell = true) (E : Env) : (x.conc E).oneCell' = true := by
 cases x <;> first | exact h | rfl
def Env.same (m : Nat) (E E' : Env) : Prop := ∀ b, b < m → E'.φ b = E.φ b ∧ E'.κ b = E.κ b
theorem Env.same_refl (m : Nat) (E : Env) : Env.same m E E := fun _ _ => ⟨rfl, rfl⟩
theorem blt_lt {a b : Nat} (h : Nat.blt a b = true) : a < b := Nat.le_of_ble_eq_true h
theorem lt_blt {a b : Nat} (h : a < b) : Nat.blt a b = true := Nat.ble_eq_true_of_le h
section
variable {E E' : Env} {m m' : Nat}
theorem Leaf.conc_same (h : Env.same m E E') {x : Leaf} (hx : x.below m = true) : x.conc E' = x.conc E := by
 cases x with
 | val v => rfl
 | ptr b o => simp only [Leaf.conc, (h b (blt_lt hx)).1]
 | sl b o lo n => simp only [Leaf.conc, (h b (blt_lt hx)).1, (h b (blt_lt hx)).2]
 | emp b o => simp only [Leaf.conc, (h b (blt_lt hx)).1]
 | mp b => simp only [Leaf.conc, (h b (blt_lt hx)).1]
theorem Leaf.map_same (h : Env.same m E E') {l : List Leaf} (hl : l.all (Leaf.below m) = true) : l.map (Leaf.conc E') = l.map (Leaf.conc E) :=
 List.map_congr_left fun _ hx => Leaf.conc_same h (List.all_eq_true.1 hl _ hx)
theorem One.conc_same (h : Env.same m E E') {x : One} (hx : x.below m = true) : x.conc E' = x.conc E := by
 cases x with
 | leaf x => exact Leaf.conc_same h hx
 | agg l => simp only [One.conc, Leaf.map_same h hx]
 | fn f l => simp only [One.conc, Leaf.map_same h hx]
theorem AV.conc_same (h : Env.same m E E') {x : AV} (hx : x.below m = true) : x.conc E' = x.conc E := by
 cases x with
 | one x => exact One.conc_same h hx
 | tup l => simp only [AV.conc]; congr 2; exact List.map_congr_left fun _ hx' => One.conc_same h (List.all_eq_true.1 hx _ hx')
theorem Leaf.below_mono (h : m ≤ m') {x : Leaf} (hx : x.below m = true) : x.below m' = true := by
 cases x with
 | val v => rfl
 | ptr b o => exact lt_blt (Nat.lt_of_lt_of_le (blt_lt hx) h)
 | sl b o lo n => exact lt_blt (Nat.lt_of_lt_of_le (blt_lt hx) h)
 | emp b o => exact lt_blt (Nat.lt_of_lt_of_le (blt_lt hx) h)
 | mp b => exact lt_blt (Nat.lt_of_lt_of_le (blt_lt hx) h)
theorem Leaf.all_mono (h : m ≤ m') {l : List Leaf} (hl : l.all (Leaf.below m) = true) : l.all (Leaf.below m') = true :=
 List.all_eq_true.2 fun x hx => Leaf.below_mono h (List.all_eq_true.1 hl x hx)
theorem One.below_mono (h : m ≤ m') {x : One} (hx : x.below m = true) : x.below m' = true := by
 cases x with
 | leaf x => exact Leaf.below_mono h hx
 | agg l => exact Leaf.all_mono h hx
 | fn f l => exact Leaf.all_mono h hx
theorem AV.below_mono (h : m ≤ m') {x : AV} (hx : x.below m = true) : x.below m' = true := by
 cases x with
 | one x => exact One.below_mono h hx
 | tup l => exact List.all_eq_true.2 fun y hy => One.below_mono h (List.all_eq_true.1 hx y hy)
end
def normOne : Value → One
 | .agg cs => .agg (cs.toList.map .val)
 | .func (.func f) first caps => cond first.isEmpty (.fn f (caps.toList.map .val)) (.leaf (.val (.func (.func f) first caps)))
 | v => .leaf (.val v)
def norm : Value → AV
 | .tuple vs => .tup (vs.toList.map normOne)
 | v => .one (normOne v)
theorem conc_vals (E : Env) (l : List Value) : (l.map Leaf.val).map (Leaf.conc E) = l := by
 rw [List.map_map]; exact List.map_id l
theorem conc_normOne (E : Env) (v : Value) : (normOne v).conc E = v := by
 unfold normOne
 split
 ·simp only [One.conc, conc_vals, Array.toArray_toList]
 ·rename_i f first caps
  cases h : first.isEmpty with
  | true => simp only [cond, One.conc, conc_vals, Array.toArray_toList]; rw [Array.isEmpty_iff.1 h]
  | false => rfl
 ·rfl
theorem conc_norm (E : Env) (v : Value) : (norm v).conc E = v := by
 unfold norm
 split
 ·simp only [AV.conc, List.map_map]
  rw [show ((One.conc E) ∘ normOne) = id from funext fun v => conc_normOne E v, List.map_id, Array.toArray_toList]
 ·exact conc_normOne E _
theorem below_vals (m : Nat) (l : List Value) : (l.map Leaf.val).all (Leaf.below m) = true := List.all_eq_true.2 fun x hx => by
 obtain ⟨v, -, rfl⟩ := List.mem_map.1 hx; rfl
theorem below_normOne (m : Nat) (v : Value) : (normOne v).below m = true := by
 unfold normOne
 split
 ·exact below_vals m _
 ·rename_i f first caps
  cases h : first.isEmpty with
  | true => exact below_vals m _
  | false => rfl
 ·rfl
theorem below_norm (m : Nat) (v : Value) : (norm v).below m = true := by
 unfold norm
 split
 ·exact List.all_eq_true.2 fun x hx => by obtain ⟨v, -, rfl⟩ := List.mem_map.1 hx; exact below_normOne m v
 ·exact below_normOne m _
inductive Xblk where
 | dead
 | row (t k : Nat) (cs : List Leaf)
 | mpb (es : List MapEntry) (ck : Nat)
structure St where
 bl : Tr Xblk
 nx : Nat
 wr : List Nat
def RowOk (E : Env) (w : World) (i t k : Nat) (cs : List Leaf) : Prop :=
 ∃ cur : Array Value, w.heap[E.φ i]? = some (.cells cur t (0, 0)) ∧ cur.size = E.κ i * k ∧ E.κ i ≤ maxLen ∧ cur.toList.take cs.length = cs.map (Leaf.conc E)
structure MapsOk (B : Nat) (E : Env) (bl : Tr Xblk) (nx : Nat) (w : World) : Prop where
 ok : ∀ i es ck, bl.get i = some (.mpb es ck) → i < nx ∧ w.heap[E.φ i]? = some (.map es.toArray ck) ∧ B ≤ E.φ i
 inj : ∀ i j es ck es' ck', bl.get i = some (.mpb es ck) → bl.get j = some (.mpb es' ck') → E.φ i = E.φ j → i = j
theorem MapsOk.move {B : Nat} {E E' : Env} {bl bl' : Tr Xblk} {nx nx' : Nat} {w w' : World} (h : MapsOk B E bl nx w) (hbl : ∀ i es ck, bl'.get i = some (.mpb es ck) → bl.get i = some (.mpb es ck)) (hE : Env.same nx E E') (hnx : nx ≤ nx')
  (hw : ∀ i es ck, bl.get i = some (.mpb es ck) → w.heap[E.φ i]? = some (.map es.toArray ck) → w'.heap[E.φ i]? = w.heap[E.φ i]?) : MapsOk B E' bl' nx' w' := by
 refine ⟨fun i es ck e => ?_, fun i j es ck es' ck' e1 e2 e => ?_⟩
 ·obtain ⟨h1, h2, h3⟩ := h.ok i es ck (hbl _ _ _ e)
  exact ⟨by omega, by rw [(hE i h1).1, hw i es ck (hbl _ _ _ e) h2]; exact h2, by rw [(hE i h1).1]; exact h3⟩
 ·have g1 := hbl _ _ _ e1
  have g2 := hbl _ _ _ e2
  have l1 := (h.ok _ _ _ g1).1
  have l2 := (h.ok _ _ _ g2).1
  rw [(hE i l1).1, (hE j l2).1] at e
  exact h.inj _ _ _ _ _ _ g1 g2 e
theorem heap_lt {w : World} {g : Nat} {o : Obj} (h : w.heap[g]? = some o) : g < w.heap.size := (Array.getElem?_eq_some_iff.1 h).1
structure Rep (B : Nat) (w0 : World) (E : Env) (st : St) (w : World) : Prop where
 base : B ≤ w0.heap.size
 below : Below B w0 w
 top : ∀ i, st.nx ≤ i → ∀ t k cs, st.bl.get i ≠ some (.row t k cs)
 ok : ∀ i t k cs, st.bl.get i = some (.row t k cs) → RowOk E w i t k cs ∧ B ≤ E.φ i ∧ cs.all (Leaf.below st.nx) = true ∧ cs.all Leaf.cell = true
 inj : ∀ i j t k cs t' k' cs', st.bl.get i = some (.row t k cs) → st.bl.get j = some (.row t' k' cs') → E.φ i = E.φ j → i = j
 maps : MapsOk B E st.bl st.nx w
structure Ext (E : Env) (st : St) (E' : Env) (st' : St) : Prop where
 nx : st.nx ≤ st'.nx
 env : Env.same st.nx E E'
 wr : ∀ b, b ∈ st.wr → b ∈ st'.wr
 bl : ∀ b, b < st.nx → b ∉ st'.wr → st'.bl.get b = st.bl.get b
theorem Ext.refl (E : Env) (st : St) : Ext E st E st := ⟨Nat.le_refl _, Env.same_refl _ _, fun _ h => h, fun _ _ _ => rfl⟩
theorem Ext.trans {E E' E'' : Env} {st st' st'' : St} (h : Ext E st E' st') (k : Ext E' st' E'' st'') : Ext E st E'' st'' :=
 ⟨Nat.le_trans h.nx k.nx, fun b hb => ⟨((k.env b (Nat.lt_of_lt_of_le hb h.nx)).1).trans (h.env b hb).1, ((k.env b (Nat.lt_of_lt_of_le hb h.nx)).2).trans (h.env b hb).2⟩,
  fun b hb => k.wr b (h.wr b hb), fun b hb hw => (k.bl b (Nat.lt_of_lt_of_le hb h.nx) hw).trans (h.bl b hb fun hh => hw (k.wr b hh))⟩
theorem Rep.lt {B : Nat} {w0 : World} {E : Env} {st : St} {w : World} (h : Rep B w0 E st w) {i t k : Nat} {cs : List Leaf} (hi : st.bl.get i = some (.row t k cs)) : i < st.nx :=
 Nat.lt_of_not_le fun hn => h.top i hn t k cs hi
theorem Rep.drew {B : Nat} {w0 : World} {E : Env} {st : St} {w : World} (h : Rep B w0 E st w) : Rep B w0 E st w.drew :=
 ⟨h.base, h.below.drew, h.top, h.ok, h.inj, ⟨h.maps.ok, h.maps.inj⟩⟩
theorem Rep.mem {B : Nat} {w0 : World} {E : Env} {st : St} {w : World} (h : Rep B w0 E st w) {i t k : Nat} {cs : List Leaf} (hi : st.bl.get i = some (.row t k cs)) : E.φ i < w.heap.size := by
 obtain ⟨⟨cur, hg, -⟩, -⟩ := h.ok i t k cs hi
 exact (Array.getElem?_eq_some_iff.1 hg).1
theorem Rep.push {B : Nat} {w0 : World} {E : Env} {st : St} {w : World} (h : Rep B w0 E st w) {t k c : Nat} {cs : List Leaf} {cur : Array Value} {bl' : Tr Xblk}
  (hs : st.bl.set st.nx (.row t k cs) = some bl') (hz : cur.size = c * k) (hc : c ≤ maxLen) (ht : cur.toList.take cs.length = cs.map (Leaf.conc E))
  (hb : cs.all (Leaf.below st.nx) = true) (h1 : cs.all Leaf.cell = true) :
  Rep B w0 ⟨fun i => if i = st.nx then w.heap.size else E.φ i, fun i => if i = st.nx then c else E.κ i⟩ ⟨bl', st.nx + 1, st.wr⟩ (w.alloc (.cells cur t)) ∧
   Ext E st ⟨fun i => if i = st.nx then w.heap.size else E.φ i, fun i => if i = st.nx then c else E.κ i⟩ ⟨bl', st.nx + 1, st.wr⟩ := by
 have hget := Tr.get_set _ _ _ _ hs
 have hsame : Env.same st.nx E ⟨fun i => if i = st.nx then w.heap.size else E.φ i, fun i => if i = st.nx then c else E.κ i⟩ := fun b hb => by
  have : b ≠ st.nx := by omega
  simp [this]
 have hB : B ≤ w.heap.size := Nat.le_trans h.base h.below.size
 refine ⟨⟨h.base, h.below.alloc hB _, ?_, ?_, ?_, h.maps.move (fun i es ck e => by
  rw [hget] at e
  split at e
  ·cases e
  ·exact e) hsame (Nat.le_succ _) fun i es ck _ e => Below.heap_alloc w _ _ (heap_lt e)⟩, ⟨Nat.le_succ _, hsame, fun _ h => h, fun b hb hw => ?_⟩⟩
 ·intro i hi t' k' cs' e
  rw [hget, if_neg (by simp at hi; omega)] at e
  exact h.top i (by simp at hi; omega) _ _ _ e
 ·intro i t' k' cs' e
  rw [hget] at e
  split at e
  ·rename_i hi
   subst hi
   injection e with e
   injection e with e1 e2 e3
   subst e1 e2 e3
   refine ⟨⟨cur, ?_, ?_, ?_, ?_⟩, ?_, Leaf.all_mono (Nat.le_succ _) hb, h1⟩
   ·simp only [if_true]
    exact heap_alloc_new w _
   ·simpa using hz
   ·simpa using hc
   ·rw [ht, Leaf.map_same hsame hb]
   ·simpa using hB
  ·rename_i hi
   obtain ⟨⟨cur', hg, g1, g2, g3⟩, g4, g5, g6⟩ := h.ok i t' k' cs' e
   have hlt := h.lt e
   refine ⟨⟨cur', ?_, ?_, ?_, ?_⟩, ?_, Leaf.all_mono (Nat.le_succ _) g5, g6⟩
   ·simp only [hi, if_false]
    rw [Below.heap_alloc w _ _ (h.mem e)]
    exact hg
   ·simpa [hi] using g1
   ·simpa [hi] using g2
   ·rw [g3, Leaf.map_same hsame g5]
   ·simpa [hi] using g4
 ·intro i j t1 k1 c1 t2 k2 c2 e1 e2 e
  rw [hget] at e1 e2
  split at e1 <;> split at e2 <;> rename_i hi hj
  ·rw [hi, hj]
  ·exfalso
   have := h.mem e2
   simp only [hi, hj, if_true, if_false] at e
   omega
  ·exfalso
   have := h.mem e1
   simp only [hi, hj, if_true, if_false] at e
   omega
  ·simp only [hi, hj, if_false] at e
   exact h.inj i j _ _ _ _ _ _ e1 e2 e
 ·simp only
  rw [hget, if_neg (by omega)]
theorem Rep.write {B : Nat} {w0 : World} {E : Env} {st : St} {w : World} (h : Rep B w0 E st w) {i t k : Nat} {cs cs' : List Leaf} {cur cur' : Array Value} {bl' : Tr Xblk}
  (hi : st.bl.get i = some (.row t k cs)) (hs : st.bl.set i (.row t k cs') = some bl') (hg : w.heap[E.φ i]? = some (.cells cur t (0, 0))) (hz : cur'.size = cur.size)
  (ht : cur'.toList.take cs'.length = cs'.map (Leaf.conc E)) (hb : cs'.all (Leaf.below st.nx) = true) (h1 : cs'.all Leaf.cell = true) :
  Rep B w0 E ⟨bl', st.nx, i :: st.wr⟩ (w.setRow (E.φ i) cur') ∧ Ext E st E ⟨bl', st.nx, i :: st.wr⟩ := by
 have hget := Tr.get_set _ _ _ _ hs
 obtain ⟨⟨cur0, hg0, z0, z1, z2⟩, hB, -, -⟩ := h.ok i t k cs hi
 have hc0 : cur0 = cur := by rw [hg0] at hg; injection hg with hg; injection hg
 subst hc0
 have hmem := h.mem hi
 refine ⟨⟨h.base, ?_, ?_, ?_, ?_, h.maps.move (fun j es ck e => by
  rw [hget] at e
  split at e
  ·cases e
  ·exact e) (Env.same_refl _ _) (Nat.le_refl _) fun j es ck _ e => setRow_other w _ _ _ (fun he => by rw [he, hg] at e; cases e)⟩, ⟨Nat.le_refl _, Env.same_refl _ _, fun _ h => List.mem_cons_of_mem _ h, fun b hb hw => ?_⟩⟩
 ·exact ⟨h.below.os, h.below.tape, h.below.output, by simpa [World.setRow] using h.below.size, fun k hk => (setRow_other w _ _ _ (by omega)).trans (h.below.block k hk)⟩
 ·intro j hj t' k' c' e
  rw [hget] at e
  split at e
  ·rename_i hji
   exact h.top i (by rw [← hji]; exact hj) _ _ _ hi
  ·exact h.top j hj _ _ _ e
 ·intro j t' k' c' e
  rw [hget] at e
  split at e
  ·rename_i hji
   subst hji
   injection e with e
   injection e with e1 e2 e3
   subst e1 e2 e3
   exact ⟨⟨cur', setRow_heap w _ _ _ _ _ hg, by rw [hz, z0], z1, ht⟩, hB, hb, h1⟩
  ·rename_i hji
   obtain ⟨⟨cur2, hg2, g1, g2, g3⟩, g4, g5, g6⟩ := h.ok j t' k' c' e
   exact ⟨⟨cur2, (setRow_other w _ _ _ (fun he => hji (h.inj _ _ _ _ _ _ _ _ e hi he))).trans hg2, g1, g2, g3⟩, g4, g5, g6⟩
 ·intro a b t1 k1 c1 t2 k2 c2 e1 e2 e
  rw [hget] at e1 e2
  split at e1 <;> split at e2 <;> rename_i ha hb
  ·rw [ha, hb]
  ·subst ha; exact h.inj _ _ _ _ _ _ _ _ hi e2 e
  ·subst hb; exact h.inj _ _ _ _ _ _ _ _ e1 hi e
  ·exact h.inj _ _ _ _ _ _ _ _ e1 e2 e
 ·simp only
  rw [hget, if_neg (fun e => hw (by rw [e]; exact List.mem_cons_self))]
end Go.Proofs.YtkcdgaijklhnaaaGreatDoor
namespace Go.Proofs.YtkcdgaijklhnaaaGreatDoor
open Go.RowKit
def still {α : Type} (P : Program) : Sem α → Option α
 | .pure a => some a
 | .program k => still P (k P)
 | .mark _ k => still P k
 | _ => none
theorem still_run {α : Type} {P : Program} {s : Sem α} {x : α} (h : still P s = some x) (w : World) : s.run P w = .ok x w := by
 induction s with
 | pure a => simp only [still, Option.some.injEq] at h; subst h; rfl
 | program k ih => exact ih P h
 | mark m k ih => exact ih h
 | _ => cases h
structure Fr where
 tr : Tr AV
 nt : Nat
 df : List (Nat × List Leaf)
def dfc (E : Env) (d : Nat × List Leaf) : Deferred := { target := .fn (.func d.1) (d.2.map (Leaf.conc E)).toArray, args := #[] }
structure FrOk (E : Env) (m : Nat) (fr : Fr) (a : Act) : Prop where
 size : a.tmps.size = fr.nt
 tm : ∀ i, i < fr.nt → ∃ v, fr.tr.get i = some v ∧ v.below m = true ∧ a.tmps[i]? = some (v.conc E)
 df : a.defers = fr.df.map (dfc E)
 dfb : ∀ d ∈ fr.df, d.2.all (Leaf.below m) = true
theorem FrOk.mono {E E' : Env} {m m' : Nat} {fr : Fr} {a : Act} (h : FrOk E m fr a) (hE : Env.same m E E') (hm : m ≤ m') : FrOk E' m' fr a :=
 ⟨h.size, fun i hi => by obtain ⟨v, h1, h2, h3⟩ := h.tm i hi; exact ⟨v, h1, AV.below_mono hm h2, by rw [AV.conc_same hE h2]; exact h3⟩,
  h.df.trans (List.map_congr_left fun d hd => by simp only [dfc, Leaf.map_same hE (h.dfb d hd)]), fun d hd => Leaf.all_mono hm (h.dfb d hd)⟩
def aev (fr : Fr) : Operand → Option AV
 | .tmp t => cond (Nat.blt t fr.nt) (fr.tr.get t) none
 | .const v => some (norm v)
 | .func f => some (.one (.fn f []))
 | .global g => some (.one (.leaf (.val (.pointer (some ⟨g, 0, none⟩)))))
theorem aev_ok {E : Env} {m : Nat} {fr : Fr} {a : Act} (h : FrOk E m fr a) {x : Operand} {v : AV} (hx : aev fr x = some v) : a.eval x = v.conc E ∧ v.below m = true := by
 cases x with
 | tmp t =>
  simp only [aev] at hx
  cases hb : Nat.blt t fr.nt with
  | false => rw [hb] at hx; cases hx
  | true =>
   rw [hb] at hx
   obtain ⟨u, h1, h2, h3⟩ := h.tm t (blt_lt hb)
   simp only [cond] at hx
   rw [h1] at hx
   cases hx
   refine ⟨?_, h2⟩
   simp only [Act.eval]
   rw [Array.getD_eq_getD_getElem?, h3]
   rfl
 | const v => simp only [aev, Option.some.injEq] at hx; subst hx; exact ⟨(conc_norm E _).symm, below_norm m _⟩
 | func f => simp only [aev, Option.some.injEq] at hx; subst hx; exact ⟨rfl, rfl⟩
 | global g => simp only [aev, Option.some.injEq] at hx; subst hx; exact ⟨rfl, rfl⟩
def Fr.put (fr : Fr) (m : Nat) (dst : Option Nat) (v : AV) : Option Fr :=
 match dst with
 | none => some fr
 | some d => cond (Nat.blt d fr.nt) (cond (v.below m) (match fr.tr.set d v with | some t => some { fr with tr := t } | none => none) none) none
theorem put_ok {E : Env} {m : Nat} {fr fr' : Fr} {a : Act} (h : FrOk E m fr a) {dst : Option Nat} {v : AV} (hp : fr.put m dst v = some fr') : FrOk E m fr' (a.put dst (v.conc E)) := by
 cases dst with
 | none => simp only [Fr.put, Option.some.injEq] at hp; subst hp; exact h
 | some d =>
  simp only [Fr.put] at hp
  cases hb : Nat.blt d fr.nt with
  | false => rw [hb] at hp; cases hp
  | true =>
   rw [hb] at hp
   cases hv : v.below m with
   | false => rw [hv] at hp; cases hp
   | true =>
    rw [hv] at hp
    simp only [cond] at hp
    cases hs : fr.tr.set d v with
    | none => rw [hs] at hp; cases hp
    | some t =>
     rw [hs] at hp
     simp only [Option.some.injEq] at hp
     subst hp
     have hg := Tr.get_set _ _ _ _ hs
     refine ⟨by simp [Act.put, h.size], fun i hi => ?_, h.df, h.dfb⟩
     simp only at hi ⊢
     rw [hg]
     by_cases hid : i = d
     ·subst hid
      exact ⟨v, by simp, hv, by simp [Act.put, h.size, hi]⟩
     ·obtain ⟨u, h1, h2, h3⟩ := h.tm i hi
      exact ⟨u, by simp [hid, h1], h2, by simp only [Act.put]; rw [Array.getElem?_setIfInBounds_ne (Ne.symm hid)]; exact h3⟩
def Leaf.lit : Leaf → Option Value
 | .val v => some v
 | _ => none
def lits : List Leaf → Option (List Value)
 | [] => some []
 | x :: l => match x.lit, lits l with
  | some v, some r => some (v :: r)
  | _, _ => none
def AV.lit : AV → Option Value
 | .one (.leaf x) => x.lit
 | .one (.agg l) => match lits l with | some r => some (.agg r.toArray) | none => none
 | .one (.fn f l) => match lits l with | some r => some (.func (.func f) #[] r.toArray) | none => none
 | .tup _ => none
theorem lits_conc (E : Env) : ∀ (l : List Leaf) (r : List Value), lits l = some r → l.map (Leaf.conc E) = r
 | [], r, h => by cases h; rfl
 | x :: l, r, h => by
  simp only [lits] at h
  cases x with
  | val v =>
   cases hl : lits l with
   | none => rw [hl] at h; cases h
   | some q => rw [hl] at h; cases h; rw [List.map_cons, lits_conc E l q hl]; rfl
  | ptr _ _ => cases h
  | sl _ _ _ _ => cases h
  | emp _ _ => cases h
  | mp _ => cases h
theorem lit_conc (E : Env) {v : AV} {u : Value} (h : v.lit = some u) : v.conc E = u := by
 cases v with
 | tup l => cases h
 | one x =>
  cases x with
  | leaf x => cases x <;> first | (cases h; rfl) | cases h
  | agg l =>
   simp only [AV.lit] at h
   cases hl : lits l with
   | none => rw [hl] at h; cases h
   | some q => rw [hl] at h; cases h; simp only [AV.conc, One.conc, lits_conc E l q hl]
  | fn f l =>
   simp only [AV.lit] at h
   cases hl : lits l with
   | none => rw [hl] at h; cases h
   | some q => rw [hl] at h; cases h; simp only [AV.conc, One.conc, lits_conc E l q hl]
def forceV : Value → Option Value
 | .int k n => match n with
  | .ofNat m => match m with
   | 0 => some (.int k (.ofNat 0))
   | j + 1 => some (.int k (.ofNat (j + 1)))
  | .negSucc m => match m with
   | 0 => some (.int k (.negSucc 0))
   | j + 1 => some (.int k (.negSucc (j + 1)))
 | .bool b => match b with
  | true => some (.bool true)
  | false => some (.bool false)
 | v => some v
theorem forceV_eq {v u : Value} (h : forceV v = some u) : u = v := by
 unfold forceV at h
 split at h
 ·split at h <;> split at h <;> cases h <;> rfl
 ·split at h <;> cases h <;> rfl
 ·cases h; rfl
def leaves : List Value → Option (List Leaf)
 | [] => some []
 | v :: l => match forceV v, leaves l with
  | some u, some r => some (.val u :: r)
  | _, _ => none
theorem leaves_eq : ∀ (l : List Value) (r : List Leaf), leaves l = some r → r = l.map .val
 | [], r, h => by cases h; rfl
 | v :: l, r, h => by
  simp only [leaves] at h
  cases hv : forceV v with
  | none => rw [hv] at h; cases h
  | some u =>
   rw [hv] at h
   cases hl : leaves l with
   | none => rw [hl] at h; cases h
   | some q => rw [hl] at h; cases h; rw [forceV_eq hv, leaves_eq l q hl]; rfl
def normF : Value → Option AV
 | .agg cs => match leaves cs.toList with | some l => some (.one (.agg l)) | none => none
 | .tuple vs => some (.tup (vs.toList.map normOne))
 | .func f a c => some (norm (.func f a c))
 | v => match forceV v with | some u => some (.one (.leaf (.val u))) | none => none
theorem normF_ok {v : Value} {x : AV} (h : normF v = some x) (E : Env) (m : Nat) : x.conc E = v ∧ x.below m = true := by
 unfold normF at h
 split at h
 ·rename_i cs
  split at h
  ·rename_i l hl
   cases h
   rw [leaves_eq _ _ hl]
   exact ⟨by simp only [AV.conc, One.conc, conc_vals, Array.toArray_toList], below_vals m _⟩
  ·cases h
 ·cases h; exact ⟨conc_norm E (.tuple _), below_norm m (.tuple _)⟩
 ·cases h; exact ⟨conc_norm E _, below_norm m _⟩
 ·split at h
  ·rename_i u hu
   cases h
   rw [forceV_eq hu]
   exact ⟨rfl, rfl⟩
  ·cases h
def noSel : Op → Bool
 | .select .. => false
 | _ => true
def litOf (fr : Fr) (x : Operand) : Option Value :=
 match aev fr x with
 | some v => v.lit
 | none => none
def pureX (P : Program) (fr : Fr) (o : Oper) : Option AV :=
 cond (noSel o.op) (cond (o.op.operands.all fun x => (litOf fr x).isSome)
  (match still P (execOp (fun x => (litOf fr x).getD undef) o) with
  | some (.value v) => normF v
  | _ => none) none) none
theorem litOf_eval {E : Env} {m : Nat} {fr : Fr} {a : Act} (h : FrOk E m fr a) {x : Operand} {u : Value} (hx : litOf fr x = some u) : a.eval x = u := by
 unfold litOf at hx
 split at hx
 ·rename_i v hv
  rw [(aev_ok h hv).1]
  exact lit_conc E hx
 ·cases hx
theorem pureX_ok {P : Program} {E : Env} {m : Nat} {fr : Fr} {a : Act} {o : Oper} {v : AV} (h : FrOk E m fr a) (hv : pureX P fr o = some v) :
  v.below m = true ∧ ∀ w, (execOp a.eval o).run P w = .ok (.value (v.conc E)) w := by
 unfold pureX at hv
 cases hs : noSel o.op with
 | false => rw [hs] at hv; cases hv
 | true =>
  rw [hs] at hv
  cases hl : (o.op.operands.all fun x => (litOf fr x).isSome) with
  | false => rw [hl] at hv; cases hv
  | true =>
   rw [hl] at hv
   simp only [cond] at hv
   have hc : execOp a.eval o = execOp (fun x => (litOf fr x).getD undef) o := execOp_congr o (fun cs b e => by rw [e] at hs; cases hs) fun x hx => by
    have := (Array.all_eq_true_iff_forall_mem.1 hl) x hx
    obtain ⟨u, hu⟩ := Option.isSome_iff_exists.1 this
    rw [litOf_eval h hu, hu]
    rfl
   split at hv
   ·rename_i u hu
    obtain ⟨h1, h2⟩ := normF_ok hv E m
    exact ⟨h2, fun w => by rw [hc, h1]; exact still_run hu w⟩
   ·cases hv
end Go.Proofs.YtkcdgaijklhnaaaGreatDoor
namespace Go.Proofs.YtkcdgaijklhnaaaGreatDoor
open Go.RowKit
def cellsOf : AV → Option (List Leaf)
 | .one (.leaf x) => cond x.cell (some [x]) none
 | .one (.agg l) => cond (l.all Leaf.cell) (some l) none
 | _ => none
theorem cells_one {v : Value} (h : v.oneCell' = true) : v.cells = #[v] := by cases v <;> first | rfl | cases h
theorem cellsOf_ok {v : AV} {l : List Leaf} (h : cellsOf v = some l) (E : Env) : (v.conc E).cells = (l.map (Leaf.conc E)).toArray ∧ l.all Leaf.cell = true ∧ ∀ m, v.below m = true → l.all (Leaf.below m) = true := by
 cases v with
 | tup l => cases h
 | one x =>
  cases x with
  | leaf x =>
   simp only [cellsOf] at h
   cases hc : x.cell with
   | false => rw [hc] at h; cases h
   | true =>
    rw [hc] at h
    cases h
    refine ⟨cells_one (Leaf.cell_conc hc E), by simp [hc], fun m hm => ?_⟩
    rw [List.all_cons, List.all_nil, Bool.and_true]
    exact hm
  | agg l =>
   simp only [cellsOf] at h
   cases hc : l.all Leaf.cell with
   | false => rw [hc] at h; cases h
   | true => rw [hc] at h; cases h; exact ⟨rfl, hc, fun m hm => hm⟩
  | fn f l => cases h
def splice (cs : List Leaf) : Nat → List Leaf → List Leaf
 | _, [] => cs
 | o, x :: l => splice (cs.set o x) (o + 1) l
theorem length_splice : ∀ (l cs : List Leaf) (o : Nat), (splice cs o l).length = cs.length
 | [], _, _ => rfl
 | x :: l, cs, o => by rw [splice, length_splice l]; simp
theorem map_splice (E : Env) : ∀ (l cs : List Leaf) (o : Nat), (splice cs o l).map (Leaf.conc E) = ((l.map (Leaf.conc E)).zipIdx o).foldl (fun c p => c.set p.2 p.1) (cs.map (Leaf.conc E))
 | [], _, _ => rfl
 | x :: l, cs, o => by rw [splice, map_splice E l]; simp
theorem all_splice {p : Leaf → Bool} : ∀ (l cs : List Leaf) (o : Nat), cs.all p = true → l.all p = true → (splice cs o l).all p = true
 | [], _, _, h, _ => h
 | x :: l, cs, o, h, k => by
  simp only [List.all_cons, Bool.and_eq_true] at k
  exact all_splice l _ _ (List.all_eq_true.2 fun y hy => by
   rcases List.mem_or_eq_of_mem_set hy with h1 | h1
   ·exact List.all_eq_true.1 h y h1
   ·rw [h1]; exact k.1) k.2
theorem fold_shift (off : Nat) : ∀ (l : List Value) (j : Nat) (c : List Value), ((l.zipIdx j).foldl (fun cs (p : Value × Nat) => cs.setIfInBounds (off + p.2) p.1) c.toArray) = ((l.zipIdx (off + j)).foldl (fun c p => c.set p.2 p.1) c).toArray
 | [], _, _ => rfl
 | x :: l, j, c => by
  simp only [List.zipIdx_cons, List.foldl_cons, List.setIfInBounds_toArray]
  rw [fold_shift off l (j + 1) _, Nat.add_assoc]
def fillX (place : Nat → Option (Nat × Nat)) (cells : List Leaf) : List (Nat × AV) → Option (List Leaf)
 | [] => some cells
 | (i, v) :: rest => match place i, cellsOf v with
  | some (off, size), some l => cond (Nat.beq l.length size) (cond (Nat.ble (off + l.length) cells.length) (fillX place (splice cells off l) rest) none) none
  | _, _ => none
theorem fillX_ok (E : Env) (place : Nat → Option (Nat × Nat)) : ∀ (ps : List (Nat × AV)) (cells r : List Leaf), fillX place cells ps = some r →
  Instr.fill place (cells.map (Leaf.conc E)).toArray (ps.map fun p => (p.1, p.2.conc E)) = some (r.map (Leaf.conc E)).toArray ∧ r.length = cells.length ∧
   (cells.all Leaf.cell = true → r.all Leaf.cell = true) ∧ (∀ m, cells.all (Leaf.below m) = true → (∀ p ∈ ps, p.2.below m = true) → r.all (Leaf.below m) = true)
 | [], cells, r, h => by cases h; exact ⟨rfl, rfl, id, fun _ h _ => h⟩
 | (i, v) :: rest, cells, r, h => by
  simp only [fillX] at h
  cases hp : place i with
  | none => rw [hp] at h; cases h
  | some q =>
   obtain ⟨off, size⟩ := q
   rw [hp] at h
   cases hv : cellsOf v with
   | none => rw [hv] at h; cases h
   | some l =>
    rw [hv] at h
    simp only at h
    cases h1 : Nat.beq l.length size with
    | false => rw [h1] at h; cases h
    | true =>
     rw [h1] at h
     cases h2 : Nat.ble (off + l.length) cells.length with
     | false => rw [h2] at h; cases h
     | true =>
      rw [h2] at h
      simp only [cond] at h
      obtain ⟨e1, e2, e3, e4⟩ := fillX_ok E place rest _ r h
      obtain ⟨c1, c2, c3⟩ := cellsOf_ok hv E
      have hsz : l.length = size := Nat.eq_of_beq_eq_true h1
      have hle : off + l.length ≤ cells.length := Nat.le_of_ble_eq_true h2
      refine ⟨?_, by rw [e2, length_splice], fun hc => e3 (all_splice _ _ _ hc c2), fun m hm hps => e4 m (all_splice _ _ _ hm (c3 m (hps _ List.mem_cons_self))) fun p hp => hps p (List.mem_cons_of_mem _ hp)⟩
      rw [List.map_cons, Instr.fill, hp]
      simp only
      rw [c1, if_neg (by simp; omega)]
      rw [← e1, map_splice]
      congr 1
      rw [show ((l.map (Leaf.conc E)).toArray.zipIdx) = ((l.map (Leaf.conc E)).zipIdx).toArray by simp]
      rw [List.foldl_toArray]
      exact fold_shift off (l.map (Leaf.conc E)) 0 (cells.map (Leaf.conc E))
def partsX (fr : Fr) : List (Nat × Operand) → Option (List (Nat × AV))
 | [] => some []
 | (i, x) :: l => match aev fr x, partsX fr l with
  | some v, some r => some ((i, v) :: r)
  | _, _ => none
theorem partsX_ok {E : Env} {m : Nat} {fr : Fr} {a : Act} (h : FrOk E m fr a) : ∀ (l : List (Nat × Operand)) (r : List (Nat × AV)), partsX fr l = some r →
  (l.map fun p => (p.1, a.eval p.2)) = (r.map fun p => (p.1, p.2.conc E)) ∧ ∀ p ∈ r, p.2.below m = true
 | [], r, hr => by cases hr; exact ⟨rfl, fun p hp => by cases hp⟩
 | (i, x) :: l, r, hr => by
  simp only [partsX] at hr
  cases hx : aev fr x with
  | none => rw [hx] at hr; cases hr
  | some v =>
   rw [hx] at hr
   cases hl : partsX fr l with
   | none => rw [hl] at hr; cases hr
   | some q =>
    rw [hl] at hr
    cases hr
    obtain ⟨h1, h2⟩ := aev_ok h hx
    obtain ⟨h3, h4⟩ := partsX_ok h l q hl
    refine ⟨by rw [List.map_cons, List.map_cons, h3, h1], fun p hp => ?_⟩
    rcases List.mem_cons.1 hp with rfl | hp
    ·exact h2
    ·exact h4 p hp
def capsX (fr : Fr) : List Operand → Option (List Leaf)
 | [] => some []
 | x :: l => match aev fr x, capsX fr l with
  | some (.one (.leaf y)), some r => some (y :: r)
  | _, _ => none
theorem capsX_ok {E : Env} {m : Nat} {fr : Fr} {a : Act} (h : FrOk E m fr a) : ∀ (l : List Operand) (r : List Leaf), capsX fr l = some r → l.map a.eval = r.map (Leaf.conc E) ∧ r.all (Leaf.below m) = true
 | [], r, hr => by cases hr; exact ⟨rfl, rfl⟩
 | x :: l, r, hr => by
  simp only [capsX] at hr
  split at hr
  ·rename_i y q hx hl
   cases hr
   obtain ⟨h1, h2⟩ := aev_ok h hx
   obtain ⟨h3, h4⟩ := capsX_ok h l q hl
   refine ⟨by rw [List.map_cons, List.map_cons, h3, h1]; rfl, ?_⟩
   rw [List.all_cons, h4, Bool.and_true]
   exact h2
  ·cases hr
def placesX (P : Program) (fields : Array Field) : Option (Array (Nat × Nat)) := still P (fields.mapM fun f => do pure (f.offset, ← sizeOf f.type))
def zeroX (P : Program) (t : Nat) : Option (List Leaf) :=
 match P.info? t with
 | some i => match i.zero with
  | some z => match normF z with
   | some v => cellsOf v
   | none => none
  | none => none
 | none => none
theorem zeroX_ok {P : Program} {t : Nat} {l : List Leaf} (h : zeroX P t = some l) (E : Env) : ∃ i z, P.info? t = some i ∧ i.zero = some z ∧ z.cells = (l.map (Leaf.conc E)).toArray ∧ l.all Leaf.cell = true ∧ ∀ m, l.all (Leaf.below m) = true := by
 unfold zeroX at h
 split at h
 ·rename_i i hi
  split at h
  ·rename_i z hz
   split at h
   ·rename_i v hv
    obtain ⟨c1, c2, c3⟩ := cellsOf_ok h E
    refine ⟨i, z, hi, hz, ?_, c2, fun m => c3 m (normF_ok hv E m).2⟩
    rw [← c1, (normF_ok hv E 0).1]
   ·cases h
  ·cases h
 ·cases h
def buildX (P : Program) (fr : Fr) (t : Nat) (parts : Array (Nat × Operand)) : Option AV :=
 match zeroX P t, P.underlying t, partsX fr parts.toList with
 | some zs, some (.struct fields), some ps => match placesX P fields with
  | some pl => match fillX (fun i => pl[i]?) zs ps with
   | some l => some (.one (.agg l))
   | none => none
  | none => none
 | _, _, _ => none
theorem buildX_ok {P : Program} {E : Env} {m : Nat} {fr : Fr} {a : Act} {t : Nat} {parts : Array (Nat × Operand)} {v : AV} (h : FrOk E m fr a) (hv : buildX P fr t parts = some v) (w : World) :
  (Instr.build t (parts.map fun (i, x) => (i, a.eval x))).run P w = .ok (v.conc E) w ∧ v.below m = true := by
 unfold buildX at hv
 split at hv
 ·rename_i zs fields ps hz hu hp
  split at hv
  ·rename_i pl hpl
   split at hv
   ·rename_i l hl
    cases hv
    obtain ⟨i, z, hi, hiz, z1, z2, z3⟩ := zeroX_ok hz E
    obtain ⟨f1, f2, f3, f4⟩ := fillX_ok E _ ps zs l hl
    obtain ⟨p1, p2⟩ := partsX_ok h _ _ hp
    refine ⟨?_, f4 m (z3 m) p2⟩
    have hpl' := still_run hpl w
    have hps : (parts.map fun (x : Nat × Operand) => (x.1, a.eval x.2)).toList = ps.map fun p => (p.1, p.2.conc E) := by rw [Array.toList_map]; exact p1
    have hzr : (zeroValue t).run P w = .ok z w := by simp [zeroValue, typeInfo, hi, hiz]
    simp only [Instr.build, Sem.run_bind, hzr, run_underlying hu w, Result.andThen_ok]
    rw [hpl']
    simp only [Result.andThen_ok]
    rw [hps, z1, f1]
    rfl
   ·cases hv
  ·cases hv
 ·cases hv
end Go.Proofs.YtkcdgaijklhnaaaGreatDoor
namespace Go.Proofs.YtkcdgaijklhnaaaGreatDoor
open Go.RowKit
def sizeX (P : Program) (t : Nat) : Option Nat := match P.info? t with | some i => some i.size | none => none
theorem sizeX_ok {P : Program} {t n : Nat} (h : sizeX P t = some n) : ∃ i, P.info? t = some i ∧ i.size = n := by
 unfold sizeX at h
 split at h
 ·rename_i i hi; cases h; exact ⟨i, hi, rfl⟩
 ·cases h
def fieldAddrX (P : Program) (fr : Fr) (s : Nat) (x : Operand) (f : Nat) : Option AV :=
 match aev fr x, P.underlying s with
 | some (.one (.leaf (.ptr b o))), some (.struct fields) => match fields[f]? with
  | some fd => match sizeX P fd.type with
   | some n => cond (Nat.beq n 0) none (some (.one (.leaf (.ptr b (Nat.add o fd.offset)))))
   | none => none
  | none => none
 | _, _ => none
def indexAddrX (P : Program) (fr : Fr) (t : Nat) (x ix : Operand) : Option AV :=
 match aev fr x, litOf fr ix, P.underlying t with
 | some (.one (.leaf (.sl b o _ n))), some (.int _ (.ofNat i)), some (.slice e) => match sizeX P e with
  | some s => cond (Nat.blt i n) (some (.one (.leaf (.ptr b (Nat.add o (Nat.mul i s)))))) none
  | none => none
 | some (.one (.leaf (.ptr b o))), some (.int _ (.ofNat i)), some (.array n e) => match sizeX P e with
  | some s => cond (Nat.blt i n) (some (.one (.leaf (.ptr b (Nat.add o (Nat.mul i s)))))) none
  | none => none
 | _, _, _ => none
def fieldX (P : Program) (fr : Fr) (t : Nat) (x : Operand) (f : Nat) : Option AV :=
 match aev fr x, P.underlying t with
 | some (.one (.agg l)), some (.struct fields) => match fields[f]? with
  | some fd => match P.underlying fd.type, sizeX P fd.type with
   | some d, some n => cond d.isRow (some (.one (.agg ((l.drop fd.offset).take n)))) (match l[fd.offset]? with | some y => some (.one (.leaf y)) | none => none)
   | _, _ => none
  | none => none
 | _, _ => none
def nilCmpX (P : Program) (fr : Fr) (neg : Bool) (t : Nat) (x y : Operand) : Option AV :=
 match aev fr x, litOf fr y, P.underlying t with
 | some (.one (.leaf (.ptr _ _))), some (.pointer none), some (.pointer _) => some (.one (.leaf (.val (.bool neg))))
 | some (.one (.leaf (.sl _ _ _ _))), some (.slice none _ _), some (.slice _) => some (.one (.leaf (.val (.bool neg))))
 | some (.one (.fn _ _)), some .nilFunc, some (.func _ _ _) => some (.one (.leaf (.val (.bool neg))))
 | _, _, _ => none
def lenX (P : Program) (fr : Fr) (t : Nat) (x : Operand) : Option AV :=
 match aev fr x, P.underlying t with
 | some (.one (.leaf (.sl _ _ _ n))), some (.slice _) => some (.one (.leaf (.val (.int .i64 (.ofNat n)))))
 | some (.one (.leaf (.emp _ _))), some (.slice _) => some (.one (.leaf (.val (.int .i64 (.ofNat 0)))))
 | _, _ => none
def apX (P : Program) (fr : Fr) : Op → Option AV
 | .move x => aev fr x
 | .assign x => aev fr x
 | .pick c x y => match litOf fr c with
  | some (.bool true) => aev fr x
  | some (.bool false) => aev fr y
  | _ => none
 | .nilCheck x => match aev fr x with
  | some (.one (.leaf (.ptr b o))) => some (.one (.leaf (.ptr b o)))
  | some (.one (.fn f l)) => some (.one (.fn f l))
  | _ => none
 | .fieldAddr s x f => fieldAddrX P fr s x f
 | .indexAddr t x ix => indexAddrX P fr t x ix
 | .field t x f => fieldX P fr t x f
 | .extract x i => match aev fr x with
  | some (.tup l) => match l[i]? with
   | some y => some (.one y)
   | none => none
  | _ => none
 | .makeFunc (.func f) first caps => cond first.isEmpty (match capsX fr caps.toList with | some l => some (.one (.fn f l)) | none => none) none
 | .build t parts => buildX P fr t parts
 | .binOp .eql t x y _ => nilCmpX P fr false t x y
 | .binOp .neq t x y _ => nilCmpX P fr true t x y
 | .call { callee := .builtin .len, args, argTypes } => match args.toList, argTypes.toList with
  | [x], [t] => lenX P fr t x
  | _, _ => none
 | _ => none
section
variable {P : Program} {E : Env} {m : Nat} {fr : Fr} {a : Act} {v : AV}
theorem fieldAddrX_ok (h : FrOk E m fr a) {s : Nat} {x : Operand} {f : Nat} (hv : fieldAddrX P fr s x f = some v) (w : World) :
  (Instr.fieldAt s (a.eval x) f).run P w = .ok (v.conc E) w ∧ v.below m = true := by
 unfold fieldAddrX at hv
 split at hv
 ·rename_i b o fields hx hu
  obtain ⟨h1, h2⟩ := aev_ok h hx
  split at hv
  ·rename_i fd hf
   split at hv
   ·rename_i n hn
    obtain ⟨i, hi, rfl⟩ := sizeX_ok hn
    cases hz : Nat.beq i.size 0 with
    | true => rw [hz] at hv; cases hv
    | false =>
     rw [hz] at hv
     cases hv
     have hne : i.size ≠ 0 := Nat.ne_of_beq_eq_false hz
     refine ⟨?_, h2⟩
     rw [h1]
     simp [Instr.fieldAt, run_underlying hu, hf, AV.conc, One.conc, Leaf.conc, Instr.sureAddr, fieldPlace, sizeOf, typeInfo, hi, hne, Addr.add_lit]
   ·cases hv
  ·cases hv
 ·cases hv
theorem indexAddrX_ok (h : FrOk E m fr a) {t : Nat} {x ix : Operand} (hv : indexAddrX P fr t x ix = some v) (w : World) :
  (Instr.indexAt t (a.eval x) (a.eval ix)).run P w = .ok (v.conc E) w ∧ v.below m = true := by
 unfold indexAddrX at hv
 split at hv
 ·rename_i b o lo n k i e hx hi hu
  obtain ⟨h1, h2⟩ := aev_ok h hx
  have h3 := litOf_eval h hi
  split at hv
  ·rename_i s hs
   obtain ⟨ti, hti, rfl⟩ := sizeX_ok hs
   cases hz : Nat.blt i n with
   | false => rw [hz] at hv; cases hv
   | true =>
    rw [hz] at hv
    cases hv
    have hlt := blt_lt hz
    refine ⟨?_, h2⟩
    rw [h1, h3]
    have hlt' : (0 : Int) ≤ Int.ofNat i ∧ Int.ofNat i < (n : Int) := ⟨Int.natCast_nonneg i, Int.ofNat_lt.2 hlt⟩
    simp [Instr.indexAt, asIntOf, run_underlying hu, AV.conc, One.conc, Leaf.conc, hlt, sizeOf, typeInfo, hti, Addr.add_lit]
  ·cases hv
 ·rename_i b o k i n e hx hi hu
  obtain ⟨h1, h2⟩ := aev_ok h hx
  have h3 := litOf_eval h hi
  split at hv
  ·rename_i s hs
   obtain ⟨ti, hti, rfl⟩ := sizeX_ok hs
   cases hz : Nat.blt i n with
   | false => rw [hz] at hv; cases hv
   | true =>
    rw [hz] at hv
    cases hv
    have hlt := blt_lt hz
    refine ⟨?_, h2⟩
    rw [h1, h3]
    have hlt' : (0 : Int) ≤ Int.ofNat i ∧ Int.ofNat i < (n : Int) := ⟨Int.natCast_nonneg i, Int.ofNat_lt.2 hlt⟩
    simp [Instr.indexAt, asIntOf, run_underlying hu, AV.conc, One.conc, Leaf.conc, hlt, sizeOf, typeInfo, hti, Addr.add_lit, Instr.sureAddr]
  ·cases hv
 ·cases hv
theorem fieldX_ok (h : FrOk E m fr a) {t : Nat} {x : Operand} {f : Nat} (hv : fieldX P fr t x f = some v) (w : World) :
  (Instr.field t (a.eval x) f).run P w = .ok (v.conc E) w ∧ v.below m = true := by
 unfold fieldX at hv
 split at hv
 ·rename_i l fields hx hu
  obtain ⟨h1, h2⟩ := aev_ok h hx
  split at hv
  ·rename_i fd hf
   split at hv
   ·rename_i d n hd hn
    obtain ⟨i, hi, rfl⟩ := sizeX_ok hn
    have hl : ∀ y ∈ l, y.below m = true := List.all_eq_true.1 h2
    cases hr : d.isRow with
    | true =>
     rw [hr] at hv
     cases hv
     refine ⟨?_, List.all_eq_true.2 fun y hy => hl y (List.mem_of_mem_drop (List.mem_of_mem_take hy))⟩
     rw [h1]
     have hagg : (isAgg fd.type).run P w = .ok true w := by
      unfold isAgg; rw [Sem.run_bind, run_underlying hd w]; cases d <;> simp_all
     simp [Instr.field, run_underlying hu, hf, AV.conc, One.conc, asAgg, part, hagg, sizeOf, typeInfo, hi, List.map_take, List.map_drop, List.extract_eq_take_drop]
    | false =>
     rw [hr] at hv
     simp only [cond] at hv
     split at hv
     ·rename_i y hy
      cases hv
      refine ⟨?_, hl y (List.mem_of_getElem? hy)⟩
      rw [h1]
      have hagg : (isAgg fd.type).run P w = .ok false w := by
       unfold isAgg; rw [Sem.run_bind, run_underlying hd w]; cases d <;> simp_all
      simp [Instr.field, run_underlying hu, hf, AV.conc, One.conc, asAgg, part, hagg, hy]
     ·cases hv
   ·cases hv
  ·cases hv
 ·cases hv
theorem cmp_ptr_in (w : World) (d t e : Nat) (p : Addr) (h : P.underlying t = some (.pointer e)) : (Op.equalIn (d + 1) t (.pointer (some p)) (.pointer none)).run P w = .ok false w := by
 simp [Op.equalIn, run_underlying h]
theorem cmp_sl_in (w : World) (d t e : Nat) (p : Addr) (n c n' c' : Nat) (h : P.underlying t = some (.slice e)) : (Op.equalIn (d + 1) t (.slice (some p) n c) (.slice none n' c')).run P w = .ok false w := by
 simp [Op.equalIn, run_underlying h]
theorem cmp_fn_in (w : World) (d t : Nat) {p1 p2 p3} (f : Fn) (x y : Array Value) (h : P.underlying t = some (.func p1 p2 p3)) : (Op.equalIn (d + 1) t (.func f x y) .nilFunc).run P w = .ok false w := by
 simp [Op.equalIn, run_underlying h]
theorem nilCmpX_ok (h : FrOk E m fr a) {neg : Bool} {op : BinOp} (ho : op = (if neg then .neq else .eql)) {t : Nat} {x y : Operand} (hv : nilCmpX P fr neg t x y = some v) (w : World) :
  (do eqGuard op t x y (a.eval x) (a.eval y); binOp op t (a.eval x) (a.eval y) : Sem Value).run P w = .ok (v.conc E) w ∧ v.below m = true := by
 unfold nilCmpX at hv
 split at hv
 ·rename_i b o e hx hy hu
  cases hv
  rw [(aev_ok h hx).1, litOf_eval h hy]
  refine ⟨?_, rfl⟩
  simp only [AV.conc, One.conc, Leaf.conc, eqGuard_at_pointer]
  cases neg <;> subst ho
  ·simp only [Bool.false_eq_true, if_false, binOp]; simp [Op.equal, Op.maxDepth, cmp_ptr_in w 9999 t e _ hu]
  ·simp only [if_true, binOp]; simp [Op.equal, Op.maxDepth, cmp_ptr_in w 9999 t e _ hu]
 ·rename_i b o lo n c d e hx hy hu
  cases hv
  rw [(aev_ok h hx).1, litOf_eval h hy]
  refine ⟨?_, rfl⟩
  simp only [AV.conc, One.conc, Leaf.conc, eqGuard_at_slice]
  cases neg <;> subst ho
  ·simp only [Bool.false_eq_true, if_false, binOp]; simp [Op.equal, Op.maxDepth, cmp_sl_in w 9999 t _ _ _ _ _ _ hu]
  ·simp only [if_true, binOp]; simp [Op.equal, Op.maxDepth, cmp_sl_in w 9999 t _ _ _ _ _ _ hu]
 ·rename_i f l p1 p2 p3 hx hy hu
  cases hv
  rw [(aev_ok h hx).1, litOf_eval h hy]
  refine ⟨?_, rfl⟩
  simp only [AV.conc, One.conc, Leaf.conc, eqGuard_at_func]
  cases neg <;> subst ho
  ·simp only [Bool.false_eq_true, if_false, binOp]; simp [Op.equal, Op.maxDepth, cmp_fn_in w 9999 t _ _ _ hu]
  ·simp only [if_true, binOp]; simp [Op.equal, Op.maxDepth, cmp_fn_in w 9999 t _ _ _ hu]
 ·cases hv
theorem lenX_ok (h : FrOk E m fr a) {t ty : Nat} {x : Operand} (hv : lenX P fr t x = some v) (w : World) : (Builtin.len_ #[t] ty #[a.eval x]).run P w = .ok (v.conc E) w ∧ v.below m = true := by
 unfold lenX at hv
 split at hv
 ·rename_i b o lo n e hx hu
  cases hv
  rw [(aev_ok h hx).1]
  exact ⟨by simp [Builtin.len_, run_underlying hu, AV.conc, One.conc, Leaf.conc, goInt], rfl⟩
 ·rename_i b o e hx hu
  cases hv
  rw [(aev_ok h hx).1]
  exact ⟨by simp [Builtin.len_, run_underlying hu, AV.conc, One.conc, Leaf.conc, goInt], rfl⟩
 ·cases hv
theorem apX_ok (h : FrOk E m fr a) {o : Oper} (hv : apX P fr o.op = some v) : v.below m = true ∧ ∀ w, (execOp a.eval o).run P w = .ok (.value (v.conc E)) w := by
 obtain ⟨dst, op, type, pos, after, guard⟩ := o
 simp only at hv
 unfold apX at hv
 split at hv
 ·obtain ⟨h1, h2⟩ := aev_ok h hv
  exact ⟨h2, fun w => by simp [execOp, h1]⟩
 ·obtain ⟨h1, h2⟩ := aev_ok h hv
  exact ⟨h2, fun w => by simp [execOp, h1]⟩
 ·split at hv
  ·rename_i hc
   obtain ⟨h1, h2⟩ := aev_ok h hv
   exact ⟨h2, fun w => by simp [execOp, h1, litOf_eval h hc, asBool]⟩
  ·rename_i hc
   obtain ⟨h1, h2⟩ := aev_ok h hv
   exact ⟨h2, fun w => by simp [execOp, h1, litOf_eval h hc, asBool]⟩
  ·cases hv
 ·split at hv
  ·rename_i b o hx
   cases hv
   obtain ⟨h1, h2⟩ := aev_ok h hx
   exact ⟨h2, fun w => by simp [execOp, h1, AV.conc, One.conc, Leaf.conc]⟩
  ·rename_i f l hx
   cases hv
   obtain ⟨h1, h2⟩ := aev_ok h hx
   exact ⟨h2, fun w => by simp [execOp, h1, AV.conc, One.conc]⟩
  ·cases hv
 ·exact ⟨(fieldAddrX_ok h hv default).2, fun w => by simp [execOp, (fieldAddrX_ok h hv w).1]⟩
 ·exact ⟨(indexAddrX_ok h hv default).2, fun w => by simp [execOp, (indexAddrX_ok h hv w).1]⟩
 ·exact ⟨(fieldX_ok h hv default).2, fun w => by simp [execOp, (fieldX_ok h hv w).1]⟩
 ·split at hv
  ·rename_i l hx
   split at hv
   ·rename_i i _ y hy
    cases hv
    obtain ⟨h1, h2⟩ := aev_ok h hx
    exact ⟨List.all_eq_true.1 h2 y (List.mem_of_getElem? hy), fun w => by simp [execOp, h1, AV.conc, Instr.extract, hy]⟩
   ·cases hv
  ·cases hv
 ·rename_i f first caps
  cases hf : first.isEmpty with
  | false => rw [hf] at hv; cases hv
  | true =>
   rw [hf] at hv
   simp only [cond] at hv
   split at hv
   ·rename_i l hl
    cases hv
    obtain ⟨h1, h2⟩ := capsX_ok h _ _ hl
    refine ⟨h2, fun w => ?_⟩
    rw [Array.isEmpty_iff.1 hf]
    have hc : caps.map a.eval = (l.map (Leaf.conc E)).toArray := by rw [← h1, ← Array.toList_map, Array.toArray_toList]
    simp [execOp, Instr.makeFunc, hc, AV.conc, One.conc]
   ·cases hv
 ·exact ⟨(buildX_ok h hv default).2, fun w => by simp [execOp, (buildX_ok h hv w).1]⟩
 ·exact ⟨(nilCmpX_ok h (op := .eql) rfl hv default).2, fun w => by
   have := (nilCmpX_ok h (op := .eql) rfl hv w).1
   simp only [execOp, Sem.run_bind] at this ⊢
   rw [this]; rfl⟩
 ·exact ⟨(nilCmpX_ok h (op := .neq) rfl hv default).2, fun w => by
   have := (nilCmpX_ok h (op := .neq) rfl hv w).1
   simp only [execOp, Sem.run_bind] at this ⊢
   rw [this]; rfl⟩
 ·rename_i args argTypes
  split at hv
  ·rename_i x t hx ht
   have e1 : args = #[x] := by rw [← Array.toArray_toList (xs := args), hx]
   have e2 : argTypes = #[t] := by rw [← Array.toArray_toList (xs := argTypes), ht]
   subst e1 e2
   exact ⟨(lenX_ok (ty := 0) h hv default).2, fun w => by simp [execOp, resolve, invoke, builtin, (lenX_ok (ty := type) h hv w).1]⟩
  ·cases hv
 ·cases hv
end
end Go.Proofs.YtkcdgaijklhnaaaGreatDoor
