/-
  Reckoning closed code over named blocks: frames, and operations that touch no memory.
-/
import Derived.Test.YtgaiibkkompbnaaGreatDoorEa
namespace Go.Proofs.YtgaiibkkompbnaaGreatDoor
open Go.RowKit

/-- what a step yields in every world -/
def still {α : Type} (P : Program) : Sem α → Option α
  | .pure a => some a
  | .program k => still P (k P)
  | .mark _ k => still P k
  | _ => none
theorem still_run {α : Type} {P : Program} {s : Sem α} {x : α} (h : still P s = some x) (w : World) : s.run P w = .ok x w := by
  induction s with
  | pure a => simp only [still, Option.some.injEq] at h; subst h; rfl
  | program k ih => exact ih P h
  | mark m k ih => exact ih h
  | _ => cases h

structure Fr where
  tr : Tr AV
  nt : Nat
  df : List (Nat × List Leaf)
def dfc (E : Env) (d : Nat × List Leaf) : Deferred := { target := .fn (.func d.1) (d.2.map (Leaf.conc E)).toArray, args := #[] }
structure FrOk (E : Env) (m : Nat) (fr : Fr) (a : Act) : Prop where
  size : a.tmps.size = fr.nt
  tm : ∀ i, i < fr.nt → ∃ v, fr.tr.get i = some v ∧ v.below m = true ∧ a.tmps[i]? = some (v.conc E)
  df : a.defers = fr.df.map (dfc E)
  dfb : ∀ d ∈ fr.df, d.2.all (Leaf.below m) = true
theorem FrOk.mono {E E' : Env} {m m' : Nat} {fr : Fr} {a : Act} (h : FrOk E m fr a) (hE : Env.same m E E') (hm : m ≤ m') : FrOk E' m' fr a :=
  ⟨h.size, fun i hi => by obtain ⟨v, h1, h2, h3⟩ := h.tm i hi; exact ⟨v, h1, AV.below_mono hm h2, by rw [AV.conc_same hE h2]; exact h3⟩,
    h.df.trans (List.map_congr_left fun d hd => by simp only [dfc, Leaf.map_same hE (h.dfb d hd)]), fun d hd => Leaf.all_mono hm (h.dfb d hd)⟩
def aev (fr : Fr) : Operand → Option AV
  | .tmp t => cond (Nat.blt t fr.nt) (fr.tr.get t) none
  | .const v => some (norm v)
  | .func f => some (.one (.fn f []))
  | .global g => some (.one (.leaf (.val (.pointer (some ⟨g, 0, none⟩)))))
theorem aev_ok {E : Env} {m : Nat} {fr : Fr} {a : Act} (h : FrOk E m fr a) {x : Operand} {v : AV} (hx : aev fr x = some v) : a.eval x = v.conc E ∧ v.below m = true := by
  cases x with
  | tmp t =>
    simp only [aev] at hx
    cases hb : Nat.blt t fr.nt with
    | false => rw [hb] at hx; cases hx
    | true =>
      rw [hb] at hx
      obtain ⟨u, h1, h2, h3⟩ := h.tm t (blt_lt hb)
      simp only [cond] at hx
      rw [h1] at hx
      cases hx
      refine ⟨?_, h2⟩
      simp only [Act.eval]
      rw [Array.getD_eq_getD_getElem?, h3]
      rfl
  | const v => simp only [aev, Option.some.injEq] at hx; subst hx; exact ⟨(conc_norm E _).symm, below_norm m _⟩
  | func f => simp only [aev, Option.some.injEq] at hx; subst hx; exact ⟨rfl, rfl⟩
  | global g => simp only [aev, Option.some.injEq] at hx; subst hx; exact ⟨rfl, rfl⟩
def Fr.put (fr : Fr) (m : Nat) (dst : Option Nat) (v : AV) : Option Fr :=
  match dst with
  | none => some fr
  | some d => cond (Nat.blt d fr.nt) (cond (v.below m) (match fr.tr.set d v with | some t => some { fr with tr := t } | none => none) none) none
theorem put_ok {E : Env} {m : Nat} {fr fr' : Fr} {a : Act} (h : FrOk E m fr a) {dst : Option Nat} {v : AV} (hp : fr.put m dst v = some fr') : FrOk E m fr' (a.put dst (v.conc E)) := by
  cases dst with
  | none => simp only [Fr.put, Option.some.injEq] at hp; subst hp; exact h
  | some d =>
    simp only [Fr.put] at hp
    cases hb : Nat.blt d fr.nt with
    | false => rw [hb] at hp; cases hp
    | true =>
      rw [hb] at hp
      cases hv : v.below m with
      | false => rw [hv] at hp; cases hp
      | true =>
        rw [hv] at hp
        simp only [cond] at hp
        cases hs : fr.tr.set d v with
        | none => rw [hs] at hp; cases hp
        | some t =>
          rw [hs] at hp
          simp only [Option.some.injEq] at hp
          subst hp
          have hg := Tr.get_set _ _ _ _ hs
          refine ⟨by simp [Act.put, h.size], fun i hi => ?_, h.df, h.dfb⟩
          simp only at hi ⊢
          rw [hg]
          by_cases hid : i = d
          · subst hid
            exact ⟨v, by simp, hv, by simp [Act.put, Array.getElem?_setIfInBounds, h.size, hi]⟩
          · obtain ⟨u, h1, h2, h3⟩ := h.tm i hi
            exact ⟨u, by simp [hid, h1], h2, by simp only [Act.put]; rw [Array.getElem?_setIfInBounds_ne (Ne.symm hid)]; exact h3⟩

/-! values in which nothing points -/
def Leaf.lit : Leaf → Option Value
  | .val v => some v
  | _ => none
def lits : List Leaf → Option (List Value)
  | [] => some []
  | x :: l => match x.lit, lits l with
    | some v, some r => some (v :: r)
    | _, _ => none
def AV.lit : AV → Option Value
  | .one (.leaf x) => x.lit
  | .one (.agg l) => match lits l with | some r => some (.agg r.toArray) | none => none
  | .one (.fn f l) => match lits l with | some r => some (.func (.func f) #[] r.toArray) | none => none
  | .tup _ => none
theorem lits_conc (E : Env) : ∀ (l : List Leaf) (r : List Value), lits l = some r → l.map (Leaf.conc E) = r
  | [], r, h => by cases h; rfl
  | x :: l, r, h => by
    simp only [lits] at h
    cases x with
    | val v =>
      cases hl : lits l with
      | none => rw [hl] at h; cases h
      | some q => rw [hl] at h; cases h; rw [List.map_cons, lits_conc E l q hl]; rfl
    | ptr _ _ => cases h
    | sl _ _ _ _ => cases h
    | emp _ _ => cases h
    | mp _ => cases h
theorem lit_conc (E : Env) {v : AV} {u : Value} (h : v.lit = some u) : v.conc E = u := by
  cases v with
  | tup l => cases h
  | one x =>
    cases x with
    | leaf x => cases x <;> first | (cases h; rfl) | cases h
    | agg l =>
      simp only [AV.lit] at h
      cases hl : lits l with
      | none => rw [hl] at h; cases h
      | some q => rw [hl] at h; cases h; simp only [AV.conc, One.conc, lits_conc E l q hl]
    | fn f l =>
      simp only [AV.lit] at h
      cases hl : lits l with
      | none => rw [hl] at h; cases h
      | some q => rw [hl] at h; cases h; simp only [AV.conc, One.conc, lits_conc E l q hl]

/-! values reckoned out -/
def forceV : Value → Option Value
  | .int k n => match n with
    | .ofNat m => match m with
      | 0 => some (.int k (.ofNat 0))
      | j + 1 => some (.int k (.ofNat (j + 1)))
    | .negSucc m => match m with
      | 0 => some (.int k (.negSucc 0))
      | j + 1 => some (.int k (.negSucc (j + 1)))
  | .bool b => match b with
    | true => some (.bool true)
    | false => some (.bool false)
  | v => some v
theorem forceV_eq {v u : Value} (h : forceV v = some u) : u = v := by
  unfold forceV at h
  split at h
  · split at h <;> split at h <;> cases h <;> rfl
  · split at h <;> cases h <;> rfl
  · cases h; rfl
def leaves : List Value → Option (List Leaf)
  | [] => some []
  | v :: l => match forceV v, leaves l with
    | some u, some r => some (.val u :: r)
    | _, _ => none
theorem leaves_eq : ∀ (l : List Value) (r : List Leaf), leaves l = some r → r = l.map .val
  | [], r, h => by cases h; rfl
  | v :: l, r, h => by
    simp only [leaves] at h
    cases hv : forceV v with
    | none => rw [hv] at h; cases h
    | some u =>
      rw [hv] at h
      cases hl : leaves l with
      | none => rw [hl] at h; cases h
      | some q => rw [hl] at h; cases h; rw [forceV_eq hv, leaves_eq l q hl]; rfl
def normF : Value → Option AV
  | .agg cs => match leaves cs.toList with | some l => some (.one (.agg l)) | none => none
  | .tuple vs => some (.tup (vs.toList.map normOne))
  | .func f a c => some (norm (.func f a c))
  | v => match forceV v with | some u => some (.one (.leaf (.val u))) | none => none
theorem normF_ok {v : Value} {x : AV} (h : normF v = some x) (E : Env) (m : Nat) : x.conc E = v ∧ x.below m = true := by
  unfold normF at h
  split at h
  · rename_i cs
    split at h
    · rename_i l hl
      cases h
      rw [leaves_eq _ _ hl]
      exact ⟨by simp only [AV.conc, One.conc, conc_vals, Array.toArray_toList], below_vals m _⟩
    · cases h
  · cases h; exact ⟨conc_norm E (.tuple _), below_norm m (.tuple _)⟩
  · cases h; exact ⟨conc_norm E _, below_norm m _⟩
  · split at h
    · rename_i u hu
      cases h
      rw [forceV_eq hu]
      exact ⟨rfl, rfl⟩
    · cases h

def noSel : Op → Bool
  | .select .. => false
  | _ => true
def litOf (fr : Fr) (x : Operand) : Option Value :=
  match aev fr x with
  | some v => v.lit
  | none => none
/-- an operation on values in which nothing points -/
def pureX (P : Program) (fr : Fr) (o : Oper) : Option AV :=
  cond (noSel o.op) (cond (o.op.operands.all fun x => (litOf fr x).isSome)
    (match still P (execOp (fun x => (litOf fr x).getD undef) o) with
    | some (.value v) => normF v
    | _ => none) none) none
theorem litOf_eval {E : Env} {m : Nat} {fr : Fr} {a : Act} (h : FrOk E m fr a) {x : Operand} {u : Value} (hx : litOf fr x = some u) : a.eval x = u := by
  unfold litOf at hx
  split at hx
  · rename_i v hv
    rw [(aev_ok h hv).1]
    exact lit_conc E hx
  · cases hx
theorem pureX_ok {P : Program} {E : Env} {m : Nat} {fr : Fr} {a : Act} {o : Oper} {v : AV} (h : FrOk E m fr a) (hv : pureX P fr o = some v) :
    v.below m = true ∧ ∀ w, (execOp a.eval o).run P w = .ok (.value (v.conc E)) w := by
  unfold pureX at hv
  cases hs : noSel o.op with
  | false => rw [hs] at hv; cases hv
  | true =>
    rw [hs] at hv
    cases hl : (o.op.operands.all fun x => (litOf fr x).isSome) with
    | false => rw [hl] at hv; cases hv
    | true =>
      rw [hl] at hv
      simp only [cond] at hv
      have hc : execOp a.eval o = execOp (fun x => (litOf fr x).getD undef) o := execOp_congr o (fun cs b e => by rw [e] at hs; cases hs) fun x hx => by
        have := (Array.all_eq_true_iff_forall_mem.1 hl) x hx
        obtain ⟨u, hu⟩ := Option.isSome_iff_exists.1 this
        rw [litOf_eval h hu, hu]
        rfl
      split at hv
      · rename_i u hu
        obtain ⟨h1, h2⟩ := normF_ok hv E m
        exact ⟨h2, fun w => by rw [hc, h1]; exact still_run hu w⟩
      · cases hv
end Go.Proofs.YtgaiibkkompbnaaGreatDoor
