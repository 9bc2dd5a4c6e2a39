/-
  The reckoner: maps, operations.
-/
import Derived.Test.YtkcdgaijklhnaaaGreatDoorK09
namespace Go.Proofs.YtkcdgaijklhnaaaGreatDoor
open Go.RowKit
section
variable {P : Program} {B : Nat} {w0 : World} {E : Env} {st st' : St} {w : World} {m : Nat} {fr : Fr} {a : Act} {v : AV}
def makeMapX (st : St) : Option (AV × St) :=
 match st.bl.set st.nx (.mpb [] 0) with
 | some bl => some (.one (.leaf (.mp st.nx)), ⟨bl, st.nx + 1, st.wr⟩)
 | none => none
theorem makeMapX_ok (h : Rep B w0 E st w) (hv : makeMapX st = some (v, st')) :
  ∃ E', v.conc E' = .map (some w.heap.size) ∧ Rep B w0 E' st' (w.alloc (.map #[] 0)) ∧ Ext E st E' st' := by
 unfold makeMapX at hv
 split at hv
 ·rename_i bl hs
  cases hv
  have hget := Tr.get_set _ _ _ _ hs
  have hsame : Env.same st.nx E ⟨fun i => if i = st.nx then w.heap.size else E.φ i, E.κ⟩ := fun b hb => by
   have : b ≠ st.nx := by omega
   simp [this]
  have hB : B ≤ w.heap.size := Nat.le_trans h.base h.below.size
  refine ⟨⟨fun i => if i = st.nx then w.heap.size else E.φ i, E.κ⟩, by simp [AV.conc, One.conc, Leaf.conc], ⟨h.base, h.below.alloc hB _, fun i hi t k cs e => ?_, ?_, ?_, ⟨fun i es ck e => ?_, fun i j es ck es' ck' e1 e2 e => ?_⟩⟩, ⟨Nat.le_succ _, hsame, fun _ h => h, fun b hb hw => ?_⟩⟩
  ·rw [hget, if_neg (by simp at hi; omega)] at e
   exact h.top i (by simp at hi; omega) _ _ _ e
  ·intro i t' k' cs' e
   rw [hget] at e
   split at e
   ·cases e
   ·obtain ⟨⟨cur', hg, g1, g2, g3⟩, g4, g5, g6⟩ := h.ok i t' k' cs' e
    have hlt := h.lt e
    have hi : i ≠ st.nx := by omega
    refine ⟨⟨cur', ?_, g1, g2, ?_⟩, ?_, Leaf.all_mono (Nat.le_succ _) g5, g6⟩
    ·simp only [hi, if_false]
     rw [Below.heap_alloc w _ _ (h.mem e)]
     exact hg
    ·rw [g3, Leaf.map_same hsame g5]
    ·simpa [hi] using g4
  ·intro i j t1 k1 c1 t2 k2 c2 e1 e2 e
   rw [hget] at e1 e2
   split at e1
   ·cases e1
   ·split at e2
    ·cases e2
    ·have hi : i ≠ st.nx := by have := h.lt e1; omega
     have hj : j ≠ st.nx := by have := h.lt e2; omega
     simp only [hi, hj, if_false] at e
     exact h.inj i j _ _ _ _ _ _ e1 e2 e
  ·simp only at e
   rw [hget] at e
   split at e
   ·rename_i hi
    cases e
    subst hi
    refine ⟨Nat.lt_succ_self _, ?_, ?_⟩
    ·simp only [if_true]; exact heap_alloc_new w _
    ·simpa using hB
   ·obtain ⟨h1, h2, h3⟩ := h.maps.ok i es ck e
    have hi : i ≠ st.nx := by omega
    refine ⟨by simp only; omega, ?_, ?_⟩
    ·simp only [hi, if_false]
     rw [Below.heap_alloc w _ _ (heap_lt h2)]
     exact h2
    ·simpa [hi] using h3
  ·simp only at e1 e2
   rw [hget] at e1 e2
   split at e1 <;> split at e2 <;> rename_i hi hj
   ·rw [hi, hj]
   ·exfalso
    have := heap_lt (h.maps.ok _ _ _ e2).2.1
    simp only [hi, hj, if_true, if_false] at e
    omega
   ·exfalso
    have := heap_lt (h.maps.ok _ _ _ e1).2.1
    simp only [hi, hj, if_true, if_false] at e
    omega
   ·simp only [hi, hj, if_false] at e
    exact h.maps.inj i j _ _ _ _ e1 e2 e
  ·simp only
   rw [hget, if_neg (by omega)]
 ·cases hv
def lookIn (t : Nat) (es : Array MapEntry) (index : Value) (commaOk : Bool) : Sem Value := do
 let .map key elem ← underlying t | stuck "Lookup"
 Instr.checkKey es.isEmpty 10000 key index
 let (v, ok) ← match ← Instr.findKey key index es.toList with
  | some (_, v) => pure (v, true)
  | none => pure (← zeroValue elem, false)
 pure (if commaOk then .tuple #[v, .bool ok] else v)
def lookX (P : Program) (fr : Fr) (st : St) (t : Nat) (x ix : Operand) (ok : Bool) : Option AV :=
 match aev fr x, litOf fr ix, P.underlying t with
 | some (.one (.leaf (.mp b))), some i, some (.map _ _) => match st.bl.get b with
  | some (.mpb es _) => match still P (lookIn t es.toArray i ok) with
   | some u => normF u
   | none => none
  | _ => none
 | _, _, _ => none
theorem lookX_ok (h : Rep B w0 E st w) (hf : FrOk E m fr a) {t : Nat} {x ix : Operand} {ok : Bool} (hv : lookX P fr st t x ix ok = some v) :
  (Instr.lookup t (a.eval x) (a.eval ix) ok).run P w = .ok (v.conc E) w := by
 unfold lookX at hv
 split at hv
 ·rename_i b i kt et hx hi hu
  split at hv
  ·rename_i es ck hb
   split at hv
   ·rename_i u hs
    rw [(aev_ok hf hx).1, litOf_eval hf hi, (normF_ok hv E 0).1]
    have h1 := still_run hs w
    have h2 := (h.maps.ok _ _ _ hb).2.1
    have h3 : (getObj (E.φ b)).run P w = .ok (.map es.toArray ck) w := by simp [getObj, Sem.run, h2]
    simp only [lookIn, Sem.run_bind, run_underlying hu w, Result.andThen_ok] at h1
    simp only [AV.conc, One.conc, Leaf.conc, Instr.lookup, Sem.run_bind, run_underlying hu w, Result.andThen_ok, h3, Sem.run_pure]
    exact h1
   ·cases hv
  ·cases hv
 ·cases hv
def insX (P : Program) (st : St) (t : Nat) (x : AV) (key val : Value) : Option St :=
 match x, P.underlying t with
 | .one (.leaf (.mp b)), some (.map kt _) => match st.bl.get b with
  | some (.mpb es ck) => match still P (Instr.checkKey false 10000 kt key), still P (Instr.findKey kt key es) with
   | some (), some none => match st.bl.set b (.mpb (es ++ [(MapEntry.mk key val ck)]) (ck + 1)) with
    | some bl => some ⟨bl, st.nx, addW b st.wr⟩
    | none => none
   | _, _ => none
  | _ => none
 | _, _ => none
theorem insX_ok (h : Rep B w0 E st w) {t : Nat} {x : AV} {key val : Value} (hv : insX P st t x key val = some st') :
  ∃ w', (Instr.mapUpdate t (x.conc E) key val).run P w = .ok () w' ∧ Rep B w0 E st' w' ∧ Ext E st E st' := by
 unfold insX at hv
 split at hv
 ·rename_i b kt et hu
  split at hv
  ·rename_i es ck hb
   split at hv
   ·rename_i hs1 hs2
    split at hv
    ·rename_i bl hbl
     cases hv
     have hget := Tr.get_set _ _ _ _ hbl
     obtain ⟨m1, m2, m3⟩ := h.maps.ok _ _ _ hb
     have h3 : (getObj (E.φ b)).run P w = .ok (.map es.toArray ck) w := by simp [getObj, Sem.run, m2]
     have hlt := heap_lt m2
     refine ⟨{ w with heap := w.heap.setIfInBounds (E.φ b) (.map (es ++ [(MapEntry.mk key val ck)]).toArray (ck + 1)) }, ?_, ?_, ?_⟩
     ·have c1 := still_run hs1 w
      have c2 := still_run hs2 w
      simp only [AV.conc, One.conc, Leaf.conc, Instr.mapUpdate, Sem.run_bind, run_underlying hu w, Result.andThen_ok, h3, c1, c2]
      simp [setObj, Sem.run, m2]
     ·have hold : ∀ q, q ≠ E.φ b → (w.heap.setIfInBounds (E.φ b) (.map (es ++ [(MapEntry.mk key val ck)]).toArray (ck + 1)))[q]? = w.heap[q]? := fun q hq => Array.getElem?_setIfInBounds_ne (Ne.symm hq)
      refine ⟨h.base, ⟨h.below.os, h.below.tape, h.below.output, by simpa using h.below.size, fun q hq => (hold q (by omega)).trans (h.below.block q hq)⟩, ?_, ?_, ?_, ⟨fun i es' ck' e => ?_, fun i j es1 ck1 es2 ck2 e1 e2 e => ?_⟩⟩
      ·intro j hj t' k' c' e
       rw [hget] at e
       split at e
       ·cases e
       ·exact h.top j hj _ _ _ e
      ·intro j t' k' c' e
       rw [hget] at e
       split at e
       ·cases e
       ·obtain ⟨⟨cur2, hg2, g1, g2, g3⟩, g4, g5, g6⟩ := h.ok j t' k' c' e
        exact ⟨⟨cur2, (hold _ (fun he => by rw [he, m2] at hg2; cases hg2)).trans hg2, g1, g2, g3⟩, g4, g5, g6⟩
      ·intro i j t1 k1 c1 t2 k2 c2 e1 e2 e
       rw [hget] at e1 e2
       split at e1
       ·cases e1
       ·split at e2
        ·cases e2
        ·exact h.inj _ _ _ _ _ _ _ _ e1 e2 e
      ·simp only at e
       rw [hget] at e
       split at e
       ·rename_i hi
        cases e
        subst hi
        refine ⟨m1, ?_, m3⟩
        simp only
        rw [Array.getElem?_setIfInBounds, if_pos rfl, if_pos hlt]
       ·rename_i hi
        obtain ⟨q1, q2, q3⟩ := h.maps.ok _ _ _ e
        exact ⟨q1, (hold _ (fun he => hi (h.maps.inj _ _ _ _ _ _ e hb he))).trans q2, q3⟩
      ·simp only at e1 e2
       rw [hget] at e1 e2
       split at e1 <;> split at e2 <;> rename_i hi hj
       ·rw [hi, hj]
       ·subst hi; exact h.maps.inj _ _ _ _ _ _ hb e2 e
       ·subst hj; exact h.maps.inj _ _ _ _ _ _ e1 hb e
       ·exact h.maps.inj _ _ _ _ _ _ e1 e2 e
     ·exact ⟨Nat.le_refl _, Env.same_refl _ _, fun c hc => (mem_addW _ _ _).2 (Or.inr hc), fun c hc hw => by
       simp only
       rw [hget, if_neg (fun e => hw ((mem_addW _ _ _).2 (Or.inl e)))]⟩
    ·cases hv
   ·cases hv
  ·cases hv
 ·cases hv
end
end Go.Proofs.YtkcdgaijklhnaaaGreatDoor
namespace Go.Proofs.YtkcdgaijklhnaaaGreatDoor
open Go.RowKit
abbrev CallX := Nat → List AV → St → Option (AV × St)
def CallOk (P : Program) (B : Nat) (w0 : World) (call : CallX) : Prop := ∀ f args st r st', call f args st = some (r, st') → ∀ E w, Rep B w0 E st w → (∀ v ∈ args, v.below st.nx = true) →
 Calls P f (args.map (AV.conc E)).toArray w fun e w' => ∃ E', e = .returned (r.conc E') ∧ Rep B w0 E' st' w' ∧ Ext E st E' st'
def argsX (fr : Fr) : List Operand → Option (List AV)
 | [] => some []
 | x :: l => match aev fr x, argsX fr l with
  | some v, some r => some (v :: r)
  | _, _ => none
theorem argsX_ok {E : Env} {m : Nat} {fr : Fr} {a : Act} (h : FrOk E m fr a) : ∀ (l : List Operand) (r : List AV), argsX fr l = some r → l.map a.eval = r.map (AV.conc E) ∧ ∀ v ∈ r, v.below m = true
 | [], r, hr => by cases hr; exact ⟨rfl, fun _ h => by cases h⟩
 | x :: l, r, hr => by
  simp only [argsX] at hr
  split at hr
  ·rename_i v q hx hl
   cases hr
   obtain ⟨h1, h2⟩ := aev_ok h hx
   obtain ⟨h3, h4⟩ := argsX_ok h l q hl
   refine ⟨by rw [List.map_cons, List.map_cons, h3, h1], fun y hy => ?_⟩
   rcases List.mem_cons.1 hy with rfl | hy
   ·exact h2
   ·exact h4 y hy
  ·cases hr
def entersX (P : Program) (f : Nat) : Bool :=
 match P.funcs[f]? with
 | some fn => !(fn.name == "runtime.NumGoroutine") && !fn.body.isNone
 | none => false
theorem entersX_ok {P : Program} {f : Nat} (h : entersX P f = true) (args : Array Value) (w : World) : (callFunc f args).run P w = .ok (.enter f args) w := by
 unfold entersX at h
 split at h
 ·rename_i fn hf
  simp only [Bool.and_eq_true, Bool.not_eq_true'] at h
  have hp : (Sem.program Sem.pure).run P w = .ok P w := rfl
  have n1 : ¬ fn.name = "runtime.NumGoroutine" := by simpa using h.1
  have n2 : ¬ fn.body = none := fun e => by rw [e] at h; exact absurd h.2 (by decide)
  simp [callFunc, program, hp, hf, n1, n2]
 ·cases h
def leafAV (x : Leaf) : AV := .one (.leaf x)
def callX (P : Program) (call : CallX) (fr : Fr) (st : St) (f : Operand) (args : List Operand) : Option (AV × St) :=
 match aev fr f, argsX fr args with
 | some (.one (.fn g caps)), some vs => cond (entersX P g) (call g (vs ++ caps.map leafAV) st) none
 | _, _ => none
def undefA : AV := .tup []
def xEff (P : Program) (tbl : Tbl) (call : CallX) (fr : Fr) (st : St) (op : Op) : Option (AV × St) :=
 match op with
 | .load t x => match aev fr x with
  | some v => match loadX P tbl st t v with
   | some r => some (r, st)
   | none => none
  | none => none
 | .store t x y => match aev fr x, aev fr y with
  | some v, some u => match storeX P st t v u with
   | some st' => some (undefA, st')
   | none => none
  | _, _ => none
 | .alloc t => allocX P st t
 | .box t x => match aev fr x with
  | some v => boxX st t v
  | none => none
 | .buildSlice t len parts => buildSliceX P fr st t len parts
 | .makeSlice t x y => makeSliceX P fr st t x y
 | .makeMap _ none => makeMapX st
 | .lookup t x ix ok => match lookX P fr st t x ix ok with
  | some v => some (v, st)
  | none => none
 | .mapUpdate t x k y => match aev fr x, litOf fr k, litOf fr y with
  | some u, some key, some val => match insX P st t u key val with
   | some st' => some (undefA, st')
   | none => none
  | _, _, _ => none
 | .insert t x k y => match aev fr x, litOf fr k, litOf fr y with
  | some u, some key, some val => match insX P st t u key val with
   | some st' => some (undefA, st')
   | none => none
  | _, _, _ => none
 | .slice t x lo hi mx => match sliceX P fr st t x lo hi mx with
  | some v => some (v, st)
  | none => none
 | .call c => match c.callee with
  | .value f => callX P call fr st f c.args.toList
  | .builtin .append => match c.args.toList, c.argTypes.toList with
   | [s, x], [t, t'] => match aev fr s, aev fr x with
    | some s, some x => cond (Nat.beq t t') (appX P st t s x) (zapX P st t t' s x)
    | _, _ => none
   | _, _ => none
  | _ => none
 | _ => none
def xVal (P : Program) (tbl : Tbl) (call : CallX) (fr : Fr) (st : St) (o : Oper) : Option (AV × St) :=
 match apX P fr o.op with
 | some v => some (v, st)
 | none => match xEff P tbl call fr st o.op with
  | some r => some r
  | none => match pureX P fr o with
   | some v => some (v, st)
   | none => none
section
variable {P : Program} {tbl : Tbl} {B : Nat} {w0 : World} {E : Env} {st st' : St} {w : World} {fr fr' : Fr} {a : Act} {v : AV} {call : CallX} {o : Oper} {K : Act → World → Prop} {Q : Exit → Act → World → Prop}
theorem xEff_ok (ht : TblOk tbl B w0) (hc : CallOk P B w0 call) (h : Rep B w0 E st w) (hf : FrOk E st.nx fr a) (hv : xEff P tbl call fr st o.op = some (v, st'))
  (k : ∀ E' w', Rep B w0 E' st' w' → Ext E st E' st' → K (a.put o.dst (v.conc E')) w') : o.wp P a w K Q := by
 obtain ⟨dst, op, type, pos, after, guard⟩ := o
 simp only at hv k
 unfold xEff at hv
 split at hv
 ·rename_i t x
  split at hv
  ·rename_i u hx
   split at hv
   ·rename_i r hl
    cases hv
    have hr := loadX_ok (E := E) (w := w) hl (ht w h.below) (fun b o _ tt k cs hb => (h.ok b _ _ _ hb).1)
    unfold Oper.wp
    simp only [execOp, (aev_ok hf hx).1, Sem.run_bind, hr, Result.andThen_ok]
    exact k E w h (Ext.refl _ _)
   ·cases hv
  ·cases hv
 ·rename_i t x y
  split at hv
  ·rename_i u1 u2 hx hy
   split at hv
   ·rename_i s hs
    cases hv
    obtain ⟨w', hr, h1, h2⟩ := storeX_ok h hs
    unfold Oper.wp
    simp only [execOp, (aev_ok hf hx).1, (aev_ok hf hy).1, Sem.run_bind, hr, Result.andThen_ok]
    exact k E w' h1 h2
   ·cases hv
  ·cases hv
 ·obtain ⟨E', w', hr, h1, h2⟩ := allocX_ok h hv
  unfold Oper.wp
  simp only [execOp, Sem.run_bind, hr, Result.andThen_ok]
  exact k E' w' h1 h2
 ·rename_i t x
  split at hv
  ·rename_i u hx
   obtain ⟨E', w', hr, h1, h2⟩ := boxX_ok (P := P) h hv
   unfold Oper.wp
   simp only [execOp, (aev_ok hf hx).1, Sem.run_bind, hr, Result.andThen_ok]
   exact k E' w' h1 h2
  ·cases hv
 ·obtain ⟨E', w', hr, h1, h2⟩ := buildSliceX_ok h hf hv
  unfold Oper.wp
  simp only [execOp, Sem.run_bind, hr, Result.andThen_ok]
  exact k E' w' h1 h2
 ·obtain ⟨E', w', hr, h1, h2⟩ := makeSliceX_ok h hf hv
  unfold Oper.wp
  simp only [execOp, Sem.run_bind, hr, Result.andThen_ok]
  exact k E' w' h1 h2
 ·obtain ⟨E', e1, h1, h2⟩ := makeMapX_ok h hv
  have hk := k _ _ h1 h2
  unfold Oper.wp
  rw [e1] at hk
  exact hk
 ·rename_i t x ix ok
  split at hv
  ·rename_i u hs
   cases hv
   have hr := lookX_ok h hf hs
   unfold Oper.wp
   simp only [execOp, Sem.run_bind, hr, Result.andThen_ok]
   exact k E w h (Ext.refl _ _)
  ·cases hv
 ·rename_i t x k' y
  split at hv
  ·rename_i u key val hx hk hy
   split at hv
   ·rename_i s hs
    cases hv
    obtain ⟨w', hr, h1, h2⟩ := insX_ok h hs
    unfold Oper.wp
    simp only [execOp, (aev_ok hf hx).1, litOf_eval hf hk, litOf_eval hf hy, Sem.run_bind, hr, Result.andThen_ok]
    exact k E w' h1 h2
   ·cases hv
  ·cases hv
 ·rename_i t x k' y
  split at hv
  ·rename_i u key val hx hk hy
   split at hv
   ·rename_i s hs
    cases hv
    obtain ⟨w', hr, h1, h2⟩ := insX_ok h hs
    unfold Oper.wp
    simp only [execOp, (aev_ok hf hx).1, litOf_eval hf hk, litOf_eval hf hy, Sem.run_bind, hr, Result.andThen_ok]
    exact k E w' h1 h2
   ·cases hv
  ·cases hv
 ·rename_i t x lo hi mx
  split at hv
  ·rename_i u hs
   cases hv
   have hr := (sliceX_ok h hf hs).1
   unfold Oper.wp
   simp only [execOp, Sem.run_bind, hr, Result.andThen_ok]
   exact k E w h (Ext.refl _ _)
  ·cases hv
 ·rename_i c
  obtain ⟨callee, args, argTypes⟩ := c
  simp only at hv
  split at hv
  ·rename_i f
   unfold callX at hv
   split at hv
   ·rename_i g caps vs hg ha
    cases he : entersX P g with
    | false => rw [he] at hv; cases hv
    | true =>
     rw [he] at hv
     simp only [cond] at hv
     obtain ⟨g1, g2⟩ := aev_ok hf hg
     obtain ⟨a1, a2⟩ := argsX_ok hf _ _ ha
     have hcall := hc g _ st v st' hv E w h (fun y hy => by
      rcases List.mem_append.1 hy with hy | hy
      ·exact a2 y hy
      ·obtain ⟨z, hz, rfl⟩ := List.mem_map.1 hy
       exact List.all_eq_true.1 g2 z hz)
     have hargs : ((vs ++ caps.map leafAV).map (AV.conc E)).toArray = #[] ++ (args.map a.eval) ++ (caps.map (Leaf.conc E)).toArray := by
      have : args.map a.eval = (vs.map (AV.conc E)).toArray := by rw [← a1, ← Array.toList_map, Array.toArray_toList]
      rw [this]
      simp [leafAV, AV.conc, One.conc, Function.comp_def]
     rw [hargs] at hcall
     unfold Oper.wp
     simp only [execOp, resolve, g1, AV.conc, One.conc, Deferred.ofValue, Sem.run_bind, Sem.run_pure, Result.andThen_ok, invoke, entersX_ok he]
     rw [Oper.upon_enter]
     exact hcall.mono fun e w' ⟨E', e1, e2, e3⟩ => by subst e1; exact k E' w' e2 e3
   ·cases hv
  ·split at hv
   ·rename_i s x t t' hs ht'
    have e1 : args = #[s, x] := by rw [← Array.toArray_toList (xs := args), hs]
    have e2 : argTypes = #[t, t'] := by rw [← Array.toArray_toList (xs := argTypes), ht']
    subst e1 e2
    split at hv
    ·rename_i s' x' hs' hx'
     cases hb : Nat.beq t t' with
     | false =>
      rw [hb] at hv
      obtain ⟨E', w', hr, h1, h2⟩ := zapX_ok (ty := type) h hv
      unfold Oper.wp
      simp only [execOp, resolve, invoke, builtin, Sem.run_bind, Sem.run_pure, Result.andThen_ok, List.map_toArray, List.map_cons, List.map_nil, (aev_ok hf hs').1, (aev_ok hf hx').1, hr]
      exact k E' w' h1 h2
     | true =>
      have := Nat.eq_of_beq_eq_true hb
      subst this
      rw [hb] at hv
      obtain ⟨E', w', hr, h1, h2⟩ := appX_ok (ty := type) h hv
      unfold Oper.wp
      simp only [execOp, resolve, invoke, builtin, Sem.run_bind, Sem.run_pure, Result.andThen_ok, List.map_toArray, List.map_cons, List.map_nil, (aev_ok hf hs').1, (aev_ok hf hx').1, hr]
      exact k E' w' h1 h2
    ·cases hv
   ·cases hv
  ·cases hv
 ·cases hv
theorem xVal_ok (ht : TblOk tbl B w0) (hc : CallOk P B w0 call) (h : Rep B w0 E st w) (hf : FrOk E st.nx fr a) (hv : xVal P tbl call fr st o = some (v, st'))
  (k : ∀ E' w', Rep B w0 E' st' w' → Ext E st E' st' → K (a.put o.dst (v.conc E')) w') : o.wp P a w K Q := by
 unfold xVal at hv
 split at hv
 ·rename_i u hu
  cases hv
  unfold Oper.wp
  rw [(apX_ok hf hu).2 w]
  exact k E w h (Ext.refl _ _)
 ·split at hv
  ·rename_i r hr
   cases hv
   exact xEff_ok ht hc h hf hr k
  ·split at hv
   ·rename_i u hu
    cases hv
    unfold Oper.wp
    rw [(pureX_ok hf hu).2 w]
    exact k E w h (Ext.refl _ _)
   ·cases hv
def xOp (P : Program) (tbl : Tbl) (call : CallX) (fr : Fr) (st : St) (o : Oper) : Option (Fr × St) :=
 match o.op with
 | .defer c => match c.callee with
  | .value f => match aev fr f, c.args.toList with
   | some (.one (.fn g caps)), [] => match Fr.put { fr with df := (g, caps) :: fr.df } st.nx o.dst undefA with
    | some fr' => some (fr', st)
    | none => none
   | _, _ => none
  | _ => none
 | _ => match xVal P tbl call fr st o with
  | some (v, st') => match fr.put st'.nx o.dst v with
   | some fr' => some (fr', st')
   | none => none
  | none => none
theorem xOp_ok (ht : TblOk tbl B w0) (hc : CallOk P B w0 call) (h : Rep B w0 E st w) (hf : FrOk E st.nx fr a) (hv : xOp P tbl call fr st o = some (fr', st'))
  (k : ∀ E' a' w', Rep B w0 E' st' w' → Ext E st E' st' → FrOk E' st'.nx fr' a' → K a' w') : o.wp P a w K Q := by
 unfold xOp at hv
 split at hv
 ·rename_i c hop
  obtain ⟨dst, op, type, pos, after, guard⟩ := o
  simp only at hop
  subst hop
  obtain ⟨callee, args, argTypes⟩ := c
  simp only at hv
  split at hv
  ·rename_i f
   split at hv
   ·rename_i g caps hg ha
    split at hv
    ·rename_i fr1 hp
     cases hv
     obtain ⟨g1, g2⟩ := aev_ok hf hg
     have e1 : args = #[] := by rw [← Array.toArray_toList (xs := args), ha]
     subst e1
     have hf2 : FrOk E st.nx { fr with df := (g, caps) :: fr.df } { a with defers := dfc E (g, caps) :: a.defers } :=
      ⟨hf.size, hf.tm, by simp only [List.map_cons, hf.df], fun d hd => by
       rcases List.mem_cons.1 hd with rfl | hd
       ·exact g2
       ·exact hf.dfb d hd⟩
     have hf3 := put_ok hf2 hp
     unfold Oper.wp
     simp only [execOp, resolve, g1, AV.conc, One.conc, Deferred.ofValue, Sem.run_bind, Sem.run_pure, Result.andThen_ok]
     have hm : (#[] : Array Value) ++ Array.map a.eval #[] = #[] := by simp
     rw [Oper.upon_defer, hm]
     exact k E _ w h (Ext.refl _ _) hf3
    ·cases hv
   ·cases hv
  ·cases hv
 ·split at hv
  ·rename_i u s hx
   split at hv
   ·rename_i fr1 hp
    cases hv
    exact xVal_ok ht hc h hf hx fun E' w' h1 h2 => k E' _ w' h1 h2 (put_ok (hf.mono h2.env h2.nx) hp)
   ·cases hv
  ·cases hv
def yieldX (ops : Array Oper) (fr : Fr) (j : Nat) : Option Bool :=
 match ops[j]? with
 | some o => match o.dst with
  | some d => cond (Nat.blt d fr.nt) (match fr.tr.get d with
   | some (.one (.leaf (.val (.bool b)))) => some b
   | _ => none) none
  | none => none
 | none => none
theorem yieldX_ok {m : Nat} (hf : FrOk E m fr a) (ops : Array Oper) : yielded ops a.tmps = yieldX ops fr := by
 funext j
 unfold yielded yieldX
 cases ops[j]? with
 | none => rfl
 | some o =>
  simp only [Option.bind_some]
  cases o.dst with
  | none => rfl
  | some d =>
   simp only [Option.bind_some]
   cases hb : Nat.blt d fr.nt with
   | false =>
    have : a.tmps[d]? = none := Array.getElem?_eq_none (by
     rw [hf.size]
     exact Nat.le_of_not_lt fun h => by rw [lt_blt h] at hb; cases hb)
    rw [this]; rfl
   | true =>
    obtain ⟨u, h1, h2, h3⟩ := hf.tm d (blt_lt hb)
    rw [h1, h3]
    simp only [cond]
    cases u with
    | tup l => rfl
    | one x =>
     cases x with
     | agg l => rfl
     | fn f l => rfl
     | leaf x => cases x with
      | val v => cases v <;> rfl
      | _ => rfl
def xList (P : Program) (tbl : Tbl) (call : CallX) (ops : Array Oper) : List Oper → Fr → St → Option (Fr × St)
 | [], fr, st => some (fr, st)
 | o :: l, fr, st => cond (Region.wanted o (yieldX ops fr))
  (match xOp P tbl call fr st o with
   | some (fr', st') => xList P tbl call ops l fr' st'
   | none => none)
  (match fr.put st.nx o.dst undefA with
   | some fr' => xList P tbl call ops l fr' st
   | none => none)
theorem xList_ok (ht : TblOk tbl B w0) (hc : CallOk P B w0 call) (ops : Array Oper) : ∀ (l : List Oper) (fr : Fr) (st : St) (E : Env) (a : Act) (w : World), Rep B w0 E st w → FrOk E st.nx fr a → xList P tbl call ops l fr st = some (fr', st') →
  (∀ E' a' w', Rep B w0 E' st' w' → Ext E st E' st' → FrOk E' st'.nx fr' a' → Q .normal a' w') → wpList P ops Q l a w
 | [], fr, st, E, a, w, h, hf, hv, k => by
  cases hv
  exact k E a w h (Ext.refl _ _) hf
 | o :: l, fr, st, E, a, w, h, hf, hv, k => by
  simp only [xList] at hv
  unfold wpList
  rw [yieldX_ok hf ops]
  cases hw : Region.wanted o (yieldX ops fr) with
  | true =>
   rw [hw] at hv
   simp only [cond] at hv
   split at hv
   ·rename_i fr1 st1 hx
    rw [if_pos rfl]
    exact Or.inl (xOp_ok ht hc h hf hx fun E' a' w' h1 h2 h3 => xList_ok ht hc ops l fr1 st1 E' a' w' h1 h3 hv fun E'' a'' w'' k1 k2 k3 => k E'' a'' w'' k1 (h2.trans k2) k3)
   ·cases hv
  | false =>
   rw [hw] at hv
   simp only [cond] at hv
   split at hv
   ·rename_i fr1 hp
    rw [if_neg (by decide)]
    exact xList_ok ht hc ops l fr1 st E _ w h (put_ok hf hp) hv k
   ·cases hv
end
end Go.Proofs.YtkcdgaijklhnaaaGreatDoor
namespace Go.Proofs.YtkcdgaijklhnaaaGreatDoor
open Go.RowKit
def CallWr (call : CallX) : Prop := ∀ f args st r st', call f args st = some (r, st') → ∀ b, b ∈ st.wr → b ∈ st'.wr
section
variable {P : Program} {tbl : Tbl} {B : Nat} {w0 : World} {E : Env} {st st' : St} {w : World} {fr fr' : Fr} {a : Act} {v : AV} {call : CallX} {o : Oper} {K : Act → World → Prop} {Q : Exit → Act → World → Prop}
theorem newX_wr {t k : Nat} {l : List Leaf} (hn : newX st t k l = some st') : st'.wr = st.wr := by
 unfold newX at hn
 cases hb : l.all (Leaf.below st.nx) with
 | false => rw [hb] at hn; cases hn
 | true =>
  rw [hb] at hn
  simp only [cond] at hn
  split at hn
  ·cases hn; rfl
  ·cases hn
theorem cond_some {α : Type} {c : Bool} {x : Option α} {y : α} (h : cond c x none = some y) : c = true ∧ x = some y := by
 cases c
 ·cases h
 ·exact ⟨rfl, h⟩
theorem storeX_wr {t : Nat} {u x : AV} (hs : storeX P st t u x = some st') {b : Nat} (hb : b ∈ st.wr) : b ∈ st'.wr := by
 unfold storeX at hs
 split at hs
 ·split at hs
  ·have h1 := (cond_some (cond_some (cond_some hs).2).2).2
   split at h1
   ·split at h1
    ·cases h1; exact (mem_addW _ _ _).2 (Or.inr hb)
    ·cases h1
   ·cases h1
  ·cases hs
 ·cases hs
theorem buildSliceX_wr {t len : Nat} {parts : Array (Nat × Operand)} (hv : buildSliceX P fr st t len parts = some (v, st')) : st'.wr = st.wr := by
 unfold buildSliceX at hv
 split at hv
 ·split at hv
  ·split at hv
   ·split at hv
    ·split at hv
     ·rename_i k _ _ _ _ _ _ _ _ _ _ _
      have h1 := (cond_some (cond_some hv).2).2
      generalize Nat.beq _ 0 = q at h1
      cases q with
      | true =>
       simp only [cond] at h1
       split at h1
       ·split at h1
        ·rename_i s hs
         cases h1
         exact newX_wr hs
        ·cases h1
       ·cases h1
      | false =>
       simp only [cond] at h1
       split at h1
       ·rename_i s hs
        cases h1
        exact newX_wr hs
       ·cases h1
     ·cases hv
    ·cases hv
   ·cases hv
  ·cases hv
 ·cases hv
theorem makeSliceX_wr {t : Nat} {x y : Operand} (hv : makeSliceX P fr st t x y = some (v, st')) : st'.wr = st.wr := by
 unfold makeSliceX at hv
 split at hv
 ·split at hv
  ·split at hv
   ·have h1 := (cond_some (cond_some (cond_some (cond_some (cond_some hv).2).2).2).2).2
    split at h1
    ·rename_i s hs
     cases h1
     exact newX_wr hs
    ·cases h1
   ·cases hv
  ·cases hv
 ·cases hv
theorem oldsX_wr {e k n : Nat} {s : AV} {l : List Leaf} {bl1 : Tr Xblk} {wr' : List Nat} (hs : oldsX st e k s = some (l, n, bl1, wr')) {b : Nat} (hb : b ∈ st.wr) : b ∈ wr' := by
 unfold oldsX at hs
 split at hs
 ·cases hs; exact hb
 ·split at hs
  ·have h1 := (cond_some hs).2
   split at h1
   ·cases h1; exact (mem_addW _ _ _).2 (Or.inr hb)
   ·cases h1
  ·cases hs
 ·cases hs
theorem appX_wr {t : Nat} {s x : AV} (hv : appX P st t s x = some (v, st')) {b : Nat} (hb : b ∈ st.wr) : b ∈ st'.wr := by
 unfold appX at hv
 split at hv
 ·split at hv
  ·split at hv
   ·have h1 := (cond_some hv).2
    cases h1; exact hb
   ·split at hv
    ·split at hv
     ·rename_i ho
      split at hv
      ·split at hv
       ·have h1 := (cond_some hv).2
        cases h1; exact oldsX_wr ho hb
       ·cases hv
      ·cases hv
     ·split at hv
      ·split at hv
       ·have h1 := (cond_some hv).2
        cases h1; exact hb
       ·cases hv
      ·cases hv
    ·cases hv
  ·cases hv
 ·cases hv
theorem zapX_wr {t tn : Nat} {s x : AV} (hv : zapX P st t tn s x = some (v, st')) {b : Nat} (hb : b ∈ st.wr) : b ∈ st'.wr := by
 unfold zapX at hv
 split at hv
 ·split at hv
  ·split at hv
   ·split at hv
    ·split at hv
     ·have h1 := (cond_some hv).2
      cases h1; exact hb
     ·cases hv
    ·cases hv
   ·cases hv
  ·cases hv
 ·cases hv
theorem makeMapX_wr (hv : makeMapX st = some (v, st')) : st'.wr = st.wr := by
 unfold makeMapX at hv
 split at hv
 ·cases hv; rfl
 ·cases hv
theorem insX_wr {t : Nat} {x : AV} {key val : Value} (hv : insX P st t x key val = some st') {b : Nat} (hb : b ∈ st.wr) : b ∈ st'.wr := by
 unfold insX at hv
 split at hv
 ·split at hv
  ·split at hv
   ·split at hv
    ·cases hv; exact (mem_addW _ _ _).2 (Or.inr hb)
    ·cases hv
   ·cases hv
  ·cases hv
 ·cases hv
theorem xEff_wr (hc : CallWr call) {op : Op} (hv : xEff P tbl call fr st op = some (v, st')) {b : Nat} (hb : b ∈ st.wr) : b ∈ st'.wr := by
 unfold xEff at hv
 split at hv
 ·split at hv
  ·split at hv
   ·cases hv; exact hb
   ·cases hv
  ·cases hv
 ·split at hv
  ·split at hv
   ·rename_i hs
    cases hv; exact storeX_wr hs hb
   ·cases hv
  ·cases hv
 ·unfold allocX at hv
  split at hv
  ·split at hv
   ·rename_i hs
    cases hv; rw [newX_wr hs]; exact hb
   ·cases hv
  ·cases hv
 ·split at hv
  ·unfold boxX at hv
   split at hv
   ·split at hv
    ·rename_i hs
     cases hv; rw [newX_wr hs]; exact hb
    ·cases hv
   ·cases hv
  ·cases hv
 ·rw [buildSliceX_wr hv]; exact hb
 ·rw [makeSliceX_wr hv]; exact hb
 ·rw [makeMapX_wr hv]; exact hb
 ·split at hv
  ·cases hv; exact hb
  ·cases hv
 ·split at hv
  ·split at hv
   ·rename_i hs
    cases hv; exact insX_wr hs hb
   ·cases hv
  ·cases hv
 ·split at hv
  ·split at hv
   ·rename_i hs
    cases hv; exact insX_wr hs hb
   ·cases hv
  ·cases hv
 ·split at hv
  ·cases hv; exact hb
  ·cases hv
 ·split at hv
  ·unfold callX at hv
   split at hv
   ·exact hc _ _ _ _ _ (cond_some hv).2 b hb
   ·cases hv
  ·split at hv
   ·rename_i t t' _ _
    split at hv
    ·generalize Nat.beq t t' = q at hv
     cases q with
     | true => exact appX_wr hv hb
     | false => exact zapX_wr hv hb
    ·cases hv
   ·cases hv
  ·cases hv
 ·cases hv
theorem xVal_wr (hc : CallWr call) (hv : xVal P tbl call fr st o = some (v, st')) {b : Nat} (hb : b ∈ st.wr) : b ∈ st'.wr := by
 unfold xVal at hv
 split at hv
 ·cases hv; exact hb
 ·split at hv
  ·rename_i r hr
   cases hv
   exact xEff_wr hc hr hb
  ·split at hv
   ·cases hv; exact hb
   ·cases hv
theorem xOp_wr (hc : CallWr call) (hv : xOp P tbl call fr st o = some (fr', st')) {b : Nat} (hb : b ∈ st.wr) : b ∈ st'.wr := by
 unfold xOp at hv
 split at hv
 ·split at hv
  ·split at hv
   ·split at hv
    ·cases hv; exact hb
    ·cases hv
   ·cases hv
  ·cases hv
 ·split at hv
  ·rename_i hx
   split at hv
   ·cases hv; exact xVal_wr hc hx hb
   ·cases hv
  ·cases hv
def quietX (P : Program) (tbl : Tbl) (st0 : St) (fr : Fr) (o : Oper) : Option (AV × Option Nat) :=
 match apX P fr o.op with
 | some v => some (v, none)
 | none => match o.op with
  | .load t x => match aev fr x with
   | some (.one (.leaf (.ptr b p))) => cond (Nat.blt b st0.nx) (match loadX P tbl st0 t (.one (.leaf (.ptr b p))) with
    | some v => some (v, some b)
    | none => none) none
   | some u => match loadX P tbl st0 t u with
    | some v => some (v, none)
    | none => none
   | none => none
  | _ => match pureX P fr o with
   | some v => some (v, none)
   | none => none
def pickX (P : Program) (tbl : Tbl) (st0 : St) (fr : Fr) (ops : Array Oper) (listed : Array Bool) : List Nat → Option (Nat × Oper × AV × Option Nat)
 | [] => none
 | i :: rs => match ops[i]? with
  | some o => cond (Region.wanted o (yieldX ops fr)) (match quietX P tbl st0 fr o with
   | some (v, r) => cond (Region.free .any ops listed i) (some (i, o, v, r)) (pickX P tbl st0 fr ops listed rs)
   | none => pickX P tbl st0 fr ops listed rs) (cond (Region.free .any ops listed i) (some (i, o, undefA, none)) (pickX P tbl st0 fr ops listed rs))
  | none => pickX P tbl st0 fr ops listed rs
def addR (r : Option Nat) (l : List Nat) : List Nat := match r with
 | some b => addW b l
 | none => l
def xDraw (P : Program) (tbl : Tbl) (call : CallX) (ops : Array Oper) (st0 : St) : Nat → Array Bool → List Nat → Fr → St → Option (Fr × St × List Nat)
 | 0, listed, R, fr, st => match Region.ready .any ops listed with
  | [] => some (fr, st, R)
  | _ => none
 | n + 1, listed, R, fr, st => match Region.ready .any ops listed with
  | [] => some (fr, st, R)
  | r :: rs => match pickX P tbl st0 fr ops listed (r :: rs) with
   | some (i, o, v, b) => match fr.put st.nx o.dst v with
    | some fr' => xDraw P tbl call ops st0 n (listed.setIfInBounds i true) (addR b R) fr' st
    | none => none
   | none => match rs with
    | [] => match ops[r]? with
     | some o => cond (Region.wanted o (yieldX ops fr)) (match xOp P tbl call fr st o with
      | some (fr', st') => xDraw P tbl call ops st0 n (listed.setIfInBounds r true) R fr' st'
      | none => none) none
     | none => none
    | _ => none
theorem mem_addR {r : Option Nat} {l : List Nat} {b : Nat} (h : b ∈ l) : b ∈ addR r l := by
 cases r with
 | none => exact h
 | some c => exact (mem_addW _ _ _).2 (Or.inr h)
theorem xDraw_mono (hc : CallWr call) {ops : Array Oper} {st0 : St} {Rf : List Nat} : ∀ (n : Nat) (listed : Array Bool) (R : List Nat) (fr : Fr) (st : St), xDraw P tbl call ops st0 n listed R fr st = some (fr', st', Rf) →
  (∀ b, b ∈ st.wr → b ∈ st'.wr) ∧ ∀ b, b ∈ R → b ∈ Rf
 | 0, listed, R, fr, st, h => by
  simp only [xDraw] at h
  split at h
  ·cases h; exact ⟨fun _ h => h, fun _ h => h⟩
  ·cases h
 | n + 1, listed, R, fr, st, h => by
  simp only [xDraw] at h
  split at h
  ·cases h; exact ⟨fun _ h => h, fun _ h => h⟩
  ·split at h
   ·split at h
    ·obtain ⟨h1, h2⟩ := xDraw_mono hc n _ _ _ _ h
     exact ⟨h1, fun b hb => h2 b (mem_addR hb)⟩
    ·cases h
   ·split at h
    ·split at h
     ·have h1 := (cond_some h).2
      split at h1
      ·rename_i hx
       obtain ⟨h2, h3⟩ := xDraw_mono hc n _ _ _ _ h1
       exact ⟨fun b hb => h2 b (xOp_wr hc hx hb), h3⟩
      ·cases h1
     ·cases h
    ·cases h
theorem RowOk.same {E E' : Env} {m b t k : Nat} {cs : List Leaf} (h : RowOk E w b t k cs) (hE : Env.same m E E') (hb : b < m) (hcs : cs.all (Leaf.below m) = true) : RowOk E' w b t k cs := by
 obtain ⟨cur, h1, h2, h3, h4⟩ := h
 obtain ⟨e1, e2⟩ := hE b hb
 exact ⟨cur, by rw [e1]; exact h1, by rw [e2]; exact h2, by rw [e2]; exact h3, by rw [Leaf.map_same hE hcs]; exact h4⟩
theorem Env.same_symm {m : Nat} {E E' : Env} (h : Env.same m E E') : Env.same m E' E := fun b hb => ⟨(h b hb).1.symm, (h b hb).2.symm⟩
def Held (tbl : Tbl) (E0 : Env) (st0 : St) (R : List Nat) (w : World) : Prop := TblW tbl w ∧ ∀ b, b ∈ R → ∀ t k cs, st0.bl.get b = some (.row t k cs) → RowOk E0 w b t k cs
theorem pickX_ok {st0 : St} {ops : Array Oper} {listed : Array Bool} {i : Nat} {r : Option Nat} : ∀ (l : List Nat), pickX P tbl st0 fr ops listed l = some (i, o, v, r) →
  i ∈ l ∧ ops[i]? = some o ∧ Region.free .any ops listed i = true ∧ ((Region.wanted o (yieldX ops fr) = true ∧ quietX P tbl st0 fr o = some (v, r)) ∨ (Region.wanted o (yieldX ops fr) = false ∧ v = undefA ∧ r = none))
 | [], h => by cases h
 | j :: l, h => by
  simp only [pickX] at h
  have next : ∀ h' : pickX P tbl st0 fr ops listed l = some (i, o, v, r), i ∈ j :: l ∧ ops[i]? = some o ∧ Region.free .any ops listed i = true ∧ ((Region.wanted o (yieldX ops fr) = true ∧ quietX P tbl st0 fr o = some (v, r)) ∨ (Region.wanted o (yieldX ops fr) = false ∧ v = undefA ∧ r = none)) := fun h' => by
   obtain ⟨h1, h2⟩ := pickX_ok l h'
   exact ⟨List.mem_cons_of_mem _ h1, h2⟩
  split at h
  ·rename_i o' ho
   cases hw : Region.wanted o' (yieldX ops fr) with
   | true =>
    rw [hw] at h
    simp only [cond] at h
    split at h
    ·rename_i v' r' hq
     split at h
     ·rename_i hfree
      cases h
      exact ⟨List.mem_cons_self, ho, hfree, Or.inl ⟨hw, hq⟩⟩
     ·exact next h
    ·exact next h
   | false =>
    rw [hw] at h
    simp only [cond] at h
    split at h
    ·rename_i hfree
     cases h
     exact ⟨List.mem_cons_self, ho, hfree, Or.inr ⟨hw, rfl, rfl⟩⟩
    ·exact next h
  ·exact next h
theorem quietX_ok {E0 : Env} {st0 : St} {R : List Nat} {r : Option Nat} (hf : FrOk E st.nx fr a) (hE : Env.same st0.nx E0 E) (h0 : ∀ b t k cs, st0.bl.get b = some (.row t k cs) → cs.all (Leaf.below st0.nx) = true)
  (hq : quietX P tbl st0 fr o = some (v, r)) (hr : ∀ b, r = some b → b ∈ R) : ∀ w, Held tbl E0 st0 R w → (execOp a.eval o).run P w = .ok (.value (v.conc E)) w := by
 intro w hS
 unfold quietX at hq
 split at hq
 ·rename_i u hu
  cases hq
  exact (apX_ok hf hu).2 w
 ·split at hq
  ·rename_i t x hop
   split at hq
   ·rename_i b p hx
    obtain ⟨hb, hq⟩ := cond_some hq
    split at hq
    ·rename_i u hl
     cases hq
     have hl' := loadX_ok (E := E) (w := w) hl hS.1 (fun b' p' e tt k cs hb' => by
      cases e
      exact (hS.2 b (hr b rfl) tt k cs hb').same hE (blt_lt hb) (h0 _ _ _ _ hb'))
     obtain ⟨dst, op, type, pos, after, guard⟩ := o
     simp only at hop
     subst hop
     simp only [execOp, (aev_ok hf hx).1, Sem.run_bind, hl', Result.andThen_ok]
     rfl
    ·cases hq
   ·rename_i u hne hx
    split at hq
    ·rename_i u' hl
     cases hq
     have hl' := loadX_ok (E := E) (w := w) hl hS.1 (fun b' p' e => absurd e (hne b' p'))
     obtain ⟨dst, op, type, pos, after, guard⟩ := o
     simp only at hop
     subst hop
     simp only [execOp, (aev_ok hf hx).1, Sem.run_bind, hl', Result.andThen_ok]
     rfl
    ·cases hq
   ·cases hq
  ·split at hq
   ·rename_i u hu
    cases hq
    exact (pureX_ok hf hu).2 w
   ·cases hq
theorem Rep.held (ht : TblOk tbl B w0) {E0 : Env} {st0 : St} {R : List Nat} (h : Rep B w0 E st w) (hx : Ext E0 st0 E st) (h0 : ∀ b t k cs, st0.bl.get b = some (.row t k cs) → b < st0.nx ∧ cs.all (Leaf.below st0.nx) = true)
  (hR : ∀ b, b ∈ R → b ∉ st.wr) : Held tbl E0 st0 R w := ⟨ht w h.below, fun b hb t k cs hg => by
 obtain ⟨h1, h2⟩ := h0 b t k cs hg
 exact ((h.ok b t k cs ((hx.bl b h1 (hR b hb)).trans hg)).1).same (Env.same_symm hx.env) h1 h2⟩
theorem xDraw_ok (ht : TblOk tbl B w0) (hc : CallOk P B w0 call) (hcw : CallWr call) {ops : Array Oper} (hsel : Region.noSelect ops = true) {E0 : Env} {st0 : St} (h0 : ∀ b t k cs, st0.bl.get b = some (.row t k cs) → b < st0.nx ∧ cs.all (Leaf.below st0.nx) = true)
  {Rf : List Nat} (hRf : ∀ b, b ∈ Rf → b ∉ st'.wr) (hQ : ∀ c a w, ¬ Q (.panic c) a w) :
  ∀ (n : Nat) (listed : Array Bool) (R : List Nat) (fr : Fr) (st : St) (E : Env) (a : Act) (w : World), Rep B w0 E st w → FrOk E st.nx fr a → Ext E0 st0 E st → xDraw P tbl call ops st0 n listed R fr st = some (fr', st', Rf) →
   (∀ E' a' w', Rep B w0 E' st' w' → Ext E0 st0 E' st' → FrOk E' st'.nx fr' a' → Q .normal a' w') → wpAnyH P .any ops Q (Held tbl E0 st0 Rf) n listed a w
 | 0, listed, R, fr, st, E, a, w, h, hf, hx, hv, k => by
  simp only [xDraw] at hv
  split at hv
  ·rename_i hr
   cases hv
   exact ⟨hr, k E a w h hx hf⟩
  ·cases hv
 | n + 1, listed, R, fr, st, E, a, w, h, hf, hx, hv, k => by
  have hm := xDraw_mono hcw (n + 1) listed R fr st hv
  have hS : Held tbl E0 st0 Rf w := h.held ht hx h0 fun b hb hw => hRf b hb (hm.1 b hw)
  simp only [xDraw] at hv
  split at hv
  ·rename_i hr
   cases hv
   exact wpAnyH_done hr (k E a w h hx hf) _
  ·rename_i r rs hr
   split at hv
   ·rename_i i o v b hp
    obtain ⟨p1, p2, p3, p4⟩ := pickX_ok _ hp
    split at hv
    ·rename_i fr1 hput
     have hm' := xDraw_mono hcw n _ _ _ _ hv
     have hy : YieldsIf P ops (Held tbl E0 st0 Rf) o (v.conc E) a := by
      rcases p4 with ⟨q1, q2⟩ | ⟨q1, q2, q3⟩
      ·refine Or.inl ⟨by rw [yieldX_ok hf ops]; exact q1, quietX_ok hf hx.env (fun b t k cs hb => (h0 b t k cs hb).2) q2 fun c hc => hm'.2 c ?_⟩
       rw [hc]; exact (mem_addW _ _ _).2 (Or.inl rfl)
      ·refine Or.inr ⟨by rw [yieldX_ok hf ops]; exact q1, by rw [q2]; rfl⟩
     exact wpAnyH_take p2 hsel p3 (by rw [hr]; simpa using p1) (fun c a w hq => absurd hq (hQ c _ w)) hy hS (xDraw_ok ht hc hcw hsel h0 hRf hQ n _ _ fr1 st E _ w h (put_ok hf hput) hx hv k)
    ·cases hv
   ·split at hv
    ·split at hv
     ·rename_i o ho
      obtain ⟨hw, hv⟩ := cond_some hv
      split at hv
      ·rename_i fr1 st1 hx1
       refine wpAnyH_all hr (by simp) fun i hi => ?_
       have : i = r := by simpa using hi
       subst this
       unfold wpOp
       simp only [ho]
       rw [yieldX_ok hf ops, if_pos hw]
       refine Or.inl (xOp_ok ht hc h hf hx1 fun E' a' w' k1 k2 k3 => ⟨?_, xDraw_ok ht hc hcw hsel h0 hRf hQ n _ _ fr1 st1 E' a' w' k1 k3 (hx.trans k2) hv k⟩)
       have hm' := xDraw_mono hcw n _ _ _ _ hv
       exact k1.held ht (hx.trans k2) h0 fun b hb hw => hRf b hb (hm'.1 b hw)
      ·cases hv
     ·cases hv
    ·cases hv
end
end Go.Proofs.YtkcdgaijklhnaaaGreatDoor
