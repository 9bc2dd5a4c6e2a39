/-
  Reckoning closed code over named blocks: operations, lists of them, regions.
-/
import Derived.Test.YtgaiibkkompbnaaGreatDoorEh
namespace Go.Proofs.YtgaiibkkompbnaaGreatDoor
open Go.RowKit

abbrev CallX := Nat → List AV → St → Option (AV × St)
def CallOk (P : Program) (B : Nat) (w0 : World) (call : CallX) : Prop := ∀ f args st r st', call f args st = some (r, st') → ∀ E w, Rep B w0 E st w → (∀ v ∈ args, v.below st.nx = true) →
  Calls P f (args.map (AV.conc E)).toArray w fun e w' => ∃ E', e = .returned (r.conc E') ∧ Rep B w0 E' st' w' ∧ Ext E st E' st'
def argsX (fr : Fr) : List Operand → Option (List AV)
  | [] => some []
  | x :: l => match aev fr x, argsX fr l with
    | some v, some r => some (v :: r)
    | _, _ => none
theorem argsX_ok {E : Env} {m : Nat} {fr : Fr} {a : Act} (h : FrOk E m fr a) : ∀ (l : List Operand) (r : List AV), argsX fr l = some r → l.map a.eval = r.map (AV.conc E) ∧ ∀ v ∈ r, v.below m = true
  | [], r, hr => by cases hr; exact ⟨rfl, fun _ h => by cases h⟩
  | x :: l, r, hr => by
    simp only [argsX] at hr
    split at hr
    · rename_i v q hx hl
      cases hr
      obtain ⟨h1, h2⟩ := aev_ok h hx
      obtain ⟨h3, h4⟩ := argsX_ok h l q hl
      refine ⟨by rw [List.map_cons, List.map_cons, h3, h1], fun y hy => ?_⟩
      rcases List.mem_cons.1 hy with rfl | hy
      · exact h2
      · exact h4 y hy
    · cases hr
def entersX (P : Program) (f : Nat) : Bool :=
  match P.funcs[f]? with
  | some fn => !(fn.name == "runtime.NumGoroutine") && !fn.body.isNone
  | none => false
theorem entersX_ok {P : Program} {f : Nat} (h : entersX P f = true) (args : Array Value) (w : World) : (callFunc f args).run P w = .ok (.enter f args) w := by
  unfold entersX at h
  split at h
  · rename_i fn hf
    simp only [Bool.and_eq_true, Bool.not_eq_true'] at h
    have hp : (Sem.program Sem.pure).run P w = .ok P w := rfl
    have n1 : ¬ fn.name = "runtime.NumGoroutine" := by simpa using h.1
    have n2 : ¬ fn.body = none := fun e => by rw [e] at h; exact absurd h.2 (by decide)
    simp [callFunc, program, hp, hf, n1, n2]
  · cases h
def leafAV (x : Leaf) : AV := .one (.leaf x)
def callX (P : Program) (call : CallX) (fr : Fr) (st : St) (f : Operand) (args : List Operand) : Option (AV × St) :=
  match aev fr f, argsX fr args with
  | some (.one (.fn g caps)), some vs => cond (entersX P g) (call g (vs ++ caps.map leafAV) st) none
  | _, _ => none
def undefA : AV := .tup []
theorem undefA_conc (E : Env) : undefA.conc E = undef := rfl
def xEff (P : Program) (tbl : Tbl) (call : CallX) (fr : Fr) (st : St) (op : Op) : Option (AV × St) :=
  match op with
  | .load t x => match aev fr x with
    | some v => match loadX P tbl st t v with
      | some r => some (r, st)
      | none => none
    | none => none
  | .store t x y => match aev fr x, aev fr y with
    | some v, some u => match storeX P st t v u with
      | some st' => some (undefA, st')
      | none => none
    | _, _ => none
  | .alloc t => allocX P st t
  | .box t x => match aev fr x with
    | some v => boxX st t v
    | none => none
  | .buildSlice t len parts => buildSliceX P fr st t len parts
  | .makeSlice t x y => makeSliceX P fr st t x y
  | .makeMap _ none => some (.one (.leaf (.mp st.nx)), ⟨st.bl, st.nx + 1, st.wr⟩)
  | .slice t x lo hi mx => match sliceX P fr st t x lo hi mx with
    | some v => some (v, st)
    | none => none
  | .call c => match c.callee with
    | .value f => callX P call fr st f c.args.toList
    | .builtin .append => match c.args.toList, c.argTypes.toList with
      | [s, x], [t, t'] => match aev fr s, aev fr x with
        | some s, some x => cond (Nat.beq t t') (appX P st t s x) (zapX P st t t' s x)
        | _, _ => none
      | _, _ => none
    | _ => none
  | _ => none
def xVal (P : Program) (tbl : Tbl) (call : CallX) (fr : Fr) (st : St) (o : Oper) : Option (AV × St) :=
  match apX P fr o.op with
  | some v => some (v, st)
  | none => match xEff P tbl call fr st o.op with
    | some r => some r
    | none => match pureX P fr o with
      | some v => some (v, st)
      | none => none
section
variable {P : Program} {tbl : Tbl} {B : Nat} {w0 : World} {E : Env} {st st' : St} {w : World} {fr fr' : Fr} {a : Act} {v : AV} {call : CallX} {o : Oper} {K : Act → World → Prop} {Q : Exit → Act → World → Prop}
theorem xEff_ok (ht : TblOk tbl B w0) (hc : CallOk P B w0 call) (h : Rep B w0 E st w) (hf : FrOk E st.nx fr a) (hv : xEff P tbl call fr st o.op = some (v, st'))
    (k : ∀ E' w', Rep B w0 E' st' w' → Ext E st E' st' → K (a.put o.dst (v.conc E')) w') : o.wp P a w K Q := by
  obtain ⟨dst, op, type, pos, after, guard⟩ := o
  simp only at hv k
  unfold xEff at hv
  split at hv
  · rename_i t x
    split at hv
    · rename_i u hx
      split at hv
      · rename_i r hl
        cases hv
        have hr := loadX_ok (E := E) (w := w) hl (ht w h.below) (fun b o _ tt k cs hb => (h.ok b _ _ _ hb).1)
        unfold Oper.wp
        simp only [execOp, (aev_ok hf hx).1, Sem.run_bind, hr, Result.andThen_ok]
        exact k E w h (Ext.refl _ _)
      · cases hv
    · cases hv
  · rename_i t x y
    split at hv
    · rename_i u1 u2 hx hy
      split at hv
      · rename_i s hs
        cases hv
        obtain ⟨w', hr, h1, h2⟩ := storeX_ok h hs
        unfold Oper.wp
        simp only [execOp, (aev_ok hf hx).1, (aev_ok hf hy).1, Sem.run_bind, hr, Result.andThen_ok]
        exact k E w' h1 h2
      · cases hv
    · cases hv
  · obtain ⟨E', w', hr, h1, h2⟩ := allocX_ok h hv
    unfold Oper.wp
    simp only [execOp, Sem.run_bind, hr, Result.andThen_ok]
    exact k E' w' h1 h2
  · rename_i t x
    split at hv
    · rename_i u hx
      obtain ⟨E', w', hr, h1, h2⟩ := boxX_ok (P := P) h hv
      unfold Oper.wp
      simp only [execOp, (aev_ok hf hx).1, Sem.run_bind, hr, Result.andThen_ok]
      exact k E' w' h1 h2
    · cases hv
  · obtain ⟨E', w', hr, h1, h2⟩ := buildSliceX_ok h hf hv
    unfold Oper.wp
    simp only [execOp, Sem.run_bind, hr, Result.andThen_ok]
    exact k E' w' h1 h2
  · obtain ⟨E', w', hr, h1, h2⟩ := makeSliceX_ok h hf hv
    unfold Oper.wp
    simp only [execOp, Sem.run_bind, hr, Result.andThen_ok]
    exact k E' w' h1 h2
  · cases hv
    obtain ⟨h1, h2⟩ := h.blank (.map #[] 0)
    have hk := k _ _ h1 h2
    unfold Oper.wp
    simp only [AV.conc, One.conc, Leaf.conc, if_true] at hk
    exact hk
  · rename_i t x lo hi mx
    split at hv
    · rename_i u hs
      cases hv
      have hr := (sliceX_ok h hf hs).1
      unfold Oper.wp
      simp only [execOp, Sem.run_bind, hr, Result.andThen_ok]
      exact k E w h (Ext.refl _ _)
    · cases hv
  · rename_i c
    obtain ⟨callee, args, argTypes⟩ := c
    simp only at hv
    split at hv
    · rename_i f
      unfold callX at hv
      split at hv
      · rename_i g caps vs hg ha
        cases he : entersX P g with
        | false => rw [he] at hv; cases hv
        | true =>
          rw [he] at hv
          simp only [cond] at hv
          obtain ⟨g1, g2⟩ := aev_ok hf hg
          obtain ⟨a1, a2⟩ := argsX_ok hf _ _ ha
          have hcall := hc g _ st v st' hv E w h (fun y hy => by
            rcases List.mem_append.1 hy with hy | hy
            · exact a2 y hy
            · obtain ⟨z, hz, rfl⟩ := List.mem_map.1 hy
              exact List.all_eq_true.1 g2 z hz)
          have hargs : ((vs ++ caps.map leafAV).map (AV.conc E)).toArray = #[] ++ (args.map a.eval) ++ (caps.map (Leaf.conc E)).toArray := by
            have : args.map a.eval = (vs.map (AV.conc E)).toArray := by rw [← a1, ← Array.toList_map, Array.toArray_toList]
            rw [this]
            simp [leafAV, AV.conc, One.conc, Function.comp_def]
          rw [hargs] at hcall
          unfold Oper.wp
          simp only [execOp, resolve, g1, AV.conc, One.conc, Deferred.ofValue, Sem.run_bind, Sem.run_pure, Result.andThen_ok, invoke, entersX_ok he]
          rw [Oper.upon_enter]
          exact hcall.mono fun e w' ⟨E', e1, e2, e3⟩ => by subst e1; exact k E' w' e2 e3
      · cases hv
    · split at hv
      · rename_i s x t t' hs ht'
        have e1 : args = #[s, x] := by rw [← Array.toArray_toList (xs := args), hs]
        have e2 : argTypes = #[t, t'] := by rw [← Array.toArray_toList (xs := argTypes), ht']
        subst e1 e2
        split at hv
        · rename_i s' x' hs' hx'
          cases hb : Nat.beq t t' with
          | false =>
            rw [hb] at hv
            obtain ⟨E', w', hr, h1, h2⟩ := zapX_ok (ty := type) h hv
            unfold Oper.wp
            simp only [execOp, resolve, invoke, builtin, Sem.run_bind, Sem.run_pure, Result.andThen_ok, List.map_toArray, List.map_cons, List.map_nil, (aev_ok hf hs').1, (aev_ok hf hx').1, hr]
            exact k E' w' h1 h2
          | true =>
            have := Nat.eq_of_beq_eq_true hb
            subst this
            rw [hb] at hv
            obtain ⟨E', w', hr, h1, h2⟩ := appX_ok (ty := type) h hv
            unfold Oper.wp
            simp only [execOp, resolve, invoke, builtin, Sem.run_bind, Sem.run_pure, Result.andThen_ok, List.map_toArray, List.map_cons, List.map_nil, (aev_ok hf hs').1, (aev_ok hf hx').1, hr]
            exact k E' w' h1 h2
        · cases hv
      · cases hv
    · cases hv
  · cases hv
theorem xVal_ok (ht : TblOk tbl B w0) (hc : CallOk P B w0 call) (h : Rep B w0 E st w) (hf : FrOk E st.nx fr a) (hv : xVal P tbl call fr st o = some (v, st'))
    (k : ∀ E' w', Rep B w0 E' st' w' → Ext E st E' st' → K (a.put o.dst (v.conc E')) w') : o.wp P a w K Q := by
  unfold xVal at hv
  split at hv
  · rename_i u hu
    cases hv
    unfold Oper.wp
    rw [(apX_ok hf hu).2 w]
    exact k E w h (Ext.refl _ _)
  · split at hv
    · rename_i r hr
      cases hv
      exact xEff_ok ht hc h hf hr k
    · split at hv
      · rename_i u hu
        cases hv
        unfold Oper.wp
        rw [(pureX_ok hf hu).2 w]
        exact k E w h (Ext.refl _ _)
      · cases hv
def xOp (P : Program) (tbl : Tbl) (call : CallX) (fr : Fr) (st : St) (o : Oper) : Option (Fr × St) :=
  match o.op with
  | .defer c => match c.callee with
    | .value f => match aev fr f, c.args.toList with
      | some (.one (.fn g caps)), [] => match Fr.put { fr with df := (g, caps) :: fr.df } st.nx o.dst undefA with
        | some fr' => some (fr', st)
        | none => none
      | _, _ => none
    | _ => none
  | _ => match xVal P tbl call fr st o with
    | some (v, st') => match fr.put st'.nx o.dst v with
      | some fr' => some (fr', st')
      | none => none
    | none => none
theorem xOp_ok (ht : TblOk tbl B w0) (hc : CallOk P B w0 call) (h : Rep B w0 E st w) (hf : FrOk E st.nx fr a) (hv : xOp P tbl call fr st o = some (fr', st'))
    (k : ∀ E' a' w', Rep B w0 E' st' w' → Ext E st E' st' → FrOk E' st'.nx fr' a' → K a' w') : o.wp P a w K Q := by
  unfold xOp at hv
  split at hv
  · rename_i c hop
    obtain ⟨dst, op, type, pos, after, guard⟩ := o
    simp only at hop
    subst hop
    obtain ⟨callee, args, argTypes⟩ := c
    simp only at hv
    split at hv
    · rename_i f
      split at hv
      · rename_i g caps hg ha
        split at hv
        · rename_i fr1 hp
          cases hv
          obtain ⟨g1, g2⟩ := aev_ok hf hg
          have e1 : args = #[] := by rw [← Array.toArray_toList (xs := args), ha]
          subst e1
          have hf2 : FrOk E st.nx { fr with df := (g, caps) :: fr.df } { a with defers := dfc E (g, caps) :: a.defers } :=
            ⟨hf.size, hf.tm, by simp only [List.map_cons, hf.df], fun d hd => by
              rcases List.mem_cons.1 hd with rfl | hd
              · exact g2
              · exact hf.dfb d hd⟩
          have hf3 := put_ok hf2 hp
          unfold Oper.wp
          simp only [execOp, resolve, g1, AV.conc, One.conc, Deferred.ofValue, Sem.run_bind, Sem.run_pure, Result.andThen_ok]
          have hm : (#[] : Array Value) ++ Array.map a.eval #[] = #[] := by simp
          rw [Oper.upon_defer, hm]
          exact k E _ w h (Ext.refl _ _) hf3
        · cases hv
      · cases hv
    · cases hv
  · split at hv
    · rename_i u s hx
      split at hv
      · rename_i fr1 hp
        cases hv
        exact xVal_ok ht hc h hf hx fun E' w' h1 h2 => k E' _ w' h1 h2 (put_ok (hf.mono h2.env h2.nx) hp)
      · cases hv
    · cases hv
def yieldX (ops : Array Oper) (fr : Fr) (j : Nat) : Option Bool :=
  match ops[j]? with
  | some o => match o.dst with
    | some d => cond (Nat.blt d fr.nt) (match fr.tr.get d with
      | some (.one (.leaf (.val (.bool b)))) => some b
      | _ => none) none
    | none => none
  | none => none
theorem yieldX_ok {m : Nat} (hf : FrOk E m fr a) (ops : Array Oper) : yielded ops a.tmps = yieldX ops fr := by
  funext j
  unfold yielded yieldX
  cases ops[j]? with
  | none => rfl
  | some o =>
    simp only [Option.bind_some]
    cases o.dst with
    | none => rfl
    | some d =>
      simp only [Option.bind_some]
      cases hb : Nat.blt d fr.nt with
      | false =>
        have : a.tmps[d]? = none := Array.getElem?_eq_none (by
          rw [hf.size]
          exact Nat.le_of_not_lt fun h => by rw [lt_blt h] at hb; cases hb)
        rw [this]; rfl
      | true =>
        obtain ⟨u, h1, h2, h3⟩ := hf.tm d (blt_lt hb)
        rw [h1, h3]
        simp only [cond]
        cases u with
        | tup l => rfl
        | one x =>
          cases x with
          | agg l => rfl
          | fn f l => rfl
          | leaf x => cases x with
            | val v => cases v <;> rfl
            | _ => rfl
def xList (P : Program) (tbl : Tbl) (call : CallX) (ops : Array Oper) : List Oper → Fr → St → Option (Fr × St)
  | [], fr, st => some (fr, st)
  | o :: l, fr, st => cond (Region.wanted o (yieldX ops fr))
    (match xOp P tbl call fr st o with
      | some (fr', st') => xList P tbl call ops l fr' st'
      | none => none)
    (match fr.put st.nx o.dst undefA with
      | some fr' => xList P tbl call ops l fr' st
      | none => none)
theorem xList_ok (ht : TblOk tbl B w0) (hc : CallOk P B w0 call) (ops : Array Oper) : ∀ (l : List Oper) (fr : Fr) (st : St) (E : Env) (a : Act) (w : World), Rep B w0 E st w → FrOk E st.nx fr a → xList P tbl call ops l fr st = some (fr', st') →
    (∀ E' a' w', Rep B w0 E' st' w' → Ext E st E' st' → FrOk E' st'.nx fr' a' → Q .normal a' w') → wpList P ops Q l a w
  | [], fr, st, E, a, w, h, hf, hv, k => by
    cases hv
    exact k E a w h (Ext.refl _ _) hf
  | o :: l, fr, st, E, a, w, h, hf, hv, k => by
    simp only [xList] at hv
    unfold wpList
    rw [yieldX_ok hf ops]
    cases hw : Region.wanted o (yieldX ops fr) with
    | true =>
      rw [hw] at hv
      simp only [cond] at hv
      split at hv
      · rename_i fr1 st1 hx
        rw [if_pos rfl]
        exact Or.inl (xOp_ok ht hc h hf hx fun E' a' w' h1 h2 h3 => xList_ok ht hc ops l fr1 st1 E' a' w' h1 h3 hv fun E'' a'' w'' k1 k2 k3 => k E'' a'' w'' k1 (h2.trans k2) k3)
      · cases hv
    | false =>
      rw [hw] at hv
      simp only [cond] at hv
      split at hv
      · rename_i fr1 hp
        rw [if_neg (by decide)]
        exact xList_ok ht hc ops l fr1 st E _ w h (put_ok hf hp) hv k
      · cases hv
end
end Go.Proofs.YtgaiibkkompbnaaGreatDoor
