/-
  Reckoning closed code over named blocks: calls, and what a reckoned call says of every world.
-/
import Derived.Test.YtgaiibkkompbnaaGreatDoorEk
namespace Go.Proofs.YtgaiibkkompbnaaGreatDoor
open Go.RowKit

def setArgs : List AV → Nat → Tr AV → Option (Tr AV)
  | [], _, t => some t
  | v :: l, i, t => match t.set i v with
    | some t' => setArgs l (Nat.succ i) t'
    | none => none
theorem setArgs_get : ∀ (l : List AV) (i : Nat) (t t' : Tr AV), setArgs l i t = some t' → ∀ j, t'.get j = if i ≤ j ∧ j < i + l.length then l[j - i]? else t.get j
  | [], i, t, t', h, j => by cases h; rw [if_neg (by simp only [List.length_nil]; omega)]
  | v :: l, i, t, t', h, j => by
    simp only [setArgs] at h
    split at h
    · rename_i t1 h1
      rw [setArgs_get l _ t1 t' h j, Tr.get_set _ _ _ _ h1]
      by_cases hj : j = i
      · subst hj
        rw [if_neg (by omega), if_pos rfl, if_pos (by simp)]
        simp
      · by_cases hk : i + 1 ≤ j ∧ j < i + 1 + l.length
        · rw [if_pos hk, if_pos (by simp; omega), show j - i = (j - (i + 1)) + 1 by omega]
          rfl
        · rw [if_neg hk, if_neg hj, if_neg (by simp; omega)]
    · cases h
theorem Tr.get_full {α : Type} (x : α) : ∀ (d i : Nat), (Tr.full x d).get i = if i + 1 < 2 ^ d then some x else none
  | 0, i => by simp [Tr.full, Tr.get]
  | d + 1, i => by
    rw [Tr.full, Tr.get, Tr.get_full x d, Tr.get_full x d]
    have h2 : 2 ^ (d + 1) = 2 * 2 ^ d := by rw [Nat.pow_succ, Nat.mul_comm]
    have h1 : 1 ≤ 2 ^ d := Nat.one_le_two_pow
    cases hi : Nat.beq i 0 with
    | true =>
      have := Nat.eq_of_beq_eq_true hi
      subst this
      simp only [cond]
      rw [if_pos (by omega)]
    | false =>
      have hi0 : i ≠ 0 := Nat.ne_of_beq_eq_false hi
      simp only [cond]
      cases hm : Nat.beq (Nat.mod i 2) 1 with
      | true =>
        have : i % 2 = 1 := Nat.eq_of_beq_eq_true hm
        simp only
        have e : Nat.div i 2 = i / 2 := rfl
        rw [e]
        by_cases hh : i / 2 + 1 < 2 ^ d
        · rw [if_pos hh, if_pos (by omega)]
        · rw [if_neg hh, if_neg (by omega)]
      | false =>
        have : i % 2 ≠ 1 := Nat.ne_of_beq_eq_false hm
        simp only
        have e : Nat.sub (Nat.div i 2) 1 = i / 2 - 1 := rfl
        rw [e]
        by_cases hh : i / 2 - 1 + 1 < 2 ^ d
        · rw [if_pos hh, if_pos (by omega)]
        · rw [if_neg hh, if_neg (by omega)]
def fr0 (args : List AV) (nt : Nat) : Option Fr :=
  cond (Nat.ble args.length nt && Nat.blt nt 511) (match setArgs args 0 (Tr.full undefA 9) with
    | some t => some ⟨t, nt, []⟩
    | none => none) none
section
variable {P : Program} {tbl : Tbl} {B : Nat} {w0 : World} {E : Env} {st st' : St} {w : World} {fr fr' : Fr} {a : Act} {v : AV} {call : CallX} {e : Exit}
theorem fr0_ok {args : List AV} {nt m : Nat} (h : fr0 args nt = some fr) (hb : ∀ v ∈ args, v.below m = true) :
    FrOk E m fr { tmps := (args.map (AV.conc E)).toArray ++ Array.replicate (nt - (args.map (AV.conc E)).toArray.size) undef, defers := [] } := by
  unfold fr0 at h
  obtain ⟨hc, h⟩ := cond_some h
  simp only [Bool.and_eq_true] at hc
  have h1 : args.length ≤ nt := Nat.le_of_ble_eq_true hc.1
  have h2 : nt < 511 := blt_lt hc.2
  split at h
  · rename_i t ht
    cases h
    have hg := setArgs_get args 0 _ t ht
    refine ⟨by simp; omega, fun i hi => ?_, rfl, fun d hd => by cases hd⟩
    simp only at hi ⊢
    rw [hg i]
    by_cases hlt : i < args.length
    · rw [if_pos ⟨Nat.zero_le _, by omega⟩, Nat.sub_zero]
      obtain ⟨v, hv⟩ : ∃ v, args[i]? = some v := ⟨_, List.getElem?_eq_getElem hlt⟩
      refine ⟨v, hv, hb v (List.mem_of_getElem? hv), ?_⟩
      rw [Array.getElem?_append_left (by simpa using hlt)]
      simp [hv]
    · rw [if_neg (by omega), Tr.get_full, if_pos (by have : (2 : Nat) ^ 9 = 512 := rfl; omega)]
      refine ⟨undefA, rfl, rfl, ?_⟩
      rw [Array.getElem?_append_right (by simp; omega), Array.getElem?_replicate, if_pos (by simp; omega)]
      rfl
  · cases h
def isEnd : Exit → Bool
  | .normal => true
  | .ret => true
  | _ => false
def resOne (P : Program) (tbl : Tbl) (fr : Fr) (st : St) : ResultVar → Option AV
  | .tmp t => aev fr (.tmp t)
  | .cell p ty => match aev fr (.tmp p) with
    | some v => loadX P tbl st ty v
    | none => none
def onesX : List AV → Option (List One)
  | [] => some []
  | .one x :: l => match onesX l with
    | some r => some (x :: r)
    | none => none
  | _ => none
def resX (P : Program) (tbl : Tbl) (fr : Fr) (st : St) : List ResultVar → Option AV
  | [] => some (.tup [])
  | [r] => resOne P tbl fr st r
  | [r, s] => match resOne P tbl fr st r, resOne P tbl fr st s with
    | some (.one x), some (.one y) => some (.tup [x, y])
    | _, _ => none
  | [r, s, t] => match resOne P tbl fr st r, resOne P tbl fr st s, resOne P tbl fr st t with
    | some (.one x), some (.one y), some (.one z) => some (.tup [x, y, z])
    | _, _, _ => none
  | _ => none
def resF (tmps : Array Value) : ResultVar → Sem Value
  | .tmp t => pure (tmps.getD t undef)
  | .cell p ty => do loadVar ty (← asAddr (tmps.getD p undef))
theorem results_eq (fn : Func) (tmps : Array Value) : results fn tmps = (do
    let vs ← fn.results.mapM (resF tmps)
    pure (if h : vs.size = 1 then vs[0] else .tuple vs)) := rfl
theorem resOne_ok (ht : TblOk tbl B w0) (h : Rep B w0 E st w) (hf : FrOk E st.nx fr a) {r : ResultVar} (hr : resOne P tbl fr st r = some v) : (resF a.tmps r).run P w = .ok (v.conc E) w := by
  cases r with
  | tmp t =>
    simp only [resOne] at hr
    have := (aev_ok hf hr).1
    simp only [Act.eval] at this
    simp only [resF, this]
    rfl
  | cell p ty =>
    simp only [resOne] at hr
    split at hr
    · rename_i u hu
      have h1 := (aev_ok hf hu).1
      simp only [Act.eval] at h1
      have h2 := loadX_ok (E := E) (w := w) hr (ht w h.below) (fun b o _ tt k cs hb => (h.ok b _ _ _ hb).1)
      unfold loadX at hr
      split at hr
      · rename_i b o
        simp only [resF, h1]
        simpa [Instr.loadAt, Instr.sureAddr, asAddr, AV.conc, One.conc, Leaf.conc] using h2
      · rename_i g o
        simp only [resF, h1]
        simpa [Instr.loadAt, Instr.sureAddr, asAddr, AV.conc, One.conc, Leaf.conc] using h2
      · cases hr
    · cases hr
theorem resX_ok (ht : TblOk tbl B w0) (h : Rep B w0 E st w) (hf : FrOk E st.nx fr a) {fn : Func} (hr : resX P tbl fr st fn.results.toList = some v) : (results fn a.tmps).run P w = .ok (v.conc E) w := by
  have hl : fn.results = fn.results.toList.toArray := by simp
  rw [results_eq, hl]
  unfold resX at hr
  split at hr
  · rename_i hq
    cases hr
    rw [hq]
    simp [AV.conc]
  · rename_i r hq
    rw [hq]
    simp [resOne_ok ht h hf hr]
  · rename_i r s hq
    rw [hq]
    split at hr
    · rename_i x y h1 h2
      cases hr
      simp [resOne_ok ht h hf h1, resOne_ok ht h hf h2, AV.conc]
    · cases hr
  · rename_i r s t hq
    rw [hq]
    split at hr
    · rename_i x y z h1 h2 h3
      cases hr
      simp [resOne_ok ht h hf h1, resOne_ok ht h hf h2, resOne_ok ht h hf h3, AV.conc]
    · cases hr
  · cases hr
/-- deferred calls that find no panic and do nothing -/
def IdleOk (P : Program) (idle : Nat → Bool) : Prop := ∀ g, idle g = true → ∀ (p : Addr) (w : World), CallsD P g #[.pointer (some p)] .returning w fun e u' w' => e = .returned (.tuple #[]) ∧ u' = .returning ∧ w' = w
def idleOne (P : Program) (idle : Nat → Bool) (d : Nat × List Leaf) : Bool :=
  match d.2 with
  | [.ptr _ _] => idle d.1 && entersX P d.1
  | _ => false
theorem idle_leaves {idle : Nat → Bool} (hi : IdleOk P idle) {fn : Func} {tmps : Array Value} {R : Ending → World → Prop} (hR : ∃ u, (results fn tmps).run P w = .ok u w ∧ R (.returned u) w) :
    ∀ df : List (Nat × List Leaf), df.all (idleOne P idle) = true → Leaves P fn tmps R (df.map (dfc E)) .returning w
  | [], _ => hR
  | d :: df, h => by
    simp only [List.all_cons, Bool.and_eq_true] at h
    obtain ⟨h1, h2⟩ := h
    have ih := idle_leaves hi hR df h2
    obtain ⟨g, caps⟩ := d
    unfold idleOne at h1
    simp only at h1
    split at h1
    · rename_i b o
      simp only [Bool.and_eq_true] at h1
      rw [List.map_cons]
      refine leaves_cons (by simp) (f := g) (args := #[.pointer (some ⟨E.φ b, o, none⟩)]) ?_ ((hi g h1.1 ⟨E.φ b, o, none⟩ w).mono ?_)
      · simp only [invoke]
        rw [entersX_ok h1.2]
        simp [Leaf.conc]
      · rintro e u' w' ⟨rfl, rfl, rfl⟩
        exact ih
    · cases h1
def HookOk (P : Program) (B : Nat) (w0 : World) (hook : Nat → List AV → St → Option AV) : Prop := ∀ f args st r, hook f args st = some r → ∀ (E : Env) (w : World), Rep B w0 E st w → (∀ v ∈ args, v.below st.nx = true) →
  Calls P f (args.map (AV.conc E)).toArray w fun e w' => e = .returned (r.conc E) ∧ Below w.heap.size w w'
theorem Rep.step {w' : World} (h : Rep B w0 E st w) (hb : Below w.heap.size w w') : Rep B w0 E st w' :=
  ⟨h.base, h.below.trans (hb.mono (Nat.le_trans h.base h.below.size)), h.top, fun i t k cs hi => by
    obtain ⟨⟨cur, g1, g2, g3, g4⟩, h2⟩ := h.ok i t k cs hi
    exact ⟨⟨cur, (hb.block _ (h.mem hi)).trans g1, g2, g3, g4⟩, h2⟩, h.inj⟩
def xCall (P : Program) (tbl : Tbl) (idle : Nat → Bool) (hook : Nat → List AV → St → Option AV) : Nat → CallX
  | 0 => fun _ _ _ => none
  | n + 1 => fun f args st => match hook f args st with
    | some r => some (r, st)
    | none => match P.funcs[f]? with
      | some fn => match fn.body with
        | some c => match fr0 args fn.ntmps with
          | some fr => match xCode P tbl (xCall P tbl idle hook n) 4000 c fr ⟨st.bl, st.nx, []⟩ with
            | some (e, fr', st') => cond (isEnd e && fr'.df.all (idleOne P idle)) (match resX P tbl fr' st' fn.results.toList, mergeLow st.nx st'.wr st.wr with
              | some r, some wr => some (r, ⟨st'.bl, st'.nx, wr⟩)
              | _, _ => none) none
            | none => none
          | none => none
        | none => none
      | none => none
theorem xCall_wr {idle : Nat → Bool} {hook : Nat → List AV → St → Option AV} : ∀ n, CallWr (xCall P tbl idle hook n)
  | 0, f, args, st, r, st', h => by cases h
  | n + 1, f, args, st, r, st', h => by
    simp only [xCall] at h
    intro b hb
    split at h
    · cases h; exact hb
    · split at h
      · split at h
        · split at h
          · split at h
            · have h := (cond_some h).2
              split at h
              · rename_i hwr
                cases h
                exact mem_mergeLow _ _ _ _ hwr b (Or.inr hb)
              · cases h
            · cases h
          · cases h
        · cases h
      · cases h
theorem xCall_ok {idle : Nat → Bool} {hook : Nat → List AV → St → Option AV} (hm : P.follows .mixedOrders = true) (ht : TblOk tbl B w0) (hi : IdleOk P idle) (hh : HookOk P B w0 hook) : ∀ n, CallOk P B w0 (xCall P tbl idle hook n)
  | 0, f, args, st, r, st', h => by cases h
  | n + 1, f, args, st, r, st', h => by
    intro E w hR hb
    simp only [xCall] at h
    split at h
    · rename_i r' hr'
      cases h
      exact (hh f args st r hr' E w hR hb).mono fun e w' ⟨h1, h2⟩ => ⟨E, h1, hR.step h2, Ext.refl _ _⟩
    · split at h
      · rename_i fn hfn
        split at h
        · rename_i c hbody
          split at h
          · rename_i fr hfr
            split at h
            · rename_i e fr' st1 hx
              obtain ⟨hcnd, h⟩ := cond_some h
              simp only [Bool.and_eq_true] at hcnd
              split at h
              · rename_i r1 wr hres hwr
                cases h
                have hR1 : Rep B w0 E ⟨st.bl, st.nx, []⟩ w := hR.wr
                have hwp := xCode_ok hm ht (xCall_ok hm ht hi hh n) (xCall_wr n) 4000 c fr ⟨st.bl, st.nx, []⟩ E _ w e fr' st1 hR1 (fr0_ok (E := E) (m := st.nx) hfr hb) hx
                refine calls_of_wp_defers hfn hbody (wp_mono hwp fun e' a' w' hp => ?_)
                obtain ⟨rfl, E', k1, k2, k3⟩ := hp
                have hfin : Leaves P fn a'.tmps (fun e w' => ∃ E', e = .returned (r.conc E') ∧ Rep B w0 E' ⟨st1.bl, st1.nx, wr⟩ w' ∧ Ext E st E' ⟨st1.bl, st1.nx, wr⟩) a'.defers .returning w' := by
                  rw [k3.df]
                  exact idle_leaves hi ⟨_, resX_ok ht k1 k3 hres, E', rfl, k1.wr, k2.low hwr⟩ fr'.df hcnd.2
                cases e' with
                | normal => exact hfin
                | ret => exact hfin
                | _ => cases hcnd.1
              · cases h
            · cases h
          · cases h
        · cases h
      · cases h
/-- the first state: nothing is named -/
def st0 : St := ⟨Tr.full .dead 11, 0, []⟩
theorem rep0 (w : World) : Rep w.heap.size w ⟨fun _ => 0, fun _ => 0⟩ st0 w := by
  have hd : ∀ i t k cs, st0.bl.get i ≠ some (.row t k cs) := fun i t k cs h => by
    rw [st0, Tr.get_full] at h
    split at h <;> cases h
  exact ⟨Nat.le_refl _, Below.refl _ _, fun i _ => hd i, fun i t k cs h => absurd h (hd i t k cs), fun i j t k cs t' k' cs' h => absurd h (hd i t k cs)⟩
def trueX (P : Program) (tbl : Tbl) (idle : Nat → Bool) (hook : Nat → List AV → St → Option AV) (n f : Nat) : Bool :=
  match xCall P tbl idle hook n f [] st0 with
  | some (.one (.leaf (.val (.bool true))), _) => true
  | _ => false
/-- what is reckoned true is true in every world -/
theorem trueX_ok {idle : Nat → Bool} {hook : Nat → List AV → St → Option AV} (hm : P.follows .mixedOrders = true) (hi : IdleOk P idle) {n f : Nat} (h : trueX P tbl idle hook n f = true) (w : World)
    (ht : TblOk tbl w.heap.size w) (hh : HookOk P w.heap.size w hook) : Calls P f #[] w fun e w' => e = .returned (.bool true) ∧ Below w.heap.size w w' := by
  unfold trueX at h
  split at h
  · rename_i st hx
    have := xCall_ok hm ht hi hh n f [] st0 _ _ hx _ w (rep0 w) (fun v hv => by cases hv)
    exact this.mono fun e w' ⟨E', h1, h2, _⟩ => ⟨h1, h2.below⟩
  · cases h
def noTbl : Tbl := fun _ => none
theorem noTbl_ok (B : Nat) (w0 : World) : TblOk noTbl B w0 := fun _ _ _ _ h => by cases h
def noHook : Nat → List AV → St → Option AV := fun _ _ _ => none
theorem noHook_ok (B : Nat) (w0 : World) : HookOk P B w0 noHook := fun _ _ _ _ h => by cases h
end
end Go.Proofs.YtgaiibkkompbnaaGreatDoor
