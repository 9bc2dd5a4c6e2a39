/-
  Reckoning closed code over named blocks: regions that draw their order.
-/
import Derived.Test.YtgaiibkkompbnaaGreatDoorEi
namespace Go.Proofs.YtgaiibkkompbnaaGreatDoor
open Go.RowKit

def CallWr (call : CallX) : Prop := ∀ f args st r st', call f args st = some (r, st') → ∀ b, b ∈ st.wr → b ∈ st'.wr
section
variable {P : Program} {tbl : Tbl} {B : Nat} {w0 : World} {E : Env} {st st' : St} {w : World} {fr fr' : Fr} {a : Act} {v : AV} {call : CallX} {o : Oper} {K : Act → World → Prop} {Q : Exit → Act → World → Prop}
theorem newX_wr {t k : Nat} {l : List Leaf} (hn : newX st t k l = some st') : st'.wr = st.wr := by
  unfold newX at hn
  cases hb : l.all (Leaf.below st.nx) with
  | false => rw [hb] at hn; cases hn
  | true =>
    rw [hb] at hn
    simp only [cond] at hn
    split at hn
    · cases hn; rfl
    · cases hn
theorem cond_some {α : Type} {c : Bool} {x : Option α} {y : α} (h : cond c x none = some y) : c = true ∧ x = some y := by
  cases c
  · cases h
  · exact ⟨rfl, h⟩
theorem cond_some' {α : Type} {c : Bool} {x : Option α} {y : α} (h : cond c none x = some y) : c = false ∧ x = some y := by
  cases c
  · exact ⟨rfl, h⟩
  · cases h
theorem storeX_wr {t : Nat} {u x : AV} (hs : storeX P st t u x = some st') {b : Nat} (hb : b ∈ st.wr) : b ∈ st'.wr := by
  unfold storeX at hs
  split at hs
  · split at hs
    · have h1 := (cond_some (cond_some (cond_some hs).2).2).2
      split at h1
      · split at h1
        · cases h1; exact (mem_addW _ _ _).2 (Or.inr hb)
        · cases h1
      · cases h1
    · cases hs
  · cases hs
theorem buildSliceX_wr {t len : Nat} {parts : Array (Nat × Operand)} (hv : buildSliceX P fr st t len parts = some (v, st')) : st'.wr = st.wr := by
  unfold buildSliceX at hv
  split at hv
  · split at hv
    · split at hv
      · split at hv
        · split at hv
          · rename_i k _ _ _ _ _ _ _ _ _ _ _
            have h1 := (cond_some (cond_some hv).2).2
            generalize Nat.beq _ 0 = q at h1
            cases q with
            | true =>
              simp only [cond] at h1
              split at h1
              · split at h1
                · rename_i s hs
                  cases h1
                  exact newX_wr hs
                · cases h1
              · cases h1
            | false =>
              simp only [cond] at h1
              split at h1
              · rename_i s hs
                cases h1
                exact newX_wr hs
              · cases h1
          · cases hv
        · cases hv
      · cases hv
    · cases hv
  · cases hv
theorem makeSliceX_wr {t : Nat} {x y : Operand} (hv : makeSliceX P fr st t x y = some (v, st')) : st'.wr = st.wr := by
  unfold makeSliceX at hv
  split at hv
  · split at hv
    · split at hv
      · have h1 := (cond_some (cond_some (cond_some (cond_some (cond_some hv).2).2).2).2).2
        split at h1
        · rename_i s hs
          cases h1
          exact newX_wr hs
        · cases h1
      · cases hv
    · cases hv
  · cases hv
theorem oldsX_wr {e k n : Nat} {s : AV} {l : List Leaf} {bl1 : Tr Xblk} {wr' : List Nat} (hs : oldsX st e k s = some (l, n, bl1, wr')) {b : Nat} (hb : b ∈ st.wr) : b ∈ wr' := by
  unfold oldsX at hs
  split at hs
  · cases hs; exact hb
  · split at hs
    · have h1 := (cond_some hs).2
      split at h1
      · cases h1; exact (mem_addW _ _ _).2 (Or.inr hb)
      · cases h1
    · cases hs
  · cases hs
theorem appX_wr {t : Nat} {s x : AV} (hv : appX P st t s x = some (v, st')) {b : Nat} (hb : b ∈ st.wr) : b ∈ st'.wr := by
  unfold appX at hv
  split at hv
  · split at hv
    · split at hv
      · have h1 := (cond_some hv).2
        cases h1; exact hb
      · split at hv
        · split at hv
          · rename_i ho
            split at hv
            · split at hv
              · have h1 := (cond_some hv).2
                cases h1; exact oldsX_wr ho hb
              · cases hv
            · cases hv
          · split at hv
            · split at hv
              · have h1 := (cond_some hv).2
                cases h1; exact hb
              · cases hv
            · cases hv
        · cases hv
    · cases hv
  · cases hv
theorem zapX_wr {t tn : Nat} {s x : AV} (hv : zapX P st t tn s x = some (v, st')) {b : Nat} (hb : b ∈ st.wr) : b ∈ st'.wr := by
  unfold zapX at hv
  split at hv
  · split at hv
    · split at hv
      · split at hv
        · split at hv
          · have h1 := (cond_some hv).2
            cases h1; exact hb
          · cases hv
        · cases hv
      · cases hv
    · cases hv
  · cases hv
theorem xEff_wr (hc : CallWr call) {op : Op} (hv : xEff P tbl call fr st op = some (v, st')) {b : Nat} (hb : b ∈ st.wr) : b ∈ st'.wr := by
  unfold xEff at hv
  split at hv
  · split at hv
    · split at hv
      · cases hv; exact hb
      · cases hv
    · cases hv
  · split at hv
    · split at hv
      · rename_i hs
        cases hv; exact storeX_wr hs hb
      · cases hv
    · cases hv
  · unfold allocX at hv
    split at hv
    · split at hv
      · rename_i hs
        cases hv; rw [newX_wr hs]; exact hb
      · cases hv
    · cases hv
  · split at hv
    · unfold boxX at hv
      split at hv
      · split at hv
        · rename_i hs
          cases hv; rw [newX_wr hs]; exact hb
        · cases hv
      · cases hv
    · cases hv
  · rw [buildSliceX_wr hv]; exact hb
  · rw [makeSliceX_wr hv]; exact hb
  · cases hv; exact hb
  · split at hv
    · cases hv; exact hb
    · cases hv
  · split at hv
    · unfold callX at hv
      split at hv
      · exact hc _ _ _ _ _ (cond_some hv).2 b hb
      · cases hv
    · split at hv
      · rename_i t t' _ _
        split at hv
        · generalize Nat.beq t t' = q at hv
          cases q with
          | true => exact appX_wr hv hb
          | false => exact zapX_wr hv hb
        · cases hv
      · cases hv
    · cases hv
  · cases hv
theorem xVal_wr (hc : CallWr call) (hv : xVal P tbl call fr st o = some (v, st')) {b : Nat} (hb : b ∈ st.wr) : b ∈ st'.wr := by
  unfold xVal at hv
  split at hv
  · cases hv; exact hb
  · split at hv
    · rename_i r hr
      cases hv
      exact xEff_wr hc hr hb
    · split at hv
      · cases hv; exact hb
      · cases hv
theorem xOp_wr (hc : CallWr call) (hv : xOp P tbl call fr st o = some (fr', st')) {b : Nat} (hb : b ∈ st.wr) : b ∈ st'.wr := by
  unfold xOp at hv
  split at hv
  · split at hv
    · split at hv
      · split at hv
        · cases hv; exact hb
        · cases hv
      · cases hv
    · cases hv
  · split at hv
    · rename_i hx
      split at hv
      · cases hv; exact xVal_wr hc hx hb
      · cases hv
    · cases hv
theorem xList_wr (hc : CallWr call) {ops : Array Oper} : ∀ (l : List Oper) (fr : Fr) (st : St), xList P tbl call ops l fr st = some (fr', st') → ∀ b, b ∈ st.wr → b ∈ st'.wr
  | [], fr, st, hv, b, hb => by cases hv; exact hb
  | o :: l, fr, st, hv, b, hb => by
    simp only [xList] at hv
    cases hw : Region.wanted o (yieldX ops fr) with
    | true =>
      rw [hw] at hv
      simp only [cond] at hv
      split at hv
      · rename_i hx
        exact xList_wr hc l _ _ hv b (xOp_wr hc hx hb)
      · cases hv
    | false =>
      rw [hw] at hv
      simp only [cond] at hv
      split at hv
      · exact xList_wr hc l _ _ hv b hb
      · cases hv
/-- an operation that changes nothing, and the block that it reads -/
def quietX (P : Program) (tbl : Tbl) (st0 : St) (fr : Fr) (o : Oper) : Option (AV × Option Nat) :=
  match apX P fr o.op with
  | some v => some (v, none)
  | none => match o.op with
    | .load t x => match aev fr x with
      | some (.one (.leaf (.ptr b p))) => cond (Nat.blt b st0.nx) (match loadX P tbl st0 t (.one (.leaf (.ptr b p))) with
        | some v => some (v, some b)
        | none => none) none
      | some u => match loadX P tbl st0 t u with
        | some v => some (v, none)
        | none => none
      | none => none
    | _ => match pureX P fr o with
      | some v => some (v, none)
      | none => none
def pickX (P : Program) (tbl : Tbl) (st0 : St) (fr : Fr) (ops : Array Oper) (listed : Array Bool) : List Nat → Option (Nat × Oper × AV × Option Nat)
  | [] => none
  | i :: rs => match ops[i]? with
    | some o => cond (Region.wanted o (yieldX ops fr)) (match quietX P tbl st0 fr o with
      | some (v, r) => cond (Region.free .any ops listed i) (some (i, o, v, r)) (pickX P tbl st0 fr ops listed rs)
      | none => pickX P tbl st0 fr ops listed rs) (cond (Region.free .any ops listed i) (some (i, o, undefA, none)) (pickX P tbl st0 fr ops listed rs))
    | none => pickX P tbl st0 fr ops listed rs
def addR (r : Option Nat) (l : List Nat) : List Nat := match r with
  | some b => addW b l
  | none => l
def xDraw (P : Program) (tbl : Tbl) (call : CallX) (ops : Array Oper) (st0 : St) : Nat → Array Bool → List Nat → Fr → St → Option (Fr × St × List Nat)
  | 0, listed, R, fr, st => match Region.ready .any ops listed with
    | [] => some (fr, st, R)
    | _ => none
  | n + 1, listed, R, fr, st => match Region.ready .any ops listed with
    | [] => some (fr, st, R)
    | r :: rs => match pickX P tbl st0 fr ops listed (r :: rs) with
      | some (i, o, v, b) => match fr.put st.nx o.dst v with
        | some fr' => xDraw P tbl call ops st0 n (listed.setIfInBounds i true) (addR b R) fr' st
        | none => none
      | none => match rs with
        | [] => match ops[r]? with
          | some o => cond (Region.wanted o (yieldX ops fr)) (match xOp P tbl call fr st o with
            | some (fr', st') => xDraw P tbl call ops st0 n (listed.setIfInBounds r true) R fr' st'
            | none => none) none
          | none => none
        | _ => none
theorem mem_addR {r : Option Nat} {l : List Nat} {b : Nat} (h : b ∈ l) : b ∈ addR r l := by
  cases r with
  | none => exact h
  | some c => exact (mem_addW _ _ _).2 (Or.inr h)
theorem xDraw_mono (hc : CallWr call) {ops : Array Oper} {st0 : St} {Rf : List Nat} : ∀ (n : Nat) (listed : Array Bool) (R : List Nat) (fr : Fr) (st : St), xDraw P tbl call ops st0 n listed R fr st = some (fr', st', Rf) →
    (∀ b, b ∈ st.wr → b ∈ st'.wr) ∧ ∀ b, b ∈ R → b ∈ Rf
  | 0, listed, R, fr, st, h => by
    simp only [xDraw] at h
    split at h
    · cases h; exact ⟨fun _ h => h, fun _ h => h⟩
    · cases h
  | n + 1, listed, R, fr, st, h => by
    simp only [xDraw] at h
    split at h
    · cases h; exact ⟨fun _ h => h, fun _ h => h⟩
    · split at h
      · split at h
        · obtain ⟨h1, h2⟩ := xDraw_mono hc n _ _ _ _ h
          exact ⟨h1, fun b hb => h2 b (mem_addR hb)⟩
        · cases h
      · split at h
        · split at h
          · have h1 := (cond_some h).2
            split at h1
            · rename_i hx
              obtain ⟨h2, h3⟩ := xDraw_mono hc n _ _ _ _ h1
              exact ⟨fun b hb => h2 b (xOp_wr hc hx hb), h3⟩
            · cases h1
          · cases h
        · cases h
theorem RowOk.same {E E' : Env} {m b t k : Nat} {cs : List Leaf} (h : RowOk E w b t k cs) (hE : Env.same m E E') (hb : b < m) (hcs : cs.all (Leaf.below m) = true) : RowOk E' w b t k cs := by
  obtain ⟨cur, h1, h2, h3, h4⟩ := h
  obtain ⟨e1, e2⟩ := hE b hb
  exact ⟨cur, by rw [e1]; exact h1, by rw [e2]; exact h2, by rw [e2]; exact h3, by rw [Leaf.map_same hE hcs]; exact h4⟩
theorem Env.same_symm {m : Nat} {E E' : Env} (h : Env.same m E E') : Env.same m E' E := fun b hb => ⟨(h b hb).1.symm, (h b hb).2.symm⟩
/-- what the blocks that a region reads hold throughout -/
def Held (tbl : Tbl) (E0 : Env) (st0 : St) (R : List Nat) (w : World) : Prop := TblW tbl w ∧ ∀ b, b ∈ R → ∀ t k cs, st0.bl.get b = some (.row t k cs) → RowOk E0 w b t k cs
theorem pickX_ok {st0 : St} {ops : Array Oper} {listed : Array Bool} {i : Nat} {r : Option Nat} : ∀ (l : List Nat), pickX P tbl st0 fr ops listed l = some (i, o, v, r) →
    i ∈ l ∧ ops[i]? = some o ∧ Region.free .any ops listed i = true ∧ ((Region.wanted o (yieldX ops fr) = true ∧ quietX P tbl st0 fr o = some (v, r)) ∨ (Region.wanted o (yieldX ops fr) = false ∧ v = undefA ∧ r = none))
  | [], h => by cases h
  | j :: l, h => by
    simp only [pickX] at h
    have next : ∀ h' : pickX P tbl st0 fr ops listed l = some (i, o, v, r), i ∈ j :: l ∧ ops[i]? = some o ∧ Region.free .any ops listed i = true ∧ ((Region.wanted o (yieldX ops fr) = true ∧ quietX P tbl st0 fr o = some (v, r)) ∨ (Region.wanted o (yieldX ops fr) = false ∧ v = undefA ∧ r = none)) := fun h' => by
      obtain ⟨h1, h2⟩ := pickX_ok l h'
      exact ⟨List.mem_cons_of_mem _ h1, h2⟩
    split at h
    · rename_i o' ho
      cases hw : Region.wanted o' (yieldX ops fr) with
      | true =>
        rw [hw] at h
        simp only [cond] at h
        split at h
        · rename_i v' r' hq
          split at h
          · rename_i hfree
            cases h
            exact ⟨List.mem_cons_self, ho, hfree, Or.inl ⟨hw, hq⟩⟩
          · exact next h
        · exact next h
      | false =>
        rw [hw] at h
        simp only [cond] at h
        split at h
        · rename_i hfree
          cases h
          exact ⟨List.mem_cons_self, ho, hfree, Or.inr ⟨hw, rfl, rfl⟩⟩
        · exact next h
    · exact next h
theorem quietX_ok {E0 : Env} {st0 : St} {R : List Nat} {r : Option Nat} (hf : FrOk E st.nx fr a) (hE : Env.same st0.nx E0 E) (h0 : ∀ b t k cs, st0.bl.get b = some (.row t k cs) → cs.all (Leaf.below st0.nx) = true)
    (hq : quietX P tbl st0 fr o = some (v, r)) (hr : ∀ b, r = some b → b ∈ R) : ∀ w, Held tbl E0 st0 R w → (execOp a.eval o).run P w = .ok (.value (v.conc E)) w := by
  intro w hS
  unfold quietX at hq
  split at hq
  · rename_i u hu
    cases hq
    exact (apX_ok hf hu).2 w
  · split at hq
    · rename_i t x hop
      split at hq
      · rename_i b p hx
        obtain ⟨hb, hq⟩ := cond_some hq
        split at hq
        · rename_i u hl
          cases hq
          have hl' := loadX_ok (E := E) (w := w) hl hS.1 (fun b' p' e tt k cs hb' => by
            cases e
            exact (hS.2 b (hr b rfl) tt k cs hb').same hE (blt_lt hb) (h0 _ _ _ _ hb'))
          obtain ⟨dst, op, type, pos, after, guard⟩ := o
          simp only at hop
          subst hop
          simp only [execOp, (aev_ok hf hx).1, Sem.run_bind, hl', Result.andThen_ok]
          rfl
        · cases hq
      · rename_i u hne hx
        split at hq
        · rename_i u' hl
          cases hq
          have hl' := loadX_ok (E := E) (w := w) hl hS.1 (fun b' p' e => absurd e (hne b' p'))
          obtain ⟨dst, op, type, pos, after, guard⟩ := o
          simp only at hop
          subst hop
          simp only [execOp, (aev_ok hf hx).1, Sem.run_bind, hl', Result.andThen_ok]
          rfl
        · cases hq
      · cases hq
    · split at hq
      · rename_i u hu
        cases hq
        exact (pureX_ok hf hu).2 w
      · cases hq
theorem Rep.held (ht : TblOk tbl B w0) {E0 : Env} {st0 : St} {R : List Nat} (h : Rep B w0 E st w) (hx : Ext E0 st0 E st) (h0 : ∀ b t k cs, st0.bl.get b = some (.row t k cs) → b < st0.nx ∧ cs.all (Leaf.below st0.nx) = true)
    (hR : ∀ b, b ∈ R → b ∉ st.wr) : Held tbl E0 st0 R w := ⟨ht w h.below, fun b hb t k cs hg => by
  obtain ⟨h1, h2⟩ := h0 b t k cs hg
  exact ((h.ok b t k cs ((hx.bl b h1 (hR b hb)).trans hg)).1).same (Env.same_symm hx.env) h1 h2⟩
theorem xDraw_ok (ht : TblOk tbl B w0) (hc : CallOk P B w0 call) (hcw : CallWr call) {ops : Array Oper} (hsel : Region.noSelect ops = true) {E0 : Env} {st0 : St} (h0 : ∀ b t k cs, st0.bl.get b = some (.row t k cs) → b < st0.nx ∧ cs.all (Leaf.below st0.nx) = true)
    {Rf : List Nat} (hRf : ∀ b, b ∈ Rf → b ∉ st'.wr) (hQ : ∀ c a w, ¬ Q (.panic c) a w) :
    ∀ (n : Nat) (listed : Array Bool) (R : List Nat) (fr : Fr) (st : St) (E : Env) (a : Act) (w : World), Rep B w0 E st w → FrOk E st.nx fr a → Ext E0 st0 E st → xDraw P tbl call ops st0 n listed R fr st = some (fr', st', Rf) →
      (∀ E' a' w', Rep B w0 E' st' w' → Ext E0 st0 E' st' → FrOk E' st'.nx fr' a' → Q .normal a' w') → wpAnyH P .any ops Q (Held tbl E0 st0 Rf) n listed a w
  | 0, listed, R, fr, st, E, a, w, h, hf, hx, hv, k => by
    simp only [xDraw] at hv
    split at hv
    · rename_i hr
      cases hv
      exact ⟨hr, k E a w h hx hf⟩
    · cases hv
  | n + 1, listed, R, fr, st, E, a, w, h, hf, hx, hv, k => by
    have hm := xDraw_mono hcw (n + 1) listed R fr st hv
    have hS : Held tbl E0 st0 Rf w := h.held ht hx h0 fun b hb hw => hRf b hb (hm.1 b hw)
    simp only [xDraw] at hv
    split at hv
    · rename_i hr
      cases hv
      exact wpAnyH_done hr (k E a w h hx hf) _
    · rename_i r rs hr
      split at hv
      · rename_i i o v b hp
        obtain ⟨p1, p2, p3, p4⟩ := pickX_ok _ hp
        split at hv
        · rename_i fr1 hput
          have hm' := xDraw_mono hcw n _ _ _ _ hv
          have hy : YieldsIf P ops (Held tbl E0 st0 Rf) o (v.conc E) a := by
            rcases p4 with ⟨q1, q2⟩ | ⟨q1, q2, q3⟩
            · refine Or.inl ⟨by rw [yieldX_ok hf ops]; exact q1, quietX_ok hf hx.env (fun b t k cs hb => (h0 b t k cs hb).2) q2 fun c hc => hm'.2 c ?_⟩
              rw [hc]; exact (mem_addW _ _ _).2 (Or.inl rfl)
            · refine Or.inr ⟨by rw [yieldX_ok hf ops]; exact q1, by rw [q2]; rfl⟩
          exact wpAnyH_take p2 hsel p3 (by rw [hr]; simpa using p1) (fun c a w hq => absurd hq (hQ c _ w)) hy hS (xDraw_ok ht hc hcw hsel h0 hRf hQ n _ _ fr1 st E _ w h (put_ok hf hput) hx hv k)
        · cases hv
      · split at hv
        · split at hv
          · rename_i o ho
            obtain ⟨hw, hv⟩ := cond_some hv
            split at hv
            · rename_i fr1 st1 hx1
              refine wpAnyH_all hr (by simp) fun i hi => ?_
              have : i = r := by simpa using hi
              subst this
              unfold wpOp
              simp only [ho]
              rw [yieldX_ok hf ops, if_pos hw]
              refine Or.inl (xOp_ok ht hc h hf hx1 fun E' a' w' k1 k2 k3 => ⟨?_, xDraw_ok ht hc hcw hsel h0 hRf hQ n _ _ fr1 st1 E' a' w' k1 k3 (hx.trans k2) hv k⟩)
              have hm' := xDraw_mono hcw n _ _ _ _ hv
              exact k1.held ht (hx.trans k2) h0 fun b hb hw => hRf b hb (hm'.1 b hw)
            · cases hv
          · cases hv
        · cases hv
end
end Go.Proofs.YtgaiibkkompbnaaGreatDoor
