/-
  The reckoner: regions, code, functions.
  The guards on the packages graph, models and quant hold.
-/
import Derived.Test.YtkcdgaijklhnaaaGreatDoorK10
import Derived.LoopN
import Derived.Defers
import Derived.Recover
import Derived.Test.YtkcdgaijklhnaaaGreatDoorK19
namespace Go.Proofs.YtkcdgaijklhnaaaGreatDoor
open Go.RowKit
def tailLen : List Oper → Nat
 | [] => 0
 | o :: l => match o.op with
  | .store .. => Nat.succ (tailLen l)
  | _ => 0
def xHead (P : Program) (tbl : Tbl) (call : CallX) (ops : Array Oper) (st0 : St) : Nat → Array Bool → List Nat → Fr → St → Option (List (Nat × Bool) × Fr × St × List Nat)
 | 0, _, R, fr, st => some ([], fr, st, R)
 | n + 1, listed, R, fr, st => match Region.ready .any ops listed with
  | [] => none
  | r :: rs => match pickX P tbl st0 fr ops listed (r :: rs) with
   | some (i, o, v, b) => match fr.put st.nx o.dst v with
    | some fr' => match xHead P tbl call ops st0 n (listed.setIfInBounds i true) (addR b R) fr' st with
     | some (l, fr'', st', R') => some ((i, true) :: l, fr'', st', R')
     | none => none
    | none => none
   | none => match rs with
    | [] => match ops[r]? with
     | some o => cond (Region.wanted o (yieldX ops fr)) (match xOp P tbl call fr st o with
      | some (fr', st') => match xHead P tbl call ops st0 n (listed.setIfInBounds r true) R fr' st' with
       | some (l, fr'', st'', R') => some ((r, false) :: l, fr'', st'', R')
       | none => none
      | none => none) none
     | none => none
    | _ => none
section
variable {P : Program} {tbl : Tbl} {B : Nat} {w0 : World} {E : Env} {st st' : St} {w : World} {fr fr' : Fr} {a : Act} {v : AV} {call : CallX} {Q : Exit → Act → World → Prop}
theorem xHead_mono (hc : CallWr call) {ops : Array Oper} {st0 : St} {Rf : List Nat} : ∀ (n : Nat) (listed : Array Bool) (R : List Nat) (fr : Fr) (st : St) (l : List (Nat × Bool)), xHead P tbl call ops st0 n listed R fr st = some (l, fr', st', Rf) →
  (∀ b, b ∈ st.wr → b ∈ st'.wr) ∧ ∀ b, b ∈ R → b ∈ Rf
 | 0, listed, R, fr, st, l, h => by cases h; exact ⟨fun _ h => h, fun _ h => h⟩
 | n + 1, listed, R, fr, st, l, h => by
  simp only [xHead] at h
  split at h
  ·cases h
  ·split at h
   ·split at h
    ·split at h
     ·rename_i hx
      cases h
      obtain ⟨h1, h2⟩ := xHead_mono hc n _ _ _ _ _ hx
      exact ⟨h1, fun b hb => h2 b (mem_addR hb)⟩
     ·cases h
    ·cases h
   ·split at h
    ·split at h
     ·have h1 := (cond_some h).2
      split at h1
      ·rename_i hx
       split at h1
       ·rename_i hy
        cases h1
        obtain ⟨h2, h3⟩ := xHead_mono hc n _ _ _ _ _ hy
        exact ⟨fun b hb => h2 b (xOp_wr hc hx hb), h3⟩
       ·cases h1
      ·cases h1
     ·cases h
    ·cases h
theorem xHead_ok (ht : TblOk tbl B w0) (hc : CallOk P B w0 call) (hcw : CallWr call) {ops : Array Oper} {E0 : Env} {st0 : St} (h0 : ∀ b t k cs, st0.bl.get b = some (.row t k cs) → b < st0.nx ∧ cs.all (Leaf.below st0.nx) = true)
  {Rf : List Nat} (hRf : ∀ b, b ∈ Rf → b ∉ st'.wr) (hQ : ∀ c a w, ¬ Q (.panic c) a w) {T : Act → World → Prop} :
  ∀ (n : Nat) (listed : Array Bool) (R : List Nat) (fr : Fr) (st : St) (l : List (Nat × Bool)) (E : Env) (a : Act) (w : World), Rep B w0 E st w → FrOk E st.nx fr a → Ext E0 st0 E st → xHead P tbl call ops st0 n listed R fr st = some (l, fr', st', Rf) →
   (∀ E' a' w', Rep B w0 E' st' w' → Ext E0 st0 E' st' → FrOk E' st'.nx fr' a' → T a' w') → wpSteps P ops Q (Held tbl E0 st0 Rf) T l a w
 | 0, listed, R, fr, st, l, E, a, w, h, hf, hx, hv, k => by cases hv; exact k E a w h hx hf
 | n + 1, listed, R, fr, st, l, E, a, w, h, hf, hx, hv, k => by
  simp only [xHead] at hv
  split at hv
  ·cases hv
  ·rename_i r rs hr
   split at hv
   ·rename_i i o v b hp
    obtain ⟨p1, p2, p3, p4⟩ := pickX_ok _ hp
    split at hv
    ·rename_i fr1 hput
     split at hv
     ·rename_i l1 f1 s1 R1 hy
      cases hv
      have hm' := xHead_mono hcw n _ _ _ _ _ hy
      refine ⟨o, v.conc E, p2, ?_, fun c a w hq => absurd hq (hQ c _ w), xHead_ok ht hc hcw h0 hRf hQ n _ _ fr1 st l1 E _ w h (put_ok hf hput) hx hy k⟩
      rcases p4 with ⟨q1, q2⟩ | ⟨q1, q2, q3⟩
      ·refine Or.inl ⟨by rw [yieldX_ok hf ops]; exact q1, quietX_ok hf hx.env (fun b t k cs hb => (h0 b t k cs hb).2) q2 fun c hc => hm'.2 c ?_⟩
       rw [hc]; exact (mem_addW _ _ _).2 (Or.inl rfl)
      ·refine Or.inr ⟨by rw [yieldX_ok hf ops]; exact q1, by rw [q2]; rfl⟩
     ·cases hv
    ·cases hv
   ·split at hv
    ·split at hv
     ·rename_i o ho
      obtain ⟨hw, hv⟩ := cond_some hv
      split at hv
      ·rename_i fr1 st1 hx1
       split at hv
       ·rename_i l1 f1 s1 R1 hy
        cases hv
        have hm' := xHead_mono hcw n _ _ _ _ _ hy
        show wpOp P ops Q r _ a w
        unfold wpOp
        simp only [ho]
        rw [yieldX_ok hf ops, if_pos hw]
        refine Or.inl (xOp_ok ht hc h hf hx1 fun E' a' w' k1 k2 k3 => ⟨?_, xHead_ok ht hc hcw h0 hRf hQ n _ _ fr1 st1 l1 E' a' w' k1 k3 (hx.trans k2) hy k⟩)
        exact k1.held ht (hx.trans k2) h0 fun b hb hw => hRf b hb (hm'.1 b hw)
       ·cases hv
      ·cases hv
     ·cases hv
    ·cases hv
end
end Go.Proofs.YtkcdgaijklhnaaaGreatDoor
namespace Go.Proofs.YtkcdgaijklhnaaaGreatDoor
open Go.RowKit
def mergeLow (m : Nat) : List Nat → List Nat → Option (List Nat)
 | [], y => some y
 | a :: x, y => match Nat.blt a m && !memB a y with
  | true => mergeLow m x (a :: y)
  | false => mergeLow m x y
theorem mem_mergeLow (m : Nat) : ∀ (x y z : List Nat), mergeLow m x y = some z → ∀ b, ((b ∈ x ∧ b < m) ∨ b ∈ y) → b ∈ z
 | [], y, z, h, b, hb => by
  cases h
  rcases hb with hb | hb
  ·cases hb.1
  ·exact hb
 | a :: x, y, z, h, b, hb => by
  simp only [mergeLow] at h
  split at h
  ·refine mem_mergeLow m x _ z h b ?_
   rcases hb with ⟨hb, hm⟩ | hb
   ·rcases List.mem_cons.1 hb with rfl | hb
    ·exact Or.inr List.mem_cons_self
    ·exact Or.inl ⟨hb, hm⟩
   ·exact Or.inr (List.mem_cons_of_mem _ hb)
  ·rename_i hf
   refine mem_mergeLow m x _ z h b ?_
   rcases hb with ⟨hb, hm⟩ | hb
   ·rcases List.mem_cons.1 hb with rfl | hb
    ·rw [lt_blt hm, Bool.true_and, Bool.not_eq_false'] at hf
     exact Or.inr ((memB_iff _ _).1 hf)
    ·exact Or.inl ⟨hb, hm⟩
   ·exact Or.inr hb
def disjB (R wr : List Nat) : Bool := R.all fun b => !memB b wr
theorem disjB_ok {R wr : List Nat} (h : disjB R wr = true) : ∀ b, b ∈ R → b ∉ wr := fun b hb hw => by
 have := List.all_eq_true.1 h b hb
 rw [(memB_iff b wr).2 hw] at this
 cases this
section
variable {P : Program} {tbl : Tbl} {B : Nat} {w0 : World} {E : Env} {st st' : St} {w : World} {fr fr' : Fr} {a : Act} {v : AV} {call : CallX} {e : Exit}
theorem Ext.low {E' : Env} {wr : List Nat} (h : Ext E ⟨st.bl, st.nx, []⟩ E' st') (hm : mergeLow st.nx st'.wr st.wr = some wr) : Ext E st E' ⟨st'.bl, st'.nx, wr⟩ :=
 ⟨h.nx, h.env, fun b hb => mem_mergeLow _ _ _ _ hm b (Or.inr hb), fun b hb hw => h.bl b hb fun hh => hw (mem_mergeLow _ _ _ _ hm b (Or.inl ⟨hh, hb⟩))⟩
def xFlat (P : Program) (tbl : Tbl) (call : CallX) (ops : Array Oper) (fr : Fr) (st : St) : Option (Fr × St) :=
 cond (Region.noSelect ops) (match xDraw P tbl call ops ⟨st.bl, st.nx, []⟩ ops.size (Array.replicate ops.size false) [] fr ⟨st.bl, st.nx, []⟩ with
  | some (fr', st', R) => cond (disjB R st'.wr) (match mergeLow st.nx st'.wr st.wr with
   | some wr => some (fr', ⟨st'.bl, st'.nx, wr⟩)
   | none => none) none
  | none => none) none
def okRegion (l : List Oper) (n : Nat) (st : List (Nat × Bool)) : Bool :=
 Region.noSelect l.toArray && decide (n < l.toArray.size) && decide (st.length = n) && Region.sinkB .any l.toArray n && Region.chainB .any l.toArray n && okSteps .any l.toArray n st (Array.replicate l.toArray.size false)
def xTailed (P : Program) (tbl : Tbl) (call : CallX) (l : List Oper) (n : Nat) (fr : Fr) (st : St) : Option (Fr × St) :=
 match xHead P tbl call l.toArray ⟨st.bl, st.nx, []⟩ n (Array.replicate l.toArray.size false) [] fr ⟨st.bl, st.nx, []⟩ with
 | some (ss, fr1, st1, R) => cond (disjB R st1.wr) (cond (okRegion l n ss) (match xList P tbl call l.toArray (l.drop n) fr1 st1 with
  | some (fr', st') => match mergeLow st.nx st'.wr st.wr with
   | some wr => some (fr', ⟨st'.bl, st'.nx, wr⟩)
   | none => none
  | none => none) none) none
 | none => none
def xRegion (P : Program) (tbl : Tbl) (call : CallX) (ops : Array Oper) (fr : Fr) (st : St) : Option (Fr × St) :=
 match tailLen ops.toList.reverse with
 | 0 => xFlat P tbl call ops fr st
 | k + 1 => xTailed P tbl call ops.toList (Nat.sub ops.size (k + 1)) fr st
def PostX (B : Nat) (w0 : World) (E : Env) (st : St) (e : Exit) (fr' : Fr) (st' : St) (e' : Exit) (a' : Act) (w' : World) : Prop :=
 e' = e ∧ ∃ E', Rep B w0 E' st' w' ∧ Ext E st E' st' ∧ FrOk E' st'.nx fr' a'
theorem xFlat_ok (hm : P.follows .mixedOrders = true) (ht : TblOk tbl B w0) (hc : CallOk P B w0 call) (hcw : CallWr call) (h : Rep B w0 E st w) (hf : FrOk E st.nx fr a) {id : Nat} {ops : Array Oper} (hv : xFlat P tbl call ops fr st = some (fr', st')) :
  (Code.region id ops true).wp P (PostX B w0 E st .normal fr' st') a w := by
 unfold xFlat at hv
 obtain ⟨hsel, hv⟩ := cond_some hv
 split at hv
 ·rename_i fr1 st1 R hx
  obtain ⟨hd, hv⟩ := cond_some hv
  split at hv
  ·rename_i wr hwr
   cases hv
   refine wp_region_held (S := Held tbl E ⟨st.bl, st.nx, []⟩ R) hm ?_
   refine xDraw_ok (B := B) (w0 := w0) ht hc hcw hsel (E0 := E) (st0 := ⟨st.bl, st.nx, []⟩) (fun b t k cs hb => ⟨h.lt hb, (h.ok b t k cs hb).2.2.1⟩) (disjB_ok hd) (fun c a w hq => by cases hq.1) ops.size _ [] fr ⟨st.bl, st.nx, []⟩ E a _ (h.drew.wr) hf (Ext.refl _ _) hx ?_
   intro E' a' w' k1 k2 k3
   exact ⟨rfl, E', k1.wr, k2.low hwr, k3⟩
  ·cases hv
 ·cases hv
theorem xTailed_ok (hm : P.follows .mixedOrders = true) (ht : TblOk tbl B w0) (hc : CallOk P B w0 call) (hcw : CallWr call) (h : Rep B w0 E st w) (hf : FrOk E st.nx fr a) {id n : Nat} {l : List Oper} (hv : xTailed P tbl call l n fr st = some (fr', st')) :
  (Code.region id l.toArray true).wp P (PostX B w0 E st .normal fr' st') a w := by
 unfold xTailed at hv
 split at hv
 ·rename_i ss fr1 st1 R hx
  obtain ⟨hd, hv⟩ := cond_some hv
  obtain ⟨hB, hv⟩ := cond_some hv
  split at hv
  ·rename_i fr2 st2 hl
   split at hv
   ·rename_i wr hwr
    cases hv
    have h0 : ∀ b t k cs, (⟨st.bl, st.nx, []⟩ : St).bl.get b = some (.row t k cs) → b < st.nx ∧ cs.all (Leaf.below st.nx) = true := fun b t k cs hb => ⟨h.lt hb, (h.ok b t k cs hb).2.2.1⟩
    have hr0 : Rep B w0 E ⟨st.bl, st.nx, []⟩ w.drew := h.drew.wr
    refine wp_region_steps (Held tbl E ⟨st.bl, st.nx, []⟩ R) n ss hm hB (hr0.held ht (Ext.refl _ _) h0 fun b hb hw => by cases hw) ?_
    refine xHead_ok (B := B) (w0 := w0) ht hc hcw (E0 := E) (st0 := ⟨st.bl, st.nx, []⟩) h0 (disjB_ok hd) (fun c a w hq => by cases hq.1) n _ [] fr ⟨st.bl, st.nx, []⟩ ss E a _ hr0 hf (Ext.refl _ _) hx ?_
    intro E' a' w' k1 k2 k3
    exact xList_ok ht hc _ _ fr1 st1 E' a' w' k1 k3 hl fun E'' a'' w'' q1 q2 q3 => ⟨rfl, E'', q1.wr, (k2.trans q2).low hwr, q3⟩
   ·cases hv
  ·cases hv
 ·cases hv
theorem xRegion_ok (hm : P.follows .mixedOrders = true) (ht : TblOk tbl B w0) (hc : CallOk P B w0 call) (hcw : CallWr call) (h : Rep B w0 E st w) (hf : FrOk E st.nx fr a) {id : Nat} {ops : Array Oper} (hv : xRegion P tbl call ops fr st = some (fr', st')) :
  (Code.region id ops true).wp P (PostX B w0 E st .normal fr' st') a w := by
 unfold xRegion at hv
 split at hv
 ·exact xFlat_ok hm ht hc hcw h hf hv
 ·have := xTailed_ok (id := id) hm ht hc hcw h hf hv
  rwa [Array.toArray_toList] at this
def xLoop (body : Fr → St → Option (Exit × Fr × St)) : Nat → Fr → St → Option (Exit × Fr × St)
 | 0, _, _ => none
 | n + 1, fr, st => match body fr st with
  | some (.normal, fr', st') => xLoop body n fr' st'
  | r => r
def xCode (P : Program) (tbl : Tbl) (call : CallX) : Nat → Code → Fr → St → Option (Exit × Fr × St)
 | 0, _, _, _ => none
 | n + 1, c, fr, st => match c with
  | .skip => some (.normal, fr, st)
  | .label _ => some (.normal, fr, st)
  | .region _ ops draw => match draw with
   | true => match xRegion P tbl call ops fr st with
    | some (fr', st') => some (.normal, fr', st')
    | none => none
   | false => match xList P tbl call ops ops.toList fr st with
    | some (fr', st') => some (.normal, fr', st')
    | none => none
  | .seq x y => match xCode P tbl call n x fr st with
   | some (.normal, fr', st') => xCode P tbl call n y fr' st'
   | r => r
  | .cond c x y => match litOf fr c with
   | some (.bool true) => xCode P tbl call n x fr st
   | some (.bool false) => xCode P tbl call n y fr st
   | _ => none
  | .block id b => match xCode P tbl call n b fr st with
   | some (.exit id', fr', st') => cond (Nat.beq id' id) (some (.normal, fr', st')) (some (.exit id', fr', st'))
   | r => r
  | .loop b => xLoop (xCode P tbl call n b) n fr st
  | .scope b => match xCode P tbl call n b fr st with
   | some (.goto _, _, _) => none
   | r => r
  | .exit id => some (.exit id, fr, st)
  | .goto l => some (.goto l, fr, st)
  | .ret => some (.ret, fr, st)
  | _ => none
theorem PostX.trans {E' : Env} {st1 : St} (h : Ext E st E' st1) {e' : Exit} {a' : Act} {w' : World} (hp : PostX B w0 E' st1 e fr' st' e' a' w') : PostX B w0 E st e fr' st' e' a' w' := by
 obtain ⟨h1, E'', h2, h3, h4⟩ := hp
 exact ⟨h1, E'', h2, h.trans h3, h4⟩
theorem xLoop_ok {c : Code} {body : Fr → St → Option (Exit × Fr × St)}
  (hb : ∀ fr st E a w e fr' st', Rep B w0 E st w → FrOk E st.nx fr a → body fr st = some (e, fr', st') → c.wp P (PostX B w0 E st e fr' st') a w) :
  ∀ (n : Nat) (fr : Fr) (st : St) (E : Env) (a : Act) (w : World), Rep B w0 E st w → FrOk E st.nx fr a → xLoop body n fr st = some (e, fr', st') → Code.rounds P c (PostX B w0 E st e fr' st') n a w
 | 0, fr, st, E, a, w, h, hf, hv => by cases hv
 | n + 1, fr, st, E, a, w, h, hf, hv => by
  rw [rounds_succ]
  simp only [xLoop] at hv
  split at hv
  ·rename_i fr1 st1 hx
   refine wp_mono (hb fr st E a w _ _ _ h hf hx) fun e' a' w' hp => ?_
   obtain ⟨rfl, E', h1, h2, h3⟩ := hp
   have hr := xLoop_ok hb n fr1 st1 E' a' w' h1 h3 hv
   refine rounds_mono (fun e a w hq => hq.trans h2) n a' w' hr
  ·rename_i hne
   refine wp_mono (hb fr st E a w _ _ _ h hf hv) fun e' a' w' hp => ?_
   obtain ⟨rfl, hp2⟩ := hp
   cases e' with
   | normal => exact absurd hv (hne _ _)
   | _ => exact ⟨rfl, hp2⟩
where
 rounds_mono {P : Program} {c : Code} {Q Q' : Exit → Act → World → Prop} (hq : ∀ e a w, Q e a w → Q' e a w) : ∀ (n : Nat) (a : Act) (w : World), Code.rounds P c Q n a w → Code.rounds P c Q' n a w
  | 0, a, w, h => h
  | n + 1, a, w, h => by
   rw [rounds_succ] at h ⊢
   refine wp_mono h fun e a w hh => ?_
   cases e with
   | normal => exact rounds_mono hq n a w hh
   | _ => exact hq _ _ _ hh
theorem xCode_ok (hm : P.follows .mixedOrders = true) (ht : TblOk tbl B w0) (hc : CallOk P B w0 call) (hcw : CallWr call) :
  ∀ (n : Nat) (c : Code) (fr : Fr) (st : St) (E : Env) (a : Act) (w : World) (e : Exit) (fr' : Fr) (st' : St), Rep B w0 E st w → FrOk E st.nx fr a → xCode P tbl call n c fr st = some (e, fr', st') → c.wp P (PostX B w0 E st e fr' st') a w
 | 0, c, fr, st, E, a, w, e, fr', st', h, hf, hv => by cases hv
 | n + 1, c, fr, st, E, a, w, e, fr', st', h, hf, hv => by
  simp only [xCode] at hv
  split at hv
  ·cases hv; exact wp_skip ⟨rfl, E, h, Ext.refl _ _, hf⟩
  ·cases hv; exact wp_label ⟨rfl, E, h, Ext.refl _ _, hf⟩
  ·split at hv
   ·split at hv
    ·rename_i hx
     cases hv
     exact xRegion_ok hm ht hc hcw h hf hx
    ·cases hv
   ·split at hv
    ·rename_i hx
     cases hv
     exact wp_region_list (xList_ok ht hc _ _ fr st E a w h hf hx fun E' a' w' k1 k2 k3 => ⟨rfl, E', k1, k2, k3⟩)
    ·cases hv
  ·rename_i x y
   refine wp_seq ?_
   split at hv
   ·rename_i fr1 st1 hx
    refine wp_mono (xCode_ok hm ht hc hcw n x fr st E a w _ _ _ h hf hx) fun e' a' w' hp => ?_
    obtain ⟨rfl, E', h1, h2, h3⟩ := hp
    exact wp_mono (xCode_ok hm ht hc hcw n y fr1 st1 E' a' w' _ _ _ h1 h3 hv) fun e a w hq => hq.trans h2
   ·rename_i hne
    refine wp_mono (xCode_ok hm ht hc hcw n x fr st E a w _ _ _ h hf hv) fun e' a' w' hp => ?_
    obtain ⟨rfl, hp2⟩ := hp
    cases e' with
    | normal => exact absurd hv (hne _ _)
    | _ => exact ⟨rfl, hp2⟩
  ·rename_i c x y
   split at hv
   ·rename_i hl
    exact wp_cond_true (litOf_eval hf hl) (xCode_ok hm ht hc hcw n x fr st E a w _ _ _ h hf hv)
   ·rename_i hl
    exact wp_cond_false (litOf_eval hf hl) (xCode_ok hm ht hc hcw n y fr st E a w _ _ _ h hf hv)
   ·cases hv
  ·rename_i id b
   refine wp_block ?_
   split at hv
   ·rename_i id' fr1 st1 hx
    refine wp_mono (xCode_ok hm ht hc hcw n b fr st E a w _ _ _ h hf hx) fun e' a' w' hp => ?_
    obtain ⟨rfl, hp2⟩ := hp
    cases hq : Nat.beq id' id with
    | true =>
     rw [hq] at hv
     cases hv
     have := Nat.eq_of_beq_eq_true hq
     simp only [Exit.inBlock, this, if_true]
     exact ⟨rfl, hp2⟩
    | false =>
     rw [hq] at hv
     cases hv
     have := Nat.ne_of_beq_eq_false hq
     simp only [Exit.inBlock, this, if_false]
     exact ⟨rfl, hp2⟩
   ·rename_i hne
    refine wp_mono (xCode_ok hm ht hc hcw n b fr st E a w _ _ _ h hf hv) fun e' a' w' hp => ?_
    obtain ⟨rfl, hp2⟩ := hp
    cases e' with
    | exit id' => exact absurd hv (hne _ _ _)
    | _ => exact ⟨rfl, hp2⟩
  ·rename_i b
   exact wp_loop_rounds n (xLoop_ok (fun fr st E a w e fr' st' h hf hv => xCode_ok hm ht hc hcw n b fr st E a w e fr' st' h hf hv) n fr st E a w h hf hv)
  ·rename_i b
   refine wp_scope_straight ?_
   split at hv
   ·cases hv
   ·rename_i hne
    refine wp_mono (xCode_ok hm ht hc hcw n b fr st E a w _ _ _ h hf hv) fun e' a' w' hp => ?_
    obtain ⟨rfl, hp2⟩ := hp
    cases e' with
    | goto l => exact absurd hv (hne _ _ _)
    | _ => exact ⟨rfl, hp2⟩
  ·cases hv; exact wp_exit ⟨rfl, E, h, Ext.refl _ _, hf⟩
  ·cases hv; exact wp_goto ⟨rfl, E, h, Ext.refl _ _, hf⟩
  ·cases hv; exact wp_ret ⟨rfl, E, h, Ext.refl _ _, hf⟩
  ·cases hv
end
end Go.Proofs.YtkcdgaijklhnaaaGreatDoor
namespace Go.Proofs.YtkcdgaijklhnaaaGreatDoor
open Go.RowKit
def setArgs : List AV → Nat → Tr AV → Option (Tr AV)
 | [], _, t => some t
 | v :: l, i, t => match t.set i v with
  | some t' => setArgs l (Nat.succ i) t'
  | none => none
theorem setArgs_get : ∀ (l : List AV) (i : Nat) (t t' : Tr AV), setArgs l i t = some t' → ∀ j, t'.get j = if i ≤ j ∧ j < i + l.length then l[j - i]? else t.get j
 | [], i, t, t', h, j => by cases h; rw [if_neg (by simp only [List.length_nil]; omega)]
 | v :: l, i, t, t', h, j => by
  simp only [setArgs] at h
  split at h
  ·rename_i t1 h1
   rw [setArgs_get l _ t1 t' h j, Tr.get_set _ _ _ _ h1]
   by_cases hj : j = i
   ·subst hj
    rw [if_neg (by omega), if_pos rfl, if_pos (by simp)]
    simp
   ·by_cases hk : i + 1 ≤ j ∧ j < i + 1 + l.length
    ·rw [if_pos hk, if_pos (by simp; omega), show j - i = (j - (i + 1)) + 1 by omega]
     rfl
    ·rw [if_neg hk, if_neg hj, if_neg (by simp; omega)]
  ·cases h
theorem Tr.get_full {α : Type} (x : α) : ∀ (d i : Nat), (Tr.full x d).get i = if i + 1 < 2 ^ d then some x else none
 | 0, i => by simp [Tr.full, Tr.get]
 | d + 1, i => by
  rw [Tr.full, Tr.get, Tr.get_full x d, Tr.get_full x d]
  have h2 : 2 ^ (d + 1) = 2 * 2 ^ d := by rw [Nat.pow_succ, Nat.mul_comm]
  have h1 : 1 ≤ 2 ^ d := Nat.one_le_two_pow
  cases hi : Nat.beq i 0 with
  | true =>
   have := Nat.eq_of_beq_eq_true hi
   subst this
   simp only [cond]
   rw [if_pos (by omega)]
  | false =>
   have hi0 : i ≠ 0 := Nat.ne_of_beq_eq_false hi
   simp only [cond]
   cases hm : Nat.beq (Nat.mod i 2) 1 with
   | true =>
    have : i % 2 = 1 := Nat.eq_of_beq_eq_true hm
    simp only
    have e : Nat.div i 2 = i / 2 := rfl
    rw [e]
    by_cases hh : i / 2 + 1 < 2 ^ d
    ·rw [if_pos hh, if_pos (by omega)]
    ·rw [if_neg hh, if_neg (by omega)]
   | false =>
    have : i % 2 ≠ 1 := Nat.ne_of_beq_eq_false hm
    simp only
    have e : Nat.sub (Nat.div i 2) 1 = i / 2 - 1 := rfl
    rw [e]
    by_cases hh : i / 2 - 1 + 1 < 2 ^ d
    ·rw [if_pos hh, if_pos (by omega)]
    ·rw [if_neg hh, if_neg (by omega)]
def fr0 (args : List AV) (nt : Nat) : Option Fr :=
 cond (Nat.ble args.length nt && Nat.blt nt 511) (match setArgs args 0 (Tr.full undefA 9) with
  | some t => some ⟨t, nt, []⟩
  | none => none) none
section
variable {P : Program} {tbl : Tbl} {B : Nat} {w0 : World} {E : Env} {st st' : St} {w : World} {fr fr' : Fr} {a : Act} {v : AV} {call : CallX} {e : Exit}
theorem fr0_ok {args : List AV} {nt m : Nat} (h : fr0 args nt = some fr) (hb : ∀ v ∈ args, v.below m = true) :
  FrOk E m fr { tmps := (args.map (AV.conc E)).toArray ++ Array.replicate (nt - (args.map (AV.conc E)).toArray.size) undef, defers := [] } := by
 unfold fr0 at h
 obtain ⟨hc, h⟩ := cond_some h
 simp only [Bool.and_eq_true] at hc
 have h1 : args.length ≤ nt := Nat.le_of_ble_eq_true hc.1
 have h2 : nt < 511 := blt_lt hc.2
 split at h
 ·rename_i t ht
  cases h
  have hg := setArgs_get args 0 _ t ht
  refine ⟨by simp; omega, fun i hi => ?_, rfl, fun d hd => by cases hd⟩
  simp only at hi ⊢
  rw [hg i]
  by_cases hlt : i < args.length
  ·rw [if_pos ⟨Nat.zero_le _, by omega⟩, Nat.sub_zero]
   obtain ⟨v, hv⟩ : ∃ v, args[i]? = some v := ⟨_, List.getElem?_eq_getElem hlt⟩
   refine ⟨v, hv, hb v (List.mem_of_getElem? hv), ?_⟩
   rw [Array.getElem?_append_left (by simpa using hlt)]
   simp [hv]
  ·rw [if_neg (by omega), Tr.get_full, if_pos (by have : (2 : Nat) ^ 9 = 512 := rfl; omega)]
   refine ⟨undefA, rfl, rfl, ?_⟩
   rw [Array.getElem?_append_right (by simp; omega), Array.getElem?_replicate, if_pos (by simp; omega)]
   rfl
 ·cases h
def isEnd : Exit → Bool
 | .normal => true
 | .ret => true
 | _ => false
def resOne (P : Program) (tbl : Tbl) (fr : Fr) (st : St) : ResultVar → Option AV
 | .tmp t => aev fr (.tmp t)
 | .cell p ty => match aev fr (.tmp p) with
  | some v => loadX P tbl st ty v
  | none => none
def resX (P : Program) (tbl : Tbl) (fr : Fr) (st : St) : List ResultVar → Option AV
 | [] => some (.tup [])
 | [r] => resOne P tbl fr st r
 | [r, s] => match resOne P tbl fr st r, resOne P tbl fr st s with
  | some (.one x), some (.one y) => some (.tup [x, y])
  | _, _ => none
 | [r, s, t] => match resOne P tbl fr st r, resOne P tbl fr st s, resOne P tbl fr st t with
  | some (.one x), some (.one y), some (.one z) => some (.tup [x, y, z])
  | _, _, _ => none
 | _ => none
def resF (tmps : Array Value) : ResultVar → Sem Value
 | .tmp t => pure (tmps.getD t undef)
 | .cell p ty => do loadVar ty (← asAddr (tmps.getD p undef))
theorem results_eq (fn : Func) (tmps : Array Value) : results fn tmps = (do
  let vs ← fn.results.mapM (resF tmps)
  pure (if h : vs.size = 1 then vs[0] else .tuple vs)) := rfl
theorem resOne_ok (ht : TblOk tbl B w0) (h : Rep B w0 E st w) (hf : FrOk E st.nx fr a) {r : ResultVar} (hr : resOne P tbl fr st r = some v) : (resF a.tmps r).run P w = .ok (v.conc E) w := by
 cases r with
 | tmp t =>
  simp only [resOne] at hr
  have := (aev_ok hf hr).1
  simp only [Act.eval] at this
  simp only [resF, this]
  rfl
 | cell p ty =>
  simp only [resOne] at hr
  split at hr
  ·rename_i u hu
   have h1 := (aev_ok hf hu).1
   simp only [Act.eval] at h1
   have h2 := loadX_ok (E := E) (w := w) hr (ht w h.below) (fun b o _ tt k cs hb => (h.ok b _ _ _ hb).1)
   unfold loadX at hr
   split at hr
   ·rename_i b o
    simp only [resF, h1]
    simpa [Instr.loadAt, Instr.sureAddr, asAddr, AV.conc, One.conc, Leaf.conc] using h2
   ·rename_i g o
    simp only [resF, h1]
    simpa [Instr.loadAt, Instr.sureAddr, asAddr, AV.conc, One.conc, Leaf.conc] using h2
   ·cases hr
  ·cases hr
theorem resX_ok (ht : TblOk tbl B w0) (h : Rep B w0 E st w) (hf : FrOk E st.nx fr a) {fn : Func} (hr : resX P tbl fr st fn.results.toList = some v) : (results fn a.tmps).run P w = .ok (v.conc E) w := by
 have hl : fn.results = fn.results.toList.toArray := by simp
 rw [results_eq, hl]
 unfold resX at hr
 split at hr
 ·rename_i hq
  cases hr
  rw [hq]
  simp [AV.conc]
 ·rename_i r hq
  rw [hq]
  simp [resOne_ok ht h hf hr]
 ·rename_i r s hq
  rw [hq]
  split at hr
  ·rename_i x y h1 h2
   cases hr
   simp [resOne_ok ht h hf h1, resOne_ok ht h hf h2, AV.conc]
  ·cases hr
 ·rename_i r s t hq
  rw [hq]
  split at hr
  ·rename_i x y z h1 h2 h3
   cases hr
   simp [resOne_ok ht h hf h1, resOne_ok ht h hf h2, resOne_ok ht h hf h3, AV.conc]
  ·cases hr
 ·cases hr
def IdleOk (P : Program) (idle : Nat → Bool) : Prop := ∀ g, idle g = true → ∀ (p : Addr) (w : World), CallsD P g #[.pointer (some p)] .returning w fun e u' w' => e = .returned (.tuple #[]) ∧ u' = .returning ∧ w' = w
def idleOne (P : Program) (idle : Nat → Bool) (d : Nat × List Leaf) : Bool :=
 match d.2 with
 | [.ptr _ _] => idle d.1 && entersX P d.1
 | _ => false
theorem idle_leaves {idle : Nat → Bool} (hi : IdleOk P idle) {fn : Func} {tmps : Array Value} {R : Ending → World → Prop} (hR : ∃ u, (results fn tmps).run P w = .ok u w ∧ R (.returned u) w) :
  ∀ df : List (Nat × List Leaf), df.all (idleOne P idle) = true → Leaves P fn tmps R (df.map (dfc E)) .returning w
 | [], _ => hR
 | d :: df, h => by
  simp only [List.all_cons, Bool.and_eq_true] at h
  obtain ⟨h1, h2⟩ := h
  have ih := idle_leaves hi hR df h2
  obtain ⟨g, caps⟩ := d
  unfold idleOne at h1
  simp only at h1
  split at h1
  ·rename_i b o
   simp only [Bool.and_eq_true] at h1
   rw [List.map_cons]
   refine leaves_cons (by simp) (f := g) (args := #[.pointer (some ⟨E.φ b, o, none⟩)]) ?_ ((hi g h1.1 ⟨E.φ b, o, none⟩ w).mono ?_)
   ·simp only [invoke]
    rw [entersX_ok h1.2]
    simp [Leaf.conc]
   ·rintro e u' w' ⟨rfl, rfl, rfl⟩
    exact ih
  ·cases h1
def HookOk (P : Program) (B : Nat) (w0 : World) (hook : Nat → List AV → St → Option AV) : Prop := ∀ f args st r, hook f args st = some r → ∀ (E : Env) (w : World), Rep B w0 E st w → (∀ v ∈ args, v.below st.nx = true) →
 Calls P f (args.map (AV.conc E)).toArray w fun e w' => e = .returned (r.conc E) ∧ Below w.heap.size w w'
theorem Rep.step {w' : World} (h : Rep B w0 E st w) (hb : Below w.heap.size w w') : Rep B w0 E st w' :=
 ⟨h.base, h.below.trans (hb.mono (Nat.le_trans h.base h.below.size)), h.top, fun i t k cs hi => by
  obtain ⟨⟨cur, g1, g2, g3, g4⟩, h2⟩ := h.ok i t k cs hi
  exact ⟨⟨cur, (hb.block _ (h.mem hi)).trans g1, g2, g3, g4⟩, h2⟩, h.inj, h.maps.move (fun _ _ _ e => e) (Env.same_refl _ _) (Nat.le_refl _) fun i es ck _ e => hb.block _ (heap_lt e)⟩
def xCall (P : Program) (tbl : Tbl) (idle : Nat → Bool) (hook : Nat → List AV → St → Option AV) : Nat → CallX
 | 0 => fun _ _ _ => none
 | n + 1 => fun f args st => match hook f args st with
  | some r => some (r, st)
  | none => match P.funcs[f]? with
   | some fn => match fn.body with
    | some c => match fr0 args fn.ntmps with
     | some fr => match xCode P tbl (xCall P tbl idle hook n) 4000 c fr ⟨st.bl, st.nx, []⟩ with
      | some (e, fr', st') => cond (isEnd e && fr'.df.all (idleOne P idle)) (match resX P tbl fr' st' fn.results.toList, mergeLow st.nx st'.wr st.wr with
       | some r, some wr => some (r, ⟨st'.bl, st'.nx, wr⟩)
       | _, _ => none) none
      | none => none
     | none => none
    | none => none
   | none => none
theorem xCall_wr {idle : Nat → Bool} {hook : Nat → List AV → St → Option AV} : ∀ n, CallWr (xCall P tbl idle hook n)
 | 0, f, args, st, r, st', h => by cases h
 | n + 1, f, args, st, r, st', h => by
  simp only [xCall] at h
  intro b hb
  split at h
  ·cases h; exact hb
  ·split at h
   ·split at h
    ·split at h
     ·split at h
      ·have h := (cond_some h).2
       split at h
       ·rename_i hwr
        cases h
        exact mem_mergeLow _ _ _ _ hwr b (Or.inr hb)
       ·cases h
      ·cases h
     ·cases h
    ·cases h
   ·cases h
theorem xCall_ok {idle : Nat → Bool} {hook : Nat → List AV → St → Option AV} (hm : P.follows .mixedOrders = true) (ht : TblOk tbl B w0) (hi : IdleOk P idle) (hh : HookOk P B w0 hook) : ∀ n, CallOk P B w0 (xCall P tbl idle hook n)
 | 0, f, args, st, r, st', h => by cases h
 | n + 1, f, args, st, r, st', h => by
  intro E w hR hb
  simp only [xCall] at h
  split at h
  ·rename_i r' hr'
   cases h
   exact (hh f args st r hr' E w hR hb).mono fun e w' ⟨h1, h2⟩ => ⟨E, h1, hR.step h2, Ext.refl _ _⟩
  ·split at h
   ·rename_i fn hfn
    split at h
    ·rename_i c hbody
     split at h
     ·rename_i fr hfr
      split at h
      ·rename_i e fr' st1 hx
       obtain ⟨hcnd, h⟩ := cond_some h
       simp only [Bool.and_eq_true] at hcnd
       split at h
       ·rename_i r1 wr hres hwr
        cases h
        have hR1 : Rep B w0 E ⟨st.bl, st.nx, []⟩ w := hR.wr
        have hwp := xCode_ok hm ht (xCall_ok hm ht hi hh n) (xCall_wr n) 4000 c fr ⟨st.bl, st.nx, []⟩ E _ w e fr' st1 hR1 (fr0_ok (E := E) (m := st.nx) hfr hb) hx
        refine calls_of_wp_defers hfn hbody (wp_mono hwp fun e' a' w' hp => ?_)
        obtain ⟨rfl, E', k1, k2, k3⟩ := hp
        have hfin : Leaves P fn a'.tmps (fun e w' => ∃ E', e = .returned (r.conc E') ∧ Rep B w0 E' ⟨st1.bl, st1.nx, wr⟩ w' ∧ Ext E st E' ⟨st1.bl, st1.nx, wr⟩) a'.defers .returning w' := by
         rw [k3.df]
         exact idle_leaves hi ⟨_, resX_ok ht k1 k3 hres, E', rfl, k1.wr, k2.low hwr⟩ fr'.df hcnd.2
        cases e' with
        | normal => exact hfin
        | ret => exact hfin
        | _ => cases hcnd.1
       ·cases h
      ·cases h
     ·cases h
    ·cases h
   ·cases h
def st0 : St := ⟨Tr.full .dead 11, 0, []⟩
theorem rep0 (w : World) : Rep w.heap.size w ⟨fun _ => 0, fun _ => 0⟩ st0 w := by
 have hd : ∀ i t k cs, st0.bl.get i ≠ some (.row t k cs) := fun i t k cs h => by
  rw [st0, Tr.get_full] at h
  split at h <;> cases h
 have hm : ∀ i es ck, st0.bl.get i ≠ some (.mpb es ck) := fun i es ck h => by
  rw [st0, Tr.get_full] at h
  split at h <;> cases h
 exact ⟨Nat.le_refl _, Below.refl _ _, fun i _ => hd i, fun i t k cs h => absurd h (hd i t k cs), fun i j t k cs t' k' cs' h => absurd h (hd i t k cs), ⟨fun i es ck h => absurd h (hm i es ck), fun i j es ck es' ck' h => absurd h (hm i es ck)⟩⟩
def trueX (P : Program) (tbl : Tbl) (idle : Nat → Bool) (hook : Nat → List AV → St → Option AV) (n f : Nat) : Bool :=
 match xCall P tbl idle hook n f [] st0 with
 | some (.one (.leaf (.val (.bool true))), _) => true
 | _ => false
theorem trueX_ok {idle : Nat → Bool} {hook : Nat → List AV → St → Option AV} (hm : P.follows .mixedOrders = true) (hi : IdleOk P idle) {n f : Nat} (h : trueX P tbl idle hook n f = true) (w : World)
  (ht : TblOk tbl w.heap.size w) (hh : HookOk P w.heap.size w hook) : Calls P f #[] w fun e w' => e = .returned (.bool true) ∧ Below w.heap.size w w' := by
 unfold trueX at h
 split at h
 ·rename_i st hx
  have := xCall_ok hm ht hi hh n f [] st0 _ _ hx _ w (rep0 w) (fun v hv => by cases hv)
  exact this.mono fun e w' ⟨E', h1, h2, _⟩ => ⟨h1, h2.below⟩
 ·cases h
def noTbl : Tbl := fun _ => none
theorem noTbl_ok (B : Nat) (w0 : World) : TblOk noTbl B w0 := fun _ _ _ _ h => by cases h
def noHook : Nat → List AV → St → Option AV := fun _ _ _ => none
theorem noHook_ok (B : Nat) (w0 : World) : HookOk P B w0 noHook := fun _ _ _ _ h => by cases h
end
end Go.Proofs.YtkcdgaijklhnaaaGreatDoor
namespace Go.Proofs.YtkcdgaijklhnaaaGreatDoor
open Go.RowKit
set_option maxRecDepth 100000 in
theorem catch_idle (p : Addr) (w : World) :
  CallsD Tryz.prog 339 #[.pointer (some p)] .returning w fun e u' w' => e = .returned (.tuple #[]) ∧ u' = .returning ∧ w' = w := by
 refine callsD_of_wpS Tryz.func339 rfl fun c₀ cs hu => ?_
 apply wpS_seq
 apply wpS_region
 simp [wpOpsS, go_sem, recoverD, hu, Tryz.ntmps339, Exit.thenS]
 refine wpS_of_wp ?_
 go_wp2
 cases c₀
 simp_all [bodyPostS, results, Tryz.results339]
def idleG (g : Nat) : Bool := Nat.beq g 339
theorem idleG_ok : IdleOk Tryz.prog idleG := fun g h p w => by
 have := Nat.eq_of_beq_eq_true h
 subst this
 exact catch_idle p w
theorem graphs_true : trueX Tryz.prog noTbl idleG noHook 50 56 = true := by kernel_rfl
theorem graphs_any (w : World) : Calls Tryz.prog 56 #[] w fun e w' => e = .returned (.bool true) ∧ Below w.heap.size w w' :=
 trueX_ok (by kernel_rfl) idleG_ok graphs_true w (noTbl_ok _ _) (noHook_ok _ _)
end Go.Proofs.YtkcdgaijklhnaaaGreatDoor
namespace Go.Proofs.YtkcdgaijklhnaaaGreatDoor
open Go.RowKit
def yesA : AV := .one (.leaf (.val (.bool true)))
def hookW (f : Nat) (args : List AV) (_ : St) : Option AV :=
 match args with
 | [] => cond (Nat.beq f 55 || Nat.beq f 56) (some yesA) none
 | _ => none
theorem hookW_ok (w0 : World) (ht : Tabs w0) : HookOk Tryz.prog w0.heap.size w0 hookW := fun f args st r h E w hr _ => by
 unfold hookW at h
 split at h
 ·obtain ⟨h1, h2⟩ := cond_true h
  cases h2
  simp only [Bool.or_eq_true] at h1
  have hb := hr.below
  rcases h1 with h1 | h1
  ·have := Nat.eq_of_beq_eq_true h1
   subst this
   exact nums_any w (ht.below ht.1 hb)
  ·have := Nat.eq_of_beq_eq_true h1
   subst this
   exact graphs_any w
 ·cases h
theorem works_true : trueX Tryz.prog noTbl idleG hookW 50 15 = true := by kernel_rfl
theorem works_any (w : World) (ht : Tabs w) : Calls Tryz.prog 15 #[] w fun e w' => e = .returned (.bool true) ∧ Below w.heap.size w w' :=
 trueX_ok (by kernel_rfl) idleG_ok works_true w (noTbl_ok _ _) (hookW_ok w ht)
end Go.Proofs.YtkcdgaijklhnaaaGreatDoor
namespace Go.Proofs.YtkcdgaijklhnaaaGreatDoor
open Go.RowKit
end Go.Proofs.YtkcdgaijklhnaaaGreatDoor
