/-
  Reckoning closed code over named blocks: code, calls, and what a reckoned call says of every world.
-/
import Derived.Test.YtgaiibkkompbnaaGreatDoorEm
import Derived.LoopN
import Derived.Defers
namespace Go.Proofs.YtgaiibkkompbnaaGreatDoor
open Go.RowKit

/-- the names below m of one list put to another -/
def mergeLow (m : Nat) : List Nat → List Nat → Option (List Nat)
  | [], y => some y
  | a :: x, y => match Nat.blt a m && !memB a y with
    | true => mergeLow m x (a :: y)
    | false => mergeLow m x y
theorem mem_mergeLow (m : Nat) : ∀ (x y z : List Nat), mergeLow m x y = some z → ∀ b, ((b ∈ x ∧ b < m) ∨ b ∈ y) → b ∈ z
  | [], y, z, h, b, hb => by
    cases h
    rcases hb with hb | hb
    · cases hb.1
    · exact hb
  | a :: x, y, z, h, b, hb => by
    simp only [mergeLow] at h
    split at h
    · refine mem_mergeLow m x _ z h b ?_
      rcases hb with ⟨hb, hm⟩ | hb
      · rcases List.mem_cons.1 hb with rfl | hb
        · exact Or.inr List.mem_cons_self
        · exact Or.inl ⟨hb, hm⟩
      · exact Or.inr (List.mem_cons_of_mem _ hb)
    · rename_i hf
      refine mem_mergeLow m x _ z h b ?_
      rcases hb with ⟨hb, hm⟩ | hb
      · rcases List.mem_cons.1 hb with rfl | hb
        · rw [lt_blt hm, Bool.true_and, Bool.not_eq_false'] at hf
          exact Or.inr ((memB_iff _ _).1 hf)
        · exact Or.inl ⟨hb, hm⟩
      · exact Or.inr hb
def disjB (R wr : List Nat) : Bool := R.all fun b => !memB b wr
theorem disjB_ok {R wr : List Nat} (h : disjB R wr = true) : ∀ b, b ∈ R → b ∉ wr := fun b hb hw => by
  have := List.all_eq_true.1 h b hb
  rw [(memB_iff b wr).2 hw] at this
  cases this
section
variable {P : Program} {tbl : Tbl} {B : Nat} {w0 : World} {E : Env} {st st' : St} {w : World} {fr fr' : Fr} {a : Act} {v : AV} {call : CallX} {e : Exit}
theorem Ext.low {E' : Env} {wr : List Nat} (h : Ext E ⟨st.bl, st.nx, []⟩ E' st') (hm : mergeLow st.nx st'.wr st.wr = some wr) : Ext E st E' ⟨st'.bl, st'.nx, wr⟩ :=
  ⟨h.nx, h.env, fun b hb => mem_mergeLow _ _ _ _ hm b (Or.inr hb), fun b hb hw => h.bl b hb fun hh => hw (mem_mergeLow _ _ _ _ hm b (Or.inl ⟨hh, hb⟩))⟩
def xFlat (P : Program) (tbl : Tbl) (call : CallX) (ops : Array Oper) (fr : Fr) (st : St) : Option (Fr × St) :=
  cond (Region.noSelect ops) (match xDraw P tbl call ops ⟨st.bl, st.nx, []⟩ ops.size (Array.replicate ops.size false) [] fr ⟨st.bl, st.nx, []⟩ with
    | some (fr', st', R) => cond (disjB R st'.wr) (match mergeLow st.nx st'.wr st.wr with
      | some wr => some (fr', ⟨st'.bl, st'.nx, wr⟩)
      | none => none) none
    | none => none) none
def okRegion (l : List Oper) (n : Nat) (st : List (Nat × Bool)) : Bool :=
  Region.noSelect l.toArray && decide (n < l.toArray.size) && decide (st.length = n) && Region.sinkB .any l.toArray n && Region.chainB .any l.toArray n && okSteps .any l.toArray n st (Array.replicate l.toArray.size false)
/-- the stores at the end apart -/
def xTailed (P : Program) (tbl : Tbl) (call : CallX) (l : List Oper) (n : Nat) (fr : Fr) (st : St) : Option (Fr × St) :=
  match xHead P tbl call l.toArray ⟨st.bl, st.nx, []⟩ n (Array.replicate l.toArray.size false) [] fr ⟨st.bl, st.nx, []⟩ with
  | some (ss, fr1, st1, R) => cond (disjB R st1.wr) (cond (okRegion l n ss) (match xList P tbl call l.toArray (l.drop n) fr1 st1 with
    | some (fr', st') => match mergeLow st.nx st'.wr st.wr with
      | some wr => some (fr', ⟨st'.bl, st'.nx, wr⟩)
      | none => none
    | none => none) none) none
  | none => none
def xRegion (P : Program) (tbl : Tbl) (call : CallX) (ops : Array Oper) (fr : Fr) (st : St) : Option (Fr × St) :=
  match tailLen ops.toList.reverse with
  | 0 => xFlat P tbl call ops fr st
  | k + 1 => xTailed P tbl call ops.toList (Nat.sub ops.size (k + 1)) fr st
def PostX (B : Nat) (w0 : World) (E : Env) (st : St) (e : Exit) (fr' : Fr) (st' : St) (e' : Exit) (a' : Act) (w' : World) : Prop :=
  e' = e ∧ ∃ E', Rep B w0 E' st' w' ∧ Ext E st E' st' ∧ FrOk E' st'.nx fr' a'
theorem xFlat_ok (hm : P.follows .mixedOrders = true) (ht : TblOk tbl B w0) (hc : CallOk P B w0 call) (hcw : CallWr call) (h : Rep B w0 E st w) (hf : FrOk E st.nx fr a) {id : Nat} {ops : Array Oper} (hv : xFlat P tbl call ops fr st = some (fr', st')) :
    (Code.region id ops true).wp P (PostX B w0 E st .normal fr' st') a w := by
  unfold xFlat at hv
  obtain ⟨hsel, hv⟩ := cond_some hv
  split at hv
  · rename_i fr1 st1 R hx
    obtain ⟨hd, hv⟩ := cond_some hv
    split at hv
    · rename_i wr hwr
      cases hv
      refine wp_region_held (S := Held tbl E ⟨st.bl, st.nx, []⟩ R) hm ?_
      refine xDraw_ok (B := B) (w0 := w0) ht hc hcw hsel (E0 := E) (st0 := ⟨st.bl, st.nx, []⟩) (fun b t k cs hb => ⟨h.lt hb, (h.ok b t k cs hb).2.2.1⟩) (disjB_ok hd) (fun c a w hq => by cases hq.1) ops.size _ [] fr ⟨st.bl, st.nx, []⟩ E a _ (h.drew.wr) hf (Ext.refl _ _) hx ?_
      intro E' a' w' k1 k2 k3
      exact ⟨rfl, E', k1.wr, k2.low hwr, k3⟩
    · cases hv
  · cases hv
theorem xTailed_ok (hm : P.follows .mixedOrders = true) (ht : TblOk tbl B w0) (hc : CallOk P B w0 call) (hcw : CallWr call) (h : Rep B w0 E st w) (hf : FrOk E st.nx fr a) {id n : Nat} {l : List Oper} (hv : xTailed P tbl call l n fr st = some (fr', st')) :
    (Code.region id l.toArray true).wp P (PostX B w0 E st .normal fr' st') a w := by
  unfold xTailed at hv
  split at hv
  · rename_i ss fr1 st1 R hx
    obtain ⟨hd, hv⟩ := cond_some hv
    obtain ⟨hB, hv⟩ := cond_some hv
    split at hv
    · rename_i fr2 st2 hl
      split at hv
      · rename_i wr hwr
        cases hv
        have h0 : ∀ b t k cs, (⟨st.bl, st.nx, []⟩ : St).bl.get b = some (.row t k cs) → b < st.nx ∧ cs.all (Leaf.below st.nx) = true := fun b t k cs hb => ⟨h.lt hb, (h.ok b t k cs hb).2.2.1⟩
        have hr0 : Rep B w0 E ⟨st.bl, st.nx, []⟩ w.drew := h.drew.wr
        refine wp_region_steps (Held tbl E ⟨st.bl, st.nx, []⟩ R) n ss hm hB (hr0.held ht (Ext.refl _ _) h0 fun b hb hw => by cases hw) ?_
        refine xHead_ok (B := B) (w0 := w0) ht hc hcw (E0 := E) (st0 := ⟨st.bl, st.nx, []⟩) h0 (disjB_ok hd) (fun c a w hq => by cases hq.1) n _ [] fr ⟨st.bl, st.nx, []⟩ ss E a _ hr0 hf (Ext.refl _ _) hx ?_
        intro E' a' w' k1 k2 k3
        exact xList_ok ht hc _ _ fr1 st1 E' a' w' k1 k3 hl fun E'' a'' w'' q1 q2 q3 => ⟨rfl, E'', q1.wr, (k2.trans q2).low hwr, q3⟩
      · cases hv
    · cases hv
  · cases hv
theorem xRegion_ok (hm : P.follows .mixedOrders = true) (ht : TblOk tbl B w0) (hc : CallOk P B w0 call) (hcw : CallWr call) (h : Rep B w0 E st w) (hf : FrOk E st.nx fr a) {id : Nat} {ops : Array Oper} (hv : xRegion P tbl call ops fr st = some (fr', st')) :
    (Code.region id ops true).wp P (PostX B w0 E st .normal fr' st') a w := by
  unfold xRegion at hv
  split at hv
  · exact xFlat_ok hm ht hc hcw h hf hv
  · have := xTailed_ok (id := id) hm ht hc hcw h hf hv
    rwa [Array.toArray_toList] at this
def xLoop (body : Fr → St → Option (Exit × Fr × St)) : Nat → Fr → St → Option (Exit × Fr × St)
  | 0, _, _ => none
  | n + 1, fr, st => match body fr st with
    | some (.normal, fr', st') => xLoop body n fr' st'
    | r => r
def xCode (P : Program) (tbl : Tbl) (call : CallX) : Nat → Code → Fr → St → Option (Exit × Fr × St)
  | 0, _, _, _ => none
  | n + 1, c, fr, st => match c with
    | .skip => some (.normal, fr, st)
    | .label _ => some (.normal, fr, st)
    | .region _ ops draw => match draw with
      | true => match xRegion P tbl call ops fr st with
        | some (fr', st') => some (.normal, fr', st')
        | none => none
      | false => match xList P tbl call ops ops.toList fr st with
        | some (fr', st') => some (.normal, fr', st')
        | none => none
    | .seq x y => match xCode P tbl call n x fr st with
      | some (.normal, fr', st') => xCode P tbl call n y fr' st'
      | r => r
    | .cond c x y => match litOf fr c with
      | some (.bool true) => xCode P tbl call n x fr st
      | some (.bool false) => xCode P tbl call n y fr st
      | _ => none
    | .block id b => match xCode P tbl call n b fr st with
      | some (.exit id', fr', st') => cond (Nat.beq id' id) (some (.normal, fr', st')) (some (.exit id', fr', st'))
      | r => r
    | .loop b => xLoop (xCode P tbl call n b) n fr st
    | .scope b => match xCode P tbl call n b fr st with
      | some (.goto _, _, _) => none
      | r => r
    | .exit id => some (.exit id, fr, st)
    | .goto l => some (.goto l, fr, st)
    | .ret => some (.ret, fr, st)
    | _ => none
theorem PostX.trans {E' : Env} {st1 : St} (h : Ext E st E' st1) {e' : Exit} {a' : Act} {w' : World} (hp : PostX B w0 E' st1 e fr' st' e' a' w') : PostX B w0 E st e fr' st' e' a' w' := by
  obtain ⟨h1, E'', h2, h3, h4⟩ := hp
  exact ⟨h1, E'', h2, h.trans h3, h4⟩
theorem xLoop_ok {c : Code} {body : Fr → St → Option (Exit × Fr × St)}
    (hb : ∀ fr st E a w e fr' st', Rep B w0 E st w → FrOk E st.nx fr a → body fr st = some (e, fr', st') → c.wp P (PostX B w0 E st e fr' st') a w) :
    ∀ (n : Nat) (fr : Fr) (st : St) (E : Env) (a : Act) (w : World), Rep B w0 E st w → FrOk E st.nx fr a → xLoop body n fr st = some (e, fr', st') → Code.rounds P c (PostX B w0 E st e fr' st') n a w
  | 0, fr, st, E, a, w, h, hf, hv => by cases hv
  | n + 1, fr, st, E, a, w, h, hf, hv => by
    rw [rounds_succ]
    simp only [xLoop] at hv
    split at hv
    · rename_i fr1 st1 hx
      refine wp_mono (hb fr st E a w _ _ _ h hf hx) fun e' a' w' hp => ?_
      obtain ⟨rfl, E', h1, h2, h3⟩ := hp
      have hr := xLoop_ok hb n fr1 st1 E' a' w' h1 h3 hv
      refine rounds_mono (fun e a w hq => hq.trans h2) n a' w' hr
    · rename_i hne
      refine wp_mono (hb fr st E a w _ _ _ h hf hv) fun e' a' w' hp => ?_
      obtain ⟨rfl, hp2⟩ := hp
      cases e' with
      | normal => exact absurd hv (hne _ _)
      | _ => exact ⟨rfl, hp2⟩
where
  rounds_mono {P : Program} {c : Code} {Q Q' : Exit → Act → World → Prop} (hq : ∀ e a w, Q e a w → Q' e a w) : ∀ (n : Nat) (a : Act) (w : World), Code.rounds P c Q n a w → Code.rounds P c Q' n a w
    | 0, a, w, h => h
    | n + 1, a, w, h => by
      rw [rounds_succ] at h ⊢
      refine wp_mono h fun e a w hh => ?_
      cases e with
      | normal => exact rounds_mono hq n a w hh
      | _ => exact hq _ _ _ hh
theorem xCode_ok (hm : P.follows .mixedOrders = true) (ht : TblOk tbl B w0) (hc : CallOk P B w0 call) (hcw : CallWr call) :
    ∀ (n : Nat) (c : Code) (fr : Fr) (st : St) (E : Env) (a : Act) (w : World) (e : Exit) (fr' : Fr) (st' : St), Rep B w0 E st w → FrOk E st.nx fr a → xCode P tbl call n c fr st = some (e, fr', st') → c.wp P (PostX B w0 E st e fr' st') a w
  | 0, c, fr, st, E, a, w, e, fr', st', h, hf, hv => by cases hv
  | n + 1, c, fr, st, E, a, w, e, fr', st', h, hf, hv => by
    simp only [xCode] at hv
    split at hv
    · cases hv; exact wp_skip ⟨rfl, E, h, Ext.refl _ _, hf⟩
    · cases hv; exact wp_label ⟨rfl, E, h, Ext.refl _ _, hf⟩
    · split at hv
      · split at hv
        · rename_i hx
          cases hv
          exact xRegion_ok hm ht hc hcw h hf hx
        · cases hv
      · split at hv
        · rename_i hx
          cases hv
          exact wp_region_list (xList_ok ht hc _ _ fr st E a w h hf hx fun E' a' w' k1 k2 k3 => ⟨rfl, E', k1, k2, k3⟩)
        · cases hv
    · rename_i x y
      refine wp_seq ?_
      split at hv
      · rename_i fr1 st1 hx
        refine wp_mono (xCode_ok hm ht hc hcw n x fr st E a w _ _ _ h hf hx) fun e' a' w' hp => ?_
        obtain ⟨rfl, E', h1, h2, h3⟩ := hp
        exact wp_mono (xCode_ok hm ht hc hcw n y fr1 st1 E' a' w' _ _ _ h1 h3 hv) fun e a w hq => hq.trans h2
      · rename_i hne
        refine wp_mono (xCode_ok hm ht hc hcw n x fr st E a w _ _ _ h hf hv) fun e' a' w' hp => ?_
        obtain ⟨rfl, hp2⟩ := hp
        cases e' with
        | normal => exact absurd hv (hne _ _)
        | _ => exact ⟨rfl, hp2⟩
    · rename_i c x y
      split at hv
      · rename_i hl
        exact wp_cond_true (litOf_eval hf hl) (xCode_ok hm ht hc hcw n x fr st E a w _ _ _ h hf hv)
      · rename_i hl
        exact wp_cond_false (litOf_eval hf hl) (xCode_ok hm ht hc hcw n y fr st E a w _ _ _ h hf hv)
      · cases hv
    · rename_i id b
      refine wp_block ?_
      split at hv
      · rename_i id' fr1 st1 hx
        refine wp_mono (xCode_ok hm ht hc hcw n b fr st E a w _ _ _ h hf hx) fun e' a' w' hp => ?_
        obtain ⟨rfl, hp2⟩ := hp
        cases hq : Nat.beq id' id with
        | true =>
          rw [hq] at hv
          cases hv
          have := Nat.eq_of_beq_eq_true hq
          simp only [Exit.inBlock, this, if_true]
          exact ⟨rfl, hp2⟩
        | false =>
          rw [hq] at hv
          cases hv
          have := Nat.ne_of_beq_eq_false hq
          simp only [Exit.inBlock, this, if_false]
          exact ⟨rfl, hp2⟩
      · rename_i hne
        refine wp_mono (xCode_ok hm ht hc hcw n b fr st E a w _ _ _ h hf hv) fun e' a' w' hp => ?_
        obtain ⟨rfl, hp2⟩ := hp
        cases e' with
        | exit id' => exact absurd hv (hne _ _ _)
        | _ => exact ⟨rfl, hp2⟩
    · rename_i b
      exact wp_loop_rounds n (xLoop_ok (fun fr st E a w e fr' st' h hf hv => xCode_ok hm ht hc hcw n b fr st E a w e fr' st' h hf hv) n fr st E a w h hf hv)
    · rename_i b
      refine wp_scope_straight ?_
      split at hv
      · cases hv
      · rename_i hne
        refine wp_mono (xCode_ok hm ht hc hcw n b fr st E a w _ _ _ h hf hv) fun e' a' w' hp => ?_
        obtain ⟨rfl, hp2⟩ := hp
        cases e' with
        | goto l => exact absurd hv (hne _ _ _)
        | _ => exact ⟨rfl, hp2⟩
    · cases hv; exact wp_exit ⟨rfl, E, h, Ext.refl _ _, hf⟩
    · cases hv; exact wp_goto ⟨rfl, E, h, Ext.refl _ _, hf⟩
    · cases hv; exact wp_ret ⟨rfl, E, h, Ext.refl _ _, hf⟩
    · cases hv
end
end Go.Proofs.YtgaiibkkompbnaaGreatDoor
