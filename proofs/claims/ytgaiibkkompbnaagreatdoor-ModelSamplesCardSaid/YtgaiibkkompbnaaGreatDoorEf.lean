/-
  Reckoning closed code over named blocks: new rows, cuts, appends.
-/
import Derived.Test.YtgaiibkkompbnaaGreatDoorEe
namespace Go.Proofs.YtgaiibkkompbnaaGreatDoor
open Go.RowKit

def newX (st : St) (t k : Nat) (l : List Leaf) : Option St :=
  cond (l.all (Leaf.below st.nx)) (match st.bl.set st.nx (.row t k l) with
    | some bl => some ⟨bl, st.nx + 1, st.wr⟩
    | none => none) none
section
variable {P : Program} {B : Nat} {w0 : World} {E : Env} {st st' : St} {w : World} {m : Nat} {fr : Fr} {a : Act} {v : AV}
theorem newX_ok (h : Rep B w0 E st w) {t k c : Nat} {l : List Leaf} (hn : newX st t k l = some st') (h1 : l.all Leaf.cell = true) (hz : l.length = c * k) (hc : c ≤ maxLen) :
    ∃ E', E'.φ st.nx = w.heap.size ∧ E'.κ st.nx = c ∧ Rep B w0 E' st' (w.alloc (.cells (l.map (Leaf.conc E)).toArray t)) ∧ Ext E st E' st' := by
  unfold newX at hn
  cases hb : l.all (Leaf.below st.nx) with
  | false => rw [hb] at hn; cases hn
  | true =>
    rw [hb] at hn
    simp only [cond] at hn
    split at hn
    · rename_i bl hs
      cases hn
      obtain ⟨h2, h3⟩ := Rep.push h hs (cur := (l.map (Leaf.conc E)).toArray) (c := c) (by simp [hz]) hc (by simp [List.take_of_length_le]) hb h1
      exact ⟨_, by simp, by simp, h2, h3⟩
    · cases hn
theorem newX_nx {t k : Nat} {l : List Leaf} (hn : newX st t k l = some st') : st'.nx = st.nx + 1 := by
  unfold newX at hn
  cases hb : l.all (Leaf.below st.nx) with
  | false => rw [hb] at hn; cases hn
  | true =>
    rw [hb] at hn
    simp only [cond] at hn
    split at hn
    · cases hn; rfl
    · cases hn
def allocX (P : Program) (st : St) (t : Nat) : Option (AV × St) :=
  match zeroX P t with
  | some l => match newX st t l.length l with
    | some st' => some (.one (.leaf (.ptr st.nx 0)), st')
    | none => none
  | none => none
theorem allocX_ok (h : Rep B w0 E st w) {t : Nat} (hv : allocX P st t = some (v, st')) :
    ∃ E' w', (Instr.alloc t true (.tuple #[])).run P w = .ok (v.conc E') w' ∧ Rep B w0 E' st' w' ∧ Ext E st E' st' := by
  unfold allocX at hv
  split at hv
  · rename_i l hl
    split at hv
    · rename_i s hs
      cases hv
      obtain ⟨i, z, hi, hz, z1, z2, z3⟩ := zeroX_ok hl E
      obtain ⟨E', e1, e2, e3, e4⟩ := newX_ok h hs (c := 1) z2 (by simp) (by unfold maxLen; omega)
      refine ⟨E', _, ?_, e3, e4⟩
      simp [Instr.alloc, zeroValue, typeInfo, hi, hz, newVar, newRow, z1, AV.conc, One.conc, Leaf.conc, e1]
    · cases hv
  · cases hv
def boxX (st : St) (t : Nat) (x : AV) : Option (AV × St) :=
  match cellsOf x with
  | some l => match newX st t l.length l with
    | some st' => some (.one (.leaf (.ptr st.nx 0)), st')
    | none => none
  | none => none
theorem boxX_ok (h : Rep B w0 E st w) {t : Nat} {x : AV} (hv : boxX st t x = some (v, st')) :
    ∃ E' w', (Instr.box t (x.conc E)).run P w = .ok (v.conc E') w' ∧ Rep B w0 E' st' w' ∧ Ext E st E' st' := by
  unfold boxX at hv
  split at hv
  · rename_i l hl
    split at hv
    · rename_i s hs
      cases hv
      obtain ⟨c1, c2, c3⟩ := cellsOf_ok hl E
      obtain ⟨E', e1, e2, e3, e4⟩ := newX_ok h hs (c := 1) c2 (by simp) (by unfold maxLen; omega)
      refine ⟨E', _, ?_, e3, e4⟩
      have hr : (Instr.box t (x.conc E)).run P w = .ok (.pointer (some ⟨w.heap.size, 0, none⟩)) (w.alloc (.cells (x.conc E).cells t)) := by simp [Instr.box, newVar, newRow]
      rw [hr, c1]
      show _ = Result.ok (Value.pointer (some ⟨E'.φ st.nx, 0, none⟩)) _
      rw [e1]
    · cases hv
  · cases hv
def zerosX (P : Program) (e n : Nat) : Option (List Leaf) :=
  match P.info? e with
  | some i => match i.zero with
    | some z => leaves (madeCells z.cells n).toList
    | none => none
  | none => none
theorem zerosX_ok {e n : Nat} {l : List Leaf} (h : zerosX P e n = some l) (E : Env) : ∃ i z, P.info? e = some i ∧ i.zero = some z ∧ madeCells z.cells n = (l.map (Leaf.conc E)).toArray ∧ l.length = n ∧ ∀ m, l.all (Leaf.below m) = true := by
  unfold zerosX at h
  split at h
  · rename_i i hi
    split at h
    · rename_i z hz
      have := leaves_eq _ _ h
      subst this
      exact ⟨i, z, hi, hz, by rw [conc_vals, Array.toArray_toList], by simp [size_madeCells], fun m => below_vals m _⟩
    · cases h
  · cases h
def buildSliceX (P : Program) (fr : Fr) (st : St) (t len : Nat) (parts : Array (Nat × Operand)) : Option (AV × St) :=
  match P.underlying t with
  | some (.slice e) => match sizeX P e, partsX fr parts.toList with
    | some k, some ps => match zerosX P e (Nat.mul len k) with
      | some zs => match fillX (fun i => some (Nat.mul i k, k)) zs ps with
        | some l => match forceL l with
          | some l => cond (l.all Leaf.cell) (cond (Nat.ble (Nat.mul len k) 16777216) (cond (Nat.beq (Nat.mul len k) 0) (match len, parts.toList with
            | 0, [] => match newX st e k [] with
              | some st' => some (.one (.leaf (.sl st.nx 0 0 0)), st')
              | none => none
            | _, _ => none) (match newX st e k l with
            | some st' => some (.one (.leaf (.sl st.nx 0 0 len)), st')
            | none => none)) none) none
          | none => none
        | none => none
      | none => none
    | _, _ => none
  | _ => none
theorem buildSliceX_ok (h : Rep B w0 E st w) (hf : FrOk E m fr a) {t len : Nat} {parts : Array (Nat × Operand)} (hv : buildSliceX P fr st t len parts = some (v, st')) :
    ∃ E' w', (Instr.buildSlice t len (parts.map fun (i, x) => (i, a.eval x))).run P w = .ok (v.conc E') w' ∧ Rep B w0 E' st' w' ∧ Ext E st E' st' := by
  unfold buildSliceX at hv
  split at hv
  · rename_i e hu
    split at hv
    · rename_i k ps hk hp
      obtain ⟨ie, hie, rfl⟩ := sizeX_ok hk
      split at hv
      · rename_i zs hz
        split at hv
        · rename_i l0 hl0
          split at hv
          · rename_i l hl
            have := forceL_eq _ _ hl
            subst this
            cases h1 : l.all Leaf.cell with
            | false => rw [h1] at hv; cases hv
            | true =>
            rw [h1] at hv
            cases h2 : Nat.ble (Nat.mul len ie.size) 16777216 with
            | false => rw [h2] at hv; cases hv
            | true =>
            rw [h2] at hv
            cases h3 : Nat.beq (Nat.mul len ie.size) 0 with
            | true =>
              rw [h3] at hv
              simp only [cond] at hv
              split at hv
              · rename_i hp0
                split at hv
                · rename_i s hs
                  cases hv
                  obtain ⟨E', e1, e2, e3, e4⟩ := newX_ok h hs (c := 0) rfl (by simp) (Nat.zero_le _)
                  refine ⟨E', _, ?_, e3, e4⟩
                  have hq : parts = #[] := by rw [← Array.toArray_toList (xs := parts), hp0]
                  subst hq
                  simp only [AV.conc, One.conc, Leaf.conc, e1, e2]
                  simp [Instr.buildSlice, run_underlying hu, sizeOf, typeInfo, hie, newRow, Instr.fill]
                  congr 2
                  exact Array.eq_empty_of_size_eq_zero (by simp)
                · cases hv
              · cases hv
            | false =>
            rw [h3] at hv
            simp only [cond] at hv
            split at hv
            · rename_i s hs
              cases hv
              obtain ⟨i, z, hi, hiz, z1, z2, z3⟩ := zerosX_ok hz E
              have : i = ie := by rw [hi] at hie; injection hie
              subst this
              obtain ⟨f1, f2, f3, f4⟩ := fillX_ok E _ ps zs l hl0
              obtain ⟨p1, p2⟩ := partsX_ok hf _ _ hp
              have hne : ¬ len * i.size = 0 := Nat.ne_of_beq_eq_false h3
              have hpos : 0 < i.size := Nat.pos_of_ne_zero fun e => hne (by rw [e, Nat.mul_zero])
              have hle : len * i.size ≤ 16777216 := Nat.le_of_ble_eq_true h2
              have hlen : len ≤ maxLen := by
                have : len ≤ len * i.size := Nat.le_mul_of_pos_right _ hpos
                unfold maxLen; omega
              obtain ⟨E', e1, e2, e3, e4⟩ := newX_ok h hs (c := len) h1 (by rw [f2, z2]; rfl) hlen
              refine ⟨E', _, ?_, e3, e4⟩
              have hps : (parts.map fun (x : Nat × Operand) => (x.1, a.eval x.2)).toList = ps.map fun p => (p.1, p.2.conc E) := by rw [Array.toList_map]; exact p1
              rw [run_buildSlice (P := P) w t e len _ _ i z hu hi hiz (by omega) hne (by rw [hps]; have := f1; rw [← z1] at this; exact this)]
              simp only [AV.conc, One.conc, Leaf.conc, e1, e2, Nat.sub_zero]
            · cases hv
          · cases hv
        · cases hv
      · cases hv
    · cases hv
  · cases hv
def makeSliceX (P : Program) (fr : Fr) (st : St) (t : Nat) (x y : Operand) : Option (AV × St) :=
  match P.underlying t, litOf fr x, litOf fr y with
  | some (.slice e), some (.int _ (.ofNat l)), some (.int _ (.ofNat c)) => match P.info? e with
    | some i => match zerosX P e (Nat.mul c i.size) with
      | some zs => cond (zs.all Leaf.cell) (cond (Nat.ble l c) (cond (Nat.ble (Nat.mul c i.size) 16777216) (cond (Nat.ble (Nat.mul i.bytes c) 16777216) (cond (Nat.ble c 16777216) (match newX st e i.size zs with
        | some st' => some (.one (.leaf (.sl st.nx 0 0 l)), st')
        | none => none) none) none) none) none) none
      | none => none
    | none => none
  | _, _, _ => none
theorem makeSliceX_ok (h : Rep B w0 E st w) (hf : FrOk E m fr a) {t : Nat} {x y : Operand} (hv : makeSliceX P fr st t x y = some (v, st')) :
    ∃ E' w', (Instr.makeSlice t (a.eval x) (a.eval y)).run P w = .ok (v.conc E') w' ∧ Rep B w0 E' st' w' ∧ Ext E st E' st' := by
  unfold makeSliceX at hv
  split at hv
  · rename_i e kl l kc c hu hx hy
    split at hv
    · rename_i i hi
      split at hv
      · rename_i zs hz
        cases h1 : zs.all Leaf.cell with
        | false => rw [h1] at hv; cases hv
        | true =>
        rw [h1] at hv
        cases h2 : Nat.ble l c with
        | false => rw [h2] at hv; cases hv
        | true =>
        rw [h2] at hv
        cases h3 : Nat.ble (Nat.mul c i.size) 16777216 with
        | false => rw [h3] at hv; cases hv
        | true =>
        rw [h3] at hv
        cases h4 : Nat.ble (Nat.mul i.bytes c) 16777216 with
        | false => rw [h4] at hv; cases hv
        | true =>
        rw [h4] at hv
        cases h5 : Nat.ble c 16777216 with
        | false => rw [h5] at hv; cases hv
        | true =>
        rw [h5] at hv
        simp only [cond] at hv
        split at hv
        · rename_i s hs
          cases hv
          obtain ⟨i', z, hi', hiz, z1, z2, z3⟩ := zerosX_ok hz E
          have : i' = i := by rw [hi'] at hi; injection hi
          subst this
          have g2 : l ≤ c := Nat.le_of_ble_eq_true h2
          have g3 : c * i'.size ≤ 16777216 := Nat.le_of_ble_eq_true h3
          have g4 : i'.bytes * c ≤ 16777216 := Nat.le_of_ble_eq_true h4
          have g5 : c ≤ 16777216 := Nat.le_of_ble_eq_true h5
          obtain ⟨E', e1, e2, e3, e4⟩ := newX_ok h hs (c := c) h1 z2 (by unfold maxLen; omega)
          refine ⟨E', _, ?_, e3, e4⟩
          rw [litOf_eval hf hx, litOf_eval hf hy]
          refine (run_makeSlice (P := P) w t e i' z hu hi' hiz kl kc (Int.ofNat l) (Int.ofNat c) (Int.natCast_nonneg l) (Int.ofNat_le.2 g2) g3 (by have := Int.ofNat_le.2 g4; rw [Int.natCast_mul] at this; exact Int.le_trans this (by decide)) (Int.le_trans (Int.ofNat_le.2 g5) (by decide))).trans ?_
          simp only [AV.conc, One.conc, Leaf.conc, e1, e2, Nat.sub_zero, Int.ofNat_eq_natCast, Int.toNat_natCast]
          have z1' := z1
          rw [show c.mul i'.size = c * i'.size from rfl] at z1'
          rw [z1']
        · cases hv
      · cases hv
    · cases hv
  · cases hv
/-- a new block of which nothing is known -/
theorem Rep.blank (h : Rep B w0 E st w) (o : Obj) : Rep B w0 ⟨fun i => if i = st.nx then w.heap.size else E.φ i, E.κ⟩ ⟨st.bl, st.nx + 1, st.wr⟩ (w.alloc o) ∧
    Ext E st ⟨fun i => if i = st.nx then w.heap.size else E.φ i, E.κ⟩ ⟨st.bl, st.nx + 1, st.wr⟩ := by
  have hsame : Env.same st.nx E ⟨fun i => if i = st.nx then w.heap.size else E.φ i, E.κ⟩ := fun b hb => by
    have : b ≠ st.nx := by omega
    simp [this]
  have hB : B ≤ w.heap.size := Nat.le_trans h.base h.below.size
  refine ⟨⟨h.base, h.below.alloc hB _, fun i hi => h.top i (by simp at hi; omega), ?_, ?_⟩, ⟨Nat.le_succ _, hsame, fun _ h => h, fun b hb hw => rfl⟩⟩
  · intro i t' k' cs' e
    obtain ⟨⟨cur', hg, g1, g2, g3⟩, g4, g5, g6⟩ := h.ok i t' k' cs' e
    have hlt := h.lt e
    have hi : i ≠ st.nx := by omega
    refine ⟨⟨cur', ?_, g1, g2, ?_⟩, ?_, Leaf.all_mono (Nat.le_succ _) g5, g6⟩
    · simp only [hi, if_false]
      rw [Below.heap_alloc w _ _ (h.mem e)]
      exact hg
    · rw [g3, Leaf.map_same hsame g5]
    · simpa [hi] using g4
  · intro i j t1 k1 c1 t2 k2 c2 e1 e2 e
    have hi : i ≠ st.nx := by have := h.lt e1; omega
    have hj : j ≠ st.nx := by have := h.lt e2; omega
    simp only [hi, hj, if_false] at e
    exact h.inj i j _ _ _ _ _ _ e1 e2 e
end
end Go.Proofs.YtgaiibkkompbnaaGreatDoor
