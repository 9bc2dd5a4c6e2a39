/-
  The reckoner: stores, slices, closures.
-/
import Derived.Test.YtkcdgaijklhnaaaGreatDoorK02
import Derived.Maps.AppendAt
import Derived.Great.BuildSlice
import Derived.Lib.AppendZeros
namespace Go.Proofs.YtkcdgaijklhnaaaGreatDoor
open Go.RowKit
def takeF : Nat → List Leaf → Option (List Leaf)
 | 0, _ => some []
 | _ + 1, [] => none
 | n + 1, x :: l => match takeF n l with
  | some r => some (x :: r)
  | none => none
theorem takeF_ok : ∀ (n : Nat) (l r : List Leaf), takeF n l = some r → r = l.take n ∧ r.length = n
 | 0, l, r, h => by cases h; exact ⟨rfl, rfl⟩
 | _ + 1, [], r, h => by cases h
 | n + 1, x :: l, r, h => by
  simp only [takeF] at h
  cases hl : takeF n l with
  | none => rw [hl] at h; cases h
  | some q => rw [hl] at h; cases h; obtain ⟨h1, h2⟩ := takeF_ok n l q hl; exact ⟨by rw [List.take_succ_cons, h1], by simp [h2]⟩
def memB (a : Nat) : List Nat → Bool
 | [] => false
 | b :: l => cond (Nat.beq a b) true (memB a l)
theorem memB_iff (a : Nat) : ∀ l : List Nat, memB a l = true ↔ a ∈ l
 | [] => by simp [memB]
 | b :: l => by
  simp only [memB, List.mem_cons]
  cases h : Nat.beq a b with
  | true => have := Nat.eq_of_beq_eq_true h; simp [this]
  | false => have := Nat.ne_of_beq_eq_false h; simp [this, memB_iff a l]
def addW (a : Nat) (l : List Nat) : List Nat := match memB a l with
 | true => l
 | false => a :: l
theorem mem_addW (a : Nat) (l : List Nat) (b : Nat) : b ∈ addW a l ↔ b = a ∨ b ∈ l := by
 unfold addW
 split
 ·rename_i h
  have := (memB_iff a l).1 h
  constructor
  ·exact Or.inr
  ·rintro (rfl | h)
   ·exact this
   ·exact h
 ·simp
theorem Rep.wr {B : Nat} {w0 : World} {E : Env} {bl : Tr Xblk} {nx : Nat} {wr wr' : List Nat} {w : World} (h : Rep B w0 E ⟨bl, nx, wr⟩ w) : Rep B w0 E ⟨bl, nx, wr'⟩ w :=
 ⟨h.base, h.below, h.top, h.ok, h.inj, h.maps⟩
abbrev Tbl := Nat → Option (List Leaf)
def TblW (tbl : Tbl) (w : World) : Prop := ∀ g cs, tbl g = some cs → ∀ (E : Env) (j : Nat) (x : Leaf), cs[j]? = some x → w.cell? ⟨g, j, none⟩ = some (x.conc E)
def TblOk (tbl : Tbl) (B : Nat) (w0 : World) : Prop := ∀ w, Below B w0 w → TblW tbl w
def readX (P : Program) (t : Nat) (cs : List Leaf) (o : Nat) : Option AV :=
 match P.underlying t, sizeX P t with
 | some d, some n => cond d.isRow (match takeF n (cs.drop o) with | some l => some (.one (.agg l)) | none => none) (match cs.drop o with | y :: _ => some (.one (.leaf y)) | [] => none)
 | _, _ => none
def loadX (P : Program) (tbl : Tbl) (st : St) (t : Nat) : AV → Option AV
 | .one (.leaf (.ptr b o)) => match st.bl.get b with
  | some (.row _ _ cs) => readX P t cs o
  | _ => none
 | .one (.leaf (.val (.pointer (some ⟨g, o, none⟩)))) => match tbl g with
  | some cs => readX P t cs o
  | none => none
 | _ => none
theorem row_cell {E : Env} {w : World} {i t k : Nat} {cs : List Leaf} (h : RowOk E w i t k cs) {j : Nat} {x : Leaf} (hj : cs[j]? = some x) : w.cell? ⟨E.φ i, j, none⟩ = some (x.conc E) := by
 obtain ⟨cur, hg, -, -, ht⟩ := h
 rw [cell_of_row w _ _ _ _ _ hg]
 have h1 : (cs.map (Leaf.conc E))[j]? = some (x.conc E) := by rw [List.getElem?_map, hj]; rfl
 rw [← ht, List.getElem?_take] at h1
 split at h1
 ·rwa [Array.getElem?_toList] at h1
 ·cases h1
theorem readX_ok {P : Program} {E : Env} {w : World} {t g o : Nat} {cs : List Leaf} {r : AV} (hl : readX P t cs o = some r)
  (hw : ∀ j x, cs[j]? = some x → w.cell? ⟨g, j, none⟩ = some (x.conc E)) : (Instr.loadAt t (.pointer (some ⟨g, o, none⟩))).run P w = .ok (r.conc E) w := by
 unfold readX at hl
 split at hl
 ·rename_i d n hd hn
  obtain ⟨i, hi, rfl⟩ := sizeX_ok hn
  cases hrow : d.isRow with
  | true =>
   rw [hrow] at hl
   simp only [cond] at hl
   split at hl
   ·rename_i l hlt
    cases hl
    obtain ⟨h1, h2⟩ := takeF_ok _ _ _ hlt
    refine run_loadAt_mid (P := P) w g o t (l.map (Leaf.conc E)) d (fun j u hu => ?_) hd hrow (by simp [hi, h2])
    rw [List.getElem?_map] at hu
    cases hj : l[j]? with
    | none => rw [hj] at hu; cases hu
    | some x =>
     rw [hj] at hu
     cases hu
     refine hw _ _ ?_
     rw [h1, List.getElem?_take] at hj
     split at hj
     ·rwa [List.getElem?_drop] at hj
     ·cases hj
   ·cases hl
  | false =>
   rw [hrow] at hl
   simp only [cond] at hl
   split at hl
   ·rename_i y l hy
    cases hl
    have hj : cs[o]? = some y := by
     have : (cs.drop o)[0]? = some y := by rw [hy]; rfl
     rwa [List.getElem?_drop, Nat.add_zero] at this
    have hagg : (isAgg t).run P w = .ok false w := by
     unfold isAgg; rw [Sem.run_bind, run_underlying hd w]; cases d <;> simp_all
    have hc := hw _ _ hj
    simp [Instr.loadAt, AV.conc, One.conc, Instr.sureAddr, loadVar, hagg, hc]
   ·cases hl
 ·cases hl
theorem loadX_ok {P : Program} {tbl : Tbl} {E : Env} {st : St} {w : World} {t : Nat} {v r : AV} (hl : loadX P tbl st t v = some r) (ht : TblW tbl w)
  (hw : ∀ b o, v = .one (.leaf (.ptr b o)) → ∀ tt k cs, st.bl.get b = some (.row tt k cs) → RowOk E w b tt k cs) : (Instr.loadAt t (v.conc E)).run P w = .ok (r.conc E) w := by
 unfold loadX at hl
 split at hl
 ·rename_i b o
  split at hl
  ·rename_i tt k cs hb
   exact readX_ok hl fun j x hj => row_cell (hw b o rfl _ _ _ hb) hj
  ·cases hl
 ·rename_i g o
  split at hl
  ·rename_i cs hg
   exact readX_ok hl fun j x hj => ht g cs hg E j x hj
  ·cases hl
 ·cases hl
theorem splice_take (cur L : List Value) (o n : Nat) (h : o + L.length ≤ n) (hn : n ≤ cur.length) : (cur.take o ++ L ++ cur.drop (o + L.length)).take n = (cur.take n).take o ++ L ++ (cur.take n).drop (o + L.length) := by
 have h1 : (cur.take o ++ L).length = o + L.length := by simp; omega
 rw [List.take_append, h1, List.take_of_length_le (by omega), List.drop_take, List.take_take, Nat.min_eq_left (by omega)]
theorem splice_eq : ∀ (l cs : List Leaf) (o : Nat), o + l.length ≤ cs.length → splice cs o l = cs.take o ++ l ++ cs.drop (o + l.length)
 | [], cs, o, _ => by simp [splice]
 | x :: l, cs, o, h => by
  simp only [List.length_cons] at h
  rw [splice, splice_eq l _ _ (by simp; omega)]
  have h1 : (cs.set o x).take (o + 1) = cs.take o ++ [x] := by
   rw [List.take_add_one, List.take_set_of_le (Nat.le_refl _)]
   simp [List.getElem?_set]
   omega
  have h2 : (cs.set o x).drop (o + 1 + l.length) = cs.drop (o + (x :: l).length) := by
   rw [List.drop_set_of_lt (by omega)]
   congr 1
   simp; omega
  rw [h1, h2]
  simp
def forceL : List Leaf → Option (List Leaf)
 | [] => some []
 | x :: l => match forceL l with
  | some r => some (x :: r)
  | none => none
theorem forceL_eq : ∀ (l r : List Leaf), forceL l = some r → r = l
 | [], r, h => by cases h; rfl
 | x :: l, r, h => by
  simp only [forceL] at h
  cases hl : forceL l with
  | none => rw [hl] at h; cases h
  | some q => rw [hl] at h; cases h; rw [forceL_eq l q hl]
def storeX (P : Program) (st : St) (t : Nat) (v x : AV) : Option St :=
 match v with
 | .one (.leaf (.ptr b o)) => match st.bl.get b, cellsOf x, sizeX P t with
  | some (.row tt k cs), some l, some n =>
   cond (Nat.beq l.length n) (cond (Nat.ble (o + l.length) cs.length) (cond (x.below st.nx) (match forceL (splice cs o l) with
    | some cs' => match st.bl.set b (.row tt k cs') with
     | some bl => some ⟨bl, st.nx, addW b st.wr⟩
     | none => none
    | none => none) none) none) none
  | _, _, _ => none
 | _ => none
section
variable {P : Program} {B : Nat} {w0 : World} {E : Env} {st st' : St} {w : World}
theorem storeX_ok (h : Rep B w0 E st w) {t : Nat} {v x : AV} (hs : storeX P st t v x = some st') :
  ∃ w', (Instr.storeAt t (v.conc E) (x.conc E)).run P w = .ok () w' ∧ Rep B w0 E st' w' ∧ Ext E st E st' := by
 unfold storeX at hs
 split at hs
 ·rename_i b o
  split at hs
  ·rename_i tt k cs l n hb hl hn
   obtain ⟨i, hi, rfl⟩ := sizeX_ok hn
   cases h1 : Nat.beq l.length i.size with
   | false => rw [h1] at hs; cases hs
   | true =>
   rw [h1] at hs
   cases h2 : Nat.ble (o + l.length) cs.length with
   | false => rw [h2] at hs; cases hs
   | true =>
   rw [h2] at hs
   cases h3 : x.below st.nx with
   | false => rw [h3] at hs; cases hs
   | true =>
   rw [h3] at hs
   simp only [cond] at hs
   split at hs
   ·rename_i cs' hcs
    split at hs
    ·rename_i bl hbl
     cases hs
     have hcs := forceL_eq _ _ hcs
     obtain ⟨c1, c2, c3⟩ := cellsOf_ok hl E
     have e1 : l.length = i.size := Nat.eq_of_beq_eq_true h1
     have e2 : o + l.length ≤ cs.length := Nat.le_of_ble_eq_true h2
     obtain ⟨⟨cur, hg, z0, z1, z2⟩, hB, hbl0, hcl⟩ := h.ok b tt k cs hb
     have hlen : cs.length ≤ cur.size := by
      have hq : (cur.toList.take cs.length).length = cs.length := by rw [z2, List.length_map]
      rw [List.length_take] at hq
      have hq2 : cur.toList.length = cur.size := Array.length_toList
      omega
     have hst := run_storeCells_at P (E.φ b) o tt (l.map (Leaf.conc E)) 0 cur w hg (by simp; omega) (fun u hu => by
      obtain ⟨y, hy, rfl⟩ := List.mem_map.1 hu
      exact Leaf.cell_conc (List.all_eq_true.1 c2 y hy) E)
     simp only [Nat.add_zero, List.length_map] at hst
     have hr : (Instr.storeAt t ((AV.one (.leaf (.ptr b o))).conc E) (x.conc E)).run P w = .ok () (w.setRow (E.φ b) (cur.toList.take o ++ l.map (Leaf.conc E) ++ cur.toList.drop (o + l.length)).toArray) := by
      simp only [AV.conc, One.conc, Leaf.conc] at c1 ⊢
      simp only [Instr.storeAt, Instr.sureAddr, storeVar, Sem.run_bind, Sem.run_pure, Result.andThen_ok]
      have : x.conc E = x.conc E := rfl
      simp only [AV.conc, One.conc, Leaf.conc] at this
      simp [sizeOf, typeInfo, hi, c1, e1, hst]
      try rw [← e1]; exact hst
     have hw := Rep.write h (cur' := (cur.toList.take o ++ l.map (Leaf.conc E) ++ cur.toList.drop (o + l.length)).toArray) hb hbl hg (by simp; omega) (by
      rw [hcs, length_splice, splice_eq _ _ _ e2]
      simp only [List.map_append, List.map_take, List.map_drop, ← z2]
      have := splice_take cur.toList (l.map (Leaf.conc E)) o cs.length (by simpa using e2) (by simpa using hlen)
      simpa using this) (by rw [hcs]; exact all_splice _ _ _ hbl0 (c3 _ h3)) (by rw [hcs]; exact all_splice _ _ _ hcl c2)
     exact ⟨_, hr, hw.1.wr, ⟨hw.2.nx, hw.2.env, fun c hc => (mem_addW _ _ _).2 (Or.inr hc), fun c hc hn => hw.2.bl c hc (fun hh => hn ((mem_addW _ _ _).2 (by simpa using hh)))⟩⟩
    ·cases hs
   ·cases hs
  ·cases hs
 ·cases hs
end
end Go.Proofs.YtkcdgaijklhnaaaGreatDoor
namespace Go.Proofs.YtkcdgaijklhnaaaGreatDoor
open Go.RowKit
def newX (st : St) (t k : Nat) (l : List Leaf) : Option St :=
 cond (l.all (Leaf.below st.nx)) (match st.bl.set st.nx (.row t k l) with
  | some bl => some ⟨bl, st.nx + 1, st.wr⟩
  | none => none) none
section
variable {P : Program} {B : Nat} {w0 : World} {E : Env} {st st' : St} {w : World} {m : Nat} {fr : Fr} {a : Act} {v : AV}
theorem newX_ok (h : Rep B w0 E st w) {t k c : Nat} {l : List Leaf} (hn : newX st t k l = some st') (h1 : l.all Leaf.cell = true) (hz : l.length = c * k) (hc : c ≤ maxLen) :
  ∃ E', E'.φ st.nx = w.heap.size ∧ E'.κ st.nx = c ∧ Rep B w0 E' st' (w.alloc (.cells (l.map (Leaf.conc E)).toArray t)) ∧ Ext E st E' st' := by
 unfold newX at hn
 cases hb : l.all (Leaf.below st.nx) with
 | false => rw [hb] at hn; cases hn
 | true =>
  rw [hb] at hn
  simp only [cond] at hn
  split at hn
  ·rename_i bl hs
   cases hn
   obtain ⟨h2, h3⟩ := Rep.push h hs (cur := (l.map (Leaf.conc E)).toArray) (c := c) (by simp [hz]) hc (by simp [List.take_of_length_le]) hb h1
   exact ⟨_, by simp, by simp, h2, h3⟩
  ·cases hn
def allocX (P : Program) (st : St) (t : Nat) : Option (AV × St) :=
 match zeroX P t with
 | some l => match newX st t l.length l with
  | some st' => some (.one (.leaf (.ptr st.nx 0)), st')
  | none => none
 | none => none
theorem allocX_ok (h : Rep B w0 E st w) {t : Nat} (hv : allocX P st t = some (v, st')) :
  ∃ E' w', (Instr.alloc t true (.tuple #[])).run P w = .ok (v.conc E') w' ∧ Rep B w0 E' st' w' ∧ Ext E st E' st' := by
 unfold allocX at hv
 split at hv
 ·rename_i l hl
  split at hv
  ·rename_i s hs
   cases hv
   obtain ⟨i, z, hi, hz, z1, z2, z3⟩ := zeroX_ok hl E
   obtain ⟨E', e1, e2, e3, e4⟩ := newX_ok h hs (c := 1) z2 (by simp) (by unfold maxLen; omega)
   refine ⟨E', _, ?_, e3, e4⟩
   simp [Instr.alloc, zeroValue, typeInfo, hi, hz, newVar, newRow, z1, AV.conc, One.conc, Leaf.conc, e1]
  ·cases hv
 ·cases hv
def boxX (st : St) (t : Nat) (x : AV) : Option (AV × St) :=
 match cellsOf x with
 | some l => match newX st t l.length l with
  | some st' => some (.one (.leaf (.ptr st.nx 0)), st')
  | none => none
 | none => none
theorem boxX_ok (h : Rep B w0 E st w) {t : Nat} {x : AV} (hv : boxX st t x = some (v, st')) :
  ∃ E' w', (Instr.box t (x.conc E)).run P w = .ok (v.conc E') w' ∧ Rep B w0 E' st' w' ∧ Ext E st E' st' := by
 unfold boxX at hv
 split at hv
 ·rename_i l hl
  split at hv
  ·rename_i s hs
   cases hv
   obtain ⟨c1, c2, c3⟩ := cellsOf_ok hl E
   obtain ⟨E', e1, e2, e3, e4⟩ := newX_ok h hs (c := 1) c2 (by simp) (by unfold maxLen; omega)
   refine ⟨E', _, ?_, e3, e4⟩
   have hr : (Instr.box t (x.conc E)).run P w = .ok (.pointer (some ⟨w.heap.size, 0, none⟩)) (w.alloc (.cells (x.conc E).cells t)) := by simp [Instr.box, newVar, newRow]
   rw [hr, c1]
   show _ = Result.ok (Value.pointer (some ⟨E'.φ st.nx, 0, none⟩)) _
   rw [e1]
  ·cases hv
 ·cases hv
def zerosX (P : Program) (e n : Nat) : Option (List Leaf) :=
 match P.info? e with
 | some i => match i.zero with
  | some z => leaves (madeCells z.cells n).toList
  | none => none
 | none => none
theorem zerosX_ok {e n : Nat} {l : List Leaf} (h : zerosX P e n = some l) (E : Env) : ∃ i z, P.info? e = some i ∧ i.zero = some z ∧ madeCells z.cells n = (l.map (Leaf.conc E)).toArray ∧ l.length = n ∧ ∀ m, l.all (Leaf.below m) = true := by
 unfold zerosX at h
 split at h
 ·rename_i i hi
  split at h
  ·rename_i z hz
   have := leaves_eq _ _ h
   subst this
   exact ⟨i, z, hi, hz, by rw [conc_vals, Array.toArray_toList], by simp [size_madeCells], fun m => below_vals m _⟩
  ·cases h
 ·cases h
def buildSliceX (P : Program) (fr : Fr) (st : St) (t len : Nat) (parts : Array (Nat × Operand)) : Option (AV × St) :=
 match P.underlying t with
 | some (.slice e) => match sizeX P e, partsX fr parts.toList with
  | some k, some ps => match zerosX P e (Nat.mul len k) with
   | some zs => match fillX (fun i => some (Nat.mul i k, k)) zs ps with
    | some l => match forceL l with
     | some l => cond (l.all Leaf.cell) (cond (Nat.ble (Nat.mul len k) 16777216) (cond (Nat.beq (Nat.mul len k) 0) (match len, parts.toList with
      | 0, [] => match newX st e k [] with
       | some st' => some (.one (.leaf (.sl st.nx 0 0 0)), st')
       | none => none
      | _, _ => none) (match newX st e k l with
      | some st' => some (.one (.leaf (.sl st.nx 0 0 len)), st')
      | none => none)) none) none
     | none => none
    | none => none
   | none => none
  | _, _ => none
 | _ => none
theorem buildSliceX_ok (h : Rep B w0 E st w) (hf : FrOk E m fr a) {t len : Nat} {parts : Array (Nat × Operand)} (hv : buildSliceX P fr st t len parts = some (v, st')) :
  ∃ E' w', (Instr.buildSlice t len (parts.map fun (i, x) => (i, a.eval x))).run P w = .ok (v.conc E') w' ∧ Rep B w0 E' st' w' ∧ Ext E st E' st' := by
 unfold buildSliceX at hv
 split at hv
 ·rename_i e hu
  split at hv
  ·rename_i k ps hk hp
   obtain ⟨ie, hie, rfl⟩ := sizeX_ok hk
   split at hv
   ·rename_i zs hz
    split at hv
    ·rename_i l0 hl0
     split at hv
     ·rename_i l hl
      have := forceL_eq _ _ hl
      subst this
      cases h1 : l.all Leaf.cell with
      | false => rw [h1] at hv; cases hv
      | true =>
      rw [h1] at hv
      cases h2 : Nat.ble (Nat.mul len ie.size) 16777216 with
      | false => rw [h2] at hv; cases hv
      | true =>
      rw [h2] at hv
      cases h3 : Nat.beq (Nat.mul len ie.size) 0 with
      | true =>
       rw [h3] at hv
       simp only [cond] at hv
       split at hv
       ·rename_i hp0
        split at hv
        ·rename_i s hs
         cases hv
         obtain ⟨E', e1, e2, e3, e4⟩ := newX_ok h hs (c := 0) rfl (by simp) (Nat.zero_le _)
         refine ⟨E', _, ?_, e3, e4⟩
         have hq : parts = #[] := by rw [← Array.toArray_toList (xs := parts), hp0]
         subst hq
         simp only [AV.conc, One.conc, Leaf.conc, e1, e2]
         simp [Instr.buildSlice, run_underlying hu, sizeOf, typeInfo, hie, newRow, Instr.fill]
         congr 2
         exact Array.eq_empty_of_size_eq_zero (by simp)
        ·cases hv
       ·cases hv
      | false =>
      rw [h3] at hv
      simp only [cond] at hv
      split at hv
      ·rename_i s hs
       cases hv
       obtain ⟨i, z, hi, hiz, z1, z2, z3⟩ := zerosX_ok hz E
       have : i = ie := by rw [hi] at hie; injection hie
       subst this
       obtain ⟨f1, f2, f3, f4⟩ := fillX_ok E _ ps zs l hl0
       obtain ⟨p1, p2⟩ := partsX_ok hf _ _ hp
       have hne : ¬ len * i.size = 0 := Nat.ne_of_beq_eq_false h3
       have hpos : 0 < i.size := Nat.pos_of_ne_zero fun e => hne (by rw [e, Nat.mul_zero])
       have hle : len * i.size ≤ 16777216 := Nat.le_of_ble_eq_true h2
       have hlen : len ≤ maxLen := by
        have : len ≤ len * i.size := Nat.le_mul_of_pos_right _ hpos
        unfold maxLen; omega
       obtain ⟨E', e1, e2, e3, e4⟩ := newX_ok h hs (c := len) h1 (by rw [f2, z2]; rfl) hlen
       refine ⟨E', _, ?_, e3, e4⟩
       have hps : (parts.map fun (x : Nat × Operand) => (x.1, a.eval x.2)).toList = ps.map fun p => (p.1, p.2.conc E) := by rw [Array.toList_map]; exact p1
       rw [run_buildSlice (P := P) w t e len _ _ i z hu hi hiz (by omega) hne (by rw [hps]; have := f1; rw [← z1] at this; exact this)]
       simp only [AV.conc, One.conc, Leaf.conc, e1, e2, Nat.sub_zero]
      ·cases hv
     ·cases hv
    ·cases hv
   ·cases hv
  ·cases hv
 ·cases hv
def makeSliceX (P : Program) (fr : Fr) (st : St) (t : Nat) (x y : Operand) : Option (AV × St) :=
 match P.underlying t, litOf fr x, litOf fr y with
 | some (.slice e), some (.int _ (.ofNat l)), some (.int _ (.ofNat c)) => match P.info? e with
  | some i => match zerosX P e (Nat.mul c i.size) with
   | some zs => cond (zs.all Leaf.cell) (cond (Nat.ble l c) (cond (Nat.ble (Nat.mul c i.size) 16777216) (cond (Nat.ble (Nat.mul i.bytes c) 16777216) (cond (Nat.ble c 16777216) (match newX st e i.size zs with
    | some st' => some (.one (.leaf (.sl st.nx 0 0 l)), st')
    | none => none) none) none) none) none) none
   | none => none
  | none => none
 | _, _, _ => none
theorem makeSliceX_ok (h : Rep B w0 E st w) (hf : FrOk E m fr a) {t : Nat} {x y : Operand} (hv : makeSliceX P fr st t x y = some (v, st')) :
  ∃ E' w', (Instr.makeSlice t (a.eval x) (a.eval y)).run P w = .ok (v.conc E') w' ∧ Rep B w0 E' st' w' ∧ Ext E st E' st' := by
 unfold makeSliceX at hv
 split at hv
 ·rename_i e kl l kc c hu hx hy
  split at hv
  ·rename_i i hi
   split at hv
   ·rename_i zs hz
    cases h1 : zs.all Leaf.cell with
    | false => rw [h1] at hv; cases hv
    | true =>
    rw [h1] at hv
    cases h2 : Nat.ble l c with
    | false => rw [h2] at hv; cases hv
    | true =>
    rw [h2] at hv
    cases h3 : Nat.ble (Nat.mul c i.size) 16777216 with
    | false => rw [h3] at hv; cases hv
    | true =>
    rw [h3] at hv
    cases h4 : Nat.ble (Nat.mul i.bytes c) 16777216 with
    | false => rw [h4] at hv; cases hv
    | true =>
    rw [h4] at hv
    cases h5 : Nat.ble c 16777216 with
    | false => rw [h5] at hv; cases hv
    | true =>
    rw [h5] at hv
    simp only [cond] at hv
    split at hv
    ·rename_i s hs
     cases hv
     obtain ⟨i', z, hi', hiz, z1, z2, z3⟩ := zerosX_ok hz E
     have : i' = i := by rw [hi'] at hi; injection hi
     subst this
     have g2 : l ≤ c := Nat.le_of_ble_eq_true h2
     have g3 : c * i'.size ≤ 16777216 := Nat.le_of_ble_eq_true h3
     have g4 : i'.bytes * c ≤ 16777216 := Nat.le_of_ble_eq_true h4
     have g5 : c ≤ 16777216 := Nat.le_of_ble_eq_true h5
     obtain ⟨E', e1, e2, e3, e4⟩ := newX_ok h hs (c := c) h1 z2 (by unfold maxLen; omega)
     refine ⟨E', _, ?_, e3, e4⟩
     rw [litOf_eval hf hx, litOf_eval hf hy]
     refine (run_makeSlice (P := P) w t e i' z hu hi' hiz kl kc (Int.ofNat l) (Int.ofNat c) (Int.natCast_nonneg l) (Int.ofNat_le.2 g2) g3 (by have := Int.ofNat_le.2 g4; rw [Int.natCast_mul] at this; exact Int.le_trans this (by decide)) (Int.le_trans (Int.ofNat_le.2 g5) (by decide))).trans ?_
     simp only [AV.conc, One.conc, Leaf.conc, e1, e2, Nat.sub_zero, Int.ofNat_eq_natCast, Int.toNat_natCast]
     have z1' := z1
     rw [show c.mul i'.size = c * i'.size from rfl] at z1'
     rw [z1']
    ·cases hv
   ·cases hv
  ·cases hv
 ·cases hv
end
end Go.Proofs.YtkcdgaijklhnaaaGreatDoor
namespace Go.Proofs.YtkcdgaijklhnaaaGreatDoor
open Go.RowKit
def boundX (fr : Fr) (d : Nat) : Option Operand → Option Nat
 | none => some d
 | some x => match litOf fr x with
  | some (.int _ (.ofNat i)) => some i
  | _ => none
def sliceX (P : Program) (fr : Fr) (st : St) (t : Nat) (x : Operand) (lo hi mx : Option Operand) : Option AV :=
 match P.underlying t with
 | some (.slice e) => match sizeX P e with
  | some k => match aev fr x with
   | some (.one (.leaf (.sl b o lo0 n))) => match mx with
    | none => match boundX fr 0 lo, boundX fr n hi, st.bl.get b with
     | some l, some h, some (.row _ k' cs) =>
      cond (Nat.beq k' k && !Nat.beq k 0 && Nat.ble l h && Nat.ble h n && (Nat.blt l h || Nat.beq l 0) && Nat.ble (Nat.mul (Nat.add lo0 n) k) cs.length)
       (some (.one (.leaf (.sl b (Nat.add o (Nat.mul l k)) (Nat.add lo0 l) (Nat.sub h l))))) none
     | _, _, _ => none
    | some mo => match boundX fr 0 lo, boundX fr n hi, litOf fr mo with
     | some 0, some 0, some (.int _ (.ofNat 0)) => match hi with
      | some _ => some (.one (.leaf (.emp b o)))
      | none => none
     | _, _, _ => none
   | some (.one (.leaf (.emp b o))) => match mx with
    | none => match boundX fr 0 lo, boundX fr 0 hi with
     | some 0, some 0 => some (.one (.leaf (.emp b o)))
     | _, _ => none
    | some _ => none
   | _ => none
  | none => none
 | _ => none
section
variable {P : Program} {B : Nat} {w0 : World} {E : Env} {st st' : St} {w : World} {m : Nat} {fr : Fr} {a : Act} {v : AV}
theorem boundX_run (hf : FrOk E m fr a) {x : Operand} {d i : Nat} (h : boundX fr d (some x) = some i) : ∃ k, a.eval x = .int k (Int.ofNat i) := by
 simp only [boundX] at h
 split at h
 ·rename_i k j hl
  cases h
  exact ⟨k, litOf_eval hf hl⟩
 ·cases h
theorem bounds_run (hf : FrOk E m fr a) {lo hi : Option Operand} {l h n cap : Nat} (hl : boundX fr 0 lo = some l) (hh : boundX fr n hi = some h) (h1 : l ≤ h) (h2 : h ≤ n) (h3 : n ≤ cap) (w : World) :
  (Instr.sliceBounds true n cap (lo.map a.eval) (hi.map a.eval) none).run P w = .ok (l, h, cap) w := by
 have hcap : h ≤ cap := Nat.le_trans h2 h3
 cases lo with
 | none =>
  simp only [boundX, Option.some.injEq] at hl
  subst hl
  cases hi with
  | none => simp only [boundX, Option.some.injEq] at hh; subst hh; simp [Instr.sliceBounds]
  | some y =>
   obtain ⟨k, hy⟩ := boundX_run hf hh
   simp [Instr.sliceBounds, hy, Instr.sliceBound, asIntOf, hcap]
 | some x =>
  obtain ⟨k, hx⟩ := boundX_run hf hl
  cases hi with
  | none =>
   simp only [boundX, Option.some.injEq] at hh
   subst hh
   simp [Instr.sliceBounds, hx, Instr.sliceBound, asIntOf, h1]
  | some y =>
   obtain ⟨k', hy⟩ := boundX_run hf hh
   simp [Instr.sliceBounds, hx, hy, Instr.sliceBound, asIntOf, hcap, h1]
theorem row_room (h : Rep B w0 E st w) {b t k : Nat} {cs : List Leaf} (hb : st.bl.get b = some (.row t k cs)) {n : Nat} (hn : n * k ≤ cs.length) (hk : 0 < k) : n ≤ E.κ b := by
 obtain ⟨⟨cur, hg, z0, z1, z2⟩, -⟩ := h.ok b t k cs hb
 have hq : (cur.toList.take cs.length).length = cs.length := by rw [z2, List.length_map]
 rw [List.length_take] at hq
 have hq2 : cur.toList.length = cur.size := Array.length_toList
 have : n * k ≤ E.κ b * k := by omega
 exact Nat.le_of_mul_le_mul_right this hk
theorem sliceX_ok (h : Rep B w0 E st w) (hf : FrOk E m fr a) {t : Nat} {x : Operand} {lo hi mx : Option Operand} (hv : sliceX P fr st t x lo hi mx = some v) :
  (Instr.sliceAt t (a.eval x) (lo.map a.eval) (hi.map a.eval) (mx.map a.eval)).run P w = .ok (v.conc E) w ∧ v.below m = true := by
 unfold sliceX at hv
 split at hv
 ·rename_i e hu
  have hat : ∀ y : Value, (Instr.sliceAt t y (lo.map a.eval) (hi.map a.eval) (mx.map a.eval)).run P w = (Instr.slice t y (lo.map a.eval) (hi.map a.eval) (mx.map a.eval)).run P w := fun y => by
   simp [Instr.sliceAt, run_underlying hu]
  split at hv
  ·rename_i k hk
   obtain ⟨ie, hie, rfl⟩ := sizeX_ok hk
   split at hv
   ·rename_i b o lo0 n hx
    obtain ⟨h1, h2⟩ := aev_ok hf hx
    split at hv
    ·split at hv
     ·rename_i l hh tt k' cs hl hhi hb
      cases hc : (Nat.beq k' ie.size && !Nat.beq ie.size 0 && Nat.ble l hh && Nat.ble hh n && (Nat.blt l hh || Nat.beq l 0) && Nat.ble (Nat.mul (Nat.add lo0 n) ie.size) cs.length) with
      | false => rw [hc] at hv; cases hv
      | true =>
      rw [hc] at hv
      cases hv
      simp only [Bool.and_eq_true, Bool.or_eq_true, Bool.not_eq_true'] at hc
      obtain ⟨⟨⟨⟨⟨c1, c2⟩, c3⟩, c4⟩, c5⟩, c6⟩ := hc
      have d1 : k' = ie.size := Nat.eq_of_beq_eq_true c1
      have d2 : ie.size ≠ 0 := Nat.ne_of_beq_eq_false c2
      have d3 : l ≤ hh := Nat.le_of_ble_eq_true c3
      have d4 : hh ≤ n := Nat.le_of_ble_eq_true c4
      have d5 : l < hh ∨ l = 0 := c5.imp blt_lt Nat.eq_of_beq_eq_true
      have d6 : (lo0 + n) * ie.size ≤ cs.length := Nat.le_of_ble_eq_true c6
      subst d1
      have room := row_room h hb d6 (Nat.pos_of_ne_zero d2)
      refine ⟨?_, h2⟩
      rw [h1, hat]
      simp only [AV.conc, One.conc, Leaf.conc, Option.map_none]
      rw [run_slice_any (P := P) w t _ _ _ (by simp [Program.elem, hu]), bounds_run hf hl hhi d3 d4 (by omega : n ≤ E.κ b - lo0) w]
      have he : P.elem t = e := by simp [Program.elem, hu]
      have hsz : (sizeOf e).run P w = .ok ie.size w := by simp [sizeOf, typeInfo, hie]
      simp only [Result.andThen_ok, he, hsz, sliced]
      rw [show E.κ b - (lo0.add l) = E.κ b - lo0 - l from (Nat.sub_sub _ _ _).symm]
      refine congrArg (fun q => Result.ok (Value.slice q (hh - l) (E.κ b - lo0 - l)) w) ?_
      split
      ·rename_i hm
       rcases d5 with d5 | d5
       ·omega
       ·subst d5; simp
      ·exact congrArg some (Addr.add_lit _ _ _)
     ·cases hv
    ·rename_i mo
     split at hv
     ·rename_i km hl hhi hm
      split at hv
      ·rename_i y
       cases hv
       refine ⟨?_, h2⟩
       rw [h1, hat]
       obtain ⟨kh, hy⟩ := boundX_run hf hhi
       have hm' := litOf_eval hf hm
       cases lo with
       | none => simp [AV.conc, One.conc, Leaf.conc, Instr.slice, run_underlying hu, Instr.sliceBounds, Instr.sliceBound, asIntOf, hy, hm', sizeOf, typeInfo, hie]
       | some x2 =>
        obtain ⟨kl, hx2⟩ := boundX_run hf hl
        simp [AV.conc, One.conc, Leaf.conc, Instr.slice, run_underlying hu, Instr.sliceBounds, Instr.sliceBound, asIntOf, hy, hx2, hm', sizeOf, typeInfo, hie]
      ·cases hv
     ·cases hv
   ·rename_i b o hx
    obtain ⟨h1, h2⟩ := aev_ok hf hx
    split at hv
    ·split at hv
     ·rename_i hl hhi
      cases hv
      refine ⟨?_, h2⟩
      rw [h1, hat]
      simp only [AV.conc, One.conc, Leaf.conc, Option.map_none]
      rw [run_slice_any (P := P) w t _ _ _ (by simp [Program.elem, hu]), bounds_run hf hl hhi (Nat.le_refl _) (Nat.le_refl _) (Nat.le_refl _) w]
      have he : P.elem t = e := by simp [Program.elem, hu]
      have hsz : (sizeOf e).run P w = .ok ie.size w := by simp [sizeOf, typeInfo, hie]
      simp [Result.andThen_ok, he, hsz, sliced]
     ·cases hv
    ·cases hv
   ·cases hv
  ·cases hv
 ·cases hv
end
end Go.Proofs.YtkcdgaijklhnaaaGreatDoor
namespace Go.Proofs.YtkcdgaijklhnaaaGreatDoor
open Go.RowKit
theorem cond_true {α : Type} {c : Bool} {x : Option α} {y : α} (h : cond c x none = some y) : c = true ∧ x = some y := by
 cases c
 ·cases h
 ·exact ⟨rfl, h⟩
section
variable {P : Program} {B : Nat} {w0 : World} {E : Env} {st st' : St} {w : World} {m : Nat} {fr : Fr} {a : Act} {v : AV}
theorem Rep.grown (h : Rep B w0 E st w) {w' : World} {g cap e k : Nat} {cur : Array Value} {cs' : List Leaf} {bl1 bl2 : Tr Xblk} {row : Option Nat} {wr' : List Nat}
  (hbl1 : ∀ i t k cs, bl1.get i = some (.row t k cs) → st.bl.get i = some (.row t k cs) ∧ some (E.φ i) ≠ row)
  (hblm : ∀ i es ck, bl1.get i = some (.mpb es ck) → st.bl.get i = some (.mpb es ck)) (hrowc : ∀ q, row = some q → ∃ c t f, w.heap[q]? = some (.cells c t f))
  (hbl2 : ∀ i, i < st.nx → i ∉ wr' → bl1.get i = st.bl.get i) (hwr : ∀ b, b ∈ st.wr → b ∈ wr')
  (hs : bl1.set st.nx (.row e k cs') = some bl2) (hgr : w.grownBy w' row) (hrow : ∀ q, row = some q → B ≤ q)
  (hg : w'.heap[g]? = some (.cells cur e (0, 0))) (hat : some g = row ∨ g = w.heap.size) (hB : B ≤ g)
  (hz : cur.size = cap * k) (hc : cap ≤ maxLen) (ht : cur.toList.take cs'.length = cs'.map (Leaf.conc E)) (hb : cs'.all (Leaf.below st.nx) = true) (h1 : cs'.all Leaf.cell = true) :
  Rep B w0 ⟨fun i => if i = st.nx then g else E.φ i, fun i => if i = st.nx then cap else E.κ i⟩ ⟨bl2, st.nx + 1, wr'⟩ w' ∧
   Ext E st ⟨fun i => if i = st.nx then g else E.φ i, fun i => if i = st.nx then cap else E.κ i⟩ ⟨bl2, st.nx + 1, wr'⟩ := by
 have hget := Tr.get_set _ _ _ _ hs
 have hsame : Env.same st.nx E ⟨fun i => if i = st.nx then g else E.φ i, fun i => if i = st.nx then cap else E.κ i⟩ := fun b hb => by
  have : b ≠ st.nx := by omega
  simp [this]
 have hBw : B ≤ w.heap.size := Nat.le_trans h.base h.below.size
 have old : ∀ i t' k' cs', bl1.get i = some (.row t' k' cs') → E.φ i ≠ g := fun i t' k' cs' e1 => by
  obtain ⟨e2, e3⟩ := hbl1 i _ _ _ e1
  rcases hat with hat | hat
  ·rw [← hat] at e3; exact fun hh => e3 (by rw [hh])
  ·have := h.mem e2; omega
 refine ⟨⟨h.base, h.below.grown hgr hBw hrow, ?_, ?_, ?_, h.maps.move (fun i es ck e1 => by
  rw [hget] at e1
  split at e1
  ·cases e1
  ·exact hblm _ _ _ e1) hsame (Nat.le_succ _) fun i es ck _ e1 => hgr.block _ (heap_lt e1) fun he => by
   obtain ⟨c, t, f, hq⟩ := hrowc _ he.symm
   rw [hq] at e1
   cases e1⟩, ⟨Nat.le_succ _, hsame, hwr, fun b hb hw => ?_⟩⟩
 ·intro i hi t' k' cs' e1
  rw [hget, if_neg (by simp at hi; omega)] at e1
  exact h.top i (by simp at hi; omega) _ _ _ (hbl1 i _ _ _ e1).1
 ·intro i t' k' cs' e1
  rw [hget] at e1
  split at e1
  ·rename_i hi
   subst hi
   injection e1 with e1
   injection e1 with e1 e2 e3
   subst e1 e2 e3
   refine ⟨⟨cur, ?_, ?_, ?_, ?_⟩, ?_, Leaf.all_mono (Nat.le_succ _) hb, h1⟩
   ·simpa using hg
   ·simpa using hz
   ·simpa using hc
   ·rw [ht, Leaf.map_same hsame hb]
   ·simpa using hB
  ·rename_i hi
   obtain ⟨e2, e3⟩ := hbl1 i _ _ _ e1
   obtain ⟨⟨cur', hg', g1, g2, g3⟩, g4, g5, g6⟩ := h.ok i t' k' cs' e2
   refine ⟨⟨cur', ?_, ?_, ?_, ?_⟩, ?_, Leaf.all_mono (Nat.le_succ _) g5, g6⟩
   ·simp only [hi, if_false]
    rw [hgr.block _ (h.mem e2) e3]
    exact hg'
   ·simpa [hi] using g1
   ·simpa [hi] using g2
   ·rw [g3, Leaf.map_same hsame g5]
   ·simpa [hi] using g4
 ·intro i j t1 k1 c1 t2 k2 c2 e1 e2 e3
  rw [hget] at e1 e2
  split at e1 <;> split at e2 <;> rename_i hi hj
  ·rw [hi, hj]
  ·simp only [hi, hj, if_true, if_false] at e3
   exact absurd e3.symm (old j _ _ _ e2)
  ·simp only [hi, hj, if_true, if_false] at e3
   exact absurd e3 (old i _ _ _ e1)
  ·simp only [hi, hj, if_false] at e3
   exact h.inj i j _ _ _ _ _ _ (hbl1 i _ _ _ e1).1 (hbl1 j _ _ _ e2).1 e3
 ·simp only at hw ⊢
  rw [hget, if_neg (by omega)]
  exact hbl2 b hb hw
def emptyX : AV → Bool
 | .one (.leaf (.val (.slice none 0 0))) => true
 | .one (.leaf (.emp _ _)) => true
 | .one (.leaf (.sl _ _ _ 0)) => true
 | _ => false
def roomyX (st : St) : AV → Bool
 | .one (.leaf (.val (.slice none 0 0))) => true
 | .one (.leaf (.emp _ _)) => true
 | .one (.leaf (.sl b _ lo n)) => match st.bl.get b with
  | some (.row _ k cs) => Nat.blt 0 k && Nat.ble (Nat.mul (Nat.add lo n) k) cs.length
  | _ => false
 | _ => false
def newsX (st : St) (k : Nat) : AV → Option (List Leaf × Nat)
 | .one (.leaf (.sl b o _ m)) => match st.bl.get b with
  | some (.row _ _ cs) => match takeF (Nat.mul m k) (cs.drop o) with
   | some l => some (l, m)
   | none => none
  | _ => none
 | _ => none
def oldsX (st : St) (e k : Nat) : AV → Option (List Leaf × Nat × Tr Xblk × List Nat)
 | .one (.leaf (.val (.slice none 0 0))) => some ([], 0, st.bl, st.wr)
 | .one (.leaf (.sl b 0 0 n)) => match st.bl.get b with
  | some (.row e' k' cs) => cond (Nat.beq e' e && Nat.beq k' k && Nat.blt 0 k) (match takeF (Nat.mul n k) cs, st.bl.set b .dead with
   | some l, some bl => some (l, n, bl, addW b st.wr)
   | _, _ => none) none
  | _ => none
 | _ => none
def appendF (l r : List Leaf) : Option (List Leaf) := forceL (l ++ r)
def appX (P : Program) (st : St) (t : Nat) (s x : AV) : Option (AV × St) :=
 match P.underlying t with
 | some (.slice e) => match P.info? e with
  | some i => match emptyX x with
   | true => cond (roomyX st s) (some (s, st)) none
   | false => match newsX st i.size x, i.zero with
    | some (news, m), some z => match oldsX st e i.size s with
     | some (olds, n, bl1, wr') => match appendF olds news with
      | some all => match bl1.set st.nx (.row e i.size all) with
       | some bl2 => cond (Nat.beq z.cells.size i.size && Nat.blt 0 i.size && Nat.blt 0 m && Nat.ble (Nat.add n m) 1000000 && Nat.ble i.bytes 1000 && all.all (Leaf.below st.nx) && all.all Leaf.cell)
         (some (.one (.leaf (.sl st.nx 0 0 (Nat.add n m))), ⟨bl2, st.nx + 1, wr'⟩)) none
       | none => none
      | none => none
     | none => match s with
      | .one (.leaf (.emp _ _)) => match st.bl.set st.nx (.row e i.size news) with
       | some bl2 => cond (Nat.beq z.cells.size i.size && Nat.blt 0 i.size && Nat.blt 0 m && Nat.ble m 1000000 && Nat.ble i.bytes 1000 && news.all (Leaf.below st.nx) && news.all Leaf.cell) (some (.one (.leaf (.sl st.nx 0 0 m)), ⟨bl2, st.nx + 1, st.wr⟩)) none
       | none => none
      | _ => none
    | _, _ => none
  | none => none
 | _ => none
theorem emptyX_ok {x : AV} (h : emptyX x = true) (E : Env) : ∃ A c, x.conc E = .slice A 0 c := by
 unfold emptyX at h
 split at h
 ·exact ⟨none, 0, rfl⟩
 ·exact ⟨_, _, rfl⟩
 ·exact ⟨_, _, rfl⟩
 ·cases h
theorem roomyX_ok (h : Rep B w0 E st w) {s : AV} (hs : roomyX st s = true) : ∃ A n c, s.conc E = .slice A n c ∧ n ≤ c := by
 unfold roomyX at hs
 split at hs
 ·exact ⟨none, 0, 0, rfl, Nat.le_refl _⟩
 ·exact ⟨_, 0, 0, rfl, Nat.le_refl _⟩
 ·rename_i b o lo n
  split at hs
  ·rename_i t k cs hb
   simp only [Bool.and_eq_true] at hs
   have hk : 0 < k := blt_lt hs.1
   have hn : (lo + n) * k ≤ cs.length := Nat.le_of_ble_eq_true hs.2
   have := row_room h hb hn hk
   exact ⟨_, n, _, rfl, by omega⟩
  ·cases hs
 ·cases hs
theorem newsX_ok (h : Rep B w0 E st w) {k n : Nat} {x : AV} {l : List Leaf} (hx : newsX st k x = some (l, n)) :
  ∃ A c, x.conc E = .slice (some A) n c ∧ l.length = n * k ∧ (∀ j u, (l.map (Leaf.conc E))[j]? = some u → w.cell? (A.add j) = some u) ∧ (∀ u ∈ l.map (Leaf.conc E), u.oneCell' = true) := by
 unfold newsX at hx
 split at hx
 ·rename_i b o lo n'
  split at hx
  ·rename_i t k' cs hb
   split at hx
   ·rename_i q hq
    cases hx
    obtain ⟨t1, t2⟩ := takeF_ok _ _ _ hq
    obtain ⟨hr, -, -, hcell⟩ := h.ok b _ _ _ hb
    refine ⟨⟨E.φ b, o, none⟩, _, rfl, t2, fun j u hu => ?_, fun u hu => ?_⟩
    ·rw [List.getElem?_map] at hu
     cases hj : l[j]? with
     | none => rw [hj] at hu; cases hu
     | some y =>
      rw [hj] at hu
      cases hu
      rw [Addr.add_lit]
      refine row_cell hr ?_
      rw [t1, List.getElem?_take] at hj
      split at hj
      ·rwa [List.getElem?_drop] at hj
      ·cases hj
    ·obtain ⟨y, hy, rfl⟩ := List.mem_map.1 hu
     rw [t1] at hy
     exact Leaf.cell_conc (List.all_eq_true.1 hcell y (List.mem_of_mem_drop (List.mem_of_mem_take hy))) E
   ·cases hx
  ·cases hx
 ·cases hx
theorem oldsX_ok (h : Rep B w0 E st w) {e k n : Nat} {s : AV} {l : List Leaf} {bl1 : Tr Xblk} {wr' : List Nat} (hs : oldsX st e k s = some (l, n, bl1, wr')) :
  w.ownsRow B e k (s.conc E) n (l.map (Leaf.conc E)) ∧ (∀ i t k cs, bl1.get i = some (.row t k cs) → st.bl.get i = some (.row t k cs) ∧ some (E.φ i) ≠ (s.conc E).ownBlock) ∧
   (∀ i, i < st.nx → i ∉ wr' → bl1.get i = st.bl.get i) ∧ (∀ b, b ∈ st.wr → b ∈ wr') ∧ (∀ q, (s.conc E).ownBlock = some q → B ≤ q) ∧ (∀ i es ck, bl1.get i = some (.mpb es ck) → st.bl.get i = some (.mpb es ck)) ∧ ∀ q, (s.conc E).ownBlock = some q → ∃ c t f, w.heap[q]? = some (.cells c t f) := by
 unfold oldsX at hs
 split at hs
 ·cases hs
  exact ⟨World.ownsRow_nil w B e k, fun i t k cs hi => ⟨hi, by simp [AV.conc, One.conc, Leaf.conc, Value.ownBlock]⟩, fun _ _ _ => rfl, fun _ h => h, fun q hq => by simp [AV.conc, One.conc, Leaf.conc, Value.ownBlock] at hq, fun _ _ _ e => e, fun q hq => by simp [AV.conc, One.conc, Leaf.conc, Value.ownBlock] at hq⟩
 ·rename_i b n'
  split at hs
  ·rename_i e' k' cs hb
   cases hc : (Nat.beq e' e && Nat.beq k' k && Nat.blt 0 k) with
   | false => rw [hc] at hs; cases hs
   | true =>
   rw [hc] at hs
   simp only [Bool.and_eq_true] at hc
   have d1 : e' = e := Nat.eq_of_beq_eq_true hc.1.1
   have d2 : k' = k := Nat.eq_of_beq_eq_true hc.1.2
   subst d1 d2
   have hk : 0 < k' := blt_lt hc.2
   simp only [cond] at hs
   split at hs
   ·rename_i q bl hq hbl
    cases hs
    obtain ⟨t1, t2⟩ := takeF_ok _ _ _ hq
    obtain ⟨⟨cur, hg, z0, z1, z2⟩, hB, -, hcell⟩ := h.ok b _ _ _ hb
    have hget := Tr.get_set _ _ _ _ hbl
    have hlen : l.length ≤ cs.length := by rw [t1, List.length_take]; omega
    have hq1 : (cur.toList.take cs.length).length = cs.length := by rw [z2, List.length_map]
    rw [List.length_take] at hq1
    have hq2 : cur.toList.length = cur.size := Array.length_toList
    refine ⟨⟨by rw [List.length_map]; exact t2, ?_⟩, fun i t k cs hi => ?_, fun i _ hw => ?_, fun c hc => (mem_addW _ _ _).2 (Or.inr hc), fun q hq => ?_, fun i es ck hi => ?_, fun q hq => ?_⟩
    ·refine Or.inr ⟨E.φ b, E.κ b, cur, by simp [AV.conc, One.conc, Leaf.conc], hB, hg, ?_, z1, z0, ?_⟩
     ·have : n * k' ≤ E.κ b * k' := by
       have : n * k' = l.length := t2.symm
       omega
      exact Nat.le_of_mul_le_mul_right this hk
     ·have e1 : cur.toList.take l.length = (cur.toList.take cs.length).take l.length := by rw [List.take_take, Nat.min_eq_left hlen]
      have e2 : n * k' = l.length := t2.symm
      rw [e2, e1, z2, ← List.map_take]
      congr 1
      rw [t2]
      exact t1.symm
    ·rw [hget] at hi
     split at hi
     ·cases hi
     ·rename_i hne
      refine ⟨hi, fun e => hne ?_⟩
      simp only [AV.conc, One.conc, Leaf.conc, Value.ownBlock, Option.some.injEq] at e
      exact h.inj _ _ _ _ _ _ _ _ hi hb e
    ·rw [hget, if_neg (fun e => hw ((mem_addW _ _ _).2 (Or.inl e)))]
    ·simp only [AV.conc, One.conc, Leaf.conc, Value.ownBlock, Option.some.injEq] at hq
     rw [← hq]; exact hB
    ·rw [hget] at hi
     split at hi
     ·cases hi
     ·exact hi
    ·simp only [AV.conc, One.conc, Leaf.conc, Value.ownBlock, Option.some.injEq] at hq
     rw [← hq]; exact ⟨_, _, _, hg⟩
   ·cases hs
  ·cases hs
 ·cases hs
theorem appX_ok (h : Rep B w0 E st w) {t ty : Nat} {s x : AV} (hv : appX P st t s x = some (v, st')) :
  ∃ E' w', (Builtin.append_ #[t, t] ty #[s.conc E, x.conc E]).run P w = .ok (v.conc E') w' ∧ Rep B w0 E' st' w' ∧ Ext E st E' st' := by
 have hBw : B ≤ w.heap.size := Nat.le_trans h.base h.below.size
 unfold appX at hv
 split at hv
 ·rename_i e hu
  split at hv
  ·rename_i i hi
   split at hv
   ·rename_i hx
    cases hr : roomyX st s with
    | false => rw [hr] at hv; cases hv
    | true =>
     rw [hr] at hv
     cases hv
     obtain ⟨A, c, hc⟩ := emptyX_ok hx E
     obtain ⟨A', n, c', hs, hle⟩ := roomyX_ok h hr
     refine ⟨E, w, ?_, h, Ext.refl _ _⟩
     rw [hc, hs]
     cases A' <;> cases A <;> simp [Builtin.append_, run_underlying hu, sizeOf, typeInfo, hi, Builtin.lenOf, Builtin.firstCells, loadCells, loadCellsFrom, storeCells, hle]
   ·split at hv
    ·rename_i news n z hn hz
     obtain ⟨A, c, hx, n1, n2, n3⟩ := newsX_ok h hn
     split at hv
     ·rename_i olds n0 bl1 wr' ho
      obtain ⟨o1, o2, o3, o4, o5, o6, o7⟩ := oldsX_ok h ho
      split at hv
      ·rename_i all hall
       have hall := forceL_eq _ _ hall
       split at hv
       ·rename_i bl2 hbl2
        cases hc : (Nat.beq z.cells.size i.size && Nat.blt 0 i.size && Nat.blt 0 n && Nat.ble (Nat.add n0 n) 1000000 && Nat.ble i.bytes 1000 && all.all (Leaf.below st.nx) && all.all Leaf.cell) with
        | false => rw [hc] at hv; cases hv
        | true =>
        rw [hc] at hv
        cases hv
        simp only [Bool.and_eq_true] at hc
        obtain ⟨⟨⟨⟨⟨⟨c1, c2⟩, c3⟩, c4⟩, c5⟩, c6⟩, c7⟩ := hc
        have d1 : z.cells.size = i.size := Nat.eq_of_beq_eq_true c1
        have d2 : 0 < i.size := blt_lt c2
        have d3 : 0 < n := blt_lt c3
        have d4 : n0 + n ≤ 1000000 := Nat.le_of_ble_eq_true c4
        have d5 : i.bytes ≤ 1000 := Nat.le_of_ble_eq_true c5
        obtain ⟨v', w', r1, r2, r3, r4, r5⟩ := run_append_own_at (P := P) w B t ty e i z i.size i.bytes hu hi hz rfl rfl d1 d2 (s.conc E) n0 _ o1 A n c _ (by rw [List.length_map]; exact n1) n2 n3 (by unfold maxLen; omega) (Nat.le_trans (Nat.mul_le_mul d4 d5) (by decide)) hBw
        obtain ⟨q1, q2 | ⟨g, cap, cur, q3, q4, q5, q6, q7, q8, q9⟩⟩ := r2
        ·omega
        ·subst q3
         obtain ⟨g1, g2⟩ := Rep.grown h o2 o6 o7 o3 o4 hbl2 r3 o5 q5 (by
          rcases r5 with r5 | r5
          ·exact Or.inl r5
          ·simp only [Value.ownBlock, Option.some.injEq] at r5; exact Or.inr r5) q4 q8 q7 (by
          rw [hall, List.map_append]
          have : (olds ++ news).length = (n0 + n) * i.size := by
           rw [← q1]; simp
          rw [this, q9]) c6 c7
         refine ⟨_, w', ?_, g1, g2⟩
         rw [hx, r1]
         simp only [AV.conc, One.conc, Leaf.conc, if_true, Nat.sub_zero]
         rfl
       ·cases hv
      ·cases hv
     ·split at hv
      ·rename_i b o _
       split at hv
       ·rename_i bl2 hs'
        cases hc : (Nat.beq z.cells.size i.size && Nat.blt 0 i.size && Nat.blt 0 n && Nat.ble n 1000000 && Nat.ble i.bytes 1000 && news.all (Leaf.below st.nx) && news.all Leaf.cell) with
        | false => rw [hc] at hv; cases hv
        | true =>
        rw [hc] at hv
        cases hv
        simp only [Bool.and_eq_true] at hc
        obtain ⟨⟨⟨⟨⟨⟨c1, c2⟩, c3⟩, c4⟩, c5⟩, c6⟩, c7⟩ := hc
        have d1 : z.cells.size = i.size := Nat.eq_of_beq_eq_true c1
        have d2 : 0 < i.size := blt_lt c2
        have d3 : 0 < n := blt_lt c3
        have d4 : n ≤ 1000000 := Nat.le_of_ble_eq_true c4
        have d5 : i.bytes ≤ 1000 := Nat.le_of_ble_eq_true c5
        have hr := run_append_grow (P := P) (ty := ty) w t e i z hu hi hz ⟨E.φ b, o, none⟩ 0 0 [] (by simp) (fun j u hu => by simp at hu) A n c _ (by rw [List.length_map]; exact n1) n2 (by omega) (by omega) (growslice_fits (by omega) (by
         rw [Nat.zero_add]
         exact Nat.le_trans (Nat.mul_le_mul d4 d5) (by decide)))
        have hge := grownCap_ge w (0 + n) 0 e
        have hcm : grownCap w (0 + n) 0 e ≤ maxLen := grownCap_le_maxLen w (0 + n) 0 e (by unfold maxLen; omega)
        have hl : (news.map (Leaf.conc E)).length = n * i.size := by rw [List.length_map]; exact n1
        obtain ⟨g1, g2⟩ := Rep.push h.drew hs' (cur := ((#[] : Array Value) ++ (news.map (Leaf.conc E)).toArray ++ Builtin.zeroCells z.cells (grownCap w (0 + n) 0 e - (0 + n)))) (c := grownCap w (0 + n) 0 e) (by
         simp only [Array.size_append, List.size_toArray, size_zeroCells, d1, hl, List.length_nil, Nat.zero_add]
         rw [← Nat.add_mul]
         congr 1
         rw [Nat.zero_add] at hge
         omega) hcm (by
         simp only [Array.toList_append, List.nil_append]
         exact List.take_left' (by simp)) c6 c7
        refine ⟨_, _, ?_, g1, g2⟩
        rw [hx]
        refine hr.trans ?_
        simp only [AV.conc, One.conc, Leaf.conc, if_true, Nat.sub_zero, Nat.zero_add]
        rfl
       ·cases hv
      ·cases hv
    ·cases hv
  ·cases hv
 ·cases hv
def zapX (P : Program) (st : St) (t tn : Nat) (s x : AV) : Option (AV × St) :=
 match s, x.lit, P.underlying t, P.underlying tn with
 | .one (.leaf (.val (.slice none 0 0))), some (.int _ (.ofNat n)), some (.slice e), some (.int _) => match P.info? e with
  | some i => match i.zero with
   | some z => match leaves (Builtin.zeroCells z.cells n).toList with
    | some cs => match st.bl.set st.nx (.row e i.size cs) with
     | some bl => cond (Nat.blt 0 n && Nat.blt 0 i.size && Nat.ble n 1000000 && Nat.ble i.bytes 1000 && Nat.beq z.cells.size i.size && cs.all Leaf.cell) (some (.one (.leaf (.sl st.nx 0 0 n)), ⟨bl, st.nx + 1, st.wr⟩)) none
     | none => none
    | none => none
   | none => none
  | none => none
 | _, _, _, _ => none
theorem zapX_ok (h : Rep B w0 E st w) {t tn ty : Nat} {s x : AV} (hv : zapX P st t tn s x = some (v, st')) :
  ∃ E' w', (Builtin.append_ #[t, tn] ty #[s.conc E, x.conc E]).run P w = .ok (v.conc E') w' ∧ Rep B w0 E' st' w' ∧ Ext E st E' st' := by
 unfold zapX at hv
 split at hv
 ·rename_i k n e kn hx hu htn
  split at hv
  ·rename_i i hi
   split at hv
   ·rename_i z hz
    split at hv
    ·rename_i cs hcs
     split at hv
     ·rename_i bl hbl
      obtain ⟨hc, hv⟩ := cond_true hv
      cases hv
      simp only [Bool.and_eq_true] at hc
      obtain ⟨⟨⟨⟨⟨c1, c2⟩, c3⟩, c4⟩, c5⟩, c6⟩ := hc
      have d1 : 0 < n := blt_lt c1
      have d2 : 0 < i.size := blt_lt c2
      have d3 : n ≤ 1000000 := Nat.le_of_ble_eq_true c3
      have d4 : i.bytes ≤ 1000 := Nat.le_of_ble_eq_true c4
      have d5 : z.cells.size = i.size := Nat.eq_of_beq_eq_true c5
      have hcs := leaves_eq _ _ hcs
      have hr := Lib.run_append_nil_zeros (P := P) w t tn ty e i z k kn hu htn hi hz n d1 d2 (by omega) (Nat.le_trans (Nat.mul_le_mul d3 d4) (by decide))
      have hge := grownCap_ge w n 0 e
      have hcm : grownCap w n 0 e ≤ maxLen := grownCap_le_maxLen w n 0 e (by unfold maxLen; omega)
      obtain ⟨g1, g2⟩ := Rep.push h.drew hbl (cur := Builtin.zeroCells z.cells n ++ Builtin.zeroCells z.cells (grownCap w n 0 e - n)) (c := grownCap w n 0 e) (by
       rw [Array.size_append, size_zeroCells, size_zeroCells, d5, ← Nat.add_mul]
       congr 1
       omega) hcm (by
       rw [hcs, conc_vals, Array.toList_append]
       exact List.take_left' (by simp)) (by rw [hcs]; exact below_vals _ _) c6
      refine ⟨_, _, ?_, g1, g2⟩
      rw [lit_conc E hx]
      refine hr.trans ?_
      simp only [AV.conc, One.conc, Leaf.conc, if_true, Nat.sub_zero]
      rfl
     ·cases hv
    ·cases hv
   ·cases hv
  ·cases hv
 ·cases hv
end
end Go.Proofs.YtkcdgaijklhnaaaGreatDoor
