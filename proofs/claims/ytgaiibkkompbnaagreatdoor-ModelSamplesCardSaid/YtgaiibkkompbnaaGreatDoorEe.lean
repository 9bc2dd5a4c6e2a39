/-
  Reckoning closed code over named blocks: operations on memory.
-/
import Derived.Test.YtgaiibkkompbnaaGreatDoorEd
import Derived.Maps.AppendAt
import Derived.Great.BuildSlice
namespace Go.Proofs.YtgaiibkkompbnaaGreatDoor
open Go.RowKit

/-- a list reckoned out -/
def takeF : Nat → List Leaf → Option (List Leaf)
  | 0, _ => some []
  | _ + 1, [] => none
  | n + 1, x :: l => match takeF n l with
    | some r => some (x :: r)
    | none => none
theorem takeF_ok : ∀ (n : Nat) (l r : List Leaf), takeF n l = some r → r = l.take n ∧ r.length = n
  | 0, l, r, h => by cases h; exact ⟨rfl, rfl⟩
  | _ + 1, [], r, h => by cases h
  | n + 1, x :: l, r, h => by
    simp only [takeF] at h
    cases hl : takeF n l with
    | none => rw [hl] at h; cases h
    | some q => rw [hl] at h; cases h; obtain ⟨h1, h2⟩ := takeF_ok n l q hl; exact ⟨by rw [List.take_succ_cons, h1], by simp [h2]⟩
def memB (a : Nat) : List Nat → Bool
  | [] => false
  | b :: l => cond (Nat.beq a b) true (memB a l)
theorem memB_iff (a : Nat) : ∀ l : List Nat, memB a l = true ↔ a ∈ l
  | [] => by simp [memB]
  | b :: l => by
    simp only [memB, List.mem_cons]
    cases h : Nat.beq a b with
    | true => have := Nat.eq_of_beq_eq_true h; simp [this]
    | false => have := Nat.ne_of_beq_eq_false h; simp [this, memB_iff a l]
def addW (a : Nat) (l : List Nat) : List Nat := match memB a l with
  | true => l
  | false => a :: l
theorem mem_addW (a : Nat) (l : List Nat) (b : Nat) : b ∈ addW a l ↔ b = a ∨ b ∈ l := by
  unfold addW
  split
  · rename_i h
    have := (memB_iff a l).1 h
    constructor
    · exact Or.inr
    · rintro (rfl | h)
      · exact this
      · exact h
  · simp
theorem Rep.wr {B : Nat} {w0 : World} {E : Env} {bl : Tr Xblk} {nx : Nat} {wr wr' : List Nat} {w : World} (h : Rep B w0 E ⟨bl, nx, wr⟩ w) : Rep B w0 E ⟨bl, nx, wr'⟩ w :=
  ⟨h.base, h.below, h.top, h.ok, h.inj⟩

/-- tables that are only read: their cells -/
abbrev Tbl := Nat → Option (List Leaf)
def TblW (tbl : Tbl) (w : World) : Prop := ∀ g cs, tbl g = some cs → ∀ (E : Env) (j : Nat) (x : Leaf), cs[j]? = some x → w.cell? ⟨g, j, none⟩ = some (x.conc E)
def TblOk (tbl : Tbl) (B : Nat) (w0 : World) : Prop := ∀ w, Below B w0 w → TblW tbl w
def readX (P : Program) (t : Nat) (cs : List Leaf) (o : Nat) : Option AV :=
  match P.underlying t, sizeX P t with
  | some d, some n => cond d.isRow (match takeF n (cs.drop o) with | some l => some (.one (.agg l)) | none => none) (match cs.drop o with | y :: _ => some (.one (.leaf y)) | [] => none)
  | _, _ => none
def loadX (P : Program) (tbl : Tbl) (st : St) (t : Nat) : AV → Option AV
  | .one (.leaf (.ptr b o)) => match st.bl.get b with
    | some (.row _ _ cs) => readX P t cs o
    | _ => none
  | .one (.leaf (.val (.pointer (some ⟨g, o, none⟩)))) => match tbl g with
    | some cs => readX P t cs o
    | none => none
  | _ => none
theorem row_cell {E : Env} {w : World} {i t k : Nat} {cs : List Leaf} (h : RowOk E w i t k cs) {j : Nat} {x : Leaf} (hj : cs[j]? = some x) : w.cell? ⟨E.φ i, j, none⟩ = some (x.conc E) := by
  obtain ⟨cur, hg, -, -, ht⟩ := h
  rw [cell_of_row w _ _ _ _ _ hg]
  have h1 : (cs.map (Leaf.conc E))[j]? = some (x.conc E) := by rw [List.getElem?_map, hj]; rfl
  rw [← ht, List.getElem?_take] at h1
  split at h1
  · rwa [Array.getElem?_toList] at h1
  · cases h1
theorem readX_ok {P : Program} {E : Env} {w : World} {t g o : Nat} {cs : List Leaf} {r : AV} (hl : readX P t cs o = some r)
    (hw : ∀ j x, cs[j]? = some x → w.cell? ⟨g, j, none⟩ = some (x.conc E)) : (Instr.loadAt t (.pointer (some ⟨g, o, none⟩))).run P w = .ok (r.conc E) w := by
  unfold readX at hl
  split at hl
  · rename_i d n hd hn
    obtain ⟨i, hi, rfl⟩ := sizeX_ok hn
    cases hrow : d.isRow with
    | true =>
      rw [hrow] at hl
      simp only [cond] at hl
      split at hl
      · rename_i l hlt
        cases hl
        obtain ⟨h1, h2⟩ := takeF_ok _ _ _ hlt
        refine run_loadAt_mid (P := P) w g o t (l.map (Leaf.conc E)) d (fun j u hu => ?_) hd hrow (by simp [hi, h2])
        rw [List.getElem?_map] at hu
        cases hj : l[j]? with
        | none => rw [hj] at hu; cases hu
        | some x =>
          rw [hj] at hu
          cases hu
          refine hw _ _ ?_
          rw [h1, List.getElem?_take] at hj
          split at hj
          · rwa [List.getElem?_drop] at hj
          · cases hj
      · cases hl
    | false =>
      rw [hrow] at hl
      simp only [cond] at hl
      split at hl
      · rename_i y l hy
        cases hl
        have hj : cs[o]? = some y := by
          have : (cs.drop o)[0]? = some y := by rw [hy]; rfl
          rwa [List.getElem?_drop, Nat.add_zero] at this
        have hagg : (isAgg t).run P w = .ok false w := by
          unfold isAgg; rw [Sem.run_bind, run_underlying hd w]; cases d <;> simp_all
        have hc := hw _ _ hj
        simp [Instr.loadAt, AV.conc, One.conc, Instr.sureAddr, loadVar, hagg, hc]
      · cases hl
  · cases hl
theorem loadX_ok {P : Program} {tbl : Tbl} {E : Env} {st : St} {w : World} {t : Nat} {v r : AV} (hl : loadX P tbl st t v = some r) (ht : TblW tbl w)
    (hw : ∀ b o, v = .one (.leaf (.ptr b o)) → ∀ tt k cs, st.bl.get b = some (.row tt k cs) → RowOk E w b tt k cs) : (Instr.loadAt t (v.conc E)).run P w = .ok (r.conc E) w := by
  unfold loadX at hl
  split at hl
  · rename_i b o
    split at hl
    · rename_i tt k cs hb
      exact readX_ok hl fun j x hj => row_cell (hw b o rfl _ _ _ hb) hj
    · cases hl
  · rename_i g o
    split at hl
    · rename_i cs hg
      exact readX_ok hl fun j x hj => ht g cs hg E j x hj
    · cases hl
  · cases hl

theorem splice_take (cur L : List Value) (o n : Nat) (h : o + L.length ≤ n) (hn : n ≤ cur.length) : (cur.take o ++ L ++ cur.drop (o + L.length)).take n = (cur.take n).take o ++ L ++ (cur.take n).drop (o + L.length) := by
  have h1 : (cur.take o ++ L).length = o + L.length := by simp; omega
  rw [List.take_append, h1, List.take_of_length_le (by omega), List.drop_take, List.take_take, Nat.min_eq_left (by omega)]
theorem splice_eq : ∀ (l cs : List Leaf) (o : Nat), o + l.length ≤ cs.length → splice cs o l = cs.take o ++ l ++ cs.drop (o + l.length)
  | [], cs, o, _ => by simp [splice]
  | x :: l, cs, o, h => by
    simp only [List.length_cons] at h
    rw [splice, splice_eq l _ _ (by simp; omega)]
    have h1 : (cs.set o x).take (o + 1) = cs.take o ++ [x] := by
      rw [List.take_add_one, List.take_set_of_le (Nat.le_refl _)]
      simp [List.getElem?_set]
      omega
    have h2 : (cs.set o x).drop (o + 1 + l.length) = cs.drop (o + (x :: l).length) := by
      rw [List.drop_set_of_lt (by omega)]
      congr 1
      simp; omega
    rw [h1, h2]
    simp
def forceL : List Leaf → Option (List Leaf)
  | [] => some []
  | x :: l => match forceL l with
    | some r => some (x :: r)
    | none => none
theorem forceL_eq : ∀ (l r : List Leaf), forceL l = some r → r = l
  | [], r, h => by cases h; rfl
  | x :: l, r, h => by
    simp only [forceL] at h
    cases hl : forceL l with
    | none => rw [hl] at h; cases h
    | some q => rw [hl] at h; cases h; rw [forceL_eq l q hl]
def storeX (P : Program) (st : St) (t : Nat) (v x : AV) : Option St :=
  match v with
  | .one (.leaf (.ptr b o)) => match st.bl.get b, cellsOf x, sizeX P t with
    | some (.row tt k cs), some l, some n =>
      cond (Nat.beq l.length n) (cond (Nat.ble (o + l.length) cs.length) (cond (x.below st.nx) (match forceL (splice cs o l) with
        | some cs' => match st.bl.set b (.row tt k cs') with
          | some bl => some ⟨bl, st.nx, addW b st.wr⟩
          | none => none
        | none => none) none) none) none
    | _, _, _ => none
  | _ => none
section
variable {P : Program} {B : Nat} {w0 : World} {E : Env} {st st' : St} {w : World}
theorem storeX_ok (h : Rep B w0 E st w) {t : Nat} {v x : AV} (hs : storeX P st t v x = some st') :
    ∃ w', (Instr.storeAt t (v.conc E) (x.conc E)).run P w = .ok () w' ∧ Rep B w0 E st' w' ∧ Ext E st E st' := by
  unfold storeX at hs
  split at hs
  · rename_i b o
    split at hs
    · rename_i tt k cs l n hb hl hn
      obtain ⟨i, hi, rfl⟩ := sizeX_ok hn
      cases h1 : Nat.beq l.length i.size with
      | false => rw [h1] at hs; cases hs
      | true =>
      rw [h1] at hs
      cases h2 : Nat.ble (o + l.length) cs.length with
      | false => rw [h2] at hs; cases hs
      | true =>
      rw [h2] at hs
      cases h3 : x.below st.nx with
      | false => rw [h3] at hs; cases hs
      | true =>
      rw [h3] at hs
      simp only [cond] at hs
      split at hs
      · rename_i cs' hcs
        split at hs
        · rename_i bl hbl
          cases hs
          have hcs := forceL_eq _ _ hcs
          obtain ⟨c1, c2, c3⟩ := cellsOf_ok hl E
          have e1 : l.length = i.size := Nat.eq_of_beq_eq_true h1
          have e2 : o + l.length ≤ cs.length := Nat.le_of_ble_eq_true h2
          obtain ⟨⟨cur, hg, z0, z1, z2⟩, hB, hbl0, hcl⟩ := h.ok b tt k cs hb
          have hlen : cs.length ≤ cur.size := by
            have hq : (cur.toList.take cs.length).length = cs.length := by rw [z2, List.length_map]
            rw [List.length_take] at hq
            have hq2 : cur.toList.length = cur.size := Array.length_toList
            omega
          have hst := run_storeCells_at P (E.φ b) o tt (l.map (Leaf.conc E)) 0 cur w hg (by simp; omega) (fun u hu => by
            obtain ⟨y, hy, rfl⟩ := List.mem_map.1 hu
            exact Leaf.cell_conc (List.all_eq_true.1 c2 y hy) E)
          simp only [Nat.add_zero, List.length_map] at hst
          have hr : (Instr.storeAt t ((AV.one (.leaf (.ptr b o))).conc E) (x.conc E)).run P w = .ok () (w.setRow (E.φ b) (cur.toList.take o ++ l.map (Leaf.conc E) ++ cur.toList.drop (o + l.length)).toArray) := by
            simp only [AV.conc, One.conc, Leaf.conc] at c1 ⊢
            simp only [Instr.storeAt, Instr.sureAddr, storeVar, Sem.run_bind, Sem.run_pure, Result.andThen_ok]
            have : x.conc E = x.conc E := rfl
            simp only [AV.conc, One.conc, Leaf.conc] at this
            simp [sizeOf, typeInfo, hi, c1, e1, hst]
            try rw [← e1]; exact hst
          have hw := Rep.write h (cur' := (cur.toList.take o ++ l.map (Leaf.conc E) ++ cur.toList.drop (o + l.length)).toArray) hb hbl hg (by simp; omega) (by
            rw [hcs, length_splice, splice_eq _ _ _ e2]
            simp only [List.map_append, List.map_take, List.map_drop, ← z2]
            have := splice_take cur.toList (l.map (Leaf.conc E)) o cs.length (by simpa using e2) (by simpa using hlen)
            simpa using this) (by rw [hcs]; exact all_splice _ _ _ hbl0 (c3 _ h3)) (by rw [hcs]; exact all_splice _ _ _ hcl c2)
          exact ⟨_, hr, hw.1.wr, ⟨hw.2.nx, hw.2.env, fun c hc => (mem_addW _ _ _).2 (Or.inr hc), fun c hc hn => hw.2.bl c hc (fun hh => hn ((mem_addW _ _ _).2 (by simpa using hh)))⟩⟩
        · cases hs
      · cases hs
    · cases hs
  · cases hs
end
end Go.Proofs.YtgaiibkkompbnaaGreatDoor
