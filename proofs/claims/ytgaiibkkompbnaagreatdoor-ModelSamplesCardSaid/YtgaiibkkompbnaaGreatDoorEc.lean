/-
  Reckoning closed code over named blocks: addresses, parts of values, comparisons with nil.
-/
import Derived.Test.YtgaiibkkompbnaaGreatDoorEb
namespace Go.Proofs.YtgaiibkkompbnaaGreatDoor
open Go.RowKit

/-- the cells of a value -/
def cellsOf : AV → Option (List Leaf)
  | .one (.leaf x) => cond x.cell (some [x]) none
  | .one (.agg l) => cond (l.all Leaf.cell) (some l) none
  | _ => none
theorem cells_one {v : Value} (h : v.oneCell' = true) : v.cells = #[v] := by cases v <;> first | rfl | cases h
theorem cellsOf_ok {v : AV} {l : List Leaf} (h : cellsOf v = some l) (E : Env) : (v.conc E).cells = (l.map (Leaf.conc E)).toArray ∧ l.all Leaf.cell = true ∧ ∀ m, v.below m = true → l.all (Leaf.below m) = true := by
  cases v with
  | tup l => cases h
  | one x =>
    cases x with
    | leaf x =>
      simp only [cellsOf] at h
      cases hc : x.cell with
      | false => rw [hc] at h; cases h
      | true =>
        rw [hc] at h
        cases h
        refine ⟨cells_one (Leaf.cell_conc hc E), by simp [hc], fun m hm => ?_⟩
        rw [List.all_cons, List.all_nil, Bool.and_true]
        exact hm
    | agg l =>
      simp only [cellsOf] at h
      cases hc : l.all Leaf.cell with
      | false => rw [hc] at h; cases h
      | true => rw [hc] at h; cases h; exact ⟨rfl, hc, fun m hm => hm⟩
    | fn f l => cases h
/-- a list with some of its places written anew -/
def splice (cs : List Leaf) : Nat → List Leaf → List Leaf
  | _, [] => cs
  | o, x :: l => splice (cs.set o x) (o + 1) l
theorem length_splice : ∀ (l cs : List Leaf) (o : Nat), (splice cs o l).length = cs.length
  | [], _, _ => rfl
  | x :: l, cs, o => by rw [splice, length_splice l]; simp
theorem map_splice (E : Env) : ∀ (l cs : List Leaf) (o : Nat), (splice cs o l).map (Leaf.conc E) = ((l.map (Leaf.conc E)).zipIdx o).foldl (fun c p => c.set p.2 p.1) (cs.map (Leaf.conc E))
  | [], _, _ => rfl
  | x :: l, cs, o => by rw [splice, map_splice E l]; simp
theorem all_splice {p : Leaf → Bool} : ∀ (l cs : List Leaf) (o : Nat), cs.all p = true → l.all p = true → (splice cs o l).all p = true
  | [], _, _, h, _ => h
  | x :: l, cs, o, h, k => by
    simp only [List.all_cons, Bool.and_eq_true] at k
    exact all_splice l _ _ (List.all_eq_true.2 fun y hy => by
      rcases List.mem_or_eq_of_mem_set hy with h1 | h1
      · exact List.all_eq_true.1 h y h1
      · rw [h1]; exact k.1) k.2
theorem fold_shift (off : Nat) : ∀ (l : List Value) (j : Nat) (c : List Value), ((l.zipIdx j).foldl (fun cs (p : Value × Nat) => cs.setIfInBounds (off + p.2) p.1) c.toArray) = ((l.zipIdx (off + j)).foldl (fun c p => c.set p.2 p.1) c).toArray
  | [], _, _ => rfl
  | x :: l, j, c => by
    simp only [List.zipIdx_cons, List.foldl_cons, List.setIfInBounds_toArray]
    rw [fold_shift off l (j + 1) _, Nat.add_assoc]
def fillX (place : Nat → Option (Nat × Nat)) (cells : List Leaf) : List (Nat × AV) → Option (List Leaf)
  | [] => some cells
  | (i, v) :: rest => match place i, cellsOf v with
    | some (off, size), some l => cond (Nat.beq l.length size) (cond (Nat.ble (off + l.length) cells.length) (fillX place (splice cells off l) rest) none) none
    | _, _ => none
theorem fillX_ok (E : Env) (place : Nat → Option (Nat × Nat)) : ∀ (ps : List (Nat × AV)) (cells r : List Leaf), fillX place cells ps = some r →
    Instr.fill place (cells.map (Leaf.conc E)).toArray (ps.map fun p => (p.1, p.2.conc E)) = some (r.map (Leaf.conc E)).toArray ∧ r.length = cells.length ∧
      (cells.all Leaf.cell = true → r.all Leaf.cell = true) ∧ (∀ m, cells.all (Leaf.below m) = true → (∀ p ∈ ps, p.2.below m = true) → r.all (Leaf.below m) = true)
  | [], cells, r, h => by cases h; exact ⟨rfl, rfl, id, fun _ h _ => h⟩
  | (i, v) :: rest, cells, r, h => by
    simp only [fillX] at h
    cases hp : place i with
    | none => rw [hp] at h; cases h
    | some q =>
      obtain ⟨off, size⟩ := q
      rw [hp] at h
      cases hv : cellsOf v with
      | none => rw [hv] at h; cases h
      | some l =>
        rw [hv] at h
        simp only at h
        cases h1 : Nat.beq l.length size with
        | false => rw [h1] at h; cases h
        | true =>
          rw [h1] at h
          cases h2 : Nat.ble (off + l.length) cells.length with
          | false => rw [h2] at h; cases h
          | true =>
            rw [h2] at h
            simp only [cond] at h
            obtain ⟨e1, e2, e3, e4⟩ := fillX_ok E place rest _ r h
            obtain ⟨c1, c2, c3⟩ := cellsOf_ok hv E
            have hsz : l.length = size := Nat.eq_of_beq_eq_true h1
            have hle : off + l.length ≤ cells.length := Nat.le_of_ble_eq_true h2
            refine ⟨?_, by rw [e2, length_splice], fun hc => e3 (all_splice _ _ _ hc c2), fun m hm hps => e4 m (all_splice _ _ _ hm (c3 m (hps _ List.mem_cons_self))) fun p hp => hps p (List.mem_cons_of_mem _ hp)⟩
            rw [List.map_cons, Instr.fill, hp]
            simp only
            rw [c1, if_neg (by simp; omega)]
            rw [← e1, map_splice]
            congr 1
            rw [show ((l.map (Leaf.conc E)).toArray.zipIdx) = ((l.map (Leaf.conc E)).zipIdx).toArray by simp]
            rw [List.foldl_toArray]
            exact fold_shift off (l.map (Leaf.conc E)) 0 (cells.map (Leaf.conc E))
def partsX (fr : Fr) : List (Nat × Operand) → Option (List (Nat × AV))
  | [] => some []
  | (i, x) :: l => match aev fr x, partsX fr l with
    | some v, some r => some ((i, v) :: r)
    | _, _ => none
theorem partsX_ok {E : Env} {m : Nat} {fr : Fr} {a : Act} (h : FrOk E m fr a) : ∀ (l : List (Nat × Operand)) (r : List (Nat × AV)), partsX fr l = some r →
    (l.map fun p => (p.1, a.eval p.2)) = (r.map fun p => (p.1, p.2.conc E)) ∧ ∀ p ∈ r, p.2.below m = true
  | [], r, hr => by cases hr; exact ⟨rfl, fun p hp => by cases hp⟩
  | (i, x) :: l, r, hr => by
    simp only [partsX] at hr
    cases hx : aev fr x with
    | none => rw [hx] at hr; cases hr
    | some v =>
      rw [hx] at hr
      cases hl : partsX fr l with
      | none => rw [hl] at hr; cases hr
      | some q =>
        rw [hl] at hr
        cases hr
        obtain ⟨h1, h2⟩ := aev_ok h hx
        obtain ⟨h3, h4⟩ := partsX_ok h l q hl
        refine ⟨by rw [List.map_cons, List.map_cons, h3, h1], fun p hp => ?_⟩
        rcases List.mem_cons.1 hp with rfl | hp
        · exact h2
        · exact h4 p hp
def capsX (fr : Fr) : List Operand → Option (List Leaf)
  | [] => some []
  | x :: l => match aev fr x, capsX fr l with
    | some (.one (.leaf y)), some r => some (y :: r)
    | _, _ => none
theorem capsX_ok {E : Env} {m : Nat} {fr : Fr} {a : Act} (h : FrOk E m fr a) : ∀ (l : List Operand) (r : List Leaf), capsX fr l = some r → l.map a.eval = r.map (Leaf.conc E) ∧ r.all (Leaf.below m) = true
  | [], r, hr => by cases hr; exact ⟨rfl, rfl⟩
  | x :: l, r, hr => by
    simp only [capsX] at hr
    split at hr
    · rename_i y q hx hl
      cases hr
      obtain ⟨h1, h2⟩ := aev_ok h hx
      obtain ⟨h3, h4⟩ := capsX_ok h l q hl
      refine ⟨by rw [List.map_cons, List.map_cons, h3, h1]; rfl, ?_⟩
      rw [List.all_cons, h4, Bool.and_true]
      exact h2
    · cases hr
/-- the fields' places -/
def placesX (P : Program) (fields : Array Field) : Option (Array (Nat × Nat)) := still P (fields.mapM fun f => do pure (f.offset, ← sizeOf f.type))
def zeroX (P : Program) (t : Nat) : Option (List Leaf) :=
  match P.info? t with
  | some i => match i.zero with
    | some z => match normF z with
      | some v => cellsOf v
      | none => none
    | none => none
  | none => none
theorem zeroX_ok {P : Program} {t : Nat} {l : List Leaf} (h : zeroX P t = some l) (E : Env) : ∃ i z, P.info? t = some i ∧ i.zero = some z ∧ z.cells = (l.map (Leaf.conc E)).toArray ∧ l.all Leaf.cell = true ∧ ∀ m, l.all (Leaf.below m) = true := by
  unfold zeroX at h
  split at h
  · rename_i i hi
    split at h
    · rename_i z hz
      split at h
      · rename_i v hv
        obtain ⟨c1, c2, c3⟩ := cellsOf_ok h E
        refine ⟨i, z, hi, hz, ?_, c2, fun m => c3 m (normF_ok hv E m).2⟩
        rw [← c1, (normF_ok hv E 0).1]
      · cases h
    · cases h
  · cases h
def buildX (P : Program) (fr : Fr) (t : Nat) (parts : Array (Nat × Operand)) : Option AV :=
  match zeroX P t, P.underlying t, partsX fr parts.toList with
  | some zs, some (.struct fields), some ps => match placesX P fields with
    | some pl => match fillX (fun i => pl[i]?) zs ps with
      | some l => some (.one (.agg l))
      | none => none
    | none => none
  | _, _, _ => none
theorem buildX_ok {P : Program} {E : Env} {m : Nat} {fr : Fr} {a : Act} {t : Nat} {parts : Array (Nat × Operand)} {v : AV} (h : FrOk E m fr a) (hv : buildX P fr t parts = some v) (w : World) :
    (Instr.build t (parts.map fun (i, x) => (i, a.eval x))).run P w = .ok (v.conc E) w ∧ v.below m = true := by
  unfold buildX at hv
  split at hv
  · rename_i zs fields ps hz hu hp
    split at hv
    · rename_i pl hpl
      split at hv
      · rename_i l hl
        cases hv
        obtain ⟨i, z, hi, hiz, z1, z2, z3⟩ := zeroX_ok hz E
        obtain ⟨f1, f2, f3, f4⟩ := fillX_ok E _ ps zs l hl
        obtain ⟨p1, p2⟩ := partsX_ok h _ _ hp
        refine ⟨?_, f4 m (z3 m) p2⟩
        have hpl' := still_run hpl w
        have hps : (parts.map fun (x : Nat × Operand) => (x.1, a.eval x.2)).toList = ps.map fun p => (p.1, p.2.conc E) := by rw [Array.toList_map]; exact p1
        have hzr : (zeroValue t).run P w = .ok z w := by simp [zeroValue, typeInfo, hi, hiz]
        simp only [Instr.build, Sem.run_bind, hzr, run_underlying hu w, Result.andThen_ok]
        rw [hpl']
        simp only [Result.andThen_ok]
        rw [hps, z1, f1]
        rfl
      · cases hv
    · cases hv
  · cases hv
end Go.Proofs.YtgaiibkkompbnaaGreatDoor
