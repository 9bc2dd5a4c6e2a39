/-
  Reckoning closed code over named blocks: append.
-/
import Derived.Test.YtgaiibkkompbnaaGreatDoorEg
import Derived.Lib.AppendZeros
namespace Go.Proofs.YtgaiibkkompbnaaGreatDoor
open Go.RowKit

theorem cond_true {α : Type} {c : Bool} {x : Option α} {y : α} (h : cond c x none = some y) : c = true ∧ x = some y := by
  cases c
  · cases h
  · exact ⟨rfl, h⟩
section
variable {P : Program} {B : Nat} {w0 : World} {E : Env} {st st' : St} {w : World} {m : Nat} {fr : Fr} {a : Act} {v : AV}
/-- a row that has grown, in place or anew -/
theorem Rep.grown (h : Rep B w0 E st w) {w' : World} {g cap e k : Nat} {cur : Array Value} {cs' : List Leaf} {bl1 bl2 : Tr Xblk} {row : Option Nat} {wr' : List Nat}
    (hbl1 : ∀ i t k cs, bl1.get i = some (.row t k cs) → st.bl.get i = some (.row t k cs) ∧ some (E.φ i) ≠ row)
    (hbl2 : ∀ i, i < st.nx → i ∉ wr' → bl1.get i = st.bl.get i) (hwr : ∀ b, b ∈ st.wr → b ∈ wr')
    (hs : bl1.set st.nx (.row e k cs') = some bl2) (hgr : w.grownBy w' row) (hrow : ∀ q, row = some q → B ≤ q)
    (hg : w'.heap[g]? = some (.cells cur e (0, 0))) (hat : some g = row ∨ g = w.heap.size) (hB : B ≤ g)
    (hz : cur.size = cap * k) (hc : cap ≤ maxLen) (ht : cur.toList.take cs'.length = cs'.map (Leaf.conc E)) (hb : cs'.all (Leaf.below st.nx) = true) (h1 : cs'.all Leaf.cell = true) :
    Rep B w0 ⟨fun i => if i = st.nx then g else E.φ i, fun i => if i = st.nx then cap else E.κ i⟩ ⟨bl2, st.nx + 1, wr'⟩ w' ∧
      Ext E st ⟨fun i => if i = st.nx then g else E.φ i, fun i => if i = st.nx then cap else E.κ i⟩ ⟨bl2, st.nx + 1, wr'⟩ := by
  have hget := Tr.get_set _ _ _ _ hs
  have hsame : Env.same st.nx E ⟨fun i => if i = st.nx then g else E.φ i, fun i => if i = st.nx then cap else E.κ i⟩ := fun b hb => by
    have : b ≠ st.nx := by omega
    simp [this]
  have hBw : B ≤ w.heap.size := Nat.le_trans h.base h.below.size
  have old : ∀ i t' k' cs', bl1.get i = some (.row t' k' cs') → E.φ i ≠ g := fun i t' k' cs' e1 => by
    obtain ⟨e2, e3⟩ := hbl1 i _ _ _ e1
    rcases hat with hat | hat
    · rw [← hat] at e3; exact fun hh => e3 (by rw [hh])
    · have := h.mem e2; omega
  refine ⟨⟨h.base, h.below.grown hgr hBw hrow, ?_, ?_, ?_⟩, ⟨Nat.le_succ _, hsame, hwr, fun b hb hw => ?_⟩⟩
  · intro i hi t' k' cs' e1
    rw [hget, if_neg (by simp at hi; omega)] at e1
    exact h.top i (by simp at hi; omega) _ _ _ (hbl1 i _ _ _ e1).1
  · intro i t' k' cs' e1
    rw [hget] at e1
    split at e1
    · rename_i hi
      subst hi
      injection e1 with e1
      injection e1 with e1 e2 e3
      subst e1 e2 e3
      refine ⟨⟨cur, ?_, ?_, ?_, ?_⟩, ?_, Leaf.all_mono (Nat.le_succ _) hb, h1⟩
      · simpa using hg
      · simpa using hz
      · simpa using hc
      · rw [ht, Leaf.map_same hsame hb]
      · simpa using hB
    · rename_i hi
      obtain ⟨e2, e3⟩ := hbl1 i _ _ _ e1
      obtain ⟨⟨cur', hg', g1, g2, g3⟩, g4, g5, g6⟩ := h.ok i t' k' cs' e2
      refine ⟨⟨cur', ?_, ?_, ?_, ?_⟩, ?_, Leaf.all_mono (Nat.le_succ _) g5, g6⟩
      · simp only [hi, if_false]
        rw [hgr.block _ (h.mem e2) e3]
        exact hg'
      · simpa [hi] using g1
      · simpa [hi] using g2
      · rw [g3, Leaf.map_same hsame g5]
      · simpa [hi] using g4
  · intro i j t1 k1 c1 t2 k2 c2 e1 e2 e3
    rw [hget] at e1 e2
    split at e1 <;> split at e2 <;> rename_i hi hj
    · rw [hi, hj]
    · simp only [hi, hj, if_true, if_false] at e3
      exact absurd e3.symm (old j _ _ _ e2)
    · simp only [hi, hj, if_true, if_false] at e3
      exact absurd e3 (old i _ _ _ e1)
    · simp only [hi, hj, if_false] at e3
      exact h.inj i j _ _ _ _ _ _ (hbl1 i _ _ _ e1).1 (hbl1 j _ _ _ e2).1 e3
  · simp only at hw ⊢
    rw [hget, if_neg (by omega)]
    exact hbl2 b hb hw

def emptyX : AV → Bool
  | .one (.leaf (.val (.slice none 0 0))) => true
  | .one (.leaf (.emp _ _)) => true
  | .one (.leaf (.sl _ _ _ 0)) => true
  | _ => false
/-- a slice whose length is within its room -/
def roomyX (st : St) : AV → Bool
  | .one (.leaf (.val (.slice none 0 0))) => true
  | .one (.leaf (.emp _ _)) => true
  | .one (.leaf (.sl b _ lo n)) => match st.bl.get b with
    | some (.row _ k cs) => Nat.blt 0 k && Nat.ble (Nat.mul (Nat.add lo n) k) cs.length
    | _ => false
  | _ => false
def newsX (st : St) (k : Nat) : AV → Option (List Leaf × Nat)
  | .one (.leaf (.sl b o _ m)) => match st.bl.get b with
    | some (.row _ _ cs) => match takeF (Nat.mul m k) (cs.drop o) with
      | some l => some (l, m)
      | none => none
    | _ => none
  | _ => none
/-- what the old slice holds, and the blocks without it -/
def oldsX (st : St) (e k : Nat) : AV → Option (List Leaf × Nat × Tr Xblk × List Nat)
  | .one (.leaf (.val (.slice none 0 0))) => some ([], 0, st.bl, st.wr)
  | .one (.leaf (.sl b 0 0 n)) => match st.bl.get b with
    | some (.row e' k' cs) => cond (Nat.beq e' e && Nat.beq k' k && Nat.blt 0 k) (match takeF (Nat.mul n k) cs, st.bl.set b .dead with
      | some l, some bl => some (l, n, bl, addW b st.wr)
      | _, _ => none) none
    | _ => none
  | _ => none
def appendF (l r : List Leaf) : Option (List Leaf) := forceL (l ++ r)
def appX (P : Program) (st : St) (t : Nat) (s x : AV) : Option (AV × St) :=
  match P.underlying t with
  | some (.slice e) => match P.info? e with
    | some i => match emptyX x with
      | true => cond (roomyX st s) (some (s, st)) none
      | false => match newsX st i.size x, i.zero with
        | some (news, m), some z => match oldsX st e i.size s with
          | some (olds, n, bl1, wr') => match appendF olds news with
            | some all => match bl1.set st.nx (.row e i.size all) with
              | some bl2 => cond (Nat.beq z.cells.size i.size && Nat.blt 0 i.size && Nat.blt 0 m && Nat.ble (Nat.add n m) 1000000 && Nat.ble i.bytes 1000 && all.all (Leaf.below st.nx) && all.all Leaf.cell)
                  (some (.one (.leaf (.sl st.nx 0 0 (Nat.add n m))), ⟨bl2, st.nx + 1, wr'⟩)) none
              | none => none
            | none => none
          | none => match s with
            | .one (.leaf (.emp _ _)) => match st.bl.set st.nx (.row e i.size news) with
              | some bl2 => cond (Nat.beq z.cells.size i.size && Nat.blt 0 i.size && Nat.blt 0 m && Nat.ble m 1000000 && Nat.ble i.bytes 1000 && news.all (Leaf.below st.nx) && news.all Leaf.cell) (some (.one (.leaf (.sl st.nx 0 0 m)), ⟨bl2, st.nx + 1, st.wr⟩)) none
              | none => none
            | _ => none
        | _, _ => none
    | none => none
  | _ => none
theorem emptyX_ok {x : AV} (h : emptyX x = true) (E : Env) : ∃ A c, x.conc E = .slice A 0 c := by
  unfold emptyX at h
  split at h
  · exact ⟨none, 0, rfl⟩
  · exact ⟨_, _, rfl⟩
  · exact ⟨_, _, rfl⟩
  · cases h
theorem roomyX_ok (h : Rep B w0 E st w) {s : AV} (hs : roomyX st s = true) : ∃ A n c, s.conc E = .slice A n c ∧ n ≤ c := by
  unfold roomyX at hs
  split at hs
  · exact ⟨none, 0, 0, rfl, Nat.le_refl _⟩
  · exact ⟨_, 0, 0, rfl, Nat.le_refl _⟩
  · rename_i b o lo n
    split at hs
    · rename_i t k cs hb
      simp only [Bool.and_eq_true] at hs
      have hk : 0 < k := blt_lt hs.1
      have hn : (lo + n) * k ≤ cs.length := Nat.le_of_ble_eq_true hs.2
      have := row_room h hb hn hk
      exact ⟨_, n, _, rfl, by omega⟩
    · cases hs
  · cases hs
theorem newsX_ok (h : Rep B w0 E st w) {k n : Nat} {x : AV} {l : List Leaf} (hx : newsX st k x = some (l, n)) :
    ∃ A c, x.conc E = .slice (some A) n c ∧ l.length = n * k ∧ (∀ j u, (l.map (Leaf.conc E))[j]? = some u → w.cell? (A.add j) = some u) ∧ (∀ u ∈ l.map (Leaf.conc E), u.oneCell' = true) := by
  unfold newsX at hx
  split at hx
  · rename_i b o lo n'
    split at hx
    · rename_i t k' cs hb
      split at hx
      · rename_i q hq
        cases hx
        obtain ⟨t1, t2⟩ := takeF_ok _ _ _ hq
        obtain ⟨hr, -, -, hcell⟩ := h.ok b _ _ _ hb
        refine ⟨⟨E.φ b, o, none⟩, _, rfl, t2, fun j u hu => ?_, fun u hu => ?_⟩
        · rw [List.getElem?_map] at hu
          cases hj : l[j]? with
          | none => rw [hj] at hu; cases hu
          | some y =>
            rw [hj] at hu
            cases hu
            rw [Addr.add_lit]
            refine row_cell hr ?_
            rw [t1, List.getElem?_take] at hj
            split at hj
            · rwa [List.getElem?_drop] at hj
            · cases hj
        · obtain ⟨y, hy, rfl⟩ := List.mem_map.1 hu
          rw [t1] at hy
          exact Leaf.cell_conc (List.all_eq_true.1 hcell y (List.mem_of_mem_drop (List.mem_of_mem_take hy))) E
      · cases hx
    · cases hx
  · cases hx
theorem oldsX_ok (h : Rep B w0 E st w) {e k n : Nat} {s : AV} {l : List Leaf} {bl1 : Tr Xblk} {wr' : List Nat} (hs : oldsX st e k s = some (l, n, bl1, wr')) :
    w.ownsRow B e k (s.conc E) n (l.map (Leaf.conc E)) ∧ (∀ i t k cs, bl1.get i = some (.row t k cs) → st.bl.get i = some (.row t k cs) ∧ some (E.φ i) ≠ (s.conc E).ownBlock) ∧
      (∀ i, i < st.nx → i ∉ wr' → bl1.get i = st.bl.get i) ∧ (∀ b, b ∈ st.wr → b ∈ wr') ∧ ∀ q, (s.conc E).ownBlock = some q → B ≤ q := by
  unfold oldsX at hs
  split at hs
  · cases hs
    exact ⟨World.ownsRow_nil w B e k, fun i t k cs hi => ⟨hi, by simp [AV.conc, One.conc, Leaf.conc, Value.ownBlock]⟩, fun _ _ _ => rfl, fun _ h => h, fun q hq => by simp [AV.conc, One.conc, Leaf.conc, Value.ownBlock] at hq⟩
  · rename_i b n'
    split at hs
    · rename_i e' k' cs hb
      cases hc : (Nat.beq e' e && Nat.beq k' k && Nat.blt 0 k) with
      | false => rw [hc] at hs; cases hs
      | true =>
      rw [hc] at hs
      simp only [Bool.and_eq_true] at hc
      have d1 : e' = e := Nat.eq_of_beq_eq_true hc.1.1
      have d2 : k' = k := Nat.eq_of_beq_eq_true hc.1.2
      subst d1 d2
      have hk : 0 < k' := blt_lt hc.2
      simp only [cond] at hs
      split at hs
      · rename_i q bl hq hbl
        cases hs
        obtain ⟨t1, t2⟩ := takeF_ok _ _ _ hq
        obtain ⟨⟨cur, hg, z0, z1, z2⟩, hB, -, hcell⟩ := h.ok b _ _ _ hb
        have hget := Tr.get_set _ _ _ _ hbl
        have hlen : l.length ≤ cs.length := by rw [t1, List.length_take]; omega
        have hq1 : (cur.toList.take cs.length).length = cs.length := by rw [z2, List.length_map]
        rw [List.length_take] at hq1
        have hq2 : cur.toList.length = cur.size := Array.length_toList
        refine ⟨⟨by rw [List.length_map]; exact t2, ?_⟩, fun i t k cs hi => ?_, fun i _ hw => ?_, fun c hc => (mem_addW _ _ _).2 (Or.inr hc), fun q hq => ?_⟩
        · refine Or.inr ⟨E.φ b, E.κ b, cur, by simp [AV.conc, One.conc, Leaf.conc], hB, hg, ?_, z1, z0, ?_⟩
          · have : n * k' ≤ E.κ b * k' := by
              have : n * k' = l.length := t2.symm
              omega
            exact Nat.le_of_mul_le_mul_right this hk
          · have e1 : cur.toList.take l.length = (cur.toList.take cs.length).take l.length := by rw [List.take_take, Nat.min_eq_left hlen]
            have e2 : n * k' = l.length := t2.symm
            rw [e2, e1, z2, ← List.map_take]
            congr 1
            rw [t2]
            exact t1.symm
        · rw [hget] at hi
          split at hi
          · cases hi
          · rename_i hne
            refine ⟨hi, fun e => hne ?_⟩
            simp only [AV.conc, One.conc, Leaf.conc, Value.ownBlock, Option.some.injEq] at e
            exact h.inj _ _ _ _ _ _ _ _ hi hb e
        · rw [hget, if_neg (fun e => hw ((mem_addW _ _ _).2 (Or.inl e)))]
        · simp only [AV.conc, One.conc, Leaf.conc, Value.ownBlock, Option.some.injEq] at hq
          rw [← hq]; exact hB
      · cases hs
    · cases hs
  · cases hs
theorem appX_ok (h : Rep B w0 E st w) {t ty : Nat} {s x : AV} (hv : appX P st t s x = some (v, st')) :
    ∃ E' w', (Builtin.append_ #[t, t] ty #[s.conc E, x.conc E]).run P w = .ok (v.conc E') w' ∧ Rep B w0 E' st' w' ∧ Ext E st E' st' := by
  have hBw : B ≤ w.heap.size := Nat.le_trans h.base h.below.size
  unfold appX at hv
  split at hv
  · rename_i e hu
    split at hv
    · rename_i i hi
      split at hv
      · rename_i hx
        cases hr : roomyX st s with
        | false => rw [hr] at hv; cases hv
        | true =>
          rw [hr] at hv
          cases hv
          obtain ⟨A, c, hc⟩ := emptyX_ok hx E
          obtain ⟨A', n, c', hs, hle⟩ := roomyX_ok h hr
          refine ⟨E, w, ?_, h, Ext.refl _ _⟩
          rw [hc, hs]
          cases A' <;> cases A <;> simp [Builtin.append_, run_underlying hu, sizeOf, typeInfo, hi, Builtin.lenOf, Builtin.firstCells, loadCells, loadCellsFrom, storeCells, hle]
      · split at hv
        · rename_i news n z hn hz
          obtain ⟨A, c, hx, n1, n2, n3⟩ := newsX_ok h hn
          split at hv
          · rename_i olds n0 bl1 wr' ho
            obtain ⟨o1, o2, o3, o4, o5⟩ := oldsX_ok h ho
            split at hv
            · rename_i all hall
              have hall := forceL_eq _ _ hall
              split at hv
              · rename_i bl2 hbl2
                cases hc : (Nat.beq z.cells.size i.size && Nat.blt 0 i.size && Nat.blt 0 n && Nat.ble (Nat.add n0 n) 1000000 && Nat.ble i.bytes 1000 && all.all (Leaf.below st.nx) && all.all Leaf.cell) with
                | false => rw [hc] at hv; cases hv
                | true =>
                rw [hc] at hv
                cases hv
                simp only [Bool.and_eq_true] at hc
                obtain ⟨⟨⟨⟨⟨⟨c1, c2⟩, c3⟩, c4⟩, c5⟩, c6⟩, c7⟩ := hc
                have d1 : z.cells.size = i.size := Nat.eq_of_beq_eq_true c1
                have d2 : 0 < i.size := blt_lt c2
                have d3 : 0 < n := blt_lt c3
                have d4 : n0 + n ≤ 1000000 := Nat.le_of_ble_eq_true c4
                have d5 : i.bytes ≤ 1000 := Nat.le_of_ble_eq_true c5
                obtain ⟨v', w', r1, r2, r3, r4, r5⟩ := run_append_own_at (P := P) w B t ty e i z i.size i.bytes hu hi hz rfl rfl d1 d2 (s.conc E) n0 _ o1 A n c _ (by rw [List.length_map]; exact n1) n2 n3 (by unfold maxLen; omega) (Nat.le_trans (Nat.mul_le_mul d4 d5) (by decide)) hBw
                obtain ⟨q1, q2 | ⟨g, cap, cur, q3, q4, q5, q6, q7, q8, q9⟩⟩ := r2
                · omega
                · subst q3
                  obtain ⟨g1, g2⟩ := Rep.grown h o2 o3 o4 hbl2 r3 o5 q5 (by
                    rcases r5 with r5 | r5
                    · exact Or.inl r5
                    · simp only [Value.ownBlock, Option.some.injEq] at r5; exact Or.inr r5) q4 q8 q7 (by
                    rw [hall, List.map_append]
                    have : (olds ++ news).length = (n0 + n) * i.size := by
                      rw [← q1]; simp
                    rw [this, q9]) c6 c7
                  refine ⟨_, w', ?_, g1, g2⟩
                  rw [hx, r1]
                  simp only [AV.conc, One.conc, Leaf.conc, if_true, Nat.sub_zero]
                  rfl
              · cases hv
            · cases hv
          · split at hv
            · rename_i b o _
              split at hv
              · rename_i bl2 hs'
                cases hc : (Nat.beq z.cells.size i.size && Nat.blt 0 i.size && Nat.blt 0 n && Nat.ble n 1000000 && Nat.ble i.bytes 1000 && news.all (Leaf.below st.nx) && news.all Leaf.cell) with
                | false => rw [hc] at hv; cases hv
                | true =>
                rw [hc] at hv
                cases hv
                simp only [Bool.and_eq_true] at hc
                obtain ⟨⟨⟨⟨⟨⟨c1, c2⟩, c3⟩, c4⟩, c5⟩, c6⟩, c7⟩ := hc
                have d1 : z.cells.size = i.size := Nat.eq_of_beq_eq_true c1
                have d2 : 0 < i.size := blt_lt c2
                have d3 : 0 < n := blt_lt c3
                have d4 : n ≤ 1000000 := Nat.le_of_ble_eq_true c4
                have d5 : i.bytes ≤ 1000 := Nat.le_of_ble_eq_true c5
                have hr := run_append_grow (P := P) (ty := ty) w t e i z hu hi hz ⟨E.φ b, o, none⟩ 0 0 [] (by simp) (fun j u hu => by simp at hu) A n c _ (by rw [List.length_map]; exact n1) n2 (by omega) (by omega) (growslice_fits (by omega) (by
                  rw [Nat.zero_add]
                  exact Nat.le_trans (Nat.mul_le_mul d4 d5) (by decide)))
                have hge := grownCap_ge w (0 + n) 0 e
                have hcm : grownCap w (0 + n) 0 e ≤ maxLen := grownCap_le_maxLen w (0 + n) 0 e (by unfold maxLen; omega)
                have hl : (news.map (Leaf.conc E)).length = n * i.size := by rw [List.length_map]; exact n1
                obtain ⟨g1, g2⟩ := Rep.push h.drew hs' (cur := ((#[] : Array Value) ++ (news.map (Leaf.conc E)).toArray ++ Builtin.zeroCells z.cells (grownCap w (0 + n) 0 e - (0 + n)))) (c := grownCap w (0 + n) 0 e) (by
                  simp only [Array.size_append, List.size_toArray, size_zeroCells, d1, hl, List.length_nil, Nat.zero_add]
                  rw [← Nat.add_mul]
                  congr 1
                  rw [Nat.zero_add] at hge
                  omega) hcm (by
                  simp only [Array.toList_append, List.nil_append]
                  exact List.take_left' (by simp)) c6 c7
                refine ⟨_, _, ?_, g1, g2⟩
                rw [hx]
                refine hr.trans ?_
                simp only [AV.conc, One.conc, Leaf.conc, if_true, Nat.sub_zero, Nat.zero_add]
                rfl
              · cases hv
            · cases hv
        · cases hv
    · cases hv
  · cases hv
/-- zeros put to nothing -/
def zapX (P : Program) (st : St) (t tn : Nat) (s x : AV) : Option (AV × St) :=
  match s, x.lit, P.underlying t, P.underlying tn with
  | .one (.leaf (.val (.slice none 0 0))), some (.int _ (.ofNat n)), some (.slice e), some (.int _) => match P.info? e with
    | some i => match i.zero with
      | some z => match leaves (Builtin.zeroCells z.cells n).toList with
        | some cs => match st.bl.set st.nx (.row e i.size cs) with
          | some bl => cond (Nat.blt 0 n && Nat.blt 0 i.size && Nat.ble n 1000000 && Nat.ble i.bytes 1000 && Nat.beq z.cells.size i.size && cs.all Leaf.cell) (some (.one (.leaf (.sl st.nx 0 0 n)), ⟨bl, st.nx + 1, st.wr⟩)) none
          | none => none
        | none => none
      | none => none
    | none => none
  | _, _, _, _ => none
theorem zapX_ok (h : Rep B w0 E st w) {t tn ty : Nat} {s x : AV} (hv : zapX P st t tn s x = some (v, st')) :
    ∃ E' w', (Builtin.append_ #[t, tn] ty #[s.conc E, x.conc E]).run P w = .ok (v.conc E') w' ∧ Rep B w0 E' st' w' ∧ Ext E st E' st' := by
  unfold zapX at hv
  split at hv
  · rename_i k n e kn hx hu htn
    split at hv
    · rename_i i hi
      split at hv
      · rename_i z hz
        split at hv
        · rename_i cs hcs
          split at hv
          · rename_i bl hbl
            obtain ⟨hc, hv⟩ := cond_true hv
            cases hv
            simp only [Bool.and_eq_true] at hc
            obtain ⟨⟨⟨⟨⟨c1, c2⟩, c3⟩, c4⟩, c5⟩, c6⟩ := hc
            have d1 : 0 < n := blt_lt c1
            have d2 : 0 < i.size := blt_lt c2
            have d3 : n ≤ 1000000 := Nat.le_of_ble_eq_true c3
            have d4 : i.bytes ≤ 1000 := Nat.le_of_ble_eq_true c4
            have d5 : z.cells.size = i.size := Nat.eq_of_beq_eq_true c5
            have hcs := leaves_eq _ _ hcs
            have hr := Lib.run_append_nil_zeros (P := P) w t tn ty e i z k kn hu htn hi hz n d1 d2 (by omega) (Nat.le_trans (Nat.mul_le_mul d3 d4) (by decide))
            have hge := grownCap_ge w n 0 e
            have hcm : grownCap w n 0 e ≤ maxLen := grownCap_le_maxLen w n 0 e (by unfold maxLen; omega)
            obtain ⟨g1, g2⟩ := Rep.push h.drew hbl (cur := Builtin.zeroCells z.cells n ++ Builtin.zeroCells z.cells (grownCap w n 0 e - n)) (c := grownCap w n 0 e) (by
              rw [Array.size_append, size_zeroCells, size_zeroCells, d5, ← Nat.add_mul]
              congr 1
              omega) hcm (by
              rw [hcs, conc_vals, Array.toList_append]
              exact List.take_left' (by simp)) (by rw [hcs]; exact below_vals _ _) c6
            refine ⟨_, _, ?_, g1, g2⟩
            rw [lit_conc E hx]
            refine hr.trans ?_
            simp only [AV.conc, One.conc, Leaf.conc, if_true, Nat.sub_zero]
            rfl
          · cases hv
        · cases hv
      · cases hv
    · cases hv
  · cases hv
end
end Go.Proofs.YtgaiibkkompbnaaGreatDoor
