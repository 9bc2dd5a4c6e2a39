/-
  Reckoning closed code over named blocks: cuts and appends.
-/
import Derived.Test.YtgaiibkkompbnaaGreatDoorEf
namespace Go.Proofs.YtgaiibkkompbnaaGreatDoor
open Go.RowKit

def boundX (fr : Fr) (d : Nat) : Option Operand → Option Nat
  | none => some d
  | some x => match litOf fr x with
    | some (.int _ (.ofNat i)) => some i
    | _ => none
def sliceX (P : Program) (fr : Fr) (st : St) (t : Nat) (x : Operand) (lo hi mx : Option Operand) : Option AV :=
  match P.underlying t with
  | some (.slice e) => match sizeX P e with
    | some k => match aev fr x with
      | some (.one (.leaf (.sl b o lo0 n))) => match mx with
        | none => match boundX fr 0 lo, boundX fr n hi, st.bl.get b with
          | some l, some h, some (.row _ k' cs) =>
            cond (Nat.beq k' k && !Nat.beq k 0 && Nat.ble l h && Nat.ble h n && (Nat.blt l h || Nat.beq l 0) && Nat.ble (Nat.mul (Nat.add lo0 n) k) cs.length)
              (some (.one (.leaf (.sl b (Nat.add o (Nat.mul l k)) (Nat.add lo0 l) (Nat.sub h l))))) none
          | _, _, _ => none
        | some mo => match boundX fr 0 lo, boundX fr n hi, litOf fr mo with
          | some 0, some 0, some (.int _ (.ofNat 0)) => match hi with
            | some _ => some (.one (.leaf (.emp b o)))
            | none => none
          | _, _, _ => none
      | some (.one (.leaf (.emp b o))) => match mx with
        | none => match boundX fr 0 lo, boundX fr 0 hi with
          | some 0, some 0 => some (.one (.leaf (.emp b o)))
          | _, _ => none
        | some _ => none
      | _ => none
    | none => none
  | _ => none
section
variable {P : Program} {B : Nat} {w0 : World} {E : Env} {st st' : St} {w : World} {m : Nat} {fr : Fr} {a : Act} {v : AV}
theorem boundX_run (hf : FrOk E m fr a) {x : Operand} {d i : Nat} (h : boundX fr d (some x) = some i) : ∃ k, a.eval x = .int k (Int.ofNat i) := by
  simp only [boundX] at h
  split at h
  · rename_i k j hl
    cases h
    exact ⟨k, litOf_eval hf hl⟩
  · cases h
theorem bounds_run (hf : FrOk E m fr a) {lo hi : Option Operand} {l h n cap : Nat} (hl : boundX fr 0 lo = some l) (hh : boundX fr n hi = some h) (h1 : l ≤ h) (h2 : h ≤ n) (h3 : n ≤ cap) (w : World) :
    (Instr.sliceBounds true n cap (lo.map a.eval) (hi.map a.eval) none).run P w = .ok (l, h, cap) w := by
  have hcap : h ≤ cap := Nat.le_trans h2 h3
  cases lo with
  | none =>
    simp only [boundX, Option.some.injEq] at hl
    subst hl
    cases hi with
    | none => simp only [boundX, Option.some.injEq] at hh; subst hh; simp [Instr.sliceBounds]
    | some y =>
      obtain ⟨k, hy⟩ := boundX_run hf hh
      simp [Instr.sliceBounds, hy, Instr.sliceBound, asIntOf, hcap]
  | some x =>
    obtain ⟨k, hx⟩ := boundX_run hf hl
    cases hi with
    | none =>
      simp only [boundX, Option.some.injEq] at hh
      subst hh
      simp [Instr.sliceBounds, hx, Instr.sliceBound, asIntOf, h1]
    | some y =>
      obtain ⟨k', hy⟩ := boundX_run hf hh
      simp [Instr.sliceBounds, hx, hy, Instr.sliceBound, asIntOf, hcap, h1]
theorem row_room (h : Rep B w0 E st w) {b t k : Nat} {cs : List Leaf} (hb : st.bl.get b = some (.row t k cs)) {n : Nat} (hn : n * k ≤ cs.length) (hk : 0 < k) : n ≤ E.κ b := by
  obtain ⟨⟨cur, hg, z0, z1, z2⟩, -⟩ := h.ok b t k cs hb
  have hq : (cur.toList.take cs.length).length = cs.length := by rw [z2, List.length_map]
  rw [List.length_take] at hq
  have hq2 : cur.toList.length = cur.size := Array.length_toList
  have : n * k ≤ E.κ b * k := by omega
  exact Nat.le_of_mul_le_mul_right this hk
theorem sliceX_ok (h : Rep B w0 E st w) (hf : FrOk E m fr a) {t : Nat} {x : Operand} {lo hi mx : Option Operand} (hv : sliceX P fr st t x lo hi mx = some v) :
    (Instr.sliceAt t (a.eval x) (lo.map a.eval) (hi.map a.eval) (mx.map a.eval)).run P w = .ok (v.conc E) w ∧ v.below m = true := by
  unfold sliceX at hv
  split at hv
  · rename_i e hu
    have hat : ∀ y : Value, (Instr.sliceAt t y (lo.map a.eval) (hi.map a.eval) (mx.map a.eval)).run P w = (Instr.slice t y (lo.map a.eval) (hi.map a.eval) (mx.map a.eval)).run P w := fun y => by
      simp [Instr.sliceAt, run_underlying hu]
    split at hv
    · rename_i k hk
      obtain ⟨ie, hie, rfl⟩ := sizeX_ok hk
      split at hv
      · rename_i b o lo0 n hx
        obtain ⟨h1, h2⟩ := aev_ok hf hx
        split at hv
        · split at hv
          · rename_i l hh tt k' cs hl hhi hb
            cases hc : (Nat.beq k' ie.size && !Nat.beq ie.size 0 && Nat.ble l hh && Nat.ble hh n && (Nat.blt l hh || Nat.beq l 0) && Nat.ble (Nat.mul (Nat.add lo0 n) ie.size) cs.length) with
            | false => rw [hc] at hv; cases hv
            | true =>
            rw [hc] at hv
            cases hv
            simp only [Bool.and_eq_true, Bool.or_eq_true, Bool.not_eq_true'] at hc
            obtain ⟨⟨⟨⟨⟨c1, c2⟩, c3⟩, c4⟩, c5⟩, c6⟩ := hc
            have d1 : k' = ie.size := Nat.eq_of_beq_eq_true c1
            have d2 : ie.size ≠ 0 := Nat.ne_of_beq_eq_false c2
            have d3 : l ≤ hh := Nat.le_of_ble_eq_true c3
            have d4 : hh ≤ n := Nat.le_of_ble_eq_true c4
            have d5 : l < hh ∨ l = 0 := c5.imp blt_lt Nat.eq_of_beq_eq_true
            have d6 : (lo0 + n) * ie.size ≤ cs.length := Nat.le_of_ble_eq_true c6
            subst d1
            have room := row_room h hb d6 (Nat.pos_of_ne_zero d2)
            refine ⟨?_, h2⟩
            rw [h1, hat]
            simp only [AV.conc, One.conc, Leaf.conc, Option.map_none]
            rw [run_slice_any (P := P) w t _ _ _ (by simp [Program.elem, hu]), bounds_run hf hl hhi d3 d4 (by omega : n ≤ E.κ b - lo0) w]
            have he : P.elem t = e := by simp [Program.elem, hu]
            have hsz : (sizeOf e).run P w = .ok ie.size w := by simp [sizeOf, typeInfo, hie]
            simp only [Result.andThen_ok, he, hsz, sliced]
            rw [show E.κ b - (lo0.add l) = E.κ b - lo0 - l from (Nat.sub_sub _ _ _).symm]
            refine congrArg (fun q => Result.ok (Value.slice q (hh - l) (E.κ b - lo0 - l)) w) ?_
            split
            · rename_i hm
              rcases d5 with d5 | d5
              · omega
              · subst d5; simp
            · exact congrArg some (Addr.add_lit _ _ _)
          · cases hv
        · rename_i mo
          split at hv
          · rename_i km hl hhi hm
            split at hv
            · rename_i y
              cases hv
              refine ⟨?_, h2⟩
              rw [h1, hat]
              obtain ⟨kh, hy⟩ := boundX_run hf hhi
              have hm' := litOf_eval hf hm
              cases lo with
              | none => simp [AV.conc, One.conc, Leaf.conc, Instr.slice, run_underlying hu, Instr.sliceBounds, Instr.sliceBound, asIntOf, hy, hm', sizeOf, typeInfo, hie]
              | some x2 =>
                obtain ⟨kl, hx2⟩ := boundX_run hf hl
                simp [AV.conc, One.conc, Leaf.conc, Instr.slice, run_underlying hu, Instr.sliceBounds, Instr.sliceBound, asIntOf, hy, hx2, hm', sizeOf, typeInfo, hie]
            · cases hv
          · cases hv
      · rename_i b o hx
        obtain ⟨h1, h2⟩ := aev_ok hf hx
        split at hv
        · split at hv
          · rename_i hl hhi
            cases hv
            refine ⟨?_, h2⟩
            rw [h1, hat]
            simp only [AV.conc, One.conc, Leaf.conc, Option.map_none]
            rw [run_slice_any (P := P) w t _ _ _ (by simp [Program.elem, hu]), bounds_run hf hl hhi (Nat.le_refl _) (Nat.le_refl _) (Nat.le_refl _) w]
            have he : P.elem t = e := by simp [Program.elem, hu]
            have hsz : (sizeOf e).run P w = .ok ie.size w := by simp [sizeOf, typeInfo, hie]
            simp [Result.andThen_ok, he, hsz, sliced]
          · cases hv
        · cases hv
      · cases hv
    · cases hv
  · cases hv
end
end Go.Proofs.YtgaiibkkompbnaaGreatDoor
