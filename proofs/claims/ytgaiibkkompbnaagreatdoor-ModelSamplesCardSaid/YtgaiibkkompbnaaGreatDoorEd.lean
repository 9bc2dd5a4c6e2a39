/-
  Reckoning closed code over named blocks: operations on addresses.
-/
import Derived.Test.YtgaiibkkompbnaaGreatDoorEc
namespace Go.Proofs.YtgaiibkkompbnaaGreatDoor
open Go.RowKit

def sizeX (P : Program) (t : Nat) : Option Nat := match P.info? t with | some i => some i.size | none => none
theorem sizeX_ok {P : Program} {t n : Nat} (h : sizeX P t = some n) : ∃ i, P.info? t = some i ∧ i.size = n := by
  unfold sizeX at h
  split at h
  · rename_i i hi; cases h; exact ⟨i, hi, rfl⟩
  · cases h
def fieldAddrX (P : Program) (fr : Fr) (s : Nat) (x : Operand) (f : Nat) : Option AV :=
  match aev fr x, P.underlying s with
  | some (.one (.leaf (.ptr b o))), some (.struct fields) => match fields[f]? with
    | some fd => match sizeX P fd.type with
      | some n => cond (Nat.beq n 0) none (some (.one (.leaf (.ptr b (Nat.add o fd.offset)))))
      | none => none
    | none => none
  | _, _ => none
def indexAddrX (P : Program) (fr : Fr) (t : Nat) (x ix : Operand) : Option AV :=
  match aev fr x, litOf fr ix, P.underlying t with
  | some (.one (.leaf (.sl b o _ n))), some (.int _ (.ofNat i)), some (.slice e) => match sizeX P e with
    | some s => cond (Nat.blt i n) (some (.one (.leaf (.ptr b (Nat.add o (Nat.mul i s)))))) none
    | none => none
  | some (.one (.leaf (.ptr b o))), some (.int _ (.ofNat i)), some (.array n e) => match sizeX P e with
    | some s => cond (Nat.blt i n) (some (.one (.leaf (.ptr b (Nat.add o (Nat.mul i s)))))) none
    | none => none
  | _, _, _ => none
def fieldX (P : Program) (fr : Fr) (t : Nat) (x : Operand) (f : Nat) : Option AV :=
  match aev fr x, P.underlying t with
  | some (.one (.agg l)), some (.struct fields) => match fields[f]? with
    | some fd => match P.underlying fd.type, sizeX P fd.type with
      | some d, some n => cond d.isRow (some (.one (.agg ((l.drop fd.offset).take n)))) (match l[fd.offset]? with | some y => some (.one (.leaf y)) | none => none)
      | _, _ => none
    | none => none
  | _, _ => none
def nilCmpX (P : Program) (fr : Fr) (neg : Bool) (t : Nat) (x y : Operand) : Option AV :=
  match aev fr x, litOf fr y, P.underlying t with
  | some (.one (.leaf (.ptr _ _))), some (.pointer none), some (.pointer _) => some (.one (.leaf (.val (.bool neg))))
  | some (.one (.leaf (.sl _ _ _ _))), some (.slice none _ _), some (.slice _) => some (.one (.leaf (.val (.bool neg))))
  | some (.one (.fn _ _)), some .nilFunc, some (.func _ _ _) => some (.one (.leaf (.val (.bool neg))))
  | _, _, _ => none
def lenX (P : Program) (fr : Fr) (t : Nat) (x : Operand) : Option AV :=
  match aev fr x, P.underlying t with
  | some (.one (.leaf (.sl _ _ _ n))), some (.slice _) => some (.one (.leaf (.val (.int .i64 (.ofNat n)))))
  | some (.one (.leaf (.emp _ _))), some (.slice _) => some (.one (.leaf (.val (.int .i64 (.ofNat 0)))))
  | _, _ => none
def apX (P : Program) (fr : Fr) : Op → Option AV
  | .move x => aev fr x
  | .assign x => aev fr x
  | .pick c x y => match litOf fr c with
    | some (.bool true) => aev fr x
    | some (.bool false) => aev fr y
    | _ => none
  | .nilCheck x => match aev fr x with
    | some (.one (.leaf (.ptr b o))) => some (.one (.leaf (.ptr b o)))
    | some (.one (.fn f l)) => some (.one (.fn f l))
    | _ => none
  | .fieldAddr s x f => fieldAddrX P fr s x f
  | .indexAddr t x ix => indexAddrX P fr t x ix
  | .field t x f => fieldX P fr t x f
  | .extract x i => match aev fr x with
    | some (.tup l) => match l[i]? with
      | some y => some (.one y)
      | none => none
    | _ => none
  | .makeFunc (.func f) first caps => cond first.isEmpty (match capsX fr caps.toList with | some l => some (.one (.fn f l)) | none => none) none
  | .build t parts => buildX P fr t parts
  | .binOp .eql t x y _ => nilCmpX P fr false t x y
  | .binOp .neq t x y _ => nilCmpX P fr true t x y
  | .call { callee := .builtin .len, args, argTypes } => match args.toList, argTypes.toList with
    | [x], [t] => lenX P fr t x
    | _, _ => none
  | _ => none
section
variable {P : Program} {E : Env} {m : Nat} {fr : Fr} {a : Act} {v : AV}
theorem fieldAddrX_ok (h : FrOk E m fr a) {s : Nat} {x : Operand} {f : Nat} (hv : fieldAddrX P fr s x f = some v) (w : World) :
    (Instr.fieldAt s (a.eval x) f).run P w = .ok (v.conc E) w ∧ v.below m = true := by
  unfold fieldAddrX at hv
  split at hv
  · rename_i b o fields hx hu
    obtain ⟨h1, h2⟩ := aev_ok h hx
    split at hv
    · rename_i fd hf
      split at hv
      · rename_i n hn
        obtain ⟨i, hi, rfl⟩ := sizeX_ok hn
        cases hz : Nat.beq i.size 0 with
        | true => rw [hz] at hv; cases hv
        | false =>
          rw [hz] at hv
          cases hv
          have hne : i.size ≠ 0 := Nat.ne_of_beq_eq_false hz
          refine ⟨?_, h2⟩
          rw [h1]
          simp [Instr.fieldAt, run_underlying hu, hf, AV.conc, One.conc, Leaf.conc, Instr.sureAddr, fieldPlace, sizeOf, typeInfo, hi, hne, Addr.add_lit]
      · cases hv
    · cases hv
  · cases hv
theorem indexAddrX_ok (h : FrOk E m fr a) {t : Nat} {x ix : Operand} (hv : indexAddrX P fr t x ix = some v) (w : World) :
    (Instr.indexAt t (a.eval x) (a.eval ix)).run P w = .ok (v.conc E) w ∧ v.below m = true := by
  unfold indexAddrX at hv
  split at hv
  · rename_i b o lo n k i e hx hi hu
    obtain ⟨h1, h2⟩ := aev_ok h hx
    have h3 := litOf_eval h hi
    split at hv
    · rename_i s hs
      obtain ⟨ti, hti, rfl⟩ := sizeX_ok hs
      cases hz : Nat.blt i n with
      | false => rw [hz] at hv; cases hv
      | true =>
        rw [hz] at hv
        cases hv
        have hlt := blt_lt hz
        refine ⟨?_, h2⟩
        rw [h1, h3]
        have hlt' : (0 : Int) ≤ Int.ofNat i ∧ Int.ofNat i < (n : Int) := ⟨Int.natCast_nonneg i, Int.ofNat_lt.2 hlt⟩
        simp [Instr.indexAt, asIntOf, run_underlying hu, AV.conc, One.conc, Leaf.conc, hlt', hlt, sizeOf, typeInfo, hti, Addr.add_lit]
    · cases hv
  · rename_i b o k i n e hx hi hu
    obtain ⟨h1, h2⟩ := aev_ok h hx
    have h3 := litOf_eval h hi
    split at hv
    · rename_i s hs
      obtain ⟨ti, hti, rfl⟩ := sizeX_ok hs
      cases hz : Nat.blt i n with
      | false => rw [hz] at hv; cases hv
      | true =>
        rw [hz] at hv
        cases hv
        have hlt := blt_lt hz
        refine ⟨?_, h2⟩
        rw [h1, h3]
        have hlt' : (0 : Int) ≤ Int.ofNat i ∧ Int.ofNat i < (n : Int) := ⟨Int.natCast_nonneg i, Int.ofNat_lt.2 hlt⟩
        simp [Instr.indexAt, asIntOf, run_underlying hu, AV.conc, One.conc, Leaf.conc, hlt', hlt, sizeOf, typeInfo, hti, Addr.add_lit, Instr.sureAddr]
    · cases hv
  · cases hv
theorem fieldX_ok (h : FrOk E m fr a) {t : Nat} {x : Operand} {f : Nat} (hv : fieldX P fr t x f = some v) (w : World) :
    (Instr.field t (a.eval x) f).run P w = .ok (v.conc E) w ∧ v.below m = true := by
  unfold fieldX at hv
  split at hv
  · rename_i l fields hx hu
    obtain ⟨h1, h2⟩ := aev_ok h hx
    split at hv
    · rename_i fd hf
      split at hv
      · rename_i d n hd hn
        obtain ⟨i, hi, rfl⟩ := sizeX_ok hn
        have hl : ∀ y ∈ l, y.below m = true := List.all_eq_true.1 h2
        cases hr : d.isRow with
        | true =>
          rw [hr] at hv
          cases hv
          refine ⟨?_, List.all_eq_true.2 fun y hy => hl y (List.mem_of_mem_drop (List.mem_of_mem_take hy))⟩
          rw [h1]
          have hagg : (isAgg fd.type).run P w = .ok true w := by
            unfold isAgg; rw [Sem.run_bind, run_underlying hd w]; cases d <;> simp_all
          simp [Instr.field, run_underlying hu, hf, AV.conc, One.conc, asAgg, part, hagg, sizeOf, typeInfo, hi, List.map_take, List.map_drop, List.extract_eq_take_drop]
        | false =>
          rw [hr] at hv
          simp only [cond] at hv
          split at hv
          · rename_i y hy
            cases hv
            refine ⟨?_, hl y (List.mem_of_getElem? hy)⟩
            rw [h1]
            have hagg : (isAgg fd.type).run P w = .ok false w := by
              unfold isAgg; rw [Sem.run_bind, run_underlying hd w]; cases d <;> simp_all
            simp [Instr.field, run_underlying hu, hf, AV.conc, One.conc, asAgg, part, hagg, hy]
          · cases hv
      · cases hv
    · cases hv
  · cases hv
theorem cmp_ptr_in (w : World) (d t e : Nat) (p : Addr) (h : P.underlying t = some (.pointer e)) : (Op.equalIn (d + 1) t (.pointer (some p)) (.pointer none)).run P w = .ok false w := by
  simp [Op.equalIn, run_underlying h]
theorem cmp_sl_in (w : World) (d t e : Nat) (p : Addr) (n c n' c' : Nat) (h : P.underlying t = some (.slice e)) : (Op.equalIn (d + 1) t (.slice (some p) n c) (.slice none n' c')).run P w = .ok false w := by
  simp [Op.equalIn, run_underlying h]
theorem cmp_fn_in (w : World) (d t : Nat) {p1 p2 p3} (f : Fn) (x y : Array Value) (h : P.underlying t = some (.func p1 p2 p3)) : (Op.equalIn (d + 1) t (.func f x y) .nilFunc).run P w = .ok false w := by
  simp [Op.equalIn, run_underlying h]
theorem nilCmpX_ok (h : FrOk E m fr a) {neg : Bool} {op : BinOp} (ho : op = (if neg then .neq else .eql)) {t : Nat} {x y : Operand} (hv : nilCmpX P fr neg t x y = some v) (w : World) :
    (do eqGuard op t x y (a.eval x) (a.eval y); binOp op t (a.eval x) (a.eval y) : Sem Value).run P w = .ok (v.conc E) w ∧ v.below m = true := by
  unfold nilCmpX at hv
  split at hv
  · rename_i b o e hx hy hu
    cases hv
    rw [(aev_ok h hx).1, litOf_eval h hy]
    refine ⟨?_, rfl⟩
    simp only [AV.conc, One.conc, Leaf.conc, eqGuard_at_pointer]
    cases neg <;> subst ho
    · simp only [Bool.false_eq_true, if_false, binOp]; simp [Op.equal, Op.maxDepth, cmp_ptr_in w 9999 t e _ hu]
    · simp only [if_true, binOp]; simp [Op.equal, Op.maxDepth, cmp_ptr_in w 9999 t e _ hu]
  · rename_i b o lo n c d e hx hy hu
    cases hv
    rw [(aev_ok h hx).1, litOf_eval h hy]
    refine ⟨?_, rfl⟩
    simp only [AV.conc, One.conc, Leaf.conc, eqGuard_at_slice]
    cases neg <;> subst ho
    · simp only [Bool.false_eq_true, if_false, binOp]; simp [Op.equal, Op.maxDepth, cmp_sl_in w 9999 t _ _ _ _ _ _ hu]
    · simp only [if_true, binOp]; simp [Op.equal, Op.maxDepth, cmp_sl_in w 9999 t _ _ _ _ _ _ hu]
  · rename_i f l p1 p2 p3 hx hy hu
    cases hv
    rw [(aev_ok h hx).1, litOf_eval h hy]
    refine ⟨?_, rfl⟩
    simp only [AV.conc, One.conc, Leaf.conc, eqGuard_at_func]
    cases neg <;> subst ho
    · simp only [Bool.false_eq_true, if_false, binOp]; simp [Op.equal, Op.maxDepth, cmp_fn_in w 9999 t _ _ _ hu]
    · simp only [if_true, binOp]; simp [Op.equal, Op.maxDepth, cmp_fn_in w 9999 t _ _ _ hu]
  · cases hv
theorem lenX_ok (h : FrOk E m fr a) {t ty : Nat} {x : Operand} (hv : lenX P fr t x = some v) (w : World) : (Builtin.len_ #[t] ty #[a.eval x]).run P w = .ok (v.conc E) w ∧ v.below m = true := by
  unfold lenX at hv
  split at hv
  · rename_i b o lo n e hx hu
    cases hv
    rw [(aev_ok h hx).1]
    exact ⟨by simp [Builtin.len_, run_underlying hu, AV.conc, One.conc, Leaf.conc, goInt], rfl⟩
  · rename_i b o e hx hu
    cases hv
    rw [(aev_ok h hx).1]
    exact ⟨by simp [Builtin.len_, run_underlying hu, AV.conc, One.conc, Leaf.conc, goInt], rfl⟩
  · cases hv
theorem apX_ok (h : FrOk E m fr a) {o : Oper} (hv : apX P fr o.op = some v) : v.below m = true ∧ ∀ w, (execOp a.eval o).run P w = .ok (.value (v.conc E)) w := by
  obtain ⟨dst, op, type, pos, after, guard⟩ := o
  simp only at hv
  unfold apX at hv
  split at hv
  · obtain ⟨h1, h2⟩ := aev_ok h hv
    exact ⟨h2, fun w => by simp [execOp, h1]⟩
  · obtain ⟨h1, h2⟩ := aev_ok h hv
    exact ⟨h2, fun w => by simp [execOp, h1]⟩
  · split at hv
    · rename_i hc
      obtain ⟨h1, h2⟩ := aev_ok h hv
      exact ⟨h2, fun w => by simp [execOp, h1, litOf_eval h hc, asBool]⟩
    · rename_i hc
      obtain ⟨h1, h2⟩ := aev_ok h hv
      exact ⟨h2, fun w => by simp [execOp, h1, litOf_eval h hc, asBool]⟩
    · cases hv
  · split at hv
    · rename_i b o hx
      cases hv
      obtain ⟨h1, h2⟩ := aev_ok h hx
      exact ⟨h2, fun w => by simp [execOp, h1, AV.conc, One.conc, Leaf.conc]⟩
    · rename_i f l hx
      cases hv
      obtain ⟨h1, h2⟩ := aev_ok h hx
      exact ⟨h2, fun w => by simp [execOp, h1, AV.conc, One.conc]⟩
    · cases hv
  · exact ⟨(fieldAddrX_ok h hv default).2, fun w => by simp [execOp, (fieldAddrX_ok h hv w).1]⟩
  · exact ⟨(indexAddrX_ok h hv default).2, fun w => by simp [execOp, (indexAddrX_ok h hv w).1]⟩
  · exact ⟨(fieldX_ok h hv default).2, fun w => by simp [execOp, (fieldX_ok h hv w).1]⟩
  · split at hv
    · rename_i l hx
      split at hv
      · rename_i i _ y hy
        cases hv
        obtain ⟨h1, h2⟩ := aev_ok h hx
        exact ⟨List.all_eq_true.1 h2 y (List.mem_of_getElem? hy), fun w => by simp [execOp, h1, AV.conc, Instr.extract, hy]⟩
      · cases hv
    · cases hv
  · rename_i f first caps
    cases hf : first.isEmpty with
    | false => rw [hf] at hv; cases hv
    | true =>
      rw [hf] at hv
      simp only [cond] at hv
      split at hv
      · rename_i l hl
        cases hv
        obtain ⟨h1, h2⟩ := capsX_ok h _ _ hl
        refine ⟨h2, fun w => ?_⟩
        rw [Array.isEmpty_iff.1 hf]
        have hc : caps.map a.eval = (l.map (Leaf.conc E)).toArray := by rw [← h1, ← Array.toList_map, Array.toArray_toList]
        simp [execOp, Instr.makeFunc, hc, AV.conc, One.conc]
      · cases hv
  · exact ⟨(buildX_ok h hv default).2, fun w => by simp [execOp, (buildX_ok h hv w).1]⟩
  · exact ⟨(nilCmpX_ok h (op := .eql) rfl hv default).2, fun w => by
      have := (nilCmpX_ok h (op := .eql) rfl hv w).1
      simp only [execOp, Sem.run_bind] at this ⊢
      rw [this]; rfl⟩
  · exact ⟨(nilCmpX_ok h (op := .neq) rfl hv default).2, fun w => by
      have := (nilCmpX_ok h (op := .neq) rfl hv w).1
      simp only [execOp, Sem.run_bind] at this ⊢
      rw [this]; rfl⟩
  · rename_i args argTypes
    split at hv
    · rename_i x t hx ht
      have e1 : args = #[x] := by rw [← Array.toArray_toList (xs := args), hx]
      have e2 : argTypes = #[t] := by rw [← Array.toArray_toList (xs := argTypes), ht]
      subst e1 e2
      exact ⟨(lenX_ok (ty := 0) h hv default).2, fun w => by simp [execOp, resolve, invoke, builtin, (lenX_ok (ty := type) h hv w).1]⟩
    · cases hv
  · cases hv
end
end Go.Proofs.YtgaiibkkompbnaaGreatDoor
