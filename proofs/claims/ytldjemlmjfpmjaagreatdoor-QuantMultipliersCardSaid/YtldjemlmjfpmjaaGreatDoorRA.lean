/-
  The reference numbers in parts: base, tidy, compare, clone, carry, multiply, add.
-/
import Derived.Test.YtldjemlmjfpmjaaGreatDoorMath
import Derived.Test.YtldjemlmjfpmjaaGreatDoorInts
import Derived.Outline
import Derived.Deep.QuietTactic
import Derived.BigQuiet
import Derived.Lib.SliceRun
import Derived.Laws.CopyOwn
import Derived.Lib.MinMax
namespace Go.Proofs.YtldjemlmjfpmjaaGreatDoor.Mth

def zval (b : Int) : List Int → Int
  | [] => 0
  | d :: l => d + b * zval b l

theorem zval_cast (b : Nat) : ∀ l : List Nat, zval (b : Int) (l.map fun d : Nat => (d : Int)) = (val b l : Int)
  | [] => rfl
  | d :: l => by simp only [List.map_cons, zval, val, zval_cast b l]; simp
theorem zval_append (b : Int) : ∀ l m : List Int, zval b (l ++ m) = zval b l + b ^ l.length * zval b m
  | [], m => by simp [zval]
  | d :: l, m => by
    simp only [List.cons_append, zval, zval_append b l m, List.length_cons, Int.pow_succ]
    rw [Int.mul_add, Int.add_assoc, ← Int.mul_assoc, Int.mul_comm b (b ^ _)]
theorem zval_replicate_zero (b : Int) : ∀ n, zval b (List.replicate n 0) = 0
  | 0 => rfl
  | n + 1 => by rw [List.replicate_succ, zval, zval_replicate_zero b n]; simp
theorem zval_drop (b : Int) (l : List Int) (q : Nat) (h : q < l.length) : zval b (l.drop q) = l[q]?.getD 0 + b * zval b (l.drop (q + 1)) := by
  rw [List.drop_eq_getElem_cons h, zval, List.getElem?_eq_getElem h]; rfl
theorem zval_set (b : Int) : ∀ (l : List Int) (p : Nat) (d : Int), p < l.length → zval b (l.set p d) = zval b l + b ^ p * (d - l[p]?.getD 0)
  | [], p, d, h => by simp at h
  | x :: l, 0, d, _ => by simp [zval]; omega
  | x :: l, p + 1, d, h => by
    simp only [List.set_cons_succ, zval, List.getElem?_cons_succ]
    rw [zval_set b l p d (by simpa using h), Int.mul_add, Int.pow_succ, Int.mul_comm (b ^ p) b, Int.mul_assoc, Int.add_assoc]

theorem carry_step (b : Nat) (Z c c' : Int) (d : Nat) (O : List Nat) (L : List Int) (i : Nat) (hO : O.length = i) (hi : i < L.length)
    (h : Z = (val b O : Int) + (b : Int) ^ i * (c + zval b (L.drop i))) (hs : c + L[i]?.getD 0 = d + b * c') :
    Z = (val b (O ++ [d]) : Int) + (b : Int) ^ (i + 1) * (c' + zval b (L.drop (i + 1))) := by
  rw [h, zval_drop _ _ _ hi, val_snoc, hO]
  rw [show c + (L[i]?.getD 0 + (b : Int) * zval b (L.drop (i + 1))) = d + b * (c' + zval b (L.drop (i + 1))) by rw [Int.mul_add]; omega]
  rw [Int.mul_add, Int.pow_succ, Int.mul_assoc, ← Int.add_assoc]
  congr 1
theorem carry_end {b : Nat} (hb : 1 ≤ b) (O : List Nat) (Z c : Int) (h : Z = (val b O : Int) + (b : Int) ^ O.length * c) (h0 : 0 ≤ Z) (hd : ∀ d ∈ O, d < b) : 0 ≤ c := by
  rcases Int.lt_or_le c 0 with hc | hc
  · exfalso
    have h1 := val_lt hb O hd
    have h2 : (0 : Int) ≤ (b : Int) ^ O.length := Int.pow_nonneg (by omega)
    have h3 : (b : Int) ^ O.length * c ≤ (b : Int) ^ O.length * (-1) := Int.mul_le_mul_of_nonneg_left (by omega) h2
    have h4 : ((b ^ O.length : Nat) : Int) = (b : Int) ^ O.length := by simp
    omega
  · exact hc
theorem carry_nat {b : Nat} (O : List Nat) (Z : Int) (C : Nat) (h : Z = (val b O : Int) + (b : Int) ^ O.length * (C : Int)) : Z.toNat = val b O + b ^ O.length * C := by
  have h4 : ((val b O + b ^ O.length * C : Nat) : Int) = (val b O : Int) + (b : Int) ^ O.length * (C : Int) := by simp
  omega
theorem carry_dg {b : Nat} (hb : 2 ≤ b) (O D : List Nat) (C : Nat) (hd : ∀ d ∈ O, d < b) (h : D = O ++ dg b C) : tidy D = dg b (val b O + b ^ O.length * C) := by
  rw [h, tidy_eq hb _ (by
    intro d hd'
    rcases List.mem_append.1 hd' with h1 | h1
    · exact hd d h1
    · exact dg_lt hb C d h1), val_append, val_dg hb]
/-- Go's remainder and quotient, mended below zero -/
theorem tmod_mend {s b : Int} (hb : 0 < b) (h : s.tmod b < 0) : s.tmod b + b = s % b ∧ s.tdiv b - 1 = s / b := by
  have h1 := Int.tmod_add_mul_tdiv s b
  have h2 := Int.lt_tmod_of_pos s hb
  have h3 : s = (s.tmod b + b) + b * (s.tdiv b - 1) := by rw [Int.mul_sub]; omega
  constructor
  · conv => rhs; rw [h3]
    rw [Int.add_mul_emod_self_left, Int.emod_eq_of_lt (by omega) (by omega)]
  · conv => rhs; rw [h3]
    rw [Int.add_mul_ediv_left _ _ (by omega), Int.ediv_eq_zero_of_lt (by omega) (by omega)]; omega
theorem tmod_keep {s b : Int} (hb : 0 < b) (h : 0 ≤ s.tmod b) : s.tmod b = s % b ∧ s.tdiv b = s / b := by
  have h1 := Int.tmod_add_mul_tdiv s b
  have h2 := Int.tmod_lt_of_pos s hb
  constructor
  · conv => rhs; rw [← h1]
    rw [Int.add_mul_emod_self_left, Int.emod_eq_of_lt h (by omega)]
  · conv => rhs; rw [← h1]
    rw [Int.add_mul_ediv_left _ _ (by omega), Int.ediv_eq_zero_of_lt h (by omega)]; omega

/-- a sum's step: out[i] += k * x -/
theorem zadd_step (b : Nat) (L : List Int) (lb : List Nat) (S k : Int) (i : Nat) (hi : i < L.length) (hl : i < lb.length)
    (h : zval b L = S + k * (val b (lb.take i) : Int)) : zval b (L.set i (L[i]?.getD 0 + k * (lb[i]?.getD 0 : Nat))) = S + k * (val b (lb.take (i + 1)) : Int) := by
  rw [zval_set _ _ _ _ hi, h, val_take_succ _ _ _ hl]
  rw [show L[i]?.getD 0 + k * ((lb[i]?.getD 0 : Nat) : Int) - L[i]?.getD 0 = k * ((lb[i]?.getD 0 : Nat) : Int) by omega]
  simp only [Int.natCast_add, Int.natCast_mul, Int.natCast_pow]
  rw [Int.mul_add, Int.add_assoc, Int.mul_left_comm]
/-- a product's step: out[i + k] += x * y -/
theorem zmul_step (b : Nat) (M : List Int) (lb : List Nat) (Z x : Int) (i k : Nat) (hi : i + k < M.length) (hl : k < lb.length)
    (h : zval b M = Z + (b : Int) ^ i * (x * (val b (lb.take k) : Int))) :
    zval b (M.set (i + k) (M[i + k]?.getD 0 + x * (lb[k]?.getD 0 : Nat))) = Z + (b : Int) ^ i * (x * (val b (lb.take (k + 1)) : Int)) := by
  rw [zval_set _ _ _ _ hi, h, val_take_succ _ _ _ hl]
  rw [show M[i + k]?.getD 0 + x * ((lb[k]?.getD 0 : Nat) : Int) - M[i + k]?.getD 0 = x * ((lb[k]?.getD 0 : Nat) : Int) by omega]
  simp only [Int.natCast_add, Int.natCast_mul, Int.natCast_pow]
  rw [Int.mul_add, Int.mul_add, Int.add_assoc, Int.pow_add, Int.mul_assoc, Int.mul_left_comm ((b : Int) ^ k)]
theorem zmul_round (b : Nat) (la lb : List Nat) (L : List Int) (i : Nat) (hi : i < la.length)
    (h : zval b L = (val b (la.take i) * val b lb : Nat) + (b : Int) ^ i * (((la[i]?.getD 0 : Nat) : Int) * (val b lb : Int))) : zval b L = (val b (la.take (i + 1)) * val b lb : Nat) := by
  rw [h, val_take_succ _ _ _ hi, Nat.add_mul]
  simp only [Int.natCast_add, Int.natCast_mul, Int.natCast_pow]
  rw [Int.mul_assoc]
theorem zget_set_other {l : List Int} {p j : Nat} {d : Int} (h : j ≠ p) : (l.set p d)[j]?.getD 0 = l[j]?.getD 0 := by
  rw [List.getElem?_set]; simp [Ne.symm h]
theorem zget_set_same {l : List Int} {p : Nat} {d : Int} (h : p < l.length) : (l.set p d)[p]?.getD 0 = d := by
  rw [List.getElem?_set]; simp [h]
theorem zget_of_drop {L M : List Int} {i : Nat} (h : M.drop i = L.drop i) : M[i]?.getD 0 = L[i]?.getD 0 := by
  have h1 : (M.drop i)[0]? = (L.drop i)[0]? := by rw [h]
  simpa using congrArg (·.getD 0) h1
theorem zdrop_set_succ (l : List Int) (k : Nat) (x : Int) : (l.set k x).drop (k + 1) = l.drop (k + 1) := by
  rw [List.drop_set, if_pos (by omega)]
theorem zdrop_succ_of {l m : List Int} {k : Nat} (h : l.drop k = m.drop k) : l.drop (k + 1) = m.drop (k + 1) := by
  have h1 : (l.drop k).drop 1 = (m.drop k).drop 1 := by rw [h]
  simpa [List.drop_drop] using h1
theorem ztake_set_succ (l : List Int) (k : Nat) (x : Int) (h : k < l.length) : (l.set k x).take (k + 1) = l.take k ++ [x] := by
  rw [List.take_succ_eq_append_getElem (by simpa using h)]
  rw [List.take_set, List.set_eq_of_length_le (by rw [List.length_take]; omega)]; simp
end Go.Proofs.YtldjemlmjfpmjaaGreatDoor.Mth

namespace Go.Proofs.YtldjemlmjfpmjaaGreatDoor
open Go.RowKit

def n64s (l : List Nat) : List Value := l.map fun d : Nat => .int .i64 (d : Int)
theorem n64s_length (l : List Nat) : (n64s l).length = l.length := by simp [n64s]
theorem n64s_append (l m : List Nat) : n64s (l ++ m) = n64s l ++ n64s m := by simp [n64s]
theorem n64s_get (l : List Nat) (j : Nat) : (n64s l)[j]? = (l[j]?).map fun d : Nat => Value.int .i64 (d : Int) := by simp [n64s]
theorem n64s_at {l : List Nat} {j : Nat} (h : j < l.length) : (n64s l)[j]? = some (.int .i64 ((l[j]?.getD 0 : Nat) : Int)) := by
  rw [n64s_get, List.getElem?_eq_getElem h]; rfl

/-- the slice value v holds the number n: its parts to the base 10^4, the lowest first -/
def Pt (w : World) (v : Value) (n : Nat) : Prop := Sl w v (n64s (Mth.dg 10000 n))
theorem Pt.below {w w' : World} {v : Value} {n : Nat} (h : Pt w v n) (hb : Below w.heap.size w w') : Pt w' v n := Sl.below h hb
theorem Pt.shape {w : World} {v : Value} {n : Nat} (h : Pt w v n) : ∃ A k c, v = .slice A k c := by
  obtain ⟨A, c, e, _⟩ := h
  exact ⟨_, _, _, e⟩
theorem Pt.zero (w : World) : Pt w (.slice none 0 0) 0 := by
  unfold Pt; rw [Mth.dg_zero]; exact Sl.nil_ w
theorem info_int : (Tryz.prog.info? 3).map (fun i => (i.zero, i.size, i.bytes)) = some (some (.int .i64 0), 1, 8) := by kernel_rfl
end Go.Proofs.YtldjemlmjfpmjaaGreatDoor

namespace Go.Proofs.YtldjemlmjfpmjaaGreatDoor
open Go.RowKit

set_option maxHeartbeats 400000 in
set_option maxRecDepth 100000 in
theorem tidy_own (l : List Nat) (v : Value) (w : World) (h : Sl w v (n64s l)) (hs : l.length ≤ 9000000000000) :
    Calls Tryz.prog 112 #[v] w fun e w' => ∃ v', e = .returned v' ∧ Sl w v' (n64s (Mth.tidy l)) ∧ v'.ownBlock = v.ownBlock ∧ w = w' := by
  have HS := Lib.hid h
  obtain ⟨A, c, rfl, h1, h2, h3⟩ := h
  simp only [n64s_length] at *
  unfold maxLen at h2
  have H3 := Lib.hid h3
  clear h3
  go_enter Tryz.func112, Tryz.ntmps112
  go_wp2
  go_loop [0] (fun a0 => ∃ k : Nat, a0 = .slice A k c ∧ k ≤ l.length ∧ Mth.tidy (l.take k) = Mth.tidy l) (fun a0 => lenOf a0)
  case atStart => exact ⟨l.length, rfl, Nat.le_refl _, by rw [List.take_length]⟩
  case round =>
    obtain ⟨k, rfl, hk, ht⟩ := hrel
    have HT := Lib.hid ht
    clear ht
    by_cases h0 : k = 0
    · subst h0
      go_wp2
      go_ret
      have hd := HT.out
      refine ⟨_, rfl, ?_, by first | rfl | (cases A <;> rfl), rfl⟩
      rw [← hd]
      exact HS.out.head (k := 0) (by simp)
    · obtain ⟨q, rfl⟩ : ∃ q, k = q + 1 := ⟨k - 1, by omega⟩
      obtain ⟨b, o, rfl, hc⟩ := H3.out (by omega)
      have hcell : w.cell? ⟨b, o + q, none⟩ = some (.int .i64 ((l[q]?.getD 0 : Nat) : Int)) := hc q _ (by
        rw [n64s_get, List.getElem?_eq_getElem (by omega)]; rfl)
      clear hc
      by_cases hz : l[q]?.getD 0 = 0
      · rw [hz] at hcell
        have hd := HT.out
        rw [take_snoc_nat l q (by omega), hz, Mth.tidy_snoc_zero] at hd
        have HD := Lib.hid hd
        clear hd hz
        go_wp2
        go_round
        case rel => exact ⟨q, rfl, by omega, HD.out⟩
        case measure => simp [lenOf]
      · have hne : (((l[q]?.getD 0 : Nat) : Int) == 0) = false := by simp; omega
        have hd := HT.out
        rw [take_snoc_nat l q (by omega), Mth.tidy_snoc hz, ← take_snoc_nat l q (by omega)] at hd
        have HD := Lib.hid hd
        clear hd hz
        go_wp2
        go_ret
        refine ⟨_, rfl, ?_, by first | rfl | (cases A <;> rfl), rfl⟩
        rw [← HD.out]
        have := HS.out.head (k := q + 1) (by rw [n64s_length]; omega)
        rwa [n64s, ← List.map_take] at this
theorem tidy_any (l : List Nat) (v : Value) (w : World) (h : Sl w v (n64s l)) (hs : l.length ≤ 9000000000000) :
    Calls Tryz.prog 112 #[v] w fun e w' => ∃ v', e = .returned v' ∧ Sl w v' (n64s (Mth.tidy l)) ∧ w = w' :=
  (tidy_own l v w h hs).mono fun _ _ ⟨v', h1, h2, _, h3⟩ => ⟨v', h1, h2, h3⟩
end Go.Proofs.YtldjemlmjfpmjaaGreatDoor

namespace Go.Proofs.YtldjemlmjfpmjaaGreatDoor
open Go.RowKit


set_option maxHeartbeats 400000 in
set_option maxRecDepth 100000 in
theorem rof_any (n : Nat) (w : World) (hn : n < 18446744073709551616) :
    Calls Tryz.prog 115 #[.int .u64 n] w fun e w' => ∃ v, e = .returned v ∧ Pt w' v n ∧ Below w.heap.size w w' := by
  obtain ⟨i0, hi, hz0, hz1, hz2⟩ := info_parts info_int
  have HN := Lib.hid hn
  clear hn
  go_enter Tryz.func115, Tryz.ntmps115
  go_wp2
  go_loopw [0, 3] (fun a0 a3 wr => ∃ (m : Nat) (ds : List Nat), a0 = .int .u64 m ∧ m ≤ n ∧ wr.ownsRow w.heap.size 3 1 a3 ds.length (n64s ds) ∧ Mth.dg 10000 n = ds ++ Mth.dg 10000 m ∧ Below w.heap.size w wr) (fun a0 _ _ => (intOf a0).toNat)
  case atStart => exact ⟨n, [], rfl, Nat.le_refl _, World.ownsRow_nil _ _ _ _, rfl, Below.refl _ _⟩
  case round =>
    obtain ⟨m, ds, rfl, hm, hown, hd, hB⟩ := hrel
    have HD := Lib.hid hd
    have hl3 : ds.length ≤ 5 := by
      have h1 := Mth.dg_len_le (b := 10000) (by omega) 5 n (by have := HN.out; omega)
      rw [hd] at h1
      simp at h1
      omega
    clear hd
    by_cases h0 : 0 < m
    · go_wp2_with (at_builtin; go_must (refine wpList_append_own _ rfl _ _ 50 rfl w.heap.size 3 i0 (.int .i64 0) 1 8 Tryz.underlying50 hi hz0 hz1 hz2 rfl (by decide) _ _ _ rfl (hown.alloc _) ⟨wr.heap.size, 0, none⟩ 1 1 [.int .i64 ((m : Int) % 10000)] rfl rfl (cell_one_new _ _ _) (by simp [Value.oneCell']) (by unfold maxLen; omega) (by omega) (by have := hB.size; simp; omega) ?_); intro v' w1 hown' hgrow _)
      have hw : IntKind.u64.wrap ((m : Int) / 10000) = ((m / 10000 : Nat) : Int) := by
        have := HN.out
        rw [IntKind.wrap_u64]; omega
      have hd := HD.out
      rw [Mth.dg_pos (b := 10000) (by omega) h0] at hd
      go_roundw
      case rel =>
        refine ⟨m / 10000, ds ++ [m % 10000], by rw [hw], by omega, ?_, by rw [hd]; simp, (hB.alloc (hB.size) _).grown hgrow (by have := hB.size; simp; omega) (fun k hk => (hown.lt k hk).1)⟩
        rw [n64s_append, List.length_append]
        exact hown'
      case measure => rw [hw]; simp [intOf]; omega
    · go_wp2
      go_ret
      obtain rfl : m = 0 := by omega
      have hd := HD.out
      rw [Mth.dg_zero, List.append_nil] at hd
      refine ⟨_, rfl, ?_, hB⟩
      unfold Pt
      rw [hd]
      exact Sl.of_own hown
end Go.Proofs.YtldjemlmjfpmjaaGreatDoor

namespace Go.Proofs.YtldjemlmjfpmjaaGreatDoor
open Go.RowKit

/-- the sign of a comparison -/
def RCmp (m n : Nat) (w : World) (e : Ending) (w' : World) : Prop :=
  ∃ z : Int, e = .returned (.int .i64 z) ∧ ((z < 0 ∧ m < n) ∨ (z = 0 ∧ m = n) ∨ (0 < z ∧ n < m)) ∧ ∃ k, w' = w.drewN k

set_option maxHeartbeats 1000000 in
set_option maxRecDepth 100000 in
theorem rcmp_list (la lb : List Nat) (m n : Nat) (hab : la = lb → m = n) (hlt : la.length < lb.length → m < n) (hgt : lb.length < la.length → n < m)
    (hld : ∀ q, q < la.length → q < lb.length → la.drop (q + 1) = lb.drop (q + 1) → la[q]?.getD 0 < lb[q]?.getD 0 → m < n)
    (hgd : ∀ q, q < la.length → q < lb.length → la.drop (q + 1) = lb.drop (q + 1) → lb[q]?.getD 0 < la[q]?.getD 0 → n < m)
    (hxa : ∀ d ∈ la, d < 10000) (hxb : ∀ d ∈ lb, d < 10000) (va vb : Value) (w : World) (ha : Sl w va (n64s la)) (hb : Sl w vb (n64s lb)) (_hs : la.length ≤ 1000000000000) (_ht : lb.length ≤ 1000000000000) :
    Calls Tryz.prog 153 #[va, vb] w (RCmp m n w) := by
  obtain ⟨A, c, rfl, h1, h2, h3⟩ := ha
  obtain ⟨A', c', rfl, h1', h2', h3'⟩ := hb
  simp only [n64s_length] at *
  have HXA := Lib.hid hxa
  have HXB := Lib.hid hxb
  clear hxa hxb
  have HAB := Lib.hid hab
  have HLT := Lib.hid hlt
  have HGT := Lib.hid hgt
  have HLD := Lib.hid hld
  have HGD := Lib.hid hgd
  clear hab hlt hgt hld hgd
  have H3 := Lib.hid h3
  have H3' := Lib.hid h3'
  clear h3 h3'
  by_cases hl : la.length = lb.length
  · have hl0 : ((la.length : Int) != lb.length) = false := by rw [hl]; simp
    have HL := Lib.hid hl
    clear hl
    go_enter Tryz.func153, Tryz.ntmps153
    go_wp2
    go_loopw [5] (fun a5 wr => ∃ (i : Int) (nd : Nat), a5 = .int .i64 i ∧ -1 ≤ i ∧ i < la.length ∧ la.drop (i + 1).toNat = lb.drop (i + 1).toNat ∧ wr = w.drewN nd) (fun a5 _ => (intOf a5 + 1).toNat)
    case atStart => exact ⟨(la.length : Int) - 1, 0, rfl, by omega, by omega, by rw [show ((la.length : Int) - 1 + 1).toNat = la.length by omega, List.drop_length, HL.out, List.drop_length], rfl⟩
    case round =>
      obtain ⟨i, nd, rfl, hk1, hk2, hd, rfl⟩ := hrel
      have HD := Lib.hid hd
      clear hd
      by_cases h0 : i < 0
      · go_wp2
        go_ret
        exact ⟨0, rfl, Or.inr (Or.inl ⟨rfl, HAB.out (by have := HD.out; rw [show (i + 1).toNat = 0 by omega] at this; exact this)⟩), nd, rfl⟩
      · obtain ⟨q, rfl⟩ : ∃ q : Nat, i = q := ⟨i.toNat, by omega⟩
        have b1 := Mth.getD_lt (by omega) HXA.out q
        have b2 := Mth.getD_lt (by omega) HXB.out q
        have hq' : q < lb.length := by have := HL.out; omega
        obtain ⟨b, o, rfl, hc⟩ := H3.out (by omega)
        obtain ⟨b', o', rfl, hc'⟩ := H3'.out (by omega)
        have g1 := hc q _ (n64s_at (by omega))
        have g2 := hc' q _ (n64s_at hq')
        clear hc hc'
        have hq2 : (q : Int) < (lb.length : Int) := by omega
        have HQ := Lib.hid hq'
        clear hq'
        obtain ⟨x, hx⟩ : ∃ x, la[q]?.getD 0 = x := ⟨_, rfl⟩
        obtain ⟨y, hy⟩ : ∃ y, lb[q]?.getD 0 = y := ⟨_, rfl⟩
        rw [hx] at g1 b1
        rw [hy] at g2 b2
        have HX := Lib.hid hx
        have HY := Lib.hid hy
        clear hx hy
        by_cases hz : x = y
        · subst hz
          go_wp2
          go_quiet (fail)
          go_wp2
          go_roundw
          case rel =>
            refine ⟨(q : Int) - 1, _, rfl, by omega, by omega, ?_, rfl⟩
            rw [show ((q : Int) - 1 + 1).toNat = q by omega]
            have h6 := HD.out
            have h7 := HQ.out
            rw [show ((q : Int) + 1).toNat = q + 1 by omega] at h6
            rw [List.drop_eq_getElem_cons (show q < la.length by omega), List.drop_eq_getElem_cons h7, h6]
            have h8 := HX.out
            have h9 := HY.out
            rw [List.getElem?_eq_getElem (by omega)] at h8
            rw [List.getElem?_eq_getElem h7] at h9
            simp only [Option.getD_some] at h8 h9
            rw [h8, h9]
          case measure => simp [intOf]
        · have hne : ((x : Int) != (y : Int)) = true := by simp; omega
          go_wp2
          go_quiet (fail)
          go_wp2
          go_quiet (fail)
          go_wp2
          go_ret
          refine ⟨(x : Int) - y, rfl, ?_, _, by rw [World.drewN_drewN, World.drewN_drewN]⟩
          have h6 := HD.out
          rw [show ((q : Int) + 1).toNat = q + 1 by omega] at h6
          rcases Nat.lt_or_ge x y with h5 | h5
          · exact Or.inl ⟨by omega, HLD.out q (by omega) HQ.out h6 (by rw [HX.out, HY.out]; exact h5)⟩
          · exact Or.inr (Or.inr ⟨by omega, HGD.out q (by omega) HQ.out h6 (by rw [HX.out, HY.out]; omega)⟩)
  · have hl0 : ((la.length : Int) != lb.length) = true := by simp; omega
    go_enter Tryz.func153, Tryz.ntmps153
    go_wp2
    go_ret
    refine ⟨(la.length : Int) - lb.length, rfl, ?_, 0, rfl⟩
    rcases Nat.lt_or_ge la.length lb.length with h5 | h5
    · exact Or.inl ⟨by omega, HLT.out h5⟩
    · exact Or.inr (Or.inr ⟨by omega, HGT.out (by omega)⟩)

/-- natCmp compares the numbers. -/
theorem rcmp_any (m n : Nat) (va vb : Value) (w : World) (ha : Pt w va m) (hb : Pt w vb n) (hs : (Mth.dg 10000 m).length ≤ 1000000000000) (ht : (Mth.dg 10000 n).length ≤ 1000000000000) :
    Calls Tryz.prog 153 #[va, vb] w (RCmp m n w) :=
  rcmp_list (Mth.dg 10000 m) (Mth.dg 10000 n) m n (Mth.dg_inj (by omega)) (Mth.lt_of_len (by omega)) (Mth.lt_of_len (by omega))
    (fun q h1 h2 h3 h4 => by
      have := Mth.val_lt_of (b := 10000) (by omega) h1 h2 h3 (Mth.dg_lt (by omega) m) h4
      rwa [Mth.val_dg (by omega), Mth.val_dg (by omega)] at this)
    (fun q h1 h2 h3 h4 => by
      have := Mth.val_lt_of (b := 10000) (by omega) h2 h1 h3.symm (Mth.dg_lt (by omega) n) h4
      rwa [Mth.val_dg (by omega), Mth.val_dg (by omega)] at this) (Mth.dg_lt (by omega) m) (Mth.dg_lt (by omega) n) va vb w ha hb hs ht
end Go.Proofs.YtldjemlmjfpmjaaGreatDoor

namespace Go.Proofs.YtldjemlmjfpmjaaGreatDoor
open Go.RowKit

set_option maxHeartbeats 1000000 in
set_option maxRecDepth 100000 in
theorem rclone_any (l : List Nat) (v : Value) (w : World) (h : Sl w v (n64s l)) (_hs : l.length ≤ 1000000000000) :
    Calls Tryz.prog 154 #[v] w fun e w' => ∃ v', e = .returned v' ∧ Below w.heap.size w w' ∧ w'.ownsRow w.heap.size 3 1 v' l.length (n64s l) := by
  obtain ⟨i0, hi, hz0, hz1, hz2⟩ := info_parts info_int
  obtain ⟨A, c, rfl, h1, h2, h3⟩ := h
  simp only [n64s_length] at *
  rcases A with _ | ad
  · have hl : l.length = 0 := by
      rcases Nat.eq_zero_or_pos l.length with h | h
      · exact h
      · obtain ⟨b, o, e, _⟩ := h3 h
        cases e
    have hn : l = [] := List.eq_nil_of_length_eq_zero hl
    subst hn
    clear h3
    have heq := fun W => Lib.run_eql_slice_nil (P := Tryz.prog) W 50 3 none 0 c 0 0 Tryz.underlying50
    simp only [List.length_nil]
    go_enter Tryz.func154, Tryz.ntmps154
    go_wp2
    go_ret
    exact ⟨_, rfl, Below.refl _ _, World.ownsRow_nil _ _ _ _⟩
  · have hnews : ∀ j u, (n64s l)[j]? = some u → (w.alloc (.cells #[] 3)).cell? (ad.add j) = some u := by
      intro j u hu
      have hj : j < l.length := by
        rcases Nat.lt_or_ge j l.length with h | h
        · exact h
        · rw [List.getElem?_eq_none (by rw [n64s_length]; exact h)] at hu; cases hu
      obtain ⟨b, o, e, hc⟩ := h3 (by omega)
      injection e with e
      subst e
      have := hc j u hu
      rw [Addr.add_lit]
      exact (World.cell?_alloc_lt w _ _ (World.block_lt_of_cell? w _ this)).trans this
    have h1c : ∀ u ∈ n64s l, u.oneCell' = true := by
      intro u hu
      simp only [n64s, List.mem_map] at hu
      obtain ⟨d, _, rfl⟩ := hu
      rfl
    have heq := fun W => Lib.run_eql_slice_nil (P := Tryz.prog) W 50 3 (some ad) l.length c 0 0 Tryz.underlying50
    have hown := World.ownsRow_made (base := w.heap.size) (e := 3) (size := 1) w #[] 0 (Nat.le_refl _) (by unfold maxLen; omega) rfl
    have HN := Lib.hid hnews
    have HC1 := Lib.hid h1c
    clear h3 hnews h1c
    go_enter Tryz.func154, Tryz.ntmps154
    go_wp2_with (at_builtin; refine wpList_append_own _ rfl _ _ 50 rfl w.heap.size 3 i0 (.int .i64 0) 1 8 Tryz.underlying50 hi hz0 hz1 hz2 rfl (by decide) _ _ _ rfl hown ad l.length c (n64s l) rfl (by rw [n64s_length, Nat.mul_one]) HN.out HC1.out (by unfold maxLen; omega) (by omega) (by simp) ?_; intro v' w1 hown' hgrow _)
    go_ret
    refine ⟨_, rfl, ((Below.refl _ _).alloc (Nat.le_refl _) _).grown hgrow (by simp) (fun k hk => (hown.lt k hk).1), ?_⟩
    simpa using hown'
end Go.Proofs.YtldjemlmjfpmjaaGreatDoor

namespace Go.Proofs.YtldjemlmjfpmjaaGreatDoor
open Go.RowKit

theorem i64s_drop_at {L : List Int} {i : Nat} (h : i < L.length) : (i64s (L.drop i))[0]? = some (.int .i64 (L[i]?.getD 0)) := by
  rw [List.drop_eq_getElem_cons h, List.getElem?_eq_getElem h]; rfl
theorem mix_at {O : List Nat} {L : List Int} {i : Nat} (hO : O.length = i) (h : i < L.length) : (n64s O ++ i64s (L.drop i))[i]? = some (.int .i64 (L[i]?.getD 0)) := by
  rw [List.getElem?_append_right (by rw [n64s_length]; omega), n64s_length, hO, Nat.sub_self]
  exact i64s_drop_at h
theorem mix_set {O : List Nat} {L : List Int} {i d : Nat} (hO : O.length = i) (h : i < L.length) : (n64s O ++ i64s (L.drop i)).set i (.int .i64 (d : Int)) = n64s (O ++ [d]) ++ i64s (L.drop (i + 1)) := by
  rw [List.set_append_right _ _ (by rw [n64s_length]; omega), n64s_length, hO, Nat.sub_self, List.drop_eq_getElem_cons h, n64s_append, List.append_assoc]
  rfl
theorem mix_len {O : List Nat} {L : List Int} {i : Nat} (hO : O.length = i) (h : i ≤ L.length) : (n64s O ++ i64s (L.drop i)).length = L.length := by
  rw [List.length_append, n64s_length, i64s_length, List.length_drop]; omega

/-- what carry makes of a row -/
def CarryPost (base : Nat) (w : World) (m : Nat) (e : Ending) (w' : World) : Prop := ∃ v, e = .returned v ∧ Below base w w' ∧ Pt w' v m ∧ ∀ k, v.ownBlock = some k → base ≤ k

set_option maxHeartbeats 2000000 in
set_option maxRecDepth 100000 in
theorem carry_any (base g n cap : Nat) (L : List Int) (w : World) (hown : w.ownsRow base 3 1 (.slice (some ⟨g, 0, none⟩) n cap) n (i64s L)) (hbase : base ≤ w.heap.size) (hL : L.length = n) (hn : n ≤ 1000000000000)
    (hb : ∀ i, i < n → -1000000000000000000 ≤ L[i]?.getD 0 ∧ L[i]?.getD 0 ≤ 1000000000000000000) (h0 : 0 ≤ Mth.zval 10000 L) :
    Calls Tryz.prog 159 #[.slice (some ⟨g, 0, none⟩) n cap] w (CarryPost base w (Mth.zval 10000 L).toNat) := by
  obtain ⟨i0, hi, hz0, hz1, hz2⟩ := info_parts info_int
  have hg := (hown.lt g rfl).1
  have HB0 := Lib.hid hb
  have HZ := Lib.hid h0
  have HLL := Lib.hid hL
  have HO0 := Lib.hid hown
  have hnc : n ≤ cap := by
    rcases hown.2 with ⟨h, -⟩ | ⟨g', cap', cur, h, -, -, h2, -⟩
    · cases h
    · injection h with _ _ h; omega
  clear hb h0 hL hown
  go_enter Tryz.func159, Tryz.ntmps159
  go_wp2
  go_loopw [3, 7] (fun a3 a7 wr => ∃ (i : Nat) (c : Int) (O : List Nat), a7 = .int .i64 i ∧ a3 = .int .i64 c ∧ i ≤ n ∧ -1000000000000000000 ≤ c ∧ c ≤ 1000000000000000000 ∧ O.length = i ∧ (∀ d ∈ O, d < 10000) ∧
    wr.ownsRow base 3 1 (.slice (some ⟨g, 0, none⟩) n cap) n (n64s O ++ i64s (L.drop i)) ∧ Mth.zval 10000 L = (Mth.val 10000 O : Int) + (10000 : Int) ^ i * (c + Mth.zval 10000 (L.drop i)) ∧ Below base w wr) (fun _ a7 _ => n - (intOf a7).toNat)
  case atStart => exact ⟨0, 0, [], rfl, rfl, by omega, by omega, by omega, rfl, by simp, by simpa [n64s] using HO0.out, by simp [Mth.val], Below.refl _ _⟩
  case round =>
    obtain ⟨i, c, O, rfl, rfl, hi2, hc1, hc2, hO, hd, hown, hv, hB⟩ := hrel
    have HO := Lib.hid hO
    have HD := Lib.hid hd
    have HV := Lib.hid hv
    have hBs := hB.size
    clear hO hd hv
    by_cases hlt : i < n
    · have hlt2 : (i : Int) < (n : Int) := by omega
      have g1 := (hown.cellAt i (by omega)).trans (mix_at HO.out (by rw [HLL.out]; exact hlt))
      have gf := hown.frozenAt i
      obtain ⟨b1, b2⟩ := HB0.out i hlt
      obtain ⟨x, hx⟩ : ∃ x, L[i]?.getD 0 = x := ⟨_, rfl⟩
      rw [hx] at g1 b1 b2
      have HX := Lib.hid hx
      have t1 := Int.lt_tmod_of_pos (c + x) (show (0 : Int) < 10000 by omega)
      have t2 := Int.tmod_lt_of_pos (c + x) (show (0 : Int) < 10000 by omega)
      have t3 := Int.tmod_add_mul_tdiv (c + x) 10000
      have t4 : -1000000000000000 ≤ (c + x).tdiv 10000 := by omega
      have t5 : (c + x).tdiv 10000 ≤ 1000000000000000 := by omega
      clear hx t3 hlt
      have HLT : Hid (i < n) := Lib.hid (by omega)
      by_cases ht : (c + x).tmod 10000 < 0
      · obtain ⟨m1, m2⟩ := Mth.tmod_mend (s := c + x) (show (0 : Int) < 10000 by omega) ht
        have HM1 := Lib.hid m1
        have HM2 := Lib.hid m2
        clear m1 m2
        go_wp2
        go_roundw
        case rel =>
          have e0 : ((((c + x) % 10000).toNat : Nat) : Int) = (c + x) % 10000 := by omega
          refine ⟨i + 1, (c + x) / 10000, O ++ [((c + x) % 10000).toNat], by go_num, by rw [← HM2.out], by omega, by omega, by omega, by simp [HO.out], ?_, ?_, ?_, ?_⟩
          · intro d hd
            rcases List.mem_append.1 hd with h | h
            · exact HD.out d h
            · simp at h; omega
          · have h1 := (hown.stored i (.int .i64 ((c + x).tmod 10000))).1
            have h2 := (h1.stored i (.int .i64 ((c + x).tmod 10000 + 10000))).1
            rw [List.set_set, HM1.out, ← e0, mix_set HO.out (by rw [HLL.out]; exact HLT.out)] at h2
            rw [HM1.out, ← e0]
            exact h2
          · refine Mth.carry_step 10000 _ c _ _ O L i HO.out (by rw [HLL.out]; exact HLT.out) HV.out ?_
            rw [HX.out, e0]; omega
          · exact (hB.setCell (p := ⟨g, i, none⟩) hg _).setCell (p := ⟨g, i, none⟩) hg _
        case measure => have := HLT.out; simp [intOf]; omega
      · obtain ⟨m1, m2⟩ := Mth.tmod_keep (s := c + x) (show (0 : Int) < 10000 by omega) (by omega)
        have HM1 := Lib.hid m1
        have HM2 := Lib.hid m2
        clear m1 m2
        go_wp2
        go_roundw
        case rel =>
          have e0 : ((((c + x) % 10000).toNat : Nat) : Int) = (c + x) % 10000 := by omega
          refine ⟨i + 1, (c + x) / 10000, O ++ [((c + x) % 10000).toNat], by go_num, by rw [← HM2.out], by omega, by omega, by omega, by simp [HO.out], ?_, ?_, ?_, ?_⟩
          · intro d hd
            rcases List.mem_append.1 hd with h | h
            · exact HD.out d h
            · simp at h; omega
          · have h1 := (hown.stored i (.int .i64 ((c + x).tmod 10000))).1
            rw [HM1.out, ← e0, mix_set HO.out (by rw [HLL.out]; exact HLT.out)] at h1
            rw [HM1.out, ← e0]
            exact h1
          · refine Mth.carry_step 10000 _ c _ _ O L i HO.out (by rw [HLL.out]; exact HLT.out) HV.out ?_
            rw [HX.out, e0]; omega
          · exact hB.setCell (p := ⟨g, i, none⟩) hg _
        case measure => have := HLT.out; simp [intOf]; omega
    · obtain rfl : i = n := by omega
      have hv := HV.out
      rw [List.drop_of_length_le (by rw [HLL.out]; omega), Mth.zval, Int.add_zero] at hv
      have hc0 := Mth.carry_end (b := 10000) (by omega) O _ c (by rw [HO.out]; exact hv) HZ.out HD.out
      obtain ⟨C, rfl⟩ : ∃ C : Nat, c = C := ⟨c.toNat, by omega⟩
      rw [← HO.out] at hv
      have HN := Lib.hid (Mth.carry_nat O _ C hv)
      have hown' : wr.ownsRow base 3 1 (.slice (some ⟨g, 0, none⟩) i cap) O.length (n64s O) := by
        have := hown
        rw [List.drop_of_length_le (by rw [HLL.out]; omega)] at this
        rw [HO.out]
        simpa [i64s] using this
      have HOWN := Lib.hid hown'
      have HBR := Lib.hid hB
      have hOn : O.length ≤ 1000000000000 := by rw [HO.out]; omega
      clear hv hown hown' hB hlt hi2
      go_wp2
      obtain ⟨wo, rfl⟩ : ∃ wo : World, wo = wr := ⟨_, rfl⟩
      go_loopw [0, 3] (fun a0 a3 wi => ∃ (E : Nat) (D : List Nat), a3 = .int .i64 E ∧ E ≤ C ∧ wi.ownsRow base 3 1 a0 D.length (n64s D) ∧ O ++ Mth.dg 10000 C = D ++ Mth.dg 10000 E ∧ Below base w wi) (fun _ a3 _ => (intOf a3).toNat)
      case atStart => exact ⟨C, O, rfl, Nat.le_refl _, HOWN.out, rfl, HBR.out⟩
      case round =>
        obtain ⟨E, D, rfl, hE, hown, hdd, hB⟩ := hrel
        have HDD := Lib.hid hdd
        have hBs2 := hB.size
        have hdl : D.length ≤ O.length + 5 := by
          have h1 := Mth.dg_len_le (b := 10000) (by omega) 5 C (by omega)
          have h2 := congrArg List.length hdd
          simp at h2
          omega
        clear hdd
        by_cases h0 : 0 < E
        · go_wp2_with (at_builtin; go_must (refine wpList_append_own _ rfl _ _ 50 rfl base 3 i0 (.int .i64 0) 1 8 Tryz.underlying50 hi hz0 hz1 hz2 rfl (by decide) _ _ _ rfl (hown.alloc _) ⟨wr.heap.size, 0, none⟩ 1 1 [.int .i64 ((E : Int) % 10000)] rfl rfl (cell_one_new _ _ _) (by simp [Value.oneCell']) (by unfold maxLen; omega) (by omega) (by simp; omega) ?_); intro v' w1 hown' hgrow _)
          go_roundw
          case rel =>
            have hd := HDD.out
            rw [Mth.dg_pos (b := 10000) (n := E) (by omega) h0] at hd
            refine ⟨E / 10000, D ++ [E % 10000], by go_num, by omega, ?_, by rw [hd]; simp, (hB.alloc (by omega) _).grown hgrow (by simp; omega) (fun k hk => (hown.lt k hk).1)⟩
            rw [n64s_append, List.length_append]
            exact hown'
          case measure => simp [intOf]; omega
        · obtain rfl : E = 0 := by omega
          have hsl := Sl.of_own hown
          have HLTB := Lib.hid hown.lt
          go_wp2_with (go_at_call 112; refine (tidy_own D _ _ hsl (by omega)).mono ?_; rintro e w' ⟨v', rfl, hS, hob, rfl⟩)
          go_ret
          refine ⟨v', rfl, hB, ?_, fun k hk => (HLTB.out k (by rw [← hob]; exact hk)).1⟩
          unfold Pt
          have hd := HDD.out
          rw [Mth.dg_zero, List.append_nil] at hd
          rw [HN.out, ← Mth.carry_dg (by omega) O D C HD.out hd.symm]
          exact hS
end Go.Proofs.YtldjemlmjfpmjaaGreatDoor

namespace Go.Proofs.YtldjemlmjfpmjaaGreatDoor
open Go.RowKit

theorem ownI_row {w : World} {base g n : Nat} {L : List Int} (h : OwnI w g L) (hg : base ≤ g) (hl : L.length = n) (hm : n ≤ maxLen) : w.ownsRow base 3 1 (.slice (some ⟨g, 0, none⟩) n n) n (i64s L) := by
  refine ⟨by rw [i64s_length, hl]; omega, Or.inr ⟨g, n, (i64s L).toArray, rfl, hg, h, Nat.le_refl _, hm, by simp [i64s_length, hl], ?_⟩⟩
  rw [List.take_of_length_le]
  simp [i64s_length, hl]

theorem getD_set_le {L : List Int} {p : Nat} {d B : Int} (h : ∀ j : Nat, L[j]?.getD 0 ≤ B) (hd : d ≤ B) : ∀ j : Nat, (L.set p d)[j]?.getD 0 ≤ B := by
  intro j
  by_cases e : j = p
  · subst e
    by_cases hl : j < L.length
    · rw [Mth.zget_set_same hl]; exact hd
    · rw [List.set_eq_of_length_le (by omega)]; exact h j
  · rw [Mth.zget_set_other e]; exact h j
theorem getD_set_ge {L : List Int} {p : Nat} {d B : Int} (h : ∀ j : Nat, B ≤ L[j]?.getD 0) (hd : B ≤ d) : ∀ j : Nat, B ≤ (L.set p d)[j]?.getD 0 := by
  intro j
  by_cases e : j = p
  · subst e
    by_cases hl : j < L.length
    · rw [Mth.zget_set_same hl]; exact hd
    · rw [List.set_eq_of_length_le (by omega)]; exact h j
  · rw [Mth.zget_set_other e]; exact h j

set_option maxHeartbeats 2000000 in
set_option maxRecDepth 100000 in
theorem rmul_list (la lb : List Nat) (hxa : ∀ d ∈ la, d < 10000) (hxb : ∀ d ∈ lb, d < 10000) (va vb : Value) (w : World) (ha : Sl w va (n64s la)) (hb : Sl w vb (n64s lb)) (_hs : la.length ≤ 1000000000) (_ht : lb.length ≤ 1000000000) :
    Calls Tryz.prog 114 #[va, vb] w (CarryPost w.heap.size w (Mth.val 10000 la * Mth.val 10000 lb)) := by
  obtain ⟨A, c, rfl, h1, h2, h3⟩ := ha
  obtain ⟨A', c', rfl, h1', h2', h3'⟩ := hb
  simp only [n64s_length] at *
  have H3 := Lib.hid h3
  have H3' := Lib.hid h3'
  have HXA := Lib.hid hxa
  have HXB := Lib.hid hxb
  clear h3 h3' hxa hxb
  have hmk := run_make_row' (P := Tryz.prog) 50 3 (.int .i64 0) 8 Tryz.underlying50 info_int rfl .i64 .i64 (la.length + lb.length) (by omega) (by omega)
  rw [show (((la.length + lb.length : Nat)) : Int) = (la.length : Int) + (lb.length : Int) by omega] at hmk
  go_enter Tryz.func114, Tryz.ntmps114
  go_wp2
  clear hmk
  go_loopw [18] (fun a18 wr => ∃ (i : Nat) (L : List Int), a18 = .int .i64 i ∧ i ≤ la.length ∧ L.length = la.length + lb.length ∧ OwnI wr w.heap.size L ∧ (∀ j : Nat, 0 ≤ L[j]?.getD 0) ∧ (∀ j : Nat, L[j]?.getD 0 ≤ 100000000 * (i : Int)) ∧
    Mth.zval 10000 L = (Mth.val 10000 (la.take i) * Mth.val 10000 lb : Nat) ∧ Below w.heap.size w wr) (fun a18 _ => la.length - (intOf a18).toNat)
  case atStart => exact ⟨0, List.replicate (la.length + lb.length) 0, rfl, by omega, by simp, OwnI.made w _, by intro j; simp [List.getElem?_replicate]; split <;> simp, by intro j; simp [List.getElem?_replicate]; split <;> simp, by rw [Mth.zval_replicate_zero]; simp [Mth.val], (Below.refl _ _).alloc (Nat.le_refl _) _⟩
  case round =>
    obtain ⟨i, L, rfl, hi, hl, hown, hp, hm, hv, hB⟩ := hrel
    have HP := Lib.hid hp
    have HM := Lib.hid hm
    have HV := Lib.hid hv
    have HL := Lib.hid hl
    have HO := Lib.hid hown
    have hBs := hB.size
    clear hp hm hv
    by_cases hlt2 : i < la.length
    · have hi2 : (i : Int) < (la.length : Int) := by omega
      obtain ⟨b, o, rfl, hc⟩ := H3.out (by omega)
      have g1 := (Below.cell hB (World.block_lt_of_cell? w _ (hc i _ (n64s_at hlt2)))).trans (hc i _ (n64s_at hlt2))
      have b1 := Mth.getD_lt (by omega) HXA.out i
      obtain ⟨x, hx⟩ : ∃ x, la[i]?.getD 0 = x := ⟨_, rfl⟩
      rw [hx] at g1 b1
      have HX := Lib.hid hx
      have HL2 := Lib.hid hlt2
      clear hx hc hlt2 hl hown
      go_wp2
      obtain ⟨wo, rfl⟩ : ∃ wo : World, wo = wr := ⟨_, rfl⟩
      go_loopw [25] (fun a25 wi => ∃ (k : Nat) (M : List Int), a25 = .int .i64 k ∧ k ≤ lb.length ∧ M.length = la.length + lb.length ∧ OwnI wi w.heap.size M ∧ (∀ j : Nat, 0 ≤ M[j]?.getD 0) ∧ (∀ j : Nat, M[j]?.getD 0 ≤ 100000000 * (i : Int) + 100000000) ∧
        (∀ j : Nat, i + k ≤ j → M[j]?.getD 0 ≤ 100000000 * (i : Int)) ∧ Mth.zval 10000 M = Mth.zval 10000 L + (10000 : Int) ^ i * ((x : Int) * (Mth.val 10000 (lb.take k) : Int)) ∧ Below w.heap.size w wi) (fun a25 _ => lb.length - (intOf a25).toNat)
      case atStart => exact ⟨0, L, rfl, by omega, HL.out, HO.out, HP.out, fun j => Int.le_trans (HM.out j) (by omega), fun j _ => HM.out j, by simp [Mth.val], hB⟩
      case round =>
        obtain ⟨k, M, rfl, hk, hl, hown, hp, hm, hz, hv, hB'⟩ := hrel
        have HP' := Lib.hid hp
        have HM' := Lib.hid hm
        have HZ' := Lib.hid hz
        have HV' := Lib.hid hv
        have HL' := Lib.hid hl
        have hBs' := hB'.size
        clear hp hm hz hv
        by_cases hlt3 : k < lb.length
        · have hk2 : (k : Int) < (lb.length : Int) := by omega
          obtain ⟨b', o', rfl, hc'⟩ := H3'.out (by omega)
          have g2 := (Below.cell hB' (World.block_lt_of_cell? w _ (hc' k _ (n64s_at hlt3)))).trans (hc' k _ (n64s_at hlt3))
          have b2 := Mth.getD_lt (by omega) HXB.out k
          have g0 := hown.cell (j := i + k) (by have := HL2.out; omega)
          have gf := hown.frozen (i + k)
          have b3 := HP'.out (i + k)
          have b4 := HZ'.out (i + k) (Nat.le_refl _)
          obtain ⟨y, hy⟩ : ∃ y, lb[k]?.getD 0 = y := ⟨_, rfl⟩
          obtain ⟨z, hz⟩ : ∃ z, M[i + k]?.getD 0 = z := ⟨_, rfl⟩
          rw [hy] at g2 b2
          rw [hz] at g0 b3 b4
          have HY := Lib.hid hy
          have HZ0 := Lib.hid hz
          have HL3 := Lib.hid hlt3
          have hp0 : 0 ≤ (x : Int) * (y : Int) := Int.mul_nonneg (by omega) (by omega)
          have hp1 : (x : Int) * (y : Int) ≤ 99980001 := by
            have h : x * y ≤ 9999 * 9999 := Nat.mul_le_mul (by omega) (by omega)
            rw [← Int.natCast_mul]; omega
          have hz9 : z ≤ 100000000000000000 := by have := HL2.out; omega
          clear hy hz hc' hlt3 hl
          go_wp2
          go_roundw
          case rel =>
            refine ⟨k + 1, M.set (i + k) (z + (x : Int) * (y : Int)), by go_num, by omega, by simp [HL'.out], hown.set _ _, getD_set_ge HP'.out (by omega), getD_set_le HM'.out (by omega), ?_, ?_, hB'.setCell (p := ⟨w.heap.size, i + k, none⟩) (Nat.le_refl _) _⟩
            · intro j hj
              rw [Mth.zget_set_other (by have := HL3.out; omega)]
              exact HZ'.out j (by omega)
            · have h := Mth.zmul_step 10000 M lb _ x i k (by have := HL2.out; have := HL3.out; have := HL'.out; omega) HL3.out HV'.out
              rwa [HZ0.out, HY.out] at h
          case measure => simp [intOf]; omega
        · obtain rfl : k = lb.length := by omega
          clear hl
          go_wp2
          go_roundw
          case rel =>
            refine ⟨i + 1, M, by go_num, by have := HL2.out; omega, HL'.out, hown, HP'.out, fun j => Int.le_trans (HM'.out j) (by omega), ?_, hB'⟩
            have h7 := HV'.out
            rw [List.take_length, HV.out] at h7
            rw [← HX.out] at h7
            exact Mth.zmul_round 10000 la lb M i HL2.out h7
          case measure => have := HL2.out; simp [intOf]; omega
    · obtain rfl : i = la.length := by omega
      have hv := HV.out
      rw [List.take_length] at hv
      have hc := carry_any w.heap.size w.heap.size (la.length + lb.length) (la.length + lb.length) L wr (ownI_row hown (Nat.le_refl _) hl (by unfold maxLen; omega)) hBs hl (by omega)
        (fun j _ => ⟨Int.le_trans (by omega) (HP.out j), Int.le_trans (HM.out j) (by omega)⟩) (by rw [hv]; omega)
      rw [hv, Int.toNat_natCast] at hc
      have HC := Lib.hid hc
      clear hv hc hl
      go_wp2_with fail
      refine HC.out.mono ?_
      rintro e w' ⟨v', rfl, hB2, hN, hob⟩
      have HB2 := Lib.hid (hB.trans hB2)
      have HN := Lib.hid hN
      have HOB := Lib.hid hob
      clear hB2 hN hob
      go_wp2
      go_ret
      exact ⟨v', rfl, HB2.out, HN.out, HOB.out⟩

theorem rmul_any (m n : Nat) (va vb : Value) (w : World) (ha : Pt w va m) (hb : Pt w vb n) (hs : (Mth.dg 10000 m).length ≤ 1000000000) (ht : (Mth.dg 10000 n).length ≤ 1000000000) :
    Calls Tryz.prog 114 #[va, vb] w (CarryPost w.heap.size w (m * n)) := by
  have h := rmul_list (Mth.dg 10000 m) (Mth.dg 10000 n) (Mth.dg_lt (by omega) m) (Mth.dg_lt (by omega) n) va vb w ha hb hs ht
  rwa [Mth.val_dg (by omega), Mth.val_dg (by omega)] at h
end Go.Proofs.YtldjemlmjfpmjaaGreatDoor

namespace Go.Proofs.YtldjemlmjfpmjaaGreatDoor
open Go.RowKit

theorem splice_copy (la : List Nat) (n : Nat) (_h : la.length ≤ n) : splice (i64s (List.replicate n 0)) 0 (n64s la) = i64s (la.map (fun d : Nat => (d : Int)) ++ List.replicate (n - la.length) 0) := by
  rw [splice, List.take_zero, List.nil_append, Nat.zero_add, i64s_append, n64s_length]
  congr 1
  · simp [n64s, i64s]
  · simp [i64s]

set_option maxHeartbeats 2000000 in
set_option maxRecDepth 100000 in
theorem radd_list (la lb : List Nat) (k : Int) (hk : k = 1 ∨ k = -1) (hxa : ∀ d ∈ la, d < 10000) (hxb : ∀ d ∈ lb, d < 10000) (va vb : Value) (w : World) (ha : Sl w va (n64s la)) (hb : Sl w vb (n64s lb)) (_hs : la.length ≤ 1000000000) (_ht : lb.length ≤ 1000000000)
    (h0 : 0 ≤ (Mth.val 10000 la : Int) + k * (Mth.val 10000 lb : Int)) :
    Calls Tryz.prog 156 #[va, vb, .int .i64 k] w (CarryPost w.heap.size w ((Mth.val 10000 la : Int) + k * (Mth.val 10000 lb : Int)).toNat) := by
  obtain ⟨A, c, rfl, h1, h2, h3⟩ := ha
  obtain ⟨A', c', rfl, h1', h2', h3'⟩ := hb
  simp only [n64s_length] at *
  obtain ⟨m, hm⟩ : ∃ m, max la.length lb.length = m := ⟨_, rfl⟩
  have hm1 : la.length ≤ m := by omega
  have hm2 : lb.length ≤ m := by omega
  have hmx : max (la.length : Int) (lb.length : Int) = (m : Int) := by omega
  have hm3 : m ≤ 1000000000 := by omega
  have hkk : ∀ j : Nat, -9999 ≤ k * ((lb[j]?.getD 0 : Nat) : Int) ∧ k * ((lb[j]?.getD 0 : Nat) : Int) ≤ 9999 := by
    intro j
    have := Mth.getD_lt (by omega) hxb j
    rcases hk with rfl | rfl <;> omega
  have hk1 : -1 ≤ k := by omega
  have hk2 : k ≤ 1 := by omega
  have H3 := Lib.hid h3
  have H3' := Lib.hid h3'
  have HXA := Lib.hid hxa
  have HXB := Lib.hid hxb
  have HKK := Lib.hid hkk
  have H0 := Lib.hid h0
  have hmk := run_make_row' (P := Tryz.prog) 50 3 (.int .i64 0) 8 Tryz.underlying50 info_int rfl .i64 .i64 m (by omega) (by omega)
  have hrow : (w.alloc (.cells (madeCells #[.int .i64 0] m) 3)).heap[w.heap.size]? = some (.cells (i64s (List.replicate m 0)).toArray 3 (0, 0)) := OwnI.made w m
  have hsrc : Hid (∀ (A0 : Option Addr), A0 = A → 0 < (n64s la).length → ∃ ad, A0 = some ad ∧ ∀ j v, (n64s la)[j]? = some v → (w.alloc (.cells (madeCells #[.int .i64 0] m) 3)).cell? (ad.add j) = some v) := Lib.hid fun A0 e hl => by
    obtain ⟨b, o, e2, hc⟩ := h3 (by rw [n64s_length] at hl; exact hl)
    refine ⟨⟨b, o, none⟩, by rw [e, e2], fun j v hj => ?_⟩
    rw [Addr.add_lit]
    have h := hc j v hj
    exact (World.cell?_alloc_lt w _ _ (World.block_lt_of_cell? w _ h)).trans h
  have HROW := Lib.hid hrow
  have HMX := Lib.hid hmx
  have hsz : (Tryz.prog.info? 3).map (·.size) = some 1 := by kernel_rfl
  have HBA := Lib.hid ((Below.refl _ w).alloc (Nat.le_refl _) (.cells (madeCells #[.int .i64 0] m) 3))
  have hsp : (splice (i64s (List.replicate m 0)) 0 (n64s la)) = _ := splice_copy la m hm1
  have HSP := Lib.hid hsp
  have hlmin : (n64s la).length = Nat.min la.length m := by rw [n64s_length]; simp only [Nat.min_def]; split <;> omega
  have HLM := Lib.hid hlmin
  have hone : ∀ v ∈ n64s la, v.oneCell' = true := by
    intro v hv
    simp only [n64s, List.mem_map] at hv
    obtain ⟨d, -, rfl⟩ := hv
    rfl
  have HONE := Lib.hid hone
  have HSZ := Lib.hid hsz
  have HFIT : Hid (0 + (n64s la).length ≤ (i64s (List.replicate m 0)).length) := Lib.hid (by rw [i64s_length, n64s_length, List.length_replicate]; omega)
  clear h3 h3' hxa hxb hkk h0 hrow hsz hsp hm hk hlmin hone
  go_enter Tryz.func156, Tryz.ntmps156
  go_wp2_with ((with_reducible refine wpList_copy_splice (o := ⟨some 18, _, _, _, _, _⟩) rfl _ _ _ _ rfl 3 Tryz.underlying50 HSZ.out _ _ _ _ _ _ rfl rfl w.heap.size 0 (i64s (List.replicate m 0)) 3 HROW.out (n64s la) HLM.out (fun h => ⟨rfl, hsrc.out _ rfl h⟩) HFIT.out HONE.out w.heap.size w HBA.out (Nat.le_refl _) ?_); intro w1 hg1 hb1; have HB1 := Lib.hid hb1; clear hb1)
  have hg2 := hg1.out
  rw [HSP.out] at hg2
  have HG2 : Hid (OwnI w1 w.heap.size (la.map (fun d : Nat => (d : Int)) ++ List.replicate (m - la.length) 0)) := Lib.hid hg2
  obtain ⟨L0, hL0⟩ : ∃ L0 : List Int, L0 = la.map (fun d : Nat => (d : Int)) ++ List.replicate (m - la.length) 0 := ⟨_, rfl⟩
  have hL0l : L0.length = m := by rw [hL0]; simp; omega
  have hL0v : Mth.zval 10000 L0 = (Mth.val 10000 la : Int) := by rw [hL0, Mth.zval_append, Mth.zval_replicate_zero, Int.mul_zero, Int.add_zero]; exact Mth.zval_cast 10000 la
  have hL0b : ∀ j : Nat, 0 ≤ L0[j]?.getD 0 ∧ L0[j]?.getD 0 ≤ 9999 := by
    intro j
    have hall : ∀ x ∈ L0, 0 ≤ x ∧ x ≤ 9999 := by
      intro x hx
      rw [hL0] at hx
      rcases List.mem_append.1 hx with h | h
      · simp only [List.mem_map] at h
        obtain ⟨d, hd, rfl⟩ := h
        have := HXA.out d hd
        omega
      · have := List.eq_of_mem_replicate h
        omega
    by_cases hj : j < L0.length
    · rw [List.getElem?_eq_getElem hj]; exact hall _ (List.getElem_mem hj)
    · rw [List.getElem?_eq_none (by omega)]; simp
  rw [← hL0] at HG2
  have HL := Lib.hid hL0l
  have HV := Lib.hid hL0v
  have HBD := Lib.hid hL0b
  have HG := Lib.hid HG2.out
  clear hL0 hL0l hL0v hL0b hg1 hg2 HG2 hmk
  go_wp2
  go_loopw [21] (fun a21 wr => ∃ (i : Nat) (L : List Int), a21 = .int .i64 i ∧ i ≤ lb.length ∧ L.length = m ∧ OwnI wr w.heap.size L ∧ (∀ j : Nat, -9999 ≤ L[j]?.getD 0 ∧ L[j]?.getD 0 ≤ 19998) ∧ (∀ j : Nat, i ≤ j → 0 ≤ L[j]?.getD 0 ∧ L[j]?.getD 0 ≤ 9999) ∧
    Mth.zval 10000 L = (Mth.val 10000 la : Int) + k * (Mth.val 10000 (lb.take i) : Int) ∧ Below w.heap.size w wr) (fun a21 _ => lb.length - (intOf a21).toNat)
  case atStart => exact ⟨0, L0, rfl, by omega, HL.out, HG.out, fun j => by have := HBD.out j; omega, fun j _ => HBD.out j, by rw [HV.out]; simp [Mth.val], HB1.out⟩
  case round =>
    obtain ⟨i, L, rfl, hi, hl, hown, hbd, hbi, hv, hB⟩ := hrel
    have HL' := Lib.hid hl
    have HBD' := Lib.hid hbd
    have HBI' := Lib.hid hbi
    have HV' := Lib.hid hv
    have hBs := hB.size
    clear hbd hbi hv
    by_cases hlt : i < lb.length
    · have hlt2 : (i : Int) < (lb.length : Int) := by omega
      have him : (i : Int) < (m : Int) := by omega
      obtain ⟨b', o', rfl, hc'⟩ := H3'.out (by omega)
      have g2 := (Below.cell hB (World.block_lt_of_cell? w _ (hc' i _ (n64s_at hlt)))).trans (hc' i _ (n64s_at hlt))
      have b2 := HKK.out i
      have g0 := hown.cell (j := i) (by omega)
      have gf := hown.frozen i
      obtain ⟨b3, b4⟩ := HBI'.out i (Nat.le_refl _)
      obtain ⟨y, hy⟩ : ∃ y, lb[i]?.getD 0 = y := ⟨_, rfl⟩
      obtain ⟨z, hz⟩ : ∃ z, L[i]?.getD 0 = z := ⟨_, rfl⟩
      rw [hy] at g2 b2
      rw [hz] at g0 b3 b4
      obtain ⟨b5, b6⟩ := b2
      have HY := Lib.hid hy
      have HZ := Lib.hid hz
      have HLT := Lib.hid hlt
      clear hy hz hc' hlt hl
      go_wp2
      go_roundw
      case rel =>
        refine ⟨i + 1, L.set i (z + k * (y : Int)), by go_num, by omega, by simp [HL'.out], hown.set _ _, ?_, ?_, ?_, hB.setCell (p := ⟨w.heap.size, i, none⟩) (Nat.le_refl _) _⟩
        · intro j
          exact ⟨getD_set_ge (fun j => (HBD'.out j).1) (by omega) j, getD_set_le (fun j => (HBD'.out j).2) (by omega) j⟩
        · intro j hj
          rw [Mth.zget_set_other (by omega)]
          exact HBI'.out j (by omega)
        · have h := Mth.zadd_step 10000 L lb _ k i (by rw [HL'.out]; omega) HLT.out HV'.out
          rwa [HZ.out, HY.out] at h
      case measure => have := HLT.out; simp [intOf]; omega
    · obtain rfl : i = lb.length := by omega
      have hv := HV'.out
      rw [List.take_length] at hv
      have hc := carry_any w.heap.size w.heap.size m m L wr (ownI_row hown (Nat.le_refl _) hl (by unfold maxLen; omega)) hBs hl (by omega)
        (fun j _ => ⟨Int.le_trans (by omega) (HBD'.out j).1, Int.le_trans (HBD'.out j).2 (by omega)⟩) (by rw [hv]; exact H0.out)
      rw [hv] at hc
      have HC := Lib.hid hc
      clear hv hc hl
      go_wp2_with fail
      refine HC.out.mono ?_
      rintro e w' ⟨v', rfl, hB2, hN, hob⟩
      have HB2 := Lib.hid (hB.trans hB2)
      have HN := Lib.hid hN
      have HOB := Lib.hid hob
      clear hB2 hN hob
      go_wp2
      go_ret
      exact ⟨v', rfl, HB2.out, HN.out, HOB.out⟩
end Go.Proofs.YtldjemlmjfpmjaaGreatDoor
