/-
  The reference's naturals: base, tidy, natOf, natCmp, clone.
-/
import Derived.Test.YtaibpeokfbokfaaGreatDoorMath
import Derived.Test.YtaibpeokfbokfaaGreatDoorInts
import Derived.Outline
import Derived.Deep.QuietTactic
import Derived.BigQuiet
import Derived.Lib.SliceRun
namespace Go.Proofs.YtaibpeokfbokfaaGreatDoor.Mth

def zval (b : Int) : List Int → Int
  | [] => 0
  | d :: l => d + b * zval b l

theorem zval_cast (b : Nat) : ∀ l : List Nat, zval (b : Int) (l.map fun d : Nat => (d : Int)) = (val b l : Int)
  | [] => rfl
  | d :: l => by simp only [List.map_cons, zval, val, zval_cast b l]; simp
theorem zval_append (b : Int) : ∀ l m : List Int, zval b (l ++ m) = zval b l + b ^ l.length * zval b m
  | [], m => by simp [zval]
  | d :: l, m => by
    simp only [List.cons_append, zval, zval_append b l m, List.length_cons, Int.pow_succ]
    rw [Int.mul_add, Int.add_assoc, ← Int.mul_assoc, Int.mul_comm b (b ^ _)]
theorem zval_replicate_zero (b : Int) : ∀ n, zval b (List.replicate n 0) = 0
  | 0 => rfl
  | n + 1 => by rw [List.replicate_succ, zval, zval_replicate_zero b n]; simp
theorem zval_drop (b : Int) (l : List Int) (q : Nat) (h : q < l.length) : zval b (l.drop q) = l[q]?.getD 0 + b * zval b (l.drop (q + 1)) := by
  rw [List.drop_eq_getElem_cons h, zval, List.getElem?_eq_getElem h]; rfl
theorem zval_set (b : Int) : ∀ (l : List Int) (p : Nat) (d : Int), p < l.length → zval b (l.set p d) = zval b l + b ^ p * (d - l[p]?.getD 0)
  | [], p, d, h => by simp at h
  | x :: l, 0, d, _ => by simp [zval]; omega
  | x :: l, p + 1, d, h => by
    simp only [List.set_cons_succ, zval, List.getElem?_cons_succ]
    rw [zval_set b l p d (by simpa using h), Int.mul_add, Int.pow_succ, Int.mul_comm (b ^ p) b, Int.mul_assoc, Int.add_assoc]

theorem carry_step (b : Nat) (Z c c' : Int) (d : Nat) (O : List Nat) (L : List Int) (i : Nat) (hO : O.length = i) (hi : i < L.length)
    (h : Z = (val b O : Int) + (b : Int) ^ i * (c + zval b (L.drop i))) (hs : c + L[i]?.getD 0 = d + b * c') :
    Z = (val b (O ++ [d]) : Int) + (b : Int) ^ (i + 1) * (c' + zval b (L.drop (i + 1))) := by
  rw [h, zval_drop _ _ _ hi, val_snoc, hO]
  rw [show c + (L[i]?.getD 0 + (b : Int) * zval b (L.drop (i + 1))) = d + b * (c' + zval b (L.drop (i + 1))) by rw [Int.mul_add]; omega]
  rw [Int.mul_add, Int.pow_succ, Int.mul_assoc, ← Int.add_assoc]
  congr 1
theorem carry_end {b : Nat} (hb : 1 ≤ b) (O : List Nat) (Z c : Int) (h : Z = (val b O : Int) + (b : Int) ^ O.length * c) (h0 : 0 ≤ Z) (hd : ∀ d ∈ O, d < b) : 0 ≤ c := by
  rcases Int.lt_or_le c 0 with hc | hc
  · exfalso
    have h1 := val_lt hb O hd
    have h2 : (0 : Int) ≤ (b : Int) ^ O.length := Int.pow_nonneg (by omega)
    have h3 : (b : Int) ^ O.length * c ≤ (b : Int) ^ O.length * (-1) := Int.mul_le_mul_of_nonneg_left (by omega) h2
    have h4 : ((b ^ O.length : Nat) : Int) = (b : Int) ^ O.length := by simp
    omega
  · exact hc
theorem carry_nat {b : Nat} (O : List Nat) (Z : Int) (C : Nat) (h : Z = (val b O : Int) + (b : Int) ^ O.length * (C : Int)) : Z.toNat = val b O + b ^ O.length * C := by
  have h4 : ((val b O + b ^ O.length * C : Nat) : Int) = (val b O : Int) + (b : Int) ^ O.length * (C : Int) := by simp
  omega
theorem carry_dg {b : Nat} (hb : 2 ≤ b) (O D : List Nat) (C : Nat) (hd : ∀ d ∈ O, d < b) (h : D = O ++ dg b C) : tidy D = dg b (val b O + b ^ O.length * C) := by
  rw [h, tidy_eq hb _ (by
    intro d hd'
    rcases List.mem_append.1 hd' with h1 | h1
    · exact hd d h1
    · exact dg_lt hb C d h1), val_append, val_dg hb]
/-- Go's remainder and quotient, mended below zero -/
theorem tmod_mend {s b : Int} (hb : 0 < b) (h : s.tmod b < 0) : s.tmod b + b = s % b ∧ s.tdiv b - 1 = s / b := by
  have h1 := Int.tmod_add_mul_tdiv s b
  have h2 := Int.lt_tmod_of_pos s hb
  have h3 : s = (s.tmod b + b) + b * (s.tdiv b - 1) := by rw [Int.mul_sub]; omega
  constructor
  · conv => rhs; rw [h3]
    rw [Int.add_mul_emod_self_left, Int.emod_eq_of_lt (by omega) (by omega)]
  · conv => rhs; rw [h3]
    rw [Int.add_mul_ediv_left _ _ (by omega), Int.ediv_eq_zero_of_lt (by omega) (by omega)]; omega
theorem tmod_keep {s b : Int} (hb : 0 < b) (h : 0 ≤ s.tmod b) : s.tmod b = s % b ∧ s.tdiv b = s / b := by
  have h1 := Int.tmod_add_mul_tdiv s b
  have h2 := Int.tmod_lt_of_pos s hb
  constructor
  · conv => rhs; rw [← h1]
    rw [Int.add_mul_emod_self_left, Int.emod_eq_of_lt h (by omega)]
  · conv => rhs; rw [← h1]
    rw [Int.add_mul_ediv_left _ _ (by omega), Int.ediv_eq_zero_of_lt h (by omega)]; omega

/-- a sum's step: out[i] += k * x -/
theorem zadd_step (b : Nat) (L : List Int) (lb : List Nat) (S k : Int) (i : Nat) (hi : i < L.length) (hl : i < lb.length)
    (h : zval b L = S + k * (val b (lb.take i) : Int)) : zval b (L.set i (L[i]?.getD 0 + k * (lb[i]?.getD 0 : Nat))) = S + k * (val b (lb.take (i + 1)) : Int) := by
  rw [zval_set _ _ _ _ hi, h, val_take_succ _ _ _ hl]
  rw [show L[i]?.getD 0 + k * ((lb[i]?.getD 0 : Nat) : Int) - L[i]?.getD 0 = k * ((lb[i]?.getD 0 : Nat) : Int) by omega]
  simp only [Int.natCast_add, Int.natCast_mul, Int.natCast_pow]
  rw [Int.mul_add, Int.add_assoc, Int.mul_left_comm]
/-- a product's step: out[i + k] += x * y -/
theorem zmul_step (b : Nat) (M : List Int) (lb : List Nat) (Z x : Int) (i k : Nat) (hi : i + k < M.length) (hl : k < lb.length)
    (h : zval b M = Z + (b : Int) ^ i * (x * (val b (lb.take k) : Int))) :
    zval b (M.set (i + k) (M[i + k]?.getD 0 + x * (lb[k]?.getD 0 : Nat))) = Z + (b : Int) ^ i * (x * (val b (lb.take (k + 1)) : Int)) := by
  rw [zval_set _ _ _ _ hi, h, val_take_succ _ _ _ hl]
  rw [show M[i + k]?.getD 0 + x * ((lb[k]?.getD 0 : Nat) : Int) - M[i + k]?.getD 0 = x * ((lb[k]?.getD 0 : Nat) : Int) by omega]
  simp only [Int.natCast_add, Int.natCast_mul, Int.natCast_pow]
  rw [Int.mul_add, Int.mul_add, Int.add_assoc, Int.pow_add, Int.mul_assoc, Int.mul_left_comm ((b : Int) ^ k)]
theorem zmul_round (b : Nat) (la lb : List Nat) (L : List Int) (i : Nat) (hi : i < la.length)
    (h : zval b L = (val b (la.take i) * val b lb : Nat) + (b : Int) ^ i * (((la[i]?.getD 0 : Nat) : Int) * (val b lb : Int))) : zval b L = (val b (la.take (i + 1)) * val b lb : Nat) := by
  rw [h, val_take_succ _ _ _ hi, Nat.add_mul]
  simp only [Int.natCast_add, Int.natCast_mul, Int.natCast_pow]
  rw [Int.mul_assoc]
theorem zget_set_other {l : List Int} {p j : Nat} {d : Int} (h : j ≠ p) : (l.set p d)[j]?.getD 0 = l[j]?.getD 0 := by
  rw [List.getElem?_set]; simp [Ne.symm h]
theorem zget_set_same {l : List Int} {p : Nat} {d : Int} (h : p < l.length) : (l.set p d)[p]?.getD 0 = d := by
  rw [List.getElem?_set]; simp [h]
theorem zget_of_drop {L M : List Int} {i : Nat} (h : M.drop i = L.drop i) : M[i]?.getD 0 = L[i]?.getD 0 := by
  have h1 : (M.drop i)[0]? = (L.drop i)[0]? := by rw [h]
  simpa using congrArg (·.getD 0) h1
theorem zdrop_set_succ (l : List Int) (k : Nat) (x : Int) : (l.set k x).drop (k + 1) = l.drop (k + 1) := by
  rw [List.drop_set, if_pos (by omega)]
theorem zdrop_succ_of {l m : List Int} {k : Nat} (h : l.drop k = m.drop k) : l.drop (k + 1) = m.drop (k + 1) := by
  have h1 : (l.drop k).drop 1 = (m.drop k).drop 1 := by rw [h]
  simpa [List.drop_drop] using h1
theorem ztake_set_succ (l : List Int) (k : Nat) (x : Int) (h : k < l.length) : (l.set k x).take (k + 1) = l.take k ++ [x] := by
  rw [List.take_succ_eq_append_getElem (by simpa using h)]
  rw [List.take_set, List.set_eq_of_length_le (by rw [List.length_take]; omega)]; simp
end Go.Proofs.YtaibpeokfbokfaaGreatDoor.Mth

namespace Go.Proofs.YtaibpeokfbokfaaGreatDoor
open Go.RowKit

def n64s (l : List Nat) : List Value := l.map fun d : Nat => .int .i64 (d : Int)
theorem n64s_length (l : List Nat) : (n64s l).length = l.length := by simp [n64s]
theorem n64s_append (l m : List Nat) : n64s (l ++ m) = n64s l ++ n64s m := by simp [n64s]
theorem n64s_get (l : List Nat) (j : Nat) : (n64s l)[j]? = (l[j]?).map fun d : Nat => Value.int .i64 (d : Int) := by simp [n64s]
theorem n64s_at {l : List Nat} {j : Nat} (h : j < l.length) : (n64s l)[j]? = some (.int .i64 ((l[j]?.getD 0 : Nat) : Int)) := by
  rw [n64s_get, List.getElem?_eq_getElem h]; rfl

/-- the slice value v holds the number n: its parts to the base 10^4, the lowest first -/
def Pt (w : World) (v : Value) (n : Nat) : Prop := Sl w v (n64s (Mth.dg 10000 n))
theorem Pt.below {w w' : World} {v : Value} {n : Nat} (h : Pt w v n) (hb : Below w.heap.size w w') : Pt w' v n := Sl.below h hb
theorem Pt.shape {w : World} {v : Value} {n : Nat} (h : Pt w v n) : ∃ A k c, v = .slice A k c := by
  obtain ⟨A, c, e, _⟩ := h
  exact ⟨_, _, _, e⟩
theorem Pt.zero (w : World) : Pt w (.slice none 0 0) 0 := by
  unfold Pt; rw [Mth.dg_zero]; exact Sl.nil_ w
theorem info_int : (Tryz.prog.info? 3).map (fun i => (i.zero, i.size, i.bytes)) = some (some (.int .i64 0), 1, 8) := by kernel_rfl
end Go.Proofs.YtaibpeokfbokfaaGreatDoor

namespace Go.Proofs.YtaibpeokfbokfaaGreatDoor
open Go.RowKit

set_option maxHeartbeats 400000 in
set_option maxRecDepth 100000 in
theorem tidy_own (l : List Nat) (v : Value) (w : World) (h : Sl w v (n64s l)) (hs : l.length ≤ 9000000000000) :
    Calls Tryz.prog 81 #[v] w fun e w' => ∃ v', e = .returned v' ∧ Sl w v' (n64s (Mth.tidy l)) ∧ v'.ownBlock = v.ownBlock ∧ w = w' := by
  have HS := Lib.hid h
  obtain ⟨A, c, rfl, h1, h2, h3⟩ := h
  simp only [n64s_length] at *
  unfold maxLen at h2
  have H3 := Lib.hid h3
  clear h3
  go_enter Tryz.func81, Tryz.ntmps81
  go_wp2
  go_loop [0] (fun a0 => ∃ k : Nat, a0 = .slice A k c ∧ k ≤ l.length ∧ Mth.tidy (l.take k) = Mth.tidy l) (fun a0 => lenOf a0)
  case atStart => exact ⟨l.length, rfl, Nat.le_refl _, by rw [List.take_length]⟩
  case round =>
    obtain ⟨k, rfl, hk, ht⟩ := hrel
    have HT := Lib.hid ht
    clear ht
    by_cases h0 : k = 0
    · subst h0
      go_wp2
      go_ret
      have hd := HT.out
      refine ⟨_, rfl, ?_, by first | rfl | (cases A <;> rfl), rfl⟩
      rw [← hd]
      exact HS.out.head (k := 0) (by simp)
    · obtain ⟨q, rfl⟩ : ∃ q, k = q + 1 := ⟨k - 1, by omega⟩
      obtain ⟨b, o, rfl, hc⟩ := H3.out (by omega)
      have hcell : w.cell? ⟨b, o + q, none⟩ = some (.int .i64 ((l[q]?.getD 0 : Nat) : Int)) := hc q _ (by
        rw [n64s_get, List.getElem?_eq_getElem (by omega)]; rfl)
      clear hc
      by_cases hz : l[q]?.getD 0 = 0
      · rw [hz] at hcell
        have hd := HT.out
        rw [take_snoc_nat l q (by omega), hz, Mth.tidy_snoc_zero] at hd
        have HD := Lib.hid hd
        clear hd hz
        go_wp2
        go_round
        case rel => exact ⟨q, rfl, by omega, HD.out⟩
        case measure => simp [lenOf]
      · have hne : (((l[q]?.getD 0 : Nat) : Int) == 0) = false := by simp; omega
        have hd := HT.out
        rw [take_snoc_nat l q (by omega), Mth.tidy_snoc hz, ← take_snoc_nat l q (by omega)] at hd
        have HD := Lib.hid hd
        clear hd hz
        go_wp2
        go_ret
        refine ⟨_, rfl, ?_, by first | rfl | (cases A <;> rfl), rfl⟩
        rw [← HD.out]
        have := HS.out.head (k := q + 1) (by rw [n64s_length]; omega)
        rwa [n64s, ← List.map_take] at this
theorem tidy_any (l : List Nat) (v : Value) (w : World) (h : Sl w v (n64s l)) (hs : l.length ≤ 9000000000000) :
    Calls Tryz.prog 81 #[v] w fun e w' => ∃ v', e = .returned v' ∧ Sl w v' (n64s (Mth.tidy l)) ∧ w = w' :=
  (tidy_own l v w h hs).mono fun _ _ ⟨v', h1, h2, _, h3⟩ => ⟨v', h1, h2, h3⟩
end Go.Proofs.YtaibpeokfbokfaaGreatDoor

namespace Go.Proofs.YtaibpeokfbokfaaGreatDoor
open Go.RowKit


set_option maxHeartbeats 400000 in
set_option maxRecDepth 100000 in
theorem rof_any (n : Nat) (w : World) (hn : n < 18446744073709551616) :
    Calls Tryz.prog 40 #[.int .u64 n] w fun e w' => ∃ v, e = .returned v ∧ Pt w' v n ∧ Below w.heap.size w w' := by
  obtain ⟨i0, hi, hz0, hz1, hz2⟩ := info_parts info_int
  have HN := Lib.hid hn
  clear hn
  go_enter Tryz.func40, Tryz.ntmps40
  go_wp2
  go_loopw [0, 3] (fun a0 a3 wr => ∃ (m : Nat) (ds : List Nat), a0 = .int .u64 m ∧ m ≤ n ∧ wr.ownsRow w.heap.size 3 1 a3 ds.length (n64s ds) ∧ Mth.dg 10000 n = ds ++ Mth.dg 10000 m ∧ Below w.heap.size w wr) (fun a0 _ _ => (intOf a0).toNat)
  case atStart => exact ⟨n, [], rfl, Nat.le_refl _, World.ownsRow_nil _ _ _ _, rfl, Below.refl _ _⟩
  case round =>
    obtain ⟨m, ds, rfl, hm, hown, hd, hB⟩ := hrel
    have HD := Lib.hid hd
    have hl3 : ds.length ≤ 5 := by
      have h1 := Mth.dg_len_le (b := 10000) (by omega) 5 n (by have := HN.out; omega)
      rw [hd] at h1
      simp at h1
      omega
    clear hd
    by_cases h0 : 0 < m
    · go_wp2_with (at_builtin; go_must (refine wpList_append_own _ rfl _ _ 31 rfl w.heap.size 3 i0 (.int .i64 0) 1 8 Tryz.underlying31 hi hz0 hz1 hz2 rfl (by decide) _ _ _ rfl (hown.alloc _) ⟨wr.heap.size, 0, none⟩ 1 1 [.int .i64 ((m : Int) % 10000)] rfl rfl (cell_one_new _ _ _) (by simp [Value.oneCell']) (by unfold maxLen; omega) (by omega) (by have := hB.size; simp; omega) ?_); intro v' w1 hown' hgrow _)
      have hw : IntKind.u64.wrap ((m : Int) / 10000) = ((m / 10000 : Nat) : Int) := by
        have := HN.out
        rw [IntKind.wrap_u64]; omega
      have hd := HD.out
      rw [Mth.dg_pos (b := 10000) (by omega) h0] at hd
      go_roundw
      case rel =>
        refine ⟨m / 10000, ds ++ [m % 10000], by rw [hw], by omega, ?_, by rw [hd]; simp, (hB.alloc (hB.size) _).grown hgrow (by have := hB.size; simp; omega) (fun k hk => (hown.lt k hk).1)⟩
        rw [n64s_append, List.length_append]
        exact hown'
      case measure => rw [hw]; simp [intOf]; omega
    · go_wp2
      go_ret
      obtain rfl : m = 0 := by omega
      have hd := HD.out
      rw [Mth.dg_zero, List.append_nil] at hd
      refine ⟨_, rfl, ?_, hB⟩
      unfold Pt
      rw [hd]
      exact Sl.of_own hown
end Go.Proofs.YtaibpeokfbokfaaGreatDoor

namespace Go.Proofs.YtaibpeokfbokfaaGreatDoor
open Go.RowKit

/-- the sign of a comparison -/
def RCmp (m n : Nat) (w : World) (e : Ending) (w' : World) : Prop :=
  ∃ z : Int, e = .returned (.int .i64 z) ∧ ((z < 0 ∧ m < n) ∨ (z = 0 ∧ m = n) ∨ (0 < z ∧ n < m)) ∧ ∃ k, w' = w.drewN k

set_option maxHeartbeats 1000000 in
set_option maxRecDepth 100000 in
theorem rcmp_list (la lb : List Nat) (m n : Nat) (hab : la = lb → m = n) (hlt : la.length < lb.length → m < n) (hgt : lb.length < la.length → n < m)
    (hld : ∀ q, q < la.length → q < lb.length → la.drop (q + 1) = lb.drop (q + 1) → la[q]?.getD 0 < lb[q]?.getD 0 → m < n)
    (hgd : ∀ q, q < la.length → q < lb.length → la.drop (q + 1) = lb.drop (q + 1) → lb[q]?.getD 0 < la[q]?.getD 0 → n < m)
    (hxa : ∀ d ∈ la, d < 10000) (hxb : ∀ d ∈ lb, d < 10000) (va vb : Value) (w : World) (ha : Sl w va (n64s la)) (hb : Sl w vb (n64s lb)) (_hs : la.length ≤ 1000000000000) (_ht : lb.length ≤ 1000000000000) :
    Calls Tryz.prog 60 #[va, vb] w (RCmp m n w) := by
  obtain ⟨A, c, rfl, h1, h2, h3⟩ := ha
  obtain ⟨A', c', rfl, h1', h2', h3'⟩ := hb
  simp only [n64s_length] at *
  have HXA := Lib.hid hxa
  have HXB := Lib.hid hxb
  clear hxa hxb
  have HAB := Lib.hid hab
  have HLT := Lib.hid hlt
  have HGT := Lib.hid hgt
  have HLD := Lib.hid hld
  have HGD := Lib.hid hgd
  clear hab hlt hgt hld hgd
  have H3 := Lib.hid h3
  have H3' := Lib.hid h3'
  clear h3 h3'
  by_cases hl : la.length = lb.length
  · have hl0 : ((la.length : Int) != lb.length) = false := by rw [hl]; simp
    have HL := Lib.hid hl
    clear hl
    go_enter Tryz.func60, Tryz.ntmps60
    go_wp2
    go_loopw [5] (fun a5 wr => ∃ (i : Int) (nd : Nat), a5 = .int .i64 i ∧ -1 ≤ i ∧ i < la.length ∧ la.drop (i + 1).toNat = lb.drop (i + 1).toNat ∧ wr = w.drewN nd) (fun a5 _ => (intOf a5 + 1).toNat)
    case atStart => exact ⟨(la.length : Int) - 1, 0, rfl, by omega, by omega, by rw [show ((la.length : Int) - 1 + 1).toNat = la.length by omega, List.drop_length, HL.out, List.drop_length], rfl⟩
    case round =>
      obtain ⟨i, nd, rfl, hk1, hk2, hd, rfl⟩ := hrel
      have HD := Lib.hid hd
      clear hd
      by_cases h0 : i < 0
      · go_wp2
        go_ret
        exact ⟨0, rfl, Or.inr (Or.inl ⟨rfl, HAB.out (by have := HD.out; rw [show (i + 1).toNat = 0 by omega] at this; exact this)⟩), nd, rfl⟩
      · obtain ⟨q, rfl⟩ : ∃ q : Nat, i = q := ⟨i.toNat, by omega⟩
        have b1 := Mth.getD_lt (by omega) HXA.out q
        have b2 := Mth.getD_lt (by omega) HXB.out q
        have hq' : q < lb.length := by have := HL.out; omega
        obtain ⟨b, o, rfl, hc⟩ := H3.out (by omega)
        obtain ⟨b', o', rfl, hc'⟩ := H3'.out (by omega)
        have g1 := hc q _ (n64s_at (by omega))
        have g2 := hc' q _ (n64s_at hq')
        clear hc hc'
        have hq2 : (q : Int) < (lb.length : Int) := by omega
        have HQ := Lib.hid hq'
        clear hq'
        obtain ⟨x, hx⟩ : ∃ x, la[q]?.getD 0 = x := ⟨_, rfl⟩
        obtain ⟨y, hy⟩ : ∃ y, lb[q]?.getD 0 = y := ⟨_, rfl⟩
        rw [hx] at g1 b1
        rw [hy] at g2 b2
        have HX := Lib.hid hx
        have HY := Lib.hid hy
        clear hx hy
        by_cases hz : x = y
        · subst hz
          go_wp2
          go_quiet (fail)
          go_wp2
          go_roundw
          case rel =>
            refine ⟨(q : Int) - 1, _, rfl, by omega, by omega, ?_, rfl⟩
            rw [show ((q : Int) - 1 + 1).toNat = q by omega]
            have h6 := HD.out
            have h7 := HQ.out
            rw [show ((q : Int) + 1).toNat = q + 1 by omega] at h6
            rw [List.drop_eq_getElem_cons (show q < la.length by omega), List.drop_eq_getElem_cons h7, h6]
            have h8 := HX.out
            have h9 := HY.out
            rw [List.getElem?_eq_getElem (by omega)] at h8
            rw [List.getElem?_eq_getElem h7] at h9
            simp only [Option.getD_some] at h8 h9
            rw [h8, h9]
          case measure => simp [intOf]
        · have hne : ((x : Int) != (y : Int)) = true := by simp; omega
          go_wp2
          go_quiet (fail)
          go_wp2
          go_quiet (fail)
          go_wp2
          go_ret
          refine ⟨(x : Int) - y, rfl, ?_, _, by rw [World.drewN_drewN, World.drewN_drewN]⟩
          have h6 := HD.out
          rw [show ((q : Int) + 1).toNat = q + 1 by omega] at h6
          rcases Nat.lt_or_ge x y with h5 | h5
          · exact Or.inl ⟨by omega, HLD.out q (by omega) HQ.out h6 (by rw [HX.out, HY.out]; exact h5)⟩
          · exact Or.inr (Or.inr ⟨by omega, HGD.out q (by omega) HQ.out h6 (by rw [HX.out, HY.out]; omega)⟩)
  · have hl0 : ((la.length : Int) != lb.length) = true := by simp; omega
    go_enter Tryz.func60, Tryz.ntmps60
    go_wp2
    go_ret
    refine ⟨(la.length : Int) - lb.length, rfl, ?_, 0, rfl⟩
    rcases Nat.lt_or_ge la.length lb.length with h5 | h5
    · exact Or.inl ⟨by omega, HLT.out h5⟩
    · exact Or.inr (Or.inr ⟨by omega, HGT.out (by omega)⟩)

/-- natCmp compares the numbers. -/
theorem rcmp_any (m n : Nat) (va vb : Value) (w : World) (ha : Pt w va m) (hb : Pt w vb n) (hs : (Mth.dg 10000 m).length ≤ 1000000000000) (ht : (Mth.dg 10000 n).length ≤ 1000000000000) :
    Calls Tryz.prog 60 #[va, vb] w (RCmp m n w) :=
  rcmp_list (Mth.dg 10000 m) (Mth.dg 10000 n) m n (Mth.dg_inj (by omega)) (Mth.lt_of_len (by omega)) (Mth.lt_of_len (by omega))
    (fun q h1 h2 h3 h4 => by
      have := Mth.val_lt_of (b := 10000) (by omega) h1 h2 h3 (Mth.dg_lt (by omega) m) h4
      rwa [Mth.val_dg (by omega), Mth.val_dg (by omega)] at this)
    (fun q h1 h2 h3 h4 => by
      have := Mth.val_lt_of (b := 10000) (by omega) h2 h1 h3.symm (Mth.dg_lt (by omega) n) h4
      rwa [Mth.val_dg (by omega), Mth.val_dg (by omega)] at this) (Mth.dg_lt (by omega) m) (Mth.dg_lt (by omega) n) va vb w ha hb hs ht
end Go.Proofs.YtaibpeokfbokfaaGreatDoor

namespace Go.Proofs.YtaibpeokfbokfaaGreatDoor
open Go.RowKit

set_option maxHeartbeats 1000000 in
set_option maxRecDepth 100000 in
theorem rclone_any (l : List Nat) (v : Value) (w : World) (h : Sl w v (n64s l)) (_hs : l.length ≤ 1000000000000) :
    Calls Tryz.prog 104 #[v] w fun e w' => ∃ v', e = .returned v' ∧ Below w.heap.size w w' ∧ w'.ownsRow w.heap.size 3 1 v' l.length (n64s l) := by
  obtain ⟨i0, hi, hz0, hz1, hz2⟩ := info_parts info_int
  obtain ⟨A, c, rfl, h1, h2, h3⟩ := h
  simp only [n64s_length] at *
  rcases A with _ | ad
  · have hl : l.length = 0 := by
      rcases Nat.eq_zero_or_pos l.length with h | h
      · exact h
      · obtain ⟨b, o, e, _⟩ := h3 h
        cases e
    have hn : l = [] := List.eq_nil_of_length_eq_zero hl
    subst hn
    clear h3
    have heq := fun W => Lib.run_eql_slice_nil (P := Tryz.prog) W 31 3 none 0 c 0 0 Tryz.underlying31
    simp only [List.length_nil]
    go_enter Tryz.func104, Tryz.ntmps104
    go_wp2
    go_ret
    exact ⟨_, rfl, Below.refl _ _, World.ownsRow_nil _ _ _ _⟩
  · have hnews : ∀ j u, (n64s l)[j]? = some u → (w.alloc (.cells #[] 3)).cell? (ad.add j) = some u := by
      intro j u hu
      have hj : j < l.length := by
        rcases Nat.lt_or_ge j l.length with h | h
        · exact h
        · rw [List.getElem?_eq_none (by rw [n64s_length]; exact h)] at hu; cases hu
      obtain ⟨b, o, e, hc⟩ := h3 (by omega)
      injection e with e
      subst e
      have := hc j u hu
      rw [Addr.add_lit]
      exact (World.cell?_alloc_lt w _ _ (World.block_lt_of_cell? w _ this)).trans this
    have h1c : ∀ u ∈ n64s l, u.oneCell' = true := by
      intro u hu
      simp only [n64s, List.mem_map] at hu
      obtain ⟨d, _, rfl⟩ := hu
      rfl
    have heq := fun W => Lib.run_eql_slice_nil (P := Tryz.prog) W 31 3 (some ad) l.length c 0 0 Tryz.underlying31
    have hown := World.ownsRow_made (base := w.heap.size) (e := 3) (size := 1) w #[] 0 (Nat.le_refl _) (by unfold maxLen; omega) rfl
    have HN := Lib.hid hnews
    have HC1 := Lib.hid h1c
    clear h3 hnews h1c
    go_enter Tryz.func104, Tryz.ntmps104
    go_wp2_with (at_builtin; refine wpList_append_own _ rfl _ _ 31 rfl w.heap.size 3 i0 (.int .i64 0) 1 8 Tryz.underlying31 hi hz0 hz1 hz2 rfl (by decide) _ _ _ rfl hown ad l.length c (n64s l) rfl (by rw [n64s_length, Nat.mul_one]) HN.out HC1.out (by unfold maxLen; omega) (by omega) (by simp) ?_; intro v' w1 hown' hgrow _)
    go_ret
    refine ⟨_, rfl, ((Below.refl _ _).alloc (Nat.le_refl _) _).grown hgrow (by simp) (fun k hk => (hown.lt k hk).1), ?_⟩
    simpa using hown'
end Go.Proofs.YtaibpeokfbokfaaGreatDoor
