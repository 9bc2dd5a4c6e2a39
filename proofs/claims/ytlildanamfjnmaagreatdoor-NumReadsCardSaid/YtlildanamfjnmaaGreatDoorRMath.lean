/-
  Plain arithmetic for the reference's numbers: lists of integers as digits to a base.
-/
import Derived.Test.YtlildanamfjnmaaGreatDoorMath
namespace Go.Proofs.YtlildanamfjnmaaGreatDoor.Mth

def zval (b : Int) : List Int → Int
  | [] => 0
  | d :: l => d + b * zval b l

theorem zval_cast (b : Nat) : ∀ l : List Nat, zval (b : Int) (l.map fun d : Nat => (d : Int)) = (val b l : Int)
  | [] => rfl
  | d :: l => by simp only [List.map_cons, zval, val, zval_cast b l]; simp
theorem zval_append (b : Int) : ∀ l m : List Int, zval b (l ++ m) = zval b l + b ^ l.length * zval b m
  | [], m => by simp [zval]
  | d :: l, m => by
    simp only [List.cons_append, zval, zval_append b l m, List.length_cons, Int.pow_succ]
    rw [Int.mul_add, Int.add_assoc, ← Int.mul_assoc, Int.mul_comm b (b ^ _)]
theorem zval_replicate_zero (b : Int) : ∀ n, zval b (List.replicate n 0) = 0
  | 0 => rfl
  | n + 1 => by rw [List.replicate_succ, zval, zval_replicate_zero b n]; simp
theorem zval_drop (b : Int) (l : List Int) (q : Nat) (h : q < l.length) : zval b (l.drop q) = l[q]?.getD 0 + b * zval b (l.drop (q + 1)) := by
  rw [List.drop_eq_getElem_cons h, zval, List.getElem?_eq_getElem h]; rfl
theorem zval_set (b : Int) : ∀ (l : List Int) (p : Nat) (d : Int), p < l.length → zval b (l.set p d) = zval b l + b ^ p * (d - l[p]?.getD 0)
  | [], p, d, h => by simp at h
  | x :: l, 0, d, _ => by simp [zval]; omega
  | x :: l, p + 1, d, h => by
    simp only [List.set_cons_succ, zval, List.getElem?_cons_succ]
    rw [zval_set b l p d (by simpa using h), Int.mul_add, Int.pow_succ, Int.mul_comm (b ^ p) b, Int.mul_assoc, Int.add_assoc]

theorem carry_step (b : Nat) (Z c c' : Int) (d : Nat) (O : List Nat) (L : List Int) (i : Nat) (hO : O.length = i) (hi : i < L.length)
    (h : Z = (val b O : Int) + (b : Int) ^ i * (c + zval b (L.drop i))) (hs : c + L[i]?.getD 0 = d + b * c') :
    Z = (val b (O ++ [d]) : Int) + (b : Int) ^ (i + 1) * (c' + zval b (L.drop (i + 1))) := by
  rw [h, zval_drop _ _ _ hi, val_snoc, hO]
  rw [show c + (L[i]?.getD 0 + (b : Int) * zval b (L.drop (i + 1))) = d + b * (c' + zval b (L.drop (i + 1))) by rw [Int.mul_add]; omega]
  rw [Int.mul_add, Int.pow_succ, Int.mul_assoc, ← Int.add_assoc]
  congr 1
theorem carry_end {b : Nat} (hb : 1 ≤ b) (O : List Nat) (Z c : Int) (h : Z = (val b O : Int) + (b : Int) ^ O.length * c) (h0 : 0 ≤ Z) (hd : ∀ d ∈ O, d < b) : 0 ≤ c := by
  rcases Int.lt_or_le c 0 with hc | hc
  · exfalso
    have h1 := val_lt hb O hd
    have h2 : (0 : Int) ≤ (b : Int) ^ O.length := Int.pow_nonneg (by omega)
    have h3 : (b : Int) ^ O.length * c ≤ (b : Int) ^ O.length * (-1) := Int.mul_le_mul_of_nonneg_left (by omega) h2
    have h4 : ((b ^ O.length : Nat) : Int) = (b : Int) ^ O.length := by simp
    omega
  · exact hc
theorem carry_nat {b : Nat} (O : List Nat) (Z : Int) (C : Nat) (h : Z = (val b O : Int) + (b : Int) ^ O.length * (C : Int)) : Z.toNat = val b O + b ^ O.length * C := by
  have h4 : ((val b O + b ^ O.length * C : Nat) : Int) = (val b O : Int) + (b : Int) ^ O.length * (C : Int) := by simp
  omega
theorem carry_dg {b : Nat} (hb : 2 ≤ b) (O D : List Nat) (C : Nat) (hd : ∀ d ∈ O, d < b) (h : D = O ++ dg b C) : tidy D = dg b (val b O + b ^ O.length * C) := by
  rw [h, tidy_eq hb _ (by
    intro d hd'
    rcases List.mem_append.1 hd' with h1 | h1
    · exact hd d h1
    · exact dg_lt hb C d h1), val_append, val_dg hb]
/-- Go's remainder and quotient, mended below zero -/
theorem tmod_mend {s b : Int} (hb : 0 < b) (h : s.tmod b < 0) : s.tmod b + b = s % b ∧ s.tdiv b - 1 = s / b := by
  have h1 := Int.tmod_add_mul_tdiv s b
  have h2 := Int.lt_tmod_of_pos s hb
  have h3 : s = (s.tmod b + b) + b * (s.tdiv b - 1) := by rw [Int.mul_sub]; omega
  constructor
  · conv => rhs; rw [h3]
    rw [Int.add_mul_emod_self_left, Int.emod_eq_of_lt (by omega) (by omega)]
  · conv => rhs; rw [h3]
    rw [Int.add_mul_ediv_left _ _ (by omega), Int.ediv_eq_zero_of_lt (by omega) (by omega)]; omega
theorem tmod_keep {s b : Int} (hb : 0 < b) (h : 0 ≤ s.tmod b) : s.tmod b = s % b ∧ s.tdiv b = s / b := by
  have h1 := Int.tmod_add_mul_tdiv s b
  have h2 := Int.tmod_lt_of_pos s hb
  constructor
  · conv => rhs; rw [← h1]
    rw [Int.add_mul_emod_self_left, Int.emod_eq_of_lt h (by omega)]
  · conv => rhs; rw [← h1]
    rw [Int.add_mul_ediv_left _ _ (by omega), Int.ediv_eq_zero_of_lt h (by omega)]; omega

/-- a sum's step: out[i] += k * x -/
theorem zadd_step (b : Nat) (L : List Int) (lb : List Nat) (S k : Int) (i : Nat) (hi : i < L.length) (hl : i < lb.length)
    (h : zval b L = S + k * (val b (lb.take i) : Int)) : zval b (L.set i (L[i]?.getD 0 + k * (lb[i]?.getD 0 : Nat))) = S + k * (val b (lb.take (i + 1)) : Int) := by
  rw [zval_set _ _ _ _ hi, h, val_take_succ _ _ _ hl]
  rw [show L[i]?.getD 0 + k * ((lb[i]?.getD 0 : Nat) : Int) - L[i]?.getD 0 = k * ((lb[i]?.getD 0 : Nat) : Int) by omega]
  simp only [Int.natCast_add, Int.natCast_mul, Int.natCast_pow]
  rw [Int.mul_add, Int.add_assoc, Int.mul_left_comm]
/-- a product's step: out[i + k] += x * y -/
theorem zmul_step (b : Nat) (M : List Int) (lb : List Nat) (Z x : Int) (i k : Nat) (hi : i + k < M.length) (hl : k < lb.length)
    (h : zval b M = Z + (b : Int) ^ i * (x * (val b (lb.take k) : Int))) :
    zval b (M.set (i + k) (M[i + k]?.getD 0 + x * (lb[k]?.getD 0 : Nat))) = Z + (b : Int) ^ i * (x * (val b (lb.take (k + 1)) : Int)) := by
  rw [zval_set _ _ _ _ hi, h, val_take_succ _ _ _ hl]
  rw [show M[i + k]?.getD 0 + x * ((lb[k]?.getD 0 : Nat) : Int) - M[i + k]?.getD 0 = x * ((lb[k]?.getD 0 : Nat) : Int) by omega]
  simp only [Int.natCast_add, Int.natCast_mul, Int.natCast_pow]
  rw [Int.mul_add, Int.mul_add, Int.add_assoc, Int.pow_add, Int.mul_assoc, Int.mul_left_comm ((b : Int) ^ k)]
theorem zmul_round (b : Nat) (la lb : List Nat) (L : List Int) (i : Nat) (hi : i < la.length)
    (h : zval b L = (val b (la.take i) * val b lb : Nat) + (b : Int) ^ i * (((la[i]?.getD 0 : Nat) : Int) * (val b lb : Int))) : zval b L = (val b (la.take (i + 1)) * val b lb : Nat) := by
  rw [h, val_take_succ _ _ _ hi, Nat.add_mul]
  simp only [Int.natCast_add, Int.natCast_mul, Int.natCast_pow]
  rw [Int.mul_assoc]
theorem zget_set_other {l : List Int} {p j : Nat} {d : Int} (h : j ≠ p) : (l.set p d)[j]?.getD 0 = l[j]?.getD 0 := by
  rw [List.getElem?_set]; simp [Ne.symm h]
theorem zget_set_same {l : List Int} {p : Nat} {d : Int} (h : p < l.length) : (l.set p d)[p]?.getD 0 = d := by
  rw [List.getElem?_set]; simp [h]
theorem zget_of_drop {L M : List Int} {i : Nat} (h : M.drop i = L.drop i) : M[i]?.getD 0 = L[i]?.getD 0 := by
  have h1 : (M.drop i)[0]? = (L.drop i)[0]? := by rw [h]
  simpa using congrArg (·.getD 0) h1
theorem zdrop_set_succ (l : List Int) (k : Nat) (x : Int) : (l.set k x).drop (k + 1) = l.drop (k + 1) := by
  rw [List.drop_set, if_pos (by omega)]
theorem zdrop_succ_of {l m : List Int} {k : Nat} (h : l.drop k = m.drop k) : l.drop (k + 1) = m.drop (k + 1) := by
  have h1 : (l.drop k).drop 1 = (m.drop k).drop 1 := by rw [h]
  simpa [List.drop_drop] using h1
theorem ztake_set_succ (l : List Int) (k : Nat) (x : Int) (h : k < l.length) : (l.set k x).take (k + 1) = l.take k ++ [x] := by
  rw [List.take_succ_eq_append_getElem (by simpa using h)]
  rw [List.take_set, List.set_eq_of_length_le (by rw [List.length_take]; omega)]; simp
end Go.Proofs.YtlildanamfjnmaaGreatDoor.Mth
