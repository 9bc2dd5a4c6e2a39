/-
  Decimal numerals: no program in sight.
-/
import Derived.Test.YtkcdgaijklhnaaaGreatDoorK01
import Derived.Lib.ItoaNum
import Derived.Lib.ParseIntB
namespace Go.Proofs.YtkcdgaijklhnaaaGreatDoor.Mth
def isD (c : UInt8) : Bool := decide (48 ≤ c.toNat) && decide (c.toNat ≤ 57)
def dv (l : List UInt8) : Nat := l.foldl (fun a c => a * 10 + (c.toNat - 48)) 0
theorem foldl_dv (l : List UInt8) : ∀ a, l.foldl (fun a c => a * 10 + (c.toNat - 48)) a = a * 10 ^ l.length + dv l := by
 induction l with
 | nil => intro a; simp [dv]
 | cons c r ih =>
  intro a
  simp only [List.foldl_cons, dv, List.length_cons]
  rw [ih, ih (0 * 10 + (c.toNat - 48)), Nat.pow_succ, Nat.zero_mul, Nat.zero_add, Nat.add_mul, Nat.mul_assoc, Nat.mul_comm 10, Nat.add_assoc]
theorem dv_append (l m : List UInt8) : dv (l ++ m) = dv l * 10 ^ m.length + dv m := by
 rw [dv, List.foldl_append, foldl_dv]; rfl
theorem dv_cons (c : UInt8) (l : List UInt8) : dv (c :: l) = (c.toNat - 48) * 10 ^ l.length + dv l := by
 rw [dv, List.foldl_cons, foldl_dv]; simp
theorem dv_lt : ∀ l : List UInt8, l.all isD = true → dv l < 10 ^ l.length
 | [], _ => by simp [dv]
 | c :: l, h => by
  simp only [List.all_cons, Bool.and_eq_true, isD, decide_eq_true_eq] at h
  have ih := dv_lt l h.2
  rw [dv_cons, List.length_cons, Nat.pow_succ]
  have h2 : (c.toNat - 48) * 10 ^ l.length ≤ 9 * 10 ^ l.length := Nat.mul_le_mul_right _ (by omega)
  omega
theorem parse_ok : ∀ (l : List UInt8) (acc M : Nat), l.all isD = true → acc * 10 ^ l.length + dv l ≤ M → M < 1844674407370955162 → Lib.parseUintM M acc l = .ok (acc * 10 ^ l.length + dv l)
 | [], acc, M, _, _, _ => by simp [Lib.parseUintM, dv]
 | c :: l, acc, M, h, hM, hM2 => by
  simp only [List.all_cons, Bool.and_eq_true, isD, decide_eq_true_eq] at h
  have hp : 1 ≤ 10 ^ l.length := Nat.pow_pos (by omega)
  have e : acc * 10 ^ (c :: l).length + dv (c :: l) = (acc * 10 + (c.toNat - 48)) * 10 ^ l.length + dv l := by
   rw [dv_cons, List.length_cons, Nat.pow_succ, Nat.add_mul, Nat.mul_assoc acc, Nat.mul_comm 10]; omega
  rw [e] at hM ⊢
  have h1 : (acc * 10 + (c.toNat - 48)) * 1 ≤ (acc * 10 + (c.toNat - 48)) * 10 ^ l.length := Nat.mul_le_mul_left _ hp
  rw [Lib.parseUintM, if_pos ⟨h.1.1, h.1.2⟩, if_neg (by omega), if_neg (by omega)]
  exact parse_ok l _ M h.2 hM hM2
theorem parse9 (l : List UInt8) (h : l.all isD = true) (h0 : l ≠ []) (h9 : l.length ≤ 9) : Lib.parseUintB 32 l = .ok (dv l) := by
 rw [Lib.parseUintB, if_neg h0]
 have h1 := dv_lt l h
 have h2 : 10 ^ l.length ≤ 10 ^ 9 := Nat.pow_le_pow_right (by omega) h9
 have := parse_ok l 0 (2 ^ 32 - 1) h (by omega) (by omega)
 rwa [Nat.zero_mul, Nat.zero_add] at this
def pad : Nat → Nat → List UInt8
 | 0, _ => []
 | k + 1, d => pad k (d / 10) ++ [UInt8.ofNat (48 + d % 10)]
theorem decDigits_small {u : Nat} (h : u < 10) : Lib.decDigits u = [UInt8.ofNat (48 + u)] := by rw [Lib.decDigits, dif_pos h]
theorem decDigits_big {u : Nat} (h : ¬ u < 10) : Lib.decDigits u = Lib.decDigits (u / 10) ++ [UInt8.ofNat (48 + u % 10)] := by rw [Lib.decDigits, dif_neg h]
theorem dec_pad : ∀ (k m d : Nat), 0 < m → d < 10 ^ k → Lib.decDigits (m * 10 ^ k + d) = Lib.decDigits m ++ pad k d
 | 0, m, d, _, hd => by
  have : d = 0 := by simpa using hd
  subst this; simp [pad]
 | k + 1, m, d, hm, hd => by
  have hp : 1 ≤ 10 ^ k := Nat.pow_pos (by omega)
  have h1 : 1 * 10 ^ (k + 1) ≤ m * 10 ^ (k + 1) := Nat.mul_le_mul_right _ hm
  rw [Nat.pow_succ] at h1 hd ⊢
  rw [decDigits_big (by omega)]
  have e1 : (m * (10 ^ k * 10) + d) / 10 = m * 10 ^ k + d / 10 := by rw [← Nat.mul_assoc]; omega
  have e2 : (m * (10 ^ k * 10) + d) % 10 = d % 10 := by rw [← Nat.mul_assoc]; omega
  rw [e1, e2, dec_pad k m (d / 10) hm (by omega), List.append_assoc]
  rfl
theorem pad_zero : ∀ k, pad k 0 = List.replicate k 48
 | 0 => rfl
 | k + 1 => by rw [pad, Nat.zero_div, pad_zero k, List.replicate_succ']; rfl
theorem pad_eq : ∀ (k d : Nat), d < 10 ^ k → 0 < k → pad k d = List.replicate (k - (Lib.decDigits d).length) 48 ++ Lib.decDigits d ∧ (Lib.decDigits d).length ≤ k
 | 0, _, _, h => absurd h (by omega)
 | k + 1, d, hd, _ => by
  by_cases h : d < 10
  ·rw [decDigits_small h, pad, Nat.div_eq_of_lt h, pad_zero, Nat.mod_eq_of_lt h]
   simp
  ·rw [decDigits_big h, pad]
   rw [Nat.pow_succ] at hd
   have hk : 0 < k := by
    rcases Nat.eq_zero_or_pos k with h0 | h0
    ·subst h0; simp at hd; omega
    ·exact h0
   obtain ⟨e1, e2⟩ := pad_eq k (d / 10) (by omega) hk
   rw [e1]
   refine ⟨?_, by simp; omega⟩
   simp only [List.length_append, List.length_singleton]
   rw [← List.append_assoc]
   congr 2
   congr 1
   omega
theorem pad_length : ∀ k d, (pad k d).length = k
 | 0, _ => rfl
 | k + 1, d => by rw [pad]; simp [pad_length k]
theorem dec_len_le (n : Nat) : (Lib.decDigits n).length ≤ 9 * (dg 1000000000 n).length + 1 := by
 have h := lt_pow_dg (b := 1000000000) (by omega) n
 have e : (1000000000 : Nat) ^ (dg 1000000000 n).length = 10 ^ (9 * (dg 1000000000 n).length) := by rw [Nat.pow_mul]
 rw [e] at h
 have h2 : 10 ^ (9 * (dg 1000000000 n).length) ≤ 10 ^ (9 * (dg 1000000000 n).length + 1) := Nat.pow_le_pow_right (by omega) (by omega)
 exact (pad_eq (9 * (dg 1000000000 n).length + 1) n (by omega) (by omega)).2
end Go.Proofs.YtkcdgaijklhnaaaGreatDoor.Mth
