/-
  Decimal numerals: no program in sight.
-/
import Derived.Test.YtneabpgphjcbkaaGreatDoorMath
import Derived.Lib.ItoaNum
import Derived.Lib.ParseIntB
namespace Go.Proofs.YtneabpgphjcbkaaGreatDoor.Mth

/-- a byte that is a decimal digit -/
def isD (c : UInt8) : Bool := decide (48 ≤ c.toNat) && decide (c.toNat ≤ 57)
/-- what digits stand for -/
def dv (l : List UInt8) : Nat := l.foldl (fun a c => a * 10 + (c.toNat - 48)) 0

theorem foldl_dv (l : List UInt8) : ∀ a, l.foldl (fun a c => a * 10 + (c.toNat - 48)) a = a * 10 ^ l.length + dv l := by
  induction l with
  | nil => intro a; simp [dv]
  | cons c r ih =>
    intro a
    simp only [List.foldl_cons, dv, List.length_cons]
    rw [ih, ih (0 * 10 + (c.toNat - 48)), Nat.pow_succ, Nat.zero_mul, Nat.zero_add, Nat.add_mul, Nat.mul_assoc, Nat.mul_comm 10, Nat.add_assoc]
theorem dv_append (l m : List UInt8) : dv (l ++ m) = dv l * 10 ^ m.length + dv m := by
  rw [dv, List.foldl_append, foldl_dv]; rfl
theorem dv_cons (c : UInt8) (l : List UInt8) : dv (c :: l) = (c.toNat - 48) * 10 ^ l.length + dv l := by
  rw [dv, List.foldl_cons, foldl_dv]; simp
theorem dv_snoc (l : List UInt8) (c : UInt8) : dv (l ++ [c]) = dv l * 10 + (c.toNat - 48) := by rw [dv_append]; simp [dv]
theorem dv_lt : ∀ l : List UInt8, l.all isD = true → dv l < 10 ^ l.length
  | [], _ => by simp [dv]
  | c :: l, h => by
    simp only [List.all_cons, Bool.and_eq_true, isD, decide_eq_true_eq] at h
    have ih := dv_lt l h.2
    rw [dv_cons, List.length_cons, Nat.pow_succ]
    have h2 : (c.toNat - 48) * 10 ^ l.length ≤ 9 * 10 ^ l.length := Nat.mul_le_mul_right _ (by omega)
    omega

/-- at most nine digits are read as what they stand for -/
theorem parse_ok : ∀ (l : List UInt8) (acc M : Nat), l.all isD = true → acc * 10 ^ l.length + dv l ≤ M → M < 1844674407370955162 → Lib.parseUintM M acc l = .ok (acc * 10 ^ l.length + dv l)
  | [], acc, M, _, _, _ => by simp [Lib.parseUintM, dv]
  | c :: l, acc, M, h, hM, hM2 => by
    simp only [List.all_cons, Bool.and_eq_true, isD, decide_eq_true_eq] at h
    have hp : 1 ≤ 10 ^ l.length := Nat.pow_pos (by omega)
    have e : acc * 10 ^ (c :: l).length + dv (c :: l) = (acc * 10 + (c.toNat - 48)) * 10 ^ l.length + dv l := by
      rw [dv_cons, List.length_cons, Nat.pow_succ, Nat.add_mul, Nat.mul_assoc acc, Nat.mul_comm 10]; omega
    rw [e] at hM ⊢
    have h1 : (acc * 10 + (c.toNat - 48)) * 1 ≤ (acc * 10 + (c.toNat - 48)) * 10 ^ l.length := Nat.mul_le_mul_left _ hp
    rw [Lib.parseUintM, if_pos ⟨h.1.1, h.1.2⟩, if_neg (by omega), if_neg (by omega)]
    exact parse_ok l _ M h.2 hM hM2

theorem parse9 (l : List UInt8) (h : l.all isD = true) (h0 : l ≠ []) (h9 : l.length ≤ 9) : Lib.parseUintB 32 l = .ok (dv l) := by
  rw [Lib.parseUintB, if_neg h0]
  have h1 := dv_lt l h
  have h2 : 10 ^ l.length ≤ 10 ^ 9 := Nat.pow_le_pow_right (by omega) h9
  have := parse_ok l 0 (2 ^ 32 - 1) h (by omega) (by omega)
  rwa [Nat.zero_mul, Nat.zero_add] at this

/-- the k last decimal digits, zeros ahead -/
def pad : Nat → Nat → List UInt8
  | 0, _ => []
  | k + 1, d => pad k (d / 10) ++ [UInt8.ofNat (48 + d % 10)]
theorem decDigits_small {u : Nat} (h : u < 10) : Lib.decDigits u = [UInt8.ofNat (48 + u)] := by rw [Lib.decDigits, dif_pos h]
theorem decDigits_big {u : Nat} (h : ¬ u < 10) : Lib.decDigits u = Lib.decDigits (u / 10) ++ [UInt8.ofNat (48 + u % 10)] := by rw [Lib.decDigits, dif_neg h]

theorem dec_pad : ∀ (k m d : Nat), 0 < m → d < 10 ^ k → Lib.decDigits (m * 10 ^ k + d) = Lib.decDigits m ++ pad k d
  | 0, m, d, _, hd => by
    have : d = 0 := by simpa using hd
    subst this; simp [pad]
  | k + 1, m, d, hm, hd => by
    have hp : 1 ≤ 10 ^ k := Nat.pow_pos (by omega)
    have h1 : 1 * 10 ^ (k + 1) ≤ m * 10 ^ (k + 1) := Nat.mul_le_mul_right _ hm
    rw [Nat.pow_succ] at h1 hd ⊢
    rw [decDigits_big (by omega)]
    have e1 : (m * (10 ^ k * 10) + d) / 10 = m * 10 ^ k + d / 10 := by rw [← Nat.mul_assoc]; omega
    have e2 : (m * (10 ^ k * 10) + d) % 10 = d % 10 := by rw [← Nat.mul_assoc]; omega
    rw [e1, e2, dec_pad k m (d / 10) hm (by omega), List.append_assoc]
    rfl

theorem pad_zero : ∀ k, pad k 0 = List.replicate k 48
  | 0 => rfl
  | k + 1 => by rw [pad, Nat.zero_div, pad_zero k, List.replicate_succ']; rfl

theorem pad_eq : ∀ (k d : Nat), d < 10 ^ k → 0 < k → pad k d = List.replicate (k - (Lib.decDigits d).length) 48 ++ Lib.decDigits d ∧ (Lib.decDigits d).length ≤ k
  | 0, _, _, h => absurd h (by omega)
  | k + 1, d, hd, _ => by
    by_cases h : d < 10
    · rw [decDigits_small h, pad, Nat.div_eq_of_lt h, pad_zero, Nat.mod_eq_of_lt h]
      simp
    · rw [decDigits_big h, pad]
      rw [Nat.pow_succ] at hd
      have hk : 0 < k := by
        rcases Nat.eq_zero_or_pos k with h0 | h0
        · subst h0; simp at hd; omega
        · exact h0
      obtain ⟨e1, e2⟩ := pad_eq k (d / 10) (by omega) hk
      rw [e1]
      refine ⟨?_, by simp; omega⟩
      simp only [List.length_append, List.length_singleton]
      rw [← List.append_assoc]
      congr 2
      congr 1
      omega

theorem pad_length : ∀ k d, (pad k d).length = k
  | 0, _ => rfl
  | k + 1, d => by rw [pad]; simp [pad_length k]

theorem ofNat_digit {d : Nat} (h : d < 10) : (UInt8.ofNat (48 + d)).toNat = 48 + d := by
  rw [UInt8.toNat_ofNat', Nat.mod_eq_of_lt (by omega)]
theorem dec_all : ∀ n, (Lib.decDigits n).all isD = true := by
  intro n
  induction n using Nat.strongRecOn with
  | _ n ih =>
    by_cases h : n < 10
    · rw [decDigits_small h]; simp [isD]; omega
    · rw [decDigits_big h, List.all_append, ih (n / 10) (by omega)]
      simp [isD]; omega
theorem dv_dec : ∀ n, dv (Lib.decDigits n) = n := by
  intro n
  induction n using Nat.strongRecOn with
  | _ n ih =>
    by_cases h : n < 10
    · rw [decDigits_small h]
      show 0 * 10 + ((UInt8.ofNat (48 + n)).toNat - 48) = n
      rw [ofNat_digit h]; omega
    · rw [decDigits_big h, dv_snoc, ih (n / 10) (by omega), ofNat_digit (Nat.mod_lt n (by omega))]; omega
theorem dec_ne_nil (n : Nat) : Lib.decDigits n ≠ [] := by
  by_cases h : n < 10
  · rw [decDigits_small h]; simp
  · rw [decDigits_big h]; simp
theorem dec_len_le (n : Nat) : (Lib.decDigits n).length ≤ 9 * (dg 1000000000 n).length + 1 := by
  have h := lt_pow_dg (b := 1000000000) (by omega) n
  have e : (1000000000 : Nat) ^ (dg 1000000000 n).length = 10 ^ (9 * (dg 1000000000 n).length) := by rw [Nat.pow_mul]
  rw [e] at h
  have h2 : 10 ^ (9 * (dg 1000000000 n).length) ≤ 10 ^ (9 * (dg 1000000000 n).length + 1) := Nat.pow_le_pow_right (by omega) (by omega)
  exact (pad_eq (9 * (dg 1000000000 n).length + 1) n (by omega) (by omega)).2

/-- a numeral does not begin with a zero, but that of 0 -/
theorem dec_head : ∀ n, 0 < n → (Lib.decDigits n).head? ≠ some 48 := by
  intro n
  induction n using Nat.strongRecOn with
  | _ n ih =>
    intro hn
    by_cases h : n < 10
    · rw [decDigits_small h]
      simp only [List.head?_cons, ne_eq, Option.some.injEq]
      intro e
      have := congrArg UInt8.toNat e
      rw [ofNat_digit h] at this
      simp at this; omega
    · rw [decDigits_big h, List.head?_append]
      have := ih (n / 10) (by omega) (by omega)
      have h2 := dec_ne_nil (n / 10)
      cases e : Lib.decDigits (n / 10) with
      | nil => exact absurd e h2
      | cons x l => rw [e] at this; simpa using this

/-- digits without a zero ahead are the numeral of what they stand for -/
theorem dec_dv (l : List UInt8) (h : l.all isD = true) (h0 : l ≠ []) (h1 : l.head? ≠ some 48 ∨ l = [48]) : Lib.decDigits (dv l) = l := by
  rcases h1 with h1 | rfl
  · induction hn : l.length using Nat.strongRecOn generalizing l with
    | _ n ih =>
      rcases List.eq_nil_or_concat l with rfl | ⟨l', c, rfl⟩
      · exact absurd rfl h0
      · rw [List.concat_eq_append] at *
        simp only [List.all_append, Bool.and_eq_true, List.all_cons, List.all_nil, isD, decide_eq_true_eq] at h
        rw [dv_snoc]
        have hc : UInt8.ofNat (48 + (c.toNat - 48)) = c := by
          rw [show 48 + (c.toNat - 48) = c.toNat by omega]; simp
        by_cases hl : l' = []
        · subst hl
          simp only [dv, List.foldl_nil, Nat.zero_mul, Nat.zero_add, List.nil_append]
          rw [decDigits_small (by omega), hc]
        · have hh : l'.head? ≠ some 48 := by
            cases l' with
            | nil => exact absurd rfl hl
            | cons x r => simpa using h1
          have ih' := ih l'.length (by simp at hn; omega) l' (by simpa [isD] using h.1) hl hh rfl
          have hpos : 0 < dv l' := by
            rcases Nat.eq_zero_or_pos (dv l') with h2 | h2
            · exfalso
              rw [h2, decDigits_small (by omega)] at ih'
              rw [← ih'] at hh
              exact hh rfl
            · exact h2
          rw [decDigits_big (by omega)]
          rw [show (dv l' * 10 + (c.toNat - 48)) / 10 = dv l' by omega, show (dv l' * 10 + (c.toNat - 48)) % 10 = c.toNat - 48 by omega, ih', hc]
  · rw [show dv [48] = 0 from rfl, decDigits_small (by omega)]; rfl
end Go.Proofs.YtneabpgphjcbkaaGreatDoor.Mth
