/-
  Plain arithmetic, no program in sight: numbers as lists of digits to a base, the lowest first, without zeros at the end.
  What the walks share: a slice value that reads as a list of values; a slice that holds a natural number.
  Relations over cells; the plain spec; searches in slices.
  Slices of ints.
-/
import Derived.Test.YtkcdgaijklhnaaaGreatDoorProg
import Derived.WalkKit
import Derived.WalkSpells
import Derived.WalkLawsBesides
import Derived.Below
import Derived.Laws.OwnMore
import Derived.Lib.Hide
import Derived.Maps.AppendAt
import Derived.Deep.Draws
import Derived.Deep.OwnRows
namespace Go.Proofs.YtkcdgaijklhnaaaGreatDoor.Mth
def val (b : Nat) : List Nat → Nat
 | [] => 0
 | d :: l => d + b * val b l
def dg (b n : Nat) : List Nat :=
 if _h : n = 0 ∨ b < 2 then [] else (n % b) :: dg b (n / b)
termination_by n
decreasing_by exact Nat.div_lt_self (by omega) (by omega)
theorem dg_zero (b : Nat) : dg b 0 = [] := by rw [dg, dif_pos (.inl rfl)]
theorem dg_pos {b n : Nat} (hb : 2 ≤ b) (hn : 0 < n) : dg b n = (n % b) :: dg b (n / b) := by
 rw [dg, dif_neg (by omega)]
theorem val_dg {b : Nat} (hb : 2 ≤ b) : ∀ n, val b (dg b n) = n := by
 intro n
 induction n using Nat.strongRecOn with
 | _ n ih =>
  by_cases hn : n = 0
  ·subst hn; rw [dg_zero]; rfl
  ·rw [dg_pos hb (by omega)]
   simp only [val]
   rw [ih (n / b) (Nat.div_lt_self (by omega) (by omega))]
   exact Nat.mod_add_div n b
theorem dg_lt {b : Nat} (hb : 2 ≤ b) : ∀ n, ∀ d ∈ dg b n, d < b := by
 intro n
 induction n using Nat.strongRecOn with
 | _ n ih =>
  intro d hd
  by_cases hn : n = 0
  ·subst hn; rw [dg_zero] at hd; cases hd
  ·rw [dg_pos hb (by omega)] at hd
   rcases List.mem_cons.1 hd with rfl | hd
   ·exact Nat.mod_lt _ (by omega)
   ·exact ih _ (Nat.div_lt_self (by omega) (by omega)) d hd
theorem dg_ne_nil {b n : Nat} (hb : 2 ≤ b) (hn : 0 < n) : dg b n ≠ [] := by rw [dg_pos hb hn]; simp
theorem dg_last {b : Nat} (hb : 2 ≤ b) : ∀ n, (dg b n).getLast? ≠ some 0 := by
 intro n
 induction n using Nat.strongRecOn with
 | _ n ih =>
  by_cases hn : n = 0
  ·subst hn; rw [dg_zero]; simp
  ·rw [dg_pos hb (by omega)]
   by_cases hq : n / b = 0
   ·rw [hq, dg_zero]
    have : n < b := by
     rcases Nat.lt_or_ge n b with h | h
     ·exact h
     ·have := Nat.div_pos h (by omega); omega
    rw [Nat.mod_eq_of_lt this]
    simpa using hn
   ·have h := ih (n / b) (Nat.div_lt_self (by omega) (by omega))
    have hne := dg_ne_nil (b := b) hb (n := n / b) (Nat.pos_of_ne_zero hq)
    obtain ⟨x, l, hl⟩ : ∃ x l, dg b (n / b) = x :: l := by
     cases e : dg b (n / b) with
     | nil => exact absurd e hne
     | cons x l => exact ⟨x, l, rfl⟩
    rw [hl] at h ⊢
    rwa [List.getLast?_cons_cons]
theorem dg_val {b : Nat} (hb : 2 ≤ b) : ∀ l : List Nat, (∀ d ∈ l, d < b) → l.getLast? ≠ some 0 → dg b (val b l) = l
  | [], _, _ => by simp only [val]; exact dg_zero b
  | d :: l, h1, h2 => by
    have hd : d < b := h1 d (by simp)
    have hl : l.getLast? ≠ some 0 := by
      cases l with
      | nil => simp
      | cons x l => rwa [List.getLast?_cons_cons] at h2
    have ih := dg_val hb l (fun x hx => h1 x (by simp [hx])) hl
    have hpos : 0 < val b (d :: l) := by
      simp only [val]
      cases l with
      | nil => have : d ≠ 0 := by simpa using h2
               omega
      | cons x l =>
        have hv : val b (x :: l) ≠ 0 := by
          intro h0; rw [h0, dg_zero] at ih; cases ih
        have : 0 < b * val b (x :: l) := Nat.mul_pos (by omega) (by omega)
        omega
    rw [dg_pos hb hpos]
    simp only [val]
    rw [Nat.add_mul_mod_self_left, Nat.mod_eq_of_lt hd, Nat.add_mul_div_left _ _ (by omega), Nat.div_eq_of_lt hd, Nat.zero_add, ih]
theorem val_append (b : Nat) : ∀ l m : List Nat, val b (l ++ m) = val b l + b ^ l.length * val b m
 | [], m => by simp [val]
 | d :: l, m => by
  simp only [List.cons_append, val, val_append b l m, List.length_cons, Nat.pow_succ]
  rw [Nat.mul_add, Nat.add_assoc, ← Nat.mul_assoc, Nat.mul_comm b (b ^ _)]
theorem val_lt {b : Nat} (hb : 1 ≤ b) : ∀ l : List Nat, (∀ d ∈ l, d < b) → val b l < b ^ l.length
 | [], _ => by simp [val]
 | d :: l, h => by
  have hd : d < b := h d (by simp)
  have ih := val_lt hb l (fun x hx => h x (by simp [hx]))
  simp only [val, List.length_cons, Nat.pow_succ]
  have : b * (val b l + 1) ≤ b * b ^ l.length := Nat.mul_le_mul_left _ ih
  rw [Nat.mul_comm (b ^ _)]
  rw [Nat.mul_add] at this
  omega
theorem val_snoc (b : Nat) (l : List Nat) (d : Nat) : val b (l ++ [d]) = val b l + b ^ l.length * d := by
 rw [val_append]; simp [val]
def tidy (l : List Nat) : List Nat := (l.reverse.dropWhile (· == 0)).reverse
theorem tidy_snoc_zero (l : List Nat) : tidy (l ++ [0]) = tidy l := by simp [tidy]
theorem tidy_snoc {l : List Nat} {d : Nat} (h : d ≠ 0) : tidy (l ++ [d]) = l ++ [d] := by simp [tidy, h]
theorem val_tidy (b : Nat) : ∀ (n : Nat) (l : List Nat), l.length = n → val b (tidy l) = val b l
 | 0, l, h => by rw [List.eq_nil_of_length_eq_zero h]; rfl
 | n + 1, l, h => by
  rcases List.eq_nil_or_concat l with rfl | ⟨l', d, rfl⟩
  ·simp at h
  ·rw [List.concat_eq_append] at h ⊢
   by_cases hd : d = 0
   ·subst hd
    rw [tidy_snoc_zero, val_tidy b n l' (by simpa using h), val_snoc]; simp
   ·rw [tidy_snoc hd]
theorem tidy_no_last : ∀ (n : Nat) (l : List Nat), l.length = n → (tidy l).getLast? ≠ some 0
 | 0, l, h => by rw [List.eq_nil_of_length_eq_zero h]; simp [tidy]
 | n + 1, l, h => by
  rcases List.eq_nil_or_concat l with rfl | ⟨l', d, rfl⟩
  ·simp at h
  ·rw [List.concat_eq_append] at h ⊢
   by_cases hd : d = 0
   ·subst hd
    rw [tidy_snoc_zero]; exact tidy_no_last n l' (by simpa using h)
   ·rw [tidy_snoc hd]; simpa using hd
theorem tidy_prefix : ∀ (n : Nat) (l : List Nat), l.length = n → tidy l <+: l
 | 0, l, h => by rw [List.eq_nil_of_length_eq_zero h]; exact ⟨[], rfl⟩
 | n + 1, l, h => by
  rcases List.eq_nil_or_concat l with rfl | ⟨l', d, rfl⟩
  ·simp at h
  ·rw [List.concat_eq_append] at h ⊢
   by_cases hd : d = 0
   ·subst hd
    rw [tidy_snoc_zero]
    obtain ⟨t, ht⟩ := tidy_prefix n l' (by simpa using h)
    exact ⟨t ++ [0], by rw [← List.append_assoc, ht]⟩
   ·rw [tidy_snoc hd]; exact ⟨[], by simp⟩
theorem tidy_len (l : List Nat) : (tidy l).length ≤ l.length := (tidy_prefix _ l rfl).length_le
theorem tidy_mem {l : List Nat} {d : Nat} (h : d ∈ tidy l) : d ∈ l := (tidy_prefix _ l rfl).subset h
theorem tidy_eq {b : Nat} (hb : 2 ≤ b) (l : List Nat) (h : ∀ d ∈ l, d < b) : tidy l = dg b (val b l) := by
 rw [← val_tidy b _ l rfl, dg_val hb (tidy l) (fun d hd => h d (tidy_mem hd)) (tidy_no_last _ l rfl)]
theorem dg_len_le {b : Nat} (hb : 2 ≤ b) : ∀ (k n : Nat), n < b ^ k → (dg b n).length ≤ k
 | 0, n, h => by
  have : n = 0 := by simpa using h
  subst this; rw [dg_zero]; simp
 | k + 1, n, h => by
  by_cases hn : n = 0
  ·subst hn; rw [dg_zero]; simp
  ·rw [dg_pos hb (by omega)]
   have := dg_len_le hb k (n / b) (by
    rw [Nat.pow_succ] at h
    exact Nat.div_lt_of_lt_mul (by rw [Nat.mul_comm]; exact h))
   simp; omega
theorem lt_pow_dg {b : Nat} (hb : 2 ≤ b) (n : Nat) : n < b ^ (dg b n).length := by
 have := val_lt (b := b) (by omega) (dg b n) (dg_lt hb n)
 rwa [val_dg hb] at this
theorem lt_of_len {b m n : Nat} (hb : 2 ≤ b) (h : (dg b m).length < (dg b n).length) : m < n := by
 rcases Nat.lt_or_ge m n with h1 | h1
 ·exact h1
 ·have := dg_len_le hb (dg b m).length n (Nat.lt_of_le_of_lt h1 (lt_pow_dg hb m))
  omega
theorem dg_one {b n : Nat} (hb : 2 ≤ b) (h0 : 0 < n) (h : n < b) : dg b n = [n] := by
 rw [dg_pos hb h0, Nat.mod_eq_of_lt h, Nat.div_eq_of_lt h, dg_zero]
theorem dg_inj {b m n : Nat} (hb : 2 ≤ b) (h : dg b m = dg b n) : m = n := by
 rw [← val_dg hb m, h, val_dg hb]
theorem val_replicate_zero (b : Nat) : ∀ n, val b (List.replicate n 0) = 0
 | 0 => rfl
 | n + 1 => by simp [List.replicate_succ, val, val_replicate_zero b n]
theorem val_split (b : Nat) (l : List Nat) (q : Nat) (h : q < l.length) : val b l = val b (l.take q) + b ^ q * (l[q]?.getD 0 + b * val b (l.drop (q + 1))) := by
 have e : l = l.take q ++ (l[q] :: l.drop (q + 1)) := by rw [List.getElem_cons_drop, List.take_append_drop]
 conv => lhs; rw [e]
 rw [val_append, List.length_take, Nat.min_eq_left (Nat.le_of_lt h), List.getElem?_eq_getElem h]
 rfl
theorem val_lt_of {b : Nat} (hb : 1 ≤ b) {la lb : List Nat} {q : Nat} (ha : q < la.length) (hl : q < lb.length) (hd : la.drop (q + 1) = lb.drop (q + 1)) (hx : ∀ d ∈ la, d < b)
  (hlt : la[q]?.getD 0 < lb[q]?.getD 0) : val b la < val b lb := by
 rw [val_split b la q ha, val_split b lb q hl, hd]
 have h1 := val_lt hb (la.take q) (fun d hd => hx d (List.mem_of_mem_take hd))
 rw [List.length_take, Nat.min_eq_left (Nat.le_of_lt ha)] at h1
 have h2 : b ^ q * (la[q]?.getD 0 + 1 + b * val b (lb.drop (q + 1))) ≤ b ^ q * (lb[q]?.getD 0 + b * val b (lb.drop (q + 1))) := Nat.mul_le_mul_left _ (by omega)
 rw [Nat.add_right_comm, Nat.mul_add, Nat.mul_one] at h2
 omega
theorem getD_lt {l : List Nat} {b : Nat} (hb : 0 < b) (h : ∀ d ∈ l, d < b) (q : Nat) : l[q]?.getD 0 < b := by
 rcases Nat.lt_or_ge q l.length with h1 | h1
 ·rw [List.getElem?_eq_getElem h1]; exact h _ (List.getElem_mem h1)
 ·rw [List.getElem?_eq_none h1]; exact hb
theorem val_take_succ (b : Nat) (l : List Nat) (k : Nat) (h : k < l.length) : val b (l.take (k + 1)) = val b (l.take k) + b ^ k * l[k]?.getD 0 := by
 rw [List.take_add_one, List.getElem?_eq_getElem h]
 simp only [Option.toList_some, Option.getD_some]
 rw [val_snoc, List.length_take, Nat.min_eq_left (by omega)]
theorem val_take_ge (b : Nat) (l : List Nat) (k : Nat) (h : l.length ≤ k) : val b (l.take (k + 1)) = val b (l.take k) := by
 rw [List.take_of_length_le (by omega), List.take_of_length_le h]
theorem add_step (b : Nat) (P va vb o c x y s : Nat) (_hb : 0 < b) (h : o + P * c = va + vb) (hs : s = x + c + y) : o + P * (s % b) + P * b * (s / b) = va + P * x + (vb + P * y) := by
 have e : P * s = P * (s % b) + P * b * (s / b) := by
  rw [Nat.mul_assoc, ← Nat.mul_add, Nat.mod_add_div]
 have e2 : P * s = P * x + P * c + P * y := by rw [hs, Nat.mul_add, Nat.mul_add]
 omega
theorem take_set_succ (l : List Nat) (k x : Nat) (h : k < l.length) : (l.set k x).take (k + 1) = l.take k ++ [x] := by
 rw [List.take_add_one, List.take_set_of_le (Nat.le_refl k), List.getElem?_set_self h]
 rfl
theorem val_set (b : Nat) : ∀ (l : List Nat) (p d : Nat), p < l.length → val b (l.set p d) + b ^ p * l[p]?.getD 0 = val b l + b ^ p * d
 | [], p, d, h => by simp at h
 | x :: l, 0, d, _ => by simp [val]; omega
 | x :: l, p + 1, d, h => by
  have ih := val_set b l p d (by simpa using h)
  simp only [List.set_cons_succ, val, List.getElem?_cons_succ, Nat.pow_succ, Nat.mul_comm _ b, Nat.mul_assoc]
  rw [Nat.add_assoc, ← Nat.mul_add, ih, Nat.mul_add, ← Nat.add_assoc]
theorem mul_step (b vL vL' v0 S i k z c x y t : Nat) (h : vL + b ^ (i + k) * c = v0 + b ^ i * (x * S)) (hs : vL' + b ^ (i + k) * z = vL + b ^ (i + k) * (t % b)) (ht : t = x * y + z + c) :
  vL' + b ^ (i + (k + 1)) * (t / b) = v0 + b ^ i * (x * (S + b ^ k * y)) := by
 have e1 : b ^ (i + (k + 1)) * (t / b) + b ^ (i + k) * (t % b) = b ^ (i + k) * t := by
  rw [← Nat.add_assoc, Nat.pow_succ, Nat.mul_assoc, ← Nat.mul_add, Nat.add_comm (b * _), Nat.mod_add_div]
 have e2 : b ^ (i + k) * t = b ^ (i + k) * (x * y) + b ^ (i + k) * z + b ^ (i + k) * c := by rw [ht, Nat.mul_add, Nat.mul_add]
 have e3 : b ^ i * (x * (S + b ^ k * y)) = b ^ i * (x * S) + b ^ (i + k) * (x * y) := by
  rw [Nat.mul_add, Nat.mul_add, Nat.pow_add, Nat.mul_left_comm x, Nat.mul_assoc]
 omega
theorem set_get_other {l : List Nat} {p j d : Nat} (h : j ≠ p) : (l.set p d)[j]?.getD 0 = l[j]?.getD 0 := by
 rw [List.getElem?_set_ne (Ne.symm h)]
theorem mem_set_lt {l : List Nat} {b p d : Nat} (h : ∀ x ∈ l, x < b) (hd : d < b) : ∀ x ∈ l.set p d, x < b := by
 intro x hx
 rcases List.mem_or_eq_of_mem_set hx with h1 | h1
 ·exact h x h1
 ·omega
theorem val_drop (b : Nat) (l : List Nat) (q : Nat) (h : q < l.length) : val b (l.drop q) = l[q]?.getD 0 + b * val b (l.drop (q + 1)) := by
 rw [List.drop_eq_getElem_cons h, List.getElem?_eq_getElem h]; rfl
theorem drop_set_self (l : List Nat) (q x : Nat) (h : q < l.length) : (l.set q x).drop q = x :: l.drop (q + 1) := by
 rw [List.drop_eq_getElem_cons (by simpa using h), List.getElem_set_self, List.drop_set_of_lt (by omega)]
theorem short_step (b by' A Q r a t : Nat) (h : A = by' * Q + r) (ht : t = r * b + a) : a + b * A = by' * (t / by' + b * Q) + t % by' := by
 have e := Nat.div_add_mod t by'
 rw [h, Nat.mul_add, Nat.mul_add, Nat.mul_left_comm b by', Nat.mul_comm b r]
 omega
theorem scale_step (b P vL va c x m t : Nat) (h : vL + P * c = va * m) (ht : t = c + x * m) : vL + P * (t % b) + P * b * (t / b) = (va + P * x) * m := by
 have e : P * (t % b) + P * b * (t / b) = P * t := by rw [Nat.mul_assoc, ← Nat.mul_add, Nat.mod_add_div]
 have e2 : P * t = P * c + P * x * m := by rw [ht, Nat.mul_add, Nat.mul_assoc]
 rw [Nat.add_mul]
 omega
theorem getD_of_drop {l m : List Nat} {k : Nat} (h : l.drop k = m.drop k) : l[k]?.getD 0 = m[k]?.getD 0 := by
 have := congrArg (fun x : List Nat => x[0]?.getD 0) h
 simpa using this
theorem drop_set_succ (l : List Nat) (k x : Nat) : (l.set k x).drop (k + 1) = l.drop (k + 1) := by
 rw [List.drop_set_of_lt (by omega)]
theorem drop_succ_of {l m : List Nat} {k : Nat} (h : l.drop k = m.drop k) : l.drop (k + 1) = m.drop (k + 1) := by
 have := congrArg (List.drop 1) h
 simpa using this
theorem less_step (b P vW vU vV q c x y t d e : Nat) (h : vW + q * vV = vU + P * c) (ht : t = c + q * y) (hd : d + t % b = x + b * e) :
  vW + P * d + q * (vV + P * y) = vU + P * x + P * b * (t / b + e) := by
 have h1 : P * d + P * (t % b) = P * x + P * b * e := by rw [← Nat.mul_add, hd, Nat.mul_add, Nat.mul_assoc]
 have h2 : P * b * (t / b) + P * (t % b) = P * c + P * (q * y) := by
  rw [Nat.mul_assoc, ← Nat.mul_add, Nat.add_comm (b * _), Nat.mod_add_div, ht, Nat.mul_add]
 have h3 : q * (vV + P * y) = q * vV + P * (q * y) := by rw [Nat.mul_add, Nat.mul_left_comm]
 rw [h3, Nat.mul_add]
 omega
theorem val_top3 {b : Nat} (hb : 1 ≤ b) {l : List Nat} {m : Nat} (hl : l.length = m + 3) (h : ∀ d ∈ l, d < b) :
  ∃ low, low < b ^ m ∧ val b l = low + b ^ m * (l[m]?.getD 0 + b * (l[m + 1]?.getD 0 + b * l[m + 2]?.getD 0)) := by
 refine ⟨val b (l.take m), ?_, ?_⟩
 ·have := val_lt hb (l.take m) (fun d hd => h d (List.mem_of_mem_take hd))
  rwa [List.length_take, Nat.min_eq_left (by omega)] at this
 ·rw [val_split b l m (by omega), val_drop b l (m + 1) (by omega), val_drop b l (m + 2) (by omega), List.drop_eq_nil_of_le (by omega)]
  simp [val]
theorem val_top2 {b : Nat} (hb : 1 ≤ b) {l : List Nat} {m : Nat} (hl : l.length = m + 2) (h : ∀ d ∈ l, d < b) :
  ∃ low, low < b ^ m ∧ val b l = low + b ^ m * (l[m]?.getD 0 + b * l[m + 1]?.getD 0) := by
 refine ⟨val b (l.take m), ?_, ?_⟩
 ·have := val_lt hb (l.take m) (fun d hd => h d (List.mem_of_mem_take hd))
  rwa [List.length_take, Nat.min_eq_left (by omega)] at this
 ·rw [val_split b l m (by omega), val_drop b l (m + 1) (by omega), List.drop_eq_nil_of_le (by omega)]
  simp [val]
section
variable {b M ul vl u0 u1 u2 v1 v2 : Nat}
theorem knuth_lt (hul : ul < M) {q r : Nat} (hq : q * v1 + r = u0 * b + u1) (h : r * b + u2 < q * v2) :
  (ul + M * (u2 + b * (u1 + b * u0))) / (vl + M * (v2 + b * v1)) < q := by
 rcases Nat.eq_zero_or_pos (vl + M * (v2 + b * v1)) with h0 | h0
 ·rw [h0, Nat.div_zero]
  rcases Nat.eq_zero_or_pos q with h1 | h1
  ·subst h1; omega
  ·exact h1
 ·rw [Nat.div_lt_iff_lt_mul h0]
  have e1 : u2 + b * (u1 + b * u0) = u2 + b * (q * v1) + r * b := by
   rw [Nat.add_comm u1, Nat.mul_comm b u0, ← hq, Nat.mul_add, Nat.mul_comm b r]; omega
  have e2 : u2 + b * (q * v1) + r * b + 1 ≤ q * (v2 + b * v1) := by
   rw [Nat.mul_add, Nat.mul_left_comm q b v1]; omega
  have e3 : M * (u2 + b * (q * v1) + r * b + 1) ≤ M * (q * (v2 + b * v1)) := Nat.mul_le_mul_left _ e2
  have e4 : q * (vl + M * (v2 + b * v1)) = q * vl + M * (q * (v2 + b * v1)) := by rw [Nat.mul_add, Nat.mul_left_comm q M]
  rw [e1, e4]
  rw [Nat.mul_add, Nat.mul_one] at e3
  omega
theorem knuth_ge (hvl : vl < M) (hb : 0 < b) (hv1 : 0 < v1) {q r : Nat} (hqb : q ≤ b) (hq : q * v1 + r = u0 * b + u1) (h : q * v2 ≤ r * b + u2) :
  q ≤ (ul + M * (u2 + b * (u1 + b * u0))) / (vl + M * (v2 + b * v1)) + 1 := by
 have hM : 0 < M := by omega
 have h0 : 0 < vl + M * (v2 + b * v1) := by
  have : 0 < M * (v2 + b * v1) := Nat.mul_pos hM (by have := Nat.mul_pos hb hv1; omega)
  omega
 rcases Nat.eq_zero_or_pos q with h1 | h1
 ·rw [h1]; exact Nat.zero_le _
 ·obtain ⟨p, rfl⟩ : ∃ p, q = p + 1 := ⟨q - 1, by omega⟩
  have : p ≤ (ul + M * (u2 + b * (u1 + b * u0))) / (vl + M * (v2 + b * v1)) := by
   rw [Nat.le_div_iff_mul_le h0]
   have e1 : u2 + b * (u1 + b * u0) = u2 + b * ((p + 1) * v1) + r * b := by
    rw [Nat.add_comm u1, Nat.mul_comm b u0, ← hq, Nat.mul_add, Nat.mul_comm b r]; omega
   have e2 : (p + 1) * (v2 + b * v1) ≤ u2 + b * ((p + 1) * v1) + r * b := by
    rw [Nat.mul_add, Nat.mul_left_comm (p + 1) b v1]; omega
   have e3 : M * ((p + 1) * (v2 + b * v1)) ≤ M * (u2 + b * ((p + 1) * v1) + r * b) := Nat.mul_le_mul_left _ e2
   have e4 : p * (vl + M * (v2 + b * v1)) + (vl + M * (v2 + b * v1)) = (p + 1) * vl + M * ((p + 1) * (v2 + b * v1)) := by
    rw [← Nat.succ_mul, Nat.succ_eq_add_one, Nat.mul_add, Nat.mul_left_comm (p + 1) M]
   have e5 : (p + 1) * vl ≤ b * M := Nat.mul_le_mul hqb (Nat.le_of_lt hvl)
   have e6 : b * M ≤ M * (v2 + b * v1) := by
    rw [Nat.mul_comm b M]
    refine Nat.mul_le_mul_left _ ?_
    have : b * 1 ≤ b * v1 := Nat.mul_le_mul_left _ hv1
    omega
   rw [e1]
   omega
  exact Nat.succ_le_succ this
theorem knuth_first (hul : ul < M) (hv1 : 0 < v1) : (ul + M * (u2 + b * (u1 + b * u0))) / (vl + M * (v2 + b * v1)) ≤ (u0 * b + u1) / v1 ∨ b ≤ u2 := by
 rcases Nat.lt_or_ge u2 b with hu2 | hu2
 ·left
  rw [Nat.le_div_iff_mul_le hv1]
  rcases Nat.eq_zero_or_pos (vl + M * (v2 + b * v1)) with h0 | h0
  ·rw [h0, Nat.div_zero]; omega
  ·have h1 := Nat.div_mul_le_self (ul + M * (u2 + b * (u1 + b * u0))) (vl + M * (v2 + b * v1))
   generalize (ul + M * (u2 + b * (u1 + b * u0))) / (vl + M * (v2 + b * v1)) = Q at h1 ⊢
   rcases Nat.lt_or_ge (u0 * b + u1) (Q * v1) with h2 | h2
   ·exfalso
    have e1 : b * (u0 * b + u1 + 1) ≤ b * (Q * v1) := Nat.mul_le_mul_left _ h2
    have e2 : u2 + b * (u1 + b * u0) + 1 ≤ Q * (v2 + b * v1) := by
     have e5 : Q * (v2 + b * v1) = Q * v2 + b * (Q * v1) := by rw [Nat.mul_add, Nat.mul_left_comm]
     have e6 : u1 + b * u0 = u0 * b + u1 := by rw [Nat.add_comm u1, Nat.mul_comm b u0]
     rw [e5, e6]
     rw [Nat.mul_add, Nat.mul_one] at e1
     omega
    have e3 : M * (u2 + b * (u1 + b * u0) + 1) ≤ M * (Q * (v2 + b * v1)) := Nat.mul_le_mul_left _ e2
    have e4 : Q * (vl + M * (v2 + b * v1)) = Q * vl + M * (Q * (v2 + b * v1)) := by rw [Nat.mul_add, Nat.mul_left_comm Q M]
    rw [e4] at h1
    rw [Nat.mul_add, Nat.mul_one] at e3
    omega
   ·exact h2
 ·exact Or.inr hu2
end
theorem same_rest {a c M x y : Nat} (ha : a < M) (hc : c < M) (h : a + M * x = c + M * y) : a = c := by
 have h1 := congrArg (· % M) h
 simpa [Nat.add_mul_mod_self_left, Nat.mod_eq_of_lt ha, Nat.mod_eq_of_lt hc] using h1
theorem digit_neg {M vW vW2 vU vV q Q cy cy2 : Nat} (hQ : vU / vV = Q) (hV : 0 < vV) (h1 : vW + q * vV = vU + M * cy) (hcy : 0 < cy) (hW : vW < M) (hW2 : vW2 < M) (hVM : vV ≤ M) (hq : q ≤ Q + 1)
  (h2 : vW2 + M * cy2 = vW + vV) : q = Q + 1 ∧ vW2 = vU % vV := by
 have h3 : M * 1 ≤ M * cy := Nat.mul_le_mul_left _ hcy
 have h4 : vU < q * vV := by omega
 have h5 : Q < q := by rw [← hQ]; exact (Nat.div_lt_iff_lt_mul hV).2 h4
 obtain rfl : q = Q + 1 := by omega
 refine ⟨rfl, ?_⟩
 have h6 := Nat.div_add_mod vU vV
 rw [hQ] at h6
 rw [Nat.succ_mul, Nat.mul_comm Q] at h1
 refine same_rest (x := cy2) (y := cy) hW2 (Nat.lt_of_lt_of_le (Nat.mod_lt _ hV) hVM) ?_
 omega
theorem digit_pos {vW vU vV q Q : Nat} (hQ : vU / vV = Q) (hV : 0 < vV) (h1 : vW + q * vV = vU) (hq : Q ≤ q) : q = Q ∧ vW = vU % vV := by
 have h5 : q ≤ Q := by rw [← hQ]; exact (Nat.le_div_iff_mul_le hV).2 (by omega)
 obtain rfl : q = Q := by omega
 refine ⟨rfl, ?_⟩
 have h6 := Nat.div_add_mod vU vV
 rw [hQ] at h6
 rw [Nat.mul_comm q] at h1
 omega
theorem cut3 (l : List Nat) (q k : Nat) : l.take q ++ (l.drop q).take k ++ l.drop (q + k) = l := by
 rw [List.append_assoc, ← List.drop_drop, List.take_append_drop, List.take_append_drop]
theorem val_cut3 (b : Nat) (l : List Nat) (q k : Nat) (h : q + k ≤ l.length) : val b l = val b (l.take q) + b ^ q * (val b ((l.drop q).take k) + b ^ k * val b (l.drop (q + k))) := by
 conv => lhs; rw [← cut3 l q k]
 rw [List.append_assoc, val_append, val_append, List.length_take, List.length_take, List.length_drop, Nat.min_eq_left (by omega), Nat.min_eq_left (by omega)]
theorem div_pre {b : Nat} (hb : 2 ≤ b) {U : List Nat} {V nb q : Nat} (hl : q + (nb + 1) ≤ U.length) (hV : V < b ^ nb) (hU : val b U < V * b ^ (q + 1)) :
  val b ((U.drop q).take (nb + 1)) < b * V ∧ val b (U.drop (q + (nb + 1))) = 0 := by
 have hc := val_cut3 b U q (nb + 1) hl
 have hpos : 0 < b ^ q := Nat.pow_pos (by omega)
 constructor
 ·have h1 : b ^ q * val b ((U.drop q).take (nb + 1)) < b ^ q * (b * V) := by
   have e : V * b ^ (q + 1) = b ^ q * (b * V) := by rw [Nat.pow_succ, Nat.mul_comm V, Nat.mul_assoc]
   rw [← e]
   rw [Nat.mul_add] at hc
   omega
  exact Nat.lt_of_mul_lt_mul_left h1
 ·rcases Nat.eq_zero_or_pos (val b (U.drop (q + (nb + 1)))) with h | h
  ·exact h
  ·exfalso
   have h2 : b ^ q * (b ^ (nb + 1) * 1) ≤ b ^ q * (b ^ (nb + 1) * val b (U.drop (q + (nb + 1)))) := Nat.mul_le_mul_left _ (Nat.mul_le_mul_left _ h)
   have h3 : V * b ^ (q + 1) ≤ b ^ q * (b ^ (nb + 1) * 1) := by
    rw [Nat.mul_one, Nat.pow_succ, Nat.pow_succ, Nat.mul_comm V, Nat.mul_assoc, Nat.mul_comm (b ^ nb)]
    exact Nat.mul_le_mul_left _ (Nat.mul_le_mul_left _ (Nat.le_of_lt hV))
   rw [Nat.mul_add] at hc
   omega
theorem div_round {b A V q nb : Nat} {U W O : List Nat} (hb : 2 ≤ b) (hl : q + (nb + 1) ≤ U.length) (hdU : ∀ d ∈ U, d < b) (hq : q < O.length) (hV0 : 0 < V) (hS : val b (U.drop (q + (nb + 1))) = 0)
  (hA : A = V * b ^ (q + 1) * val b (O.drop (q + 1)) + val b U) (hW : W.length = nb + 1) (hWv : val b W = val b ((U.drop q).take (nb + 1)) % V) :
  A = V * b ^ q * val b ((O.set q (val b ((U.drop q).take (nb + 1)) / V)).drop q) + val b (U.take q ++ W ++ U.drop (q + (nb + 1))) ∧ val b (U.take q ++ W ++ U.drop (q + (nb + 1))) < V * b ^ q := by
 have hc := val_cut3 b U q (nb + 1) hl
 rw [hS, Nat.mul_zero, Nat.add_zero] at hc
 have hU' : val b (U.take q ++ W ++ U.drop (q + (nb + 1))) = val b (U.take q) + b ^ q * val b W := by
  rw [List.append_assoc, val_append, val_append, hS, Nat.mul_zero, Nat.add_zero, List.length_take, Nat.min_eq_left (by omega)]
 have hP : val b (U.take q) < b ^ q := by
  have := val_lt (b := b) (by omega) (U.take q) (fun d hd => hdU d (List.mem_of_mem_take hd))
  rwa [List.length_take, Nat.min_eq_left (by omega)] at this
 generalize val b ((U.drop q).take (nb + 1)) = M at *
 constructor
 ·rw [hU', hWv, drop_set_self _ _ _ hq, hA, hc]
  simp only [val]
  have h1 := Nat.div_add_mod M V
  have h2 : b ^ q * M = b ^ q * (V * (M / V)) + b ^ q * (M % V) := by rw [← Nat.mul_add, h1]
  have h3 : V * b ^ q * (M / V + b * val b (O.drop (q + 1))) = b ^ q * (V * (M / V)) + V * b ^ (q + 1) * val b (O.drop (q + 1)) := by
   rw [Nat.mul_add, Nat.pow_succ]
   congr 1
   ·rw [Nat.mul_comm V, Nat.mul_assoc]
   ·simp only [Nat.mul_assoc]
  omega
 ·rw [hU', hWv]
  have h1 : M % V + 1 ≤ V := Nat.mod_lt _ hV0
  have h2 : b ^ q * (M % V + 1) ≤ b ^ q * V := Nat.mul_le_mul_left _ h1
  rw [Nat.mul_add, Nat.mul_one] at h2
  rw [Nat.mul_comm V]
  omega
theorem div_prep {b n k t g : Nat} {lb : List Nat} (hb : 2 ≤ b) (hk : lb.length = k + 2) (hdn : ∀ d ∈ lb, d < b) (hln : lb.getLast? ≠ some 0) (hvn : val b lb = n) (ht : lb[k + 1]?.getD 0 = t) (hg : b / (t + 1) = g) :
  0 < g ∧ g ≤ b ∧ t < b ∧ n * g < b ^ (k + 2) ∧ b ^ (k + 1) ≤ n := by
 have htb : t < b := by rw [← ht]; exact getD_lt (by omega) hdn _
 have ht0 : 0 < t := by
  rcases Nat.eq_zero_or_pos t with h | h
  ·exfalso
   rw [List.getLast?_eq_getElem?, hk, List.getElem?_eq_getElem (by omega)] at hln
   rw [List.getElem?_eq_getElem (by omega)] at ht
   simp only [Option.getD_some] at ht
   simp only [Nat.add_one_sub_one] at hln
   rw [ht, h] at hln
   exact hln rfl
  ·exact h
 have hlow : val b (lb.take (k + 1)) < b ^ (k + 1) := by
  have := val_lt (b := b) (by omega) (lb.take (k + 1)) (fun d hd => hdn d (List.mem_of_mem_take hd))
  rwa [List.length_take, Nat.min_eq_left (by omega)] at this
 have hn : n = val b (lb.take (k + 1)) + b ^ (k + 1) * t := by
  rw [← hvn, val_split _ lb (k + 1) (by omega), List.drop_eq_nil_of_le (by omega), ht]
  simp [val]
 have hg2 : g * (t + 1) ≤ b := by rw [← hg]; exact Nat.div_mul_le_self _ _
 have hg0 : 0 < g := by rw [← hg]; exact Nat.div_pos (by omega) (by omega)
 refine ⟨hg0, by rw [← hg]; exact Nat.div_le_self _ _, htb, ?_, ?_⟩
 ·have e1 : n < b ^ (k + 1) * (t + 1) := by rw [Nat.mul_add, Nat.mul_one]; omega
  have e2 : n * g < b ^ (k + 1) * (t + 1) * g := Nat.mul_lt_mul_of_pos_right e1 hg0
  have e3 : b ^ (k + 1) * (t + 1) * g ≤ b ^ (k + 1) * b := by
   rw [Nat.mul_assoc, Nat.mul_comm (t + 1)]
   exact Nat.mul_le_mul_left _ hg2
  rw [Nat.pow_succ b (k + 1)]
  omega
 ·have : b ^ (k + 1) * 1 ≤ b ^ (k + 1) * t := Nat.mul_le_mul_left _ ht0
  omega
theorem div_fit {b m na g : Nat} (hm : m < b ^ na) (hg : g ≤ b) (hg0 : 0 < g) : m * g < b ^ (na + 1) := by
 rw [Nat.pow_succ]
 exact Nat.lt_of_lt_of_le (Nat.mul_lt_mul_of_pos_right hm hg0) (Nat.mul_le_mul_left _ hg)
theorem div_start {b m n k na g N : Nat} (hm : m < b ^ na) (hn : b ^ (k + 1) ≤ n) (hN : na = k + 1 + N) (hg0 : 0 < g) : m * g < n * g * b ^ N := by
 have e3 : b ^ na = b ^ (k + 1) * b ^ N := by rw [← Nat.pow_add, hN]
 have e4 : b ^ (k + 1) * b ^ N ≤ n * b ^ N := Nat.mul_le_mul_right _ hn
 rw [Nat.mul_right_comm]
 exact Nat.mul_lt_mul_of_pos_right (by omega) hg0
theorem div_top {b n k g : Nat} {V : List Nat} (hb : 2 ≤ b) (hl : V.length = k + 2) (hd : ∀ d ∈ V, d < b) (hv : val b V = n * g) (hn : b ^ (k + 1) ≤ n) (hg0 : 0 < g) : 0 < V[k + 1]?.getD 0 := by
 rcases Nat.eq_zero_or_pos (V[k + 1]?.getD 0) with h | h
 ·exfalso
  have e1 := val_split b V (k + 1) (by omega)
  rw [h, List.drop_eq_nil_of_le (by omega)] at e1
  simp only [val, Nat.mul_zero, Nat.add_zero] at e1
  have e2 := val_lt (b := b) (by omega) (V.take (k + 1)) (fun d h => hd d (List.mem_of_mem_take h))
  rw [List.length_take, Nat.min_eq_left (by omega)] at e2
  have e5 : n * 1 ≤ n * g := Nat.mul_le_mul_left _ hg0
  omega
 ·exact h
theorem div_end {b m n g : Nat} {U O : List Nat} (hg0 : 0 < g) (hA : m * g = n * g * val b O + val b U) (hU : val b U < n * g) : val b O = m / n ∧ val b U / g = m % n := by
 have hn0 : 0 < n := by
  rcases Nat.eq_zero_or_pos n with h | h
  ·subst h; simp at hU
  ·exact h
 have hng : 0 < n * g := Nat.mul_pos hn0 hg0
 have h1 : m * g / (n * g) = val b O := by rw [hA, Nat.mul_add_div hng, Nat.div_eq_of_lt hU, Nat.add_zero]
 have h2 : m * g % (n * g) = val b U := by rw [hA, Nat.mul_add_mod, Nat.mod_eq_of_lt hU]
 rw [Nat.mul_div_mul_right _ _ hg0] at h1
 rw [Nat.mul_mod_mul_right] at h2
 exact ⟨h1.symm, by rw [← h2, Nat.mul_div_cancel _ hg0]⟩
theorem val_take_lt {b : Nat} (_hb : 2 ≤ b) {l : List Nat} {k : Nat} (h : val b l < b ^ k) : val b (l.take k) = val b l := by
 rcases Nat.lt_or_ge k l.length with h1 | h1
 ·have e := val_append b (l.take k) (l.drop k)
  rw [List.take_append_drop, List.length_take, Nat.min_eq_left (by omega)] at e
  rcases Nat.eq_zero_or_pos (val b (l.drop k)) with h2 | h2
  ·rw [h2, Nat.mul_zero, Nat.add_zero] at e
   exact e.symm
  ·have : b ^ k * 1 ≤ b ^ k * val b (l.drop k) := Nat.mul_le_mul_left _ h2
   omega
 ·rw [List.take_of_length_le h1]
theorem dg_len_mono {b m n : Nat} (hb : 2 ≤ b) (h : m ≤ n) : (dg b m).length ≤ (dg b n).length :=
 dg_len_le hb _ m (Nat.lt_of_le_of_lt h (lt_pow_dg hb n))
theorem dg_len_mul {b : Nat} (hb : 2 ≤ b) (m n : Nat) : (dg b (m * n)).length ≤ (dg b m).length + (dg b n).length := by
 rcases Nat.eq_zero_or_pos n with h | h
 ·subst h; rw [Nat.mul_zero, dg_zero]; simp
 ·refine dg_len_le hb _ _ ?_
  rw [Nat.pow_add]
  exact Nat.mul_lt_mul_of_lt_of_le (lt_pow_dg hb m) (Nat.le_of_lt (lt_pow_dg hb n)) (Nat.pow_pos (by omega))
def cmp (m n : Nat) : Int := if m < n then -1 else if n < m then 1 else 0
theorem cmp_lt {m n : Nat} (h : m < n) : cmp m n = -1 := by rw [cmp, if_pos h]
theorem cmp_gt {m n : Nat} (h : n < m) : cmp m n = 1 := by rw [cmp, if_neg (by omega), if_pos h]
theorem cmp_eq (m : Nat) : cmp m m = 0 := by rw [cmp, if_neg (by omega), if_neg (by omega)]
end Go.Proofs.YtkcdgaijklhnaaaGreatDoor.Mth
namespace Go.Proofs.YtkcdgaijklhnaaaGreatDoor
open Go.RowKit
def Sl (w : World) (v : Value) (xs : List Value) : Prop :=
 ∃ A c, v = .slice A xs.length c ∧ xs.length ≤ c ∧ c ≤ maxLen ∧
  (0 < xs.length → ∃ b o, A = some ⟨b, o, none⟩ ∧ ∀ j u, xs[j]? = some u → w.cell? ⟨b, o + j, none⟩ = some u)
theorem Sl.nil_ (w : World) : Sl w (.slice none 0 0) [] := ⟨none, 0, rfl, Nat.le_refl _, Nat.zero_le _, fun h => absurd h (by simp)⟩
theorem Sl.keep {w w' : World} {v : Value} {xs : List Value} (h : Sl w v xs) (hk : ∀ (p : Addr) u, w.cell? p = some u → w'.cell? p = some u) : Sl w' v xs := by
 obtain ⟨A, c, e, h1, h2, h3⟩ := h
 refine ⟨A, c, e, h1, h2, fun h0 => ?_⟩
 obtain ⟨b, o, e2, h4⟩ := h3 h0
 exact ⟨b, o, e2, fun j u hu => hk _ _ (h4 j u hu)⟩
theorem Sl.below {w w' : World} {v : Value} {xs : List Value} (h : Sl w v xs) (hb : Below w.heap.size w w') : Sl w' v xs :=
 h.keep fun p _ hu => (hb.cell (World.block_lt_of_cell? w p hu)).trans hu
theorem Sl.drew {w : World} {v : Value} {xs : List Value} (h : Sl w v xs) : Sl w.drew v xs := h
theorem Sl.drewN {w : World} {v : Value} {xs : List Value} (h : Sl w v xs) (n : Nat) : Sl (w.drewN n) v xs := h
theorem Sl.alloc {w : World} {v : Value} {xs : List Value} (h : Sl w v xs) (o : Obj) : Sl (w.alloc o) v xs :=
 h.below ((Below.refl _ _).alloc (Nat.le_refl _) o)
theorem Sl.set {w : World} {v : Value} {xs : List Value} (h : Sl w v xs) (p : Addr) (u : Value) (hp : ∀ b o c, v = .slice (some ⟨b, o, none⟩) xs.length c → b ≠ p.block) : Sl (w.setCell p u) v xs := by
 obtain ⟨A, c, e, h1, h2, h3⟩ := h
 refine ⟨A, c, e, h1, h2, fun h0 => ?_⟩
 obtain ⟨b, o, rfl, h4⟩ := h3 h0
 exact ⟨b, o, rfl, fun j x hx => (World.cell?_setCell_other _ _ _ _ (by
  intro h; exact hp b o c e (by rw [h]))).trans (h4 j x hx)⟩
theorem Sl.of_own {w : World} {base : Nat} {e : TypeId} {v : Value} {n : Nat} {xs : List Value} (h : w.ownsRow base e 1 v n xs) : Sl w v xs := by
 have hl : xs.length = n := by simpa using h.1
 rcases h.2 with ⟨rfl, rfl⟩ | ⟨g, cap, cur, rfl, _, hg, h1, h2, h3, h4⟩
 ·have : xs = [] := List.eq_nil_of_length_eq_zero hl
  subst this; exact Sl.nil_ w
 ·refine ⟨some ⟨g, 0, none⟩, cap, by rw [hl], by omega, h2, fun h0 => ⟨g, 0, rfl, fun j u hu => ?_⟩⟩
  have := h.cells (g := g) rfl j u hu
  rwa [Addr.add_lit] at this
def u32s (l : List Nat) : List Value := l.map fun d : Nat => .int .u32 (d : Int)
theorem u32s_length (l : List Nat) : (u32s l).length = l.length := by simp [u32s]
theorem u32s_append (l m : List Nat) : u32s (l ++ m) = u32s l ++ u32s m := by simp [u32s]
theorem u32s_get (l : List Nat) (j : Nat) : (u32s l)[j]? = (l[j]?).map fun d : Nat => Value.int .u32 (d : Int) := by simp [u32s]
theorem u32s_at {l : List Nat} {j : Nat} (h : j < l.length) : (u32s l)[j]? = some (.int .u32 ((l[j]?.getD 0 : Nat) : Int)) := by
 rw [u32s_get, List.getElem?_eq_getElem h]; rfl
def Nt (w : World) (v : Value) (n : Nat) : Prop := Sl w v (u32s (Mth.dg 1000000000 n))
theorem Nt.shape {w : World} {v : Value} {n : Nat} (h : Nt w v n) : ∃ A k c, v = .slice A k c := by
 obtain ⟨A, c, e, _⟩ := h
 exact ⟨_, _, _, e⟩
theorem Nt.below {w w' : World} {v : Value} {n : Nat} (h : Nt w v n) (hb : Below w.heap.size w w') : Nt w' v n := Sl.below h hb
def Own (w : World) (g : Nat) (l : List Nat) : Prop := w.heap[g]? = some (.cells (u32s l).toArray 148 (0, 0))
section
variable {w w' : World} {g j : Nat} {l : List Nat}
theorem Own.lt (h : Own w g l) : g < w.heap.size := (Array.getElem?_eq_some_iff.1 h).1
theorem Own.cell (h : Own w g l) (hj : j < l.length) : w.cell? ⟨g, j, none⟩ = some (.int .u32 ((l[j]?.getD 0 : Nat) : Int)) := by
 rw [cell_of_row w g j _ _ (0, 0) h, List.getElem?_toArray, u32s_at hj]
theorem Own.frozen (h : Own w g l) (j : Nat) : w.frozen? ⟨g, j, none⟩ = false := by
 unfold Own at h
 simp [World.frozen?, h]
theorem Own.set (h : Own w g l) (j x : Nat) : Own (w.setCell ⟨g, j, none⟩ (.int .u32 (x : Int))) g (l.set j x) := by
 unfold Own at h ⊢
 simp [World.setCell, Array.getElem?_modify, h, u32s, List.map_set]
theorem Own.far (h : Own w g l) {p : Addr} (hp : g ≠ p.block) (u : Value) : Own (w.setCell p u) g l := (Below.heap_setCell w p u g hp).trans h
theorem Own.alloc (h : Own w g l) (o : Obj) : Own (w.alloc o) g l := (Below.heap_alloc w o g h.lt).trans h
theorem Own.drew (h : Own w g l) : Own w.drew g l := h
theorem Own.drewN (h : Own w g l) (n : Nat) : Own (w.drewN n) g l := h
theorem Own.below {B : Nat} (h : Own w g l) (hb : Below B w w') (hg : g < B) : Own w' g l := (hb.block g hg).trans h
theorem Own.sl (h : Own w g l) {c : Nat} (h1 : l.length ≤ c) (h2 : c ≤ maxLen) : Sl w (.slice (some ⟨g, 0, none⟩) l.length c) (u32s l) := by
 refine ⟨_, c, by rw [u32s_length], by rw [u32s_length]; exact h1, h2, fun _ => ⟨g, 0, rfl, fun j u hu => ?_⟩⟩
 rw [Nat.zero_add, cell_of_row w g j _ _ (0, 0) h, List.getElem?_toArray]
 exact hu
theorem madeCells_rep (z : Value) (n : Nat) : madeCells #[z] n = Array.replicate n z := by
 apply Array.ext
 ·simp [size_madeCells]
 ·intro i h1 h2
  simp [madeCells, Nat.mod_one]
theorem Own.made (w : World) (n : Nat) : Own (w.alloc (.cells (madeCells #[.int .u32 0] n) 148)) w.heap.size (List.replicate n 0) := by
 unfold Own
 rw [madeCells_rep, heap_alloc_new]
 simp [u32s]
end
section
variable {w w' a b c : World} {g k : Nat} {P W S : List Nat} {row : Option Nat}
theorem own3_cell (h : Own w g (P ++ W ++ S)) (hk : k < W.length) : w.cell? ⟨g, P.length + k, none⟩ = some (.int .u32 ((W[k]?.getD 0 : Nat) : Int)) := by
 rw [h.cell (by simp; omega), List.append_assoc, List.getElem?_append_right (by omega), Nat.add_sub_cancel_left, List.getElem?_append_left hk]
theorem own3_set (h : Own w g (P ++ W ++ S)) (hk : k < W.length) (d : Nat) : Own (w.setCell ⟨g, P.length + k, none⟩ (.int .u32 (d : Int))) g (P ++ W.set k d ++ S) := by
 have := h.set (P.length + k) d
 rwa [List.append_assoc, List.set_append_right _ _ (by omega), Nat.add_sub_cancel_left, List.set_append_left _ _ hk, ← List.append_assoc] at this
theorem only_refl (w : World) (row : Option Nat) : w.grownBy w row := ⟨rfl, rfl, rfl, Nat.le_refl _, fun _ _ _ => rfl⟩
theorem only_trans (h : a.grownBy b row) (k : b.grownBy c row) : a.grownBy c row :=
 ⟨k.os.trans h.os, k.tape.trans h.tape, k.output.trans h.output, Nat.le_trans h.size k.size, fun i hi hn => (k.block i (Nat.lt_of_lt_of_le hi h.size) hn).trans (h.block i hi hn)⟩
theorem only_set (h : a.grownBy w (some g)) (j : Nat) (u : Value) : a.grownBy (w.setCell ⟨g, j, none⟩ u) (some g) :=
 ⟨h.os, h.tape, h.output, by simpa [World.setCell] using h.size, fun i hi hne => (Below.heap_setCell w _ u i (by rintro rfl; exact hne rfl)).trans (h.block i hi hne)⟩
theorem only_drewN (h : a.grownBy w row) (n : Nat) : a.grownBy (w.drewN n) row := ⟨h.os, h.tape, h.output, h.size, h.block⟩
theorem Own.only {l : List Nat} {g' : Nat} (h : Own a g' l) (hg : a.grownBy w (some g)) (hne : g' ≠ g) : Own w g' l := (hg.block g' h.lt (by simpa using hne)).trans h
end
theorem own_below {w w' : World} {base : Nat} {e : TypeId} {size : Nat} {v : Value} {n : Nat} {xs : List Value} (h : w.ownsRow base e size v n xs) (hb : Below w.heap.size w w') : w'.ownsRow base e size v n xs :=
 h.kept (row := none) ⟨hb.os, hb.tape, hb.output, hb.size, fun i hi _ => hb.block i hi⟩ (by cases hv : v.ownBlock <;> simp)
theorem ret_int {k : IntKind} {a b : Int} (h : a = b) : Ending.returned (.int k a) = .returned (.int k b) := by rw [h]
theorem ret_bool {a b : Bool} (h : a = b) : Ending.returned (.bool a) = .returned (.bool b) := by rw [h]
theorem quiet_more {P : Program} {f : FuncId} {args : Array Value} {w : World} {a n : Nat} {v : Value}
  (h : Calls P f args (w.drewN (a + n)) fun e w' => e = .returned v ∧ w' = w.drewN (a + n)) :
  Calls P f args (w.drewN (a + n)) fun e w'' => e = .returned v ∧ ∃ m, w'' = w.drewN (a + m) :=
 h.mono fun _ _ ⟨he, hm⟩ => ⟨he, n, hm⟩
def lenOf : Value → Nat
 | .slice _ k _ => k
 | _ => 0
theorem take_snoc_nat (l : List Nat) (k : Nat) (h : k < l.length) : l.take (k + 1) = l.take k ++ [l[k]?.getD 0] := by
 rw [List.take_add_one, List.getElem?_eq_getElem h]; rfl
theorem Sl.head {w : World} {A : Option Addr} {n c k : Nat} {xs : List Value} (h : Sl w (.slice A n c) xs) (hk : k ≤ xs.length) : Sl w (.slice A k c) (xs.take k) := by
 obtain ⟨A', c', e, h1, h2, h3⟩ := h
 injection e with e1 e2 e3
 subst e1 e2 e3
 have hl : (xs.take k).length = k := by rw [List.length_take]; omega
 refine ⟨A, c, by rw [hl], by omega, h2, fun h0 => ?_⟩
 obtain ⟨b, o, e, h4⟩ := h3 (by omega)
 refine ⟨b, o, e, fun j u hu => h4 j u ?_⟩
 rw [List.getElem?_take] at hu
 split at hu
 ·exact hu
 ·cases hu
theorem Sl.len_ {w : World} {A : Option Addr} {n c : Nat} {xs : List Value} (h : Sl w (.slice A n c) xs) : n = xs.length := by
 obtain ⟨A', c', e, _⟩ := h
 injection e
end Go.Proofs.YtkcdgaijklhnaaaGreatDoor
namespace Go.Proofs.YtkcdgaijklhnaaaGreatDoor
open Go.RowKit
theorem behind {B : Nat} {a w w' : World} (h : Below B a w) (k : Below w.heap.size w w') (hB : B ≤ a.heap.size := by exact Nat.le_refl _) : Below B a w' := h.trans (k.mono (Nat.le_trans hB h.size))
theorem laid {B : Nat} {a w : World} (h : Below B a w) (o : Obj) (hB : B ≤ a.heap.size := by exact Nat.le_refl _) : Below B a (w.alloc o) := h.alloc (Nat.le_trans hB h.size) o
def Bk (w : World) (g : Nat) (t : TypeId) (cs : Array Value) : Prop := w.heap[g]? = some (.cells cs t (0, 0))
theorem Bk.lt {w : World} {g : Nat} {t : TypeId} {cs : Array Value} (h : Bk w g t cs) : g < w.heap.size := (Array.getElem?_eq_some_iff.1 h).1
theorem Bk.cell {w : World} {g : Nat} {t : TypeId} {cs : Array Value} (h : Bk w g t cs) (i : Nat) : w.cell? ⟨g, i, none⟩ = cs[i]? := cell_of_row w g i cs t (0, 0) h
theorem Bk.frozen {w : World} {g : Nat} {t : TypeId} {cs : Array Value} (h : Bk w g t cs) (i : Nat) : w.frozen? ⟨g, i, none⟩ = false := by
 unfold Bk at h
 simp [World.frozen?, h]
theorem Bk.new (w : World) (t : TypeId) (cs : Array Value) : Bk (w.alloc (.cells cs t)) w.heap.size t cs := heap_alloc_new w _
theorem Bk.below {w w' : World} {g B : Nat} {t : TypeId} {cs : Array Value} (h : Bk w g t cs) (hb : Below B w w') (hg : g < B) : Bk w' g t cs := (hb.block g hg).trans h
theorem Bk.low {w w' : World} {g : Nat} {t : TypeId} {cs : Array Value} (h : Bk w g t cs) (hb : Below w.heap.size w w') : Bk w' g t cs := h.below hb h.lt
theorem Bk.alloc {w : World} {g : Nat} {t : TypeId} {cs : Array Value} (h : Bk w g t cs) (o : Obj) : Bk (w.alloc o) g t cs := (Below.heap_alloc w o g h.lt).trans h
theorem Bk.far {w : World} {g : Nat} {t : TypeId} {cs : Array Value} (h : Bk w g t cs) {p : Addr} (hp : g ≠ p.block) (u : Value) : Bk (w.setCell p u) g t cs := (Below.heap_setCell w p u g hp).trans h
theorem Bk.set {w : World} {g : Nat} {t : TypeId} {cs : Array Value} (h : Bk w g t cs) (i : Nat) (u : Value) : Bk (w.setCell ⟨g, i, none⟩ u) g t (cs.setIfInBounds i u) := by
 unfold Bk at h ⊢
 simp [World.setCell, Array.getElem?_modify, h]
structure LTerm where
 sym : ByteArray
 n : Int
structure LSize where
 base : Int
 terms : List LTerm
structure LAxis where
 name : ByteArray
 size : LSize
structure LSym where
 name : ByteArray
 lo : Int
 hi : Int
structure LNode where
 op : Int
 args : List Int
 name : ByteArray
 axes : List LAxis
 axis : ByteArray
 to : List ByteArray
 lo : Int
 hi : Int
 n : Int
 m : Int
 data : List Int
 subs : List Int
inductive LGraph where
 | mk (name : ByteArray) (syms : List LSym) (nodes : List LNode) (outs : List Int) (subs : List LGraph)
abbrev Cl := Addr → Option Value
def Keeps (C C' : Cl) : Prop := ∀ p u, C p = some u → C' p = some u
theorem Keeps.refl (C : Cl) : Keeps C C := fun _ _ h => h
theorem Keeps.trans {a b d : Cl} (h : Keeps a b) (k : Keeps b d) : Keeps a d := fun p u e => k p u (h p u e)
theorem Keeps.of_below {w w' : World} (hb : Below w.heap.size w w') : Keeps w.cell? w'.cell? := fun p _ hu => (hb.cell (World.block_lt_of_cell? w p hu)).trans hu
theorem Keeps.alloc (w : World) (o : Obj) : Keeps w.cell? (w.alloc o).cell? := Keeps.of_below ((Below.refl _ w).alloc (Nat.le_refl _) o)
def offB (w : World) (S : Nat → Bool) : Cl := fun p => if S p.block = true then none else w.cell? p
theorem offB_cell {w : World} {S : Nat → Bool} {p : Addr} {u : Value} (h : offB w S p = some u) : w.cell? p = some u := by
 unfold offB at h; split at h
 ·cases h
 ·exact h
theorem offB_in {w : World} {S : Nat → Bool} {p : Addr} (h : S p.block = false) : offB w S p = w.cell? p := by unfold offB; rw [if_neg (by rw [h]; exact Bool.false_ne_true)]
theorem Keeps.off (w : World) (S : Nat → Bool) : Keeps (offB w S) w.cell? := fun _ _ h => offB_cell h
theorem Keeps.off_mono {w w' : World} {S S' : Nat → Bool} (h : ∀ p u, S p.block = false → w.cell? p = some u → S' p.block = false ∧ w'.cell? p = some u) : Keeps (offB w S) (offB w' S') := by
 intro p u hu
 have h1 := offB_cell hu
 have h2 : S p.block = false := by
  unfold offB at hu; split at hu
  ·cases hu
  ·rename_i h; simpa using h
 obtain ⟨h3, h4⟩ := h p u h2 h1
 rw [offB_in h3, h4]
def Rws (k : Nat) {α : Type} (E : Cl → Nat → Nat → α → Prop) (C : Cl) (v : Value) (xs : List α) : Prop :=
 ∃ A c, v = .slice A xs.length c ∧ xs.length ≤ c ∧ c ≤ maxLen ∧ xs.length ≤ 1000000 ∧ (0 < xs.length → ∃ b o, A = some ⟨b, o, none⟩ ∧ ∀ (i : Nat) x, xs[i]? = some x → E C b (o + i * k) x)
theorem Rws.mono {k : Nat} {α : Type} {E : Cl → Nat → Nat → α → Prop} {C C' : Cl} {v : Value} {xs : List α} (h : Rws k E C v xs) (hE : ∀ b o x, E C b o x → E C' b o x) : Rws k E C' v xs := by
 obtain ⟨A, c, e, h1, h2, h5, h3⟩ := h
 exact ⟨A, c, e, h1, h2, h5, fun h0 => by obtain ⟨b, o, e2, hc⟩ := h3 h0; exact ⟨b, o, e2, fun i x hx => hE _ _ _ (hc i x hx)⟩⟩
theorem Rws.shape {k : Nat} {α : Type} {E : Cl → Nat → Nat → α → Prop} {C : Cl} {v : Value} {xs : List α} (h : Rws k E C v xs) : ∃ A c, v = .slice A xs.length c ∧ xs.length ≤ c ∧ c ≤ maxLen ∧ xs.length ≤ 1000000 := by
 obtain ⟨A, c, e, h1, h2, h5, -⟩ := h; exact ⟨A, c, e, h1, h2, h5⟩
theorem Rws.sl {k : Nat} {α : Type} {E : Cl → Nat → Nat → α → Prop} {C : Cl} {v : Value} {xs : List α} (h : Rws k E C v xs) : ∃ A n c, v = .slice A n c := by
 obtain ⟨A, c, e, -⟩ := h; exact ⟨A, _, c, e⟩
theorem Rws.nil (k : Nat) {α : Type} (E : Cl → Nat → Nat → α → Prop) (C : Cl) : Rws k E C (.slice none 0 0) ([] : List α) :=
 ⟨none, 0, rfl, Nat.le_refl _, by unfold maxLen; omega, Nat.zero_le _, fun h => by simp at h⟩
theorem Rws.at_ {k : Nat} {α : Type} {E : Cl → Nat → Nat → α → Prop} {C : Cl} {A : Option Addr} {n c : Nat} {xs : List α} (h : Rws k E C (.slice A n c) xs) (h0 : 0 < xs.length) : ∃ b o, A = some ⟨b, o, none⟩ ∧ ∀ (i : Nat) x, xs[i]? = some x → E C b (o + i * k) x := by
 obtain ⟨A', c', e, -, -, -, h3⟩ := h
 injection e with e1 e2 e3
 subst e1
 exact h3 h0
theorem Rws.len {k : Nat} {α : Type} {E : Cl → Nat → Nat → α → Prop} {C : Cl} {A : Option Addr} {n c : Nat} {xs : List α} (h : Rws k E C (.slice A n c) xs) : n = xs.length := by
 obtain ⟨A', c', e, -⟩ := h
 injection e
def RInt (C : Cl) (b o : Nat) (x : Int) : Prop := C ⟨b, o, none⟩ = some (.int .i64 x)
def RBool (C : Cl) (b o : Nat) (x : Bool) : Prop := C ⟨b, o, none⟩ = some (.bool x)
def RStr (C : Cl) (b o : Nat) (x : ByteArray) : Prop := C ⟨b, o, none⟩ = some (.string x)
def RInts (C : Cl) (v : Value) (xs : List Int) : Prop := Rws 1 RInt C v xs
def RBools (C : Cl) (v : Value) (xs : List Bool) : Prop := Rws 1 RBool C v xs
def RStrs (C : Cl) (v : Value) (xs : List ByteArray) : Prop := Rws 1 RStr C v xs
def RTerm (C : Cl) (b o : Nat) (t : LTerm) : Prop := C ⟨b, o, none⟩ = some (.string t.sym) ∧ C ⟨b, o + 1, none⟩ = some (.int .i64 t.n)
def RTerms (C : Cl) (v : Value) (xs : List LTerm) : Prop := Rws 2 RTerm C v xs
def RSym (C : Cl) (b o : Nat) (s : LSym) : Prop := C ⟨b, o, none⟩ = some (.string s.name) ∧ C ⟨b, o + 1, none⟩ = some (.int .i64 s.lo) ∧ C ⟨b, o + 2, none⟩ = some (.int .i64 s.hi)
def RSyms (C : Cl) (v : Value) (xs : List LSym) : Prop := Rws 3 RSym C v xs
def RAxis (C : Cl) (b o : Nat) (x : LAxis) : Prop := C ⟨b, o, none⟩ = some (.string x.name) ∧ C ⟨b, o + 1, none⟩ = some (.int .i64 x.size.base) ∧ ∃ tv, C ⟨b, o + 2, none⟩ = some tv ∧ RTerms C tv x.size.terms
def RAxes (C : Cl) (v : Value) (xs : List LAxis) : Prop := Rws 3 RAxis C v xs
def RShape (C : Cl) (b o : Nat) (x : List LAxis) : Prop := ∃ v, C ⟨b, o, none⟩ = some v ∧ RAxes C v x
def RShapes (C : Cl) (v : Value) (xs : List (List LAxis)) : Prop := Rws 1 RShape C v xs
def VSize (C : Cl) (v : Value) (s : LSize) : Prop := ∃ tv, v = .agg #[.int .i64 s.base, tv] ∧ RTerms C tv s.terms
def VAxis (C : Cl) (v : Value) (x : LAxis) : Prop := ∃ tv, v = .agg #[.string x.name, .int .i64 x.size.base, tv] ∧ RTerms C tv x.size.terms
def RNode (C : Cl) (b o : Nat) (x : LNode) : Prop := ∃ v1 v3 v5 v10 v11,
 (C ⟨b, o, none⟩ = some (.int .i64 x.op) ∧ C ⟨b, o + 1, none⟩ = some v1 ∧ C ⟨b, o + 2, none⟩ = some (.string x.name) ∧ C ⟨b, o + 3, none⟩ = some v3 ∧
  C ⟨b, o + 4, none⟩ = some (.string x.axis) ∧ C ⟨b, o + 5, none⟩ = some v5 ∧ C ⟨b, o + 6, none⟩ = some (.int .i64 x.lo) ∧ C ⟨b, o + 7, none⟩ = some (.int .i64 x.hi) ∧
  C ⟨b, o + 8, none⟩ = some (.int .i64 x.n) ∧ C ⟨b, o + 9, none⟩ = some (.int .i64 x.m) ∧ C ⟨b, o + 10, none⟩ = some v10 ∧ C ⟨b, o + 11, none⟩ = some v11) ∧
 RInts C v1 x.args ∧ RAxes C v3 x.axes ∧ RStrs C v5 x.to ∧ RInts C v10 x.data ∧ RInts C v11 x.subs
def VNode (C : Cl) (v : Value) (x : LNode) : Prop := ∃ v1 v3 v5 v10 v11,
 v = .agg #[.int .i64 x.op, v1, .string x.name, v3, .string x.axis, v5, .int .i64 x.lo, .int .i64 x.hi, .int .i64 x.n, .int .i64 x.m, v10, v11] ∧
 RInts C v1 x.args ∧ RAxes C v3 x.axes ∧ RStrs C v5 x.to ∧ RInts C v10 x.data ∧ RInts C v11 x.subs
def RNodes (C : Cl) (v : Value) (xs : List LNode) : Prop := Rws 12 RNode C v xs
def RGraph : Nat → Cl → Nat → Nat → LGraph → Prop
 | 0, _, _, _, _ => False
 | d + 1, C, b, o, .mk name syms nodes outs subs => ∃ v1 v2 v3 v4,
  (C ⟨b, o, none⟩ = some (.string name) ∧ C ⟨b, o + 1, none⟩ = some v1 ∧ C ⟨b, o + 2, none⟩ = some v2 ∧ C ⟨b, o + 3, none⟩ = some v3 ∧ C ⟨b, o + 4, none⟩ = some v4) ∧
  RSyms C v1 syms ∧ RNodes C v2 nodes ∧ RInts C v3 outs ∧ Rws 5 (RGraph d) C v4 subs
def RGraphs (d : Nat) (C : Cl) (v : Value) (xs : List LGraph) : Prop := Rws 5 (RGraph d) C v xs
def VGraph (d : Nat) (C : Cl) (v : Value) : LGraph → Prop
 | .mk name syms nodes outs subs => ∃ v1 v2 v3 v4, v = .agg #[.string name, v1, v2, v3, v4] ∧ RSyms C v1 syms ∧ RNodes C v2 nodes ∧ RInts C v3 outs ∧ RGraphs d C v4 subs
theorem RTerms.keep {C C' : Cl} {v : Value} {xs : List LTerm} (h : RTerms C v xs) (k : Keeps C C') : RTerms C' v xs := Rws.mono h fun _ _ _ ⟨h1, h2⟩ => ⟨k _ _ h1, k _ _ h2⟩
theorem RSyms.keep {C C' : Cl} {v : Value} {xs : List LSym} (h : RSyms C v xs) (k : Keeps C C') : RSyms C' v xs := Rws.mono h fun _ _ _ ⟨h1, h2, h3⟩ => ⟨k _ _ h1, k _ _ h2, k _ _ h3⟩
theorem RInts.keep {C C' : Cl} {v : Value} {xs : List Int} (h : RInts C v xs) (k : Keeps C C') : RInts C' v xs := Rws.mono h fun _ _ _ h1 => k _ _ h1
theorem RBools.keep {C C' : Cl} {v : Value} {xs : List Bool} (h : RBools C v xs) (k : Keeps C C') : RBools C' v xs := Rws.mono h fun _ _ _ h1 => k _ _ h1
theorem RStrs.keep {C C' : Cl} {v : Value} {xs : List ByteArray} (h : RStrs C v xs) (k : Keeps C C') : RStrs C' v xs := Rws.mono h fun _ _ _ h1 => k _ _ h1
theorem RAxis.keep {C C' : Cl} {b o : Nat} {x : LAxis} (h : RAxis C b o x) (k : Keeps C C') : RAxis C' b o x := by
 obtain ⟨h1, h2, tv, h3, h4⟩ := h
 exact ⟨k _ _ h1, k _ _ h2, tv, k _ _ h3, h4.keep k⟩
theorem RAxes.keep {C C' : Cl} {v : Value} {xs : List LAxis} (h : RAxes C v xs) (k : Keeps C C') : RAxes C' v xs := Rws.mono h fun _ _ _ h => h.keep k
theorem RShapes.keep {C C' : Cl} {v : Value} {xs : List (List LAxis)} (h : RShapes C v xs) (k : Keeps C C') : RShapes C' v xs := Rws.mono h fun _ _ _ ⟨v, h1, h2⟩ => ⟨v, k _ _ h1, h2.keep k⟩
theorem VSize.keep {C C' : Cl} {v : Value} {x : LSize} (h : VSize C v x) (k : Keeps C C') : VSize C' v x := by obtain ⟨tv, e, h⟩ := h; exact ⟨tv, e, h.keep k⟩
theorem VAxis.keep {C C' : Cl} {v : Value} {x : LAxis} (h : VAxis C v x) (k : Keeps C C') : VAxis C' v x := by obtain ⟨tv, e, h⟩ := h; exact ⟨tv, e, h.keep k⟩
theorem RNode.keep {C C' : Cl} {b o : Nat} {x : LNode} (h : RNode C b o x) (k : Keeps C C') : RNode C' b o x := by
 obtain ⟨v1, v3, v5, v10, v11, ⟨c0, c1, c2, c3, c4, c5, c6, c7, c8, c9, c10, c11⟩, h1, h3, h5, h10, h11⟩ := h
 exact ⟨v1, v3, v5, v10, v11, ⟨k _ _ c0, k _ _ c1, k _ _ c2, k _ _ c3, k _ _ c4, k _ _ c5, k _ _ c6, k _ _ c7, k _ _ c8, k _ _ c9, k _ _ c10, k _ _ c11⟩, h1.keep k, h3.keep k, h5.keep k, h10.keep k, h11.keep k⟩
theorem VNode.keep {C C' : Cl} {v : Value} {x : LNode} (h : VNode C v x) (k : Keeps C C') : VNode C' v x := by
 obtain ⟨v1, v3, v5, v10, v11, e, h1, h3, h5, h10, h11⟩ := h
 exact ⟨v1, v3, v5, v10, v11, e, h1.keep k, h3.keep k, h5.keep k, h10.keep k, h11.keep k⟩
theorem RNodes.keep {C C' : Cl} {v : Value} {xs : List LNode} (h : RNodes C v xs) (k : Keeps C C') : RNodes C' v xs := Rws.mono h fun _ _ _ h1 => h1.keep k
theorem RGraph.keep : ∀ {d : Nat} {C C' : Cl} {b o : Nat} {g : LGraph}, RGraph d C b o g → Keeps C C' → RGraph d C' b o g
 | 0, _, _, _, _, _, h, _ => h.elim
 | d + 1, _, _, _, _, .mk _ _ _ _ _, h, k => by
  obtain ⟨v1, v2, v3, v4, ⟨c0, c1, c2, c3, c4⟩, h1, h2, h3, h4⟩ := h
  exact ⟨v1, v2, v3, v4, ⟨k _ _ c0, k _ _ c1, k _ _ c2, k _ _ c3, k _ _ c4⟩, h1.keep k, h2.keep k, h3.keep k, Rws.mono h4 fun _ _ _ hg => RGraph.keep hg k⟩
theorem RGraphs.keep {d : Nat} {C C' : Cl} {v : Value} {xs : List LGraph} (h : RGraphs d C v xs) (k : Keeps C C') : RGraphs d C' v xs := Rws.mono h fun _ _ _ hg => hg.keep k
theorem VGraph.keep {d : Nat} {C C' : Cl} {v : Value} {g : LGraph} (h : VGraph d C v g) (k : Keeps C C') : VGraph d C' v g := by
 obtain ⟨name, syms, nodes, outs, subs⟩ := g
 obtain ⟨v1, v2, v3, v4, e, h1, h2, h3, h4⟩ := h
 exact ⟨v1, v2, v3, v4, e, h1.keep k, h2.keep k, h3.keep k, h4.keep k⟩
end Go.Proofs.YtkcdgaijklhnaaaGreatDoor
namespace Go.Proofs.YtkcdgaijklhnaaaGreatDoor
def sLt (a b : ByteArray) : Bool := Op.bytesLess a.toList b.toList
def low (c : UInt8) : Bool := decide (97 ≤ c.toNat) && decide (c.toNat ≤ 122)
def idxI {α : Type} (p : α → Bool) (xs : List α) : Int := match xs.findIdx? p with
 | some i => (i : Int)
 | none => -1
theorem idxI_none {α : Type} {p : α → Bool} {xs : List α} (h : xs.any p = false) : idxI p xs = -1 := by
 have : xs.findIdx? p = none := by rw [List.findIdx?_eq_none_iff]; intro x hx; exact List.any_eq_false.1 h x hx |> (fun h => by simpa using h)
 rw [idxI, this]
theorem idxI_some {α : Type} {p : α → Bool} {xs : List α} {j : Nat} {x : α} (h : (xs.take j).any p = false) (hx : xs[j]? = some x) (hp : p x = true) : idxI p xs = (j : Int) := by
 have hj := (List.getElem?_eq_some_iff.1 hx)
 obtain ⟨hj, hxj⟩ := hj
 have : xs.findIdx? p = some j := by
  rw [List.findIdx?_eq_some_iff_getElem]
  refine ⟨hj, by rw [hxj]; exact hp, fun i hi => ?_⟩
  have := List.any_eq_false.1 h (xs[i]'(by omega)) (by rw [List.mem_take_iff_getElem]; exact ⟨i, by omega, rfl⟩)
  simpa using this
 rw [idxI, this]
theorem idxI_any {α : Type} (p : α → Bool) (xs : List α) : decide (0 ≤ idxI p xs) = xs.any p := by
 cases h : xs.any p
 ·rw [idxI_none h]; rfl
 ·unfold idxI
  cases h2 : xs.findIdx? p
  ·rw [List.findIdx?_eq_none_iff] at h2
   rw [List.any_eq_true] at h
   obtain ⟨x, hx, hp⟩ := h
   rw [h2 x hx] at hp
   cases hp
  ·simp
def mulT (k : Int) (t : LTerm) : LTerm := ⟨t.sym, k * t.n⟩
def Asc (l : List LTerm) : Prop := l.Pairwise fun a b => sLt a.sym b.sym = true
end Go.Proofs.YtkcdgaijklhnaaaGreatDoor
namespace Go.Proofs.YtkcdgaijklhnaaaGreatDoor
open Go.RowKit
set_option maxHeartbeats 1000000 in
set_option maxRecDepth 100000 in
theorem idx_int (F : Nat) (caps : Array Value) (p : Int → Bool) (eF : ∀ args w, (callFunc F args).run Tryz.prog w = .ok (.enter F args) w) (xs : List (Int)) (v : Value) (w : World) (hv : RInts w.cell? v xs)
  (hF : ∀ x ∈ xs, ∀ u W, Below w.heap.size w W → (fun _ u x => u = Value.int .i64 x) W.cell? u x → Calls Tryz.prog F (#[u] ++ caps) W fun e w' => e = .returned (.bool (p x)) ∧ Below W.heap.size W w') :
  Calls Tryz.prog 84 #[v, .func (.func F) #[] caps] w fun e w' => e = .returned (.int .i64 (idxI p xs)) ∧ Below w.heap.size w w' := by
 obtain ⟨A, c, rfl, -, -, hmx⟩ := Rws.shape hv
 have HV := Lib.hid hv
 obtain ⟨n, hn⟩ : ∃ n, xs.length = n := ⟨_, rfl⟩
 rw [hn] at hmx HV ⊢
 have HL := Lib.hid hn
 have HF := Lib.hid hF
 have hn2 : (n : Int) ≤ 1000000 := by omega
 clear hv hn hF
 go_enter Tryz.func84, Tryz.ntmps84
 go_wp2
 go_loopw [8] (fun a8 wr => ∃ j : Nat, a8 = .int .i64 j ∧ Below w.heap.size w wr ∧ j ≤ n ∧ (xs.take j).any p = false) (fun a8 _ => n - (intOf a8).toNat)
 case atStart => exact ⟨0, rfl, Below.refl _ _, by omega, rfl⟩
 case round =>
  obtain ⟨j, rfl, hB, hj, hp⟩ := hrel
  have HP := Lib.hid hp
  have HB := Lib.hid hB
  clear hp hB
  by_cases hlt : j < n
  ·have hlt2 : (j : Int) < (n : Int) := by omega
   have hjl : j < xs.length := by rw [HL.out]; exact hlt
   obtain ⟨b, o, rfl, hc⟩ := Rws.at_ (Rws.mono HV.out fun _ _ _ h => Keeps.of_below HB.out _ _ h) (by rw [HL.out]; omega)
   obtain ⟨x, hx⟩ : ∃ x, xs[j]? = some x := ⟨_, List.getElem?_eq_getElem hjl⟩
   have hE := hc j x hx
   rw [Nat.mul_one] at hE
   have hxm : x ∈ xs := List.mem_of_getElem? hx
   have HX := Lib.hid hx
   clear hc hx
   have e0 : _ = _ := hE
   obtain ⟨bx, hbx⟩ : ∃ bx, p x = bx := ⟨_, rfl⟩
   have hf := HF.out x hxm
   rw [hbx] at hf
   have HBX := Lib.hid hbx
   have HFX := Lib.hid hf
   clear hxm hbx hf
   go_wp2_with fail
   refine (HFX.out _ _ HB.out rfl).mono ?_
   rintro e w1 ⟨rfl, hB1⟩
   have HB1 := Lib.hid hB1
   clear hB1
   cases bx with
   | true =>
    go_wp2
    go_ret
    exact ⟨ret_int (idxI_some HP.out HX.out HBX.out).symm, behind HB.out HB1.out⟩
   | false =>
    have HN : Hid ((xs.take (j + 1)).any p = false) := Lib.hid (by
     rw [List.take_add_one, List.any_append, HP.out, HX.out]
     simp [HBX.out])
    go_wp2
    go_roundw
    case rel => exact ⟨j + 1, by go_num, behind HB.out HB1.out, by omega, HN.out⟩
    case measure => simp [intOf]; omega
  ·obtain rfl : j = n := by omega
   have hp := HP.out
   rw [List.take_of_length_le (by rw [HL.out]; omega)] at hp
   have HP2 := Lib.hid hp
   clear hp
   go_wp2
   go_ret
   exact ⟨ret_int (idxI_none HP2.out).symm, HB.out⟩
theorem has_int (F : Nat) (caps : Array Value) (p : Int → Bool) (eF : ∀ args w, (callFunc F args).run Tryz.prog w = .ok (.enter F args) w) (xs : List (Int)) (v : Value) (w : World) (hv : RInts w.cell? v xs)
  (hF : ∀ x ∈ xs, ∀ u W, Below w.heap.size w W → (fun _ u x => u = Value.int .i64 x) W.cell? u x → Calls Tryz.prog F (#[u] ++ caps) W fun e w' => e = .returned (.bool (p x)) ∧ Below W.heap.size W w') :
  Calls Tryz.prog 42 #[v, .func (.func F) #[] caps] w fun e w' => e = .returned (.bool (xs.any p)) ∧ Below w.heap.size w w' := by
 have HI := Lib.hid (idx_int F caps p eF xs v w hv hF)
 have HD := Lib.hid (idxI_any p xs)
 obtain ⟨z, hz⟩ : ∃ z, idxI p xs = z := ⟨_, rfl⟩
 rw [hz] at HI HD
 clear eF hF hv hz
 go_enter Tryz.func42, Tryz.ntmps42
 go_wp2_with fail
 refine HI.out.mono ?_
 rintro e w1 ⟨rfl, hB⟩
 have HB := Lib.hid hB
 clear hB
 go_wp2
 go_ret
 exact ⟨ret_bool HD.out, HB.out⟩
end Go.Proofs.YtkcdgaijklhnaaaGreatDoor
namespace Go.Proofs.YtkcdgaijklhnaaaGreatDoor
open Go.RowKit
def i64s (l : List Int) : List Value := l.map fun z => .int .i64 z
theorem i64s_length (l : List Int) : (i64s l).length = l.length := by simp [i64s]
theorem i64s_at {l : List Int} {j : Nat} (h : j < l.length) : (i64s l)[j]? = some (.int .i64 (l[j]?.getD 0)) := by
 simp [i64s, List.getElem?_eq_getElem h]
def OwnI (w : World) (g : Nat) (l : List Int) : Prop := w.heap[g]? = some (.cells (i64s l).toArray 3 (0, 0))
section
variable {w w' : World} {g j : Nat} {l : List Int}
theorem OwnI.lt (h : OwnI w g l) : g < w.heap.size := (Array.getElem?_eq_some_iff.1 h).1
theorem OwnI.cell (h : OwnI w g l) (hj : j < l.length) : w.cell? ⟨g, j, none⟩ = some (.int .i64 (l[j]?.getD 0)) := by
 simp [World.cell?, show w.heap[g]? = _ from h, i64s, List.getElem?_eq_getElem hj]
theorem OwnI.frozen (h : OwnI w g l) (j : Nat) : w.frozen? ⟨g, j, none⟩ = false := by
 simp [World.frozen?, show w.heap[g]? = _ from h]
theorem OwnI.set (h : OwnI w g l) (j : Nat) (x : Int) : OwnI (w.setCell ⟨g, j, none⟩ (.int .i64 x)) g (l.set j x) := by
 unfold OwnI at h ⊢
 simp [World.setCell, Array.getElem?_modify, h, i64s, List.map_set]
theorem OwnI.far (h : OwnI w g l) {p : Addr} (hp : g ≠ p.block) (u : Value) : OwnI (w.setCell p u) g l := (Below.heap_setCell w p u g hp).trans h
theorem OwnI.alloc (h : OwnI w g l) (o : Obj) : OwnI (w.alloc o) g l := (Below.heap_alloc w o g h.lt).trans h
theorem OwnI.drew (h : OwnI w g l) : OwnI w.drew g l := h
theorem OwnI.drewN (h : OwnI w g l) (n : Nat) : OwnI (w.drewN n) g l := h
theorem OwnI.below {B : Nat} (h : OwnI w g l) (hb : Below B w w') (hg : g < B) : OwnI w' g l := (hb.block g hg).trans h
theorem OwnI.low (h : OwnI w g l) (hb : Below w.heap.size w w') : OwnI w' g l := h.below hb h.lt
theorem OwnI.sl (h : OwnI w g l) {c : Nat} (h1 : l.length ≤ c) (h2 : c ≤ maxLen) : Sl w (.slice (some ⟨g, 0, none⟩) l.length c) (i64s l) := by
 refine ⟨some ⟨g, 0, none⟩, c, by rw [i64s_length], by rw [i64s_length]; exact h1, h2, fun _ => ⟨g, 0, rfl, fun j u hu => ?_⟩⟩
 rw [Nat.zero_add, cell_of_row w g j _ _ (0, 0) h, List.getElem?_toArray]
 exact hu
theorem OwnI.made (w : World) (n : Nat) : OwnI (w.alloc (.cells (madeCells #[.int .i64 0] n) 3)) w.heap.size (List.replicate n 0) := by
 unfold OwnI
 rw [madeCells_rep, heap_alloc_new]
 simp [i64s]
end
def LI (w : World) (v : Value) (xs : List Int) : Prop := Sl w v (i64s xs) ∧ xs.length ≤ maxLen ∧ ∀ x ∈ xs, -9223372036854775808 ≤ x ∧ x ≤ 9223372036854775807
theorem LI.form {w : World} {v : Value} {xs : List Int} (h : LI w v xs) : ∃ A c, v = .slice A xs.length c := by
 obtain ⟨⟨A, c, e, -⟩, -⟩ := h
 exact ⟨A, c, by rw [e, i64s_length]⟩
theorem LI.at_ {w : World} {A : Option Addr} {c n : Nat} {xs : List Int} (h : LI w (.slice A n c) xs) (hn : 0 < xs.length) :
  ∃ b o, A = some ⟨b, o, none⟩ ∧ ∀ j, j < xs.length → w.cell? ⟨b, o + j, none⟩ = some (.int .i64 (xs[j]?.getD 0)) := by
 obtain ⟨⟨A', c', e, h1, h2, h3⟩, -⟩ := h
 injection e with e1 e2 e3
 subst e1
 obtain ⟨b, o, e, h4⟩ := h3 (by rw [i64s_length]; exact hn)
 exact ⟨b, o, e, fun j hj => h4 j _ (i64s_at hj)⟩
theorem LI.len {w : World} {A : Option Addr} {c n : Nat} {xs : List Int} (h : LI w (.slice A n c) xs) : n = xs.length := by
 obtain ⟨h1, -⟩ := h
 rw [h1.len_, i64s_length]
end Go.Proofs.YtkcdgaijklhnaaaGreatDoor
