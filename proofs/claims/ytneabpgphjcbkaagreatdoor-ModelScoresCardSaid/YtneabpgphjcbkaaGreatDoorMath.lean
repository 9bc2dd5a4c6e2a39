/-
  Plain arithmetic, no program in sight: numbers as lists of digits to a base, the lowest first, without zeros at the end.
-/
namespace Go.Proofs.YtneabpgphjcbkaaGreatDoor.Mth

/-- the number that digits to the base b stand for -/
def val (b : Nat) : List Nat → Nat
  | [] => 0
  | d :: l => d + b * val b l

/-- the digits of n to the base b, the lowest first, without zeros at the end -/
def dg (b n : Nat) : List Nat :=
  if _h : n = 0 ∨ b < 2 then [] else (n % b) :: dg b (n / b)
termination_by n
decreasing_by exact Nat.div_lt_self (by omega) (by omega)

theorem dg_zero (b : Nat) : dg b 0 = [] := by rw [dg, dif_pos (.inl rfl)]
theorem dg_pos {b n : Nat} (hb : 2 ≤ b) (hn : 0 < n) : dg b n = (n % b) :: dg b (n / b) := by
  rw [dg, dif_neg (by omega)]

theorem val_dg {b : Nat} (hb : 2 ≤ b) : ∀ n, val b (dg b n) = n := by
  intro n
  induction n using Nat.strongRecOn with
  | _ n ih =>
    by_cases hn : n = 0
    · subst hn; rw [dg_zero]; rfl
    · rw [dg_pos hb (by omega)]
      simp only [val]
      rw [ih (n / b) (Nat.div_lt_self (by omega) (by omega))]
      exact Nat.mod_add_div n b

theorem dg_lt {b : Nat} (hb : 2 ≤ b) : ∀ n, ∀ d ∈ dg b n, d < b := by
  intro n
  induction n using Nat.strongRecOn with
  | _ n ih =>
    intro d hd
    by_cases hn : n = 0
    · subst hn; rw [dg_zero] at hd; cases hd
    · rw [dg_pos hb (by omega)] at hd
      rcases List.mem_cons.1 hd with rfl | hd
      · exact Nat.mod_lt _ (by omega)
      · exact ih _ (Nat.div_lt_self (by omega) (by omega)) d hd

theorem dg_ne_nil {b n : Nat} (hb : 2 ≤ b) (hn : 0 < n) : dg b n ≠ [] := by rw [dg_pos hb hn]; simp

theorem dg_eq_nil {b n : Nat} (hb : 2 ≤ b) : dg b n = [] ↔ n = 0 := by
  constructor
  · intro h; rcases Nat.eq_zero_or_pos n with h0 | h0
    · exact h0
    · exact absurd h (dg_ne_nil hb h0)
  · rintro rfl; exact dg_zero b

theorem dg_last {b : Nat} (hb : 2 ≤ b) : ∀ n, (dg b n).getLast? ≠ some 0 := by
  intro n
  induction n using Nat.strongRecOn with
  | _ n ih =>
    by_cases hn : n = 0
    · subst hn; rw [dg_zero]; simp
    · rw [dg_pos hb (by omega)]
      by_cases hq : n / b = 0
      · rw [hq, dg_zero]
        have : n < b := by
          rcases Nat.lt_or_ge n b with h | h
          · exact h
          · have := Nat.div_pos h (by omega); omega
        rw [Nat.mod_eq_of_lt this]
        simpa using hn
      · have h := ih (n / b) (Nat.div_lt_self (by omega) (by omega))
        have hne := dg_ne_nil (b := b) hb (n := n / b) (Nat.pos_of_ne_zero hq)
        obtain ⟨x, l, hl⟩ : ∃ x l, dg b (n / b) = x :: l := by
          cases e : dg b (n / b) with
          | nil => exact absurd e hne
          | cons x l => exact ⟨x, l, rfl⟩
        rw [hl] at h ⊢
        rwa [List.getLast?_cons_cons]

/-- digits that are small and have no zero at the end are the digits of their number -/
theorem dg_val {b : Nat} (hb : 2 ≤ b) : ∀ l : List Nat, (∀ d ∈ l, d < b) → l.getLast? ≠ some 0 → dg b (val b l) = l
  | [], _, _ => by simp only [val]; exact dg_zero b
  | d :: l, h1, h2 => by
    have hd : d < b := h1 d (by simp)
    have hl : l.getLast? ≠ some 0 := by
      cases l with
      | nil => simp
      | cons x l => rwa [List.getLast?_cons_cons] at h2
    have ih := dg_val hb l (fun x hx => h1 x (by simp [hx])) hl
    have hpos : 0 < val b (d :: l) := by
      simp only [val]
      cases l with
      | nil => have : d ≠ 0 := by simpa using h2
               omega
      | cons x l =>
        have hv : val b (x :: l) ≠ 0 := by
          intro h0; rw [h0, dg_zero] at ih; cases ih
        have : 0 < b * val b (x :: l) := Nat.mul_pos (by omega) (by omega)
        omega
    rw [dg_pos hb hpos]
    simp only [val]
    rw [Nat.add_mul_mod_self_left, Nat.mod_eq_of_lt hd, Nat.add_mul_div_left _ _ (by omega), Nat.div_eq_of_lt hd, Nat.zero_add, ih]

theorem val_append (b : Nat) : ∀ l m : List Nat, val b (l ++ m) = val b l + b ^ l.length * val b m
  | [], m => by simp [val]
  | d :: l, m => by
    simp only [List.cons_append, val, val_append b l m, List.length_cons, Nat.pow_succ]
    rw [Nat.mul_add, Nat.add_assoc, ← Nat.mul_assoc, Nat.mul_comm b (b ^ _)]

theorem val_lt {b : Nat} (hb : 1 ≤ b) : ∀ l : List Nat, (∀ d ∈ l, d < b) → val b l < b ^ l.length
  | [], _ => by simp [val]
  | d :: l, h => by
    have hd : d < b := h d (by simp)
    have ih := val_lt hb l (fun x hx => h x (by simp [hx]))
    simp only [val, List.length_cons, Nat.pow_succ]
    have : b * (val b l + 1) ≤ b * b ^ l.length := Nat.mul_le_mul_left _ ih
    rw [Nat.mul_comm (b ^ _)]
    rw [Nat.mul_add] at this
    omega

theorem val_snoc (b : Nat) (l : List Nat) (d : Nat) : val b (l ++ [d]) = val b l + b ^ l.length * d := by
  rw [val_append]; simp [val]

/-- without the zeros at the end -/
def tidy (l : List Nat) : List Nat := (l.reverse.dropWhile (· == 0)).reverse

theorem tidy_snoc_zero (l : List Nat) : tidy (l ++ [0]) = tidy l := by simp [tidy]
theorem tidy_snoc {l : List Nat} {d : Nat} (h : d ≠ 0) : tidy (l ++ [d]) = l ++ [d] := by simp [tidy, h]
theorem tidy_nil : tidy [] = [] := rfl
theorem tidy_last (l : List Nat) (h : l.getLast? ≠ some 0) : tidy l = l := by
  rcases List.eq_nil_or_concat l with rfl | ⟨l', d, rfl⟩
  · rfl
  · simp only [List.concat_eq_append, List.getLast?_append, List.getLast?_singleton, Option.some_or] at h
    rw [List.concat_eq_append, tidy_snoc (by simpa using h)]

theorem val_tidy (b : Nat) : ∀ (n : Nat) (l : List Nat), l.length = n → val b (tidy l) = val b l
  | 0, l, h => by rw [List.eq_nil_of_length_eq_zero h]; rfl
  | n + 1, l, h => by
    rcases List.eq_nil_or_concat l with rfl | ⟨l', d, rfl⟩
    · simp at h
    · rw [List.concat_eq_append] at h ⊢
      by_cases hd : d = 0
      · subst hd
        rw [tidy_snoc_zero, val_tidy b n l' (by simpa using h), val_snoc]; simp
      · rw [tidy_snoc hd]

theorem tidy_no_last : ∀ (n : Nat) (l : List Nat), l.length = n → (tidy l).getLast? ≠ some 0
  | 0, l, h => by rw [List.eq_nil_of_length_eq_zero h]; simp [tidy]
  | n + 1, l, h => by
    rcases List.eq_nil_or_concat l with rfl | ⟨l', d, rfl⟩
    · simp at h
    · rw [List.concat_eq_append] at h ⊢
      by_cases hd : d = 0
      · subst hd
        rw [tidy_snoc_zero]; exact tidy_no_last n l' (by simpa using h)
      · rw [tidy_snoc hd]; simpa using hd

theorem tidy_prefix : ∀ (n : Nat) (l : List Nat), l.length = n → tidy l <+: l
  | 0, l, h => by rw [List.eq_nil_of_length_eq_zero h]; exact ⟨[], rfl⟩
  | n + 1, l, h => by
    rcases List.eq_nil_or_concat l with rfl | ⟨l', d, rfl⟩
    · simp at h
    · rw [List.concat_eq_append] at h ⊢
      by_cases hd : d = 0
      · subst hd
        rw [tidy_snoc_zero]
        obtain ⟨t, ht⟩ := tidy_prefix n l' (by simpa using h)
        exact ⟨t ++ [0], by rw [← List.append_assoc, ht]⟩
      · rw [tidy_snoc hd]; exact ⟨[], by simp⟩

theorem tidy_eq_take (l : List Nat) : tidy l = l.take (tidy l).length := by
  obtain ⟨t, ht⟩ := tidy_prefix _ l rfl
  conv => rhs; arg 2; rw [← ht]
  simp

theorem tidy_len (l : List Nat) : (tidy l).length ≤ l.length := (tidy_prefix _ l rfl).length_le

theorem tidy_mem {l : List Nat} {d : Nat} (h : d ∈ tidy l) : d ∈ l := (tidy_prefix _ l rfl).subset h

/-- tidied digits are the digits of their number -/
theorem tidy_eq {b : Nat} (hb : 2 ≤ b) (l : List Nat) (h : ∀ d ∈ l, d < b) : tidy l = dg b (val b l) := by
  rw [← val_tidy b _ l rfl, dg_val hb (tidy l) (fun d hd => h d (tidy_mem hd)) (tidy_no_last _ l rfl)]

theorem dg_len_le {b : Nat} (hb : 2 ≤ b) : ∀ (k n : Nat), n < b ^ k → (dg b n).length ≤ k
  | 0, n, h => by
    have : n = 0 := by simpa using h
    subst this; rw [dg_zero]; simp
  | k + 1, n, h => by
    by_cases hn : n = 0
    · subst hn; rw [dg_zero]; simp
    · rw [dg_pos hb (by omega)]
      have := dg_len_le hb k (n / b) (by
        rw [Nat.pow_succ] at h
        exact Nat.div_lt_of_lt_mul (by rw [Nat.mul_comm]; exact h))
      simp; omega

theorem lt_pow_dg {b : Nat} (hb : 2 ≤ b) (n : Nat) : n < b ^ (dg b n).length := by
  have := val_lt (b := b) (by omega) (dg b n) (dg_lt hb n)
  rwa [val_dg hb] at this

/-- more digits, a greater number -/
theorem lt_of_len {b m n : Nat} (hb : 2 ≤ b) (h : (dg b m).length < (dg b n).length) : m < n := by
  rcases Nat.lt_or_ge m n with h1 | h1
  · exact h1
  · have := dg_len_le hb (dg b m).length n (Nat.lt_of_le_of_lt h1 (lt_pow_dg hb m))
    omega

theorem dg_one {b n : Nat} (hb : 2 ≤ b) (h0 : 0 < n) (h : n < b) : dg b n = [n] := by
  rw [dg_pos hb h0, Nat.mod_eq_of_lt h, Nat.div_eq_of_lt h, dg_zero]

theorem dg_inj {b m n : Nat} (hb : 2 ≤ b) (h : dg b m = dg b n) : m = n := by
  rw [← val_dg hb m, h, val_dg hb]

theorem val_replicate_zero (b : Nat) : ∀ n, val b (List.replicate n 0) = 0
  | 0 => rfl
  | n + 1 => by simp [List.replicate_succ, val, val_replicate_zero b n]

theorem pow_le_of_dg {b n : Nat} (hb : 2 ≤ b) (hn : 0 < n) : b ^ ((dg b n).length - 1) ≤ n := by
  rcases Nat.lt_or_ge n (b ^ ((dg b n).length - 1)) with h | h
  · have := dg_len_le hb _ n h
    have h1 : (dg b n).length ≠ 0 := fun h0 => dg_ne_nil hb hn (List.eq_nil_of_length_eq_zero h0)
    omega
  · exact h

theorem val_split (b : Nat) (l : List Nat) (q : Nat) (h : q < l.length) : val b l = val b (l.take q) + b ^ q * (l[q]?.getD 0 + b * val b (l.drop (q + 1))) := by
  have e : l = l.take q ++ (l[q] :: l.drop (q + 1)) := by rw [List.getElem_cons_drop, List.take_append_drop]
  conv => lhs; rw [e]
  rw [val_append, List.length_take, Nat.min_eq_left (Nat.le_of_lt h), List.getElem?_eq_getElem h]
  rfl

theorem val_lt_of {b : Nat} (hb : 1 ≤ b) {la lb : List Nat} {q : Nat} (ha : q < la.length) (hl : q < lb.length) (hd : la.drop (q + 1) = lb.drop (q + 1)) (hx : ∀ d ∈ la, d < b)
    (hlt : la[q]?.getD 0 < lb[q]?.getD 0) : val b la < val b lb := by
  rw [val_split b la q ha, val_split b lb q hl, hd]
  have h1 := val_lt hb (la.take q) (fun d hd => hx d (List.mem_of_mem_take hd))
  rw [List.length_take, Nat.min_eq_left (Nat.le_of_lt ha)] at h1
  have h2 : b ^ q * (la[q]?.getD 0 + 1 + b * val b (lb.drop (q + 1))) ≤ b ^ q * (lb[q]?.getD 0 + b * val b (lb.drop (q + 1))) := Nat.mul_le_mul_left _ (by omega)
  rw [Nat.add_right_comm, Nat.mul_add, Nat.mul_one] at h2
  omega

theorem getD_lt {l : List Nat} {b : Nat} (hb : 0 < b) (h : ∀ d ∈ l, d < b) (q : Nat) : l[q]?.getD 0 < b := by
  rcases Nat.lt_or_ge q l.length with h1 | h1
  · rw [List.getElem?_eq_getElem h1]; exact h _ (List.getElem_mem h1)
  · rw [List.getElem?_eq_none h1]; exact hb

/-- small digits of a number that is great enough for their count are its digits -/
theorem dg_of_ge {b : Nat} (hb : 2 ≤ b) (l : List Nat) (h : ∀ d ∈ l, d < b) (hv : l = [] ∨ b ^ (l.length - 1) ≤ val b l) : l = dg b (val b l) := by
  rcases hv with rfl | hv
  · simp [val, dg_zero]
  · have h1 := tidy_eq hb l h
    have h2 := tidy_eq_take l
    have h3 := tidy_len l
    rcases Nat.lt_or_ge (tidy l).length l.length with h4 | h4
    · have h5 := lt_pow_dg hb (val b l)
      rw [← h1] at h5
      have : b ^ (tidy l).length ≤ b ^ (l.length - 1) := Nat.pow_le_pow_right (by omega) (by omega)
      omega
    · rw [← h1, h2, List.take_of_length_le (by omega)]

theorem val_take_succ (b : Nat) (l : List Nat) (k : Nat) (h : k < l.length) : val b (l.take (k + 1)) = val b (l.take k) + b ^ k * l[k]?.getD 0 := by
  rw [List.take_add_one, List.getElem?_eq_getElem h]
  simp only [Option.toList_some, Option.getD_some]
  rw [val_snoc, List.length_take, Nat.min_eq_left (by omega)]

theorem val_take_ge (b : Nat) (l : List Nat) (k : Nat) (h : l.length ≤ k) : val b (l.take (k + 1)) = val b (l.take k) := by
  rw [List.take_of_length_le (by omega), List.take_of_length_le h]

/-- one column of a sum -/
theorem add_step (b : Nat) (P va vb o c x y s : Nat) (_hb : 0 < b) (h : o + P * c = va + vb) (hs : s = x + c + y) : o + P * (s % b) + P * b * (s / b) = va + P * x + (vb + P * y) := by
  have e : P * s = P * (s % b) + P * b * (s / b) := by
    rw [Nat.mul_assoc, ← Nat.mul_add, Nat.mod_add_div]
  have e2 : P * s = P * x + P * c + P * y := by rw [hs, Nat.mul_add, Nat.mul_add]
  omega

theorem take_set_succ (l : List Nat) (k x : Nat) (h : k < l.length) : (l.set k x).take (k + 1) = l.take k ++ [x] := by
  rw [List.take_add_one, List.take_set_of_le (Nat.le_refl k), List.getElem?_set_self h]
  rfl

/-- one column of a difference -/
theorem sub_step (b P vo vb va c x y d e : Nat) (h : vo + vb = va + P * c) (hd : d + (c + y) = x + b * e) : vo + P * d + (vb + P * y) = va + P * x + P * b * e := by
  have e1 : P * d + P * c + P * y = P * x + P * b * e := by
    rw [← Nat.mul_add, ← Nat.mul_add, Nat.mul_assoc, ← Nat.mul_add, Nat.add_assoc, hd]
  omega

theorem val_set (b : Nat) : ∀ (l : List Nat) (p d : Nat), p < l.length → val b (l.set p d) + b ^ p * l[p]?.getD 0 = val b l + b ^ p * d
  | [], p, d, h => by simp at h
  | x :: l, 0, d, _ => by simp [val]; omega
  | x :: l, p + 1, d, h => by
    have ih := val_set b l p d (by simpa using h)
    simp only [List.set_cons_succ, val, List.getElem?_cons_succ, Nat.pow_succ, Nat.mul_comm _ b, Nat.mul_assoc]
    rw [Nat.add_assoc, ← Nat.mul_add, ih, Nat.mul_add, ← Nat.add_assoc]

/-- one column of a product's row -/
theorem mul_step (b vL vL' v0 S i k z c x y t : Nat) (h : vL + b ^ (i + k) * c = v0 + b ^ i * (x * S)) (hs : vL' + b ^ (i + k) * z = vL + b ^ (i + k) * (t % b)) (ht : t = x * y + z + c) :
    vL' + b ^ (i + (k + 1)) * (t / b) = v0 + b ^ i * (x * (S + b ^ k * y)) := by
  have e1 : b ^ (i + (k + 1)) * (t / b) + b ^ (i + k) * (t % b) = b ^ (i + k) * t := by
    rw [← Nat.add_assoc, Nat.pow_succ, Nat.mul_assoc, ← Nat.mul_add, Nat.add_comm (b * _), Nat.mod_add_div]
  have e2 : b ^ (i + k) * t = b ^ (i + k) * (x * y) + b ^ (i + k) * z + b ^ (i + k) * c := by rw [ht, Nat.mul_add, Nat.mul_add]
  have e3 : b ^ i * (x * (S + b ^ k * y)) = b ^ i * (x * S) + b ^ (i + k) * (x * y) := by
    rw [Nat.mul_add, Nat.mul_add, Nat.pow_add, Nat.mul_left_comm x, Nat.mul_assoc]
  omega

theorem set_get_other {l : List Nat} {p j d : Nat} (h : j ≠ p) : (l.set p d)[j]?.getD 0 = l[j]?.getD 0 := by
  rw [List.getElem?_set_ne (Ne.symm h)]

theorem mem_set_lt {l : List Nat} {b p d : Nat} (h : ∀ x ∈ l, x < b) (hd : d < b) : ∀ x ∈ l.set p d, x < b := by
  intro x hx
  rcases List.mem_or_eq_of_mem_set hx with h1 | h1
  · exact h x h1
  · omega

theorem val_drop (b : Nat) (l : List Nat) (q : Nat) (h : q < l.length) : val b (l.drop q) = l[q]?.getD 0 + b * val b (l.drop (q + 1)) := by
  rw [List.drop_eq_getElem_cons h, List.getElem?_eq_getElem h]; rfl

theorem drop_set_self (l : List Nat) (q x : Nat) (h : q < l.length) : (l.set q x).drop q = x :: l.drop (q + 1) := by
  rw [List.drop_eq_getElem_cons (by simpa using h), List.getElem_set_self, List.drop_set_of_lt (by omega)]

/-- one step of a division by a digit -/
theorem short_step (b by' A Q r a t : Nat) (h : A = by' * Q + r) (ht : t = r * b + a) : a + b * A = by' * (t / by' + b * Q) + t % by' := by
  have e := Nat.div_add_mod t by'
  rw [h, Nat.mul_add, Nat.mul_add, Nat.mul_left_comm b by', Nat.mul_comm b r]
  omega

/-- one column of a product with a digit -/
theorem scale_step (b P vL va c x m t : Nat) (h : vL + P * c = va * m) (ht : t = c + x * m) : vL + P * (t % b) + P * b * (t / b) = (va + P * x) * m := by
  have e : P * (t % b) + P * b * (t / b) = P * t := by rw [Nat.mul_assoc, ← Nat.mul_add, Nat.mod_add_div]
  have e2 : P * t = P * c + P * x * m := by rw [ht, Nat.mul_add, Nat.mul_assoc]
  rw [Nat.add_mul]
  omega

theorem getD_of_drop {l m : List Nat} {k : Nat} (h : l.drop k = m.drop k) : l[k]?.getD 0 = m[k]?.getD 0 := by
  have := congrArg (fun x : List Nat => x[0]?.getD 0) h
  simpa using this

theorem drop_set_succ (l : List Nat) (k x : Nat) : (l.set k x).drop (k + 1) = l.drop (k + 1) := by
  rw [List.drop_set_of_lt (by omega)]

theorem drop_succ_of {l m : List Nat} {k : Nat} (h : l.drop k = m.drop k) : l.drop (k + 1) = m.drop (k + 1) := by
  have := congrArg (List.drop 1) h
  simpa using this

/-- one column of a difference with a multiple -/
theorem less_step (b P vW vU vV q c x y t d e : Nat) (h : vW + q * vV = vU + P * c) (ht : t = c + q * y) (hd : d + t % b = x + b * e) :
    vW + P * d + q * (vV + P * y) = vU + P * x + P * b * (t / b + e) := by
  have h1 : P * d + P * (t % b) = P * x + P * b * e := by rw [← Nat.mul_add, hd, Nat.mul_add, Nat.mul_assoc]
  have h2 : P * b * (t / b) + P * (t % b) = P * c + P * (q * y) := by
    rw [Nat.mul_assoc, ← Nat.mul_add, Nat.add_comm (b * _), Nat.mod_add_div, ht, Nat.mul_add]
  have h3 : q * (vV + P * y) = q * vV + P * (q * y) := by rw [Nat.mul_add, Nat.mul_left_comm]
  rw [h3, Nat.mul_add]
  omega

/-! ### the digit of a quotient -/
theorem val_top3 {b : Nat} (hb : 1 ≤ b) {l : List Nat} {m : Nat} (hl : l.length = m + 3) (h : ∀ d ∈ l, d < b) :
    ∃ low, low < b ^ m ∧ val b l = low + b ^ m * (l[m]?.getD 0 + b * (l[m + 1]?.getD 0 + b * l[m + 2]?.getD 0)) := by
  refine ⟨val b (l.take m), ?_, ?_⟩
  · have := val_lt hb (l.take m) (fun d hd => h d (List.mem_of_mem_take hd))
    rwa [List.length_take, Nat.min_eq_left (by omega)] at this
  · rw [val_split b l m (by omega), val_drop b l (m + 1) (by omega), val_drop b l (m + 2) (by omega), List.drop_eq_nil_of_le (by omega)]
    simp [val]
theorem val_top2 {b : Nat} (hb : 1 ≤ b) {l : List Nat} {m : Nat} (hl : l.length = m + 2) (h : ∀ d ∈ l, d < b) :
    ∃ low, low < b ^ m ∧ val b l = low + b ^ m * (l[m]?.getD 0 + b * l[m + 1]?.getD 0) := by
  refine ⟨val b (l.take m), ?_, ?_⟩
  · have := val_lt hb (l.take m) (fun d hd => h d (List.mem_of_mem_take hd))
    rwa [List.length_take, Nat.min_eq_left (by omega)] at this
  · rw [val_split b l m (by omega), val_drop b l (m + 1) (by omega), List.drop_eq_nil_of_le (by omega)]
    simp [val]

section
variable {b M ul vl u0 u1 u2 v1 v2 : Nat}
/-- a trial digit that is too great, or not, by the three highest digits -/
theorem knuth_lt (hul : ul < M) {q r : Nat} (hq : q * v1 + r = u0 * b + u1) (h : r * b + u2 < q * v2) :
    (ul + M * (u2 + b * (u1 + b * u0))) / (vl + M * (v2 + b * v1)) < q := by
  rcases Nat.eq_zero_or_pos (vl + M * (v2 + b * v1)) with h0 | h0
  · rw [h0, Nat.div_zero]
    rcases Nat.eq_zero_or_pos q with h1 | h1
    · subst h1; omega
    · exact h1
  · rw [Nat.div_lt_iff_lt_mul h0]
    have e1 : u2 + b * (u1 + b * u0) = u2 + b * (q * v1) + r * b := by
      rw [Nat.add_comm u1, Nat.mul_comm b u0, ← hq, Nat.mul_add, Nat.mul_comm b r]; omega
    have e2 : u2 + b * (q * v1) + r * b + 1 ≤ q * (v2 + b * v1) := by
      rw [Nat.mul_add, Nat.mul_left_comm q b v1]; omega
    have e3 : M * (u2 + b * (q * v1) + r * b + 1) ≤ M * (q * (v2 + b * v1)) := Nat.mul_le_mul_left _ e2
    have e4 : q * (vl + M * (v2 + b * v1)) = q * vl + M * (q * (v2 + b * v1)) := by rw [Nat.mul_add, Nat.mul_left_comm q M]
    rw [e1, e4]
    rw [Nat.mul_add, Nat.mul_one] at e3
    omega

theorem knuth_ge (hvl : vl < M) (hb : 0 < b) (hv1 : 0 < v1) {q r : Nat} (hqb : q ≤ b) (hq : q * v1 + r = u0 * b + u1) (h : q * v2 ≤ r * b + u2) :
    q ≤ (ul + M * (u2 + b * (u1 + b * u0))) / (vl + M * (v2 + b * v1)) + 1 := by
  have hM : 0 < M := by omega
  have h0 : 0 < vl + M * (v2 + b * v1) := by
    have : 0 < M * (v2 + b * v1) := Nat.mul_pos hM (by have := Nat.mul_pos hb hv1; omega)
    omega
  rcases Nat.eq_zero_or_pos q with h1 | h1
  · rw [h1]; exact Nat.zero_le _
  · obtain ⟨p, rfl⟩ : ∃ p, q = p + 1 := ⟨q - 1, by omega⟩
    have : p ≤ (ul + M * (u2 + b * (u1 + b * u0))) / (vl + M * (v2 + b * v1)) := by
      rw [Nat.le_div_iff_mul_le h0]
      have e1 : u2 + b * (u1 + b * u0) = u2 + b * ((p + 1) * v1) + r * b := by
        rw [Nat.add_comm u1, Nat.mul_comm b u0, ← hq, Nat.mul_add, Nat.mul_comm b r]; omega
      have e2 : (p + 1) * (v2 + b * v1) ≤ u2 + b * ((p + 1) * v1) + r * b := by
        rw [Nat.mul_add, Nat.mul_left_comm (p + 1) b v1]; omega
      have e3 : M * ((p + 1) * (v2 + b * v1)) ≤ M * (u2 + b * ((p + 1) * v1) + r * b) := Nat.mul_le_mul_left _ e2
      have e4 : p * (vl + M * (v2 + b * v1)) + (vl + M * (v2 + b * v1)) = (p + 1) * vl + M * ((p + 1) * (v2 + b * v1)) := by
        rw [← Nat.succ_mul, Nat.succ_eq_add_one, Nat.mul_add, Nat.mul_left_comm (p + 1) M]
      have e5 : (p + 1) * vl ≤ b * M := Nat.mul_le_mul hqb (Nat.le_of_lt hvl)
      have e6 : b * M ≤ M * (v2 + b * v1) := by
        rw [Nat.mul_comm b M]
        refine Nat.mul_le_mul_left _ ?_
        have : b * 1 ≤ b * v1 := Nat.mul_le_mul_left _ hv1
        omega
      rw [e1]
      omega
    exact Nat.succ_le_succ this

theorem knuth_first (hul : ul < M) (hv1 : 0 < v1) : (ul + M * (u2 + b * (u1 + b * u0))) / (vl + M * (v2 + b * v1)) ≤ (u0 * b + u1) / v1 ∨ b ≤ u2 := by
  rcases Nat.lt_or_ge u2 b with hu2 | hu2
  · left
    rw [Nat.le_div_iff_mul_le hv1]
    rcases Nat.eq_zero_or_pos (vl + M * (v2 + b * v1)) with h0 | h0
    · rw [h0, Nat.div_zero]; omega
    · have h1 := Nat.div_mul_le_self (ul + M * (u2 + b * (u1 + b * u0))) (vl + M * (v2 + b * v1))
      generalize (ul + M * (u2 + b * (u1 + b * u0))) / (vl + M * (v2 + b * v1)) = Q at h1 ⊢
      rcases Nat.lt_or_ge (u0 * b + u1) (Q * v1) with h2 | h2
      · exfalso
        have e1 : b * (u0 * b + u1 + 1) ≤ b * (Q * v1) := Nat.mul_le_mul_left _ h2
        have e2 : u2 + b * (u1 + b * u0) + 1 ≤ Q * (v2 + b * v1) := by
          have e5 : Q * (v2 + b * v1) = Q * v2 + b * (Q * v1) := by rw [Nat.mul_add, Nat.mul_left_comm]
          have e6 : u1 + b * u0 = u0 * b + u1 := by rw [Nat.add_comm u1, Nat.mul_comm b u0]
          rw [e5, e6]
          rw [Nat.mul_add, Nat.mul_one] at e1
          omega
        have e3 : M * (u2 + b * (u1 + b * u0) + 1) ≤ M * (Q * (v2 + b * v1)) := Nat.mul_le_mul_left _ e2
        have e4 : Q * (vl + M * (v2 + b * v1)) = Q * vl + M * (Q * (v2 + b * v1)) := by rw [Nat.mul_add, Nat.mul_left_comm Q M]
        rw [e4] at h1
        rw [Nat.mul_add, Nat.mul_one] at e3
        omega
      · exact h2
  · exact Or.inr hu2
end

/-- two rests that agree up to multiples -/
theorem same_rest {a c M x y : Nat} (ha : a < M) (hc : c < M) (h : a + M * x = c + M * y) : a = c := by
  have h1 := congrArg (· % M) h
  simpa [Nat.add_mul_mod_self_left, Nat.mod_eq_of_lt ha, Nat.mod_eq_of_lt hc] using h1

theorem digit_neg {M vW vW2 vU vV q Q cy cy2 : Nat} (hQ : vU / vV = Q) (hV : 0 < vV) (h1 : vW + q * vV = vU + M * cy) (hcy : 0 < cy) (hW : vW < M) (hW2 : vW2 < M) (hVM : vV ≤ M) (hq : q ≤ Q + 1)
    (h2 : vW2 + M * cy2 = vW + vV) : q = Q + 1 ∧ vW2 = vU % vV := by
  have h3 : M * 1 ≤ M * cy := Nat.mul_le_mul_left _ hcy
  have h4 : vU < q * vV := by omega
  have h5 : Q < q := by rw [← hQ]; exact (Nat.div_lt_iff_lt_mul hV).2 h4
  obtain rfl : q = Q + 1 := by omega
  refine ⟨rfl, ?_⟩
  have h6 := Nat.div_add_mod vU vV
  rw [hQ] at h6
  rw [Nat.succ_mul, Nat.mul_comm Q] at h1
  refine same_rest (x := cy2) (y := cy) hW2 (Nat.lt_of_lt_of_le (Nat.mod_lt _ hV) hVM) ?_
  omega

theorem digit_pos {vW vU vV q Q : Nat} (hQ : vU / vV = Q) (hV : 0 < vV) (h1 : vW + q * vV = vU) (hq : Q ≤ q) : q = Q ∧ vW = vU % vV := by
  have h5 : q ≤ Q := by rw [← hQ]; exact (Nat.le_div_iff_mul_le hV).2 (by omega)
  obtain rfl : q = Q := by omega
  refine ⟨rfl, ?_⟩
  have h6 := Nat.div_add_mod vU vV
  rw [hQ] at h6
  rw [Nat.mul_comm q] at h1
  omega

/-! ### the long division's rounds -/
theorem cut3 (l : List Nat) (q k : Nat) : l.take q ++ (l.drop q).take k ++ l.drop (q + k) = l := by
  rw [List.append_assoc, ← List.drop_drop, List.take_append_drop, List.take_append_drop]

theorem val_cut3 (b : Nat) (l : List Nat) (q k : Nat) (h : q + k ≤ l.length) : val b l = val b (l.take q) + b ^ q * (val b ((l.drop q).take k) + b ^ k * val b (l.drop (q + k))) := by
  conv => lhs; rw [← cut3 l q k]
  rw [List.append_assoc, val_append, val_append, List.length_take, List.length_take, List.length_drop, Nat.min_eq_left (by omega), Nat.min_eq_left (by omega)]

/-- what a round may assume -/
theorem div_pre {b : Nat} (hb : 2 ≤ b) {U : List Nat} {V nb q : Nat} (hl : q + (nb + 1) ≤ U.length) (hV : V < b ^ nb) (hU : val b U < V * b ^ (q + 1)) :
    val b ((U.drop q).take (nb + 1)) < b * V ∧ val b (U.drop (q + (nb + 1))) = 0 := by
  have hc := val_cut3 b U q (nb + 1) hl
  have hpos : 0 < b ^ q := Nat.pow_pos (by omega)
  constructor
  · have h1 : b ^ q * val b ((U.drop q).take (nb + 1)) < b ^ q * (b * V) := by
      have e : V * b ^ (q + 1) = b ^ q * (b * V) := by rw [Nat.pow_succ, Nat.mul_comm V, Nat.mul_assoc]
      rw [← e]
      rw [Nat.mul_add] at hc
      omega
    exact Nat.lt_of_mul_lt_mul_left h1
  · rcases Nat.eq_zero_or_pos (val b (U.drop (q + (nb + 1)))) with h | h
    · exact h
    · exfalso
      have h2 : b ^ q * (b ^ (nb + 1) * 1) ≤ b ^ q * (b ^ (nb + 1) * val b (U.drop (q + (nb + 1)))) := Nat.mul_le_mul_left _ (Nat.mul_le_mul_left _ h)
      have h3 : V * b ^ (q + 1) ≤ b ^ q * (b ^ (nb + 1) * 1) := by
        rw [Nat.mul_one, Nat.pow_succ, Nat.pow_succ, Nat.mul_comm V, Nat.mul_assoc, Nat.mul_comm (b ^ nb)]
        exact Nat.mul_le_mul_left _ (Nat.mul_le_mul_left _ (Nat.le_of_lt hV))
      rw [Nat.mul_add] at hc
      omega

theorem div_round {b A V q nb : Nat} {U W O : List Nat} (hb : 2 ≤ b) (hl : q + (nb + 1) ≤ U.length) (hdU : ∀ d ∈ U, d < b) (hq : q < O.length) (hV0 : 0 < V) (hS : val b (U.drop (q + (nb + 1))) = 0)
    (hA : A = V * b ^ (q + 1) * val b (O.drop (q + 1)) + val b U) (hW : W.length = nb + 1) (hWv : val b W = val b ((U.drop q).take (nb + 1)) % V) :
    A = V * b ^ q * val b ((O.set q (val b ((U.drop q).take (nb + 1)) / V)).drop q) + val b (U.take q ++ W ++ U.drop (q + (nb + 1))) ∧ val b (U.take q ++ W ++ U.drop (q + (nb + 1))) < V * b ^ q := by
  have hc := val_cut3 b U q (nb + 1) hl
  rw [hS, Nat.mul_zero, Nat.add_zero] at hc
  have hU' : val b (U.take q ++ W ++ U.drop (q + (nb + 1))) = val b (U.take q) + b ^ q * val b W := by
    rw [List.append_assoc, val_append, val_append, hS, Nat.mul_zero, Nat.add_zero, List.length_take, Nat.min_eq_left (by omega)]
  have hP : val b (U.take q) < b ^ q := by
    have := val_lt (b := b) (by omega) (U.take q) (fun d hd => hdU d (List.mem_of_mem_take hd))
    rwa [List.length_take, Nat.min_eq_left (by omega)] at this
  generalize val b ((U.drop q).take (nb + 1)) = M at *
  constructor
  · rw [hU', hWv, drop_set_self _ _ _ hq, hA, hc]
    simp only [val]
    have h1 := Nat.div_add_mod M V
    have h2 : b ^ q * M = b ^ q * (V * (M / V)) + b ^ q * (M % V) := by rw [← Nat.mul_add, h1]
    have h3 : V * b ^ q * (M / V + b * val b (O.drop (q + 1))) = b ^ q * (V * (M / V)) + V * b ^ (q + 1) * val b (O.drop (q + 1)) := by
      rw [Nat.mul_add, Nat.pow_succ]
      congr 1
      · rw [Nat.mul_comm V, Nat.mul_assoc]
      · simp only [Nat.mul_assoc]
    omega
  · rw [hU', hWv]
    have h1 : M % V + 1 ≤ V := Nat.mod_lt _ hV0
    have h2 : b ^ q * (M % V + 1) ≤ b ^ q * V := Nat.mul_le_mul_left _ h1
    rw [Nat.mul_add, Nat.mul_one] at h2
    rw [Nat.mul_comm V]
    omega

theorem div_prep {b n k t g : Nat} {lb : List Nat} (hb : 2 ≤ b) (hk : lb.length = k + 2) (hdn : ∀ d ∈ lb, d < b) (hln : lb.getLast? ≠ some 0) (hvn : val b lb = n) (ht : lb[k + 1]?.getD 0 = t) (hg : b / (t + 1) = g) :
    0 < g ∧ g ≤ b ∧ t < b ∧ n * g < b ^ (k + 2) ∧ b ^ (k + 1) ≤ n := by
  have htb : t < b := by rw [← ht]; exact getD_lt (by omega) hdn _
  have ht0 : 0 < t := by
    rcases Nat.eq_zero_or_pos t with h | h
    · exfalso
      rw [List.getLast?_eq_getElem?, hk, List.getElem?_eq_getElem (by omega)] at hln
      rw [List.getElem?_eq_getElem (by omega)] at ht
      simp only [Option.getD_some] at ht
      simp only [Nat.add_one_sub_one] at hln
      rw [ht, h] at hln
      exact hln rfl
    · exact h
  have hlow : val b (lb.take (k + 1)) < b ^ (k + 1) := by
    have := val_lt (b := b) (by omega) (lb.take (k + 1)) (fun d hd => hdn d (List.mem_of_mem_take hd))
    rwa [List.length_take, Nat.min_eq_left (by omega)] at this
  have hn : n = val b (lb.take (k + 1)) + b ^ (k + 1) * t := by
    rw [← hvn, val_split _ lb (k + 1) (by omega), List.drop_eq_nil_of_le (by omega), ht]
    simp [val]
  have hg2 : g * (t + 1) ≤ b := by rw [← hg]; exact Nat.div_mul_le_self _ _
  have hg0 : 0 < g := by rw [← hg]; exact Nat.div_pos (by omega) (by omega)
  refine ⟨hg0, by rw [← hg]; exact Nat.div_le_self _ _, htb, ?_, ?_⟩
  · have e1 : n < b ^ (k + 1) * (t + 1) := by rw [Nat.mul_add, Nat.mul_one]; omega
    have e2 : n * g < b ^ (k + 1) * (t + 1) * g := Nat.mul_lt_mul_of_pos_right e1 hg0
    have e3 : b ^ (k + 1) * (t + 1) * g ≤ b ^ (k + 1) * b := by
      rw [Nat.mul_assoc, Nat.mul_comm (t + 1)]
      exact Nat.mul_le_mul_left _ hg2
    rw [Nat.pow_succ b (k + 1)]
    omega
  · have : b ^ (k + 1) * 1 ≤ b ^ (k + 1) * t := Nat.mul_le_mul_left _ ht0
    omega

theorem div_fit {b m na g : Nat} (hm : m < b ^ na) (hg : g ≤ b) (hg0 : 0 < g) : m * g < b ^ (na + 1) := by
  rw [Nat.pow_succ]
  exact Nat.lt_of_lt_of_le (Nat.mul_lt_mul_of_pos_right hm hg0) (Nat.mul_le_mul_left _ hg)

theorem div_start {b m n k na g N : Nat} (hm : m < b ^ na) (hn : b ^ (k + 1) ≤ n) (hN : na = k + 1 + N) (hg0 : 0 < g) : m * g < n * g * b ^ N := by
  have e3 : b ^ na = b ^ (k + 1) * b ^ N := by rw [← Nat.pow_add, hN]
  have e4 : b ^ (k + 1) * b ^ N ≤ n * b ^ N := Nat.mul_le_mul_right _ hn
  rw [Nat.mul_right_comm]
  exact Nat.mul_lt_mul_of_pos_right (by omega) hg0

theorem div_top {b n k g : Nat} {V : List Nat} (hb : 2 ≤ b) (hl : V.length = k + 2) (hd : ∀ d ∈ V, d < b) (hv : val b V = n * g) (hn : b ^ (k + 1) ≤ n) (hg0 : 0 < g) : 0 < V[k + 1]?.getD 0 := by
  rcases Nat.eq_zero_or_pos (V[k + 1]?.getD 0) with h | h
  · exfalso
    have e1 := val_split b V (k + 1) (by omega)
    rw [h, List.drop_eq_nil_of_le (by omega)] at e1
    simp only [val, Nat.mul_zero, Nat.add_zero] at e1
    have e2 := val_lt (b := b) (by omega) (V.take (k + 1)) (fun d h => hd d (List.mem_of_mem_take h))
    rw [List.length_take, Nat.min_eq_left (by omega)] at e2
    have e5 : n * 1 ≤ n * g := Nat.mul_le_mul_left _ hg0
    omega
  · exact h

theorem div_end {b m n g : Nat} {U O : List Nat} (hg0 : 0 < g) (hA : m * g = n * g * val b O + val b U) (hU : val b U < n * g) : val b O = m / n ∧ val b U / g = m % n := by
  have hn0 : 0 < n := by
    rcases Nat.eq_zero_or_pos n with h | h
    · subst h; simp at hU
    · exact h
  have hng : 0 < n * g := Nat.mul_pos hn0 hg0
  have h1 : m * g / (n * g) = val b O := by rw [hA, Nat.mul_add_div hng, Nat.div_eq_of_lt hU, Nat.add_zero]
  have h2 : m * g % (n * g) = val b U := by rw [hA, Nat.mul_add_mod, Nat.mod_eq_of_lt hU]
  rw [Nat.mul_div_mul_right _ _ hg0] at h1
  rw [Nat.mul_mod_mul_right] at h2
  exact ⟨h1.symm, by rw [← h2, Nat.mul_div_cancel _ hg0]⟩

/-- a small number lies in its lowest digits -/
theorem val_take_lt {b : Nat} (_hb : 2 ≤ b) {l : List Nat} {k : Nat} (h : val b l < b ^ k) : val b (l.take k) = val b l := by
  rcases Nat.lt_or_ge k l.length with h1 | h1
  · have e := val_append b (l.take k) (l.drop k)
    rw [List.take_append_drop, List.length_take, Nat.min_eq_left (by omega)] at e
    rcases Nat.eq_zero_or_pos (val b (l.drop k)) with h2 | h2
    · rw [h2, Nat.mul_zero, Nat.add_zero] at e
      exact e.symm
    · have : b ^ k * 1 ≤ b ^ k * val b (l.drop k) := Nat.mul_le_mul_left _ h2
      omega
  · rw [List.take_of_length_le h1]

theorem dg_len_mono {b m n : Nat} (hb : 2 ≤ b) (h : m ≤ n) : (dg b m).length ≤ (dg b n).length :=
  dg_len_le hb _ m (Nat.lt_of_le_of_lt h (lt_pow_dg hb n))

theorem dg_len_mul {b : Nat} (hb : 2 ≤ b) (m n : Nat) : (dg b (m * n)).length ≤ (dg b m).length + (dg b n).length := by
  rcases Nat.eq_zero_or_pos n with h | h
  · subst h; rw [Nat.mul_zero, dg_zero]; simp
  · refine dg_len_le hb _ _ ?_
    rw [Nat.pow_add]
    exact Nat.mul_lt_mul_of_lt_of_le (lt_pow_dg hb m) (Nat.le_of_lt (lt_pow_dg hb n)) (Nat.pow_pos (by omega))

/-- -1, 0 or 1 -/
def cmp (m n : Nat) : Int := if m < n then -1 else if n < m then 1 else 0
theorem cmp_lt {m n : Nat} (h : m < n) : cmp m n = -1 := by rw [cmp, if_pos h]
theorem cmp_gt {m n : Nat} (h : n < m) : cmp m n = 1 := by rw [cmp, if_neg (by omega), if_pos h]
theorem cmp_eq (m : Nat) : cmp m m = 0 := by rw [cmp, if_neg (by omega), if_neg (by omega)]

end Go.Proofs.YtneabpgphjcbkaaGreatDoor.Mth
