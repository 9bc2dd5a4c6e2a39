/-
  The shortest stretch outside of which there are few: the plain law.
-/
import Derived.Test.YtlildanamfjnmaaGreatDoorMath
namespace Go.Proofs.YtlildanamfjnmaaGreatDoor.Mth

def sm : List Int → Int
  | [] => 0
  | x :: l => x + sm l
theorem sm_append : ∀ (l m : List Int), sm (l ++ m) = sm l + sm m
  | [], m => by simp [sm]
  | x :: l, m => by simp [sm, sm_append l m]; omega
/-- the sum of the first k counts -/
def pre (l : List Int) (k : Nat) : Int := sm (l.take k)
theorem pre_succ {l : List Int} {k : Nat} (h : k < l.length) : pre l (k + 1) = pre l k + l[k]?.getD 0 := by
  rw [pre, List.take_add_one, sm_append, List.getElem?_eq_getElem h]
  simp [sm, pre]
theorem pre_zero (l : List Int) : pre l 0 = 0 := rfl
theorem pre_past {l : List Int} {k : Nat} (h : l.length ≤ k) : pre l k = pre l l.length := by
  rw [pre, pre, List.take_of_length_le h, List.take_of_length_le (Nat.le_refl _)]
theorem nn_at {l : List Int} (hn : ∀ x ∈ l, 0 ≤ x) (k : Nat) : 0 ≤ l[k]?.getD 0 := by
  rcases Nat.lt_or_ge k l.length with h | h
  · rw [List.getElem?_eq_getElem h]; exact hn _ (List.getElem_mem h)
  · rw [List.getElem?_eq_none h]; exact Int.le_refl _
theorem pre_mono1 {l : List Int} (hn : ∀ x ∈ l, 0 ≤ x) (k : Nat) : pre l k ≤ pre l (k + 1) := by
  rcases Nat.lt_or_ge k l.length with h | h
  · rw [pre_succ h]; have := nn_at hn k; omega
  · have e1 := pre_past h
    have e2 := pre_past (l := l) (k := k + 1) (by omega)
    omega
theorem pre_mono {l : List Int} (hn : ∀ x ∈ l, 0 ≤ x) {i j : Nat} (h : i ≤ j) : pre l i ≤ pre l j := by
  induction h with
  | refl => exact Int.le_refl _
  | step _ ih => exact Int.le_trans ih (pre_mono1 hn _)
theorem pre_nn {l : List Int} (hn : ∀ x ∈ l, 0 ≤ x) (k : Nat) : 0 ≤ pre l k := by
  have := pre_mono hn (Nat.zero_le k)
  rwa [pre_zero] at this
theorem pre_le {l : List Int} {m : Int} (h0 : 0 ≤ m) (hn : ∀ x ∈ l, 0 ≤ x ∧ x ≤ m) : ∀ k, k ≤ l.length → pre l k ≤ m * k
  | 0, _ => by simp [pre_zero]
  | k + 1, hk => by
    have h1 := pre_le h0 hn k (by omega)
    rw [pre_succ (by omega), List.getElem?_eq_getElem (by omega)]
    have h2 := (hn _ (List.getElem_mem (show k < l.length by omega))).2
    push_cast
    rw [Int.mul_add, Int.mul_one]
    simp only [Option.getD_some]
    omega
/-- outside of the counts i to j - 1 there are few -/
def Good (l : List Int) (most : Int) (i j : Nat) : Prop := pre l l.length - (pre l j - pre l i) ≤ most
theorem Good.mono {l : List Int} {most : Int} {i j i' j' : Nat} (hn : ∀ x ∈ l, 0 ≤ x) (h : Good l most i j) (hi : i' ≤ i) (hj : j ≤ j') : Good l most i' j' := by
  have h1 := pre_mono hn hi
  have h2 := pre_mono hn hj
  unfold Good at *
  omega
/-- the best stretch among those that begin below b -/
def Best (l : List Int) (most : Int) (b f t : Nat) : Prop :=
  f ≤ t ∧ t < l.length ∧ Good l most f (t + 1) ∧ ∀ i j, i < b → i < j → j ≤ l.length → Good l most i j → (t + 1 - f < j - i ∨ (t + 1 - f = j - i ∧ f ≤ i))
theorem Best.start {l : List Int} {most : Int} (h0 : 0 < l.length) (hm : 0 ≤ most) : Best l most 0 0 (l.length - 1) := by
  refine ⟨Nat.zero_le _, by omega, ?_, fun i j hi => by omega⟩
  unfold Good
  rw [Nat.sub_add_cancel h0, pre_zero]
  omega
theorem Best.better {l : List Int} {most : Int} {b f t e : Nat} (h : Best l most b f t) (hb : b < e) (he : e ≤ l.length) (hg : Good l most b e) (hl : ∀ j, b < j → j < e → ¬ Good l most b j) (hs : e - b < t + 1 - f) :
    Best l most (b + 1) b (e - 1) := by
  obtain ⟨h1, h2, h3, h4⟩ := h
  refine ⟨by omega, by omega, by rw [Nat.sub_add_cancel (by omega)]; exact hg, fun i j hi hij hj hgd => ?_⟩
  rcases (show i < b ∨ i = b by omega) with h5 | rfl
  · have := h4 i j h5 hij hj hgd
    omega
  · rcases Nat.lt_or_ge j e with h6 | h6
    · exact absurd hgd (hl j hij h6)
    · omega
theorem Best.keep {l : List Int} {most : Int} {b f t e : Nat} (h : Best l most b f t) (he : b < e) (hl : ∀ j, b < j → j < e → ¬ Good l most b j) (hs : ¬ e - b < t + 1 - f) (hfb : f ≤ b) : Best l most (b + 1) f t := by
  obtain ⟨h1, h2, h3, h4⟩ := h
  refine ⟨h1, h2, h3, fun i j hi hij hj hgd => ?_⟩
  rcases (show i < b ∨ i = b by omega) with h5 | rfl
  · exact h4 i j h5 hij hj hgd
  · rcases Nat.lt_or_ge j e with h6 | h6
    · exact absurd hgd (hl j hij h6)
    · omega
theorem Best.stop {l : List Int} {most : Int} {b f t : Nat} (hn : ∀ x ∈ l, 0 ≤ x) (h : Best l most b f t) (hs : ¬ Good l most b l.length) : Best l most l.length f t := by
  obtain ⟨h1, h2, h3, h4⟩ := h
  refine ⟨h1, h2, h3, fun i j hi hij hj hgd => ?_⟩
  rcases Nat.lt_or_ge i b with h5 | h5
  · exact h4 i j h5 hij hj hgd
  · exact absurd (hgd.mono hn h5 hj) hs
/-- the first hit of the search is the best stretch -/
theorem Best.hit {l : List Int} {most : Int} {f t n i : Nat} (h : Best l most l.length f t) (hn1 : ∀ n', 1 ≤ n' → n' < n → ∀ i', i' + n' ≤ l.length → ¬ Good l most i' (i' + n')) (hi : ∀ i', i' < i → ¬ Good l most i' (i' + n))
    (h1 : 1 ≤ n) (hin : i + n ≤ l.length) (hg : Good l most i (i + n)) : f = i ∧ t + 1 = i + n := by
  obtain ⟨b1, b2, b3, b4⟩ := h
  have h5 := b4 i (i + n) (by omega) (by omega) hin hg
  have e : t + 1 = f + (t + 1 - f) := by omega
  rw [e] at b3
  have h6 : ¬ t + 1 - f < n := fun h6 => hn1 (t + 1 - f) (by omega) h6 f (by omega) b3
  have h7 : t + 1 - f = n := by omega
  rw [h7] at b3
  have h8 : ¬ f < i := fun h8 => hi f h8 b3
  omega
theorem Best.none {l : List Int} {most : Int} {f t : Nat} (h : Best l most l.length f t) (hn1 : ∀ n', 1 ≤ n' → n' ≤ l.length → ∀ i', i' + n' ≤ l.length → ¬ Good l most i' (i' + n')) : False := by
  obtain ⟨b1, b2, b3, b4⟩ := h
  have e : t + 1 = f + (t + 1 - f) := by omega
  rw [e] at b3
  exact hn1 (t + 1 - f) (by omega) (by omega) f (by omega) b3
end Go.Proofs.YtlildanamfjnmaaGreatDoor.Mth
