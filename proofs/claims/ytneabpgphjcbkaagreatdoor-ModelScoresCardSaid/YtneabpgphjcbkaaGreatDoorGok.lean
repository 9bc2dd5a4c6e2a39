/-
  A drawn model is valid.
-/
import Derived.Test.YtneabpgphjcbkaaGreatDoorModd
import Derived.Test.YtneabpgphjcbkaaGreatDoorChm
namespace Go.Proofs.YtneabpgphjcbkaaGreatDoor
open Go.RowKit

theorem all_inB {l : List Int} {lo hi : Int} (h : ∀ x ∈ l, lo ≤ x ∧ x ≤ hi) : l.all (inB lo hi) = true := by
  rw [List.all_eq_true]
  intro x hx
  have := h x hx
  simp only [inB, Bool.and_eq_true, decide_eq_true_eq]
  exact this
theorem inB_true {lo hi n : Int} (h : lo ≤ n ∧ n ≤ hi) : inB lo hi n = true := by
  simp only [inB, Bool.and_eq_true, decide_eq_true_eq]
  exact h
theorem five {D : Int} (h : 1 ≤ D ∧ D ≤ 5) : D = 1 ∨ D = 2 ∨ D = 3 ∨ D = 4 ∨ D = 5 := by omega
theorem rowsM_mul {n d r : Nat} (hd : 1 ≤ d) (h : n = r * d) : rowsM n d = r := by
  subst h
  unfold rowsM
  rw [if_pos (Nat.mul_mod_left _ _), Nat.mul_div_cancel _ (by omega)]
section
variable {m : LModel} (g : GenM m)
include g
theorem GenM.sized : sizedM m.kind m.vocab m.width = 0 := by
  unfold sizedM
  rw [inB_true g.kind, inB_true g.vocab, inB_true g.width]
  rfl
theorem GenM.formed : formM m = true := by
  obtain ⟨D1, D2⟩ := g.width
  obtain ⟨⟨r, r1, r2, hr⟩, -⟩ := g.place
  obtain ⟨⟨q, q1, q2, k1, k2, hq⟩, -⟩ := g.mix
  have hp : rowsM m.place.length m.width.toNat = r.toNat := rowsM_mul (by omega) (by
    have : ((r.toNat * m.width.toNat : Nat) : Int) = r * m.width := by push_cast; rw [Int.toNat_of_nonneg (by omega), Int.toNat_of_nonneg (by omega)]
    omega)
  have hm : mixM m.kind m.width m.mix.length = true := by
    unfold mixM
    by_cases c1 : m.kind = 1
    · rw [if_pos c1, hq, k1 c1]
      simp
    · rw [if_neg c1]
      by_cases c2 : m.kind = 2
      · rw [if_pos c2, hq, k2 c2]
        simp
      · rw [if_neg c2]
        have h3 : rowsM m.mix.length (m.width * m.width).toNat = q.toNat := rowsM_mul (by rcases five ⟨D1, D2⟩ with e | e | e | e | e <;> rw [e] <;> decide) (by
          have : ((q.toNat * (m.width * m.width).toNat : Nat) : Int) = q * m.width * m.width := by
            push_cast
            rw [Int.toNat_of_nonneg (by omega), Int.toNat_of_nonneg (Int.mul_nonneg (by omega) (by omega)), Int.mul_assoc]
          omega)
        rw [h3, Int.toNat_of_nonneg (by omega)]
        exact inB_true ⟨q1, q2⟩
  unfold formM
  rw [hm, hp, Int.toNat_of_nonneg (by omega), inB_true ⟨r1, r2⟩, inB_true (show (1 : Int) ≤ (m.soft.length : Int) ∧ (m.soft.length : Int) ≤ 64 by have := g.soft.1; omega), inB_true (show (1 : Int) ≤ (m.odds.length : Int) ∧ (m.odds.length : Int) ≤ 64 by have := g.odds.1; omega), g.cuts.1, g.embed.1, g.out.1]
  simp
theorem GenM.vals : valM m = true := by
  obtain ⟨-, ho, x0, hx, hx1⟩ := g.odds
  have hfl : ([m.embed, m.place, m.mix, m.out].flatten).all (inB (-128) 127) = true := by
    simp [List.all_append, all_inB g.embed.2, all_inB g.place.2, all_inB g.mix.2, all_inB g.out.2]
  have hz : (x0 == 0) = false := by simp; omega
  unfold valM
  rw [all_inB g.cuts.2, hfl, all_inB g.soft.2, all_inB ho, hx, Option.getD_some, hz]
  rfl
theorem GenM.ok : chkM m = 0 := by
  unfold chkM
  rw [if_pos g.sized, if_pos (inB_true g.top), if_pos g.formed, if_pos g.vals]
theorem GenM.lens : m.cuts.length = 4 ∧ m.embed.length ≤ 80 ∧ m.place.length ≤ 80 ∧ m.mix.length ≤ 100 ∧ m.out.length ≤ 80 ∧ m.soft.length ≤ 64 ∧ m.odds.length ≤ 64 := by
  obtain ⟨⟨r, r1, r2, hr⟩, -⟩ := g.place
  obtain ⟨⟨q, q1, q2, k1, k2, hq⟩, -⟩ := g.mix
  have hv := vd_small g.vocab g.width
  have he := g.embed.1
  have ho := g.out.1
  refine ⟨g.cuts.1, by omega, ?_, ?_, by omega, g.soft.1.2, g.odds.1.2⟩
  · rcases five g.width with e | e | e | e | e <;> rw [e] at hr <;> omega
  · rcases five g.width with e | e | e | e | e <;> rw [e] at hq <;> omega
theorem GenM.sums : sumLen [m.embed, m.place, m.mix, m.out] ≤ 1000000 ∧ sumLen [m.soft, m.odds] ≤ 1000000 := by
  obtain ⟨h1, h2, h3, h4, h5, h6, h7⟩ := g.lens
  constructor <;> simp only [sumLen, List.map_cons, List.map_nil, List.sum_cons, List.sum_nil] <;> omega
end
end Go.Proofs.YtneabpgphjcbkaaGreatDoor
