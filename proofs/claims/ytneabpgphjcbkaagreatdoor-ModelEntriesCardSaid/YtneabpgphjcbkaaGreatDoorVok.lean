/-
  A model without an error keeps to what a drawn one does.
-/
import Derived.Test.YtneabpgphjcbkaaGreatDoorChm
namespace Go.Proofs.YtneabpgphjcbkaaGreatDoor
open Go.RowKit

theorem inB_and {lo hi n : Int} (h : inB lo hi n = true) : lo ≤ n ∧ n ≤ hi := by
  simpa only [inB, Bool.and_eq_true, decide_eq_true_eq] using h
theorem all_and {l : List Int} {lo hi : Int} (h : l.all (inB lo hi) = true) : ∀ x ∈ l, lo ≤ x ∧ x ≤ hi := fun x hx => inB_and (List.all_eq_true.1 h x hx)
theorem rowsM_le {n w : Nat} (h : 1 ≤ rowsM n w) : n = rowsM n w * w := by
  unfold rowsM at h ⊢
  split at h
  · rename_i h1
    rw [if_pos h1, Nat.div_mul_cancel (Nat.dvd_of_mod_eq_zero h1)]
  · omega
theorem GenM.of_ok {m : LModel} (h : chkM m = 0) : GenM m := by
  unfold chkM at h
  split at h
  · rename_i h1
    obtain ⟨hk, hv1, hv2, hd1, hd2⟩ := sizedM_in h1
    split at h
    · rename_i h2
      split at h
      · rename_i h3
        split at h
        · rename_i h4
          simp only [formM, Bool.and_eq_true, beq_iff_eq] at h3
          obtain ⟨⟨⟨f1, ⟨⟨⟨f2, f3⟩, f4⟩, f5⟩⟩, f6⟩, f7⟩ := h3
          simp only [valM, Bool.and_eq_true] at h4
          obtain ⟨⟨⟨⟨v1, v2⟩, v3⟩, v4⟩, v5⟩ := h4
          have v2' := all_and v2
          have f5' := inB_and f5
          have f6' := inB_and f6
          have f7' := inB_and f7
          have hw : m.width.toNat = m.width := Int.toNat_of_nonneg (by omega)
          have sub : ∀ {l : List Int}, l ∈ [m.embed, m.place, m.mix, m.out] → ∀ x ∈ l, -128 ≤ x ∧ x ≤ 127 := fun hl x hx => v2' x (List.mem_flatten.2 ⟨_, hl, hx⟩)
          refine ⟨by omega, ⟨hv1, hv2⟩, ⟨hd1, hd2⟩, inB_and h2, ⟨by omega, all_and v1⟩, ⟨f3, sub (by simp)⟩, ⟨⟨(rowsM m.place.length m.width.toNat : Nat), f5'.1, f5'.2, ?_⟩, sub (by simp)⟩, ⟨?_, sub (by simp)⟩, ⟨f4, sub (by simp)⟩, ⟨by omega, all_and v3⟩, ⟨by omega, all_and v4, ?_⟩⟩
          · have := rowsM_le (n := m.place.length) (w := m.width.toNat) (by omega)
            have e : ((rowsM m.place.length m.width.toNat * m.width.toNat : Nat) : Int) = (rowsM m.place.length m.width.toNat : Nat) * m.width := by push_cast; rw [hw]
            omega
          · unfold mixM at f1
            by_cases c1 : m.kind = 1
            · rw [if_pos c1, beq_iff_eq] at f1
              exact ⟨3, by omega, by omega, fun _ => rfl, fun c => by omega, f1⟩
            · rw [if_neg c1] at f1
              by_cases c2 : m.kind = 2
              · rw [if_pos c2, beq_iff_eq] at f1
                exact ⟨2, by omega, by omega, fun c => by omega, fun _ => rfl, f1⟩
              · rw [if_neg c2] at f1
                have f1' := inB_and f1
                have hdd := dd_small ⟨hd1, hd2⟩
                refine ⟨(rowsM m.mix.length (m.width * m.width).toNat : Nat), f1'.1, f1'.2, fun c => absurd c c1, fun c => absurd c c2, ?_⟩
                have := rowsM_le (n := m.mix.length) (w := (m.width * m.width).toNat) (by omega)
                have e : ((rowsM m.mix.length (m.width * m.width).toNat * (m.width * m.width).toNat : Nat) : Int) = (rowsM m.mix.length (m.width * m.width).toNat : Nat) * m.width * m.width := by
                  push_cast
                  rw [Int.toNat_of_nonneg (by omega), Int.mul_assoc]
                omega
          · cases ho : m.odds with
            | nil => rw [ho] at f7'; simp at f7'
            | cons a l =>
              refine ⟨a, rfl, ?_⟩
              have h5 := all_and v4 a (by rw [ho]; simp)
              rw [ho] at v5
              simp at v5
              omega
        · cases h
      · cases h
    · cases h
  · rename_i h1
    exact absurd h h1
end Go.Proofs.YtneabpgphjcbkaaGreatDoor
