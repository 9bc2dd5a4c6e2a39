/-
  models.Sample.
-/
import Derived.Test.YtgaiibkkompbnaaGreatDoorMod
import Derived.Test.YtgaiibkkompbnaaGreatDoorPick
namespace Go.Proofs.YtgaiibkkompbnaaGreatDoor
open Go.RowKit

/-- what Sample gives -/
def samOf (ws : List Int) (d : Int) : Int × Int :=
  if ws.length = 0 then (0, 11) else if 1024 < ws.length then (0, 2)
  else if ws.all good then (if sumI ws = 0 then (0, 23) else if inB 0 4294967295 d then (((pk ws (d * sumI ws / 4294967296) 0 : Nat) : Int), 0) else (0, 1)) else (0, 9)
theorem samOf_bad {ws : List Int} {d : Int} (h1 : 1 ≤ ws.length) (h2 : ws.length ≤ 1024) (hb : ws.all good = false) : samOf ws d = (0, 9) := by
  unfold samOf
  rw [if_neg (by omega), if_neg (by omega), if_neg (by rw [hb]; decide)]
theorem samOf_zero {ws : List Int} {d : Int} (h1 : 1 ≤ ws.length) (h2 : ws.length ≤ 1024) (hg : ws.all good = true) (h0 : sumI ws = 0) : samOf ws d = (0, 23) := by
  unfold samOf
  rw [if_neg (by omega), if_neg (by omega), if_pos hg, if_pos h0]
theorem samOf_arg {ws : List Int} {d : Int} (h1 : 1 ≤ ws.length) (h2 : ws.length ≤ 1024) (hg : ws.all good = true) (h0 : ¬ sumI ws = 0) (hd : inB 0 4294967295 d = false) : samOf ws d = (0, 1) := by
  unfold samOf
  rw [if_neg (by omega), if_neg (by omega), if_pos hg, if_neg h0, if_neg (by rw [hd]; decide)]
theorem samOf_ok {ws : List Int} {d : Int} (h1 : 1 ≤ ws.length) (h2 : ws.length ≤ 1024) (hg : ws.all good = true) (h0 : ¬ sumI ws = 0) (hd : inB 0 4294967295 d = true) : samOf ws d = (((pk ws (d * sumI ws / 4294967296) 0 : Nat) : Int), 0) := by
  unfold samOf
  rw [if_neg (by omega), if_neg (by omega), if_pos hg, if_neg h0, if_pos hd]
/-- all are zero just if the sum is -/
theorem all_zero {ws : List Int} (hg : ∀ x ∈ ws, good x = true) : ws.all (inB 0 0) = decide (sumI ws = 0) := by
  induction ws with
  | nil => rfl
  | cons x l ih =>
    have h1 := hg x (by simp)
    have h2 := sumI_good fun y hy => hg y (List.mem_cons_of_mem x hy)
    have h3 := ih fun y hy => hg y (List.mem_cons_of_mem x hy)
    have h4 : 0 ≤ x ∧ x ≤ 1000000 := by simpa [good] using h1
    rw [List.all_cons, h3, sumI]
    by_cases hx : x = 0
    · subst hx; simp [inB]
    · have : inB 0 0 x = false := by simp [inB]; omega
      rw [this, Bool.false_and, eq_comm, decide_eq_false_iff_not]
      omega
/-- the place that a draw gives -/
theorem place_in {d S : Int} (h0 : 0 ≤ d) (h1 : d ≤ 4294967295) (h2 : 1 ≤ S) (h3 : S ≤ 1024000000) : 0 ≤ d * S ∧ d * S ≤ 4398046510080000000 ∧ 0 ≤ d * S / 4294967296 ∧ d * S / 4294967296 < S := by
  have a : 0 ≤ d * S := Int.mul_nonneg h0 (by omega)
  have b : d * S ≤ 4294967295 * S := Int.mul_le_mul_of_nonneg_right h1 (by omega)
  refine ⟨a, by omega, by omega, by omega⟩
end Go.Proofs.YtgaiibkkompbnaaGreatDoor
