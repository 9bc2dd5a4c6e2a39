/-
  The law ModelMakes: the walk.
-/
import Derived.Test.YtldjemlmjfpmjaaGreatDoorMka
import Derived.Test.YtldjemlmjfpmjaaGreatDoorWorks
namespace Go.Proofs.YtldjemlmjfpmjaaGreatDoor
open Go.RowKit

theorem same_true (m : LModel) (hl : ∀ x ∈ listsM m, x.length ≤ 2000) (a b : Value) (w : World) (ha : VModel w.cell? a m) (hb : VModel w.cell? b m) :
    Calls Tryz.prog 10 #[a, b] w fun e w' => e = .returned (.bool true) ∧ Below w.heap.size w w' :=
  (same_any m m a b w ha hb hl hl).mono fun e w' ⟨h1, h2⟩ => ⟨by rw [h1, eqL_refl (fun x => by simp [iEq])], h2⟩
theorem sized_cases {K V D : Int} (h : sizedM K V D ≠ 0) : (K < 1 ∧ sizedM K V D = 4) ∨ (¬ K < 1 ∧ K > 3 ∧ sizedM K V D = 4) ∨ (¬ K < 1 ∧ ¬ K > 3 ∧ V < 2 ∧ sizedM K V D = 9) ∨ (¬ K < 1 ∧ ¬ K > 3 ∧ ¬ V < 2 ∧ V > 16 ∧ sizedM K V D = 9) ∨ (¬ K < 1 ∧ ¬ K > 3 ∧ ¬ V < 2 ∧ ¬ V > 16 ∧ D < 1 ∧ sizedM K V D = 9) ∨ (¬ K < 1 ∧ ¬ K > 3 ∧ ¬ V < 2 ∧ ¬ V > 16 ∧ ¬ D < 1 ∧ D > 5 ∧ sizedM K V D = 9) := by
  have s4 : (K < 1 ∨ K > 3) → sizedM K V D = 4 := fun h => by
    have : inB 1 3 K = false := by simp only [inB, Bool.and_eq_false_iff, decide_eq_false_iff_not]; omega
    simp [sizedM, this]
  have s9 : ¬ K < 1 → ¬ K > 3 → (V < 2 ∨ V > 16 ∨ D < 1 ∨ D > 5) → sizedM K V D = 9 := fun h1 h2 h => by
    have e1 : inB 1 3 K = true := by simp only [inB, Bool.and_eq_true, decide_eq_true_eq]; omega
    have e2 : (inB 2 16 V && inB 1 5 D) = false := by simp only [inB, Bool.and_eq_false_iff, decide_eq_false_iff_not]; omega
    simp only [sizedM, e1, e2]; rfl
  have s0 : ¬ K < 1 → ¬ K > 3 → ¬ V < 2 → ¬ V > 16 → ¬ D < 1 → ¬ D > 5 → sizedM K V D = 0 := fun h1 h2 h3 h4 h5 h6 => by
    have e1 : inB 1 3 K = true := by simp only [inB, Bool.and_eq_true, decide_eq_true_eq]; omega
    have e2 : (inB 2 16 V && inB 1 5 D) = true := by simp only [inB, Bool.and_eq_true, decide_eq_true_eq]; omega
    simp only [sizedM, e1, e2]; rfl
  by_cases h1 : K < 1
  · left; exact ⟨h1, s4 (by omega)⟩
  · by_cases h2 : K > 3
    · right; left; exact ⟨h1, h2, s4 (by omega)⟩
    · by_cases h3 : V < 2
      · right; right; left; exact ⟨h1, h2, h3, s9 h1 h2 (by omega)⟩
      · by_cases h4 : V > 16
        · right; right; right; left; exact ⟨h1, h2, h3, h4, s9 h1 h2 (by omega)⟩
        · by_cases h5 : D < 1
          · right; right; right; right; left; exact ⟨h1, h2, h3, h4, h5, s9 h1 h2 (by omega)⟩
          · by_cases h6 : D > 5
            · right; right; right; right; right; exact ⟨h1, h2, h3, h4, h5, h6, s9 h1 h2 (by omega)⟩
            · exact absurd (s0 h1 h2 h3 h4 h5 h6) h
set_option maxHeartbeats 8000000 in
set_option maxRecDepth 100000 in
theorem mm_err (s K V D : Int) (w : World) (htab : Tabs w) (hz : sizedM K V D ≠ 0) :
    Calls Tryz.prog 3 #[.int .i64 s, .int .i64 K, .int .i64 V, .int .i64 D] w fun e w' => e = .returned (.bool true) ∧ Below w.heap.size w w' := by
  have HN : Hid (∀ W, Below w.heap.size w W → Calls Tryz.prog 8 #[] W fun e w' => e = .returned (.bool true) ∧ Below W.heap.size W w') := Lib.hid fun W hb => works_any W (htab.low hb)
  have HM := make_err s K V D w hz
  have HNM := Lib.hid noModel_zero
  have hcase := sized_cases hz
  generalize sizedM K V D = c at HM hcase
  replace HM := Lib.hid HM
  clear hz htab
  rcases hcase with ⟨h1, rfl⟩ | ⟨h1, h2, rfl⟩ | ⟨h1, h2, h3, rfl⟩ | ⟨h1, h2, h3, h4, rfl⟩ | ⟨h1, h2, h3, h4, h5, rfl⟩ | ⟨h1, h2, h3, h4, h5, h6, rfl⟩
  · skip
    have d1 : decide (K < 1) = true := decide_eq_true h1
    clear h1
    go_enter Tryz.func3, Tryz.ntmps3
    go_wp2_with fail
    refine HM.out.mono ?_
    rintro e w1 ⟨rfl, hB⟩
    have HL : Hid (Below w.heap.size w (w1.alloc (.cells #[.int .i64 0, .int .i64 0, .int .i64 0, .int .i64 0, .slice none 0 0, .slice none 0 0, .slice none 0 0, .slice none 0 0, .slice none 0 0, .slice none 0 0, .slice none 0 0] 24))) := Lib.hid (laid hB _)
    have bM := Bk.new w1 24 #[.int .i64 0, .int .i64 0, .int .i64 0, .int .i64 0, .slice none 0 0, .slice none 0 0, .slice none 0 0, .slice none 0 0, .slice none 0 0, .slice none 0 0, .slice none 0 0]
    have HBM := Lib.hid bM
    clear hB bM
    go_wp2_with fail
    refine (HN.out _ HL.out).mono ?_
    rintro e w2 ⟨rfl, hB2⟩
    have HL2 := Lib.hid (behind HL.out hB2)
    have b2 := HBM.out.low hB2
    have l0 : w2.cell? ⟨w1.heap.size, 0, none⟩ = some (.int .i64 0) := b2.cell 0
    have l1 : w2.cell? ⟨w1.heap.size, 1, none⟩ = some (.int .i64 0) := b2.cell 1
    have l2 : w2.cell? ⟨w1.heap.size, 2, none⟩ = some (.int .i64 0) := b2.cell 2
    have l3 : w2.cell? ⟨w1.heap.size, 3, none⟩ = some (.int .i64 0) := b2.cell 3
    have l4 : w2.cell? ⟨w1.heap.size, 4, none⟩ = some (.slice none 0 0) := b2.cell 4
    have l5 : w2.cell? ⟨w1.heap.size, 5, none⟩ = some (.slice none 0 0) := b2.cell 5
    have l6 : w2.cell? ⟨w1.heap.size, 6, none⟩ = some (.slice none 0 0) := b2.cell 6
    have l7 : w2.cell? ⟨w1.heap.size, 7, none⟩ = some (.slice none 0 0) := b2.cell 7
    have l8 : w2.cell? ⟨w1.heap.size, 8, none⟩ = some (.slice none 0 0) := b2.cell 8
    have l9 : w2.cell? ⟨w1.heap.size, 9, none⟩ = some (.slice none 0 0) := b2.cell 9
    have l10 : w2.cell? ⟨w1.heap.size, 10, none⟩ = some (.slice none 0 0) := b2.cell 10
    clear hB2 b2 HBM HL
    go_wp2_with fail
    refine (HNM.out _).mono ?_
    rintro e w3 ⟨rfl, hB3⟩
    have HL3 := Lib.hid (behind HL2.out hB3)
    clear hB3
    go_wp2
    go_ret
    exact ⟨by simp, HL3.out⟩
  · skip
    have d1 : decide (K < 1) = false := decide_eq_false h1
    have d2 : decide (K > 3) = true := decide_eq_true h2
    clear h1 h2
    go_enter Tryz.func3, Tryz.ntmps3
    go_wp2_with fail
    refine HM.out.mono ?_
    rintro e w1 ⟨rfl, hB⟩
    have HL : Hid (Below w.heap.size w (w1.alloc (.cells #[.int .i64 0, .int .i64 0, .int .i64 0, .int .i64 0, .slice none 0 0, .slice none 0 0, .slice none 0 0, .slice none 0 0, .slice none 0 0, .slice none 0 0, .slice none 0 0] 24))) := Lib.hid (laid hB _)
    have bM := Bk.new w1 24 #[.int .i64 0, .int .i64 0, .int .i64 0, .int .i64 0, .slice none 0 0, .slice none 0 0, .slice none 0 0, .slice none 0 0, .slice none 0 0, .slice none 0 0, .slice none 0 0]
    have HBM := Lib.hid bM
    clear hB bM
    go_wp2_with fail
    refine (HN.out _ HL.out).mono ?_
    rintro e w2 ⟨rfl, hB2⟩
    have HL2 := Lib.hid (behind HL.out hB2)
    have b2 := HBM.out.low hB2
    have l0 : w2.cell? ⟨w1.heap.size, 0, none⟩ = some (.int .i64 0) := b2.cell 0
    have l1 : w2.cell? ⟨w1.heap.size, 1, none⟩ = some (.int .i64 0) := b2.cell 1
    have l2 : w2.cell? ⟨w1.heap.size, 2, none⟩ = some (.int .i64 0) := b2.cell 2
    have l3 : w2.cell? ⟨w1.heap.size, 3, none⟩ = some (.int .i64 0) := b2.cell 3
    have l4 : w2.cell? ⟨w1.heap.size, 4, none⟩ = some (.slice none 0 0) := b2.cell 4
    have l5 : w2.cell? ⟨w1.heap.size, 5, none⟩ = some (.slice none 0 0) := b2.cell 5
    have l6 : w2.cell? ⟨w1.heap.size, 6, none⟩ = some (.slice none 0 0) := b2.cell 6
    have l7 : w2.cell? ⟨w1.heap.size, 7, none⟩ = some (.slice none 0 0) := b2.cell 7
    have l8 : w2.cell? ⟨w1.heap.size, 8, none⟩ = some (.slice none 0 0) := b2.cell 8
    have l9 : w2.cell? ⟨w1.heap.size, 9, none⟩ = some (.slice none 0 0) := b2.cell 9
    have l10 : w2.cell? ⟨w1.heap.size, 10, none⟩ = some (.slice none 0 0) := b2.cell 10
    clear hB2 b2 HBM HL
    go_wp2_with fail
    refine (HNM.out _).mono ?_
    rintro e w3 ⟨rfl, hB3⟩
    have HL3 := Lib.hid (behind HL2.out hB3)
    clear hB3
    go_wp2
    go_ret
    exact ⟨by simp, HL3.out⟩
  · skip
    have d1 : decide (K < 1) = false := decide_eq_false h1
    have d2 : decide (K > 3) = false := decide_eq_false h2
    have d3 : decide (V < 2) = true := decide_eq_true h3
    clear h1 h2 h3
    go_enter Tryz.func3, Tryz.ntmps3
    go_wp2_with fail
    refine HM.out.mono ?_
    rintro e w1 ⟨rfl, hB⟩
    have HL : Hid (Below w.heap.size w (w1.alloc (.cells #[.int .i64 0, .int .i64 0, .int .i64 0, .int .i64 0, .slice none 0 0, .slice none 0 0, .slice none 0 0, .slice none 0 0, .slice none 0 0, .slice none 0 0, .slice none 0 0] 24))) := Lib.hid (laid hB _)
    have bM := Bk.new w1 24 #[.int .i64 0, .int .i64 0, .int .i64 0, .int .i64 0, .slice none 0 0, .slice none 0 0, .slice none 0 0, .slice none 0 0, .slice none 0 0, .slice none 0 0, .slice none 0 0]
    have HBM := Lib.hid bM
    clear hB bM
    go_wp2_with fail
    refine (HN.out _ HL.out).mono ?_
    rintro e w2 ⟨rfl, hB2⟩
    have HL2 := Lib.hid (behind HL.out hB2)
    have b2 := HBM.out.low hB2
    have l0 : w2.cell? ⟨w1.heap.size, 0, none⟩ = some (.int .i64 0) := b2.cell 0
    have l1 : w2.cell? ⟨w1.heap.size, 1, none⟩ = some (.int .i64 0) := b2.cell 1
    have l2 : w2.cell? ⟨w1.heap.size, 2, none⟩ = some (.int .i64 0) := b2.cell 2
    have l3 : w2.cell? ⟨w1.heap.size, 3, none⟩ = some (.int .i64 0) := b2.cell 3
    have l4 : w2.cell? ⟨w1.heap.size, 4, none⟩ = some (.slice none 0 0) := b2.cell 4
    have l5 : w2.cell? ⟨w1.heap.size, 5, none⟩ = some (.slice none 0 0) := b2.cell 5
    have l6 : w2.cell? ⟨w1.heap.size, 6, none⟩ = some (.slice none 0 0) := b2.cell 6
    have l7 : w2.cell? ⟨w1.heap.size, 7, none⟩ = some (.slice none 0 0) := b2.cell 7
    have l8 : w2.cell? ⟨w1.heap.size, 8, none⟩ = some (.slice none 0 0) := b2.cell 8
    have l9 : w2.cell? ⟨w1.heap.size, 9, none⟩ = some (.slice none 0 0) := b2.cell 9
    have l10 : w2.cell? ⟨w1.heap.size, 10, none⟩ = some (.slice none 0 0) := b2.cell 10
    clear hB2 b2 HBM HL
    go_wp2_with fail
    refine (HNM.out _).mono ?_
    rintro e w3 ⟨rfl, hB3⟩
    have HL3 := Lib.hid (behind HL2.out hB3)
    clear hB3
    go_wp2
    go_ret
    exact ⟨by simp, HL3.out⟩
  · skip
    have d1 : decide (K < 1) = false := decide_eq_false h1
    have d2 : decide (K > 3) = false := decide_eq_false h2
    have d3 : decide (V < 2) = false := decide_eq_false h3
    have d4 : decide (V > 16) = true := decide_eq_true h4
    clear h1 h2 h3 h4
    go_enter Tryz.func3, Tryz.ntmps3
    go_wp2_with fail
    refine HM.out.mono ?_
    rintro e w1 ⟨rfl, hB⟩
    have HL : Hid (Below w.heap.size w (w1.alloc (.cells #[.int .i64 0, .int .i64 0, .int .i64 0, .int .i64 0, .slice none 0 0, .slice none 0 0, .slice none 0 0, .slice none 0 0, .slice none 0 0, .slice none 0 0, .slice none 0 0] 24))) := Lib.hid (laid hB _)
    have bM := Bk.new w1 24 #[.int .i64 0, .int .i64 0, .int .i64 0, .int .i64 0, .slice none 0 0, .slice none 0 0, .slice none 0 0, .slice none 0 0, .slice none 0 0, .slice none 0 0, .slice none 0 0]
    have HBM := Lib.hid bM
    clear hB bM
    go_wp2_with fail
    refine (HN.out _ HL.out).mono ?_
    rintro e w2 ⟨rfl, hB2⟩
    have HL2 := Lib.hid (behind HL.out hB2)
    have b2 := HBM.out.low hB2
    have l0 : w2.cell? ⟨w1.heap.size, 0, none⟩ = some (.int .i64 0) := b2.cell 0
    have l1 : w2.cell? ⟨w1.heap.size, 1, none⟩ = some (.int .i64 0) := b2.cell 1
    have l2 : w2.cell? ⟨w1.heap.size, 2, none⟩ = some (.int .i64 0) := b2.cell 2
    have l3 : w2.cell? ⟨w1.heap.size, 3, none⟩ = some (.int .i64 0) := b2.cell 3
    have l4 : w2.cell? ⟨w1.heap.size, 4, none⟩ = some (.slice none 0 0) := b2.cell 4
    have l5 : w2.cell? ⟨w1.heap.size, 5, none⟩ = some (.slice none 0 0) := b2.cell 5
    have l6 : w2.cell? ⟨w1.heap.size, 6, none⟩ = some (.slice none 0 0) := b2.cell 6
    have l7 : w2.cell? ⟨w1.heap.size, 7, none⟩ = some (.slice none 0 0) := b2.cell 7
    have l8 : w2.cell? ⟨w1.heap.size, 8, none⟩ = some (.slice none 0 0) := b2.cell 8
    have l9 : w2.cell? ⟨w1.heap.size, 9, none⟩ = some (.slice none 0 0) := b2.cell 9
    have l10 : w2.cell? ⟨w1.heap.size, 10, none⟩ = some (.slice none 0 0) := b2.cell 10
    clear hB2 b2 HBM HL
    go_wp2_with fail
    refine (HNM.out _).mono ?_
    rintro e w3 ⟨rfl, hB3⟩
    have HL3 := Lib.hid (behind HL2.out hB3)
    clear hB3
    go_wp2
    go_ret
    exact ⟨by simp, HL3.out⟩
  · skip
    have d1 : decide (K < 1) = false := decide_eq_false h1
    have d2 : decide (K > 3) = false := decide_eq_false h2
    have d3 : decide (V < 2) = false := decide_eq_false h3
    have d4 : decide (V > 16) = false := decide_eq_false h4
    have d5 : decide (D < 1) = true := decide_eq_true h5
    clear h1 h2 h3 h4 h5
    go_enter Tryz.func3, Tryz.ntmps3
    go_wp2_with fail
    refine HM.out.mono ?_
    rintro e w1 ⟨rfl, hB⟩
    have HL : Hid (Below w.heap.size w (w1.alloc (.cells #[.int .i64 0, .int .i64 0, .int .i64 0, .int .i64 0, .slice none 0 0, .slice none 0 0, .slice none 0 0, .slice none 0 0, .slice none 0 0, .slice none 0 0, .slice none 0 0] 24))) := Lib.hid (laid hB _)
    have bM := Bk.new w1 24 #[.int .i64 0, .int .i64 0, .int .i64 0, .int .i64 0, .slice none 0 0, .slice none 0 0, .slice none 0 0, .slice none 0 0, .slice none 0 0, .slice none 0 0, .slice none 0 0]
    have HBM := Lib.hid bM
    clear hB bM
    go_wp2_with fail
    refine (HN.out _ HL.out).mono ?_
    rintro e w2 ⟨rfl, hB2⟩
    have HL2 := Lib.hid (behind HL.out hB2)
    have b2 := HBM.out.low hB2
    have l0 : w2.cell? ⟨w1.heap.size, 0, none⟩ = some (.int .i64 0) := b2.cell 0
    have l1 : w2.cell? ⟨w1.heap.size, 1, none⟩ = some (.int .i64 0) := b2.cell 1
    have l2 : w2.cell? ⟨w1.heap.size, 2, none⟩ = some (.int .i64 0) := b2.cell 2
    have l3 : w2.cell? ⟨w1.heap.size, 3, none⟩ = some (.int .i64 0) := b2.cell 3
    have l4 : w2.cell? ⟨w1.heap.size, 4, none⟩ = some (.slice none 0 0) := b2.cell 4
    have l5 : w2.cell? ⟨w1.heap.size, 5, none⟩ = some (.slice none 0 0) := b2.cell 5
    have l6 : w2.cell? ⟨w1.heap.size, 6, none⟩ = some (.slice none 0 0) := b2.cell 6
    have l7 : w2.cell? ⟨w1.heap.size, 7, none⟩ = some (.slice none 0 0) := b2.cell 7
    have l8 : w2.cell? ⟨w1.heap.size, 8, none⟩ = some (.slice none 0 0) := b2.cell 8
    have l9 : w2.cell? ⟨w1.heap.size, 9, none⟩ = some (.slice none 0 0) := b2.cell 9
    have l10 : w2.cell? ⟨w1.heap.size, 10, none⟩ = some (.slice none 0 0) := b2.cell 10
    clear hB2 b2 HBM HL
    go_wp2_with fail
    refine (HNM.out _).mono ?_
    rintro e w3 ⟨rfl, hB3⟩
    have HL3 := Lib.hid (behind HL2.out hB3)
    clear hB3
    go_wp2
    go_ret
    exact ⟨by simp, HL3.out⟩
  · skip
    have d1 : decide (K < 1) = false := decide_eq_false h1
    have d2 : decide (K > 3) = false := decide_eq_false h2
    have d3 : decide (V < 2) = false := decide_eq_false h3
    have d4 : decide (V > 16) = false := decide_eq_false h4
    have d5 : decide (D < 1) = false := decide_eq_false h5
    have d6 : decide (D > 5) = true := decide_eq_true h6
    clear h1 h2 h3 h4 h5 h6
    go_enter Tryz.func3, Tryz.ntmps3
    go_wp2_with fail
    refine HM.out.mono ?_
    rintro e w1 ⟨rfl, hB⟩
    have HL : Hid (Below w.heap.size w (w1.alloc (.cells #[.int .i64 0, .int .i64 0, .int .i64 0, .int .i64 0, .slice none 0 0, .slice none 0 0, .slice none 0 0, .slice none 0 0, .slice none 0 0, .slice none 0 0, .slice none 0 0] 24))) := Lib.hid (laid hB _)
    have bM := Bk.new w1 24 #[.int .i64 0, .int .i64 0, .int .i64 0, .int .i64 0, .slice none 0 0, .slice none 0 0, .slice none 0 0, .slice none 0 0, .slice none 0 0, .slice none 0 0, .slice none 0 0]
    have HBM := Lib.hid bM
    clear hB bM
    go_wp2_with fail
    refine (HN.out _ HL.out).mono ?_
    rintro e w2 ⟨rfl, hB2⟩
    have HL2 := Lib.hid (behind HL.out hB2)
    have b2 := HBM.out.low hB2
    have l0 : w2.cell? ⟨w1.heap.size, 0, none⟩ = some (.int .i64 0) := b2.cell 0
    have l1 : w2.cell? ⟨w1.heap.size, 1, none⟩ = some (.int .i64 0) := b2.cell 1
    have l2 : w2.cell? ⟨w1.heap.size, 2, none⟩ = some (.int .i64 0) := b2.cell 2
    have l3 : w2.cell? ⟨w1.heap.size, 3, none⟩ = some (.int .i64 0) := b2.cell 3
    have l4 : w2.cell? ⟨w1.heap.size, 4, none⟩ = some (.slice none 0 0) := b2.cell 4
    have l5 : w2.cell? ⟨w1.heap.size, 5, none⟩ = some (.slice none 0 0) := b2.cell 5
    have l6 : w2.cell? ⟨w1.heap.size, 6, none⟩ = some (.slice none 0 0) := b2.cell 6
    have l7 : w2.cell? ⟨w1.heap.size, 7, none⟩ = some (.slice none 0 0) := b2.cell 7
    have l8 : w2.cell? ⟨w1.heap.size, 8, none⟩ = some (.slice none 0 0) := b2.cell 8
    have l9 : w2.cell? ⟨w1.heap.size, 9, none⟩ = some (.slice none 0 0) := b2.cell 9
    have l10 : w2.cell? ⟨w1.heap.size, 10, none⟩ = some (.slice none 0 0) := b2.cell 10
    clear hB2 b2 HBM HL
    go_wp2_with fail
    refine (HNM.out _).mono ?_
    rintro e w3 ⟨rfl, hB3⟩
    have HL3 := Lib.hid (behind HL2.out hB3)
    clear hB3
    go_wp2
    go_ret
    exact ⟨by simp, HL3.out⟩
set_option maxHeartbeats 8000000 in
set_option maxRecDepth 100000 in
theorem mm_ok (s K V D : Int) (w : World) (htab : Tabs w) (hz : sizedM K V D = 0) :
    Calls Tryz.prog 3 #[.int .i64 s, .int .i64 K, .int .i64 V, .int .i64 D] w fun e w' => e = .returned (.bool true) ∧ Below w.heap.size w w' := by
  have HN : Hid (∀ W, Below w.heap.size w W → Calls Tryz.prog 8 #[] W fun e w' => e = .returned (.bool true) ∧ Below W.heap.size W w') := Lib.hid fun W hb => works_any W (htab.low hb)
  have HM := Lib.hid (make_ok s K V D w hz)
  have HMD := Lib.hid fun W => made_ok s K V D W hz
  have HMD1 := Lib.hid fun W => made_ok 1 1 8 4 W (by decide)
  have HDM := Lib.hid demo_any
  have HSA := Lib.hid (same_true (modM s K V D) (modM_sizes hz))
  have HSB := Lib.hid (same_true (modM 1 1 8 4) (modM_sizes (by decide)))
  obtain ⟨hK, g1, g2, g3, g4⟩ := sizedM_ok hz
  have k1 : ¬ K < 1 := by omega
  have k2 : ¬ K > 3 := by omega
  have k3 : ¬ V < 2 := by omega
  have k4 : ¬ V > 16 := by omega
  have k5 : ¬ D < 1 := by omega
  have k6 : ¬ D > 5 := by omega
  have d1 : decide (K < 1) = false := decide_eq_false k1
  have d2 : decide (K > 3) = false := decide_eq_false k2
  have d3 : decide (V < 2) = false := decide_eq_false k3
  have d4 : decide (V > 16) = false := decide_eq_false k4
  have d5 : decide (D < 1) = false := decide_eq_false k5
  have d6 : decide (D > 5) = false := decide_eq_false k6
  clear k1 k2 k3 k4 k5 k6
  generalize modM s K V D = M at HM HMD HSA
  generalize modM 1 1 8 4 = N at HMD1 HDM HSB
  clear hz htab hK g1 g2 g3 g4
  go_enter Tryz.func3, Tryz.ntmps3
  go_wp2_with fail
  refine HM.out.mono ?_
  rintro e w1 ⟨v, rfl, hB, hO⟩
  obtain ⟨a, b, c, d, e, f, g, rfl, h1, h2, h3, h4, h5, h6, h7⟩ := hO
  obtain ⟨A1, n1, c1, rfl⟩ := h1.form
  obtain ⟨A2, n2, c2, rfl⟩ := h2.form
  obtain ⟨A3, n3, c3, rfl⟩ := h3.form
  obtain ⟨A4, n4, c4, rfl⟩ := h4.form
  obtain ⟨A5, n5, c5, rfl⟩ := h5.form
  obtain ⟨A6, n6, c6, rfl⟩ := h6.form
  obtain ⟨A7, n7, c7, rfl⟩ := h7.form
  have HO := Lib.hid (show OwM w.heap.size w1 (.agg #[.int .i64 M.kind, .int .i64 M.vocab, .int .i64 M.width, .int .i64 M.top, .slice A1 n1 c1, .slice A2 n2 c2, .slice A3 n3 c3, .slice A4 n4 c4, .slice A5 n5 c5, .slice A6 n6 c6, .slice A7 n7 c7]) M from ⟨_, _, _, _, _, _, _, rfl, h1, h2, h3, h4, h5, h6, h7⟩)
  clear h1 h2 h3 h4 h5 h6 h7
  obtain ⟨W, hW⟩ : ∃ W, W = w1.alloc (.cells #[.int .i64 M.kind, .int .i64 M.vocab, .int .i64 M.width, .int .i64 M.top, .slice A1 n1 c1, .slice A2 n2 c2, .slice A3 n3 c3, .slice A4 n4 c4, .slice A5 n5 c5, .slice A6 n6 c6, .slice A7 n7 c7] 24) := ⟨_, rfl⟩
  have HBW : Hid (Below w.heap.size w W) := Lib.hid (by rw [hW]; exact laid hB _)
  have bM : Bk W w1.heap.size 24 #[.int .i64 M.kind, .int .i64 M.vocab, .int .i64 M.width, .int .i64 M.top, .slice A1 n1 c1, .slice A2 n2 c2, .slice A3 n3 c3, .slice A4 n4 c4, .slice A5 n5 c5, .slice A6 n6 c6, .slice A7 n7 c7] := by rw [hW]; exact Bk.new _ _ _
  have HVA : Hid (∀ w', Below W.heap.size W w' → VModel w'.cell? (.agg #[.int .i64 M.kind, .int .i64 M.vocab, .int .i64 M.width, .int .i64 M.top, .slice A1 n1 c1, .slice A2 n2 c2, .slice A3 n3 c3, .slice A4 n4 c4, .slice A5 n5 c5, .slice A6 n6 c6, .slice A7 n7 c7]) M) := Lib.hid (fun w' hb => (HO.out.val.keep (Keeps.of_below (by rw [hW]; exact laid (Below.refl _ _) _))).keep (Keeps.of_below hb))
  have HS : Hid (∀ w', Below W.heap.size W w' → w'.cell? ⟨w1.heap.size, 0, none⟩ = some (.int .i64 M.kind) ∧ w'.cell? ⟨w1.heap.size, 1, none⟩ = some (.int .i64 M.vocab) ∧ w'.cell? ⟨w1.heap.size, 2, none⟩ = some (.int .i64 M.width) ∧ w'.cell? ⟨w1.heap.size, 3, none⟩ = some (.int .i64 M.top) ∧ w'.cell? ⟨w1.heap.size, 4, none⟩ = some (.slice A1 n1 c1) ∧ w'.cell? ⟨w1.heap.size, 5, none⟩ = some (.slice A2 n2 c2) ∧ w'.cell? ⟨w1.heap.size, 6, none⟩ = some (.slice A3 n3 c3) ∧ w'.cell? ⟨w1.heap.size, 7, none⟩ = some (.slice A4 n4 c4) ∧ w'.cell? ⟨w1.heap.size, 8, none⟩ = some (.slice A5 n5 c5) ∧ w'.cell? ⟨w1.heap.size, 9, none⟩ = some (.slice A6 n6 c6) ∧ w'.cell? ⟨w1.heap.size, 10, none⟩ = some (.slice A7 n7 c7)) := Lib.hid fun w' hb => by
    have h := bM.low hb
    exact ⟨h.cell 0, h.cell 1, h.cell 2, h.cell 3, h.cell 4, h.cell 5, h.cell 6, h.cell 7, h.cell 8, h.cell 9, h.cell 10⟩
  have HC : Hid (Below W.heap.size W W.drew) := Lib.hid (Below.refl _ W).drew
  have HW := Lib.hid hW
  clear hW hB bM HO
  go_wp2_with fail
  rw [← HW.out]
  clear HW
  refine wp_region_steps (fun w' => w'.cell? ⟨w1.heap.size, 0, none⟩ = some (.int .i64 M.kind) ∧ w'.cell? ⟨w1.heap.size, 1, none⟩ = some (.int .i64 M.vocab) ∧ w'.cell? ⟨w1.heap.size, 2, none⟩ = some (.int .i64 M.width) ∧ w'.cell? ⟨w1.heap.size, 3, none⟩ = some (.int .i64 M.top) ∧ w'.cell? ⟨w1.heap.size, 4, none⟩ = some (.slice A1 n1 c1) ∧ w'.cell? ⟨w1.heap.size, 5, none⟩ = some (.slice A2 n2 c2) ∧ w'.cell? ⟨w1.heap.size, 6, none⟩ = some (.slice A3 n3 c3) ∧ w'.cell? ⟨w1.heap.size, 7, none⟩ = some (.slice A4 n4 c4) ∧ w'.cell? ⟨w1.heap.size, 8, none⟩ = some (.slice A5 n5 c5) ∧ w'.cell? ⟨w1.heap.size, 9, none⟩ = some (.slice A6 n6 c6) ∧ w'.cell? ⟨w1.heap.size, 10, none⟩ = some (.slice A7 n7 c7)) 19 [(0, false), (1, true), (2, true), (3, true), (4, true), (5, true), (6, true), (7, true), (8, true), (9, true), (10, true), (11, false), (12, false), (13, true), (14, true), (15, false), (16, false), (17, false), (18, true)] (by kernel_rfl) (by kernel_rfl) (HS.out _ HC.out) ?_
  refine wpOp_gen rfl (by rfl) fun K' hK' => ?_
  go_simp
  go_at_call 8
  refine (HN.out _ (HBW.out.trans (HC.out.mono HBW.out.size))).mono ?_
  rintro e w2 ⟨rfl, hBn⟩
  have HC' : Hid (Below W.heap.size W w2) := Lib.hid (HC.out.trans (hBn.mono HC.out.size))
  clear HC
  have HC := Lib.hid HC'.out
  clear HC' hBn
  go_wp2_with fail
  refine hK'.out _ _ ⟨(HS.out _ HC.out), ?_⟩
  clear hK' K'
  refine ⟨_, ?_, rfl, Or.inl ⟨by rfl, ?_⟩, fun _ _ _ h => h, ?_⟩
  rotate_left
  · intro w' hSw
    try dsimp only at hSw
    go_simp
    try with_reducible rfl
  simp only [Act.put, List.getElem_toArray, List.getElem_cons_succ, List.getElem_cons_zero, List.set_cons_succ, List.set_cons_zero, List.setIfInBounds_toArray]
  refine ⟨_, ?_, rfl, Or.inl ⟨by rfl, ?_⟩, fun _ _ _ h => h, ?_⟩
  rotate_left
  · intro w' hSw
    try dsimp only at hSw
    go_simp
    try with_reducible rfl
  simp only [Act.put, List.getElem_toArray, List.getElem_cons_succ, List.getElem_cons_zero, List.set_cons_succ, List.set_cons_zero, List.setIfInBounds_toArray]
  refine ⟨_, ?_, rfl, Or.inl ⟨by rfl, ?_⟩, fun _ _ _ h => h, ?_⟩
  rotate_left
  · intro w' hSw
    try dsimp only at hSw
    go_simp
    try with_reducible rfl
  simp only [Act.put, List.getElem_toArray, List.getElem_cons_succ, List.getElem_cons_zero, List.set_cons_succ, List.set_cons_zero, List.setIfInBounds_toArray]
  refine ⟨_, ?_, rfl, Or.inl ⟨by rfl, ?_⟩, fun _ _ _ h => h, ?_⟩
  rotate_left
  · intro w' hSw
    try dsimp only at hSw
    go_simp
    try with_reducible rfl
  simp only [Act.put, List.getElem_toArray, List.getElem_cons_succ, List.getElem_cons_zero, List.set_cons_succ, List.set_cons_zero, List.setIfInBounds_toArray]
  refine ⟨_, ?_, rfl, Or.inl ⟨by rfl, ?_⟩, fun _ _ _ h => h, ?_⟩
  rotate_left
  · intro w' hSw
    try dsimp only at hSw
    go_simp
    try with_reducible rfl
  simp only [Act.put, List.getElem_toArray, List.getElem_cons_succ, List.getElem_cons_zero, List.set_cons_succ, List.set_cons_zero, List.setIfInBounds_toArray]
  refine ⟨_, ?_, rfl, Or.inl ⟨by rfl, ?_⟩, fun _ _ _ h => h, ?_⟩
  rotate_left
  · intro w' hSw
    try dsimp only at hSw
    go_simp
    try with_reducible rfl
  simp only [Act.put, List.getElem_toArray, List.getElem_cons_succ, List.getElem_cons_zero, List.set_cons_succ, List.set_cons_zero, List.setIfInBounds_toArray]
  refine ⟨_, ?_, rfl, Or.inl ⟨by rfl, ?_⟩, fun _ _ _ h => h, ?_⟩
  rotate_left
  · intro w' hSw
    try dsimp only at hSw
    go_simp
    try with_reducible rfl
  simp only [Act.put, List.getElem_toArray, List.getElem_cons_succ, List.getElem_cons_zero, List.set_cons_succ, List.set_cons_zero, List.setIfInBounds_toArray]
  refine ⟨_, ?_, rfl, Or.inl ⟨by rfl, ?_⟩, fun _ _ _ h => h, ?_⟩
  rotate_left
  · intro w' hSw
    try dsimp only at hSw
    go_simp
    try with_reducible rfl
  simp only [Act.put, List.getElem_toArray, List.getElem_cons_succ, List.getElem_cons_zero, List.set_cons_succ, List.set_cons_zero, List.setIfInBounds_toArray]
  refine ⟨_, ?_, rfl, Or.inl ⟨by rfl, ?_⟩, fun _ _ _ h => h, ?_⟩
  rotate_left
  · intro w' hSw
    try dsimp only at hSw
    go_simp
    try with_reducible rfl
  simp only [Act.put, List.getElem_toArray, List.getElem_cons_succ, List.getElem_cons_zero, List.set_cons_succ, List.set_cons_zero, List.setIfInBounds_toArray]
  refine ⟨_, ?_, rfl, Or.inl ⟨by rfl, ?_⟩, fun _ _ _ h => h, ?_⟩
  rotate_left
  · intro w' hSw
    try dsimp only at hSw
    go_simp
    try with_reducible rfl
  simp only [Act.put, List.getElem_toArray, List.getElem_cons_succ, List.getElem_cons_zero, List.set_cons_succ, List.set_cons_zero, List.setIfInBounds_toArray]
  refine wpOp_gen rfl (by rfl) fun K' hK' => ?_
  go_simp
  go_at_call 11
  refine (HMD.out _).mono ?_
  rintro e w3 ⟨v1, rfl, hBn, hv⟩
  have HV1 := Lib.hid hv.val
  clear hv
  have HC' : Hid (Below W.heap.size W w3) := Lib.hid (HC.out.trans (hBn.mono HC.out.size))
  clear HC
  have HC := Lib.hid HC'.out
  clear HC' hBn
  go_wp2_with fail
  refine hK'.out _ _ ⟨(HS.out _ HC.out), ?_⟩
  clear hK' K'
  refine wpOp_gen rfl (by rfl) fun K' hK' => ?_
  go_simp
  go_at_call 10
  refine (HSA.out _ v1 _ (HVA.out _ HC.out) HV1.out).mono ?_
  rintro e w4 ⟨rfl, hBn⟩
  have HC' : Hid (Below W.heap.size W w4) := Lib.hid (HC.out.trans (hBn.mono HC.out.size))
  clear HC
  have HC := Lib.hid HC'.out
  clear HC' hBn
  go_wp2_with fail
  refine hK'.out _ _ ⟨(HS.out _ HC.out), ?_⟩
  clear hK' K'
  refine ⟨_, ?_, rfl, Or.inl ⟨by rfl, ?_⟩, fun _ _ _ h => h, ?_⟩
  rotate_left
  · intro w' hSw
    try dsimp only at hSw
    go_simp
    try with_reducible rfl
  simp only [Act.put, List.getElem_toArray, List.getElem_cons_succ, List.getElem_cons_zero, List.set_cons_succ, List.set_cons_zero, List.setIfInBounds_toArray]
  refine ⟨_, ?_, rfl, Or.inl ⟨by rfl, ?_⟩, fun _ _ _ h => h, ?_⟩
  rotate_left
  · intro w' hSw
    try dsimp only at hSw
    go_simp
    try with_reducible rfl
  simp only [Act.put, List.getElem_toArray, List.getElem_cons_succ, List.getElem_cons_zero, List.set_cons_succ, List.set_cons_zero, List.setIfInBounds_toArray]
  refine wpOp_gen rfl (by rfl) fun K' hK' => ?_
  go_simp
  go_at_call 12
  refine (HDM.out _).mono ?_
  rintro e w5 ⟨v3, rfl, hBn, hv⟩
  have HV3 := Lib.hid hv
  clear hv
  have HC' : Hid (Below W.heap.size W w5) := Lib.hid (HC.out.trans (hBn.mono HC.out.size))
  clear HC
  have HC := Lib.hid HC'.out
  clear HC' hBn
  go_wp2_with fail
  refine hK'.out _ _ ⟨(HS.out _ HC.out), ?_⟩
  clear hK' K'
  refine wpOp_gen rfl (by rfl) fun K' hK' => ?_
  go_simp
  go_at_call 11
  refine (HMD1.out _).mono ?_
  rintro e w6 ⟨v2, rfl, hBn, hv⟩
  have HV2 := Lib.hid hv.val
  clear hv
  have HJ3 := Lib.hid (HV3.out.keep (Keeps.of_below hBn))
  clear HV3
  have HV3 := Lib.hid HJ3.out
  clear HJ3
  have HC' : Hid (Below W.heap.size W w6) := Lib.hid (HC.out.trans (hBn.mono HC.out.size))
  clear HC
  have HC := Lib.hid HC'.out
  clear HC' hBn
  go_wp2_with fail
  refine hK'.out _ _ ⟨(HS.out _ HC.out), ?_⟩
  clear hK' K'
  refine wpOp_gen rfl (by rfl) fun K' hK' => ?_
  go_simp
  go_at_call 10
  refine (HSB.out v3 v2 _ HV3.out HV2.out).mono ?_
  rintro e w7 ⟨rfl, hBn⟩
  have HC' : Hid (Below W.heap.size W w7) := Lib.hid (HC.out.trans (hBn.mono HC.out.size))
  clear HC
  have HC := Lib.hid HC'.out
  clear HC' hBn
  go_wp2_with fail
  refine hK'.out _ _ ⟨(HS.out _ HC.out), ?_⟩
  clear hK' K'
  refine ⟨_, ?_, rfl, Or.inl ⟨by rfl, ?_⟩, fun _ _ _ h => h, ?_⟩
  rotate_left
  · intro w' hSw
    try dsimp only at hSw
    go_simp
    try with_reducible rfl
  simp only [Act.put, List.getElem_toArray, List.getElem_cons_succ, List.getElem_cons_zero, List.set_cons_succ, List.set_cons_zero, List.setIfInBounds_toArray]
  change wpList _ _ _ _ _ _
  simp only [List.drop_succ_cons, List.drop_zero]
  go_wp2
  go_ret
  exact ⟨by simp, HBW.out.trans (HC.out.mono HBW.out.size)⟩
/-- the law -/
theorem mm_law (s K V D : Int) (w : World) (htab : Tabs w) :
    Calls Tryz.prog 3 #[.int .i64 s, .int .i64 K, .int .i64 V, .int .i64 D] w fun e w' => e = .returned (.bool true) ∧ Below w.heap.size w w' := by
  by_cases h : sizedM K V D = 0
  · exact mm_ok s K V D w htab h
  · exact mm_err s K V D w htab h
end Go.Proofs.YtldjemlmjfpmjaaGreatDoor
