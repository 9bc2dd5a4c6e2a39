/-
  The law ModelSamples: the walk.
-/
import Derived.Test.YtgaiibkkompbnaaGreatDoorSamR
import Derived.Test.YtgaiibkkompbnaaGreatDoorWorks
namespace Go.Proofs.YtgaiibkkompbnaaGreatDoor
open Go.RowKit

theorem samOf_zero1 {ws : List Int} {d : Int} (h : ¬ (samOf ws d).2 = 0) : (samOf ws d).1 = 0 := by
  unfold samOf at h ⊢
  split
  · rfl
  · split
    · rfl
    · split
      · split
        · rfl
        · split
          · rename_i h1 h2 h3 h4 h5
            rw [if_neg h1, if_neg h2, if_pos h3, if_neg h4, if_pos h5] at h
            exact absurd rfl h
          · rfl
      · rfl
theorem samOf_fine {ws : List Int} {d : Int} (h : (samOf ws d).2 = 0) : 1 ≤ ws.length ∧ ws.length ≤ 1024 ∧ (∀ x ∈ ws, good x = true) ∧ ¬ sumI ws = 0 ∧ 0 ≤ d ∧ d ≤ 4294967295 ∧ (samOf ws d).1 = (pk ws (d * sumI ws / 4294967296) 0 : Nat) := by
  unfold samOf at h ⊢
  split
  · rename_i h1; rw [if_pos h1] at h; exact absurd h (by decide)
  · rename_i h1
    rw [if_neg h1] at h
    split
    · rename_i h2; rw [if_pos h2] at h; exact absurd h (by decide)
    · rename_i h2
      rw [if_neg h2] at h
      split
      · rename_i h3
        rw [if_pos h3] at h
        split
        · rename_i h4; rw [if_pos h4] at h; exact absurd h (by decide)
        · rename_i h4
          rw [if_neg h4] at h
          split
          · rename_i h5
            have : 0 ≤ d ∧ d ≤ 4294967295 := by simpa [inB] using h5
            exact ⟨by omega, by omega, List.all_eq_true.1 h3, h4, this.1, this.2, rfl⟩
          · rename_i h5; rw [if_neg h5] at h; exact absurd h (by decide)
      · rename_i h3; rw [if_neg h3] at h; exact absurd h (by decide)
set_option maxHeartbeats 1000000 in
set_option maxRecDepth 100000 in
theorem samples_gen (ws : List Int) (d : Int) (A : Option Addr) (n c : Nat) (w : World) (htab : Tabs w)
    (hS : ∀ W, Below w.heap.size w W → Calls Tryz.prog 4 #[.slice A n c, .int .i64 d] W (SamPost ws d W))
    (hF : ∀ W, Below w.heap.size w W → Calls Tryz.prog 5 #[.slice A n c, .int .i64 d] W (SfPost ws d W))
    (hR : (samOf ws d).2 = 0 → ∀ W, Below w.heap.size w W → Calls Tryz.prog 7 #[.slice A n c, .int .i64 d] W fun e w' => e = .returned (.int .i64 (samOf ws d).1) ∧ w' = W) :
    Calls Tryz.prog 3 #[.slice A n c, .int .i64 d] w fun e w' => e = .returned (.bool true) ∧ Below w.heap.size w w' := by
  have HN : Hid (∀ W, Below w.heap.size w W → Calls Tryz.prog 6 #[] W fun e w' => e = .returned (.bool true) ∧ Below W.heap.size W w') := Lib.hid fun W hb => works_any W (htab.low hb)
  obtain ⟨q1, hq1⟩ : ∃ q, (samOf ws d).1 = q := ⟨_, rfl⟩
  obtain ⟨q2, hq2⟩ : ∃ q, (samOf ws d).2 = q := ⟨_, rfl⟩
  have hz := samOf_zero1 (ws := ws) (d := d)
  unfold SamPost at hS
  unfold SfPost at hF
  rw [hq1, hq2] at hS hR hz
  rw [hq2] at hF
  have HS := Lib.hid hS
  have HF := Lib.hid hF
  have HR := Lib.hid hR
  clear hS hF hR htab hq1 hq2
  by_cases h0 : q2 = 0
  · subst h0
    clear hz
    go_enter Tryz.func3, Tryz.ntmps3
    go_wp2_with fail
    refine (HS.out _ (Below.refl _ _)).mono ?_
    rintro e w1 ⟨rfl, hB⟩
    have HB := Lib.hid hB
    clear hB
    go_wp2_with fail
    refine (HF.out _ HB.out).mono ?_
    rintro e w2 ⟨rfl, rfl⟩
    go_wp2_with fail
    refine (HN.out _ HB.out).mono ?_
    rintro e w3 ⟨rfl, hB⟩
    have HB3 := Lib.hid (behind HB.out hB)
    clear hB
    go_wp2_with fail
    refine (HR.out (by first | trivial | rfl) _ HB3.out).mono ?_
    rintro e w4 ⟨rfl, rfl⟩
    go_wp2
    go_ret
    exact ⟨by simp, HB3.out⟩
  · have hz1 : q1 = 0 := hz h0
    subst hz1
    have h0' : (q2 == 0) = false := by simpa using h0
    have h0'' : (q2 != 0) = true := by simpa using h0
    clear hz h0
    go_enter Tryz.func3, Tryz.ntmps3
    go_wp2_with fail
    refine (HS.out _ (Below.refl _ _)).mono ?_
    rintro e w1 ⟨rfl, hB⟩
    have HB := Lib.hid hB
    clear hB
    go_wp2_with fail
    refine (HF.out _ HB.out).mono ?_
    rintro e w2 ⟨rfl, rfl⟩
    go_wp2_with fail
    refine (HN.out _ HB.out).mono ?_
    rintro e w3 ⟨rfl, hB⟩
    have HB3 := Lib.hid (behind HB.out hB)
    clear hB
    go_wp2
    go_ret
    exact ⟨by simp, HB3.out⟩
/-- the law, for the slice that comes in -/
theorem samples_law (v : Value) (ws : List Int) (d : Int) (w : World) (h : LI w v ws) (htab : Tabs w) :
    Calls Tryz.prog 3 #[v, .int .i64 d] w fun e w' => e = .returned (.bool true) ∧ Below w.heap.size w w' := by
  obtain ⟨A, c, rfl⟩ := h.form
  by_cases h0 : ws.length = 0
  · have hw : ws = [] := List.length_eq_zero_iff.1 h0
    subst hw
    exact samples_gen [] d A _ c w htab (fun W _ => sam_none d A c W) (fun W _ => sf_none d A c W) (fun h => absurd (samOf_fine h).1 (by decide))
  · by_cases h1 : 1024 < ws.length
    · exact samples_gen ws d A _ c w htab (fun W _ => sam_large ws d A _ c W rfl h1) (fun W _ => sf_large ws d A _ c W rfl h1) (fun h => absurd (samOf_fine h).2.1 (by omega))
    · obtain ⟨b, o, rfl, hc⟩ := h.at_ (by omega)
      have hcap : ws.length ≤ c ∧ c ≤ maxLen := by
        obtain ⟨⟨A', c', e, e1, e2, -⟩, -⟩ := h
        injection e with _ _ e3
        subst e3
        rw [i64s_length] at e1
        exact ⟨e1, e2⟩
      have hcW : ∀ W, Below w.heap.size w W → ∀ j, j < ws.length → W.cell? ⟨b, o + j, none⟩ = some (.int .i64 (ws[j]?.getD 0)) := fun W hb j hj => Keeps.of_below hb _ _ (hc j hj)
      exact samples_gen ws d _ _ c w htab (fun W hb => sam_run ws d _ b o c W rfl (by omega) (by omega) hcap.1 hcap.2 (hcW W hb)) (fun W hb => sf_run ws d _ b o c W rfl (by omega) (by omega) (hcW W hb))
        (fun hf W hb => by
          obtain ⟨f1, f2, f3, f4, f5, f6, f7⟩ := samOf_fine hf
          rw [f7]
          exact sampled_run ws d _ b o c W rfl f1 f2 (hcW W hb) f3 f4 f5 f6)
end Go.Proofs.YtgaiibkkompbnaaGreatDoor
