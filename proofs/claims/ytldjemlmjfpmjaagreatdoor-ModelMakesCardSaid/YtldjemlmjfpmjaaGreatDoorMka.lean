/-
  The two ways of making a model, for every input.
-/
import Derived.Test.YtldjemlmjfpmjaaGreatDoorMkr
import Derived.Test.YtldjemlmjfpmjaaGreatDoorSmd
namespace Go.Proofs.YtldjemlmjfpmjaaGreatDoor
open Go.RowKit

theorem eqL_refl {α : Type} {eq : α → α → Bool} (h : ∀ a, eq a a = true) : ∀ l : List α, eqL eq l l = true := by
  intro l
  induction l with
  | nil => rfl
  | cons a l ih => simp [eqL, h, ih]
/-- the model that is made of good sizes -/
def modM (s K V D : Int) : LModel := madeM s K V D (V * D - 1).toNat (4 * D - 1).toNat ((if K = 1 then 3 * D else 2 * D) * D - 1).toNat
theorem sizedM_ok {K V D : Int} (h : sizedM K V D = 0) : (K = 1 ∨ K = 2 ∨ K = 3) ∧ 2 ≤ V ∧ V ≤ 16 ∧ 1 ≤ D ∧ D ≤ 5 := by
  unfold sizedM at h
  split at h
  · rename_i h1
    split at h
    · rename_i h2
      simp [inB] at h1 h2
      omega
    · cases h
  · cases h
theorem modM_sizes {s K V D : Int} (h : sizedM K V D = 0) : ∀ x ∈ listsM (modM s K V D), x.length ≤ 2000 := by
  obtain ⟨hK, h1, h2, h3, h4⟩ := sizedM_ok h
  have e1 : (V * D - 1).toNat ≤ 100 := by
    rcases (show D = 1 ∨ D = 2 ∨ D = 3 ∨ D = 4 ∨ D = 5 by omega) with rfl | rfl | rfl | rfl | rfl <;> omega
  have e2 : (4 * D - 1).toNat ≤ 100 := by omega
  have e3 : ((if K = 1 then 3 * D else 2 * D) * D - 1).toNat ≤ 100 := by
    split <;> rcases (show D = 1 ∨ D = 2 ∨ D = 3 ∨ D = 4 ∨ D = 5 by omega) with rfl | rfl | rfl | rfl | rfl <;> omega
  intro x hx
  simp only [listsM, modM, madeM, List.mem_cons, List.not_mem_nil, or_false] at hx
  rcases hx with rfl | rfl | rfl | rfl | rfl | rfl | rfl <;> (try rw [matL_length]) <;> first | omega | decide | (simp; done)
def zeroV : Value := .agg #[.int .i64 0, .int .i64 0, .int .i64 0, .int .i64 0, .slice none 0 0, .slice none 0 0, .slice none 0 0, .slice none 0 0, .slice none 0 0, .slice none 0 0, .slice none 0 0]
theorem make_ok (s K V D : Int) (w : World) (h : sizedM K V D = 0) :
    Calls Tryz.prog 7 #[.int .i64 s, .int .i64 K, .int .i64 V, .int .i64 D] w fun e w' => ∃ v, e = .returned (.tuple #[v, .int .i64 0]) ∧ Below w.heap.size w w' ∧ OwM w.heap.size w' v (modM s K V D) := by
  obtain ⟨hK, h1, h2, h3, h4⟩ := sizedM_ok h
  have e1 : V * D = ((V * D - 1).toNat : Int) + 1 := by
    rcases (show D = 1 ∨ D = 2 ∨ D = 3 ∨ D = 4 ∨ D = 5 by omega) with rfl | rfl | rfl | rfl | rfl <;> omega
  have e2 : 4 * D = ((4 * D - 1).toNat : Int) + 1 := by omega
  rcases hK with rfl | rfl | rfl
  · exact make_1 s V D _ _ _ (3 * D).toNat w h1 h2 h3 h4 e1 e2 (by omega) (by
      rcases (show D = 1 ∨ D = 2 ∨ D = 3 ∨ D = 4 ∨ D = 5 by omega) with rfl | rfl | rfl | rfl | rfl <;> rfl)
  · exact make_2 s V D _ _ _ (2 * D).toNat w h1 h2 h3 h4 e1 e2 (by omega) (by
      rcases (show D = 1 ∨ D = 2 ∨ D = 3 ∨ D = 4 ∨ D = 5 by omega) with rfl | rfl | rfl | rfl | rfl <;> rfl)
  · exact make_3 s V D _ _ _ (2 * D).toNat w h1 h2 h3 h4 e1 e2 (by omega) (by
      rcases (show D = 1 ∨ D = 2 ∨ D = 3 ∨ D = 4 ∨ D = 5 by omega) with rfl | rfl | rfl | rfl | rfl <;> rfl)
theorem made_ok (s K V D : Int) (w : World) (h : sizedM K V D = 0) :
    Calls Tryz.prog 11 #[.int .i64 s, .int .i64 K, .int .i64 V, .int .i64 D] w fun e w' => ∃ v, e = .returned v ∧ Below w.heap.size w w' ∧ OwM w.heap.size w' v (modM s K V D) := by
  obtain ⟨hK, h1, h2, h3, h4⟩ := sizedM_ok h
  have e1 : V * D = ((V * D - 1).toNat : Int) + 1 := by
    rcases (show D = 1 ∨ D = 2 ∨ D = 3 ∨ D = 4 ∨ D = 5 by omega) with rfl | rfl | rfl | rfl | rfl <;> omega
  have e2 : 4 * D = ((4 * D - 1).toNat : Int) + 1 := by omega
  rcases hK with rfl | rfl | rfl
  · exact made_1 s V D _ _ _ (3 * D).toNat w h1 h2 h3 h4 e1 e2 (by omega) (by
      rcases (show D = 1 ∨ D = 2 ∨ D = 3 ∨ D = 4 ∨ D = 5 by omega) with rfl | rfl | rfl | rfl | rfl <;> rfl)
  · exact made_2 s V D _ _ _ (2 * D).toNat w h1 h2 h3 h4 e1 e2 (by omega) (by
      rcases (show D = 1 ∨ D = 2 ∨ D = 3 ∨ D = 4 ∨ D = 5 by omega) with rfl | rfl | rfl | rfl | rfl <;> rfl)
  · exact made_3 s V D _ _ _ (2 * D).toNat w h1 h2 h3 h4 e1 e2 (by omega) (by
      rcases (show D = 1 ∨ D = 2 ∨ D = 3 ∨ D = 4 ∨ D = 5 by omega) with rfl | rfl | rfl | rfl | rfl <;> rfl)
set_option maxHeartbeats 4000000 in
set_option maxRecDepth 100000 in
theorem noModel_zero (w : World) : Calls Tryz.prog 9 #[.agg #[.int .i64 0, .int .i64 0, .int .i64 0, .int .i64 0, .slice none 0 0, .slice none 0 0, .slice none 0 0, .slice none 0 0, .slice none 0 0, .slice none 0 0, .slice none 0 0]] w fun e w' => e = .returned (.bool true) ∧ Below w.heap.size w w' := by
  go_enter Tryz.func9, Tryz.ntmps9
  go_wp2
  go_ret
  refine ⟨by first | rfl | simp, ?_⟩
  repeat (first | exact Below.refl _ _ | refine Below.setCell ?_ (by go_simp) _ | refine Below.alloc ?_ (by go_simp) _)
set_option maxHeartbeats 8000000 in
set_option maxRecDepth 100000 in
theorem demo_any (w : World) : Calls Tryz.prog 12 #[] w fun e w' => ∃ v, e = .returned v ∧ Below w.heap.size w w' ∧ VModel w'.cell? v (modM 1 1 8 4) := by
  obtain ⟨W0, hW0⟩ : ∃ W0, W0 = w.alloc (.cells #[.int .i64 0, .int .i64 0, .int .i64 0, .int .i64 0, .slice none 0 0, .slice none 0 0, .slice none 0 0, .slice none 0 0, .slice none 0 0, .slice none 0 0, .slice none 0 0] 24) := ⟨_, rfl⟩
  have hz0 : W0.heap.size = w.heap.size + 1 := by rw [hW0, World.size_alloc]
  have hb0 : Bk W0 w.heap.size 24 #[.int .i64 0, .int .i64 0, .int .i64 0, .int .i64 0, .slice none 0 0, .slice none 0 0, .slice none 0 0, .slice none 0 0, .slice none 0 0, .slice none 0 0, .slice none 0 0] := by rw [hW0]; exact Bk.new _ _ _
  have hl0 : Below w.heap.size w W0 := by rw [hW0]; exact laid (Below.refl _ _) _
  have HMK := Lib.hid (make_ok 1 1 8 4 W0 (by decide))
  have HB0 := Lib.hid hb0
  have HL0 := Lib.hid hl0
  have HZ0 := Lib.hid hz0
  have HW0 := Lib.hid hW0
  clear hW0 hz0 hb0 hl0
  go_enter Tryz.func12, Tryz.ntmps12
  go_wp2_with fail
  rw [← HW0.out]
  clear HW0
  refine HMK.out.mono ?_
  rintro e w1 ⟨v, rfl, hB, hO⟩
  obtain ⟨a, b, c, d, e, f, g, rfl, h1, h2, h3, h4, h5, h6, h7⟩ := hO
  obtain ⟨A1, n1, c1, rfl⟩ := h1.form
  obtain ⟨A2, n2, c2, rfl⟩ := h2.form
  obtain ⟨A3, n3, c3, rfl⟩ := h3.form
  obtain ⟨A4, n4, c4, rfl⟩ := h4.form
  obtain ⟨A5, n5, c5, rfl⟩ := h5.form
  obtain ⟨A6, n6, c6, rfl⟩ := h6.form
  obtain ⟨A7, n7, c7, rfl⟩ := h7.form
  have HO := Lib.hid (show OwM W0.heap.size w1 (.agg #[.int .i64 (modM 1 1 8 4).kind, .int .i64 (modM 1 1 8 4).vocab, .int .i64 (modM 1 1 8 4).width, .int .i64 (modM 1 1 8 4).top, .slice A1 n1 c1, .slice A2 n2 c2, .slice A3 n3 c3, .slice A4 n4 c4, .slice A5 n5 c5, .slice A6 n6 c6, .slice A7 n7 c7]) (modM 1 1 8 4) from ⟨_, _, _, _, _, _, _, rfl, h1, h2, h3, h4, h5, h6, h7⟩)
  clear h1 h2 h3 h4 h5 h6 h7
  have bR : Bk (w1.alloc (.cells #[.int .i64 (modM 1 1 8 4).kind, .int .i64 (modM 1 1 8 4).vocab, .int .i64 (modM 1 1 8 4).width, .int .i64 (modM 1 1 8 4).top, .slice A1 n1 c1, .slice A2 n2 c2, .slice A3 n3 c3, .slice A4 n4 c4, .slice A5 n5 c5, .slice A6 n6 c6, .slice A7 n7 c7] 24)) w.heap.size 24 #[.int .i64 0, .int .i64 0, .int .i64 0, .int .i64 0, .slice none 0 0, .slice none 0 0, .slice none 0 0, .slice none 0 0, .slice none 0 0, .slice none 0 0, .slice none 0 0] := (HB0.out.low hB).alloc _
  have bL : Bk (w1.alloc (.cells #[.int .i64 (modM 1 1 8 4).kind, .int .i64 (modM 1 1 8 4).vocab, .int .i64 (modM 1 1 8 4).width, .int .i64 (modM 1 1 8 4).top, .slice A1 n1 c1, .slice A2 n2 c2, .slice A3 n3 c3, .slice A4 n4 c4, .slice A5 n5 c5, .slice A6 n6 c6, .slice A7 n7 c7] 24)) w1.heap.size 24 #[.int .i64 (modM 1 1 8 4).kind, .int .i64 (modM 1 1 8 4).vocab, .int .i64 (modM 1 1 8 4).width, .int .i64 (modM 1 1 8 4).top, .slice A1 n1 c1, .slice A2 n2 c2, .slice A3 n3 c3, .slice A4 n4 c4, .slice A5 n5 c5, .slice A6 n6 c6, .slice A7 n7 c7] := Bk.new _ _ _
  have l0 : (w1.alloc (.cells #[.int .i64 (modM 1 1 8 4).kind, .int .i64 (modM 1 1 8 4).vocab, .int .i64 (modM 1 1 8 4).width, .int .i64 (modM 1 1 8 4).top, .slice A1 n1 c1, .slice A2 n2 c2, .slice A3 n3 c3, .slice A4 n4 c4, .slice A5 n5 c5, .slice A6 n6 c6, .slice A7 n7 c7] 24)).cell? ⟨w1.heap.size, 0, none⟩ = some (.int .i64 (modM 1 1 8 4).kind) := bL.cell 0
  have l1 : (w1.alloc (.cells #[.int .i64 (modM 1 1 8 4).kind, .int .i64 (modM 1 1 8 4).vocab, .int .i64 (modM 1 1 8 4).width, .int .i64 (modM 1 1 8 4).top, .slice A1 n1 c1, .slice A2 n2 c2, .slice A3 n3 c3, .slice A4 n4 c4, .slice A5 n5 c5, .slice A6 n6 c6, .slice A7 n7 c7] 24)).cell? ⟨w1.heap.size, 1, none⟩ = some (.int .i64 (modM 1 1 8 4).vocab) := bL.cell 1
  have l2 : (w1.alloc (.cells #[.int .i64 (modM 1 1 8 4).kind, .int .i64 (modM 1 1 8 4).vocab, .int .i64 (modM 1 1 8 4).width, .int .i64 (modM 1 1 8 4).top, .slice A1 n1 c1, .slice A2 n2 c2, .slice A3 n3 c3, .slice A4 n4 c4, .slice A5 n5 c5, .slice A6 n6 c6, .slice A7 n7 c7] 24)).cell? ⟨w1.heap.size, 2, none⟩ = some (.int .i64 (modM 1 1 8 4).width) := bL.cell 2
  have l3 : (w1.alloc (.cells #[.int .i64 (modM 1 1 8 4).kind, .int .i64 (modM 1 1 8 4).vocab, .int .i64 (modM 1 1 8 4).width, .int .i64 (modM 1 1 8 4).top, .slice A1 n1 c1, .slice A2 n2 c2, .slice A3 n3 c3, .slice A4 n4 c4, .slice A5 n5 c5, .slice A6 n6 c6, .slice A7 n7 c7] 24)).cell? ⟨w1.heap.size, 3, none⟩ = some (.int .i64 (modM 1 1 8 4).top) := bL.cell 3
  have l4 : (w1.alloc (.cells #[.int .i64 (modM 1 1 8 4).kind, .int .i64 (modM 1 1 8 4).vocab, .int .i64 (modM 1 1 8 4).width, .int .i64 (modM 1 1 8 4).top, .slice A1 n1 c1, .slice A2 n2 c2, .slice A3 n3 c3, .slice A4 n4 c4, .slice A5 n5 c5, .slice A6 n6 c6, .slice A7 n7 c7] 24)).cell? ⟨w1.heap.size, 4, none⟩ = some (.slice A1 n1 c1) := bL.cell 4
  have l5 : (w1.alloc (.cells #[.int .i64 (modM 1 1 8 4).kind, .int .i64 (modM 1 1 8 4).vocab, .int .i64 (modM 1 1 8 4).width, .int .i64 (modM 1 1 8 4).top, .slice A1 n1 c1, .slice A2 n2 c2, .slice A3 n3 c3, .slice A4 n4 c4, .slice A5 n5 c5, .slice A6 n6 c6, .slice A7 n7 c7] 24)).cell? ⟨w1.heap.size, 5, none⟩ = some (.slice A2 n2 c2) := bL.cell 5
  have l6 : (w1.alloc (.cells #[.int .i64 (modM 1 1 8 4).kind, .int .i64 (modM 1 1 8 4).vocab, .int .i64 (modM 1 1 8 4).width, .int .i64 (modM 1 1 8 4).top, .slice A1 n1 c1, .slice A2 n2 c2, .slice A3 n3 c3, .slice A4 n4 c4, .slice A5 n5 c5, .slice A6 n6 c6, .slice A7 n7 c7] 24)).cell? ⟨w1.heap.size, 6, none⟩ = some (.slice A3 n3 c3) := bL.cell 6
  have l7 : (w1.alloc (.cells #[.int .i64 (modM 1 1 8 4).kind, .int .i64 (modM 1 1 8 4).vocab, .int .i64 (modM 1 1 8 4).width, .int .i64 (modM 1 1 8 4).top, .slice A1 n1 c1, .slice A2 n2 c2, .slice A3 n3 c3, .slice A4 n4 c4, .slice A5 n5 c5, .slice A6 n6 c6, .slice A7 n7 c7] 24)).cell? ⟨w1.heap.size, 7, none⟩ = some (.slice A4 n4 c4) := bL.cell 7
  have l8 : (w1.alloc (.cells #[.int .i64 (modM 1 1 8 4).kind, .int .i64 (modM 1 1 8 4).vocab, .int .i64 (modM 1 1 8 4).width, .int .i64 (modM 1 1 8 4).top, .slice A1 n1 c1, .slice A2 n2 c2, .slice A3 n3 c3, .slice A4 n4 c4, .slice A5 n5 c5, .slice A6 n6 c6, .slice A7 n7 c7] 24)).cell? ⟨w1.heap.size, 8, none⟩ = some (.slice A5 n5 c5) := bL.cell 8
  have l9 : (w1.alloc (.cells #[.int .i64 (modM 1 1 8 4).kind, .int .i64 (modM 1 1 8 4).vocab, .int .i64 (modM 1 1 8 4).width, .int .i64 (modM 1 1 8 4).top, .slice A1 n1 c1, .slice A2 n2 c2, .slice A3 n3 c3, .slice A4 n4 c4, .slice A5 n5 c5, .slice A6 n6 c6, .slice A7 n7 c7] 24)).cell? ⟨w1.heap.size, 9, none⟩ = some (.slice A6 n6 c6) := bL.cell 9
  have l10 : (w1.alloc (.cells #[.int .i64 (modM 1 1 8 4).kind, .int .i64 (modM 1 1 8 4).vocab, .int .i64 (modM 1 1 8 4).width, .int .i64 (modM 1 1 8 4).top, .slice A1 n1 c1, .slice A2 n2 c2, .slice A3 n3 c3, .slice A4 n4 c4, .slice A5 n5 c5, .slice A6 n6 c6, .slice A7 n7 c7] 24)).cell? ⟨w1.heap.size, 10, none⟩ = some (.slice A7 n7 c7) := bL.cell 10
  have r0 : (w1.alloc (.cells #[.int .i64 (modM 1 1 8 4).kind, .int .i64 (modM 1 1 8 4).vocab, .int .i64 (modM 1 1 8 4).width, .int .i64 (modM 1 1 8 4).top, .slice A1 n1 c1, .slice A2 n2 c2, .slice A3 n3 c3, .slice A4 n4 c4, .slice A5 n5 c5, .slice A6 n6 c6, .slice A7 n7 c7] 24)).cell? ⟨w.heap.size, 0, none⟩ = some (.int .i64 0) := bR.cell 0
  have q0 := bR.frozen 0
  have r1 : (w1.alloc (.cells #[.int .i64 (modM 1 1 8 4).kind, .int .i64 (modM 1 1 8 4).vocab, .int .i64 (modM 1 1 8 4).width, .int .i64 (modM 1 1 8 4).top, .slice A1 n1 c1, .slice A2 n2 c2, .slice A3 n3 c3, .slice A4 n4 c4, .slice A5 n5 c5, .slice A6 n6 c6, .slice A7 n7 c7] 24)).cell? ⟨w.heap.size, 1, none⟩ = some (.int .i64 0) := bR.cell 1
  have q1 := bR.frozen 1
  have r2 : (w1.alloc (.cells #[.int .i64 (modM 1 1 8 4).kind, .int .i64 (modM 1 1 8 4).vocab, .int .i64 (modM 1 1 8 4).width, .int .i64 (modM 1 1 8 4).top, .slice A1 n1 c1, .slice A2 n2 c2, .slice A3 n3 c3, .slice A4 n4 c4, .slice A5 n5 c5, .slice A6 n6 c6, .slice A7 n7 c7] 24)).cell? ⟨w.heap.size, 2, none⟩ = some (.int .i64 0) := bR.cell 2
  have q2 := bR.frozen 2
  have r3 : (w1.alloc (.cells #[.int .i64 (modM 1 1 8 4).kind, .int .i64 (modM 1 1 8 4).vocab, .int .i64 (modM 1 1 8 4).width, .int .i64 (modM 1 1 8 4).top, .slice A1 n1 c1, .slice A2 n2 c2, .slice A3 n3 c3, .slice A4 n4 c4, .slice A5 n5 c5, .slice A6 n6 c6, .slice A7 n7 c7] 24)).cell? ⟨w.heap.size, 3, none⟩ = some (.int .i64 0) := bR.cell 3
  have q3 := bR.frozen 3
  have r4 : (w1.alloc (.cells #[.int .i64 (modM 1 1 8 4).kind, .int .i64 (modM 1 1 8 4).vocab, .int .i64 (modM 1 1 8 4).width, .int .i64 (modM 1 1 8 4).top, .slice A1 n1 c1, .slice A2 n2 c2, .slice A3 n3 c3, .slice A4 n4 c4, .slice A5 n5 c5, .slice A6 n6 c6, .slice A7 n7 c7] 24)).cell? ⟨w.heap.size, 4, none⟩ = some (.slice none 0 0) := bR.cell 4
  have q4 := bR.frozen 4
  have r5 : (w1.alloc (.cells #[.int .i64 (modM 1 1 8 4).kind, .int .i64 (modM 1 1 8 4).vocab, .int .i64 (modM 1 1 8 4).width, .int .i64 (modM 1 1 8 4).top, .slice A1 n1 c1, .slice A2 n2 c2, .slice A3 n3 c3, .slice A4 n4 c4, .slice A5 n5 c5, .slice A6 n6 c6, .slice A7 n7 c7] 24)).cell? ⟨w.heap.size, 5, none⟩ = some (.slice none 0 0) := bR.cell 5
  have q5 := bR.frozen 5
  have r6 : (w1.alloc (.cells #[.int .i64 (modM 1 1 8 4).kind, .int .i64 (modM 1 1 8 4).vocab, .int .i64 (modM 1 1 8 4).width, .int .i64 (modM 1 1 8 4).top, .slice A1 n1 c1, .slice A2 n2 c2, .slice A3 n3 c3, .slice A4 n4 c4, .slice A5 n5 c5, .slice A6 n6 c6, .slice A7 n7 c7] 24)).cell? ⟨w.heap.size, 6, none⟩ = some (.slice none 0 0) := bR.cell 6
  have q6 := bR.frozen 6
  have r7 : (w1.alloc (.cells #[.int .i64 (modM 1 1 8 4).kind, .int .i64 (modM 1 1 8 4).vocab, .int .i64 (modM 1 1 8 4).width, .int .i64 (modM 1 1 8 4).top, .slice A1 n1 c1, .slice A2 n2 c2, .slice A3 n3 c3, .slice A4 n4 c4, .slice A5 n5 c5, .slice A6 n6 c6, .slice A7 n7 c7] 24)).cell? ⟨w.heap.size, 7, none⟩ = some (.slice none 0 0) := bR.cell 7
  have q7 := bR.frozen 7
  have r8 : (w1.alloc (.cells #[.int .i64 (modM 1 1 8 4).kind, .int .i64 (modM 1 1 8 4).vocab, .int .i64 (modM 1 1 8 4).width, .int .i64 (modM 1 1 8 4).top, .slice A1 n1 c1, .slice A2 n2 c2, .slice A3 n3 c3, .slice A4 n4 c4, .slice A5 n5 c5, .slice A6 n6 c6, .slice A7 n7 c7] 24)).cell? ⟨w.heap.size, 8, none⟩ = some (.slice none 0 0) := bR.cell 8
  have q8 := bR.frozen 8
  have r9 : (w1.alloc (.cells #[.int .i64 (modM 1 1 8 4).kind, .int .i64 (modM 1 1 8 4).vocab, .int .i64 (modM 1 1 8 4).width, .int .i64 (modM 1 1 8 4).top, .slice A1 n1 c1, .slice A2 n2 c2, .slice A3 n3 c3, .slice A4 n4 c4, .slice A5 n5 c5, .slice A6 n6 c6, .slice A7 n7 c7] 24)).cell? ⟨w.heap.size, 9, none⟩ = some (.slice none 0 0) := bR.cell 9
  have q9 := bR.frozen 9
  have r10 : (w1.alloc (.cells #[.int .i64 (modM 1 1 8 4).kind, .int .i64 (modM 1 1 8 4).vocab, .int .i64 (modM 1 1 8 4).width, .int .i64 (modM 1 1 8 4).top, .slice A1 n1 c1, .slice A2 n2 c2, .slice A3 n3 c3, .slice A4 n4 c4, .slice A5 n5 c5, .slice A6 n6 c6, .slice A7 n7 c7] 24)).cell? ⟨w.heap.size, 10, none⟩ = some (.slice none 0 0) := bR.cell 10
  have q10 := bR.frozen 10
  have HB := Lib.hid hB
  clear hB bL
  have HBR := Lib.hid bR
  clear bR
  go_wp2_with fail
  obtain ⟨W9, hW9⟩ : ∃ W9, W9 = ((((((((((((w1.alloc (.cells #[.int .i64 (modM 1 1 8 4).kind, .int .i64 (modM 1 1 8 4).vocab, .int .i64 (modM 1 1 8 4).width, .int .i64 (modM 1 1 8 4).top, .slice A1 n1 c1, .slice A2 n2 c2, .slice A3 n3 c3, .slice A4 n4 c4, .slice A5 n5 c5, .slice A6 n6 c6, .slice A7 n7 c7] 24)).setCell ⟨w.heap.size, 0, none⟩ (.int .i64 (modM 1 1 8 4).kind)).setCell ⟨w.heap.size, 1, none⟩ (.int .i64 (modM 1 1 8 4).vocab)).setCell ⟨w.heap.size, 2, none⟩ (.int .i64 (modM 1 1 8 4).width)).setCell ⟨w.heap.size, 3, none⟩ (.int .i64 (modM 1 1 8 4).top)).setCell ⟨w.heap.size, 4, none⟩ (.slice A1 n1 c1)).setCell ⟨w.heap.size, 5, none⟩ (.slice A2 n2 c2)).setCell ⟨w.heap.size, 6, none⟩ (.slice A3 n3 c3)).setCell ⟨w.heap.size, 7, none⟩ (.slice A4 n4 c4)).setCell ⟨w.heap.size, 8, none⟩ (.slice A5 n5 c5)).setCell ⟨w.heap.size, 9, none⟩ (.slice A6 n6 c6)).setCell ⟨w.heap.size, 10, none⟩ (.slice A7 n7 c7)) := ⟨_, rfl⟩
  have HF : Hid (Frm (isB w.heap.size) w1 W9) := Lib.hid (by rw [hW9]; exact (((((((((((((Frm.refl (isB w.heap.size) w1).alloc (.cells #[.int .i64 (modM 1 1 8 4).kind, .int .i64 (modM 1 1 8 4).vocab, .int .i64 (modM 1 1 8 4).width, .int .i64 (modM 1 1 8 4).top, .slice A1 n1 c1, .slice A2 n2 c2, .slice A3 n3 c3, .slice A4 n4 c4, .slice A5 n5 c5, .slice A6 n6 c6, .slice A7 n7 c7] 24)).set (p := ⟨w.heap.size, 0, none⟩) (fun _ => by simp [isB]) (.int .i64 (modM 1 1 8 4).kind)).set (p := ⟨w.heap.size, 1, none⟩) (fun _ => by simp [isB]) (.int .i64 (modM 1 1 8 4).vocab)).set (p := ⟨w.heap.size, 2, none⟩) (fun _ => by simp [isB]) (.int .i64 (modM 1 1 8 4).width)).set (p := ⟨w.heap.size, 3, none⟩) (fun _ => by simp [isB]) (.int .i64 (modM 1 1 8 4).top)).set (p := ⟨w.heap.size, 4, none⟩) (fun _ => by simp [isB]) (.slice A1 n1 c1)).set (p := ⟨w.heap.size, 5, none⟩) (fun _ => by simp [isB]) (.slice A2 n2 c2)).set (p := ⟨w.heap.size, 6, none⟩) (fun _ => by simp [isB]) (.slice A3 n3 c3)).set (p := ⟨w.heap.size, 7, none⟩) (fun _ => by simp [isB]) (.slice A4 n4 c4)).set (p := ⟨w.heap.size, 8, none⟩) (fun _ => by simp [isB]) (.slice A5 n5 c5)).set (p := ⟨w.heap.size, 9, none⟩) (fun _ => by simp [isB]) (.slice A6 n6 c6)).set (p := ⟨w.heap.size, 10, none⟩) (fun _ => by simp [isB]) (.slice A7 n7 c7)))
  have HR : Hid (Bk W9 w.heap.size 24 #[.int .i64 (modM 1 1 8 4).kind, .int .i64 (modM 1 1 8 4).vocab, .int .i64 (modM 1 1 8 4).width, .int .i64 (modM 1 1 8 4).top, .slice A1 n1 c1, .slice A2 n2 c2, .slice A3 n3 c3, .slice A4 n4 c4, .slice A5 n5 c5, .slice A6 n6 c6, .slice A7 n7 c7]) := Lib.hid (by
    rw [hW9]
    have h0 : Bk ((w1.alloc (.cells #[.int .i64 (modM 1 1 8 4).kind, .int .i64 (modM 1 1 8 4).vocab, .int .i64 (modM 1 1 8 4).width, .int .i64 (modM 1 1 8 4).top, .slice A1 n1 c1, .slice A2 n2 c2, .slice A3 n3 c3, .slice A4 n4 c4, .slice A5 n5 c5, .slice A6 n6 c6, .slice A7 n7 c7] 24)).setCell ⟨w.heap.size, 0, none⟩ (.int .i64 (modM 1 1 8 4).kind)) w.heap.size 24 #[.int .i64 (modM 1 1 8 4).kind, .int .i64 0, .int .i64 0, .int .i64 0, .slice none 0 0, .slice none 0 0, .slice none 0 0, .slice none 0 0, .slice none 0 0, .slice none 0 0, .slice none 0 0] := HBR.out.set 0 (.int .i64 (modM 1 1 8 4).kind)
    have h1 : Bk (((w1.alloc (.cells #[.int .i64 (modM 1 1 8 4).kind, .int .i64 (modM 1 1 8 4).vocab, .int .i64 (modM 1 1 8 4).width, .int .i64 (modM 1 1 8 4).top, .slice A1 n1 c1, .slice A2 n2 c2, .slice A3 n3 c3, .slice A4 n4 c4, .slice A5 n5 c5, .slice A6 n6 c6, .slice A7 n7 c7] 24)).setCell ⟨w.heap.size, 0, none⟩ (.int .i64 (modM 1 1 8 4).kind)).setCell ⟨w.heap.size, 1, none⟩ (.int .i64 (modM 1 1 8 4).vocab)) w.heap.size 24 #[.int .i64 (modM 1 1 8 4).kind, .int .i64 (modM 1 1 8 4).vocab, .int .i64 0, .int .i64 0, .slice none 0 0, .slice none 0 0, .slice none 0 0, .slice none 0 0, .slice none 0 0, .slice none 0 0, .slice none 0 0] := h0.set 1 (.int .i64 (modM 1 1 8 4).vocab)
    have h2 : Bk ((((w1.alloc (.cells #[.int .i64 (modM 1 1 8 4).kind, .int .i64 (modM 1 1 8 4).vocab, .int .i64 (modM 1 1 8 4).width, .int .i64 (modM 1 1 8 4).top, .slice A1 n1 c1, .slice A2 n2 c2, .slice A3 n3 c3, .slice A4 n4 c4, .slice A5 n5 c5, .slice A6 n6 c6, .slice A7 n7 c7] 24)).setCell ⟨w.heap.size, 0, none⟩ (.int .i64 (modM 1 1 8 4).kind)).setCell ⟨w.heap.size, 1, none⟩ (.int .i64 (modM 1 1 8 4).vocab)).setCell ⟨w.heap.size, 2, none⟩ (.int .i64 (modM 1 1 8 4).width)) w.heap.size 24 #[.int .i64 (modM 1 1 8 4).kind, .int .i64 (modM 1 1 8 4).vocab, .int .i64 (modM 1 1 8 4).width, .int .i64 0, .slice none 0 0, .slice none 0 0, .slice none 0 0, .slice none 0 0, .slice none 0 0, .slice none 0 0, .slice none 0 0] := h1.set 2 (.int .i64 (modM 1 1 8 4).width)
    have h3 : Bk (((((w1.alloc (.cells #[.int .i64 (modM 1 1 8 4).kind, .int .i64 (modM 1 1 8 4).vocab, .int .i64 (modM 1 1 8 4).width, .int .i64 (modM 1 1 8 4).top, .slice A1 n1 c1, .slice A2 n2 c2, .slice A3 n3 c3, .slice A4 n4 c4, .slice A5 n5 c5, .slice A6 n6 c6, .slice A7 n7 c7] 24)).setCell ⟨w.heap.size, 0, none⟩ (.int .i64 (modM 1 1 8 4).kind)).setCell ⟨w.heap.size, 1, none⟩ (.int .i64 (modM 1 1 8 4).vocab)).setCell ⟨w.heap.size, 2, none⟩ (.int .i64 (modM 1 1 8 4).width)).setCell ⟨w.heap.size, 3, none⟩ (.int .i64 (modM 1 1 8 4).top)) w.heap.size 24 #[.int .i64 (modM 1 1 8 4).kind, .int .i64 (modM 1 1 8 4).vocab, .int .i64 (modM 1 1 8 4).width, .int .i64 (modM 1 1 8 4).top, .slice none 0 0, .slice none 0 0, .slice none 0 0, .slice none 0 0, .slice none 0 0, .slice none 0 0, .slice none 0 0] := h2.set 3 (.int .i64 (modM 1 1 8 4).top)
    have h4 : Bk ((((((w1.alloc (.cells #[.int .i64 (modM 1 1 8 4).kind, .int .i64 (modM 1 1 8 4).vocab, .int .i64 (modM 1 1 8 4).width, .int .i64 (modM 1 1 8 4).top, .slice A1 n1 c1, .slice A2 n2 c2, .slice A3 n3 c3, .slice A4 n4 c4, .slice A5 n5 c5, .slice A6 n6 c6, .slice A7 n7 c7] 24)).setCell ⟨w.heap.size, 0, none⟩ (.int .i64 (modM 1 1 8 4).kind)).setCell ⟨w.heap.size, 1, none⟩ (.int .i64 (modM 1 1 8 4).vocab)).setCell ⟨w.heap.size, 2, none⟩ (.int .i64 (modM 1 1 8 4).width)).setCell ⟨w.heap.size, 3, none⟩ (.int .i64 (modM 1 1 8 4).top)).setCell ⟨w.heap.size, 4, none⟩ (.slice A1 n1 c1)) w.heap.size 24 #[.int .i64 (modM 1 1 8 4).kind, .int .i64 (modM 1 1 8 4).vocab, .int .i64 (modM 1 1 8 4).width, .int .i64 (modM 1 1 8 4).top, .slice A1 n1 c1, .slice none 0 0, .slice none 0 0, .slice none 0 0, .slice none 0 0, .slice none 0 0, .slice none 0 0] := h3.set 4 (.slice A1 n1 c1)
    have h5 : Bk (((((((w1.alloc (.cells #[.int .i64 (modM 1 1 8 4).kind, .int .i64 (modM 1 1 8 4).vocab, .int .i64 (modM 1 1 8 4).width, .int .i64 (modM 1 1 8 4).top, .slice A1 n1 c1, .slice A2 n2 c2, .slice A3 n3 c3, .slice A4 n4 c4, .slice A5 n5 c5, .slice A6 n6 c6, .slice A7 n7 c7] 24)).setCell ⟨w.heap.size, 0, none⟩ (.int .i64 (modM 1 1 8 4).kind)).setCell ⟨w.heap.size, 1, none⟩ (.int .i64 (modM 1 1 8 4).vocab)).setCell ⟨w.heap.size, 2, none⟩ (.int .i64 (modM 1 1 8 4).width)).setCell ⟨w.heap.size, 3, none⟩ (.int .i64 (modM 1 1 8 4).top)).setCell ⟨w.heap.size, 4, none⟩ (.slice A1 n1 c1)).setCell ⟨w.heap.size, 5, none⟩ (.slice A2 n2 c2)) w.heap.size 24 #[.int .i64 (modM 1 1 8 4).kind, .int .i64 (modM 1 1 8 4).vocab, .int .i64 (modM 1 1 8 4).width, .int .i64 (modM 1 1 8 4).top, .slice A1 n1 c1, .slice A2 n2 c2, .slice none 0 0, .slice none 0 0, .slice none 0 0, .slice none 0 0, .slice none 0 0] := h4.set 5 (.slice A2 n2 c2)
    have h6 : Bk ((((((((w1.alloc (.cells #[.int .i64 (modM 1 1 8 4).kind, .int .i64 (modM 1 1 8 4).vocab, .int .i64 (modM 1 1 8 4).width, .int .i64 (modM 1 1 8 4).top, .slice A1 n1 c1, .slice A2 n2 c2, .slice A3 n3 c3, .slice A4 n4 c4, .slice A5 n5 c5, .slice A6 n6 c6, .slice A7 n7 c7] 24)).setCell ⟨w.heap.size, 0, none⟩ (.int .i64 (modM 1 1 8 4).kind)).setCell ⟨w.heap.size, 1, none⟩ (.int .i64 (modM 1 1 8 4).vocab)).setCell ⟨w.heap.size, 2, none⟩ (.int .i64 (modM 1 1 8 4).width)).setCell ⟨w.heap.size, 3, none⟩ (.int .i64 (modM 1 1 8 4).top)).setCell ⟨w.heap.size, 4, none⟩ (.slice A1 n1 c1)).setCell ⟨w.heap.size, 5, none⟩ (.slice A2 n2 c2)).setCell ⟨w.heap.size, 6, none⟩ (.slice A3 n3 c3)) w.heap.size 24 #[.int .i64 (modM 1 1 8 4).kind, .int .i64 (modM 1 1 8 4).vocab, .int .i64 (modM 1 1 8 4).width, .int .i64 (modM 1 1 8 4).top, .slice A1 n1 c1, .slice A2 n2 c2, .slice A3 n3 c3, .slice none 0 0, .slice none 0 0, .slice none 0 0, .slice none 0 0] := h5.set 6 (.slice A3 n3 c3)
    have h7 : Bk (((((((((w1.alloc (.cells #[.int .i64 (modM 1 1 8 4).kind, .int .i64 (modM 1 1 8 4).vocab, .int .i64 (modM 1 1 8 4).width, .int .i64 (modM 1 1 8 4).top, .slice A1 n1 c1, .slice A2 n2 c2, .slice A3 n3 c3, .slice A4 n4 c4, .slice A5 n5 c5, .slice A6 n6 c6, .slice A7 n7 c7] 24)).setCell ⟨w.heap.size, 0, none⟩ (.int .i64 (modM 1 1 8 4).kind)).setCell ⟨w.heap.size, 1, none⟩ (.int .i64 (modM 1 1 8 4).vocab)).setCell ⟨w.heap.size, 2, none⟩ (.int .i64 (modM 1 1 8 4).width)).setCell ⟨w.heap.size, 3, none⟩ (.int .i64 (modM 1 1 8 4).top)).setCell ⟨w.heap.size, 4, none⟩ (.slice A1 n1 c1)).setCell ⟨w.heap.size, 5, none⟩ (.slice A2 n2 c2)).setCell ⟨w.heap.size, 6, none⟩ (.slice A3 n3 c3)).setCell ⟨w.heap.size, 7, none⟩ (.slice A4 n4 c4)) w.heap.size 24 #[.int .i64 (modM 1 1 8 4).kind, .int .i64 (modM 1 1 8 4).vocab, .int .i64 (modM 1 1 8 4).width, .int .i64 (modM 1 1 8 4).top, .slice A1 n1 c1, .slice A2 n2 c2, .slice A3 n3 c3, .slice A4 n4 c4, .slice none 0 0, .slice none 0 0, .slice none 0 0] := h6.set 7 (.slice A4 n4 c4)
    have h8 : Bk ((((((((((w1.alloc (.cells #[.int .i64 (modM 1 1 8 4).kind, .int .i64 (modM 1 1 8 4).vocab, .int .i64 (modM 1 1 8 4).width, .int .i64 (modM 1 1 8 4).top, .slice A1 n1 c1, .slice A2 n2 c2, .slice A3 n3 c3, .slice A4 n4 c4, .slice A5 n5 c5, .slice A6 n6 c6, .slice A7 n7 c7] 24)).setCell ⟨w.heap.size, 0, none⟩ (.int .i64 (modM 1 1 8 4).kind)).setCell ⟨w.heap.size, 1, none⟩ (.int .i64 (modM 1 1 8 4).vocab)).setCell ⟨w.heap.size, 2, none⟩ (.int .i64 (modM 1 1 8 4).width)).setCell ⟨w.heap.size, 3, none⟩ (.int .i64 (modM 1 1 8 4).top)).setCell ⟨w.heap.size, 4, none⟩ (.slice A1 n1 c1)).setCell ⟨w.heap.size, 5, none⟩ (.slice A2 n2 c2)).setCell ⟨w.heap.size, 6, none⟩ (.slice A3 n3 c3)).setCell ⟨w.heap.size, 7, none⟩ (.slice A4 n4 c4)).setCell ⟨w.heap.size, 8, none⟩ (.slice A5 n5 c5)) w.heap.size 24 #[.int .i64 (modM 1 1 8 4).kind, .int .i64 (modM 1 1 8 4).vocab, .int .i64 (modM 1 1 8 4).width, .int .i64 (modM 1 1 8 4).top, .slice A1 n1 c1, .slice A2 n2 c2, .slice A3 n3 c3, .slice A4 n4 c4, .slice A5 n5 c5, .slice none 0 0, .slice none 0 0] := h7.set 8 (.slice A5 n5 c5)
    have h9 : Bk (((((((((((w1.alloc (.cells #[.int .i64 (modM 1 1 8 4).kind, .int .i64 (modM 1 1 8 4).vocab, .int .i64 (modM 1 1 8 4).width, .int .i64 (modM 1 1 8 4).top, .slice A1 n1 c1, .slice A2 n2 c2, .slice A3 n3 c3, .slice A4 n4 c4, .slice A5 n5 c5, .slice A6 n6 c6, .slice A7 n7 c7] 24)).setCell ⟨w.heap.size, 0, none⟩ (.int .i64 (modM 1 1 8 4).kind)).setCell ⟨w.heap.size, 1, none⟩ (.int .i64 (modM 1 1 8 4).vocab)).setCell ⟨w.heap.size, 2, none⟩ (.int .i64 (modM 1 1 8 4).width)).setCell ⟨w.heap.size, 3, none⟩ (.int .i64 (modM 1 1 8 4).top)).setCell ⟨w.heap.size, 4, none⟩ (.slice A1 n1 c1)).setCell ⟨w.heap.size, 5, none⟩ (.slice A2 n2 c2)).setCell ⟨w.heap.size, 6, none⟩ (.slice A3 n3 c3)).setCell ⟨w.heap.size, 7, none⟩ (.slice A4 n4 c4)).setCell ⟨w.heap.size, 8, none⟩ (.slice A5 n5 c5)).setCell ⟨w.heap.size, 9, none⟩ (.slice A6 n6 c6)) w.heap.size 24 #[.int .i64 (modM 1 1 8 4).kind, .int .i64 (modM 1 1 8 4).vocab, .int .i64 (modM 1 1 8 4).width, .int .i64 (modM 1 1 8 4).top, .slice A1 n1 c1, .slice A2 n2 c2, .slice A3 n3 c3, .slice A4 n4 c4, .slice A5 n5 c5, .slice A6 n6 c6, .slice none 0 0] := h8.set 9 (.slice A6 n6 c6)
    have h10 : Bk ((((((((((((w1.alloc (.cells #[.int .i64 (modM 1 1 8 4).kind, .int .i64 (modM 1 1 8 4).vocab, .int .i64 (modM 1 1 8 4).width, .int .i64 (modM 1 1 8 4).top, .slice A1 n1 c1, .slice A2 n2 c2, .slice A3 n3 c3, .slice A4 n4 c4, .slice A5 n5 c5, .slice A6 n6 c6, .slice A7 n7 c7] 24)).setCell ⟨w.heap.size, 0, none⟩ (.int .i64 (modM 1 1 8 4).kind)).setCell ⟨w.heap.size, 1, none⟩ (.int .i64 (modM 1 1 8 4).vocab)).setCell ⟨w.heap.size, 2, none⟩ (.int .i64 (modM 1 1 8 4).width)).setCell ⟨w.heap.size, 3, none⟩ (.int .i64 (modM 1 1 8 4).top)).setCell ⟨w.heap.size, 4, none⟩ (.slice A1 n1 c1)).setCell ⟨w.heap.size, 5, none⟩ (.slice A2 n2 c2)).setCell ⟨w.heap.size, 6, none⟩ (.slice A3 n3 c3)).setCell ⟨w.heap.size, 7, none⟩ (.slice A4 n4 c4)).setCell ⟨w.heap.size, 8, none⟩ (.slice A5 n5 c5)).setCell ⟨w.heap.size, 9, none⟩ (.slice A6 n6 c6)).setCell ⟨w.heap.size, 10, none⟩ (.slice A7 n7 c7)) w.heap.size 24 #[.int .i64 (modM 1 1 8 4).kind, .int .i64 (modM 1 1 8 4).vocab, .int .i64 (modM 1 1 8 4).width, .int .i64 (modM 1 1 8 4).top, .slice A1 n1 c1, .slice A2 n2 c2, .slice A3 n3 c3, .slice A4 n4 c4, .slice A5 n5 c5, .slice A6 n6 c6, .slice A7 n7 c7] := h9.set 10 (.slice A7 n7 c7)
    exact h10)
  rw [← hW9]
  clear hW9 l0 r0 q0 l1 r1 q1 l2 r2 q2 l3 r3 q3 l4 r4 q4 l5 r5 q5 l6 r6 q6 l7 r7 q7 l8 r8 q8 l9 r9 q9 l10 r10 q10
  have m0 : W9.cell? ⟨w.heap.size, 0, none⟩ = some (.int .i64 (modM 1 1 8 4).kind) := HR.out.cell 0
  have m1 : W9.cell? ⟨w.heap.size, 1, none⟩ = some (.int .i64 (modM 1 1 8 4).vocab) := HR.out.cell 1
  have m2 : W9.cell? ⟨w.heap.size, 2, none⟩ = some (.int .i64 (modM 1 1 8 4).width) := HR.out.cell 2
  have m3 : W9.cell? ⟨w.heap.size, 3, none⟩ = some (.int .i64 (modM 1 1 8 4).top) := HR.out.cell 3
  have m4 : W9.cell? ⟨w.heap.size, 4, none⟩ = some (.slice A1 n1 c1) := HR.out.cell 4
  have m5 : W9.cell? ⟨w.heap.size, 5, none⟩ = some (.slice A2 n2 c2) := HR.out.cell 5
  have m6 : W9.cell? ⟨w.heap.size, 6, none⟩ = some (.slice A3 n3 c3) := HR.out.cell 6
  have m7 : W9.cell? ⟨w.heap.size, 7, none⟩ = some (.slice A4 n4 c4) := HR.out.cell 7
  have m8 : W9.cell? ⟨w.heap.size, 8, none⟩ = some (.slice A5 n5 c5) := HR.out.cell 8
  have m9 : W9.cell? ⟨w.heap.size, 9, none⟩ = some (.slice A6 n6 c6) := HR.out.cell 9
  have m10 : W9.cell? ⟨w.heap.size, 10, none⟩ = some (.slice A7 n7 c7) := HR.out.cell 10
  refine bodyPost_ret (v := .agg #[.int .i64 (modM 1 1 8 4).kind, .int .i64 (modM 1 1 8 4).vocab, .int .i64 (modM 1 1 8 4).width, .int .i64 (modM 1 1 8 4).top, .slice A1 n1 c1, .slice A2 n2 c2, .slice A3 n3 c3, .slice A4 n4 c4, .slice A5 n5 c5, .slice A6 n6 c6, .slice A7 n7 c7]) (by rw [res_c1 rfl]; go_simp) rfl ⟨_, rfl, ?_, ?_⟩
  · exact (behind HL0.out HB.out).trans (HF.out.below (behind HL0.out HB.out).size (fun b hb => isB_false.2 (by omega)))
  · exact (HO.out.frm HF.out (fun b hb => isB_false.2 (by have := HZ0.out; omega))).val
end Go.Proofs.YtldjemlmjfpmjaaGreatDoor
