/-
  Making a model: the reference's way.
-/
import Derived.Test.YtldjemlmjfpmjaaGreatDoorMk
namespace Go.Proofs.YtldjemlmjfpmjaaGreatDoor
open Go.RowKit

theorem res_c1 {fn : Func} {p : Tmp} {ty : TypeId} (h : fn.results = #[.cell p ty]) (tmps : Array Value) (P : Program) (w : World) :
    (results fn tmps).run P w = ((asAddr (tmps.getD p undef)).run P w).andThen fun a w₁ => (loadVar ty a).run P w₁ := by
  simp only [results, h]
  simp [Sem.run_bind, Result.andThen]
theorem ix_1 : ∀ w, (Instr.index 74 (.agg #[.int .i64 0, .int .i64 3, .int .i64 2, .int .i64 2]) (.int .i64 1)).run Tryz.prog w = .ok (.int .i64 3) w := fun _ => by kernel_rfl
theorem ix_2 : ∀ w, (Instr.index 74 (.agg #[.int .i64 0, .int .i64 3, .int .i64 2, .int .i64 2]) (.int .i64 2)).run Tryz.prog w = .ok (.int .i64 2) w := fun _ => by kernel_rfl
theorem ix_3 : ∀ w, (Instr.index 74 (.agg #[.int .i64 0, .int .i64 3, .int .i64 2, .int .i64 2]) (.int .i64 3)).run Tryz.prog w = .ok (.int .i64 2) w := fun _ => by kernel_rfl
theorem mr_start (w : World) (s K V D : Int) : MkS w (((((((w.alloc (.cells #[.int .i64 s] 3)).alloc (.cells #[.int .i64 0, .int .i64 0, .int .i64 0, .int .i64 0, .slice none 0 0, .slice none 0 0, .slice none 0 0, .slice none 0 0, .slice none 0 0, .slice none 0 0, .slice none 0 0] 24)).alloc (.cells #[.int .i64 4, .int .i64 6, .int .i64 8, .int .i64 3] 3)).alloc (.cells #[.int .i64 64, .int .i64 32, .int .i64 16, .int .i64 8, .int .i64 4, .int .i64 2, .int .i64 1] 3)).alloc (.cells #[.int .i64 32, .int .i64 16, .int .i64 8, .int .i64 4, .int .i64 2, .int .i64 1] 3)).alloc (.cells #[.int .i64 K, .int .i64 V, .int .i64 D, .int .i64 V, .slice (some ⟨w.heap.size + 1 + 1, 0, none⟩) 4 4, .slice none 0 0, .slice none 0 0, .slice none 0 0, .slice none 0 0, .slice (some ⟨w.heap.size + 1 + 1 + 1, 0, none⟩) 7 7, .slice (some ⟨w.heap.size + 1 + 1 + 1 + 1, 0, none⟩) 6 6] 24)).alloc (.cells #[.int .i64 0] 3)) w.heap.size (w.heap.size + 1 + 1 + 1 + 1 + 1 + 1) (w.heap.size + 1 + 1 + 1 + 1 + 1) (w.heap.size + 1) s 0 #[.int .i64 K, .int .i64 V, .int .i64 D, .int .i64 V, .slice (some ⟨w.heap.size + 1 + 1, 0, none⟩) 4 4, .slice none 0 0, .slice none 0 0, .slice none 0 0, .slice none 0 0, .slice (some ⟨w.heap.size + 1 + 1 + 1, 0, none⟩) 7 7, .slice (some ⟨w.heap.size + 1 + 1 + 1 + 1, 0, none⟩) 6 6] [(.slice (some ⟨w.heap.size + 1 + 1, 0, none⟩) 4 4, [4, 6, 8, 3]), (.slice (some ⟨w.heap.size + 1 + 1 + 1, 0, none⟩) 7 7, [64, 32, 16, 8, 4, 2, 1]), (.slice (some ⟨w.heap.size + 1 + 1 + 1 + 1, 0, none⟩) 6 6, [32, 16, 8, 4, 2, 1])] := by
  obtain ⟨W1, hW1⟩ : ∃ W1, W1 = w.alloc (.cells #[.int .i64 s] 3) := ⟨_, rfl⟩
  have b0 : Bk W1 (w.heap.size) 3 #[.int .i64 s] := by rw [hW1]; exact Bk.new _ _ _
  have z1 : W1.heap.size = w.heap.size + 1 := by rw [hW1, World.size_alloc]
  have l1 : Below w.heap.size w W1 := by rw [hW1]; exact laid (Below.refl _ _) _
  rw [← hW1]
  obtain ⟨W2, hW2⟩ : ∃ W2, W2 = W1.alloc (.cells #[.int .i64 0, .int .i64 0, .int .i64 0, .int .i64 0, .slice none 0 0, .slice none 0 0, .slice none 0 0, .slice none 0 0, .slice none 0 0, .slice none 0 0, .slice none 0 0] 24) := ⟨_, rfl⟩
  replace b0 : Bk W2 (w.heap.size) 3 #[.int .i64 s] := by rw [hW2]; exact b0.alloc _
  have b1 : Bk W2 (w.heap.size + 1) 24 #[.int .i64 0, .int .i64 0, .int .i64 0, .int .i64 0, .slice none 0 0, .slice none 0 0, .slice none 0 0, .slice none 0 0, .slice none 0 0, .slice none 0 0, .slice none 0 0] := by rw [hW2, ← z1]; exact Bk.new _ _ _
  have z2 : W2.heap.size = w.heap.size + 1 + 1 := by rw [hW2, World.size_alloc, z1]
  have l2 : Below w.heap.size w W2 := by rw [hW2]; exact laid l1 _
  rw [← hW2]
  obtain ⟨W3, hW3⟩ : ∃ W3, W3 = W2.alloc (.cells #[.int .i64 4, .int .i64 6, .int .i64 8, .int .i64 3] 3) := ⟨_, rfl⟩
  replace b0 : Bk W3 (w.heap.size) 3 #[.int .i64 s] := by rw [hW3]; exact b0.alloc _
  replace b1 : Bk W3 (w.heap.size + 1) 24 #[.int .i64 0, .int .i64 0, .int .i64 0, .int .i64 0, .slice none 0 0, .slice none 0 0, .slice none 0 0, .slice none 0 0, .slice none 0 0, .slice none 0 0, .slice none 0 0] := by rw [hW3]; exact b1.alloc _
  have b2 : Bk W3 (w.heap.size + 1 + 1) 3 #[.int .i64 4, .int .i64 6, .int .i64 8, .int .i64 3] := by rw [hW3, ← z2]; exact Bk.new _ _ _
  have z3 : W3.heap.size = w.heap.size + 1 + 1 + 1 := by rw [hW3, World.size_alloc, z2]
  have l3 : Below w.heap.size w W3 := by rw [hW3]; exact laid l2 _
  rw [← hW3]
  obtain ⟨W4, hW4⟩ : ∃ W4, W4 = W3.alloc (.cells #[.int .i64 64, .int .i64 32, .int .i64 16, .int .i64 8, .int .i64 4, .int .i64 2, .int .i64 1] 3) := ⟨_, rfl⟩
  replace b0 : Bk W4 (w.heap.size) 3 #[.int .i64 s] := by rw [hW4]; exact b0.alloc _
  replace b1 : Bk W4 (w.heap.size + 1) 24 #[.int .i64 0, .int .i64 0, .int .i64 0, .int .i64 0, .slice none 0 0, .slice none 0 0, .slice none 0 0, .slice none 0 0, .slice none 0 0, .slice none 0 0, .slice none 0 0] := by rw [hW4]; exact b1.alloc _
  replace b2 : Bk W4 (w.heap.size + 1 + 1) 3 #[.int .i64 4, .int .i64 6, .int .i64 8, .int .i64 3] := by rw [hW4]; exact b2.alloc _
  have b3 : Bk W4 (w.heap.size + 1 + 1 + 1) 3 #[.int .i64 64, .int .i64 32, .int .i64 16, .int .i64 8, .int .i64 4, .int .i64 2, .int .i64 1] := by rw [hW4, ← z3]; exact Bk.new _ _ _
  have z4 : W4.heap.size = w.heap.size + 1 + 1 + 1 + 1 := by rw [hW4, World.size_alloc, z3]
  have l4 : Below w.heap.size w W4 := by rw [hW4]; exact laid l3 _
  rw [← hW4]
  obtain ⟨W5, hW5⟩ : ∃ W5, W5 = W4.alloc (.cells #[.int .i64 32, .int .i64 16, .int .i64 8, .int .i64 4, .int .i64 2, .int .i64 1] 3) := ⟨_, rfl⟩
  replace b0 : Bk W5 (w.heap.size) 3 #[.int .i64 s] := by rw [hW5]; exact b0.alloc _
  replace b1 : Bk W5 (w.heap.size + 1) 24 #[.int .i64 0, .int .i64 0, .int .i64 0, .int .i64 0, .slice none 0 0, .slice none 0 0, .slice none 0 0, .slice none 0 0, .slice none 0 0, .slice none 0 0, .slice none 0 0] := by rw [hW5]; exact b1.alloc _
  replace b2 : Bk W5 (w.heap.size + 1 + 1) 3 #[.int .i64 4, .int .i64 6, .int .i64 8, .int .i64 3] := by rw [hW5]; exact b2.alloc _
  replace b3 : Bk W5 (w.heap.size + 1 + 1 + 1) 3 #[.int .i64 64, .int .i64 32, .int .i64 16, .int .i64 8, .int .i64 4, .int .i64 2, .int .i64 1] := by rw [hW5]; exact b3.alloc _
  have b4 : Bk W5 (w.heap.size + 1 + 1 + 1 + 1) 3 #[.int .i64 32, .int .i64 16, .int .i64 8, .int .i64 4, .int .i64 2, .int .i64 1] := by rw [hW5, ← z4]; exact Bk.new _ _ _
  have z5 : W5.heap.size = w.heap.size + 1 + 1 + 1 + 1 + 1 := by rw [hW5, World.size_alloc, z4]
  have l5 : Below w.heap.size w W5 := by rw [hW5]; exact laid l4 _
  rw [← hW5]
  obtain ⟨W6, hW6⟩ : ∃ W6, W6 = W5.alloc (.cells #[.int .i64 K, .int .i64 V, .int .i64 D, .int .i64 V, .slice (some ⟨w.heap.size + 1 + 1, 0, none⟩) 4 4, .slice none 0 0, .slice none 0 0, .slice none 0 0, .slice none 0 0, .slice (some ⟨w.heap.size + 1 + 1 + 1, 0, none⟩) 7 7, .slice (some ⟨w.heap.size + 1 + 1 + 1 + 1, 0, none⟩) 6 6] 24) := ⟨_, rfl⟩
  replace b0 : Bk W6 (w.heap.size) 3 #[.int .i64 s] := by rw [hW6]; exact b0.alloc _
  replace b1 : Bk W6 (w.heap.size + 1) 24 #[.int .i64 0, .int .i64 0, .int .i64 0, .int .i64 0, .slice none 0 0, .slice none 0 0, .slice none 0 0, .slice none 0 0, .slice none 0 0, .slice none 0 0, .slice none 0 0] := by rw [hW6]; exact b1.alloc _
  replace b2 : Bk W6 (w.heap.size + 1 + 1) 3 #[.int .i64 4, .int .i64 6, .int .i64 8, .int .i64 3] := by rw [hW6]; exact b2.alloc _
  replace b3 : Bk W6 (w.heap.size + 1 + 1 + 1) 3 #[.int .i64 64, .int .i64 32, .int .i64 16, .int .i64 8, .int .i64 4, .int .i64 2, .int .i64 1] := by rw [hW6]; exact b3.alloc _
  replace b4 : Bk W6 (w.heap.size + 1 + 1 + 1 + 1) 3 #[.int .i64 32, .int .i64 16, .int .i64 8, .int .i64 4, .int .i64 2, .int .i64 1] := by rw [hW6]; exact b4.alloc _
  have b5 : Bk W6 (w.heap.size + 1 + 1 + 1 + 1 + 1) 24 #[.int .i64 K, .int .i64 V, .int .i64 D, .int .i64 V, .slice (some ⟨w.heap.size + 1 + 1, 0, none⟩) 4 4, .slice none 0 0, .slice none 0 0, .slice none 0 0, .slice none 0 0, .slice (some ⟨w.heap.size + 1 + 1 + 1, 0, none⟩) 7 7, .slice (some ⟨w.heap.size + 1 + 1 + 1 + 1, 0, none⟩) 6 6] := by rw [hW6, ← z5]; exact Bk.new _ _ _
  have z6 : W6.heap.size = w.heap.size + 1 + 1 + 1 + 1 + 1 + 1 := by rw [hW6, World.size_alloc, z5]
  have l6 : Below w.heap.size w W6 := by rw [hW6]; exact laid l5 _
  rw [← hW6]
  obtain ⟨W7, hW7⟩ : ∃ W7, W7 = W6.alloc (.cells #[.int .i64 0] 3) := ⟨_, rfl⟩
  replace b0 : Bk W7 (w.heap.size) 3 #[.int .i64 s] := by rw [hW7]; exact b0.alloc _
  replace b1 : Bk W7 (w.heap.size + 1) 24 #[.int .i64 0, .int .i64 0, .int .i64 0, .int .i64 0, .slice none 0 0, .slice none 0 0, .slice none 0 0, .slice none 0 0, .slice none 0 0, .slice none 0 0, .slice none 0 0] := by rw [hW7]; exact b1.alloc _
  replace b2 : Bk W7 (w.heap.size + 1 + 1) 3 #[.int .i64 4, .int .i64 6, .int .i64 8, .int .i64 3] := by rw [hW7]; exact b2.alloc _
  replace b3 : Bk W7 (w.heap.size + 1 + 1 + 1) 3 #[.int .i64 64, .int .i64 32, .int .i64 16, .int .i64 8, .int .i64 4, .int .i64 2, .int .i64 1] := by rw [hW7]; exact b3.alloc _
  replace b4 : Bk W7 (w.heap.size + 1 + 1 + 1 + 1) 3 #[.int .i64 32, .int .i64 16, .int .i64 8, .int .i64 4, .int .i64 2, .int .i64 1] := by rw [hW7]; exact b4.alloc _
  replace b5 : Bk W7 (w.heap.size + 1 + 1 + 1 + 1 + 1) 24 #[.int .i64 K, .int .i64 V, .int .i64 D, .int .i64 V, .slice (some ⟨w.heap.size + 1 + 1, 0, none⟩) 4 4, .slice none 0 0, .slice none 0 0, .slice none 0 0, .slice none 0 0, .slice (some ⟨w.heap.size + 1 + 1 + 1, 0, none⟩) 7 7, .slice (some ⟨w.heap.size + 1 + 1 + 1 + 1, 0, none⟩) 6 6] := by rw [hW7]; exact b5.alloc _
  have b6 : Bk W7 (w.heap.size + 1 + 1 + 1 + 1 + 1 + 1) 3 #[.int .i64 0] := by rw [hW7, ← z6]; exact Bk.new _ _ _
  have z7 : W7.heap.size = w.heap.size + 1 + 1 + 1 + 1 + 1 + 1 + 1 := by rw [hW7, World.size_alloc, z6]
  have l7 : Below w.heap.size w W7 := by rw [hW7]; exact laid l6 _
  rw [← hW7]
  refine ⟨l7, b0, b6, b5, b1, by omega, by omega, by omega, by omega, by omega, fun p hp => ?_⟩
  have : p = (.slice (some ⟨w.heap.size + 1 + 1, 0, none⟩) 4 4, [4, 6, 8, 3]) ∨ p = (.slice (some ⟨w.heap.size + 1 + 1 + 1, 0, none⟩) 7 7, [64, 32, 16, 8, 4, 2, 1]) ∨ p = (.slice (some ⟨w.heap.size + 1 + 1 + 1 + 1, 0, none⟩) 6 6, [32, 16, 8, 4, 2, 1]) := by simpa using hp
  rcases this with h | h | h <;> subst h
  · exact ⟨fun e => by have e2 : w.heap.size + 1 + 1 = w.heap.size + 1 + 1 + 1 + 1 + 1 + 1 := Option.some.inj e; omega, own_ow (l := [4, 6, 8, 3]) b2 (by omega) rfl (by omega)⟩
  · exact ⟨fun e => by have e2 : w.heap.size + 1 + 1 + 1 = w.heap.size + 1 + 1 + 1 + 1 + 1 + 1 := Option.some.inj e; omega, own_ow (l := [64, 32, 16, 8, 4, 2, 1]) b3 (by omega) rfl (by omega)⟩
  · exact ⟨fun e => by have e2 : w.heap.size + 1 + 1 + 1 + 1 = w.heap.size + 1 + 1 + 1 + 1 + 1 + 1 := Option.some.inj e; omega, own_ow (l := [32, 16, 8, 4, 2, 1]) b4 (by omega) rfl (by omega)⟩
set_option maxHeartbeats 8000000 in
set_option maxRecDepth 100000 in
theorem made_1 (s V D : Int) (p1 p2 p3 p0 : Nat) (w : World) (hV1 : 2 ≤ V) (hV2 : V ≤ 16) (hD1 : 1 ≤ D) (hD2 : D ≤ 5) (q1 : V * D = (p1 : Int) + 1) (q2 : 4 * D = (p2 : Int) + 1) (q0 : 3 * D = (p0 : Int)) (q3 : (p0 : Int) * D = (p3 : Int) + 1) :
    Calls Tryz.prog 11 #[.int .i64 s, .int .i64 1, .int .i64 V, .int .i64 D] w fun e w' => ∃ v, e = .returned v ∧ Below w.heap.size w w' ∧ OwM w.heap.size w' v (madeM s 1 V D p1 p2 p3) := by
  have hp1 : p1 + 1 ≤ 80 := by
    rcases (show D = 1 ∨ D = 2 ∨ D = 3 ∨ D = 4 ∨ D = 5 by omega) with rfl | rfl | rfl | rfl | rfl <;> omega
  have hp2 : p2 + 1 ≤ 20 := by omega
  have hp0 : p0 ≤ 15 := by omega
  have hp3 : p3 + 1 ≤ 75 := by
    rcases (show D = 1 ∨ D = 2 ∨ D = 3 ∨ D = 4 ∨ D = 5 by omega) with rfl | rfl | rfl | rfl | rfl <;> omega
  have r1 : wrap64 (V * D) = (p1 : Int) + 1 := by rw [q1]; unfold wrap64; omega
  have r2 : wrap64 (4 * D) = (p2 : Int) + 1 := by rw [q2]; unfold wrap64; omega
  have r0 : wrap64 (3 * D) = (p0 : Int) := by rw [q0]; unfold wrap64; omega
  have r3 : wrap64 ((p0 : Int) * D) = (p3 : Int) + 1 := by rw [q3]; unfold wrap64; omega
  have HMX := Lib.hid mdraw_ow
  have hix := ix_1
  clear q1 q3
  go_enter Tryz.func11, Tryz.ntmps11
  go_wp2_with fail
  obtain ⟨W, hW⟩ : ∃ W, W = (((((((w.alloc (.cells #[.int .i64 s] 3)).alloc (.cells #[.int .i64 0, .int .i64 0, .int .i64 0, .int .i64 0, .slice none 0 0, .slice none 0 0, .slice none 0 0, .slice none 0 0, .slice none 0 0, .slice none 0 0, .slice none 0 0] 24)).alloc (.cells #[.int .i64 4, .int .i64 6, .int .i64 8, .int .i64 3] 3)).alloc (.cells #[.int .i64 64, .int .i64 32, .int .i64 16, .int .i64 8, .int .i64 4, .int .i64 2, .int .i64 1] 3)).alloc (.cells #[.int .i64 32, .int .i64 16, .int .i64 8, .int .i64 4, .int .i64 2, .int .i64 1] 3)).alloc (.cells #[.int .i64 1, .int .i64 V, .int .i64 D, .int .i64 V, .slice (some ⟨w.heap.size + 1 + 1, 0, none⟩) 4 4, .slice none 0 0, .slice none 0 0, .slice none 0 0, .slice none 0 0, .slice (some ⟨w.heap.size + 1 + 1 + 1, 0, none⟩) 7 7, .slice (some ⟨w.heap.size + 1 + 1 + 1 + 1, 0, none⟩) 6 6] 24)).alloc (.cells #[.int .i64 0] 3)) := ⟨_, rfl⟩
  have HS : Hid (MkS w W w.heap.size (w.heap.size + 1 + 1 + 1 + 1 + 1 + 1) (w.heap.size + 1 + 1 + 1 + 1 + 1) (w.heap.size + 1) s 0 #[.int .i64 1, .int .i64 V, .int .i64 D, .int .i64 V, .slice (some ⟨w.heap.size + 1 + 1, 0, none⟩) 4 4, .slice none 0 0, .slice none 0 0, .slice none 0 0, .slice none 0 0, .slice (some ⟨w.heap.size + 1 + 1 + 1, 0, none⟩) 7 7, .slice (some ⟨w.heap.size + 1 + 1 + 1 + 1, 0, none⟩) 6 6] [(.slice (some ⟨w.heap.size + 1 + 1, 0, none⟩) 4 4, [4, 6, 8, 3]), (.slice (some ⟨w.heap.size + 1 + 1 + 1, 0, none⟩) 7 7, [64, 32, 16, 8, 4, 2, 1]), (.slice (some ⟨w.heap.size + 1 + 1 + 1 + 1, 0, none⟩) 6 6, [32, 16, 8, 4, 2, 1])]) := Lib.hid (by rw [hW]; exact mr_start w s 1 V D)
  rw [← hW]
  clear hW
  refine (HMX.out p1 (by omega) s _ (by omega) _ _ (w.heap.size + 1 + 1 + 1 + 1 + 1 + 1 + 1) _ (HS.out.seed.cell 0) HS.out.ctr HS.out.ne HS.out.ctr.lt).mono ?_
  rintro e w2 ⟨v0, rfl, hF, hb, hO⟩
  have HS1 := Lib.hid (HS.out.call hF hb hO)
  obtain ⟨A0, n0, c0, rfl⟩ := hO.form
  have hc0 : w2.cell? ⟨w.heap.size + 1 + 1 + 1 + 1 + 1, 5, none⟩ = some (.slice none 0 0) := HS1.out.mod.cell 5
  have hf0 := HS1.out.mod.frozen 5
  clear hF hb hO HS
  have HS := Lib.hid (HS1.out.putL 5 (.slice A0 n0 c0) #[.int .i64 1, .int .i64 V, .int .i64 D, .int .i64 V, .slice (some ⟨w.heap.size + 1 + 1, 0, none⟩) 4 4, .slice A0 n0 c0, .slice none 0 0, .slice none 0 0, .slice none 0 0, .slice (some ⟨w.heap.size + 1 + 1 + 1, 0, none⟩) 7 7, .slice (some ⟨w.heap.size + 1 + 1 + 1 + 1, 0, none⟩) 6 6] rfl)
  clear HS1
  go_wp2_with fail
  clear hc0 hf0
  refine (HMX.out p2 (by omega) s _ (by omega) _ _ (w.heap.size + 1 + 1 + 1 + 1 + 1 + 1 + 1) _ (HS.out.seed.cell 0) HS.out.ctr HS.out.ne HS.out.ctr.lt).mono ?_
  rintro e w3 ⟨v1, rfl, hF, hb, hO⟩
  have HS1 := Lib.hid (HS.out.call hF hb hO)
  obtain ⟨A1, n1, c1, rfl⟩ := hO.form
  have hc1 : w3.cell? ⟨w.heap.size + 1 + 1 + 1 + 1 + 1, 6, none⟩ = some (.slice none 0 0) := HS1.out.mod.cell 6
  have hf1 := HS1.out.mod.frozen 6
  clear hF hb hO HS
  have HS := Lib.hid (HS1.out.putL 6 (.slice A1 n1 c1) #[.int .i64 1, .int .i64 V, .int .i64 D, .int .i64 V, .slice (some ⟨w.heap.size + 1 + 1, 0, none⟩) 4 4, .slice A0 n0 c0, .slice A1 n1 c1, .slice none 0 0, .slice none 0 0, .slice (some ⟨w.heap.size + 1 + 1 + 1, 0, none⟩) 7 7, .slice (some ⟨w.heap.size + 1 + 1 + 1 + 1, 0, none⟩) 6 6] rfl)
  clear HS1
  go_wp2_with fail
  clear hc1 hf1
  refine (HMX.out p3 (by omega) s _ (by omega) _ _ (w.heap.size + 1 + 1 + 1 + 1 + 1 + 1 + 1) _ (HS.out.seed.cell 0) HS.out.ctr HS.out.ne HS.out.ctr.lt).mono ?_
  rintro e w4 ⟨v2, rfl, hF, hb, hO⟩
  have HS1 := Lib.hid (HS.out.call hF hb hO)
  obtain ⟨A2, n2, c2, rfl⟩ := hO.form
  have hc2 : w4.cell? ⟨w.heap.size + 1 + 1 + 1 + 1 + 1, 7, none⟩ = some (.slice none 0 0) := HS1.out.mod.cell 7
  have hf2 := HS1.out.mod.frozen 7
  clear hF hb hO HS
  have HS := Lib.hid (HS1.out.putL 7 (.slice A2 n2 c2) #[.int .i64 1, .int .i64 V, .int .i64 D, .int .i64 V, .slice (some ⟨w.heap.size + 1 + 1, 0, none⟩) 4 4, .slice A0 n0 c0, .slice A1 n1 c1, .slice A2 n2 c2, .slice none 0 0, .slice (some ⟨w.heap.size + 1 + 1 + 1, 0, none⟩) 7 7, .slice (some ⟨w.heap.size + 1 + 1 + 1 + 1, 0, none⟩) 6 6] rfl)
  clear HS1
  go_wp2_with fail
  clear hc2 hf2
  refine (HMX.out p1 (by omega) s _ (by omega) _ _ (w.heap.size + 1 + 1 + 1 + 1 + 1 + 1 + 1) _ (HS.out.seed.cell 0) HS.out.ctr HS.out.ne HS.out.ctr.lt).mono ?_
  rintro e w5 ⟨v3, rfl, hF, hb, hO⟩
  have HS1 := Lib.hid (HS.out.call hF hb hO)
  obtain ⟨A3, n3, c3, rfl⟩ := hO.form
  have hc3 : w5.cell? ⟨w.heap.size + 1 + 1 + 1 + 1 + 1, 8, none⟩ = some (.slice none 0 0) := HS1.out.mod.cell 8
  have hf3 := HS1.out.mod.frozen 8
  clear hF hb hO HS
  have HS := Lib.hid (HS1.out.putL 8 (.slice A3 n3 c3) #[.int .i64 1, .int .i64 V, .int .i64 D, .int .i64 V, .slice (some ⟨w.heap.size + 1 + 1, 0, none⟩) 4 4, .slice A0 n0 c0, .slice A1 n1 c1, .slice A2 n2 c2, .slice A3 n3 c3, .slice (some ⟨w.heap.size + 1 + 1 + 1, 0, none⟩) 7 7, .slice (some ⟨w.heap.size + 1 + 1 + 1 + 1, 0, none⟩) 6 6] rfl)
  clear HS1
  obtain ⟨W6, hW6⟩ : ∃ W6, W6 = w5.setCell ⟨w.heap.size + 1 + 1 + 1 + 1 + 1, 8, none⟩ (.slice A3 n3 c3) := ⟨_, rfl⟩
  replace HS := Lib.hid (show MkS w W6 _ _ _ _ _ _ _ _ by rw [hW6]; exact HS.out)
  iterate 10 (first | go_values | go_skip | go_guarded | go_step | go_upon | go_back | (simp only at *; go_simp) | (go_values <;> (try go_simp)) | (go_ite <;> go_prune <;> (try go_simp)))
  rw [← hW6]
  clear hW6 hc3 hf3
  have l0 : W6.cell? ⟨w.heap.size + 1 + 1 + 1 + 1 + 1, 0, none⟩ = some (.int .i64 1) := HS.out.mod.cell 0
  have l1 : W6.cell? ⟨w.heap.size + 1 + 1 + 1 + 1 + 1, 1, none⟩ = some (.int .i64 V) := HS.out.mod.cell 1
  have l2 : W6.cell? ⟨w.heap.size + 1 + 1 + 1 + 1 + 1, 2, none⟩ = some (.int .i64 D) := HS.out.mod.cell 2
  have l3 : W6.cell? ⟨w.heap.size + 1 + 1 + 1 + 1 + 1, 3, none⟩ = some (.int .i64 V) := HS.out.mod.cell 3
  have l4 : W6.cell? ⟨w.heap.size + 1 + 1 + 1 + 1 + 1, 4, none⟩ = some (.slice (some ⟨w.heap.size + 1 + 1, 0, none⟩) 4 4) := HS.out.mod.cell 4
  have l5 : W6.cell? ⟨w.heap.size + 1 + 1 + 1 + 1 + 1, 5, none⟩ = some (.slice A0 n0 c0) := HS.out.mod.cell 5
  have l6 : W6.cell? ⟨w.heap.size + 1 + 1 + 1 + 1 + 1, 6, none⟩ = some (.slice A1 n1 c1) := HS.out.mod.cell 6
  have l7 : W6.cell? ⟨w.heap.size + 1 + 1 + 1 + 1 + 1, 7, none⟩ = some (.slice A2 n2 c2) := HS.out.mod.cell 7
  have l8 : W6.cell? ⟨w.heap.size + 1 + 1 + 1 + 1 + 1, 8, none⟩ = some (.slice A3 n3 c3) := HS.out.mod.cell 8
  have l9 : W6.cell? ⟨w.heap.size + 1 + 1 + 1 + 1 + 1, 9, none⟩ = some (.slice (some ⟨w.heap.size + 1 + 1 + 1, 0, none⟩) 7 7) := HS.out.mod.cell 9
  have l10 : W6.cell? ⟨w.heap.size + 1 + 1 + 1 + 1 + 1, 10, none⟩ = some (.slice (some ⟨w.heap.size + 1 + 1 + 1 + 1, 0, none⟩) 6 6) := HS.out.mod.cell 10
  have r0 : W6.cell? ⟨w.heap.size + 1, 0, none⟩ = some (.int .i64 0) := HS.out.res.cell 0
  have r1 : W6.cell? ⟨w.heap.size + 1, 1, none⟩ = some (.int .i64 0) := HS.out.res.cell 1
  have r2 : W6.cell? ⟨w.heap.size + 1, 2, none⟩ = some (.int .i64 0) := HS.out.res.cell 2
  have r3 : W6.cell? ⟨w.heap.size + 1, 3, none⟩ = some (.int .i64 0) := HS.out.res.cell 3
  have r4 : W6.cell? ⟨w.heap.size + 1, 4, none⟩ = some (.slice none 0 0) := HS.out.res.cell 4
  have r5 : W6.cell? ⟨w.heap.size + 1, 5, none⟩ = some (.slice none 0 0) := HS.out.res.cell 5
  have r6 : W6.cell? ⟨w.heap.size + 1, 6, none⟩ = some (.slice none 0 0) := HS.out.res.cell 6
  have r7 : W6.cell? ⟨w.heap.size + 1, 7, none⟩ = some (.slice none 0 0) := HS.out.res.cell 7
  have r8 : W6.cell? ⟨w.heap.size + 1, 8, none⟩ = some (.slice none 0 0) := HS.out.res.cell 8
  have r9 : W6.cell? ⟨w.heap.size + 1, 9, none⟩ = some (.slice none 0 0) := HS.out.res.cell 9
  have r10 : W6.cell? ⟨w.heap.size + 1, 10, none⟩ = some (.slice none 0 0) := HS.out.res.cell 10
  have q0 := HS.out.res.frozen 0
  have q1 := HS.out.res.frozen 1
  have q2 := HS.out.res.frozen 2
  have q3 := HS.out.res.frozen 3
  have q4 := HS.out.res.frozen 4
  have q5 := HS.out.res.frozen 5
  have q6 := HS.out.res.frozen 6
  have q7 := HS.out.res.frozen 7
  have q8 := HS.out.res.frozen 8
  have q9 := HS.out.res.frozen 9
  have q10 := HS.out.res.frozen 10
  go_wp2_with fail
  have HF := Lib.hid (HS.out.fin.all (.int .i64 1) (.int .i64 V) (.int .i64 D) (.int .i64 V) (.slice (some ⟨w.heap.size + 1 + 1, 0, none⟩) 4 4) (.slice A0 n0 c0) (.slice A1 n1 c1) (.slice A2 n2 c2) (.slice A3 n3 c3) (.slice (some ⟨w.heap.size + 1 + 1 + 1, 0, none⟩) 7 7) (.slice (some ⟨w.heap.size + 1 + 1 + 1 + 1, 0, none⟩) 6 6))
  obtain ⟨W9, hW9⟩ : ∃ W9, W9 = (((((((((((W6.setCell ⟨w.heap.size + 1, 0, none⟩ (.int .i64 1)).setCell ⟨w.heap.size + 1, 1, none⟩ (.int .i64 V)).setCell ⟨w.heap.size + 1, 2, none⟩ (.int .i64 D)).setCell ⟨w.heap.size + 1, 3, none⟩ (.int .i64 V)).setCell ⟨w.heap.size + 1, 4, none⟩ (.slice (some ⟨w.heap.size + 1 + 1, 0, none⟩) 4 4)).setCell ⟨w.heap.size + 1, 5, none⟩ (.slice A0 n0 c0)).setCell ⟨w.heap.size + 1, 6, none⟩ (.slice A1 n1 c1)).setCell ⟨w.heap.size + 1, 7, none⟩ (.slice A2 n2 c2)).setCell ⟨w.heap.size + 1, 8, none⟩ (.slice A3 n3 c3)).setCell ⟨w.heap.size + 1, 9, none⟩ (.slice (some ⟨w.heap.size + 1 + 1 + 1, 0, none⟩) 7 7)).setCell ⟨w.heap.size + 1, 10, none⟩ (.slice (some ⟨w.heap.size + 1 + 1 + 1 + 1, 0, none⟩) 6 6)) := ⟨_, rfl⟩
  rw [← hW9] at HF ⊢
  clear hW9 HS l0 r0 q0 l1 r1 q1 l2 r2 q2 l3 r3 q3 l4 r4 q4 l5 r5 q5 l6 r6 q6 l7 r7 q7 l8 r8 q8 l9 r9 q9 l10 r10 q10
  have m0 : W9.cell? ⟨w.heap.size + 1, 0, none⟩ = some (.int .i64 1) := HF.out.res.cell 0
  have m1 : W9.cell? ⟨w.heap.size + 1, 1, none⟩ = some (.int .i64 V) := HF.out.res.cell 1
  have m2 : W9.cell? ⟨w.heap.size + 1, 2, none⟩ = some (.int .i64 D) := HF.out.res.cell 2
  have m3 : W9.cell? ⟨w.heap.size + 1, 3, none⟩ = some (.int .i64 V) := HF.out.res.cell 3
  have m4 : W9.cell? ⟨w.heap.size + 1, 4, none⟩ = some (.slice (some ⟨w.heap.size + 1 + 1, 0, none⟩) 4 4) := HF.out.res.cell 4
  have m5 : W9.cell? ⟨w.heap.size + 1, 5, none⟩ = some (.slice A0 n0 c0) := HF.out.res.cell 5
  have m6 : W9.cell? ⟨w.heap.size + 1, 6, none⟩ = some (.slice A1 n1 c1) := HF.out.res.cell 6
  have m7 : W9.cell? ⟨w.heap.size + 1, 7, none⟩ = some (.slice A2 n2 c2) := HF.out.res.cell 7
  have m8 : W9.cell? ⟨w.heap.size + 1, 8, none⟩ = some (.slice A3 n3 c3) := HF.out.res.cell 8
  have m9 : W9.cell? ⟨w.heap.size + 1, 9, none⟩ = some (.slice (some ⟨w.heap.size + 1 + 1 + 1, 0, none⟩) 7 7) := HF.out.res.cell 9
  have m10 : W9.cell? ⟨w.heap.size + 1, 10, none⟩ = some (.slice (some ⟨w.heap.size + 1 + 1 + 1 + 1, 0, none⟩) 6 6) := HF.out.res.cell 10
  refine bodyPost_ret (v := .agg #[.int .i64 1, .int .i64 V, .int .i64 D, .int .i64 V, .slice (some ⟨w.heap.size + 1 + 1, 0, none⟩) 4 4, .slice A0 n0 c0, .slice A1 n1 c1, .slice A2 n2 c2, .slice A3 n3 c3, .slice (some ⟨w.heap.size + 1 + 1 + 1, 0, none⟩) 7 7, .slice (some ⟨w.heap.size + 1 + 1 + 1 + 1, 0, none⟩) 6 6]) (by rw [res_c1 rfl]; go_simp) rfl ⟨_, rfl, HF.out.below, _, _, _, _, _, _, _, rfl, ?_, ?_, ?_, ?_, ?_, ?_, ?_⟩
  all_goals exact HF.out.rints (by simp [madeM])
set_option maxHeartbeats 8000000 in
set_option maxRecDepth 100000 in
theorem made_2 (s V D : Int) (p1 p2 p3 p0 : Nat) (w : World) (hV1 : 2 ≤ V) (hV2 : V ≤ 16) (hD1 : 1 ≤ D) (hD2 : D ≤ 5) (q1 : V * D = (p1 : Int) + 1) (q2 : 4 * D = (p2 : Int) + 1) (q0 : 2 * D = (p0 : Int)) (q3 : (p0 : Int) * D = (p3 : Int) + 1) :
    Calls Tryz.prog 11 #[.int .i64 s, .int .i64 2, .int .i64 V, .int .i64 D] w fun e w' => ∃ v, e = .returned v ∧ Below w.heap.size w w' ∧ OwM w.heap.size w' v (madeM s 2 V D p1 p2 p3) := by
  have hp1 : p1 + 1 ≤ 80 := by
    rcases (show D = 1 ∨ D = 2 ∨ D = 3 ∨ D = 4 ∨ D = 5 by omega) with rfl | rfl | rfl | rfl | rfl <;> omega
  have hp2 : p2 + 1 ≤ 20 := by omega
  have hp0 : p0 ≤ 15 := by omega
  have hp3 : p3 + 1 ≤ 75 := by
    rcases (show D = 1 ∨ D = 2 ∨ D = 3 ∨ D = 4 ∨ D = 5 by omega) with rfl | rfl | rfl | rfl | rfl <;> omega
  have r1 : wrap64 (V * D) = (p1 : Int) + 1 := by rw [q1]; unfold wrap64; omega
  have r2 : wrap64 (4 * D) = (p2 : Int) + 1 := by rw [q2]; unfold wrap64; omega
  have r0 : wrap64 (2 * D) = (p0 : Int) := by rw [q0]; unfold wrap64; omega
  have r3 : wrap64 ((p0 : Int) * D) = (p3 : Int) + 1 := by rw [q3]; unfold wrap64; omega
  have HMX := Lib.hid mdraw_ow
  have hix := ix_2
  clear q1 q3
  go_enter Tryz.func11, Tryz.ntmps11
  go_wp2_with fail
  obtain ⟨W, hW⟩ : ∃ W, W = (((((((w.alloc (.cells #[.int .i64 s] 3)).alloc (.cells #[.int .i64 0, .int .i64 0, .int .i64 0, .int .i64 0, .slice none 0 0, .slice none 0 0, .slice none 0 0, .slice none 0 0, .slice none 0 0, .slice none 0 0, .slice none 0 0] 24)).alloc (.cells #[.int .i64 4, .int .i64 6, .int .i64 8, .int .i64 3] 3)).alloc (.cells #[.int .i64 64, .int .i64 32, .int .i64 16, .int .i64 8, .int .i64 4, .int .i64 2, .int .i64 1] 3)).alloc (.cells #[.int .i64 32, .int .i64 16, .int .i64 8, .int .i64 4, .int .i64 2, .int .i64 1] 3)).alloc (.cells #[.int .i64 2, .int .i64 V, .int .i64 D, .int .i64 V, .slice (some ⟨w.heap.size + 1 + 1, 0, none⟩) 4 4, .slice none 0 0, .slice none 0 0, .slice none 0 0, .slice none 0 0, .slice (some ⟨w.heap.size + 1 + 1 + 1, 0, none⟩) 7 7, .slice (some ⟨w.heap.size + 1 + 1 + 1 + 1, 0, none⟩) 6 6] 24)).alloc (.cells #[.int .i64 0] 3)) := ⟨_, rfl⟩
  have HS : Hid (MkS w W w.heap.size (w.heap.size + 1 + 1 + 1 + 1 + 1 + 1) (w.heap.size + 1 + 1 + 1 + 1 + 1) (w.heap.size + 1) s 0 #[.int .i64 2, .int .i64 V, .int .i64 D, .int .i64 V, .slice (some ⟨w.heap.size + 1 + 1, 0, none⟩) 4 4, .slice none 0 0, .slice none 0 0, .slice none 0 0, .slice none 0 0, .slice (some ⟨w.heap.size + 1 + 1 + 1, 0, none⟩) 7 7, .slice (some ⟨w.heap.size + 1 + 1 + 1 + 1, 0, none⟩) 6 6] [(.slice (some ⟨w.heap.size + 1 + 1, 0, none⟩) 4 4, [4, 6, 8, 3]), (.slice (some ⟨w.heap.size + 1 + 1 + 1, 0, none⟩) 7 7, [64, 32, 16, 8, 4, 2, 1]), (.slice (some ⟨w.heap.size + 1 + 1 + 1 + 1, 0, none⟩) 6 6, [32, 16, 8, 4, 2, 1])]) := Lib.hid (by rw [hW]; exact mr_start w s 2 V D)
  rw [← hW]
  clear hW
  refine (HMX.out p1 (by omega) s _ (by omega) _ _ (w.heap.size + 1 + 1 + 1 + 1 + 1 + 1 + 1) _ (HS.out.seed.cell 0) HS.out.ctr HS.out.ne HS.out.ctr.lt).mono ?_
  rintro e w2 ⟨v0, rfl, hF, hb, hO⟩
  have HS1 := Lib.hid (HS.out.call hF hb hO)
  obtain ⟨A0, n0, c0, rfl⟩ := hO.form
  have hc0 : w2.cell? ⟨w.heap.size + 1 + 1 + 1 + 1 + 1, 5, none⟩ = some (.slice none 0 0) := HS1.out.mod.cell 5
  have hf0 := HS1.out.mod.frozen 5
  clear hF hb hO HS
  have HS := Lib.hid (HS1.out.putL 5 (.slice A0 n0 c0) #[.int .i64 2, .int .i64 V, .int .i64 D, .int .i64 V, .slice (some ⟨w.heap.size + 1 + 1, 0, none⟩) 4 4, .slice A0 n0 c0, .slice none 0 0, .slice none 0 0, .slice none 0 0, .slice (some ⟨w.heap.size + 1 + 1 + 1, 0, none⟩) 7 7, .slice (some ⟨w.heap.size + 1 + 1 + 1 + 1, 0, none⟩) 6 6] rfl)
  clear HS1
  go_wp2_with fail
  clear hc0 hf0
  refine (HMX.out p2 (by omega) s _ (by omega) _ _ (w.heap.size + 1 + 1 + 1 + 1 + 1 + 1 + 1) _ (HS.out.seed.cell 0) HS.out.ctr HS.out.ne HS.out.ctr.lt).mono ?_
  rintro e w3 ⟨v1, rfl, hF, hb, hO⟩
  have HS1 := Lib.hid (HS.out.call hF hb hO)
  obtain ⟨A1, n1, c1, rfl⟩ := hO.form
  have hc1 : w3.cell? ⟨w.heap.size + 1 + 1 + 1 + 1 + 1, 6, none⟩ = some (.slice none 0 0) := HS1.out.mod.cell 6
  have hf1 := HS1.out.mod.frozen 6
  clear hF hb hO HS
  have HS := Lib.hid (HS1.out.putL 6 (.slice A1 n1 c1) #[.int .i64 2, .int .i64 V, .int .i64 D, .int .i64 V, .slice (some ⟨w.heap.size + 1 + 1, 0, none⟩) 4 4, .slice A0 n0 c0, .slice A1 n1 c1, .slice none 0 0, .slice none 0 0, .slice (some ⟨w.heap.size + 1 + 1 + 1, 0, none⟩) 7 7, .slice (some ⟨w.heap.size + 1 + 1 + 1 + 1, 0, none⟩) 6 6] rfl)
  clear HS1
  go_wp2_with fail
  clear hc1 hf1
  refine (HMX.out p3 (by omega) s _ (by omega) _ _ (w.heap.size + 1 + 1 + 1 + 1 + 1 + 1 + 1) _ (HS.out.seed.cell 0) HS.out.ctr HS.out.ne HS.out.ctr.lt).mono ?_
  rintro e w4 ⟨v2, rfl, hF, hb, hO⟩
  have HS1 := Lib.hid (HS.out.call hF hb hO)
  obtain ⟨A2, n2, c2, rfl⟩ := hO.form
  have hc2 : w4.cell? ⟨w.heap.size + 1 + 1 + 1 + 1 + 1, 7, none⟩ = some (.slice none 0 0) := HS1.out.mod.cell 7
  have hf2 := HS1.out.mod.frozen 7
  clear hF hb hO HS
  have HS := Lib.hid (HS1.out.putL 7 (.slice A2 n2 c2) #[.int .i64 2, .int .i64 V, .int .i64 D, .int .i64 V, .slice (some ⟨w.heap.size + 1 + 1, 0, none⟩) 4 4, .slice A0 n0 c0, .slice A1 n1 c1, .slice A2 n2 c2, .slice none 0 0, .slice (some ⟨w.heap.size + 1 + 1 + 1, 0, none⟩) 7 7, .slice (some ⟨w.heap.size + 1 + 1 + 1 + 1, 0, none⟩) 6 6] rfl)
  clear HS1
  go_wp2_with fail
  clear hc2 hf2
  refine (HMX.out p1 (by omega) s _ (by omega) _ _ (w.heap.size + 1 + 1 + 1 + 1 + 1 + 1 + 1) _ (HS.out.seed.cell 0) HS.out.ctr HS.out.ne HS.out.ctr.lt).mono ?_
  rintro e w5 ⟨v3, rfl, hF, hb, hO⟩
  have HS1 := Lib.hid (HS.out.call hF hb hO)
  obtain ⟨A3, n3, c3, rfl⟩ := hO.form
  have hc3 : w5.cell? ⟨w.heap.size + 1 + 1 + 1 + 1 + 1, 8, none⟩ = some (.slice none 0 0) := HS1.out.mod.cell 8
  have hf3 := HS1.out.mod.frozen 8
  clear hF hb hO HS
  have HS := Lib.hid (HS1.out.putL 8 (.slice A3 n3 c3) #[.int .i64 2, .int .i64 V, .int .i64 D, .int .i64 V, .slice (some ⟨w.heap.size + 1 + 1, 0, none⟩) 4 4, .slice A0 n0 c0, .slice A1 n1 c1, .slice A2 n2 c2, .slice A3 n3 c3, .slice (some ⟨w.heap.size + 1 + 1 + 1, 0, none⟩) 7 7, .slice (some ⟨w.heap.size + 1 + 1 + 1 + 1, 0, none⟩) 6 6] rfl)
  clear HS1
  obtain ⟨W6, hW6⟩ : ∃ W6, W6 = w5.setCell ⟨w.heap.size + 1 + 1 + 1 + 1 + 1, 8, none⟩ (.slice A3 n3 c3) := ⟨_, rfl⟩
  replace HS := Lib.hid (show MkS w W6 _ _ _ _ _ _ _ _ by rw [hW6]; exact HS.out)
  iterate 10 (first | go_values | go_skip | go_guarded | go_step | go_upon | go_back | (simp only at *; go_simp) | (go_values <;> (try go_simp)) | (go_ite <;> go_prune <;> (try go_simp)))
  rw [← hW6]
  clear hW6 hc3 hf3
  have l0 : W6.cell? ⟨w.heap.size + 1 + 1 + 1 + 1 + 1, 0, none⟩ = some (.int .i64 2) := HS.out.mod.cell 0
  have l1 : W6.cell? ⟨w.heap.size + 1 + 1 + 1 + 1 + 1, 1, none⟩ = some (.int .i64 V) := HS.out.mod.cell 1
  have l2 : W6.cell? ⟨w.heap.size + 1 + 1 + 1 + 1 + 1, 2, none⟩ = some (.int .i64 D) := HS.out.mod.cell 2
  have l3 : W6.cell? ⟨w.heap.size + 1 + 1 + 1 + 1 + 1, 3, none⟩ = some (.int .i64 V) := HS.out.mod.cell 3
  have l4 : W6.cell? ⟨w.heap.size + 1 + 1 + 1 + 1 + 1, 4, none⟩ = some (.slice (some ⟨w.heap.size + 1 + 1, 0, none⟩) 4 4) := HS.out.mod.cell 4
  have l5 : W6.cell? ⟨w.heap.size + 1 + 1 + 1 + 1 + 1, 5, none⟩ = some (.slice A0 n0 c0) := HS.out.mod.cell 5
  have l6 : W6.cell? ⟨w.heap.size + 1 + 1 + 1 + 1 + 1, 6, none⟩ = some (.slice A1 n1 c1) := HS.out.mod.cell 6
  have l7 : W6.cell? ⟨w.heap.size + 1 + 1 + 1 + 1 + 1, 7, none⟩ = some (.slice A2 n2 c2) := HS.out.mod.cell 7
  have l8 : W6.cell? ⟨w.heap.size + 1 + 1 + 1 + 1 + 1, 8, none⟩ = some (.slice A3 n3 c3) := HS.out.mod.cell 8
  have l9 : W6.cell? ⟨w.heap.size + 1 + 1 + 1 + 1 + 1, 9, none⟩ = some (.slice (some ⟨w.heap.size + 1 + 1 + 1, 0, none⟩) 7 7) := HS.out.mod.cell 9
  have l10 : W6.cell? ⟨w.heap.size + 1 + 1 + 1 + 1 + 1, 10, none⟩ = some (.slice (some ⟨w.heap.size + 1 + 1 + 1 + 1, 0, none⟩) 6 6) := HS.out.mod.cell 10
  have r0 : W6.cell? ⟨w.heap.size + 1, 0, none⟩ = some (.int .i64 0) := HS.out.res.cell 0
  have r1 : W6.cell? ⟨w.heap.size + 1, 1, none⟩ = some (.int .i64 0) := HS.out.res.cell 1
  have r2 : W6.cell? ⟨w.heap.size + 1, 2, none⟩ = some (.int .i64 0) := HS.out.res.cell 2
  have r3 : W6.cell? ⟨w.heap.size + 1, 3, none⟩ = some (.int .i64 0) := HS.out.res.cell 3
  have r4 : W6.cell? ⟨w.heap.size + 1, 4, none⟩ = some (.slice none 0 0) := HS.out.res.cell 4
  have r5 : W6.cell? ⟨w.heap.size + 1, 5, none⟩ = some (.slice none 0 0) := HS.out.res.cell 5
  have r6 : W6.cell? ⟨w.heap.size + 1, 6, none⟩ = some (.slice none 0 0) := HS.out.res.cell 6
  have r7 : W6.cell? ⟨w.heap.size + 1, 7, none⟩ = some (.slice none 0 0) := HS.out.res.cell 7
  have r8 : W6.cell? ⟨w.heap.size + 1, 8, none⟩ = some (.slice none 0 0) := HS.out.res.cell 8
  have r9 : W6.cell? ⟨w.heap.size + 1, 9, none⟩ = some (.slice none 0 0) := HS.out.res.cell 9
  have r10 : W6.cell? ⟨w.heap.size + 1, 10, none⟩ = some (.slice none 0 0) := HS.out.res.cell 10
  have q0 := HS.out.res.frozen 0
  have q1 := HS.out.res.frozen 1
  have q2 := HS.out.res.frozen 2
  have q3 := HS.out.res.frozen 3
  have q4 := HS.out.res.frozen 4
  have q5 := HS.out.res.frozen 5
  have q6 := HS.out.res.frozen 6
  have q7 := HS.out.res.frozen 7
  have q8 := HS.out.res.frozen 8
  have q9 := HS.out.res.frozen 9
  have q10 := HS.out.res.frozen 10
  go_wp2_with fail
  have HF := Lib.hid (HS.out.fin.all (.int .i64 2) (.int .i64 V) (.int .i64 D) (.int .i64 V) (.slice (some ⟨w.heap.size + 1 + 1, 0, none⟩) 4 4) (.slice A0 n0 c0) (.slice A1 n1 c1) (.slice A2 n2 c2) (.slice A3 n3 c3) (.slice (some ⟨w.heap.size + 1 + 1 + 1, 0, none⟩) 7 7) (.slice (some ⟨w.heap.size + 1 + 1 + 1 + 1, 0, none⟩) 6 6))
  obtain ⟨W9, hW9⟩ : ∃ W9, W9 = (((((((((((W6.setCell ⟨w.heap.size + 1, 0, none⟩ (.int .i64 2)).setCell ⟨w.heap.size + 1, 1, none⟩ (.int .i64 V)).setCell ⟨w.heap.size + 1, 2, none⟩ (.int .i64 D)).setCell ⟨w.heap.size + 1, 3, none⟩ (.int .i64 V)).setCell ⟨w.heap.size + 1, 4, none⟩ (.slice (some ⟨w.heap.size + 1 + 1, 0, none⟩) 4 4)).setCell ⟨w.heap.size + 1, 5, none⟩ (.slice A0 n0 c0)).setCell ⟨w.heap.size + 1, 6, none⟩ (.slice A1 n1 c1)).setCell ⟨w.heap.size + 1, 7, none⟩ (.slice A2 n2 c2)).setCell ⟨w.heap.size + 1, 8, none⟩ (.slice A3 n3 c3)).setCell ⟨w.heap.size + 1, 9, none⟩ (.slice (some ⟨w.heap.size + 1 + 1 + 1, 0, none⟩) 7 7)).setCell ⟨w.heap.size + 1, 10, none⟩ (.slice (some ⟨w.heap.size + 1 + 1 + 1 + 1, 0, none⟩) 6 6)) := ⟨_, rfl⟩
  rw [← hW9] at HF ⊢
  clear hW9 HS l0 r0 q0 l1 r1 q1 l2 r2 q2 l3 r3 q3 l4 r4 q4 l5 r5 q5 l6 r6 q6 l7 r7 q7 l8 r8 q8 l9 r9 q9 l10 r10 q10
  have m0 : W9.cell? ⟨w.heap.size + 1, 0, none⟩ = some (.int .i64 2) := HF.out.res.cell 0
  have m1 : W9.cell? ⟨w.heap.size + 1, 1, none⟩ = some (.int .i64 V) := HF.out.res.cell 1
  have m2 : W9.cell? ⟨w.heap.size + 1, 2, none⟩ = some (.int .i64 D) := HF.out.res.cell 2
  have m3 : W9.cell? ⟨w.heap.size + 1, 3, none⟩ = some (.int .i64 V) := HF.out.res.cell 3
  have m4 : W9.cell? ⟨w.heap.size + 1, 4, none⟩ = some (.slice (some ⟨w.heap.size + 1 + 1, 0, none⟩) 4 4) := HF.out.res.cell 4
  have m5 : W9.cell? ⟨w.heap.size + 1, 5, none⟩ = some (.slice A0 n0 c0) := HF.out.res.cell 5
  have m6 : W9.cell? ⟨w.heap.size + 1, 6, none⟩ = some (.slice A1 n1 c1) := HF.out.res.cell 6
  have m7 : W9.cell? ⟨w.heap.size + 1, 7, none⟩ = some (.slice A2 n2 c2) := HF.out.res.cell 7
  have m8 : W9.cell? ⟨w.heap.size + 1, 8, none⟩ = some (.slice A3 n3 c3) := HF.out.res.cell 8
  have m9 : W9.cell? ⟨w.heap.size + 1, 9, none⟩ = some (.slice (some ⟨w.heap.size + 1 + 1 + 1, 0, none⟩) 7 7) := HF.out.res.cell 9
  have m10 : W9.cell? ⟨w.heap.size + 1, 10, none⟩ = some (.slice (some ⟨w.heap.size + 1 + 1 + 1 + 1, 0, none⟩) 6 6) := HF.out.res.cell 10
  refine bodyPost_ret (v := .agg #[.int .i64 2, .int .i64 V, .int .i64 D, .int .i64 V, .slice (some ⟨w.heap.size + 1 + 1, 0, none⟩) 4 4, .slice A0 n0 c0, .slice A1 n1 c1, .slice A2 n2 c2, .slice A3 n3 c3, .slice (some ⟨w.heap.size + 1 + 1 + 1, 0, none⟩) 7 7, .slice (some ⟨w.heap.size + 1 + 1 + 1 + 1, 0, none⟩) 6 6]) (by rw [res_c1 rfl]; go_simp) rfl ⟨_, rfl, HF.out.below, _, _, _, _, _, _, _, rfl, ?_, ?_, ?_, ?_, ?_, ?_, ?_⟩
  all_goals exact HF.out.rints (by simp [madeM])
set_option maxHeartbeats 8000000 in
set_option maxRecDepth 100000 in
theorem made_3 (s V D : Int) (p1 p2 p3 p0 : Nat) (w : World) (hV1 : 2 ≤ V) (hV2 : V ≤ 16) (hD1 : 1 ≤ D) (hD2 : D ≤ 5) (q1 : V * D = (p1 : Int) + 1) (q2 : 4 * D = (p2 : Int) + 1) (q0 : 2 * D = (p0 : Int)) (q3 : (p0 : Int) * D = (p3 : Int) + 1) :
    Calls Tryz.prog 11 #[.int .i64 s, .int .i64 3, .int .i64 V, .int .i64 D] w fun e w' => ∃ v, e = .returned v ∧ Below w.heap.size w w' ∧ OwM w.heap.size w' v (madeM s 3 V D p1 p2 p3) := by
  have hp1 : p1 + 1 ≤ 80 := by
    rcases (show D = 1 ∨ D = 2 ∨ D = 3 ∨ D = 4 ∨ D = 5 by omega) with rfl | rfl | rfl | rfl | rfl <;> omega
  have hp2 : p2 + 1 ≤ 20 := by omega
  have hp0 : p0 ≤ 15 := by omega
  have hp3 : p3 + 1 ≤ 75 := by
    rcases (show D = 1 ∨ D = 2 ∨ D = 3 ∨ D = 4 ∨ D = 5 by omega) with rfl | rfl | rfl | rfl | rfl <;> omega
  have r1 : wrap64 (V * D) = (p1 : Int) + 1 := by rw [q1]; unfold wrap64; omega
  have r2 : wrap64 (4 * D) = (p2 : Int) + 1 := by rw [q2]; unfold wrap64; omega
  have r0 : wrap64 (2 * D) = (p0 : Int) := by rw [q0]; unfold wrap64; omega
  have r3 : wrap64 ((p0 : Int) * D) = (p3 : Int) + 1 := by rw [q3]; unfold wrap64; omega
  have HMX := Lib.hid mdraw_ow
  have hix := ix_3
  clear q1 q3
  go_enter Tryz.func11, Tryz.ntmps11
  go_wp2_with fail
  obtain ⟨W, hW⟩ : ∃ W, W = (((((((w.alloc (.cells #[.int .i64 s] 3)).alloc (.cells #[.int .i64 0, .int .i64 0, .int .i64 0, .int .i64 0, .slice none 0 0, .slice none 0 0, .slice none 0 0, .slice none 0 0, .slice none 0 0, .slice none 0 0, .slice none 0 0] 24)).alloc (.cells #[.int .i64 4, .int .i64 6, .int .i64 8, .int .i64 3] 3)).alloc (.cells #[.int .i64 64, .int .i64 32, .int .i64 16, .int .i64 8, .int .i64 4, .int .i64 2, .int .i64 1] 3)).alloc (.cells #[.int .i64 32, .int .i64 16, .int .i64 8, .int .i64 4, .int .i64 2, .int .i64 1] 3)).alloc (.cells #[.int .i64 3, .int .i64 V, .int .i64 D, .int .i64 V, .slice (some ⟨w.heap.size + 1 + 1, 0, none⟩) 4 4, .slice none 0 0, .slice none 0 0, .slice none 0 0, .slice none 0 0, .slice (some ⟨w.heap.size + 1 + 1 + 1, 0, none⟩) 7 7, .slice (some ⟨w.heap.size + 1 + 1 + 1 + 1, 0, none⟩) 6 6] 24)).alloc (.cells #[.int .i64 0] 3)) := ⟨_, rfl⟩
  have HS : Hid (MkS w W w.heap.size (w.heap.size + 1 + 1 + 1 + 1 + 1 + 1) (w.heap.size + 1 + 1 + 1 + 1 + 1) (w.heap.size + 1) s 0 #[.int .i64 3, .int .i64 V, .int .i64 D, .int .i64 V, .slice (some ⟨w.heap.size + 1 + 1, 0, none⟩) 4 4, .slice none 0 0, .slice none 0 0, .slice none 0 0, .slice none 0 0, .slice (some ⟨w.heap.size + 1 + 1 + 1, 0, none⟩) 7 7, .slice (some ⟨w.heap.size + 1 + 1 + 1 + 1, 0, none⟩) 6 6] [(.slice (some ⟨w.heap.size + 1 + 1, 0, none⟩) 4 4, [4, 6, 8, 3]), (.slice (some ⟨w.heap.size + 1 + 1 + 1, 0, none⟩) 7 7, [64, 32, 16, 8, 4, 2, 1]), (.slice (some ⟨w.heap.size + 1 + 1 + 1 + 1, 0, none⟩) 6 6, [32, 16, 8, 4, 2, 1])]) := Lib.hid (by rw [hW]; exact mr_start w s 3 V D)
  rw [← hW]
  clear hW
  refine (HMX.out p1 (by omega) s _ (by omega) _ _ (w.heap.size + 1 + 1 + 1 + 1 + 1 + 1 + 1) _ (HS.out.seed.cell 0) HS.out.ctr HS.out.ne HS.out.ctr.lt).mono ?_
  rintro e w2 ⟨v0, rfl, hF, hb, hO⟩
  have HS1 := Lib.hid (HS.out.call hF hb hO)
  obtain ⟨A0, n0, c0, rfl⟩ := hO.form
  have hc0 : w2.cell? ⟨w.heap.size + 1 + 1 + 1 + 1 + 1, 5, none⟩ = some (.slice none 0 0) := HS1.out.mod.cell 5
  have hf0 := HS1.out.mod.frozen 5
  clear hF hb hO HS
  have HS := Lib.hid (HS1.out.putL 5 (.slice A0 n0 c0) #[.int .i64 3, .int .i64 V, .int .i64 D, .int .i64 V, .slice (some ⟨w.heap.size + 1 + 1, 0, none⟩) 4 4, .slice A0 n0 c0, .slice none 0 0, .slice none 0 0, .slice none 0 0, .slice (some ⟨w.heap.size + 1 + 1 + 1, 0, none⟩) 7 7, .slice (some ⟨w.heap.size + 1 + 1 + 1 + 1, 0, none⟩) 6 6] rfl)
  clear HS1
  go_wp2_with fail
  clear hc0 hf0
  refine (HMX.out p2 (by omega) s _ (by omega) _ _ (w.heap.size + 1 + 1 + 1 + 1 + 1 + 1 + 1) _ (HS.out.seed.cell 0) HS.out.ctr HS.out.ne HS.out.ctr.lt).mono ?_
  rintro e w3 ⟨v1, rfl, hF, hb, hO⟩
  have HS1 := Lib.hid (HS.out.call hF hb hO)
  obtain ⟨A1, n1, c1, rfl⟩ := hO.form
  have hc1 : w3.cell? ⟨w.heap.size + 1 + 1 + 1 + 1 + 1, 6, none⟩ = some (.slice none 0 0) := HS1.out.mod.cell 6
  have hf1 := HS1.out.mod.frozen 6
  clear hF hb hO HS
  have HS := Lib.hid (HS1.out.putL 6 (.slice A1 n1 c1) #[.int .i64 3, .int .i64 V, .int .i64 D, .int .i64 V, .slice (some ⟨w.heap.size + 1 + 1, 0, none⟩) 4 4, .slice A0 n0 c0, .slice A1 n1 c1, .slice none 0 0, .slice none 0 0, .slice (some ⟨w.heap.size + 1 + 1 + 1, 0, none⟩) 7 7, .slice (some ⟨w.heap.size + 1 + 1 + 1 + 1, 0, none⟩) 6 6] rfl)
  clear HS1
  go_wp2_with fail
  clear hc1 hf1
  refine (HMX.out p3 (by omega) s _ (by omega) _ _ (w.heap.size + 1 + 1 + 1 + 1 + 1 + 1 + 1) _ (HS.out.seed.cell 0) HS.out.ctr HS.out.ne HS.out.ctr.lt).mono ?_
  rintro e w4 ⟨v2, rfl, hF, hb, hO⟩
  have HS1 := Lib.hid (HS.out.call hF hb hO)
  obtain ⟨A2, n2, c2, rfl⟩ := hO.form
  have hc2 : w4.cell? ⟨w.heap.size + 1 + 1 + 1 + 1 + 1, 7, none⟩ = some (.slice none 0 0) := HS1.out.mod.cell 7
  have hf2 := HS1.out.mod.frozen 7
  clear hF hb hO HS
  have HS := Lib.hid (HS1.out.putL 7 (.slice A2 n2 c2) #[.int .i64 3, .int .i64 V, .int .i64 D, .int .i64 V, .slice (some ⟨w.heap.size + 1 + 1, 0, none⟩) 4 4, .slice A0 n0 c0, .slice A1 n1 c1, .slice A2 n2 c2, .slice none 0 0, .slice (some ⟨w.heap.size + 1 + 1 + 1, 0, none⟩) 7 7, .slice (some ⟨w.heap.size + 1 + 1 + 1 + 1, 0, none⟩) 6 6] rfl)
  clear HS1
  go_wp2_with fail
  clear hc2 hf2
  refine (HMX.out p1 (by omega) s _ (by omega) _ _ (w.heap.size + 1 + 1 + 1 + 1 + 1 + 1 + 1) _ (HS.out.seed.cell 0) HS.out.ctr HS.out.ne HS.out.ctr.lt).mono ?_
  rintro e w5 ⟨v3, rfl, hF, hb, hO⟩
  have HS1 := Lib.hid (HS.out.call hF hb hO)
  obtain ⟨A3, n3, c3, rfl⟩ := hO.form
  have hc3 : w5.cell? ⟨w.heap.size + 1 + 1 + 1 + 1 + 1, 8, none⟩ = some (.slice none 0 0) := HS1.out.mod.cell 8
  have hf3 := HS1.out.mod.frozen 8
  clear hF hb hO HS
  have HS := Lib.hid (HS1.out.putL 8 (.slice A3 n3 c3) #[.int .i64 3, .int .i64 V, .int .i64 D, .int .i64 V, .slice (some ⟨w.heap.size + 1 + 1, 0, none⟩) 4 4, .slice A0 n0 c0, .slice A1 n1 c1, .slice A2 n2 c2, .slice A3 n3 c3, .slice (some ⟨w.heap.size + 1 + 1 + 1, 0, none⟩) 7 7, .slice (some ⟨w.heap.size + 1 + 1 + 1 + 1, 0, none⟩) 6 6] rfl)
  clear HS1
  obtain ⟨W6, hW6⟩ : ∃ W6, W6 = w5.setCell ⟨w.heap.size + 1 + 1 + 1 + 1 + 1, 8, none⟩ (.slice A3 n3 c3) := ⟨_, rfl⟩
  replace HS := Lib.hid (show MkS w W6 _ _ _ _ _ _ _ _ by rw [hW6]; exact HS.out)
  iterate 10 (first | go_values | go_skip | go_guarded | go_step | go_upon | go_back | (simp only at *; go_simp) | (go_values <;> (try go_simp)) | (go_ite <;> go_prune <;> (try go_simp)))
  rw [← hW6]
  clear hW6 hc3 hf3
  have l0 : W6.cell? ⟨w.heap.size + 1 + 1 + 1 + 1 + 1, 0, none⟩ = some (.int .i64 3) := HS.out.mod.cell 0
  have l1 : W6.cell? ⟨w.heap.size + 1 + 1 + 1 + 1 + 1, 1, none⟩ = some (.int .i64 V) := HS.out.mod.cell 1
  have l2 : W6.cell? ⟨w.heap.size + 1 + 1 + 1 + 1 + 1, 2, none⟩ = some (.int .i64 D) := HS.out.mod.cell 2
  have l3 : W6.cell? ⟨w.heap.size + 1 + 1 + 1 + 1 + 1, 3, none⟩ = some (.int .i64 V) := HS.out.mod.cell 3
  have l4 : W6.cell? ⟨w.heap.size + 1 + 1 + 1 + 1 + 1, 4, none⟩ = some (.slice (some ⟨w.heap.size + 1 + 1, 0, none⟩) 4 4) := HS.out.mod.cell 4
  have l5 : W6.cell? ⟨w.heap.size + 1 + 1 + 1 + 1 + 1, 5, none⟩ = some (.slice A0 n0 c0) := HS.out.mod.cell 5
  have l6 : W6.cell? ⟨w.heap.size + 1 + 1 + 1 + 1 + 1, 6, none⟩ = some (.slice A1 n1 c1) := HS.out.mod.cell 6
  have l7 : W6.cell? ⟨w.heap.size + 1 + 1 + 1 + 1 + 1, 7, none⟩ = some (.slice A2 n2 c2) := HS.out.mod.cell 7
  have l8 : W6.cell? ⟨w.heap.size + 1 + 1 + 1 + 1 + 1, 8, none⟩ = some (.slice A3 n3 c3) := HS.out.mod.cell 8
  have l9 : W6.cell? ⟨w.heap.size + 1 + 1 + 1 + 1 + 1, 9, none⟩ = some (.slice (some ⟨w.heap.size + 1 + 1 + 1, 0, none⟩) 7 7) := HS.out.mod.cell 9
  have l10 : W6.cell? ⟨w.heap.size + 1 + 1 + 1 + 1 + 1, 10, none⟩ = some (.slice (some ⟨w.heap.size + 1 + 1 + 1 + 1, 0, none⟩) 6 6) := HS.out.mod.cell 10
  have r0 : W6.cell? ⟨w.heap.size + 1, 0, none⟩ = some (.int .i64 0) := HS.out.res.cell 0
  have r1 : W6.cell? ⟨w.heap.size + 1, 1, none⟩ = some (.int .i64 0) := HS.out.res.cell 1
  have r2 : W6.cell? ⟨w.heap.size + 1, 2, none⟩ = some (.int .i64 0) := HS.out.res.cell 2
  have r3 : W6.cell? ⟨w.heap.size + 1, 3, none⟩ = some (.int .i64 0) := HS.out.res.cell 3
  have r4 : W6.cell? ⟨w.heap.size + 1, 4, none⟩ = some (.slice none 0 0) := HS.out.res.cell 4
  have r5 : W6.cell? ⟨w.heap.size + 1, 5, none⟩ = some (.slice none 0 0) := HS.out.res.cell 5
  have r6 : W6.cell? ⟨w.heap.size + 1, 6, none⟩ = some (.slice none 0 0) := HS.out.res.cell 6
  have r7 : W6.cell? ⟨w.heap.size + 1, 7, none⟩ = some (.slice none 0 0) := HS.out.res.cell 7
  have r8 : W6.cell? ⟨w.heap.size + 1, 8, none⟩ = some (.slice none 0 0) := HS.out.res.cell 8
  have r9 : W6.cell? ⟨w.heap.size + 1, 9, none⟩ = some (.slice none 0 0) := HS.out.res.cell 9
  have r10 : W6.cell? ⟨w.heap.size + 1, 10, none⟩ = some (.slice none 0 0) := HS.out.res.cell 10
  have q0 := HS.out.res.frozen 0
  have q1 := HS.out.res.frozen 1
  have q2 := HS.out.res.frozen 2
  have q3 := HS.out.res.frozen 3
  have q4 := HS.out.res.frozen 4
  have q5 := HS.out.res.frozen 5
  have q6 := HS.out.res.frozen 6
  have q7 := HS.out.res.frozen 7
  have q8 := HS.out.res.frozen 8
  have q9 := HS.out.res.frozen 9
  have q10 := HS.out.res.frozen 10
  go_wp2_with fail
  have HF := Lib.hid (HS.out.fin.all (.int .i64 3) (.int .i64 V) (.int .i64 D) (.int .i64 V) (.slice (some ⟨w.heap.size + 1 + 1, 0, none⟩) 4 4) (.slice A0 n0 c0) (.slice A1 n1 c1) (.slice A2 n2 c2) (.slice A3 n3 c3) (.slice (some ⟨w.heap.size + 1 + 1 + 1, 0, none⟩) 7 7) (.slice (some ⟨w.heap.size + 1 + 1 + 1 + 1, 0, none⟩) 6 6))
  obtain ⟨W9, hW9⟩ : ∃ W9, W9 = (((((((((((W6.setCell ⟨w.heap.size + 1, 0, none⟩ (.int .i64 3)).setCell ⟨w.heap.size + 1, 1, none⟩ (.int .i64 V)).setCell ⟨w.heap.size + 1, 2, none⟩ (.int .i64 D)).setCell ⟨w.heap.size + 1, 3, none⟩ (.int .i64 V)).setCell ⟨w.heap.size + 1, 4, none⟩ (.slice (some ⟨w.heap.size + 1 + 1, 0, none⟩) 4 4)).setCell ⟨w.heap.size + 1, 5, none⟩ (.slice A0 n0 c0)).setCell ⟨w.heap.size + 1, 6, none⟩ (.slice A1 n1 c1)).setCell ⟨w.heap.size + 1, 7, none⟩ (.slice A2 n2 c2)).setCell ⟨w.heap.size + 1, 8, none⟩ (.slice A3 n3 c3)).setCell ⟨w.heap.size + 1, 9, none⟩ (.slice (some ⟨w.heap.size + 1 + 1 + 1, 0, none⟩) 7 7)).setCell ⟨w.heap.size + 1, 10, none⟩ (.slice (some ⟨w.heap.size + 1 + 1 + 1 + 1, 0, none⟩) 6 6)) := ⟨_, rfl⟩
  rw [← hW9] at HF ⊢
  clear hW9 HS l0 r0 q0 l1 r1 q1 l2 r2 q2 l3 r3 q3 l4 r4 q4 l5 r5 q5 l6 r6 q6 l7 r7 q7 l8 r8 q8 l9 r9 q9 l10 r10 q10
  have m0 : W9.cell? ⟨w.heap.size + 1, 0, none⟩ = some (.int .i64 3) := HF.out.res.cell 0
  have m1 : W9.cell? ⟨w.heap.size + 1, 1, none⟩ = some (.int .i64 V) := HF.out.res.cell 1
  have m2 : W9.cell? ⟨w.heap.size + 1, 2, none⟩ = some (.int .i64 D) := HF.out.res.cell 2
  have m3 : W9.cell? ⟨w.heap.size + 1, 3, none⟩ = some (.int .i64 V) := HF.out.res.cell 3
  have m4 : W9.cell? ⟨w.heap.size + 1, 4, none⟩ = some (.slice (some ⟨w.heap.size + 1 + 1, 0, none⟩) 4 4) := HF.out.res.cell 4
  have m5 : W9.cell? ⟨w.heap.size + 1, 5, none⟩ = some (.slice A0 n0 c0) := HF.out.res.cell 5
  have m6 : W9.cell? ⟨w.heap.size + 1, 6, none⟩ = some (.slice A1 n1 c1) := HF.out.res.cell 6
  have m7 : W9.cell? ⟨w.heap.size + 1, 7, none⟩ = some (.slice A2 n2 c2) := HF.out.res.cell 7
  have m8 : W9.cell? ⟨w.heap.size + 1, 8, none⟩ = some (.slice A3 n3 c3) := HF.out.res.cell 8
  have m9 : W9.cell? ⟨w.heap.size + 1, 9, none⟩ = some (.slice (some ⟨w.heap.size + 1 + 1 + 1, 0, none⟩) 7 7) := HF.out.res.cell 9
  have m10 : W9.cell? ⟨w.heap.size + 1, 10, none⟩ = some (.slice (some ⟨w.heap.size + 1 + 1 + 1 + 1, 0, none⟩) 6 6) := HF.out.res.cell 10
  refine bodyPost_ret (v := .agg #[.int .i64 3, .int .i64 V, .int .i64 D, .int .i64 V, .slice (some ⟨w.heap.size + 1 + 1, 0, none⟩) 4 4, .slice A0 n0 c0, .slice A1 n1 c1, .slice A2 n2 c2, .slice A3 n3 c3, .slice (some ⟨w.heap.size + 1 + 1 + 1, 0, none⟩) 7 7, .slice (some ⟨w.heap.size + 1 + 1 + 1 + 1, 0, none⟩) 6 6]) (by rw [res_c1 rfl]; go_simp) rfl ⟨_, rfl, HF.out.below, _, _, _, _, _, _, _, rfl, ?_, ?_, ?_, ?_, ?_, ?_, ?_⟩
  all_goals exact HF.out.rints (by simp [madeM])
end Go.Proofs.YtldjemlmjfpmjaaGreatDoor