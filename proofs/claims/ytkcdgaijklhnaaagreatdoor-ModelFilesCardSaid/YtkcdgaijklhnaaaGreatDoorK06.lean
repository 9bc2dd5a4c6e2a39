/-
  models.formed, models.Check for every model.
-/
import Derived.Test.YtkcdgaijklhnaaaGreatDoorK05
import Derived.Deep.DeepCutAuto
namespace Go.Proofs.YtkcdgaijklhnaaaGreatDoor
open Go.RowKit
def mixM (K D : Int) (n : Nat) : Bool := if K = 1 then ((n : Int) == 3 * D * D) else if K = 2 then ((n : Int) == 2 * D * D) else inB 1 4 (rowsM n (D * D).toNat : Nat)
def formM (m : LModel) : Bool :=
 mixM m.kind m.width m.mix.length && (((m.cuts.length : Nat) : Int) == 4 && ((m.embed.length : Nat) : Int) == m.vocab * m.width && ((m.out.length : Nat) : Int) == m.vocab * m.width && inB 1 16 (rowsM m.place.length m.width.toNat : Nat)) && inB 1 64 (m.soft.length : Nat) && inB 1 64 (m.odds.length : Nat)
def valM (m : LModel) : Bool :=
 m.cuts.all (inB 1 15) && ([m.embed, m.place, m.mix, m.out].flatten).all (inB (-128) 127) && m.soft.all (inB 0 1000) && m.odds.all (inB 0 1000) && !(m.odds[0]?.getD 0 == 0)
def chkM (m : LModel) : Int :=
 if sizedM m.kind m.vocab m.width = 0 then (if inB 1 m.vocab m.top then (if formM m then (if valM m then 0 else 9) else 3) else 9) else sizedM m.kind m.vocab m.width
theorem sizedM_in {K V D : Int} (h : sizedM K V D = 0) : (K = 1 ∨ K = 2 ∨ K = 3) ∧ 2 ≤ V ∧ V ≤ 16 ∧ 1 ≤ D ∧ D ≤ 5 := by
 unfold sizedM at h
 split at h
 ·rename_i h1
  split at h
  ·rename_i h2
   simp [inB] at h1 h2
   omega
  ·cases h
 ·cases h
theorem dd_small {D : Int} (h : 1 ≤ D ∧ D ≤ 5) : 1 ≤ D * D ∧ D * D ≤ 25 := by
 rcases (show D = 1 ∨ D = 2 ∨ D = 3 ∨ D = 4 ∨ D = 5 by omega) with rfl | rfl | rfl | rfl | rfl <;> decide
theorem vd_small {V D : Int} (hV : 2 ≤ V ∧ V ≤ 16) (h : 1 ≤ D ∧ D ≤ 5) : 2 ≤ V * D ∧ V * D ≤ 80 := by
 rcases (show D = 1 ∨ D = 2 ∨ D = 3 ∨ D = 4 ∨ D = 5 by omega) with rfl | rfl | rfl | rfl | rfl <;> omega
set_option maxHeartbeats 8000000 in
set_option maxRecDepth 100000 in
theorem formed_any (m : LModel) (v : Value) (w : World) (hv : VModel w.cell? v m) (hz : sizedM m.kind m.vocab m.width = 0) : Calls Tryz.prog 88 #[v] w fun e w' => e = .returned (.bool (formM m)) ∧ Below w.heap.size w w' := by
 obtain ⟨a1, a2, a3, a4, a5, a6, a7, rfl, h1, h2, h3, h4, h5, h6, h7⟩ := hv
 obtain ⟨A1, c1, rfl, -, -, q1⟩ := h1.shape
 obtain ⟨n1, e1⟩ : ∃ n, m.cuts.length = n := ⟨_, rfl⟩
 rw [e1] at q1 h1 ⊢
 obtain ⟨A2, c2, rfl, -, -, q2⟩ := h2.shape
 obtain ⟨n2, e2⟩ : ∃ n, m.embed.length = n := ⟨_, rfl⟩
 rw [e2] at q2 h2 ⊢
 obtain ⟨A3, c3, rfl, -, -, q3⟩ := h3.shape
 obtain ⟨n3, e3⟩ : ∃ n, m.place.length = n := ⟨_, rfl⟩
 rw [e3] at q3 h3 ⊢
 obtain ⟨A4, c4, rfl, -, -, q4⟩ := h4.shape
 obtain ⟨n4, e4⟩ : ∃ n, m.mix.length = n := ⟨_, rfl⟩
 rw [e4] at q4 h4 ⊢
 obtain ⟨A5, c5, rfl, -, -, q5⟩ := h5.shape
 obtain ⟨n5, e5⟩ : ∃ n, m.out.length = n := ⟨_, rfl⟩
 rw [e5] at q5 h5 ⊢
 obtain ⟨A6, c6, rfl, -, -, q6⟩ := h6.shape
 obtain ⟨n6, e6⟩ : ∃ n, m.soft.length = n := ⟨_, rfl⟩
 rw [e6] at q6 h6 ⊢
 obtain ⟨A7, c7, rfl, -, -, q7⟩ := h7.shape
 obtain ⟨n7, e7⟩ : ∃ n, m.odds.length = n := ⟨_, rfl⟩
 rw [e7] at q7 h7 ⊢
 obtain ⟨K, eK⟩ : ∃ x, m.kind = x := ⟨_, rfl⟩
 obtain ⟨V, eV⟩ : ∃ x, m.vocab = x := ⟨_, rfl⟩
 obtain ⟨D, eD⟩ : ∃ x, m.width = x := ⟨_, rfl⟩
 obtain ⟨T, eT⟩ : ∃ x, m.top = x := ⟨_, rfl⟩
 rw [eK, eV, eD, eT]
 rw [eK, eV, eD] at hz
 obtain ⟨hK, V1, V2, D1, D2⟩ := sizedM_in hz
 have hdd := dd_small ⟨D1, D2⟩
 have hvd := vd_small ⟨V1, V2⟩ ⟨D1, D2⟩
 have hform : formM m = (mixM K D n4 && (((n1 : Nat) : Int) == 4 && ((n2 : Nat) : Int) == V * D && ((n5 : Nat) : Int) == V * D && inB 1 16 (rowsM n3 D.toNat : Nat)) && inB 1 64 (n6 : Nat) && inB 1 64 (n7 : Nat)) := by
  unfold formM
  rw [e1, e2, e3, e4, e5, e6, e7, eK, eV, eD]
 rw [hform]
 have t1 : IntKind.i64.wrap (V * D) = V * D := i64_wrap_id (by omega) (by omega)
 have t2 : IntKind.i64.wrap (D * D) = D * D := i64_wrap_id (by omega) (by omega)
 have t3 : IntKind.i64.wrap (3 * D) = 3 * D := i64_wrap_id (by omega) (by omega)
 have t4 : IntKind.i64.wrap (2 * D) = 2 * D := i64_wrap_id (by omega) (by omega)
 have t5 : IntKind.i64.wrap (3 * D * D) = 3 * D * D := i64_wrap_id (by rw [Int.mul_assoc]; omega) (by rw [Int.mul_assoc]; omega)
 have t6 : IntKind.i64.wrap (2 * D * D) = 2 * D * D := i64_wrap_id (by rw [Int.mul_assoc]; omega) (by rw [Int.mul_assoc]; omega)
 have HR : Hid (∀ W, Calls Tryz.prog 135 #[.slice A3 n3 c3, .int .i64 D] W fun e w' => e = .returned (.int .i64 (rowsM n3 D.toNat : Nat)) ∧ w' = W) := Lib.hid fun W => by
  have h := rows_any A3 n3 c3 D.toNat W (by omega) (by omega) q3
  rwa [Int.toNat_of_nonneg (by omega)] at h
 have HR4 : Hid (∀ W, Calls Tryz.prog 135 #[.slice A4 n4 c4, .int .i64 (D * D)] W fun e w' => e = .returned (.int .i64 (rowsM n4 (D * D).toNat : Nat)) ∧ w' = W) := Lib.hid fun W => by
  have h := rows_any A4 n4 c4 (D * D).toNat W (by omega) (by omega) q4
  rwa [Int.toNat_of_nonneg (by omega)] at h
 obtain ⟨b0, g0⟩ : ∃ b, mixM K D n4 = b := ⟨_, rfl⟩
 obtain ⟨b1, g1⟩ : ∃ b, (((n1 : Nat) : Int) == 4) = b := ⟨_, rfl⟩
 obtain ⟨b2, g2⟩ : ∃ b, (((n2 : Nat) : Int) == V * D) = b := ⟨_, rfl⟩
 obtain ⟨b3, g3⟩ : ∃ b, (((n5 : Nat) : Int) == V * D) = b := ⟨_, rfl⟩
 obtain ⟨b4, g4⟩ : ∃ b, inB 1 16 (rowsM n3 D.toNat : Nat) = b := ⟨_, rfl⟩
 obtain ⟨b5, g5⟩ : ∃ b, inB 1 64 (n6 : Nat) = b := ⟨_, rfl⟩
 obtain ⟨b6, g6⟩ : ∃ b, inB 1 64 (n7 : Nat) = b := ⟨_, rfl⟩
 have HI3 : Hid (∀ W, Calls Tryz.prog 87 #[.int .i64 (rowsM n3 D.toNat : Nat), .int .i64 1, .int .i64 16] W fun e w' => e = .returned (.bool b4) ∧ w' = W) := Lib.hid fun W => by have h := mwithin_any (rowsM n3 D.toNat : Nat) 1 16 W; rwa [g4] at h
 have HI6 : Hid (∀ W, Calls Tryz.prog 87 #[.int .i64 (n6 : Nat), .int .i64 1, .int .i64 64] W fun e w' => e = .returned (.bool b5) ∧ w' = W) := Lib.hid fun W => by have h := mwithin_any (n6 : Nat) 1 64 W; rwa [g5] at h
 have HI7 : Hid (∀ W, Calls Tryz.prog 87 #[.int .i64 (n7 : Nat), .int .i64 1, .int .i64 64] W fun e w' => e = .returned (.bool b6) ∧ w' = W) := Lib.hid fun W => by have h := mwithin_any (n7 : Nat) 1 64 W; rwa [g6] at h
 have HI4 := Lib.hid (mwithin_any (rowsM n4 (D * D).toNat : Nat) 1 4)
 rw [g0, g1, g2, g3, g4, g5, g6]
 obtain ⟨P, hP⟩ : ∃ P, V * D = P := ⟨_, rfl⟩
 rw [hP] at g2 g3 t1
 have t1b : wrap64 (V * D) = P := by rw [hP]; exact wrap64_id (by omega) (by omega)
 have HG0 := Lib.hid g0
 obtain ⟨W, hW⟩ : ∃ W, W = w.alloc (.cells #[.int .i64 K, .int .i64 V, .int .i64 D, .int .i64 T, .slice A1 n1 c1, .slice A2 n2 c2, .slice A3 n3 c3, .slice A4 n4 c4, .slice A5 n5 c5, .slice A6 n6 c6, .slice A7 n7 c7] 27) := ⟨_, rfl⟩
 have hb : Bk W w.heap.size 27 #[.int .i64 K, .int .i64 V, .int .i64 D, .int .i64 T, .slice A1 n1 c1, .slice A2 n2 c2, .slice A3 n3 c3, .slice A4 n4 c4, .slice A5 n5 c5, .slice A6 n6 c6, .slice A7 n7 c7] := by rw [hW]; exact Bk.new _ _ _
 have HBW : Hid (Below w.heap.size w W) := Lib.hid (by rw [hW]; exact laid (Below.refl _ _) _)
 obtain ⟨p0, p1, p2, p3, p4, p5, p6, p7, p8, p9, p10⟩ : W.cell? ⟨w.heap.size, 0, none⟩ = some (.int .i64 K) ∧ W.cell? ⟨w.heap.size, 1, none⟩ = some (.int .i64 V) ∧ W.cell? ⟨w.heap.size, 2, none⟩ = some (.int .i64 D) ∧ W.cell? ⟨w.heap.size, 3, none⟩ = some (.int .i64 T) ∧ W.cell? ⟨w.heap.size, 4, none⟩ = some (.slice A1 n1 c1) ∧ W.cell? ⟨w.heap.size, 5, none⟩ = some (.slice A2 n2 c2) ∧ W.cell? ⟨w.heap.size, 6, none⟩ = some (.slice A3 n3 c3) ∧ W.cell? ⟨w.heap.size, 7, none⟩ = some (.slice A4 n4 c4) ∧ W.cell? ⟨w.heap.size, 8, none⟩ = some (.slice A5 n5 c5) ∧ W.cell? ⟨w.heap.size, 9, none⟩ = some (.slice A6 n6 c6) ∧ W.cell? ⟨w.heap.size, 10, none⟩ = some (.slice A7 n7 c7) := ⟨hb.cell 0, hb.cell 1, hb.cell 2, hb.cell 3, hb.cell 4, hb.cell 5, hb.cell 6, hb.cell 7, hb.cell 8, hb.cell 9, hb.cell 10⟩
 have HW := Lib.hid hW
 have HDD := Lib.hid hdd
 clear hW hb h1 h2 h3 h4 h5 h6 h7 e1 e2 e3 e4 e5 e6 e7 eK eV eD eT g0 g4 g5 g6 hform hz hdd hvd hP
 go_enter Tryz.func88, Tryz.ntmps88
 rcases hK with rfl | rfl | rfl
 ·have hb0 : (((n4 : Nat) : Int) == 3 * D * D) = b0 := HG0.out
  cases b0
  ·go_upto_region 9 with fail
   rw [← HW.out]
   obtain rfl | rfl : b1 = false ∨ b1 = true := by cases b1 <;> simp
   ·go_wp2_with (first
     | (go_at_call 135; refine (HR.out _).mono ?_; rintro e w1 ⟨rfl, rfl⟩)
     | (go_at_call 87; with_reducible refine (HI3.out _).mono ?_; rintro e w1 ⟨rfl, rfl⟩)
     | (go_at_call 87; with_reducible refine (HI6.out _).mono ?_; rintro e w1 ⟨rfl, rfl⟩)
     | (go_at_call 87; with_reducible refine (HI7.out _).mono ?_; rintro e w1 ⟨rfl, rfl⟩))
    go_ret
    exact ⟨ret_bool (by simp), HBW.out⟩
   obtain rfl | rfl : b2 = false ∨ b2 = true := by cases b2 <;> simp
   ·go_wp2_with (first
     | (go_at_call 135; refine (HR.out _).mono ?_; rintro e w1 ⟨rfl, rfl⟩)
     | (go_at_call 87; with_reducible refine (HI3.out _).mono ?_; rintro e w1 ⟨rfl, rfl⟩)
     | (go_at_call 87; with_reducible refine (HI6.out _).mono ?_; rintro e w1 ⟨rfl, rfl⟩)
     | (go_at_call 87; with_reducible refine (HI7.out _).mono ?_; rintro e w1 ⟨rfl, rfl⟩))
    go_ret
    exact ⟨ret_bool (by simp), HBW.out⟩
   obtain rfl | rfl : b3 = false ∨ b3 = true := by cases b3 <;> simp
   ·go_wp2_with (first
     | (go_at_call 135; refine (HR.out _).mono ?_; rintro e w1 ⟨rfl, rfl⟩)
     | (go_at_call 87; with_reducible refine (HI3.out _).mono ?_; rintro e w1 ⟨rfl, rfl⟩)
     | (go_at_call 87; with_reducible refine (HI6.out _).mono ?_; rintro e w1 ⟨rfl, rfl⟩)
     | (go_at_call 87; with_reducible refine (HI7.out _).mono ?_; rintro e w1 ⟨rfl, rfl⟩))
    go_ret
    exact ⟨ret_bool (by simp), HBW.out⟩
   go_wp2_with (first
    | (go_at_call 135; refine (HR.out _).mono ?_; rintro e w1 ⟨rfl, rfl⟩)
    | (go_at_call 87; with_reducible refine (HI3.out _).mono ?_; rintro e w1 ⟨rfl, rfl⟩)
    | (go_at_call 87; with_reducible refine (HI6.out _).mono ?_; rintro e w1 ⟨rfl, rfl⟩)
    | (go_at_call 87; with_reducible refine (HI7.out _).mono ?_; rintro e w1 ⟨rfl, rfl⟩))
   go_ret
   exact ⟨ret_bool (by simp), HBW.out⟩
  ·go_upto_region 9 with fail
   rw [← HW.out]
   obtain rfl | rfl : b1 = false ∨ b1 = true := by cases b1 <;> simp
   ·go_wp2_with (first
     | (go_at_call 135; refine (HR.out _).mono ?_; rintro e w1 ⟨rfl, rfl⟩)
     | (go_at_call 87; with_reducible refine (HI3.out _).mono ?_; rintro e w1 ⟨rfl, rfl⟩)
     | (go_at_call 87; with_reducible refine (HI6.out _).mono ?_; rintro e w1 ⟨rfl, rfl⟩)
     | (go_at_call 87; with_reducible refine (HI7.out _).mono ?_; rintro e w1 ⟨rfl, rfl⟩))
    go_ret
    exact ⟨ret_bool (by simp), HBW.out⟩
   obtain rfl | rfl : b2 = false ∨ b2 = true := by cases b2 <;> simp
   ·go_wp2_with (first
     | (go_at_call 135; refine (HR.out _).mono ?_; rintro e w1 ⟨rfl, rfl⟩)
     | (go_at_call 87; with_reducible refine (HI3.out _).mono ?_; rintro e w1 ⟨rfl, rfl⟩)
     | (go_at_call 87; with_reducible refine (HI6.out _).mono ?_; rintro e w1 ⟨rfl, rfl⟩)
     | (go_at_call 87; with_reducible refine (HI7.out _).mono ?_; rintro e w1 ⟨rfl, rfl⟩))
    go_ret
    exact ⟨ret_bool (by simp), HBW.out⟩
   obtain rfl | rfl : b3 = false ∨ b3 = true := by cases b3 <;> simp
   ·go_wp2_with (first
     | (go_at_call 135; refine (HR.out _).mono ?_; rintro e w1 ⟨rfl, rfl⟩)
     | (go_at_call 87; with_reducible refine (HI3.out _).mono ?_; rintro e w1 ⟨rfl, rfl⟩)
     | (go_at_call 87; with_reducible refine (HI6.out _).mono ?_; rintro e w1 ⟨rfl, rfl⟩)
     | (go_at_call 87; with_reducible refine (HI7.out _).mono ?_; rintro e w1 ⟨rfl, rfl⟩))
    go_ret
    exact ⟨ret_bool (by simp), HBW.out⟩
   obtain rfl | rfl : b4 = false ∨ b4 = true := by cases b4 <;> simp
   ·go_wp2_with (first
     | (go_at_call 135; refine (HR.out _).mono ?_; rintro e w1 ⟨rfl, rfl⟩)
     | (go_at_call 87; with_reducible refine (HI3.out _).mono ?_; rintro e w1 ⟨rfl, rfl⟩)
     | (go_at_call 87; with_reducible refine (HI6.out _).mono ?_; rintro e w1 ⟨rfl, rfl⟩)
     | (go_at_call 87; with_reducible refine (HI7.out _).mono ?_; rintro e w1 ⟨rfl, rfl⟩))
    go_ret
    exact ⟨ret_bool (by simp), HBW.out⟩
   obtain rfl | rfl : b5 = false ∨ b5 = true := by cases b5 <;> simp
   ·go_wp2_with (first
     | (go_at_call 135; refine (HR.out _).mono ?_; rintro e w1 ⟨rfl, rfl⟩)
     | (go_at_call 87; with_reducible refine (HI3.out _).mono ?_; rintro e w1 ⟨rfl, rfl⟩)
     | (go_at_call 87; with_reducible refine (HI6.out _).mono ?_; rintro e w1 ⟨rfl, rfl⟩)
     | (go_at_call 87; with_reducible refine (HI7.out _).mono ?_; rintro e w1 ⟨rfl, rfl⟩))
    go_ret
    exact ⟨ret_bool (by simp), HBW.out⟩
   go_wp2_with (first
    | (go_at_call 135; refine (HR.out _).mono ?_; rintro e w1 ⟨rfl, rfl⟩)
    | (go_at_call 87; with_reducible refine (HI3.out _).mono ?_; rintro e w1 ⟨rfl, rfl⟩)
    | (go_at_call 87; with_reducible refine (HI6.out _).mono ?_; rintro e w1 ⟨rfl, rfl⟩)
    | (go_at_call 87; with_reducible refine (HI7.out _).mono ?_; rintro e w1 ⟨rfl, rfl⟩))
   go_ret
   exact ⟨ret_bool (by simp), HBW.out⟩
 ·have hb0 : (((n4 : Nat) : Int) == 2 * D * D) = b0 := HG0.out
  cases b0
  ·go_upto_region 9 with fail
   rw [← HW.out]
   obtain rfl | rfl : b1 = false ∨ b1 = true := by cases b1 <;> simp
   ·go_wp2_with (first
     | (go_at_call 135; refine (HR.out _).mono ?_; rintro e w1 ⟨rfl, rfl⟩)
     | (go_at_call 87; with_reducible refine (HI3.out _).mono ?_; rintro e w1 ⟨rfl, rfl⟩)
     | (go_at_call 87; with_reducible refine (HI6.out _).mono ?_; rintro e w1 ⟨rfl, rfl⟩)
     | (go_at_call 87; with_reducible refine (HI7.out _).mono ?_; rintro e w1 ⟨rfl, rfl⟩))
    go_ret
    exact ⟨ret_bool (by simp), HBW.out⟩
   obtain rfl | rfl : b2 = false ∨ b2 = true := by cases b2 <;> simp
   ·go_wp2_with (first
     | (go_at_call 135; refine (HR.out _).mono ?_; rintro e w1 ⟨rfl, rfl⟩)
     | (go_at_call 87; with_reducible refine (HI3.out _).mono ?_; rintro e w1 ⟨rfl, rfl⟩)
     | (go_at_call 87; with_reducible refine (HI6.out _).mono ?_; rintro e w1 ⟨rfl, rfl⟩)
     | (go_at_call 87; with_reducible refine (HI7.out _).mono ?_; rintro e w1 ⟨rfl, rfl⟩))
    go_ret
    exact ⟨ret_bool (by simp), HBW.out⟩
   obtain rfl | rfl : b3 = false ∨ b3 = true := by cases b3 <;> simp
   ·go_wp2_with (first
     | (go_at_call 135; refine (HR.out _).mono ?_; rintro e w1 ⟨rfl, rfl⟩)
     | (go_at_call 87; with_reducible refine (HI3.out _).mono ?_; rintro e w1 ⟨rfl, rfl⟩)
     | (go_at_call 87; with_reducible refine (HI6.out _).mono ?_; rintro e w1 ⟨rfl, rfl⟩)
     | (go_at_call 87; with_reducible refine (HI7.out _).mono ?_; rintro e w1 ⟨rfl, rfl⟩))
    go_ret
    exact ⟨ret_bool (by simp), HBW.out⟩
   go_wp2_with (first
    | (go_at_call 135; refine (HR.out _).mono ?_; rintro e w1 ⟨rfl, rfl⟩)
    | (go_at_call 87; with_reducible refine (HI3.out _).mono ?_; rintro e w1 ⟨rfl, rfl⟩)
    | (go_at_call 87; with_reducible refine (HI6.out _).mono ?_; rintro e w1 ⟨rfl, rfl⟩)
    | (go_at_call 87; with_reducible refine (HI7.out _).mono ?_; rintro e w1 ⟨rfl, rfl⟩))
   go_ret
   exact ⟨ret_bool (by simp), HBW.out⟩
  ·go_upto_region 9 with fail
   rw [← HW.out]
   obtain rfl | rfl : b1 = false ∨ b1 = true := by cases b1 <;> simp
   ·go_wp2_with (first
     | (go_at_call 135; refine (HR.out _).mono ?_; rintro e w1 ⟨rfl, rfl⟩)
     | (go_at_call 87; with_reducible refine (HI3.out _).mono ?_; rintro e w1 ⟨rfl, rfl⟩)
     | (go_at_call 87; with_reducible refine (HI6.out _).mono ?_; rintro e w1 ⟨rfl, rfl⟩)
     | (go_at_call 87; with_reducible refine (HI7.out _).mono ?_; rintro e w1 ⟨rfl, rfl⟩))
    go_ret
    exact ⟨ret_bool (by simp), HBW.out⟩
   obtain rfl | rfl : b2 = false ∨ b2 = true := by cases b2 <;> simp
   ·go_wp2_with (first
     | (go_at_call 135; refine (HR.out _).mono ?_; rintro e w1 ⟨rfl, rfl⟩)
     | (go_at_call 87; with_reducible refine (HI3.out _).mono ?_; rintro e w1 ⟨rfl, rfl⟩)
     | (go_at_call 87; with_reducible refine (HI6.out _).mono ?_; rintro e w1 ⟨rfl, rfl⟩)
     | (go_at_call 87; with_reducible refine (HI7.out _).mono ?_; rintro e w1 ⟨rfl, rfl⟩))
    go_ret
    exact ⟨ret_bool (by simp), HBW.out⟩
   obtain rfl | rfl : b3 = false ∨ b3 = true := by cases b3 <;> simp
   ·go_wp2_with (first
     | (go_at_call 135; refine (HR.out _).mono ?_; rintro e w1 ⟨rfl, rfl⟩)
     | (go_at_call 87; with_reducible refine (HI3.out _).mono ?_; rintro e w1 ⟨rfl, rfl⟩)
     | (go_at_call 87; with_reducible refine (HI6.out _).mono ?_; rintro e w1 ⟨rfl, rfl⟩)
     | (go_at_call 87; with_reducible refine (HI7.out _).mono ?_; rintro e w1 ⟨rfl, rfl⟩))
    go_ret
    exact ⟨ret_bool (by simp), HBW.out⟩
   obtain rfl | rfl : b4 = false ∨ b4 = true := by cases b4 <;> simp
   ·go_wp2_with (first
     | (go_at_call 135; refine (HR.out _).mono ?_; rintro e w1 ⟨rfl, rfl⟩)
     | (go_at_call 87; with_reducible refine (HI3.out _).mono ?_; rintro e w1 ⟨rfl, rfl⟩)
     | (go_at_call 87; with_reducible refine (HI6.out _).mono ?_; rintro e w1 ⟨rfl, rfl⟩)
     | (go_at_call 87; with_reducible refine (HI7.out _).mono ?_; rintro e w1 ⟨rfl, rfl⟩))
    go_ret
    exact ⟨ret_bool (by simp), HBW.out⟩
   obtain rfl | rfl : b5 = false ∨ b5 = true := by cases b5 <;> simp
   ·go_wp2_with (first
     | (go_at_call 135; refine (HR.out _).mono ?_; rintro e w1 ⟨rfl, rfl⟩)
     | (go_at_call 87; with_reducible refine (HI3.out _).mono ?_; rintro e w1 ⟨rfl, rfl⟩)
     | (go_at_call 87; with_reducible refine (HI6.out _).mono ?_; rintro e w1 ⟨rfl, rfl⟩)
     | (go_at_call 87; with_reducible refine (HI7.out _).mono ?_; rintro e w1 ⟨rfl, rfl⟩))
    go_ret
    exact ⟨ret_bool (by simp), HBW.out⟩
   go_wp2_with (first
    | (go_at_call 135; refine (HR.out _).mono ?_; rintro e w1 ⟨rfl, rfl⟩)
    | (go_at_call 87; with_reducible refine (HI3.out _).mono ?_; rintro e w1 ⟨rfl, rfl⟩)
    | (go_at_call 87; with_reducible refine (HI6.out _).mono ?_; rintro e w1 ⟨rfl, rfl⟩)
    | (go_at_call 87; with_reducible refine (HI7.out _).mono ?_; rintro e w1 ⟨rfl, rfl⟩))
   go_ret
   exact ⟨ret_bool (by simp), HBW.out⟩
 ·have hb0 : Hid (inB 1 4 (rowsM n4 (D * D).toNat : Nat) = b0) := Lib.hid HG0.out
  cases b0
  ·go_upto_region 9 with (first
    | (go_at_call 135; rw [← HW.out]; refine (HR4.out _).mono ?_; rintro e w1 ⟨rfl, rfl⟩)
    | (go_at_call 87; refine (HI4.out _).mono ?_; rintro e w1 ⟨rfl, rfl⟩; rw [hb0.out]))
   obtain rfl | rfl : b1 = false ∨ b1 = true := by cases b1 <;> simp
   ·go_wp2_with (first
     | (go_at_call 135; refine (HR.out _).mono ?_; rintro e w1 ⟨rfl, rfl⟩)
     | (go_at_call 87; with_reducible refine (HI3.out _).mono ?_; rintro e w1 ⟨rfl, rfl⟩)
     | (go_at_call 87; with_reducible refine (HI6.out _).mono ?_; rintro e w1 ⟨rfl, rfl⟩)
     | (go_at_call 87; with_reducible refine (HI7.out _).mono ?_; rintro e w1 ⟨rfl, rfl⟩))
    go_ret
    exact ⟨ret_bool (by simp), HBW.out⟩
   obtain rfl | rfl : b2 = false ∨ b2 = true := by cases b2 <;> simp
   ·go_wp2_with (first
     | (go_at_call 135; refine (HR.out _).mono ?_; rintro e w1 ⟨rfl, rfl⟩)
     | (go_at_call 87; with_reducible refine (HI3.out _).mono ?_; rintro e w1 ⟨rfl, rfl⟩)
     | (go_at_call 87; with_reducible refine (HI6.out _).mono ?_; rintro e w1 ⟨rfl, rfl⟩)
     | (go_at_call 87; with_reducible refine (HI7.out _).mono ?_; rintro e w1 ⟨rfl, rfl⟩))
    go_ret
    exact ⟨ret_bool (by simp), HBW.out⟩
   obtain rfl | rfl : b3 = false ∨ b3 = true := by cases b3 <;> simp
   ·go_wp2_with (first
     | (go_at_call 135; refine (HR.out _).mono ?_; rintro e w1 ⟨rfl, rfl⟩)
     | (go_at_call 87; with_reducible refine (HI3.out _).mono ?_; rintro e w1 ⟨rfl, rfl⟩)
     | (go_at_call 87; with_reducible refine (HI6.out _).mono ?_; rintro e w1 ⟨rfl, rfl⟩)
     | (go_at_call 87; with_reducible refine (HI7.out _).mono ?_; rintro e w1 ⟨rfl, rfl⟩))
    go_ret
    exact ⟨ret_bool (by simp), HBW.out⟩
   go_wp2_with (first
    | (go_at_call 135; refine (HR.out _).mono ?_; rintro e w1 ⟨rfl, rfl⟩)
    | (go_at_call 87; with_reducible refine (HI3.out _).mono ?_; rintro e w1 ⟨rfl, rfl⟩)
    | (go_at_call 87; with_reducible refine (HI6.out _).mono ?_; rintro e w1 ⟨rfl, rfl⟩)
    | (go_at_call 87; with_reducible refine (HI7.out _).mono ?_; rintro e w1 ⟨rfl, rfl⟩))
   go_ret
   exact ⟨ret_bool (by simp), HBW.out⟩
  ·go_upto_region 9 with (first
    | (go_at_call 135; rw [← HW.out]; refine (HR4.out _).mono ?_; rintro e w1 ⟨rfl, rfl⟩)
    | (go_at_call 87; refine (HI4.out _).mono ?_; rintro e w1 ⟨rfl, rfl⟩; rw [hb0.out]))
   obtain rfl | rfl : b1 = false ∨ b1 = true := by cases b1 <;> simp
   ·go_wp2_with (first
     | (go_at_call 135; refine (HR.out _).mono ?_; rintro e w1 ⟨rfl, rfl⟩)
     | (go_at_call 87; with_reducible refine (HI3.out _).mono ?_; rintro e w1 ⟨rfl, rfl⟩)
     | (go_at_call 87; with_reducible refine (HI6.out _).mono ?_; rintro e w1 ⟨rfl, rfl⟩)
     | (go_at_call 87; with_reducible refine (HI7.out _).mono ?_; rintro e w1 ⟨rfl, rfl⟩))
    go_ret
    exact ⟨ret_bool (by simp), HBW.out⟩
   obtain rfl | rfl : b2 = false ∨ b2 = true := by cases b2 <;> simp
   ·go_wp2_with (first
     | (go_at_call 135; refine (HR.out _).mono ?_; rintro e w1 ⟨rfl, rfl⟩)
     | (go_at_call 87; with_reducible refine (HI3.out _).mono ?_; rintro e w1 ⟨rfl, rfl⟩)
     | (go_at_call 87; with_reducible refine (HI6.out _).mono ?_; rintro e w1 ⟨rfl, rfl⟩)
     | (go_at_call 87; with_reducible refine (HI7.out _).mono ?_; rintro e w1 ⟨rfl, rfl⟩))
    go_ret
    exact ⟨ret_bool (by simp), HBW.out⟩
   obtain rfl | rfl : b3 = false ∨ b3 = true := by cases b3 <;> simp
   ·go_wp2_with (first
     | (go_at_call 135; refine (HR.out _).mono ?_; rintro e w1 ⟨rfl, rfl⟩)
     | (go_at_call 87; with_reducible refine (HI3.out _).mono ?_; rintro e w1 ⟨rfl, rfl⟩)
     | (go_at_call 87; with_reducible refine (HI6.out _).mono ?_; rintro e w1 ⟨rfl, rfl⟩)
     | (go_at_call 87; with_reducible refine (HI7.out _).mono ?_; rintro e w1 ⟨rfl, rfl⟩))
    go_ret
    exact ⟨ret_bool (by simp), HBW.out⟩
   obtain rfl | rfl : b4 = false ∨ b4 = true := by cases b4 <;> simp
   ·go_wp2_with (first
     | (go_at_call 135; refine (HR.out _).mono ?_; rintro e w1 ⟨rfl, rfl⟩)
     | (go_at_call 87; with_reducible refine (HI3.out _).mono ?_; rintro e w1 ⟨rfl, rfl⟩)
     | (go_at_call 87; with_reducible refine (HI6.out _).mono ?_; rintro e w1 ⟨rfl, rfl⟩)
     | (go_at_call 87; with_reducible refine (HI7.out _).mono ?_; rintro e w1 ⟨rfl, rfl⟩))
    go_ret
    exact ⟨ret_bool (by simp), HBW.out⟩
   obtain rfl | rfl : b5 = false ∨ b5 = true := by cases b5 <;> simp
   ·go_wp2_with (first
     | (go_at_call 135; refine (HR.out _).mono ?_; rintro e w1 ⟨rfl, rfl⟩)
     | (go_at_call 87; with_reducible refine (HI3.out _).mono ?_; rintro e w1 ⟨rfl, rfl⟩)
     | (go_at_call 87; with_reducible refine (HI6.out _).mono ?_; rintro e w1 ⟨rfl, rfl⟩)
     | (go_at_call 87; with_reducible refine (HI7.out _).mono ?_; rintro e w1 ⟨rfl, rfl⟩))
    go_ret
    exact ⟨ret_bool (by simp), HBW.out⟩
   go_wp2_with (first
    | (go_at_call 135; refine (HR.out _).mono ?_; rintro e w1 ⟨rfl, rfl⟩)
    | (go_at_call 87; with_reducible refine (HI3.out _).mono ?_; rintro e w1 ⟨rfl, rfl⟩)
    | (go_at_call 87; with_reducible refine (HI6.out _).mono ?_; rintro e w1 ⟨rfl, rfl⟩)
    | (go_at_call 87; with_reducible refine (HI7.out _).mono ?_; rintro e w1 ⟨rfl, rfl⟩))
   go_ret
   exact ⟨ret_bool (by simp), HBW.out⟩
end Go.Proofs.YtkcdgaijklhnaaaGreatDoor
namespace Go.Proofs.YtkcdgaijklhnaaaGreatDoor
open Go.RowKit
set_option maxHeartbeats 8000000 in
set_option maxRecDepth 100000 in
theorem mcheck_any (m : LModel) (v : Value) (w : World) (hv : VModel w.cell? v m) (hsum : sumLen [m.embed, m.place, m.mix, m.out] ≤ 1000000) : Calls Tryz.prog 46 #[v] w fun e w' => e = .returned (.int .i64 (chkM m)) ∧ Below w.heap.size w w' := by
 have HV : Hid (∀ w', Below w.heap.size w w' → VModel w'.cell? v m) := Lib.hid fun w' hb => hv.keep (Keeps.of_below hb)
 obtain ⟨a1, a2, a3, a4, a5, a6, a7, rfl, h1, h2, h3, h4, h5, h6, h7⟩ := hv
 obtain ⟨A1, c1, rfl, -, -, q1⟩ := h1.shape
 obtain ⟨n1, e1⟩ : ∃ n, m.cuts.length = n := ⟨_, rfl⟩
 rw [e1] at q1 h1 ⊢
 obtain ⟨A2, c2, rfl, -, -, q2⟩ := h2.shape
 obtain ⟨n2, e2⟩ : ∃ n, m.embed.length = n := ⟨_, rfl⟩
 rw [e2] at q2 h2 ⊢
 obtain ⟨A3, c3, rfl, -, -, q3⟩ := h3.shape
 obtain ⟨n3, e3⟩ : ∃ n, m.place.length = n := ⟨_, rfl⟩
 rw [e3] at q3 h3 ⊢
 obtain ⟨A4, c4, rfl, -, -, q4⟩ := h4.shape
 obtain ⟨n4, e4⟩ : ∃ n, m.mix.length = n := ⟨_, rfl⟩
 rw [e4] at q4 h4 ⊢
 obtain ⟨A5, c5, rfl, -, -, q5⟩ := h5.shape
 obtain ⟨n5, e5⟩ : ∃ n, m.out.length = n := ⟨_, rfl⟩
 rw [e5] at q5 h5 ⊢
 obtain ⟨A6, c6, rfl, -, -, q6⟩ := h6.shape
 obtain ⟨n6, e6⟩ : ∃ n, m.soft.length = n := ⟨_, rfl⟩
 rw [e6] at q6 h6 ⊢
 obtain ⟨A7, c7, rfl, -, -, q7⟩ := h7.shape
 obtain ⟨n7, e7⟩ : ∃ n, m.odds.length = n := ⟨_, rfl⟩
 rw [e7] at q7 h7 ⊢
 obtain ⟨K, eK⟩ : ∃ x, m.kind = x := ⟨_, rfl⟩
 obtain ⟨V, eV⟩ : ∃ x, m.vocab = x := ⟨_, rfl⟩
 obtain ⟨D, eD⟩ : ∃ x, m.width = x := ⟨_, rfl⟩
 obtain ⟨T, eT⟩ : ∃ x, m.top = x := ⟨_, rfl⟩
 rw [eK, eV, eD, eT]
 have hchk : chkM m = if sizedM K V D = 0 then (if inB 1 V T then (if formM m then (if valM m then 0 else 9) else 3) else 9) else sizedM K V D := by
  unfold chkM
  rw [eK, eV, eD, eT]
 rw [hchk]
 rw [e1, e2, e3, e4, e5, e6, e7, eK, eV, eD, eT] at HV
 obtain ⟨z, hz⟩ : ∃ z, sizedM K V D = z := ⟨_, rfl⟩
 obtain ⟨bt, gt⟩ : ∃ b, inB 1 V T = b := ⟨_, rfl⟩
 obtain ⟨bf, gf⟩ : ∃ b, formM m = b := ⟨_, rfl⟩
 obtain ⟨bc, gc⟩ : ∃ b, m.cuts.all (inB 1 15) = b := ⟨_, rfl⟩
 obtain ⟨bw, gw⟩ : ∃ b, ([m.embed, m.place, m.mix, m.out].flatten).all (inB (-128) 127) = b := ⟨_, rfl⟩
 obtain ⟨bs, gs⟩ : ∃ b, m.soft.all (inB 0 1000) = b := ⟨_, rfl⟩
 obtain ⟨bo, go⟩ : ∃ b, m.odds.all (inB 0 1000) = b := ⟨_, rfl⟩
 obtain ⟨X, hX⟩ : ∃ X, m.odds[0]?.getD 0 = X := ⟨_, rfl⟩
 obtain ⟨bx, gx⟩ : ∃ b, (X == 0) = b := ⟨_, rfl⟩
 have hval : valM m = (bc && bw && bs && bo && !bx) := by
  unfold valM
  rw [gc, gw, gs, go, hX, gx]
 have hodds : formM m = true → 1 ≤ n7 := fun h => by
  unfold formM at h
  simp only [Bool.and_eq_true] at h
  have := h.2
  simp [inB] at this
  omega
 rw [hz, gt, gf, hval]
 rw [gf] at hodds
 have HS : Hid (∀ W, Calls Tryz.prog 86 #[.int .i64 K, .int .i64 V, .int .i64 D] W fun e w' => e = .returned (.int .i64 z) ∧ w' = W) := Lib.hid fun W => by
  have h := sized_any K V D W
  rwa [hz] at h
 have HF : Hid (∀ W, z = 0 → Below w.heap.size w W → Calls Tryz.prog 88 #[.agg #[.int .i64 K, .int .i64 V, .int .i64 D, .int .i64 T, .slice A1 n1 c1, .slice A2 n2 c2, .slice A3 n3 c3, .slice A4 n4 c4, .slice A5 n5 c5, .slice A6 n6 c6, .slice A7 n7 c7]] W fun e w' => e = .returned (.bool bf) ∧ Below W.heap.size W w') := Lib.hid fun W h0 hb => by
  have h := formed_any m _ W (HV.out W hb) (by rw [eK, eV, eD, hz]; exact h0)
  rwa [gf] at h
 have HI : Hid (∀ W, Calls Tryz.prog 87 #[.int .i64 T, .int .i64 1, .int .i64 V] W fun e w' => e = .returned (.bool bt) ∧ w' = W) := Lib.hid fun W => by
  have h := mwithin_any T 1 V W
  rwa [gt] at h
 have K0 : ∀ W, Below w.heap.size w W → ∀ (b o : Nat) (x : Int), RInt w.cell? b o x → RInt W.cell? b o x := fun W hb b o x h => Keeps.of_below hb _ _ h
 have H1 : Hid (∀ W, Below w.heap.size w W → Calls Tryz.prog 89 #[.slice A1 n1 c1, .int .i64 1, .int .i64 15] W fun e w' => e = .returned (.bool bc) ∧ Below W.heap.size W w') := Lib.hid fun W hb => by have h := all_any m.cuts 1 15 _ W (h1.mono (K0 W hb)); rwa [gc] at h
 have H6 : Hid (∀ W, Below w.heap.size w W → Calls Tryz.prog 89 #[.slice A6 n6 c6, .int .i64 0, .int .i64 1000] W fun e w' => e = .returned (.bool bs) ∧ Below W.heap.size W w') := Lib.hid fun W hb => by have h := all_any m.soft 0 1000 _ W (h6.mono (K0 W hb)); rwa [gs] at h
 have H7 : Hid (∀ W, Below w.heap.size w W → Calls Tryz.prog 89 #[.slice A7 n7 c7, .int .i64 0, .int .i64 1000] W fun e w' => e = .returned (.bool bo) ∧ Below W.heap.size W w') := Lib.hid fun W hb => by have h := all_any m.odds 0 1000 _ W (h7.mono (K0 W hb)); rwa [go] at h
 have H8 : Hid (∀ W, Below w.heap.size w W → ∀ v', RInts W.cell? v' [m.embed, m.place, m.mix, m.out].flatten → Calls Tryz.prog 89 #[v', .int .i64 (-128), .int .i64 127] W fun e w' => e = .returned (.bool bw) ∧ Below W.heap.size W w') := Lib.hid fun W hb v' hv' => by have h := all_any _ (-128) 127 v' W hv'; rwa [gw] at h
 have HC : Hid (∀ W, Below w.heap.size w W → ∀ b, (∀ i u, ([.slice A2 n2 c2, .slice A3 n3 c3, .slice A4 n4 c4, .slice A5 n5 c5] : List Value)[i]? = some u → W.cell? ⟨b, i, none⟩ = some u) → Calls Tryz.prog 45 #[.slice (some ⟨b, 0, none⟩) 4 4] W fun e w' => ∃ v', e = .returned v' ∧ Below W.heap.size W w' ∧ RInts w'.cell? v' [m.embed, m.place, m.mix, m.out].flatten) := Lib.hid fun W hb b hc => by
  refine (concat_int [m.embed, m.place, m.mix, m.out] _ W W.cell? (Keeps.refl _) ⟨_, _, rfl, Nat.le_refl 4, (by decide : 4 ≤ maxLen), (by simp), fun _ => ⟨b, 0, rfl, fun i x hx => ?_⟩⟩ ?_).mono fun e w' ⟨v', h1, h2, h3⟩ => ⟨v', h1, h2, h3.rws cellsInt (Keeps.of_below h2)⟩
  ·match i, hx with
   | 0, hx => simp at hx; subst hx; exact ⟨_, hc 0 _ rfl, h2.mono (K0 W hb)⟩
   | 1, hx => simp at hx; subst hx; exact ⟨_, hc 1 _ rfl, h3.mono (K0 W hb)⟩
   | 2, hx => simp at hx; subst hx; exact ⟨_, hc 2 _ rfl, h4.mono (K0 W hb)⟩
   | 3, hx => simp at hx; subst hx; exact ⟨_, hc 3 _ rfl, h5.mono (K0 W hb)⟩
   | i + 4, hx => simp at hx
  ·exact hsum
 have HX : Hid (1 ≤ n7 → ∃ ob oo, A7 = some ⟨ob, oo, none⟩ ∧ w.cell? ⟨ob, oo, none⟩ = some (.int .i64 X)) := Lib.hid fun h => by
  obtain ⟨ob, oo, hA, hcell⟩ := h7.at_ (by omega)
  have hl : (0 : Nat) < m.odds.length := by omega
  refine ⟨ob, oo, hA, ?_⟩
  have := hcell 0 _ (List.getElem?_eq_getElem hl)
  rw [List.getElem?_eq_getElem hl] at hX
  simp only [Option.getD_some] at hX
  rw [hX] at this
  simpa [RInt] using this
 obtain ⟨W, hW⟩ : ∃ W, W = w.alloc (.cells #[.int .i64 K, .int .i64 V, .int .i64 D, .int .i64 T, .slice A1 n1 c1, .slice A2 n2 c2, .slice A3 n3 c3, .slice A4 n4 c4, .slice A5 n5 c5, .slice A6 n6 c6, .slice A7 n7 c7] 27) := ⟨_, rfl⟩
 have hb : Bk W w.heap.size 27 #[.int .i64 K, .int .i64 V, .int .i64 D, .int .i64 T, .slice A1 n1 c1, .slice A2 n2 c2, .slice A3 n3 c3, .slice A4 n4 c4, .slice A5 n5 c5, .slice A6 n6 c6, .slice A7 n7 c7] := by rw [hW]; exact Bk.new _ _ _
 have HBW : Hid (Below w.heap.size w W) := Lib.hid (by rw [hW]; exact laid (Below.refl _ _) _)
 have HB : Hid (Below W.heap.size W W) := Lib.hid (Below.refl _ _)
 have HK : Hid (∀ w', Below W.heap.size W w' → (w'.cell? ⟨w.heap.size, 0, none⟩ = some (.int .i64 K) ∧ w'.cell? ⟨w.heap.size, 1, none⟩ = some (.int .i64 V) ∧ w'.cell? ⟨w.heap.size, 2, none⟩ = some (.int .i64 D) ∧ w'.cell? ⟨w.heap.size, 3, none⟩ = some (.int .i64 T) ∧ w'.cell? ⟨w.heap.size, 4, none⟩ = some (.slice A1 n1 c1) ∧ w'.cell? ⟨w.heap.size, 5, none⟩ = some (.slice A2 n2 c2) ∧ w'.cell? ⟨w.heap.size, 6, none⟩ = some (.slice A3 n3 c3) ∧ w'.cell? ⟨w.heap.size, 7, none⟩ = some (.slice A4 n4 c4) ∧ w'.cell? ⟨w.heap.size, 8, none⟩ = some (.slice A5 n5 c5) ∧ w'.cell? ⟨w.heap.size, 9, none⟩ = some (.slice A6 n6 c6) ∧ w'.cell? ⟨w.heap.size, 10, none⟩ = some (.slice A7 n7 c7))) := Lib.hid fun w' h => ⟨(hb.low h).cell 0, (hb.low h).cell 1, (hb.low h).cell 2, (hb.low h).cell 3, (hb.low h).cell 4, (hb.low h).cell 5, (hb.low h).cell 6, (hb.low h).cell 7, (hb.low h).cell 8, (hb.low h).cell 9, (hb.low h).cell 10⟩
 obtain ⟨p0, p1, p2, p3, p4, p5, p6, p7, p8, p9, p10⟩ := HK.out W HB.out
 have HW := Lib.hid hW
 have HOD := Lib.hid hodds
 clear hW hb h1 h2 h3 h4 h5 h6 h7 e1 e2 e3 e4 e5 e6 e7 eK eV eD eT K0 hX hodds HV hz gt gf gc gw gs go hval hchk hsum q1 q2 q3 q4 q5 q6 q7
 go_enter Tryz.func46, Tryz.ntmps46
 by_cases hz0 : z = 0
 ·subst hz0
  obtain rfl | rfl : bt = false ∨ bt = true := by cases bt <;> simp
  ·go_wp2_with (first
    | (go_at_call 86; rw [← HW.out]; refine (HS.out _).mono ?_; rintro e w1 ⟨rfl, rfl⟩)
    | (go_at_call 87; refine (HI.out _).mono ?_; rintro e w1 ⟨rfl, rfl⟩))
   go_ret
   exact ⟨rfl, HBW.out⟩
  obtain rfl | rfl : bf = false ∨ bf = true := by cases bf <;> simp
  ·go_wp2_with (first
    | (go_at_call 86; rw [← HW.out]; refine (HS.out _).mono ?_; rintro e w1 ⟨rfl, rfl⟩)
    | (go_at_call 87; refine (HI.out _).mono ?_; rintro e w1 ⟨rfl, rfl⟩)
    | (go_at_call 88; refine (HF.out _ (by simp) HBW.out).mono ?_; rintro e w1 ⟨rfl, hB⟩; replace HB := Lib.hid hB; clear hB p0 p1 p2 p3 p4 p5 p6 p7 p8 p9 p10))
   go_ret
   exact ⟨rfl, behind HBW.out HB.out⟩
  have h7n := HOD.out rfl
  obtain ⟨ob, oo, rfl, hx0⟩ := HX.out h7n
  have h7m : (1 : Int) ≤ (n7 : Int) := by omega
  have HXX : Hid (∀ w', Below W.heap.size W w' → w'.cell? ⟨ob, oo, none⟩ = some (.int .i64 X)) := Lib.hid fun w' h => Keeps.of_below (behind HBW.out h) _ _ hx0
  clear hx0 HX HOD h7n
  have hx := HXX.out W HB.out
  go_upto_region 9 with (first
   | (go_at_call 86; rw [← HW.out]; refine (HS.out _).mono ?_; rintro e w1 ⟨rfl, rfl⟩)
   | (go_at_call 87; refine (HI.out _).mono ?_; rintro e w1 ⟨rfl, rfl⟩)
   | (go_at_call 88; refine (HF.out _ (by simp) HBW.out).mono ?_; rintro e w1 ⟨rfl, hB⟩; replace HB := Lib.hid hB; clear hB p0 p1 p2 p3 p4 p5 p6 p7 p8 p9 p10 hx; obtain ⟨p0, p1, p2, p3, p4, p5, p6, p7, p8, p9, p10⟩ := HK.out w1 HB.out)
   | (go_at_call 45; refine (HC.out _ (laid (behind HBW.out HB.out) _) _ (fun i u hu => ?_)).mono ?_; exact cell_lits _ #[.slice A2 n2 c2, .slice A3 n3 c3, .slice A4 n4 c4, .slice A5 n5 c5] _ hu; rintro e w2 ⟨v', rfl, hB, hv'⟩; have HV2 : Hid (∀ w', Below w2.heap.size w2 w' → RInts w'.cell? v' [m.embed, m.place, m.mix, m.out].flatten) := Lib.hid (fun w' hb => hv'.mono fun b o x h => Keeps.of_below hb _ _ h); have HB2 : Hid (Below w2.heap.size w2 w2) := Lib.hid (Below.refl _ _); replace HB := Lib.hid ((laid HB.out _).trans (hB.mono (laid HB.out _).size)); clear hB hv' p0 p1 p2 p3 p4 p5 p6 p7 p8 p9 p10; obtain ⟨p0, p1, p2, p3, p4, p5, p6, p7, p8, p9, p10⟩ := HK.out w2 HB.out; have hx := HXX.out w2 HB.out))
  obtain rfl | rfl : bc = false ∨ bc = true := by cases bc <;> simp
  ·go_wp2_with (first
    | (go_at_call 89; with_reducible refine (H1.out _ (behind HBW.out HB.out)).mono ?_; rintro e w1 ⟨rfl, hB⟩; replace HB2 := Lib.hid (behind HB2.out hB); replace HB := Lib.hid (behind HB.out hB); clear hB p0 p1 p2 p3 p4 p5 p6 p7 p8 p9 p10 hx; obtain ⟨p0, p1, p2, p3, p4, p5, p6, p7, p8, p9, p10⟩ := HK.out w1 HB.out; have hx := HXX.out w1 HB.out)
    | (go_at_call 89; with_reducible refine (H6.out _ (behind HBW.out HB.out)).mono ?_; rintro e w1 ⟨rfl, hB⟩; replace HB2 := Lib.hid (behind HB2.out hB); replace HB := Lib.hid (behind HB.out hB); clear hB p0 p1 p2 p3 p4 p5 p6 p7 p8 p9 p10 hx; obtain ⟨p0, p1, p2, p3, p4, p5, p6, p7, p8, p9, p10⟩ := HK.out w1 HB.out; have hx := HXX.out w1 HB.out)
    | (go_at_call 89; with_reducible refine (H7.out _ (behind HBW.out HB.out)).mono ?_; rintro e w1 ⟨rfl, hB⟩; replace HB2 := Lib.hid (behind HB2.out hB); replace HB := Lib.hid (behind HB.out hB); clear hB p0 p1 p2 p3 p4 p5 p6 p7 p8 p9 p10 hx; obtain ⟨p0, p1, p2, p3, p4, p5, p6, p7, p8, p9, p10⟩ := HK.out w1 HB.out; have hx := HXX.out w1 HB.out)
    | (go_at_call 89; with_reducible refine (H8.out _ (behind HBW.out HB.out) _ (HV2.out _ HB2.out)).mono ?_; rintro e w1 ⟨rfl, hB⟩; replace HB2 := Lib.hid (behind HB2.out hB); replace HB := Lib.hid (behind HB.out hB); clear hB p0 p1 p2 p3 p4 p5 p6 p7 p8 p9 p10 hx; obtain ⟨p0, p1, p2, p3, p4, p5, p6, p7, p8, p9, p10⟩ := HK.out w1 HB.out; have hx := HXX.out w1 HB.out))
   go_ret
   exact ⟨rfl, behind HBW.out HB.out⟩
  obtain rfl | rfl : bw = false ∨ bw = true := by cases bw <;> simp
  ·go_wp2_with (first
    | (go_at_call 89; with_reducible refine (H1.out _ (behind HBW.out HB.out)).mono ?_; rintro e w1 ⟨rfl, hB⟩; replace HB2 := Lib.hid (behind HB2.out hB); replace HB := Lib.hid (behind HB.out hB); clear hB p0 p1 p2 p3 p4 p5 p6 p7 p8 p9 p10 hx; obtain ⟨p0, p1, p2, p3, p4, p5, p6, p7, p8, p9, p10⟩ := HK.out w1 HB.out; have hx := HXX.out w1 HB.out)
    | (go_at_call 89; with_reducible refine (H6.out _ (behind HBW.out HB.out)).mono ?_; rintro e w1 ⟨rfl, hB⟩; replace HB2 := Lib.hid (behind HB2.out hB); replace HB := Lib.hid (behind HB.out hB); clear hB p0 p1 p2 p3 p4 p5 p6 p7 p8 p9 p10 hx; obtain ⟨p0, p1, p2, p3, p4, p5, p6, p7, p8, p9, p10⟩ := HK.out w1 HB.out; have hx := HXX.out w1 HB.out)
    | (go_at_call 89; with_reducible refine (H7.out _ (behind HBW.out HB.out)).mono ?_; rintro e w1 ⟨rfl, hB⟩; replace HB2 := Lib.hid (behind HB2.out hB); replace HB := Lib.hid (behind HB.out hB); clear hB p0 p1 p2 p3 p4 p5 p6 p7 p8 p9 p10 hx; obtain ⟨p0, p1, p2, p3, p4, p5, p6, p7, p8, p9, p10⟩ := HK.out w1 HB.out; have hx := HXX.out w1 HB.out)
    | (go_at_call 89; with_reducible refine (H8.out _ (behind HBW.out HB.out) _ (HV2.out _ HB2.out)).mono ?_; rintro e w1 ⟨rfl, hB⟩; replace HB2 := Lib.hid (behind HB2.out hB); replace HB := Lib.hid (behind HB.out hB); clear hB p0 p1 p2 p3 p4 p5 p6 p7 p8 p9 p10 hx; obtain ⟨p0, p1, p2, p3, p4, p5, p6, p7, p8, p9, p10⟩ := HK.out w1 HB.out; have hx := HXX.out w1 HB.out))
   go_ret
   exact ⟨rfl, behind HBW.out HB.out⟩
  obtain rfl | rfl : bs = false ∨ bs = true := by cases bs <;> simp
  ·go_wp2_with (first
    | (go_at_call 89; with_reducible refine (H1.out _ (behind HBW.out HB.out)).mono ?_; rintro e w1 ⟨rfl, hB⟩; replace HB2 := Lib.hid (behind HB2.out hB); replace HB := Lib.hid (behind HB.out hB); clear hB p0 p1 p2 p3 p4 p5 p6 p7 p8 p9 p10 hx; obtain ⟨p0, p1, p2, p3, p4, p5, p6, p7, p8, p9, p10⟩ := HK.out w1 HB.out; have hx := HXX.out w1 HB.out)
    | (go_at_call 89; with_reducible refine (H6.out _ (behind HBW.out HB.out)).mono ?_; rintro e w1 ⟨rfl, hB⟩; replace HB2 := Lib.hid (behind HB2.out hB); replace HB := Lib.hid (behind HB.out hB); clear hB p0 p1 p2 p3 p4 p5 p6 p7 p8 p9 p10 hx; obtain ⟨p0, p1, p2, p3, p4, p5, p6, p7, p8, p9, p10⟩ := HK.out w1 HB.out; have hx := HXX.out w1 HB.out)
    | (go_at_call 89; with_reducible refine (H7.out _ (behind HBW.out HB.out)).mono ?_; rintro e w1 ⟨rfl, hB⟩; replace HB2 := Lib.hid (behind HB2.out hB); replace HB := Lib.hid (behind HB.out hB); clear hB p0 p1 p2 p3 p4 p5 p6 p7 p8 p9 p10 hx; obtain ⟨p0, p1, p2, p3, p4, p5, p6, p7, p8, p9, p10⟩ := HK.out w1 HB.out; have hx := HXX.out w1 HB.out)
    | (go_at_call 89; with_reducible refine (H8.out _ (behind HBW.out HB.out) _ (HV2.out _ HB2.out)).mono ?_; rintro e w1 ⟨rfl, hB⟩; replace HB2 := Lib.hid (behind HB2.out hB); replace HB := Lib.hid (behind HB.out hB); clear hB p0 p1 p2 p3 p4 p5 p6 p7 p8 p9 p10 hx; obtain ⟨p0, p1, p2, p3, p4, p5, p6, p7, p8, p9, p10⟩ := HK.out w1 HB.out; have hx := HXX.out w1 HB.out))
   go_ret
   exact ⟨rfl, behind HBW.out HB.out⟩
  obtain rfl | rfl : bo = false ∨ bo = true := by cases bo <;> simp
  ·go_wp2_with (first
    | (go_at_call 89; with_reducible refine (H1.out _ (behind HBW.out HB.out)).mono ?_; rintro e w1 ⟨rfl, hB⟩; replace HB2 := Lib.hid (behind HB2.out hB); replace HB := Lib.hid (behind HB.out hB); clear hB p0 p1 p2 p3 p4 p5 p6 p7 p8 p9 p10 hx; obtain ⟨p0, p1, p2, p3, p4, p5, p6, p7, p8, p9, p10⟩ := HK.out w1 HB.out; have hx := HXX.out w1 HB.out)
    | (go_at_call 89; with_reducible refine (H6.out _ (behind HBW.out HB.out)).mono ?_; rintro e w1 ⟨rfl, hB⟩; replace HB2 := Lib.hid (behind HB2.out hB); replace HB := Lib.hid (behind HB.out hB); clear hB p0 p1 p2 p3 p4 p5 p6 p7 p8 p9 p10 hx; obtain ⟨p0, p1, p2, p3, p4, p5, p6, p7, p8, p9, p10⟩ := HK.out w1 HB.out; have hx := HXX.out w1 HB.out)
    | (go_at_call 89; with_reducible refine (H7.out _ (behind HBW.out HB.out)).mono ?_; rintro e w1 ⟨rfl, hB⟩; replace HB2 := Lib.hid (behind HB2.out hB); replace HB := Lib.hid (behind HB.out hB); clear hB p0 p1 p2 p3 p4 p5 p6 p7 p8 p9 p10 hx; obtain ⟨p0, p1, p2, p3, p4, p5, p6, p7, p8, p9, p10⟩ := HK.out w1 HB.out; have hx := HXX.out w1 HB.out)
    | (go_at_call 89; with_reducible refine (H8.out _ (behind HBW.out HB.out) _ (HV2.out _ HB2.out)).mono ?_; rintro e w1 ⟨rfl, hB⟩; replace HB2 := Lib.hid (behind HB2.out hB); replace HB := Lib.hid (behind HB.out hB); clear hB p0 p1 p2 p3 p4 p5 p6 p7 p8 p9 p10 hx; obtain ⟨p0, p1, p2, p3, p4, p5, p6, p7, p8, p9, p10⟩ := HK.out w1 HB.out; have hx := HXX.out w1 HB.out))
   go_ret
   exact ⟨rfl, behind HBW.out HB.out⟩
  obtain rfl | rfl : bx = false ∨ bx = true := by cases bx <;> simp
  ·go_wp2_with (first
    | (go_at_call 89; with_reducible refine (H1.out _ (behind HBW.out HB.out)).mono ?_; rintro e w1 ⟨rfl, hB⟩; replace HB2 := Lib.hid (behind HB2.out hB); replace HB := Lib.hid (behind HB.out hB); clear hB p0 p1 p2 p3 p4 p5 p6 p7 p8 p9 p10 hx; obtain ⟨p0, p1, p2, p3, p4, p5, p6, p7, p8, p9, p10⟩ := HK.out w1 HB.out; have hx := HXX.out w1 HB.out)
    | (go_at_call 89; with_reducible refine (H6.out _ (behind HBW.out HB.out)).mono ?_; rintro e w1 ⟨rfl, hB⟩; replace HB2 := Lib.hid (behind HB2.out hB); replace HB := Lib.hid (behind HB.out hB); clear hB p0 p1 p2 p3 p4 p5 p6 p7 p8 p9 p10 hx; obtain ⟨p0, p1, p2, p3, p4, p5, p6, p7, p8, p9, p10⟩ := HK.out w1 HB.out; have hx := HXX.out w1 HB.out)
    | (go_at_call 89; with_reducible refine (H7.out _ (behind HBW.out HB.out)).mono ?_; rintro e w1 ⟨rfl, hB⟩; replace HB2 := Lib.hid (behind HB2.out hB); replace HB := Lib.hid (behind HB.out hB); clear hB p0 p1 p2 p3 p4 p5 p6 p7 p8 p9 p10 hx; obtain ⟨p0, p1, p2, p3, p4, p5, p6, p7, p8, p9, p10⟩ := HK.out w1 HB.out; have hx := HXX.out w1 HB.out)
    | (go_at_call 89; with_reducible refine (H8.out _ (behind HBW.out HB.out) _ (HV2.out _ HB2.out)).mono ?_; rintro e w1 ⟨rfl, hB⟩; replace HB2 := Lib.hid (behind HB2.out hB); replace HB := Lib.hid (behind HB.out hB); clear hB p0 p1 p2 p3 p4 p5 p6 p7 p8 p9 p10 hx; obtain ⟨p0, p1, p2, p3, p4, p5, p6, p7, p8, p9, p10⟩ := HK.out w1 HB.out; have hx := HXX.out w1 HB.out))
   go_ret
   exact ⟨rfl, behind HBW.out HB.out⟩
  go_wp2_with (first
   | (go_at_call 89; with_reducible refine (H1.out _ (behind HBW.out HB.out)).mono ?_; rintro e w1 ⟨rfl, hB⟩; replace HB2 := Lib.hid (behind HB2.out hB); replace HB := Lib.hid (behind HB.out hB); clear hB p0 p1 p2 p3 p4 p5 p6 p7 p8 p9 p10 hx; obtain ⟨p0, p1, p2, p3, p4, p5, p6, p7, p8, p9, p10⟩ := HK.out w1 HB.out; have hx := HXX.out w1 HB.out)
   | (go_at_call 89; with_reducible refine (H6.out _ (behind HBW.out HB.out)).mono ?_; rintro e w1 ⟨rfl, hB⟩; replace HB2 := Lib.hid (behind HB2.out hB); replace HB := Lib.hid (behind HB.out hB); clear hB p0 p1 p2 p3 p4 p5 p6 p7 p8 p9 p10 hx; obtain ⟨p0, p1, p2, p3, p4, p5, p6, p7, p8, p9, p10⟩ := HK.out w1 HB.out; have hx := HXX.out w1 HB.out)
   | (go_at_call 89; with_reducible refine (H7.out _ (behind HBW.out HB.out)).mono ?_; rintro e w1 ⟨rfl, hB⟩; replace HB2 := Lib.hid (behind HB2.out hB); replace HB := Lib.hid (behind HB.out hB); clear hB p0 p1 p2 p3 p4 p5 p6 p7 p8 p9 p10 hx; obtain ⟨p0, p1, p2, p3, p4, p5, p6, p7, p8, p9, p10⟩ := HK.out w1 HB.out; have hx := HXX.out w1 HB.out)
   | (go_at_call 89; with_reducible refine (H8.out _ (behind HBW.out HB.out) _ (HV2.out _ HB2.out)).mono ?_; rintro e w1 ⟨rfl, hB⟩; replace HB2 := Lib.hid (behind HB2.out hB); replace HB := Lib.hid (behind HB.out hB); clear hB p0 p1 p2 p3 p4 p5 p6 p7 p8 p9 p10 hx; obtain ⟨p0, p1, p2, p3, p4, p5, p6, p7, p8, p9, p10⟩ := HK.out w1 HB.out; have hx := HXX.out w1 HB.out))
  go_ret
  exact ⟨rfl, behind HBW.out HB.out⟩
 ·have hz1 : (z != 0) = true := by simpa using hz0
  rw [if_neg hz0]
  clear hz0
  go_wp2_with (go_at_call 86; rw [← HW.out]; refine (HS.out _).mono ?_; rintro e w1 ⟨rfl, rfl⟩)
  go_ret
  exact ⟨rfl, HBW.out⟩
end Go.Proofs.YtkcdgaijklhnaaaGreatDoor
