/-
  Naturals: less, digits, division.
-/
import Derived.Test.YtkcdgaijklhnaaaGreatDoorK11
import Derived.RegionTactic
import Derived.Deep.QuietTactic
import Derived.BigQuiet
import Derived.BigGuardPart
namespace Go.Proofs.YtkcdgaijklhnaaaGreatDoor
open Go.RowKit
set_option maxHeartbeats 2000000 in
set_option maxRecDepth 100000 in
theorem less_any (P U S V : List Nat) (q gu gv cu cv : Nat) (w : World) (hu : Own w gu (P ++ U ++ S)) (hv : Own w gv V) (hne : gv ≠ gu) (hxu : ∀ d ∈ U, d < 1000000000) (hxv : ∀ d ∈ V, d < 1000000000)
  (hul : U.length = V.length + 1) (hq : q < 1000000000) (_hs : V.length ≤ 1000000000000) (hcu : U.length ≤ cu) (hcu2 : cu ≤ 9000000000000) (_hcv : V.length ≤ cv) (_hcv2 : cv ≤ 9000000000000) (_hp : P.length ≤ 9000000000000) :
  Calls Tryz.prog 263 #[.slice (some ⟨gu, P.length, none⟩) U.length cu, .slice (some ⟨gv, 0, none⟩) V.length cv, .int .u64 q] w fun e w' => ∃ (W : List Nat) (cy : Nat), e = .returned (.bool (decide (0 < cy))) ∧
   Own w' gu (P ++ W ++ S) ∧ W.length = U.length ∧ (∀ d ∈ W, d < 1000000000) ∧ Mth.val 1000000000 W + q * Mth.val 1000000000 V = Mth.val 1000000000 U + 1000000000 ^ U.length * cy ∧ w.grownBy w' (some gu) := by
 have HXU := Lib.hid hxu
 have HXV := Lib.hid hxv
 have HUL := Lib.hid hul
 have HOV := Lib.hid hv
 have hul2 : (U.length : Int) = (V.length : Int) + 1 := by omega
 have HUL2 := Lib.hid hul2
 have hun : (V.length : Int) < U.length := by omega
 clear hxu hxv hul hul2 hv
 go_enter Tryz.func263, Tryz.ntmps263
 go_wp2
 go_loopw [7, 14] (fun a7 a14 wr => ∃ (k cy : Nat) (W : List Nat), a14 = .int .i64 k ∧ a7 = .int .u64 cy ∧ k ≤ U.length ∧ cy ≤ q ∧ W.length = U.length ∧ Own wr gu (P ++ W ++ S) ∧ (∀ d ∈ W, d < 1000000000) ∧ W.drop k = U.drop k ∧
  Mth.val 1000000000 (W.take k) + q * Mth.val 1000000000 (V.take k) = Mth.val 1000000000 (U.take k) + 1000000000 ^ k * cy ∧ w.grownBy wr (some gu)) (fun _ a14 _ => U.length - (intOf a14).toNat)
 case atStart => exact ⟨0, 0, U, rfl, rfl, by omega, by omega, rfl, hu, HXU.out, rfl, by simp [Mth.val], only_refl _ _⟩
 case round =>
  obtain ⟨k, cy, W, rfl, rfl, hk, hcy, hl, hown, hd, hdr, hvv, hB⟩ := hrel
  have HD := Lib.hid hd
  have HV := Lib.hid hvv
  have HL := Lib.hid hl
  have HU := Lib.hid hdr
  have hown2 := HOV.out.only hB hne
  clear hd hvv hdr
  by_cases hlt2 : k < U.length
  ·have hk2 : (k : Int) < (U.length : Int) := by omega
   have g0 := own3_cell hown (k := k) (by omega)
   have gf := hown.frozen (P.length + k)
   rw [Mth.getD_of_drop HU.out] at g0
   have b1 := Mth.getD_lt (by omega) HXU.out k
   obtain ⟨x, hx⟩ : ∃ x, U[k]?.getD 0 = x := ⟨_, rfl⟩
   rw [hx] at g0 b1
   have HX := Lib.hid hx
   have HL2 := Lib.hid hlt2
   clear hx hlt2 hl
   by_cases hkb : k < V.length
   ·have hkb2 : (k : Int) < (V.length : Int) := by omega
    have g2 := hown2.cell hkb
    have b2 := Mth.getD_lt (by omega) HXV.out k
    obtain ⟨y, hy⟩ : ∃ y, V[k]?.getD 0 = y := ⟨_, rfl⟩
    rw [hy] at g2 b2
    have HY := Lib.hid hy
    have HKB := Lib.hid hkb
    have hp0 : 0 ≤ (q : Int) * (y : Int) := Int.mul_nonneg (by omega) (by omega)
    have hp2 : q * y ≤ q * 999999999 := Nat.mul_le_mul_left _ (by omega)
    have hp1 : (q : Int) * (y : Int) ≤ (q : Int) * 999999999 := by
     rw [← Int.natCast_mul]; omega
    clear hy hkb
    by_cases hxy : x < (cy + q * y) % 1000000000
    ·have hcm : (x : Int) < ((cy : Int) + q * y) % 1000000000 := by omega
     clear hxy
     go_wp2
     have e1 : (x : Int) + (1000000000 - ((cy : Int) + q * y) % 1000000000) = ((x + (1000000000 - (cy + q * y) % 1000000000) : Nat) : Int) := by omega
     have e2 : ((cy : Int) + q * y) / 1000000000 + 1 = (((cy + q * y) / 1000000000 + 1 : Nat) : Int) := by omega
     go_roundw
     case rel =>
      refine ⟨k + 1, (cy + q * y) / 1000000000 + 1, W.set k (x + (1000000000 - (cy + q * y) % 1000000000)), by go_num, by rw [e2], by omega, by omega, by simp [HL.out], by rw [e1]; exact own3_set hown (by rw [HL.out]; exact HL2.out) _, Mth.mem_set_lt (d := x + (1000000000 - (cy + q * y) % 1000000000)) HD.out (by omega), by rw [Mth.drop_set_succ]; exact Mth.drop_succ_of HU.out, ?_, only_set hB _ _⟩
      rw [Mth.take_set_succ _ _ _ (by rw [HL.out]; exact HL2.out), Mth.val_snoc, List.length_take, Nat.min_eq_left (by rw [HL.out]; exact Nat.le_of_lt HL2.out), Mth.val_take_succ _ _ _ HKB.out, HY.out, Mth.val_take_succ _ U _ HL2.out, HX.out, Nat.pow_succ]
      exact Mth.less_step 1000000000 (1000000000 ^ k) _ _ _ q cy x y (cy + q * y) _ 1 HV.out rfl (by omega)
     case measure => simp [intOf]; omega
    ·have hcm : ((cy : Int) + q * y) % 1000000000 ≤ (x : Int) := by omega
     clear hxy
     go_wp2
     have e1 : (x : Int) - ((cy : Int) + q * y) % 1000000000 = ((x - (cy + q * y) % 1000000000 : Nat) : Int) := by omega
     have e2 : ((cy : Int) + q * y) / 1000000000 = (((cy + q * y) / 1000000000 : Nat) : Int) := by omega
     go_roundw
     case rel =>
      refine ⟨k + 1, (cy + q * y) / 1000000000, W.set k (x - (cy + q * y) % 1000000000), by go_num, by rw [e2], by omega, by omega, by simp [HL.out], by rw [e1]; exact own3_set hown (by rw [HL.out]; exact HL2.out) _, Mth.mem_set_lt (d := x - (cy + q * y) % 1000000000) HD.out (by omega), by rw [Mth.drop_set_succ]; exact Mth.drop_succ_of HU.out, ?_, only_set hB _ _⟩
      rw [Mth.take_set_succ _ _ _ (by rw [HL.out]; exact HL2.out), Mth.val_snoc, List.length_take, Nat.min_eq_left (by rw [HL.out]; exact Nat.le_of_lt HL2.out), Mth.val_take_succ _ _ _ HKB.out, HY.out, Mth.val_take_succ _ U _ HL2.out, HX.out, Nat.pow_succ]
      exact Mth.less_step 1000000000 (1000000000 ^ k) _ _ _ q cy x y (cy + q * y) _ 0 HV.out rfl (by omega)
     case measure => simp [intOf]; omega
   ·have hkb2 : (V.length : Int) ≤ (k : Int) := by omega
    have HKB : Hid (V.length ≤ k) := Lib.hid (by omega)
    clear hkb
    by_cases hxy : x < cy % 1000000000
    ·have hcm : (x : Int) < (cy : Int) % 1000000000 := by omega
     clear hxy
     go_wp2
     have e1 : (x : Int) + (1000000000 - (cy : Int) % 1000000000) = ((x + (1000000000 - (cy) % 1000000000) : Nat) : Int) := by omega
     have e2 : (cy : Int) / 1000000000 + 1 = (((cy) / 1000000000 + 1 : Nat) : Int) := by omega
     go_roundw
     case rel =>
      refine ⟨k + 1, (cy) / 1000000000 + 1, W.set k (x + (1000000000 - (cy) % 1000000000)), by go_num, by rw [e2], by omega, by omega, by simp [HL.out], by rw [e1]; exact own3_set hown (by rw [HL.out]; exact HL2.out) _, Mth.mem_set_lt (d := x + (1000000000 - (cy) % 1000000000)) HD.out (by omega), by rw [Mth.drop_set_succ]; exact Mth.drop_succ_of HU.out, ?_, only_set hB _ _⟩
      rw [Mth.take_set_succ _ _ _ (by rw [HL.out]; exact HL2.out), Mth.val_snoc, List.length_take, Nat.min_eq_left (by rw [HL.out]; exact Nat.le_of_lt HL2.out), Mth.val_take_ge _ _ _ HKB.out, Mth.val_take_succ _ U _ HL2.out, HX.out, Nat.pow_succ]
      exact Mth.less_step 1000000000 (1000000000 ^ k) _ _ _ q cy x 0 (cy) _ 1 HV.out (by omega) (by omega)
     case measure => simp [intOf]; omega
    ·have hcm : (cy : Int) % 1000000000 ≤ (x : Int) := by omega
     clear hxy
     go_wp2
     have e1 : (x : Int) - (cy : Int) % 1000000000 = ((x - (cy) % 1000000000 : Nat) : Int) := by omega
     have e2 : (cy : Int) / 1000000000 = (((cy) / 1000000000 : Nat) : Int) := by omega
     go_roundw
     case rel =>
      refine ⟨k + 1, (cy) / 1000000000, W.set k (x - (cy) % 1000000000), by go_num, by rw [e2], by omega, by omega, by simp [HL.out], by rw [e1]; exact own3_set hown (by rw [HL.out]; exact HL2.out) _, Mth.mem_set_lt (d := x - (cy) % 1000000000) HD.out (by omega), by rw [Mth.drop_set_succ]; exact Mth.drop_succ_of HU.out, ?_, only_set hB _ _⟩
      rw [Mth.take_set_succ _ _ _ (by rw [HL.out]; exact HL2.out), Mth.val_snoc, List.length_take, Nat.min_eq_left (by rw [HL.out]; exact Nat.le_of_lt HL2.out), Mth.val_take_ge _ _ _ HKB.out, Mth.val_take_succ _ U _ HL2.out, HX.out, Nat.pow_succ]
      exact Mth.less_step 1000000000 (1000000000 ^ k) _ _ _ q cy x 0 (cy) _ 0 HV.out (by omega) (by omega)
     case measure => simp [intOf]; omega
  ·obtain rfl : k = U.length := by omega
   have hv := HV.out
   rw [List.take_of_length_le (by omega), List.take_of_length_le (by have := HUL.out; omega), List.take_length] at hv
   have HE := Lib.hid hv
   clear hv hl
   go_wp2
   go_ret
   exact ⟨W, cy, ret_bool (by simp), hown, HL.out, HD.out, HE.out, hB⟩
set_option maxHeartbeats 2000000 in
set_option maxRecDepth 100000 in
theorem more_any (P U S V : List Nat) (gu gv cu cv : Nat) (w : World) (hu : Own w gu (P ++ U ++ S)) (hv : Own w gv V) (hne : gv ≠ gu) (hxu : ∀ d ∈ U, d < 1000000000) (hxv : ∀ d ∈ V, d < 1000000000)
  (hul : U.length = V.length + 1) (_hs : V.length ≤ 1000000000000) (hcu : U.length ≤ cu) (hcu2 : cu ≤ 9000000000000) (_hcv : V.length ≤ cv) (_hcv2 : cv ≤ 9000000000000) (_hp : P.length ≤ 9000000000000) :
  Calls Tryz.prog 264 #[.slice (some ⟨gu, P.length, none⟩) U.length cu, .slice (some ⟨gv, 0, none⟩) V.length cv] w fun e w' => ∃ (W : List Nat) (cy : Nat), (∃ v, e = .returned v) ∧
   Own w' gu (P ++ W ++ S) ∧ W.length = U.length ∧ (∀ d ∈ W, d < 1000000000) ∧ Mth.val 1000000000 W + 1000000000 ^ U.length * cy = Mth.val 1000000000 U + Mth.val 1000000000 V ∧ w.grownBy w' (some gu) := by
 have HXU := Lib.hid hxu
 have HXV := Lib.hid hxv
 have HUL := Lib.hid hul
 have HOV := Lib.hid hv
 have hun : (V.length : Int) < U.length := by omega
 clear hxu hxv hul hv
 go_enter Tryz.func264, Tryz.ntmps264
 go_wp2
 go_loopw [4, 9] (fun a4 a9 wr => ∃ (k cy : Nat) (W : List Nat), a9 = .int .i64 k ∧ a4 = .int .u32 cy ∧ k ≤ U.length ∧ cy ≤ 1 ∧ W.length = U.length ∧ Own wr gu (P ++ W ++ S) ∧ (∀ d ∈ W, d < 1000000000) ∧ W.drop k = U.drop k ∧
  Mth.val 1000000000 (W.take k) + 1000000000 ^ k * cy = Mth.val 1000000000 (U.take k) + Mth.val 1000000000 (V.take k) ∧ w.grownBy wr (some gu)) (fun _ a9 _ => U.length - (intOf a9).toNat)
 case atStart => exact ⟨0, 0, U, rfl, rfl, by omega, by omega, rfl, hu, HXU.out, rfl, by simp [Mth.val], only_refl _ _⟩
 case round =>
  obtain ⟨k, cy, W, rfl, rfl, hk, hcy, hl, hown, hd, hdr, hvv, hB⟩ := hrel
  have HD := Lib.hid hd
  have HV := Lib.hid hvv
  have HL := Lib.hid hl
  have HU := Lib.hid hdr
  have hown2 := HOV.out.only hB hne
  clear hd hvv hdr
  by_cases hlt2 : k < U.length
  ·have hk2 : (k : Int) < (U.length : Int) := by omega
   have g0 := own3_cell hown (k := k) (by omega)
   have gf := hown.frozen (P.length + k)
   rw [Mth.getD_of_drop HU.out] at g0
   have b1 := Mth.getD_lt (by omega) HXU.out k
   obtain ⟨x, hx⟩ : ∃ x, U[k]?.getD 0 = x := ⟨_, rfl⟩
   rw [hx] at g0 b1
   have HX := Lib.hid hx
   have HL2 := Lib.hid hlt2
   clear hx hlt2 hl
   by_cases hkb : k < V.length
   ·have hkb2 : (k : Int) < (V.length : Int) := by omega
    have g2 := hown2.cell hkb
    have b2 := Mth.getD_lt (by omega) HXV.out k
    obtain ⟨y, hy⟩ : ∃ y, V[k]?.getD 0 = y := ⟨_, rfl⟩
    rw [hy] at g2 b2
    have HY := Lib.hid hy
    have HKB := Lib.hid hkb
    clear hy hkb
    go_wp2
    go_roundw
    case rel =>
     refine ⟨k + 1, (x + cy + y) / 1000000000, W.set k ((x + cy + y) % 1000000000), by go_num, rfl, by omega, by omega, by simp [HL.out], own3_set hown (by rw [HL.out]; exact HL2.out) _, Mth.mem_set_lt (d := (x + cy + y) % 1000000000) HD.out (by omega), by rw [Mth.drop_set_succ]; exact Mth.drop_succ_of HU.out, ?_, only_set hB _ _⟩
     rw [Mth.take_set_succ _ _ _ (by rw [HL.out]; exact HL2.out), Mth.val_snoc, List.length_take, Nat.min_eq_left (by rw [HL.out]; exact Nat.le_of_lt HL2.out), Mth.val_take_succ _ _ _ HKB.out, HY.out, Mth.val_take_succ _ U _ HL2.out, HX.out, Nat.pow_succ]
     exact Mth.add_step 1000000000 (1000000000 ^ k) _ _ _ cy x y (x + cy + y) (by omega) HV.out rfl
    case measure => simp [intOf]; omega
   ·have hkb2 : (V.length : Int) ≤ (k : Int) := by omega
    have HKB : Hid (V.length ≤ k) := Lib.hid (by omega)
    clear hkb
    go_wp2
    go_roundw
    case rel =>
     refine ⟨k + 1, (x + cy) / 1000000000, W.set k ((x + cy) % 1000000000), by go_num, rfl, by omega, by omega, by simp [HL.out], own3_set hown (by rw [HL.out]; exact HL2.out) _, Mth.mem_set_lt (d := (x + cy) % 1000000000) HD.out (by omega), by rw [Mth.drop_set_succ]; exact Mth.drop_succ_of HU.out, ?_, only_set hB _ _⟩
     rw [Mth.take_set_succ _ _ _ (by rw [HL.out]; exact HL2.out), Mth.val_snoc, List.length_take, Nat.min_eq_left (by rw [HL.out]; exact Nat.le_of_lt HL2.out), Mth.val_take_ge _ _ _ HKB.out, Mth.val_take_succ _ U _ HL2.out, HX.out, Nat.pow_succ]
     exact Mth.add_step 1000000000 (1000000000 ^ k) _ _ _ cy x 0 (x + cy) (by omega) HV.out (by omega)
    case measure => simp [intOf]; omega
  ·obtain rfl : k = U.length := by omega
   have hv := HV.out
   rw [List.take_of_length_le (by omega), List.take_of_length_le (by omega), List.take_of_length_le (by have := HUL.out; omega)] at hv
   have HE := Lib.hid hv
   clear hv hl
   go_wp2
   go_end0
   exact ⟨W, cy, ⟨_, rfl⟩, hown, HL.out, HD.out, HE.out, hB⟩
end Go.Proofs.YtkcdgaijklhnaaaGreatDoor
namespace Go.Proofs.YtkcdgaijklhnaaaGreatDoor
open Go.RowKit
set_option maxHeartbeats 4000000 in
set_option maxRecDepth 100000 in
theorem digit_any (P U S V : List Nat) (m gu gv cu cv : Nat) (w : World) (hu : Own w gu (P ++ U ++ S)) (hv : Own w gv V) (hne : gv ≠ gu) (hxu : ∀ d ∈ U, d < 1000000000) (hxv : ∀ d ∈ V, d < 1000000000)
  (hvl : V.length = m + 2) (hul : U.length = m + 3) (_hs : m ≤ 100000000000) (hcu : m + 3 ≤ cu) (hcu2 : cu ≤ 9000000000000) (hcv : m + 2 ≤ cv) (hcv2 : cv ≤ 9000000000000) (hp : P.length ≤ 9000000000000)
  (hv1 : 0 < V[m + 1]?.getD 0) (hlt : Mth.val 1000000000 U < 1000000000 * Mth.val 1000000000 V) :
  Calls Tryz.prog 228 #[.slice (some ⟨gu, P.length, none⟩) (m + 3 : Nat) cu, .slice (some ⟨gv, 0, none⟩) (m + 2 : Nat) cv] w fun e w' => ∃ (W : List Nat), e = .returned (.int .u64 ((Mth.val 1000000000 U / Mth.val 1000000000 V : Nat) : Int)) ∧
   Own w' gu (P ++ W ++ S) ∧ W.length = m + 3 ∧ (∀ d ∈ W, d < 1000000000) ∧ Mth.val 1000000000 W = Mth.val 1000000000 U % Mth.val 1000000000 V ∧ w.grownBy w' (some gu) := by
 have c0 := own3_cell hu (k := m + 2) (by omega)
 have c1 := own3_cell hu (k := m + 1) (by omega)
 have c2 := own3_cell hu (k := m) (by omega)
 have d1 := hv.cell (j := m + 1) (by omega)
 have d2 := hv.cell (j := m) (by omega)
 have b0 := Mth.getD_lt (by omega) hxu (m + 2)
 have b1 := Mth.getD_lt (by omega) hxu (m + 1)
 have b2 := Mth.getD_lt (by omega) hxu m
 have b3 := Mth.getD_lt (by omega) hxv (m + 1)
 have b4 := Mth.getD_lt (by omega) hxv m
 obtain ⟨u0, hu0⟩ : ∃ x, U[m + 2]?.getD 0 = x := ⟨_, rfl⟩
 obtain ⟨u1, hu1⟩ : ∃ x, U[m + 1]?.getD 0 = x := ⟨_, rfl⟩
 obtain ⟨u2, hu2⟩ : ∃ x, U[m]?.getD 0 = x := ⟨_, rfl⟩
 obtain ⟨v1, hv1'⟩ : ∃ x, V[m + 1]?.getD 0 = x := ⟨_, rfl⟩
 obtain ⟨v2, hv2'⟩ : ∃ x, V[m]?.getD 0 = x := ⟨_, rfl⟩
 rw [hu0] at c0 b0
 rw [hu1] at c1 b1
 rw [hu2] at c2 b2
 rw [hv1'] at d1 b3 hv1
 rw [hv2'] at d2 b4
 have HU0 := Lib.hid hu0
 have HU1 := Lib.hid hu1
 have HU2 := Lib.hid hu2
 have HV1 := Lib.hid hv1'
 have HV2 := Lib.hid hv2'
 have HXU := Lib.hid hxu
 have HXV := Lib.hid hxv
 have HUL := Lib.hid hul
 have HVL := Lib.hid hvl
 have HLT := Lib.hid hlt
 have HOU := Lib.hid hu
 have HOV := Lib.hid hv
 clear hu0 hu1 hu2 hv1' hv2' hxu hxv hul hvl hlt hu hv
 obtain ⟨ul, hul1, hul2⟩ := Mth.val_top3 (b := 1000000000) (by omega) HUL.out HXU.out
 obtain ⟨vl, hvl1, hvl2⟩ := Mth.val_top2 (b := 1000000000) (by omega) HVL.out HXV.out
 rw [HU0.out, HU1.out, HU2.out] at hul2
 rw [HV1.out, HV2.out] at hvl2
 obtain ⟨Q, hQ⟩ : ∃ Q, Mth.val 1000000000 U / Mth.val 1000000000 V = Q := ⟨_, rfl⟩
 have hQ9 : Q ≤ 999999999 := by
  have := Nat.div_lt_of_lt_mul (by rw [Nat.mul_comm]; exact HLT.out)
  rw [hQ] at this
  omega
 have HK : Hid (∀ q r, q * v1 + r = u0 * 1000000000 + u1 → r * 1000000000 + u2 < q * v2 → Q < q) := Lib.hid (by
  intro q r h1 h2
  have := Mth.knuth_lt (vl := vl) hul1 h1 h2
  rwa [← hul2, ← hvl2, hQ] at this)
 have HK3 : Hid (∀ q r, q ≤ 1000000000 → q * v1 + r = u0 * 1000000000 + u1 → q * v2 ≤ r * 1000000000 + u2 → q ≤ Q + 1) := Lib.hid (by
  intro q r h0 h1 h2
  have := Mth.knuth_ge (ul := ul) hvl1 (by omega) hv1 h0 h1 h2
  rwa [← hul2, ← hvl2, hQ] at this)
 have hQ1 : Q ≤ (u0 * 1000000000 + u1) / v1 := by
  rcases Mth.knuth_first (b := 1000000000) (u0 := u0) (u1 := u1) (u2 := u2) (vl := vl) (v2 := v2) hul1 hv1 with h | h
  ·rwa [← hul2, ← hvl2, hQ] at h
  ·omega
 have HQ := Lib.hid hQ
 clear hul1 hul2 hvl1 hvl2 hQ
 have hvz : ((v1 : Int) == 0) = false := by simpa using (by omega : ¬ (v1 : Int) = 0)
 -- the first trial digit
 have e0 : ((u0 : Int) * 1000000000 + u1) / (v1 : Int) = (((u0 * 1000000000 + u1) / v1 : Nat) : Int) := by rw [Int.natCast_ediv]; simp
 have hdm := Nat.div_add_mod (u0 * 1000000000 + u1) v1
 obtain ⟨q1, hq1⟩ : ∃ q1, (u0 * 1000000000 + u1) / v1 = q1 := ⟨_, rfl⟩
 obtain ⟨r1, hr1⟩ : ∃ r1, (u0 * 1000000000 + u1) % v1 = r1 := ⟨_, rfl⟩
 rw [hq1] at e0 hdm hQ1
 rw [hr1] at hdm
 rw [Nat.mul_comm] at hdm
 have hpc : ((q1 * v1 : Nat) : Int) = (q1 : Int) * v1 := by simp
 have E0 := Lib.hid e0
 have HDM := Lib.hid hdm
 have HPC := Lib.hid hpc
 clear hq1 hr1 hpc
 have t1 : ((u0 : Int) * 1000000000 + u1) / (v1 : Int) * v1 ≤ (u0 : Int) * 1000000000 + u1 := by
  rw [e0, ← HPC.out]; omega
 have t2 : 0 ≤ ((u0 : Int) * 1000000000 + u1) / (v1 : Int) * v1 := by
  rw [e0, ← HPC.out]; omega
 have hrest : ∀ (q0 r0 : Nat), q0 * v1 + r0 = u0 * 1000000000 + u1 → True := fun _ _ _ => trivial
 clear hrest
 rcases Nat.lt_or_ge 999999999 q1 with hmin | hmin
 ·have m1 : 999999999 < ((u0 : Int) * 1000000000 + u1) / (v1 : Int) := by rw [e0]; omega
  have m2 : 999999999 * (v1 : Int) ≤ (u0 : Int) * 1000000000 + u1 := by
   have : 999999999 * v1 ≤ q1 * v1 := Nat.mul_le_mul_right _ (by omega)
   omega
  clear e0 hdm hmin hQ1
  go_enter Tryz.func228, Tryz.ntmps228
  go_wp2
  go_quiet (fail)
  go_wp2
  go_loopw [7, 8] (fun a7 a8 wr => ∃ (q r nd : Nat), a7 = .int .u64 q ∧ a8 = .int .u64 r ∧ q * v1 + r = u0 * 1000000000 + u1 ∧ Q ≤ q ∧ q ≤ 999999999 ∧ wr = w.drewN nd) (fun _ a8 _ => (1000000000 - intOf a8).toNat)
  case atStart => exact ⟨999999999, u0 * 1000000000 + u1 - 999999999 * v1, _, rfl, by go_num, by omega, by omega, by omega, rfl⟩
  case round =>
   obtain ⟨q, r, nd, rfl, rfl, hqr, hq1, hq2, rfl⟩ := hrel
   have HQR := Lib.hid hqr
   have hr8 : (r : Int) ≤ (u0 : Int) * 1000000000 + u1 := by omega
   obtain ⟨X, hX⟩ : ∃ X, q * v2 = X := ⟨_, rfl⟩
   obtain ⟨Y, hY⟩ : ∃ Y, r * 1000000000 = Y := ⟨_, rfl⟩
   have hX9 : X ≤ 999999999 * 999999999 := by rw [← hX]; exact Nat.mul_le_mul (by omega) (by omega)
   have x1 : (q : Int) * (v2 : Int) = (X : Int) := by rw [← hX]; simp
   have y1 : (r : Int) * 1000000000 = (Y : Int) := by rw [← hY]; simp
   have x2 : (X : Int) < 1000000000000000000 := by omega
   have PX := Lib.hid hX
   have PY := Lib.hid hY
   clear hX hY hX9 hqr t1 t2 m1 m2
   by_cases hg : r < 1000000000 ∧ r * 1000000000 + u2 < q * v2
   ·obtain ⟨hg1, hg2⟩ := hg
    have hQq := HK.out q r HQR.out hg2
    rw [PX.out, PY.out] at hg2
    have hg3 : (Y : Int) + u2 < (X : Int) := by omega
    have hgb : decide ((r : Int) < 1000000000) = true := by simp; omega
    have y2 : (Y : Int) < 1000000000000000000 := by have := PY.out; omega
    clear hg2
    go_wp2
    go_quiet (fail)
    go_wp2
    go_roundw
    case rel =>
     refine ⟨q - 1, r + v1, _, by go_num, rfl, ?_, by omega, by omega, rfl⟩
     have h := HQR.out
     obtain ⟨p, rfl⟩ : ∃ p, q = p + 1 := ⟨q - 1, by omega⟩
     rw [Nat.succ_mul] at h
     rw [Nat.add_sub_cancel]
     omega
    case measure => simp [intOf]; omega
   ·have hle : q * v2 ≤ r * 1000000000 + u2 := by
     rcases Nat.lt_or_ge r 1000000000 with h | h
     ·rcases Nat.lt_or_ge (r * 1000000000 + u2) (q * v2) with h2 | h2
      ·exact absurd ⟨h, h2⟩ hg
      ·exact h2
     ·have h3 : q * v2 ≤ 999999999 * 999999999 := Nat.mul_le_mul (by omega) (by omega)
      omega
    have hQ2 := HK3.out q r (by omega) HQR.out hle
    rw [PX.out, PY.out] at hle
    have hle3 : (X : Int) ≤ (Y : Int) + u2 := by omega
    have hle4 : decide ((Y : Int) + u2 < (X : Int)) = false := by simp; omega
    clear hg hle
    have hless := less_any P U S V q gu gv cu cv
    rw [HUL.out, HVL.out] at hless
    have HLESS := Lib.hid hless
    clear hless
    rcases (show (decide ((r : Int) < 1000000000) = true ∧ r < 1000000000) ∨ decide ((r : Int) < 1000000000) = false by
     rcases Nat.lt_or_ge r 1000000000 with h | h
     ·left; simp; omega
     ·right; simp; omega) with ⟨hr9, hr8'⟩ | hr9
    all_goals
     (try have y2 : (Y : Int) < 1000000000000000000 := by have := PY.out; omega)
     (try clear hr8')
     go_wp2
     go_quiet (fail)
     have HQQ2 := Lib.hid hq2
     have HQQ1 := Lib.hid hq1
     have HH2 := Lib.hid hQ2
     (try clear hr9)
     (try clear y2)
     clear hq1 hq2 hQ2 x1 y1 hle3 hle4 b0 b1 b2 b3 b4 x2 hr8
     go_wp2_with (go_at_call 263; refine (HLESS.out _ (HOU.out.drewN _) (HOV.out.drewN _) hne HXU.out HXV.out (by first | exact trivial | omega) (by have := HQQ2.out; omega) (by omega) hcu hcu2 hcv hcv2 hp).mono ?_; rintro e w1 ⟨W, cy, rfl, ho1, hl1, hd1, hval1, hg1⟩; have HV1E := Lib.hid hval1; have HL1 := Lib.hid hl1; have HD1 := Lib.hid hd1; have HO1 := Lib.hid ho1; have HG1 := Lib.hid hg1; clear hval1 hl1 hd1 ho1 hg1)
     ·have hcy : 0 < cy := by assumption
      have hmore := more_any P W S V gu gv cu cv
      rw [HL1.out, HVL.out] at hmore
      have HMORE := Lib.hid hmore
      have HCY := Lib.hid hcy
      clear hmore hcy
      refine (HMORE.out _ HO1.out (((HOV.out.drewN _).only HG1.out hne)) hne HD1.out HXV.out (by first | exact trivial | omega) (by omega) hcu hcu2 hcv hcv2 hp).mono ?_
      rintro e w2 ⟨W2, cy2, ⟨vv, rfl⟩, ho2, hl2, hd2, hval2, hg2⟩
      have hW := Mth.val_lt (b := 1000000000) (by omega) W HD1.out
      have hW2 := Mth.val_lt (b := 1000000000) (by omega) W2 hd2
      have hVV := Mth.val_lt (b := 1000000000) (by omega) V HXV.out
      rw [HL1.out] at hW
      rw [hl2] at hW2
      rw [HVL.out] at hVV
      have hV0 : 0 < Mth.val 1000000000 V := by
       rcases Nat.eq_zero_or_pos (Mth.val 1000000000 V) with h | h
       ·have := HLT.out; rw [h] at this; omega
       ·exact h
      have hpw : 1000000000 ^ (m + 2) ≤ 1000000000 ^ (m + 3) := Nat.pow_le_pow_right (by omega) (by omega)
      obtain ⟨k1, k2⟩ := Mth.digit_neg HQ.out hV0 HV1E.out HCY.out hW hW2 (by omega) HH2.out hval2
      have K1 := Lib.hid k1
      have K2 := Lib.hid k2
      have HG2 := Lib.hid hg2
      have HO2 := Lib.hid ho2
      have HL2 := Lib.hid hl2
      have HD2 := Lib.hid hd2
      have hq9 : IntKind.u64.wrap ((q : Int) - 1) = (Q : Int) := by
       rw [k1, IntKind.wrap_u64]; have := HQQ2.out; omega
      have HQ9 := Lib.hid hq9
      clear hW hW2 hVV hV0 hpw k1 k2 hval2 hq9 hg2 ho2 hl2 hd2
      go_wp2
      go_ret
      refine ⟨W2, ret_int ?_, HO2.out, HL2.out, HD2.out, K2.out, only_trans (only_trans (only_drewN (only_refl w _) _) HG1.out) HG2.out⟩
      rw [HQ9.out, HQ.out]
     ·have hcy : ¬ 0 < cy := by first | assumption | omega
      obtain rfl : cy = 0 := by omega
      have hval := HV1E.out
      rw [Nat.mul_zero, Nat.add_zero] at hval
      have hV0 : 0 < Mth.val 1000000000 V := by
       rcases Nat.eq_zero_or_pos (Mth.val 1000000000 V) with h | h
       ·have := HLT.out; rw [h] at this; omega
       ·exact h
      obtain ⟨k1, k2⟩ := Mth.digit_pos HQ.out hV0 hval HQQ1.out
      go_ret
      refine ⟨W, ret_int ?_, HO1.out, HL1.out, HD1.out, k2, only_trans (only_drewN (only_refl w _) _) HG1.out⟩
      rw [HQ.out, k1]
 ·have m1 : ((u0 : Int) * 1000000000 + u1) / (v1 : Int) ≤ 999999999 := by rw [e0]; omega
  have hmin2 : q1 ≤ 999999999 := hmin
  clear e0 hdm hmin
  go_enter Tryz.func228, Tryz.ntmps228
  go_wp2
  go_quiet (fail)
  go_wp2
  go_loopw [7, 8] (fun a7 a8 wr => ∃ (q r nd : Nat), a7 = .int .u64 q ∧ a8 = .int .u64 r ∧ q * v1 + r = u0 * 1000000000 + u1 ∧ Q ≤ q ∧ q ≤ 999999999 ∧ wr = w.drewN nd) (fun _ a8 _ => (1000000000 - intOf a8).toNat)
  case atStart => exact ⟨q1, r1, _, by rw [E0.out], by rw [E0.out]; have := HDM.out; have := HPC.out; congr 1; omega, HDM.out, hQ1, hmin2, rfl⟩
  case round =>
   obtain ⟨q, r, nd, rfl, rfl, hqr, hq1, hq2, rfl⟩ := hrel
   have HQR := Lib.hid hqr
   have hr8 : (r : Int) ≤ (u0 : Int) * 1000000000 + u1 := by omega
   obtain ⟨X, hX⟩ : ∃ X, q * v2 = X := ⟨_, rfl⟩
   obtain ⟨Y, hY⟩ : ∃ Y, r * 1000000000 = Y := ⟨_, rfl⟩
   have hX9 : X ≤ 999999999 * 999999999 := by rw [← hX]; exact Nat.mul_le_mul (by omega) (by omega)
   have x1 : (q : Int) * (v2 : Int) = (X : Int) := by rw [← hX]; simp
   have y1 : (r : Int) * 1000000000 = (Y : Int) := by rw [← hY]; simp
   have x2 : (X : Int) < 1000000000000000000 := by omega
   have PX := Lib.hid hX
   have PY := Lib.hid hY
   clear hX hY hX9 hqr t1 t2 m1
   by_cases hg : r < 1000000000 ∧ r * 1000000000 + u2 < q * v2
   ·obtain ⟨hg1, hg2⟩ := hg
    have hQq := HK.out q r HQR.out hg2
    rw [PX.out, PY.out] at hg2
    have hg3 : (Y : Int) + u2 < (X : Int) := by omega
    have hgb : decide ((r : Int) < 1000000000) = true := by simp; omega
    have y2 : (Y : Int) < 1000000000000000000 := by have := PY.out; omega
    clear hg2
    go_wp2
    go_quiet (fail)
    go_wp2
    go_roundw
    case rel =>
     refine ⟨q - 1, r + v1, _, by go_num, rfl, ?_, by omega, by omega, rfl⟩
     have h := HQR.out
     obtain ⟨p, rfl⟩ : ∃ p, q = p + 1 := ⟨q - 1, by omega⟩
     rw [Nat.succ_mul] at h
     rw [Nat.add_sub_cancel]
     omega
    case measure => simp [intOf]; omega
   ·have hle : q * v2 ≤ r * 1000000000 + u2 := by
     rcases Nat.lt_or_ge r 1000000000 with h | h
     ·rcases Nat.lt_or_ge (r * 1000000000 + u2) (q * v2) with h2 | h2
      ·exact absurd ⟨h, h2⟩ hg
      ·exact h2
     ·have h3 : q * v2 ≤ 999999999 * 999999999 := Nat.mul_le_mul (by omega) (by omega)
      omega
    have hQ2 := HK3.out q r (by omega) HQR.out hle
    rw [PX.out, PY.out] at hle
    have hle3 : (X : Int) ≤ (Y : Int) + u2 := by omega
    have hle4 : decide ((Y : Int) + u2 < (X : Int)) = false := by simp; omega
    clear hg hle
    have hless := less_any P U S V q gu gv cu cv
    rw [HUL.out, HVL.out] at hless
    have HLESS := Lib.hid hless
    clear hless
    rcases (show (decide ((r : Int) < 1000000000) = true ∧ r < 1000000000) ∨ decide ((r : Int) < 1000000000) = false by
     rcases Nat.lt_or_ge r 1000000000 with h | h
     ·left; simp; omega
     ·right; simp; omega) with ⟨hr9, hr8'⟩ | hr9
    all_goals
     (try have y2 : (Y : Int) < 1000000000000000000 := by have := PY.out; omega)
     (try clear hr8')
     go_wp2
     go_quiet (fail)
     have HQQ2 := Lib.hid hq2
     have HQQ1 := Lib.hid hq1
     have HH2 := Lib.hid hQ2
     (try clear hr9)
     (try clear y2)
     clear hq1 hq2 hQ2 x1 y1 hle3 hle4 b0 b1 b2 b3 b4 x2 hr8
     go_wp2_with (go_at_call 263; refine (HLESS.out _ (HOU.out.drewN _) (HOV.out.drewN _) hne HXU.out HXV.out (by first | exact trivial | omega) (by have := HQQ2.out; omega) (by omega) hcu hcu2 hcv hcv2 hp).mono ?_; rintro e w1 ⟨W, cy, rfl, ho1, hl1, hd1, hval1, hg1⟩; have HV1E := Lib.hid hval1; have HL1 := Lib.hid hl1; have HD1 := Lib.hid hd1; have HO1 := Lib.hid ho1; have HG1 := Lib.hid hg1; clear hval1 hl1 hd1 ho1 hg1)
     ·have hcy : 0 < cy := by assumption
      have hmore := more_any P W S V gu gv cu cv
      rw [HL1.out, HVL.out] at hmore
      have HMORE := Lib.hid hmore
      have HCY := Lib.hid hcy
      clear hmore hcy
      refine (HMORE.out _ HO1.out (((HOV.out.drewN _).only HG1.out hne)) hne HD1.out HXV.out (by first | exact trivial | omega) (by omega) hcu hcu2 hcv hcv2 hp).mono ?_
      rintro e w2 ⟨W2, cy2, ⟨vv, rfl⟩, ho2, hl2, hd2, hval2, hg2⟩
      have hW := Mth.val_lt (b := 1000000000) (by omega) W HD1.out
      have hW2 := Mth.val_lt (b := 1000000000) (by omega) W2 hd2
      have hVV := Mth.val_lt (b := 1000000000) (by omega) V HXV.out
      rw [HL1.out] at hW
      rw [hl2] at hW2
      rw [HVL.out] at hVV
      have hV0 : 0 < Mth.val 1000000000 V := by
       rcases Nat.eq_zero_or_pos (Mth.val 1000000000 V) with h | h
       ·have := HLT.out; rw [h] at this; omega
       ·exact h
      have hpw : 1000000000 ^ (m + 2) ≤ 1000000000 ^ (m + 3) := Nat.pow_le_pow_right (by omega) (by omega)
      obtain ⟨k1, k2⟩ := Mth.digit_neg HQ.out hV0 HV1E.out HCY.out hW hW2 (by omega) HH2.out hval2
      have K1 := Lib.hid k1
      have K2 := Lib.hid k2
      have HG2 := Lib.hid hg2
      have HO2 := Lib.hid ho2
      have HL2 := Lib.hid hl2
      have HD2 := Lib.hid hd2
      have hq9 : IntKind.u64.wrap ((q : Int) - 1) = (Q : Int) := by
       rw [k1, IntKind.wrap_u64]; have := HQQ2.out; omega
      have HQ9 := Lib.hid hq9
      clear hW hW2 hVV hV0 hpw k1 k2 hval2 hq9 hg2 ho2 hl2 hd2
      go_wp2
      go_ret
      refine ⟨W2, ret_int ?_, HO2.out, HL2.out, HD2.out, K2.out, only_trans (only_trans (only_drewN (only_refl w _) _) HG1.out) HG2.out⟩
      rw [HQ9.out, HQ.out]
     ·have hcy : ¬ 0 < cy := by first | assumption | omega
      obtain rfl : cy = 0 := by omega
      have hval := HV1E.out
      rw [Nat.mul_zero, Nat.add_zero] at hval
      have hV0 : 0 < Mth.val 1000000000 V := by
       rcases Nat.eq_zero_or_pos (Mth.val 1000000000 V) with h | h
       ·have := HLT.out; rw [h] at this; omega
       ·exact h
      obtain ⟨k1, k2⟩ := Mth.digit_pos HQ.out hV0 hval HQQ1.out
      go_ret
      refine ⟨W, ret_int ?_, HO1.out, HL1.out, HD1.out, k2, only_trans (only_drewN (only_refl w _) _) HG1.out⟩
      rw [HQ.out, k1]
end Go.Proofs.YtkcdgaijklhnaaaGreatDoor
namespace Go.Proofs.YtkcdgaijklhnaaaGreatDoor
open Go.RowKit
set_option maxHeartbeats 1000000 in
set_option maxRecDepth 100000 in
theorem div_less (m n : Nat) (va vb : Value) (w : World) (ha : Nt w va m) (hb : Nt w vb n) (hs : (Mth.dg 1000000000 m).length ≤ 100000000000) (ht : (Mth.dg 1000000000 n).length ≤ 100000000000) (hlt : m < n) :
  Calls Tryz.prog 180 #[va, vb] w fun e w' => ∃ vq vr, e = .returned (.tuple #[vq, vr]) ∧ Below w.heap.size w w' ∧ Nt w' vq (m / n) ∧ Nt w' vr (m % n) := by
 have hcmp := cmp_any m n va vb w ha hb (by omega) (by omega)
 rw [Mth.cmp_lt hlt] at hcmp
 have hq : m / n = 0 := Nat.div_eq_of_lt hlt
 have hr : m % n = m := Nat.mod_eq_of_lt hlt
 rw [hq, hr]
 have HC := Lib.hid hcmp
 have HA := Lib.hid ha
 clear hcmp hq hr hb ha
 go_enter Tryz.func180, Tryz.ntmps180
 go_wp2_with fail
 refine HC.out.mono ?_
 rintro e w1 ⟨rfl, k, rfl⟩
 go_wp2_with (go_at_call 179; refine (clone_any (Mth.dg 1000000000 m) va _ (Sl.drewN HA.out _) (by omega)).mono ?_; rintro e w2 ⟨v', rfl, hB, hS⟩)
 go_ret2
 exact ⟨_, _, rfl, (below_drewN (Below.refl _ _) k).trans hB, by unfold Nt; rw [Mth.dg_zero]; exact Sl.nil_ _, hS⟩
set_option maxHeartbeats 1000000 in
set_option maxRecDepth 100000 in
theorem div_short (m n : Nat) (va vb : Value) (w : World) (ha : Nt w va m) (hb : Nt w vb n) (hs : (Mth.dg 1000000000 m).length ≤ 100000000000) (hge : n ≤ m) (hn0 : 0 < n) (hn1 : n < 1000000000) :
  Calls Tryz.prog 180 #[va, vb] w fun e w' => ∃ vq vr, e = .returned (.tuple #[vq, vr]) ∧ Below w.heap.size w w' ∧ Nt w' vq (m / n) ∧ Nt w' vr (m % n) := by
 have hd1 := Mth.dg_one (b := 1000000000) (by omega) hn0 hn1
 have hcmp := cmp_any m n va vb w ha hb (by omega) (by rw [hd1]; simp)
 have hb' := hb
 unfold Nt at hb'
 rw [hd1] at hb'
 obtain ⟨A', c', rfl, h1', h2', h3'⟩ := hb'
 obtain ⟨b, o, rfl, h4⟩ := h3' (by simp [u32s])
 have hc := h4 0 _ (u32s_at (by simp))
 simp only [List.getElem?_cons_zero, Option.getD_some, Nat.add_zero] at hc
 have hc2 : -1 < Mth.cmp m n := by
  rcases Nat.lt_or_ge n m with h | h
  ·rw [Mth.cmp_gt h]; omega
  ·obtain rfl : m = n := by omega
   rw [Mth.cmp_eq]; omega
 obtain ⟨cm, hcm⟩ : ∃ cm, Mth.cmp m n = cm := ⟨_, rfl⟩
 rw [hcm] at hcmp hc2
 have hc3 : 0 ≤ cm := by omega
 have HC := Lib.hid hcmp
 have HA := Lib.hid ha
 have HM := Lib.hid hge
 have hlen : (u32s [n]).length = 1 := rfl
 rw [hlen]
 have HCM := HC.out
 rw [hlen] at HCM
 have HC2 := Lib.hid HCM
 clear hcmp hb ha hd1 h4 h3' HC hge hcm h1' hlen HCM hc2
 go_enter Tryz.func180, Tryz.ntmps180
 go_wp2_with fail
 refine HC2.out.mono ?_
 rintro e w1 ⟨rfl, k, rfl⟩
 go_wp2_with (go_at_call 226; refine (short_list (Mth.dg 1000000000 m) n (Mth.dg_lt (by omega) m) va _ (Sl.drewN HA.out _) (by omega) hn0 (by omega)).mono ?_; rintro e w2 ⟨v', rfl, hB, hS⟩)
 rw [Mth.val_dg (by omega)] at *
 have HS := Lib.hid hS
 have HB2 := Lib.hid hB
 clear hS hB
 have hml : m % n < n := Nat.mod_lt _ hn0
 go_wp2_with (go_at_call 182; refine (of_any (m % n) _ (by omega)).mono ?_; rintro e w3 ⟨v3, rfl, hN, hB3⟩)
 go_ret2
 exact ⟨_, _, rfl, ((below_drewN (Below.refl _ _) k).trans HB2.out).trans (hB3.mono HB2.out.size), HS.out.below hB3, hN⟩
set_option maxHeartbeats 4000000 in
set_option maxRecDepth 100000 in
theorem div_long (la lb : List Nat) (m n k t g na N : Nat) (va vb : Value) (w : World) (ha : Sl w va (u32s la)) (hb : Sl w vb (u32s lb)) (hna : la.length = na) (hk : lb.length = k + 2) (hN : na = k + 1 + N) (hN0 : 0 < N) (hs : na ≤ 100000000000)
  (hdm : ∀ d ∈ la, d < 1000000000) (hdn : ∀ d ∈ lb, d < 1000000000) (hvm : Mth.val 1000000000 la = m) (hvn : Mth.val 1000000000 lb = n) (ht : lb[k + 1]?.getD 0 = t)
  (htb : t < 1000000000) (hgi : (1000000000 : Int) / ((t : Int) + 1) = (g : Int)) (hg0 : 0 < g) (hg1 : g ≤ 1000000000) (hfu : Mth.val 1000000000 la * g < 1000000000 ^ (na + 1)) (hfv : Mth.val 1000000000 lb * g < 1000000000 ^ (k + 2))
  (hst : m * g < n * g * 1000000000 ^ N) (htop : ∀ V : List Nat, V.length = k + 2 → (∀ d ∈ V, d < 1000000000) → Mth.val 1000000000 V = n * g → 0 < V[k + 1]?.getD 0) (hng : 0 < n * g) (hngp : n * g < 1000000000 ^ (k + 2))
  (cm : Int) (hc3 : 0 ≤ cm) (hcmp : Calls Tryz.prog 207 #[va, vb] w fun e w' => e = .returned (.int .i64 cm) ∧ ∃ k, w' = w.drewN k) :
  Calls Tryz.prog 180 #[va, vb] w fun e w' => ∃ vq vr, e = .returned (.tuple #[vq, vr]) ∧ Below w.heap.size w w' ∧ Nt w' vq (m / n) ∧ Nt w' vr (m % n) := by
 have HA := Lib.hid ha
 have HB := Lib.hid hb
 obtain ⟨A, c, rfl, h1, h2, h3⟩ := ha
 obtain ⟨A', c', rfl, h1', h2', h3'⟩ := hb
 simp only [u32s_length] at *
 obtain ⟨b', o', rfl, hc⟩ := h3' (by omega)
 have hb1 := hc (k + 1) _ (u32s_at (by omega))
 rw [ht] at hb1
 have hn1 : (na : Int) = (k : Int) + 1 + (N : Int) := by omega
 rw [hk, hna]
 rw [hk] at h1' hcmp
 rw [hna] at h1 hcmp
 have HNA := Lib.hid hna
 have HK := Lib.hid hk
 have HC := Lib.hid hcmp
 have HFU := Lib.hid hfu
 have HFV := Lib.hid hfv
 have HVN := Lib.hid hvn
 have HVM := Lib.hid hvm
 have HDN := Lib.hid hdn
 have HDM := Lib.hid hdm
 have HST := Lib.hid hst
 have HTOP := Lib.hid htop
 have HNG := Lib.hid hng
 have HNGP := Lib.hid hngp
 have hN2 : (na : Int) - ((k : Int) + 2) + 1 = (N : Int) := by omega
 have HN1 := Lib.hid hn1
 have hle1 : (k : Int) + 2 ≤ (na : Int) := by omega
 have hle2 : (N : Int) ≤ (na : Int) := by omega
 have hmk := run_make_row' (P := Tryz.prog) 159 148 (.int .u32 0) 4 Tryz.underlying159 info_u32 rfl .i64 .i64 N (by omega) (by omega)
 have HMK := Lib.hid hmk
 clear hcmp hfu hfv hvn hvm hdn hdm hst htop hng hngp h3 h3' hc ht hk hna hN hn1 hmk
 go_enter Tryz.func180, Tryz.ntmps180
 go_wp2_with fail
 refine HC.out.mono ?_
 rintro e w1 ⟨rfl, dr, rfl⟩
 go_wp2_with fail
 have hs1 := scaled_list la g (na + 1) HDM.out _ (w.drewN dr) (HA.out.drewN dr) (by rw [HNA.out]; omega) hg0 hg1 (by rw [HNA.out]; omega) (by omega) HFU.out
 simp only [Int.natCast_add, Int.natCast_one] at hs1
 rw [HNA.out] at hs1
 refine hs1.mono ?_
 clear hs1
 rintro e w1 ⟨U0, rfl, hB1, hO1, hl1, hd1, hv1⟩
 have hB1' : Below w.heap.size w w1 := (below_drewN (Below.refl _ _) dr).trans hB1
 have hs2 := scaled_list lb g (k + 2) HDN.out _ w1 (HB.out.below hB1') (by rw [HK.out]; omega) hg0 hg1 (by rw [HK.out]; exact Nat.le_refl _) (by omega) HFV.out
 simp only [Int.natCast_add, Int.cast_ofNat_Int] at hs2
 rw [HK.out] at hs2
 have HS2 := Lib.hid hs2
 have HO1 := Lib.hid hO1
 have HL1 := Lib.hid hl1
 have HD1 := Lib.hid hd1
 have HV1 := Lib.hid hv1
 have HB1 := Lib.hid hB1'
 have hz1 := hB1'.size
 have hz0 := hO1.lt
 clear hs2 hO1 hl1 hd1 hv1 hB1 hB1'
 go_wp2_with fail
 refine HS2.out.mono ?_
 rintro e w2 ⟨V, rfl, hB2, hO2, hl2, hd2, hv2⟩
 have HVT := Lib.hid (HTOP.out V hl2 hd2 (by rw [hv2, HVN.out]))
 have HO2 := Lib.hid hO2
 have HL2 := Lib.hid hl2
 have HD2 := Lib.hid hd2
 have HV2 := Lib.hid (hv2.trans (by rw [HVN.out]))
 have HB2 := Lib.hid hB2
 have hz2 := hB2.size
 have hz3 := hO2.lt
 clear hO2 hl2 hd2 hv2 hB2
 have hmk := HMK.out
 go_wp2_with fail
 clear hmk
 have hzu : w.heap.size < w1.heap.size := by have := hz0; simp at this; exact this
 go_loopw [12] (fun a12 wr => ∃ (i : Int) (U O : List Nat), a12 = .int .i64 i ∧ -1 ≤ i ∧ i < N ∧ U.length = na + 1 ∧ O.length = N ∧ Own wr w.heap.size U ∧ Own wr w1.heap.size V ∧ Own wr w2.heap.size O ∧
  (∀ d ∈ U, d < 1000000000) ∧ (∀ d ∈ O, d < 1000000000) ∧ m * g = n * g * 1000000000 ^ (i + 1).toNat * Mth.val 1000000000 (O.drop (i + 1).toNat) + Mth.val 1000000000 U ∧
  Mth.val 1000000000 U < n * g * 1000000000 ^ (i + 1).toNat ∧ Below w.heap.size w wr) (fun a12 _ => (intOf a12 + 1).toNat)
 case atStart =>
  have hb2 := HB2.out
  refine ⟨(N : Int) - 1, U0, List.replicate N 0, rfl, by omega, by omega, HL1.out, by simp, ?_, HO2.out.alloc _, Own.made w2 N, HD1.out, by simp, ?_, ?_, ((HB1.out.trans (hb2.mono (by omega))).alloc (by omega) _)⟩
  ·exact (HO1.out.below hb2 hzu).alloc _
  ·rw [show ((N : Int) - 1 + 1).toNat = N by omega, List.drop_eq_nil_of_le (by simp), HV1.out, HVM.out]
   simp only [Mth.val, Nat.mul_zero, Nat.zero_add]
  ·rw [show ((N : Int) - 1 + 1).toNat = N by omega, HV1.out, HVM.out]
   exact HST.out
 case round =>
  obtain ⟨i, U, O, rfl, hi1, hi2, hlU, hlO, hoU, hoV, hoO, hdU, hdO, hA, hU, hB⟩ := hrel
  have HLU := Lib.hid hlU
  have HLO := Lib.hid hlO
  have HDU := Lib.hid hdU
  have HDO := Lib.hid hdO
  have HAA := Lib.hid hA
  have HU := Lib.hid hU
  have hBs := hB.size
  clear hdU hdO hA hU
  by_cases h0 : i < 0
  ·obtain rfl : i = -1 := by omega
   have hA0 := HAA.out
   have hU0 := HU.out
   simp only [Int.reduceNeg, Int.reduceAdd, Int.toNat_zero, List.drop_zero, Nat.pow_zero, Nat.mul_one] at hA0 hU0
   obtain ⟨f1, f2⟩ := Mth.div_end hg0 hA0 hU0
   have F1 := Lib.hid f1
   have F2 := Lib.hid f2
   have hcut := Mth.val_take_lt (b := 1000000000) (by omega) (l := U) (k := k + 2) (by have := HNGP.out; omega)
   have HCUT := Lib.hid hcut
   have hslu := hoU.sl (c := na + 1) (by omega) (by unfold maxLen; omega)
   rw [HLU.out] at hslu
   have hslu2 := hslu.head (k := k + 2) (by rw [u32s_length, HLU.out]; omega)
   have hslo := hoO.sl (c := N) (by omega) (by unfold maxLen; omega)
   rw [HLO.out] at hslo
   rw [u32s, ← List.map_take] at hslu2
   have HSU := Lib.hid hslu2
   have HSO := Lib.hid hslo
   have hzo : (2 : Int) + k ≤ (na : Int) + 1 := by omega
   clear hA0 hU0 f1 f2 hcut hslu hslu2 hslo hlU hlO h0 hi1 hi2
   go_wp2_with fail
   refine (trim_any (U.take (k + 2)) _ _ HSU.out (by rw [List.length_take, HLU.out]; omega)).mono ?_
   rintro e w' ⟨vt, rfl, hS, rfl⟩
   have HST2 := Lib.hid hS
   clear hS
   go_wp2_with fail
   have htl : (Mth.tidy (U.take (k + 2))).length ≤ k + 2 := by
    have := Mth.tidy_len (U.take (k + 2))
    rw [List.length_take] at this
    omega
   have hsh := short_list (Mth.tidy (U.take (k + 2))) g (fun d hd => HDU.out d (List.mem_of_mem_take (Mth.tidy_mem hd))) vt _ HST2.out (by omega) hg0 hg1
   rw [Mth.val_tidy 1000000000 _ (U.take (k + 2)) rfl, HCUT.out, F2.out] at hsh
   refine hsh.mono ?_
   clear hsh htl
   rintro e w4 ⟨vr, rfl, hB4, hN4⟩
   have HN4 := Lib.hid hN4
   have HB4 := Lib.hid hB4
   have HSO4 := Lib.hid (HSO.out.below hB4)
   clear hN4 hB4
   go_wp2_with fail
   refine (trim_any O _ _ HSO4.out (by rw [HLO.out]; omega)).mono ?_
   rintro e w' ⟨vq, rfl, hS, rfl⟩
   have HQ := Lib.hid hS
   clear hS
   go_wp2
   go_ret2
   refine ⟨vq, vr, rfl, hB.trans (HB4.out.mono hBs), ?_, HN4.out⟩
   unfold Nt
   rw [← F1.out, ← Mth.tidy_eq (by omega) O HDO.out]
   exact HQ.out
  ·obtain ⟨q, rfl⟩ : ∃ q : Nat, i = q := ⟨i.toNat, by omega⟩
   have hq9 : q + (k + 2 + 1) ≤ U.length := by have := HN1.out; omega
   have HQ9 := Lib.hid hq9
   have hqa : (q : Int) + k + 3 ≤ (na : Int) + 1 := by have := HN1.out; omega
   have g0 := hoO.cell (j := q) (by omega)
   have gf := hoO.frozen q
   obtain ⟨z, hz⟩ : ∃ z, O[q]?.getD 0 = z := ⟨_, rfl⟩
   rw [hz] at g0
   clear hz hlU hlO hq9
   have hU0 := HU.out
   have hA0 := HAA.out
   rw [show ((q : Int) + 1).toNat = q + 1 by omega] at hU0 hA0
   obtain ⟨hp1, hp2⟩ := Mth.div_pre (b := 1000000000) (by omega) HQ9.out HNGP.out hU0
   have hmidl : ((U.drop q).take (k + 2 + 1)).length = k + 3 := by
    have := HQ9.out
    rw [List.length_take, List.length_drop]; omega
   have hdig := digit_any (U.take q) ((U.drop q).take (k + 2 + 1)) (U.drop (q + (k + 2 + 1))) V k w.heap.size w1.heap.size (na + 1 - q) (k + 2) wr (by rw [Mth.cut3]; exact hoU) hoV (by omega)
    (fun d hd => HDU.out d (List.mem_of_mem_drop (List.mem_of_mem_take hd))) HD2.out HL2.out hmidl (by omega) (by have := HN1.out; omega) (by omega) (Nat.le_refl _) (by omega) (by rw [List.length_take]; omega) HVT.out
    (by rw [HV2.out]; exact hp1)
   rw [List.length_take, Nat.min_eq_left (by have := HQ9.out; omega), HV2.out] at hdig
   have hQ9 : Mth.val 1000000000 ((U.drop q).take (k + 2 + 1)) / (n * g) < 1000000000 := Nat.div_lt_of_lt_mul (by rw [Nat.mul_comm]; exact hp1)
   obtain ⟨Qd, hQd⟩ : ∃ x, Mth.val 1000000000 ((U.drop q).take (k + 2 + 1)) / (n * g) = x := ⟨_, rfl⟩
   rw [hQd] at hdig hQ9
   have HDG := Lib.hid hdig
   have HQD := Lib.hid hQd
   have HP2 := Lib.hid hp2
   have HA0 := Lib.hid hA0
   clear hU0 hA0 hp1 hp2 hmidl hdig hQd
   go_wp2_with fail
   rw [show q + (k + 2) + 1 - q = k + 3 by omega]
   refine HDG.out.mono ?_
   rintro e w3 ⟨W, rfl, hoW, hlW, hdW, hvW, hg3⟩
   have hcO := (hoO.only hg3 (by omega)).cell (j := q) (by rw [HLO.out]; omega)
   have hfO := (hoO.only hg3 (by omega)).frozen q
   obtain ⟨z2, hz2⟩ : ∃ z, O[q]?.getD 0 = z := ⟨_, rfl⟩
   rw [hz2] at hcO
   have HOW := Lib.hid hoW
   have HLW := Lib.hid hlW
   have HDW := Lib.hid hdW
   have HVW := Lib.hid hvW
   have HG3 := Lib.hid hg3
   have hz4 := hg3.size
   clear hoW hlW hdW hvW hg3 hz2 g0 gf
   go_wp2
   go_roundw
   case rel =>
    have hr := Mth.div_round (b := 1000000000) (A := m * g) (V := n * g) (q := q) (nb := k + 2) (U := U) (W := W) (O := O) (by omega) HQ9.out HDU.out (by rw [HLO.out]; omega) HNG.out HP2.out HA0.out HLW.out HVW.out
    rw [HQD.out] at hr
    obtain ⟨r1, r2⟩ := hr
    refine ⟨(q : Int) - 1, U.take q ++ W ++ U.drop (q + (k + 2 + 1)), O.set q Qd, rfl, by omega, by omega, ?_, by simp [HLO.out], ?_, ?_, ?_, ?_, Mth.mem_set_lt HDO.out hQ9, ?_, ?_, ?_⟩
    ·have := HQ9.out
     have := HLU.out
     simp [HLW.out]
     omega
    ·exact HOW.out.far (by simp; omega) _
    ·exact (hoV.only HG3.out (by omega)).far (by simp; omega) _
    ·exact (hoO.only HG3.out (by omega)).set _ _
    ·intro d hd
     rcases List.mem_append.1 hd with h | h
     ·rcases List.mem_append.1 h with h | h
      ·exact HDU.out d (List.mem_of_mem_take h)
      ·exact HDW.out d h
     ·exact HDU.out d (List.mem_of_mem_drop h)
    ·rw [show ((q : Int) - 1 + 1).toNat = q by omega]; exact r1
    ·rw [show ((q : Int) - 1 + 1).toNat = q by omega]; exact r2
    ·exact (hB.grown HG3.out hB.size (fun x hx => by cases hx; exact Nat.le_refl _)).setCell (p := ⟨w2.heap.size, q, none⟩) (by show w.heap.size ≤ w2.heap.size; omega) _
   case measure => simp [intOf]
theorem div_any (m n : Nat) (va vb : Value) (w : World) (ha : Nt w va m) (hb : Nt w vb n) (hs : (Mth.dg 1000000000 m).length ≤ 100000000000) (ht : (Mth.dg 1000000000 n).length ≤ 100000000000) (hn0 : 0 < n) :
  Calls Tryz.prog 180 #[va, vb] w fun e w' => ∃ vq vr, e = .returned (.tuple #[vq, vr]) ∧ Below w.heap.size w w' ∧ Nt w' vq (m / n) ∧ Nt w' vr (m % n) := by
 rcases Nat.lt_or_ge m n with hmn | hmn
 ·exact div_less m n va vb w ha hb hs ht hmn
 ·have hml : (Mth.dg 1000000000 n).length ≤ (Mth.dg 1000000000 m).length := by
   rcases Nat.lt_or_ge (Mth.dg 1000000000 m).length (Mth.dg 1000000000 n).length with h | h
   ·have := Mth.lt_of_len (b := 1000000000) (by omega) h
    omega
   ·exact h
  by_cases hl : (Mth.dg 1000000000 n).length ≤ 1
  ·refine div_short m n va vb w ha hb hs hmn hn0 ?_
   have := Mth.lt_pow_dg (b := 1000000000) (by omega) n
   have h2 : (1000000000 : Nat) ^ (Mth.dg 1000000000 n).length ≤ 1000000000 ^ 1 := Nat.pow_le_pow_right (by omega) hl
   omega
  ·obtain ⟨k, hk⟩ : ∃ k, (Mth.dg 1000000000 n).length = k + 2 := ⟨(Mth.dg 1000000000 n).length - 2, by omega⟩
   obtain ⟨t, ht⟩ : ∃ t, (Mth.dg 1000000000 n)[k + 1]?.getD 0 = t := ⟨_, rfl⟩
   obtain ⟨g, hg⟩ : ∃ g, 1000000000 / (t + 1) = g := ⟨_, rfl⟩
   obtain ⟨p1, p2, p3, p4, p5⟩ := Mth.div_prep (b := 1000000000) (by omega) hk (Mth.dg_lt (by omega) n) (Mth.dg_last (by omega) n) (Mth.val_dg (by omega) n) ht hg
   obtain ⟨N, hN⟩ : ∃ N, (Mth.dg 1000000000 m).length = k + 1 + N := ⟨(Mth.dg 1000000000 m).length - (k + 1), by omega⟩
   have hpm := Mth.lt_pow_dg (b := 1000000000) (by omega) m
   have hcmp := cmp_any m n va vb w ha hb (by omega) (by omega)
   have hc3 : 0 ≤ Mth.cmp m n := by
    rcases Nat.lt_or_ge n m with h | h
    ·rw [Mth.cmp_gt h]; omega
    ·obtain rfl : m = n := by omega
     rw [Mth.cmp_eq]; omega
   exact div_long (Mth.dg 1000000000 m) (Mth.dg 1000000000 n) m n k t g (Mth.dg 1000000000 m).length N va vb w ha hb rfl hk hN (by omega) hs (Mth.dg_lt (by omega) m) (Mth.dg_lt (by omega) n) (Mth.val_dg (by omega) m) (Mth.val_dg (by omega) n) ht p3
    (by rw [← hg, Int.natCast_ediv]; simp) p1 p2 (by rw [Mth.val_dg (by omega)]; exact Mth.div_fit hpm p2 p1) (by rw [Mth.val_dg (by omega)]; exact p4) (Mth.div_start hpm p5 hN p1)
    (fun V h1 h2 h3 => Mth.div_top (by omega) h1 h2 h3 p5 p1) (Nat.mul_pos hn0 p1) p4 _ hc3 hcmp
end Go.Proofs.YtkcdgaijklhnaaaGreatDoor
