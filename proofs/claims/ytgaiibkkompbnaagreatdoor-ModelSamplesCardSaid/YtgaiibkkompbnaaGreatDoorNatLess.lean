/-
  nat.less: subtracts a multiple; nat.more: adds, without the last carry.
-/
import Derived.Test.YtgaiibkkompbnaaGreatDoorNatA
import Derived.RegionTactic
namespace Go.Proofs.YtgaiibkkompbnaaGreatDoor
open Go.RowKit

set_option maxHeartbeats 2000000 in
set_option maxRecDepth 100000 in
theorem less_any (P U S V : List Nat) (q gu gv cu cv : Nat) (w : World) (hu : Own w gu (P ++ U ++ S)) (hv : Own w gv V) (hne : gv ≠ gu) (hxu : ∀ d ∈ U, d < 1000000000) (hxv : ∀ d ∈ V, d < 1000000000)
    (hul : U.length = V.length + 1) (hq : q < 1000000000) (_hs : V.length ≤ 1000000000000) (hcu : U.length ≤ cu) (hcu2 : cu ≤ 9000000000000) (_hcv : V.length ≤ cv) (_hcv2 : cv ≤ 9000000000000) (_hp : P.length ≤ 9000000000000) :
    Calls Tryz.prog 109 #[.slice (some ⟨gu, P.length, none⟩) U.length cu, .slice (some ⟨gv, 0, none⟩) V.length cv, .int .u64 q] w fun e w' => ∃ (W : List Nat) (cy : Nat), e = .returned (.bool (decide (0 < cy))) ∧
      Own w' gu (P ++ W ++ S) ∧ W.length = U.length ∧ (∀ d ∈ W, d < 1000000000) ∧ Mth.val 1000000000 W + q * Mth.val 1000000000 V = Mth.val 1000000000 U + 1000000000 ^ U.length * cy ∧ w.grownBy w' (some gu) := by
  have HXU := Lib.hid hxu
  have HXV := Lib.hid hxv
  have HUL := Lib.hid hul
  have HOV := Lib.hid hv
  have hul2 : (U.length : Int) = (V.length : Int) + 1 := by omega
  have HUL2 := Lib.hid hul2
  have hun : (V.length : Int) < U.length := by omega
  clear hxu hxv hul hul2 hv
  go_enter Tryz.func109, Tryz.ntmps109
  go_wp2
  go_loopw [7, 14] (fun a7 a14 wr => ∃ (k cy : Nat) (W : List Nat), a14 = .int .i64 k ∧ a7 = .int .u64 cy ∧ k ≤ U.length ∧ cy ≤ q ∧ W.length = U.length ∧ Own wr gu (P ++ W ++ S) ∧ (∀ d ∈ W, d < 1000000000) ∧ W.drop k = U.drop k ∧
    Mth.val 1000000000 (W.take k) + q * Mth.val 1000000000 (V.take k) = Mth.val 1000000000 (U.take k) + 1000000000 ^ k * cy ∧ w.grownBy wr (some gu)) (fun _ a14 _ => U.length - (intOf a14).toNat)
  case atStart => exact ⟨0, 0, U, rfl, rfl, by omega, by omega, rfl, hu, HXU.out, rfl, by simp [Mth.val], only_refl _ _⟩
  case round =>
    obtain ⟨k, cy, W, rfl, rfl, hk, hcy, hl, hown, hd, hdr, hvv, hB⟩ := hrel
    have HD := Lib.hid hd
    have HV := Lib.hid hvv
    have HL := Lib.hid hl
    have HU := Lib.hid hdr
    have hown2 := HOV.out.only hB hne
    clear hd hvv hdr
    by_cases hlt2 : k < U.length
    · have hk2 : (k : Int) < (U.length : Int) := by omega
      have g0 := own3_cell hown (k := k) (by omega)
      have gf := hown.frozen (P.length + k)
      rw [Mth.getD_of_drop HU.out] at g0
      have b1 := Mth.getD_lt (by omega) HXU.out k
      obtain ⟨x, hx⟩ : ∃ x, U[k]?.getD 0 = x := ⟨_, rfl⟩
      rw [hx] at g0 b1
      have HX := Lib.hid hx
      have HL2 := Lib.hid hlt2
      clear hx hlt2 hl
      by_cases hkb : k < V.length
      · have hkb2 : (k : Int) < (V.length : Int) := by omega
        have g2 := hown2.cell hkb
        have b2 := Mth.getD_lt (by omega) HXV.out k
        obtain ⟨y, hy⟩ : ∃ y, V[k]?.getD 0 = y := ⟨_, rfl⟩
        rw [hy] at g2 b2
        have HY := Lib.hid hy
        have HKB := Lib.hid hkb
        have hp0 : 0 ≤ (q : Int) * (y : Int) := Int.mul_nonneg (by omega) (by omega)
        have hp2 : q * y ≤ q * 999999999 := Nat.mul_le_mul_left _ (by omega)
        have hp1 : (q : Int) * (y : Int) ≤ (q : Int) * 999999999 := by
          rw [← Int.natCast_mul]; omega
        clear hy hkb
        by_cases hxy : x < (cy + q * y) % 1000000000
        · have hcm : (x : Int) < ((cy : Int) + q * y) % 1000000000 := by omega
          clear hxy
          go_wp2
          have e1 : (x : Int) + (1000000000 - ((cy : Int) + q * y) % 1000000000) = ((x + (1000000000 - (cy + q * y) % 1000000000) : Nat) : Int) := by omega
          have e2 : ((cy : Int) + q * y) / 1000000000 + 1 = (((cy + q * y) / 1000000000 + 1 : Nat) : Int) := by omega
          go_roundw
          case rel =>
            refine ⟨k + 1, (cy + q * y) / 1000000000 + 1, W.set k (x + (1000000000 - (cy + q * y) % 1000000000)), by go_num, by rw [e2], by omega, by omega, by simp [HL.out], by rw [e1]; exact own3_set hown (by rw [HL.out]; exact HL2.out) _, Mth.mem_set_lt (d := x + (1000000000 - (cy + q * y) % 1000000000)) HD.out (by omega), by rw [Mth.drop_set_succ]; exact Mth.drop_succ_of HU.out, ?_, only_set hB _ _⟩
            rw [Mth.take_set_succ _ _ _ (by rw [HL.out]; exact HL2.out), Mth.val_snoc, List.length_take, Nat.min_eq_left (by rw [HL.out]; exact Nat.le_of_lt HL2.out), Mth.val_take_succ _ _ _ HKB.out, HY.out, Mth.val_take_succ _ U _ HL2.out, HX.out, Nat.pow_succ]
            exact Mth.less_step 1000000000 (1000000000 ^ k) _ _ _ q cy x y (cy + q * y) _ 1 HV.out rfl (by omega)
          case measure => simp [intOf]; omega
        · have hcm : ((cy : Int) + q * y) % 1000000000 ≤ (x : Int) := by omega
          clear hxy
          go_wp2
          have e1 : (x : Int) - ((cy : Int) + q * y) % 1000000000 = ((x - (cy + q * y) % 1000000000 : Nat) : Int) := by omega
          have e2 : ((cy : Int) + q * y) / 1000000000 = (((cy + q * y) / 1000000000 : Nat) : Int) := by omega
          go_roundw
          case rel =>
            refine ⟨k + 1, (cy + q * y) / 1000000000, W.set k (x - (cy + q * y) % 1000000000), by go_num, by rw [e2], by omega, by omega, by simp [HL.out], by rw [e1]; exact own3_set hown (by rw [HL.out]; exact HL2.out) _, Mth.mem_set_lt (d := x - (cy + q * y) % 1000000000) HD.out (by omega), by rw [Mth.drop_set_succ]; exact Mth.drop_succ_of HU.out, ?_, only_set hB _ _⟩
            rw [Mth.take_set_succ _ _ _ (by rw [HL.out]; exact HL2.out), Mth.val_snoc, List.length_take, Nat.min_eq_left (by rw [HL.out]; exact Nat.le_of_lt HL2.out), Mth.val_take_succ _ _ _ HKB.out, HY.out, Mth.val_take_succ _ U _ HL2.out, HX.out, Nat.pow_succ]
            exact Mth.less_step 1000000000 (1000000000 ^ k) _ _ _ q cy x y (cy + q * y) _ 0 HV.out rfl (by omega)
          case measure => simp [intOf]; omega
      · have hkb2 : (V.length : Int) ≤ (k : Int) := by omega
        have HKB : Hid (V.length ≤ k) := Lib.hid (by omega)
        clear hkb
        by_cases hxy : x < cy % 1000000000
        · have hcm : (x : Int) < (cy : Int) % 1000000000 := by omega
          clear hxy
          go_wp2
          have e1 : (x : Int) + (1000000000 - (cy : Int) % 1000000000) = ((x + (1000000000 - (cy) % 1000000000) : Nat) : Int) := by omega
          have e2 : (cy : Int) / 1000000000 + 1 = (((cy) / 1000000000 + 1 : Nat) : Int) := by omega
          go_roundw
          case rel =>
            refine ⟨k + 1, (cy) / 1000000000 + 1, W.set k (x + (1000000000 - (cy) % 1000000000)), by go_num, by rw [e2], by omega, by omega, by simp [HL.out], by rw [e1]; exact own3_set hown (by rw [HL.out]; exact HL2.out) _, Mth.mem_set_lt (d := x + (1000000000 - (cy) % 1000000000)) HD.out (by omega), by rw [Mth.drop_set_succ]; exact Mth.drop_succ_of HU.out, ?_, only_set hB _ _⟩
            rw [Mth.take_set_succ _ _ _ (by rw [HL.out]; exact HL2.out), Mth.val_snoc, List.length_take, Nat.min_eq_left (by rw [HL.out]; exact Nat.le_of_lt HL2.out), Mth.val_take_ge _ _ _ HKB.out, Mth.val_take_succ _ U _ HL2.out, HX.out, Nat.pow_succ]
            exact Mth.less_step 1000000000 (1000000000 ^ k) _ _ _ q cy x 0 (cy) _ 1 HV.out (by omega) (by omega)
          case measure => simp [intOf]; omega
        · have hcm : (cy : Int) % 1000000000 ≤ (x : Int) := by omega
          clear hxy
          go_wp2
          have e1 : (x : Int) - (cy : Int) % 1000000000 = ((x - (cy) % 1000000000 : Nat) : Int) := by omega
          have e2 : (cy : Int) / 1000000000 = (((cy) / 1000000000 : Nat) : Int) := by omega
          go_roundw
          case rel =>
            refine ⟨k + 1, (cy) / 1000000000, W.set k (x - (cy) % 1000000000), by go_num, by rw [e2], by omega, by omega, by simp [HL.out], by rw [e1]; exact own3_set hown (by rw [HL.out]; exact HL2.out) _, Mth.mem_set_lt (d := x - (cy) % 1000000000) HD.out (by omega), by rw [Mth.drop_set_succ]; exact Mth.drop_succ_of HU.out, ?_, only_set hB _ _⟩
            rw [Mth.take_set_succ _ _ _ (by rw [HL.out]; exact HL2.out), Mth.val_snoc, List.length_take, Nat.min_eq_left (by rw [HL.out]; exact Nat.le_of_lt HL2.out), Mth.val_take_ge _ _ _ HKB.out, Mth.val_take_succ _ U _ HL2.out, HX.out, Nat.pow_succ]
            exact Mth.less_step 1000000000 (1000000000 ^ k) _ _ _ q cy x 0 (cy) _ 0 HV.out (by omega) (by omega)
          case measure => simp [intOf]; omega
    · obtain rfl : k = U.length := by omega
      have hv := HV.out
      rw [List.take_of_length_le (by omega), List.take_of_length_le (by have := HUL.out; omega), List.take_length] at hv
      have HE := Lib.hid hv
      clear hv hl
      go_wp2
      go_ret
      exact ⟨W, cy, ret_bool (by simp), hown, HL.out, HD.out, HE.out, hB⟩

set_option maxHeartbeats 2000000 in
set_option maxRecDepth 100000 in
theorem more_any (P U S V : List Nat) (gu gv cu cv : Nat) (w : World) (hu : Own w gu (P ++ U ++ S)) (hv : Own w gv V) (hne : gv ≠ gu) (hxu : ∀ d ∈ U, d < 1000000000) (hxv : ∀ d ∈ V, d < 1000000000)
    (hul : U.length = V.length + 1) (_hs : V.length ≤ 1000000000000) (hcu : U.length ≤ cu) (hcu2 : cu ≤ 9000000000000) (_hcv : V.length ≤ cv) (_hcv2 : cv ≤ 9000000000000) (_hp : P.length ≤ 9000000000000) :
    Calls Tryz.prog 110 #[.slice (some ⟨gu, P.length, none⟩) U.length cu, .slice (some ⟨gv, 0, none⟩) V.length cv] w fun e w' => ∃ (W : List Nat) (cy : Nat), (∃ v, e = .returned v) ∧
      Own w' gu (P ++ W ++ S) ∧ W.length = U.length ∧ (∀ d ∈ W, d < 1000000000) ∧ Mth.val 1000000000 W + 1000000000 ^ U.length * cy = Mth.val 1000000000 U + Mth.val 1000000000 V ∧ w.grownBy w' (some gu) := by
  have HXU := Lib.hid hxu
  have HXV := Lib.hid hxv
  have HUL := Lib.hid hul
  have HOV := Lib.hid hv
  have hun : (V.length : Int) < U.length := by omega
  clear hxu hxv hul hv
  go_enter Tryz.func110, Tryz.ntmps110
  go_wp2
  go_loopw [4, 9] (fun a4 a9 wr => ∃ (k cy : Nat) (W : List Nat), a9 = .int .i64 k ∧ a4 = .int .u32 cy ∧ k ≤ U.length ∧ cy ≤ 1 ∧ W.length = U.length ∧ Own wr gu (P ++ W ++ S) ∧ (∀ d ∈ W, d < 1000000000) ∧ W.drop k = U.drop k ∧
    Mth.val 1000000000 (W.take k) + 1000000000 ^ k * cy = Mth.val 1000000000 (U.take k) + Mth.val 1000000000 (V.take k) ∧ w.grownBy wr (some gu)) (fun _ a9 _ => U.length - (intOf a9).toNat)
  case atStart => exact ⟨0, 0, U, rfl, rfl, by omega, by omega, rfl, hu, HXU.out, rfl, by simp [Mth.val], only_refl _ _⟩
  case round =>
    obtain ⟨k, cy, W, rfl, rfl, hk, hcy, hl, hown, hd, hdr, hvv, hB⟩ := hrel
    have HD := Lib.hid hd
    have HV := Lib.hid hvv
    have HL := Lib.hid hl
    have HU := Lib.hid hdr
    have hown2 := HOV.out.only hB hne
    clear hd hvv hdr
    by_cases hlt2 : k < U.length
    · have hk2 : (k : Int) < (U.length : Int) := by omega
      have g0 := own3_cell hown (k := k) (by omega)
      have gf := hown.frozen (P.length + k)
      rw [Mth.getD_of_drop HU.out] at g0
      have b1 := Mth.getD_lt (by omega) HXU.out k
      obtain ⟨x, hx⟩ : ∃ x, U[k]?.getD 0 = x := ⟨_, rfl⟩
      rw [hx] at g0 b1
      have HX := Lib.hid hx
      have HL2 := Lib.hid hlt2
      clear hx hlt2 hl
      by_cases hkb : k < V.length
      · have hkb2 : (k : Int) < (V.length : Int) := by omega
        have g2 := hown2.cell hkb
        have b2 := Mth.getD_lt (by omega) HXV.out k
        obtain ⟨y, hy⟩ : ∃ y, V[k]?.getD 0 = y := ⟨_, rfl⟩
        rw [hy] at g2 b2
        have HY := Lib.hid hy
        have HKB := Lib.hid hkb
        clear hy hkb
        go_wp2
        go_roundw
        case rel =>
          refine ⟨k + 1, (x + cy + y) / 1000000000, W.set k ((x + cy + y) % 1000000000), by go_num, rfl, by omega, by omega, by simp [HL.out], own3_set hown (by rw [HL.out]; exact HL2.out) _, Mth.mem_set_lt (d := (x + cy + y) % 1000000000) HD.out (by omega), by rw [Mth.drop_set_succ]; exact Mth.drop_succ_of HU.out, ?_, only_set hB _ _⟩
          rw [Mth.take_set_succ _ _ _ (by rw [HL.out]; exact HL2.out), Mth.val_snoc, List.length_take, Nat.min_eq_left (by rw [HL.out]; exact Nat.le_of_lt HL2.out), Mth.val_take_succ _ _ _ HKB.out, HY.out, Mth.val_take_succ _ U _ HL2.out, HX.out, Nat.pow_succ]
          exact Mth.add_step 1000000000 (1000000000 ^ k) _ _ _ cy x y (x + cy + y) (by omega) HV.out rfl
        case measure => simp [intOf]; omega
      · have hkb2 : (V.length : Int) ≤ (k : Int) := by omega
        have HKB : Hid (V.length ≤ k) := Lib.hid (by omega)
        clear hkb
        go_wp2
        go_roundw
        case rel =>
          refine ⟨k + 1, (x + cy) / 1000000000, W.set k ((x + cy) % 1000000000), by go_num, rfl, by omega, by omega, by simp [HL.out], own3_set hown (by rw [HL.out]; exact HL2.out) _, Mth.mem_set_lt (d := (x + cy) % 1000000000) HD.out (by omega), by rw [Mth.drop_set_succ]; exact Mth.drop_succ_of HU.out, ?_, only_set hB _ _⟩
          rw [Mth.take_set_succ _ _ _ (by rw [HL.out]; exact HL2.out), Mth.val_snoc, List.length_take, Nat.min_eq_left (by rw [HL.out]; exact Nat.le_of_lt HL2.out), Mth.val_take_ge _ _ _ HKB.out, Mth.val_take_succ _ U _ HL2.out, HX.out, Nat.pow_succ]
          exact Mth.add_step 1000000000 (1000000000 ^ k) _ _ _ cy x 0 (x + cy) (by omega) HV.out (by omega)
        case measure => simp [intOf]; omega
    · obtain rfl : k = U.length := by omega
      have hv := HV.out
      rw [List.take_of_length_le (by omega), List.take_of_length_le (by omega), List.take_of_length_le (by have := HUL.out; omega)] at hv
      have HE := Lib.hid hv
      clear hv hl
      go_wp2
      go_end0
      exact ⟨W, cy, ⟨_, rfl⟩, hown, HL.out, HD.out, HE.out, hB⟩
end Go.Proofs.YtgaiibkkompbnaaGreatDoor
