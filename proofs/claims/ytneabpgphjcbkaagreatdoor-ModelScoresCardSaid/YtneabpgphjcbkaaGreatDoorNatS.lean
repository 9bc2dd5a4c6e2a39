/-
  The naturals: short and scaled.
-/
import Derived.Test.YtneabpgphjcbkaaGreatDoorNatA
import Derived.RegionTactic
namespace Go.Proofs.YtneabpgphjcbkaaGreatDoor
open Go.RowKit

set_option maxHeartbeats 2000000 in
set_option maxRecDepth 100000 in
theorem short_list (la : List Nat) (d : Nat) (hxa : ∀ d ∈ la, d < 1000000000) (va : Value) (w : World) (ha : Sl w va (u32s la)) (_hs : la.length ≤ 1000000000000) (hd0 : 0 < d) (hd1 : d ≤ 1000000000) :
    Calls Tryz.prog 134 #[va, .int .u64 d] w fun e w' => ∃ v, e = .returned (.tuple #[v, .int .u64 ((Mth.val 1000000000 la % d : Nat) : Int)]) ∧ Below w.heap.size w w' ∧ Nt w' v (Mth.val 1000000000 la / d) := by
  obtain ⟨A, c, rfl, h1, h2, h3⟩ := ha
  simp only [u32s_length] at *
  have H3 := Lib.hid h3
  have HXA := Lib.hid hxa
  clear h3 hxa
  have hdz : ((d : Int) == 0) = false := by simpa using (by omega : ¬ (d : Int) = 0)
  have hmk := run_make_row' (P := Tryz.prog) 107 126 (.int .u32 0) 4 Tryz.underlying107 info_u32 rfl .i64 .i64 la.length (by omega) (by omega)
  go_enter Tryz.func134, Tryz.ntmps134
  go_wp2
  clear hmk
  go_loopw [7, 8] (fun a7 a8 wr => ∃ (i : Int) (r : Nat) (L : List Nat), a8 = .int .i64 i ∧ a7 = .int .u64 r ∧ -1 ≤ i ∧ i < la.length ∧ r < d ∧ L.length = la.length ∧ Own wr w.heap.size L ∧ (∀ d ∈ L, d < 1000000000) ∧
    Mth.val 1000000000 (la.drop (i + 1).toNat) = d * Mth.val 1000000000 (L.drop (i + 1).toNat) + r ∧ Below w.heap.size w wr) (fun _ a8 _ => (intOf a8 + 1).toNat)
  case atStart => exact ⟨(la.length : Int) - 1, 0, List.replicate la.length 0, rfl, rfl, by omega, by omega, hd0, by simp, Own.made w _, by simp, by rw [show ((la.length : Int) - 1 + 1).toNat = la.length by omega, List.drop_length]; simp [Mth.val], (Below.refl _ _).alloc (Nat.le_refl _) _⟩
  case round =>
    obtain ⟨i, r, L, rfl, rfl, hi1, hi2, hr, hl, hown, hd, hv, hB⟩ := hrel
    have HD := Lib.hid hd
    have HV := Lib.hid hv
    have HL := Lib.hid hl
    have hBs := hB.size
    clear hd hv
    by_cases h0 : i < 0
    · obtain rfl : i = -1 := by omega
      have hv := HV.out
      simp only [Int.reduceNeg, Int.reduceAdd, Int.toNat_zero, List.drop_zero] at hv
      have hq : Mth.val 1000000000 la / d = Mth.val 1000000000 L := by
        rw [hv, Nat.mul_add_div hd0, Nat.div_eq_of_lt hr, Nat.add_zero]
      have hm : Mth.val 1000000000 la % d = r := by
        rw [hv, Nat.mul_add_mod, Nat.mod_eq_of_lt hr]
      have hsl := hown.sl (c := la.length) (by omega) (by unfold maxLen; omega)
      rw [HL.out] at hsl
      have HQ := Lib.hid hq
      have HM := Lib.hid hm
      clear hv hl hq hm
      go_wp2_with (go_at_call 109; refine (trim_any L _ _ hsl (by rw [HL.out]; omega)).mono ?_; rintro e w' ⟨v', rfl, hS, rfl⟩)
      go_ret2
      refine ⟨v', by rw [HM.out]; rfl, hB, ?_⟩
      unfold Nt
      rw [HQ.out, ← Mth.tidy_eq (by omega) L HD.out]
      exact hS
    · obtain ⟨q, rfl⟩ : ∃ q : Nat, i = q := ⟨i.toNat, by omega⟩
      obtain ⟨b, o, rfl, hc⟩ := H3.out (by omega)
      have g1 := (Below.cell hB (World.block_lt_of_cell? w _ (hc q _ (u32s_at (by omega))))).trans (hc q _ (u32s_at (by omega)))
      have g0 := hown.cell (j := q) (by omega)
      have gf := hown.frozen q
      have b1 := Mth.getD_lt (by omega) HXA.out q
      obtain ⟨x, hx⟩ : ∃ x, la[q]?.getD 0 = x := ⟨_, rfl⟩
      obtain ⟨z, hz⟩ : ∃ z, L[q]?.getD 0 = z := ⟨_, rfl⟩
      rw [hx] at g1 b1
      rw [hz] at g0
      have HX := Lib.hid hx
      clear hx hz hc hl
      have ht : r * 1000000000 + x < d * 1000000000 := by
        have : (r + 1) * 1000000000 ≤ d * 1000000000 := Nat.mul_le_mul_right _ hr
        omega
      have e1 : ((r : Int) * 1000000000 + x) / (d : Int) = (((r * 1000000000 + x) / d : Nat) : Int) := by
        rw [Int.natCast_ediv]; simp
      have e2 : ((r : Int) * 1000000000 + x) % (d : Int) = (((r * 1000000000 + x) % d : Nat) : Int) := by
        rw [Int.natCast_emod]; simp
      have e3 : (r * 1000000000 + x) / d < 1000000000 := Nat.div_lt_of_lt_mul ht
      have hR2 : (r * 1000000000 + x) % d < d := Nat.mod_lt _ hd0
      obtain ⟨Q, hQ⟩ : ∃ Q, (r * 1000000000 + x) / d = Q := ⟨_, rfl⟩
      obtain ⟨R, hR⟩ : ∃ R, (r * 1000000000 + x) % d = R := ⟨_, rfl⟩
      rw [hQ] at e1 e3
      rw [hR] at e2 hR2
      have E1 := Lib.hid e1
      have E2 := Lib.hid e2
      have HQ := Lib.hid hQ
      have HR := Lib.hid hR
      clear e1 e2 hQ hR
      go_wp2
      go_region
      go_wp2
      go_roundw
      case rel =>
        have e4 : ((r : Int) * 1000000000 + x) / (d : Int) % 4294967296 = (Q : Int) := by rw [E1.out]; omega
        have hq3 : q < L.length := by rw [HL.out]; omega
        refine ⟨(q : Int) - 1, R, L.set q Q, rfl, by rw [E2.out], by omega, by omega, hR2, by simp [HL.out], by rw [e4]; exact (hown.set _ _).drew, Mth.mem_set_lt HD.out e3, ?_, (hB.setCell (p := ⟨w.heap.size, q, none⟩) (Nat.le_refl _) _).drew⟩
        have hv := HV.out
        rw [show ((q : Int) + 1).toNat = q + 1 by omega] at hv
        rw [show ((q : Int) - 1 + 1).toNat = q by omega, Mth.drop_set_self _ _ _ hq3, Mth.val_drop _ _ _ (by omega), HX.out, ← HQ.out, ← HR.out]
        exact Mth.short_step _ _ _ _ _ _ _ hv rfl
      case measure => simp [intOf]
end Go.Proofs.YtneabpgphjcbkaaGreatDoor

namespace Go.Proofs.YtneabpgphjcbkaaGreatDoor
open Go.RowKit

set_option maxHeartbeats 2000000 in
set_option maxRecDepth 100000 in
theorem scaled_list (la : List Nat) (m room : Nat) (hxa : ∀ d ∈ la, d < 1000000000) (va : Value) (w : World) (ha : Sl w va (u32s la)) (_hs : la.length ≤ 1000000000000) (hm0 : 0 < m) (hm1 : m ≤ 1000000000)
    (hr : la.length ≤ room) (hr2 : room ≤ 2000000000000) (hfit : Mth.val 1000000000 la * m < 1000000000 ^ room) :
    Calls Tryz.prog 135 #[va, .int .u64 m, .int .i64 room] w fun e w' => ∃ L : List Nat, e = .returned (.slice (some ⟨w.heap.size, 0, none⟩) room room) ∧ Below w.heap.size w w' ∧
      Own w' w.heap.size L ∧ L.length = room ∧ (∀ d ∈ L, d < 1000000000) ∧ Mth.val 1000000000 L = Mth.val 1000000000 la * m := by
  obtain ⟨A, c, rfl, h1, h2, h3⟩ := ha
  simp only [u32s_length] at *
  have H3 := Lib.hid h3
  have HXA := Lib.hid hxa
  have HF := Lib.hid hfit
  clear h3 hxa hfit
  have hmk := run_make_row' (P := Tryz.prog) 107 126 (.int .u32 0) 4 Tryz.underlying107 info_u32 rfl .i64 .i64 room (by omega) (by omega)
  go_enter Tryz.func135, Tryz.ntmps135
  go_wp2
  clear hmk
  go_loopw [8, 15] (fun a8 a15 wr => ∃ (k cy : Nat) (L : List Nat), a15 = .int .i64 k ∧ a8 = .int .u64 cy ∧ k ≤ room ∧ cy < m ∧ L.length = room ∧ Own wr w.heap.size L ∧ (∀ d ∈ L, d < 1000000000) ∧
    Mth.val 1000000000 (L.take k) + 1000000000 ^ k * cy = Mth.val 1000000000 (la.take k) * m ∧ Below w.heap.size w wr) (fun _ a15 _ => room - (intOf a15).toNat)
  case atStart => exact ⟨0, 0, List.replicate room 0, rfl, rfl, by omega, hm0, by simp, Own.made w _, by simp, by simp [Mth.val], (Below.refl _ _).alloc (Nat.le_refl _) _⟩
  case round =>
    obtain ⟨k, cy, L, rfl, rfl, hk, hcy, hl, hown, hd, hv, hB⟩ := hrel
    have HD := Lib.hid hd
    have HV := Lib.hid hv
    have HL := Lib.hid hl
    have hBs := hB.size
    clear hd hv
    by_cases hlt2 : k < room
    · have hk2 : (k : Int) < (room : Int) := by omega
      have g0 := hown.cell (j := k) (by omega)
      have gf := hown.frozen k
      obtain ⟨z, hz⟩ : ∃ z, L[k]?.getD 0 = z := ⟨_, rfl⟩
      rw [hz] at g0
      have HL2 := Lib.hid hlt2
      clear hz hlt2 hl
      by_cases hkb : k < la.length
      · have hkb2 : (k : Int) < (la.length : Int) := by omega
        obtain ⟨b, o, rfl, hc⟩ := H3.out (by omega)
        have g1 := (Below.cell hB (World.block_lt_of_cell? w _ (hc k _ (u32s_at hkb)))).trans (hc k _ (u32s_at hkb))
        have b1 := Mth.getD_lt (by omega) HXA.out k
        obtain ⟨x, hx⟩ : ∃ x, la[k]?.getD 0 = x := ⟨_, rfl⟩
        rw [hx] at g1 b1
        have HX := Lib.hid hx
        have HKB := Lib.hid hkb
        have hp0 : 0 ≤ (x : Int) * (m : Int) := Int.mul_nonneg (by omega) (by omega)
        have hp2 : x * m ≤ 999999999 * m := Nat.mul_le_mul_right _ (by omega)
        have hp1 : (x : Int) * (m : Int) ≤ 999999999 * m := by
          rw [← Int.natCast_mul]; omega
        clear hx hc hkb
        go_wp2
        have e1 : ((cy : Int) + x * m) % 1000000000 = (((cy + x * m) % 1000000000 : Nat) : Int) := by
          rw [Int.natCast_emod]; simp
        have e2 : ((cy : Int) + x * m) / 1000000000 = (((cy + x * m) / 1000000000 : Nat) : Int) := by
          rw [Int.natCast_ediv]; simp
        go_roundw
        case rel =>
          refine ⟨k + 1, (cy + x * m) / 1000000000, L.set k ((cy + x * m) % 1000000000), by go_num, by rw [e2], by omega, by omega, by simp [HL.out], by rw [e1]; exact hown.set _ _, Mth.mem_set_lt (d := (cy + x * m) % 1000000000) HD.out (Nat.mod_lt _ (by omega)), ?_, hB.setCell (p := ⟨w.heap.size, k, none⟩) (Nat.le_refl _) _⟩
          rw [Mth.take_set_succ _ _ _ (by rw [HL.out]; exact HL2.out), Mth.val_snoc, List.length_take, Nat.min_eq_left (by rw [HL.out]; exact Nat.le_of_lt HL2.out), Mth.val_take_succ _ _ _ HKB.out, HX.out, Nat.pow_succ]
          exact Mth.scale_step 1000000000 (1000000000 ^ k) _ _ cy x m (cy + x * m) HV.out rfl
        case measure => simp [intOf]; omega
      · have hkb2 : (la.length : Int) ≤ (k : Int) := by omega
        have HKB : Hid (la.length ≤ k) := Lib.hid (by omega)
        clear hkb
        go_wp2
        have e1 : (cy : Int) % 1000000000 = (((cy) % 1000000000 : Nat) : Int) := by
          rw [Int.natCast_emod]; simp
        have e2 : (cy : Int) / 1000000000 = (((cy) / 1000000000 : Nat) : Int) := by
          rw [Int.natCast_ediv]; simp
        go_roundw
        case rel =>
          refine ⟨k + 1, (cy) / 1000000000, L.set k ((cy) % 1000000000), by go_num, by rw [e2], by omega, by omega, by simp [HL.out], by rw [e1]; exact hown.set _ _, Mth.mem_set_lt (d := (cy) % 1000000000) HD.out (Nat.mod_lt _ (by omega)), ?_, hB.setCell (p := ⟨w.heap.size, k, none⟩) (Nat.le_refl _) _⟩
          rw [Mth.take_set_succ _ _ _ (by rw [HL.out]; exact HL2.out), Mth.val_snoc, List.length_take, Nat.min_eq_left (by rw [HL.out]; exact Nat.le_of_lt HL2.out), Mth.val_take_ge _ _ _ HKB.out, Nat.pow_succ]
          exact Mth.scale_step 1000000000 (1000000000 ^ k) _ _ cy 0 m (cy) HV.out (by omega)
        case measure => simp [intOf]; omega
    · obtain rfl : k = room := by omega
      have hv := HV.out
      have hd := HD.out
      rw [List.take_of_length_le (by omega), List.take_of_length_le (by omega)] at hv
      have hf := HF.out
      have hc0 : cy = 0 := by
        rcases Nat.eq_zero_or_pos cy with h | h
        · exact h
        · have : 1000000000 ^ k * 1 ≤ 1000000000 ^ k * cy := Nat.mul_le_mul_left _ h
          omega
      have he : Mth.val 1000000000 L = Mth.val 1000000000 la * m := by rw [← hv, hc0]; simp
      have HE := Lib.hid he
      clear hv hd hf he hl hc0
      go_wp2
      go_ret
      exact ⟨L, rfl, hB, hown, HL.out, HD.out, HE.out⟩
end Go.Proofs.YtneabpgphjcbkaaGreatDoor
