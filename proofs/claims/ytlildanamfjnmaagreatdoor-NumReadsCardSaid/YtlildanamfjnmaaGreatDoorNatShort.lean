/-
  nat.short: the quotient by a digit and the rest.
-/
import Derived.Test.YtlildanamfjnmaaGreatDoorNatOf
import Derived.Test.YtlildanamfjnmaaGreatDoorNatTrim
import Derived.RegionTactic
namespace Go.Proofs.YtlildanamfjnmaaGreatDoor
open Go.RowKit

set_option maxHeartbeats 2000000 in
set_option maxRecDepth 100000 in
theorem short_list (la : List Nat) (d : Nat) (hxa : ∀ d ∈ la, d < 1000000000) (va : Value) (w : World) (ha : Sl w va (u32s la)) (_hs : la.length ≤ 1000000000000) (hd0 : 0 < d) (hd1 : d ≤ 1000000000) :
    Calls Tryz.prog 145 #[va, .int .u64 d] w fun e w' => ∃ v, e = .returned (.tuple #[v, .int .u64 ((Mth.val 1000000000 la % d : Nat) : Int)]) ∧ Below w.heap.size w w' ∧ Nt w' v (Mth.val 1000000000 la / d) := by
  obtain ⟨A, c, rfl, h1, h2, h3⟩ := ha
  simp only [u32s_length] at *
  have H3 := Lib.hid h3
  have HXA := Lib.hid hxa
  clear h3 hxa
  have hdz : ((d : Int) == 0) = false := by simpa using (by omega : ¬ (d : Int) = 0)
  have hmk := run_make_row' (P := Tryz.prog) 74 118 (.int .u32 0) 4 Tryz.underlying74 info_u32 rfl .i64 .i64 la.length (by omega) (by omega)
  go_enter Tryz.func145, Tryz.ntmps145
  go_wp2
  clear hmk
  go_loopw [7, 8] (fun a7 a8 wr => ∃ (i : Int) (r : Nat) (L : List Nat), a8 = .int .i64 i ∧ a7 = .int .u64 r ∧ -1 ≤ i ∧ i < la.length ∧ r < d ∧ L.length = la.length ∧ Own wr w.heap.size L ∧ (∀ d ∈ L, d < 1000000000) ∧
    Mth.val 1000000000 (la.drop (i + 1).toNat) = d * Mth.val 1000000000 (L.drop (i + 1).toNat) + r ∧ Below w.heap.size w wr) (fun _ a8 _ => (intOf a8 + 1).toNat)
  case atStart => exact ⟨(la.length : Int) - 1, 0, List.replicate la.length 0, rfl, rfl, by omega, by omega, hd0, by simp, Own.made w _, by simp, by rw [show ((la.length : Int) - 1 + 1).toNat = la.length by omega, List.drop_length]; simp [Mth.val], (Below.refl _ _).alloc (Nat.le_refl _) _⟩
  case round =>
    obtain ⟨i, r, L, rfl, rfl, hi1, hi2, hr, hl, hown, hd, hv, hB⟩ := hrel
    have HD := Lib.hid hd
    have HV := Lib.hid hv
    have HL := Lib.hid hl
    have hBs := hB.size
    clear hd hv
    by_cases h0 : i < 0
    · obtain rfl : i = -1 := by omega
      have hv := HV.out
      simp only [Int.reduceNeg, Int.reduceAdd, Int.toNat_zero, List.drop_zero] at hv
      have hq : Mth.val 1000000000 la / d = Mth.val 1000000000 L := by
        rw [hv, Nat.mul_add_div hd0, Nat.div_eq_of_lt hr, Nat.add_zero]
      have hm : Mth.val 1000000000 la % d = r := by
        rw [hv, Nat.mul_add_mod, Nat.mod_eq_of_lt hr]
      have hsl := hown.sl (c := la.length) (by omega) (by unfold maxLen; omega)
      rw [HL.out] at hsl
      have HQ := Lib.hid hq
      have HM := Lib.hid hm
      clear hv hl hq hm
      go_wp2_with (go_at_call 114; refine (trim_any L _ _ hsl (by rw [HL.out]; omega)).mono ?_; rintro e w' ⟨v', rfl, hS, rfl⟩)
      go_ret2
      refine ⟨v', by rw [HM.out]; rfl, hB, ?_⟩
      unfold Nt
      rw [HQ.out, ← Mth.tidy_eq (by omega) L HD.out]
      exact hS
    · obtain ⟨q, rfl⟩ : ∃ q : Nat, i = q := ⟨i.toNat, by omega⟩
      obtain ⟨b, o, rfl, hc⟩ := H3.out (by omega)
      have g1 := (Below.cell hB (World.block_lt_of_cell? w _ (hc q _ (u32s_at (by omega))))).trans (hc q _ (u32s_at (by omega)))
      have g0 := hown.cell (j := q) (by omega)
      have gf := hown.frozen q
      have b1 := Mth.getD_lt (by omega) HXA.out q
      obtain ⟨x, hx⟩ : ∃ x, la[q]?.getD 0 = x := ⟨_, rfl⟩
      obtain ⟨z, hz⟩ : ∃ z, L[q]?.getD 0 = z := ⟨_, rfl⟩
      rw [hx] at g1 b1
      rw [hz] at g0
      have HX := Lib.hid hx
      clear hx hz hc hl
      have ht : r * 1000000000 + x < d * 1000000000 := by
        have : (r + 1) * 1000000000 ≤ d * 1000000000 := Nat.mul_le_mul_right _ hr
        omega
      have e1 : ((r : Int) * 1000000000 + x) / (d : Int) = (((r * 1000000000 + x) / d : Nat) : Int) := by
        rw [Int.natCast_ediv]; simp
      have e2 : ((r : Int) * 1000000000 + x) % (d : Int) = (((r * 1000000000 + x) % d : Nat) : Int) := by
        rw [Int.natCast_emod]; simp
      have e3 : (r * 1000000000 + x) / d < 1000000000 := Nat.div_lt_of_lt_mul ht
      have hR2 : (r * 1000000000 + x) % d < d := Nat.mod_lt _ hd0
      obtain ⟨Q, hQ⟩ : ∃ Q, (r * 1000000000 + x) / d = Q := ⟨_, rfl⟩
      obtain ⟨R, hR⟩ : ∃ R, (r * 1000000000 + x) % d = R := ⟨_, rfl⟩
      rw [hQ] at e1 e3
      rw [hR] at e2 hR2
      have E1 := Lib.hid e1
      have E2 := Lib.hid e2
      have HQ := Lib.hid hQ
      have HR := Lib.hid hR
      clear e1 e2 hQ hR
      go_wp2
      go_region
      go_wp2
      go_roundw
      case rel =>
        have e4 : ((r : Int) * 1000000000 + x) / (d : Int) % 4294967296 = (Q : Int) := by rw [E1.out]; omega
        have hq3 : q < L.length := by rw [HL.out]; omega
        refine ⟨(q : Int) - 1, R, L.set q Q, rfl, by rw [E2.out], by omega, by omega, hR2, by simp [HL.out], by rw [e4]; exact (hown.set _ _).drew, Mth.mem_set_lt HD.out e3, ?_, (hB.setCell (p := ⟨w.heap.size, q, none⟩) (Nat.le_refl _) _).drew⟩
        have hv := HV.out
        rw [show ((q : Int) + 1).toNat = q + 1 by omega] at hv
        rw [show ((q : Int) - 1 + 1).toNat = q by omega, Mth.drop_set_self _ _ _ hq3, Mth.val_drop _ _ _ (by omega), HX.out, ← HQ.out, ← HR.out]
        exact Mth.short_step _ _ _ _ _ _ _ hv rfl
      case measure => simp [intOf]
end Go.Proofs.YtlildanamfjnmaaGreatDoor
