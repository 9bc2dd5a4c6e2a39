/-
  nat.Sub: the difference.
-/
import Derived.Test.YtaibpeokfbokfaaGreatDoorNatA
namespace Go.Proofs.YtaibpeokfbokfaaGreatDoor
open Go.RowKit

set_option maxHeartbeats 2000000 in
set_option maxRecDepth 100000 in
theorem sub_list (la lb : List Nat) (hxa : ∀ d ∈ la, d < 1000000000) (hxb : ∀ d ∈ lb, d < 1000000000) (va vb : Value) (w : World) (ha : Sl w va (u32s la)) (hb : Sl w vb (u32s lb)) (_hs : la.length ≤ 1000000000000)
    (hle : lb.length ≤ la.length) (hvl : Mth.val 1000000000 lb ≤ Mth.val 1000000000 la) :
    Calls Tryz.prog 95 #[va, vb] w fun e w' => ∃ v, e = .returned v ∧ Below w.heap.size w w' ∧ Nt w' v (Mth.val 1000000000 la - Mth.val 1000000000 lb) := by
  obtain ⟨i0, hi, hz0, hz1, hz2⟩ := info_parts info_u32
  obtain ⟨A, c, rfl, h1, h2, h3⟩ := ha
  obtain ⟨A', c', rfl, h1', h2', h3'⟩ := hb
  simp only [u32s_length] at *
  have H3 := Lib.hid h3
  have H3' := Lib.hid h3'
  have HXA := Lib.hid hxa
  have HXB := Lib.hid hxb
  have HVL := Lib.hid hvl
  clear h3 h3' hxa hxb hvl
  have hmk := run_make_row' (P := Tryz.prog) 76 114 (.int .u32 0) 4 Tryz.underlying76 info_u32 rfl .i64 .i64 la.length (by omega) (by omega)
  go_enter Tryz.func95, Tryz.ntmps95
  go_wp2
  clear hmk
  go_loopw [6, 15] (fun a6 a15 wr => ∃ (k cy : Nat) (L : List Nat), a15 = .int .i64 k ∧ a6 = .int .u32 cy ∧ k ≤ la.length ∧ cy ≤ 1 ∧ L.length = la.length ∧ Own wr w.heap.size L ∧ (∀ d ∈ L.take k, d < 1000000000) ∧
    Mth.val 1000000000 (L.take k) + Mth.val 1000000000 (lb.take k) = Mth.val 1000000000 (la.take k) + 1000000000 ^ k * cy ∧ Below w.heap.size w wr) (fun _ a15 _ => la.length - (intOf a15).toNat)
  case atStart => exact ⟨0, 0, List.replicate la.length 0, rfl, rfl, by omega, by omega, by simp, Own.made w _, by simp, by simp [Mth.val], (Below.refl _ _).alloc (Nat.le_refl _) _⟩
  case round =>
    obtain ⟨k, cy, L, rfl, rfl, hk, hcy, hl, hown, hd, hv, hB⟩ := hrel
    have HD := Lib.hid hd
    have HV := Lib.hid hv
    have HL := Lib.hid hl
    have hBs := hB.size
    by_cases hlt2 : k < la.length
    · have hk2 : (k : Int) < (la.length : Int) := by omega
      obtain ⟨b, o, rfl, hc⟩ := H3.out (by omega)
      have g1 := (Below.cell hB (World.block_lt_of_cell? w _ (hc k _ (u32s_at hlt2)))).trans (hc k _ (u32s_at hlt2))
      have g0 := hown.cell (j := k) (by omega)
      have gf := hown.frozen k
      have b1 := Mth.getD_lt (by omega) HXA.out k
      obtain ⟨x, hx⟩ : ∃ x, la[k]?.getD 0 = x := ⟨_, rfl⟩
      obtain ⟨z, hz⟩ : ∃ z, L[k]?.getD 0 = z := ⟨_, rfl⟩
      rw [hx] at g1 b1
      rw [hz] at g0
      have HX := Lib.hid hx
      have HL2 := Lib.hid hlt2
      clear hx hz hc hlt2 hd hv hl
      by_cases hkb : k < lb.length
      · have hkb2 : (k : Int) < (lb.length : Int) := by omega
        obtain ⟨b', o', rfl, hc'⟩ := H3'.out (by omega)
        have g2 := (Below.cell hB (World.block_lt_of_cell? w _ (hc' k _ (u32s_at hkb)))).trans (hc' k _ (u32s_at hkb))
        have b2 := Mth.getD_lt (by omega) HXB.out k
        obtain ⟨y, hy⟩ : ∃ y, lb[k]?.getD 0 = y := ⟨_, rfl⟩
        rw [hy] at g2 b2
        have HY := Lib.hid hy
        have HKB := Lib.hid hkb
        clear hy hc' hkb
        by_cases hxy : x < cy + y
        · have hcm : (x : Int) < (cy : Int) + y := by omega
          clear hxy
          go_wp2
          have hval : (x : Int) + 1000000000 - ((cy : Int) + y) = ((x + 1000000000 - (cy + y) : Nat) : Int) := by omega
          rw [hval]
          go_roundw
          case rel =>
            refine ⟨k + 1, 1, L.set k (x + 1000000000 - (cy + y)), by go_num, rfl, by omega, by omega, by simp [HL.out], hown.set _ _, ?_, ?_, hB.setCell (p := ⟨w.heap.size, k, none⟩) (Nat.le_refl _) _⟩
            · rw [Mth.take_set_succ _ _ _ (by rw [HL.out]; exact HL2.out)]
              intro d hd
              rcases List.mem_append.1 hd with h | h
              · exact HD.out d h
              · simp at h; omega
            · rw [Mth.take_set_succ _ _ _ (by rw [HL.out]; exact HL2.out), Mth.val_snoc, Mth.val_take_succ _ _ _ HL2.out, Mth.val_take_succ _ _ _ HKB.out, HY.out, HX.out, Nat.pow_succ, List.length_take, Nat.min_eq_left (by rw [HL.out]; exact Nat.le_of_lt HL2.out)]
              exact Mth.sub_step _ _ _ _ _ _ _ _ _ _ HV.out (by omega)
          case measure => simp [intOf]; omega
        · have hcm : (cy : Int) + y ≤ (x : Int) := by omega
          clear hxy
          go_wp2
          have hval : (x : Int) - ((cy : Int) + y) = ((x - (cy + y) : Nat) : Int) := by omega
          rw [hval]
          go_roundw
          case rel =>
            refine ⟨k + 1, 0, L.set k (x - (cy + y)), by go_num, rfl, by omega, by omega, by simp [HL.out], hown.set _ _, ?_, ?_, hB.setCell (p := ⟨w.heap.size, k, none⟩) (Nat.le_refl _) _⟩
            · rw [Mth.take_set_succ _ _ _ (by rw [HL.out]; exact HL2.out)]
              intro d hd
              rcases List.mem_append.1 hd with h | h
              · exact HD.out d h
              · simp at h; omega
            · rw [Mth.take_set_succ _ _ _ (by rw [HL.out]; exact HL2.out), Mth.val_snoc, Mth.val_take_succ _ _ _ HL2.out, Mth.val_take_succ _ _ _ HKB.out, HY.out, HX.out, Nat.pow_succ, List.length_take, Nat.min_eq_left (by rw [HL.out]; exact Nat.le_of_lt HL2.out)]
              exact Mth.sub_step _ _ _ _ _ _ _ _ _ _ HV.out (by omega)
          case measure => simp [intOf]; omega
      · have hkb2 : (lb.length : Int) ≤ (k : Int) := by omega
        have HKB := Lib.hid hkb
        clear hkb
        by_cases hxy : x < cy
        · have hcm : (x : Int) < (cy : Int) := by omega
          clear hxy
          go_wp2
          have hval : (x : Int) + 1000000000 - ((cy : Int)) = ((x + 1000000000 - (cy) : Nat) : Int) := by omega
          rw [hval]
          go_roundw
          case rel =>
            refine ⟨k + 1, 1, L.set k (x + 1000000000 - (cy)), by go_num, rfl, by omega, by omega, by simp [HL.out], hown.set _ _, ?_, ?_, hB.setCell (p := ⟨w.heap.size, k, none⟩) (Nat.le_refl _) _⟩
            · rw [Mth.take_set_succ _ _ _ (by rw [HL.out]; exact HL2.out)]
              intro d hd
              rcases List.mem_append.1 hd with h | h
              · exact HD.out d h
              · simp at h; omega
            · rw [Mth.take_set_succ _ _ _ (by rw [HL.out]; exact HL2.out), Mth.val_snoc, Mth.val_take_succ _ _ _ HL2.out, Mth.val_take_ge _ _ _ (by have := HKB.out; omega), HX.out, Nat.pow_succ, List.length_take, Nat.min_eq_left (by rw [HL.out]; exact Nat.le_of_lt HL2.out)]
              exact Mth.sub_step _ _ _ _ _ _ _ 0 _ _ HV.out (by omega)
          case measure => simp [intOf]; omega
        · have hcm : (cy : Int) ≤ (x : Int) := by omega
          clear hxy
          go_wp2
          have hval : (x : Int) - ((cy : Int)) = ((x - (cy) : Nat) : Int) := by omega
          rw [hval]
          go_roundw
          case rel =>
            refine ⟨k + 1, 0, L.set k (x - (cy)), by go_num, rfl, by omega, by omega, by simp [HL.out], hown.set _ _, ?_, ?_, hB.setCell (p := ⟨w.heap.size, k, none⟩) (Nat.le_refl _) _⟩
            · rw [Mth.take_set_succ _ _ _ (by rw [HL.out]; exact HL2.out)]
              intro d hd
              rcases List.mem_append.1 hd with h | h
              · exact HD.out d h
              · simp at h; omega
            · rw [Mth.take_set_succ _ _ _ (by rw [HL.out]; exact HL2.out), Mth.val_snoc, Mth.val_take_succ _ _ _ HL2.out, Mth.val_take_ge _ _ _ (by have := HKB.out; omega), HX.out, Nat.pow_succ, List.length_take, Nat.min_eq_left (by rw [HL.out]; exact Nat.le_of_lt HL2.out)]
              exact Mth.sub_step _ _ _ _ _ _ _ 0 _ _ HV.out (by omega)
          case measure => simp [intOf]; omega
    · obtain rfl : k = la.length := by omega
      have hv := HV.out
      rw [List.take_length, List.take_of_length_le (by omega), List.take_of_length_le (by omega)] at hv
      have hd := HD.out
      rw [List.take_of_length_le (by omega)] at hd
      have hvl := HVL.out
      have hL := Mth.val_lt (b := 1000000000) (by omega) L hd
      rw [HL.out] at hL
      obtain rfl : cy = 0 := by
        rcases Nat.lt_or_ge 0 cy with h | h
        · obtain rfl : cy = 1 := by omega
          omega
        · omega
      have hsl := hown.sl (c := la.length) (by omega) (by unfold maxLen; omega)
      rw [HL.out] at hsl
      have he : Mth.val 1000000000 L = Mth.val 1000000000 la - Mth.val 1000000000 lb := by omega
      have HE := Lib.hid he
      have HDD := Lib.hid hd
      clear hv hd hvl hL he hl
      go_wp2_with (go_at_call 108; refine (trim_any L _ _ hsl (by rw [HL.out]; omega)).mono ?_; rintro e w' ⟨v', rfl, hS, rfl⟩)
      go_ret
      refine ⟨v', rfl, hB, ?_⟩
      unfold Nt
      rw [← HE.out, ← Mth.tidy_eq (by omega) L HDD.out]
      exact hS
theorem sub_any (m n : Nat) (va vb : Value) (w : World) (ha : Nt w va m) (hb : Nt w vb n) (hs : (Mth.dg 1000000000 m).length ≤ 1000000000000) (hle : n ≤ m) :
    Calls Tryz.prog 95 #[va, vb] w fun e w' => ∃ v, e = .returned v ∧ Below w.heap.size w w' ∧ Nt w' v (m - n) := by
  have h := sub_list (Mth.dg 1000000000 m) (Mth.dg 1000000000 n) (Mth.dg_lt (by omega) m) (Mth.dg_lt (by omega) n) va vb w ha hb hs (by
    rcases Nat.lt_or_ge (Mth.dg 1000000000 m).length (Mth.dg 1000000000 n).length with h | h
    · have := Mth.lt_of_len (b := 1000000000) (by omega) h
      omega
    · exact h) (by rw [Mth.val_dg (by omega), Mth.val_dg (by omega)]; exact hle)
  rwa [Mth.val_dg (by omega), Mth.val_dg (by omega)] at h
end Go.Proofs.YtaibpeokfbokfaaGreatDoor
