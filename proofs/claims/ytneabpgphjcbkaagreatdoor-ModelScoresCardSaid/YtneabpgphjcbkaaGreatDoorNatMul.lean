/-
  nat.Mul: the product.
-/
import Derived.Test.YtneabpgphjcbkaaGreatDoorNatA
namespace Go.Proofs.YtneabpgphjcbkaaGreatDoor
open Go.RowKit

set_option maxHeartbeats 2000000 in
set_option maxRecDepth 100000 in
theorem mul_list (la lb : List Nat) (hxa : ∀ d ∈ la, d < 1000000000) (hxb : ∀ d ∈ lb, d < 1000000000) (va vb : Value) (w : World) (ha : Sl w va (u32s la)) (hb : Sl w vb (u32s lb)) (_hs : la.length ≤ 1000000000000) (_ht : lb.length ≤ 1000000000000)
    (ha0 : 0 < la.length) (hb0 : 0 < lb.length) :
    Calls Tryz.prog 119 #[va, vb] w fun e w' => ∃ v, e = .returned v ∧ Below w.heap.size w w' ∧ Nt w' v (Mth.val 1000000000 la * Mth.val 1000000000 lb) := by
  obtain ⟨A, c, rfl, h1, h2, h3⟩ := ha
  obtain ⟨A', c', rfl, h1', h2', h3'⟩ := hb
  simp only [u32s_length] at *
  have H3 := Lib.hid h3
  have H3' := Lib.hid h3'
  have HXA := Lib.hid hxa
  have HXB := Lib.hid hxb
  clear h3 h3' hxa hxb
  have q1 : ((la.length : Int) == 0) = false := by simpa using (by omega : ¬ (la.length : Int) = 0)
  have q2 : ((lb.length : Int) == 0) = false := by simpa using (by omega : ¬ (lb.length : Int) = 0)
  have hmk := run_make_row' (P := Tryz.prog) 107 126 (.int .u32 0) 4 Tryz.underlying107 info_u32 rfl .i64 .i64 (la.length + lb.length) (by omega) (by omega)
  rw [show (((la.length + lb.length : Nat)) : Int) = (la.length : Int) + (lb.length : Int) by omega] at hmk
  go_enter Tryz.func119, Tryz.ntmps119
  go_wp2
  clear hmk
  go_loopw [28] (fun a28 wr => ∃ (i : Nat) (L : List Nat), a28 = .int .i64 i ∧ i ≤ la.length ∧ L.length = la.length + lb.length ∧ Own wr w.heap.size L ∧ (∀ d ∈ L, d < 1000000000) ∧
    (∀ j, i + lb.length ≤ j → L[j]?.getD 0 = 0) ∧ Mth.val 1000000000 L = Mth.val 1000000000 (la.take i) * Mth.val 1000000000 lb ∧ Below w.heap.size w wr) (fun a28 _ => la.length - (intOf a28).toNat)
  case atStart => exact ⟨0, List.replicate (la.length + lb.length) 0, rfl, by omega, by simp, Own.made w _, by simp, by intro j _; simp [List.getElem?_replicate]; split <;> rfl, by simp [Mth.val, Mth.val_replicate_zero], (Below.refl _ _).alloc (Nat.le_refl _) _⟩
  case round =>
    obtain ⟨i, L, rfl, hi, hl, hown, hd, hz, hv, hB⟩ := hrel
    have HD := Lib.hid hd
    have HV := Lib.hid hv
    have HL := Lib.hid hl
    have HZ := Lib.hid hz
    have HO := Lib.hid hown
    have hBs := hB.size
    clear hd hv hz
    by_cases hlt2 : i < la.length
    · have hi2 : (i : Int) < (la.length : Int) := by omega
      obtain ⟨b, o, rfl, hc⟩ := H3.out (by omega)
      have g1 := (Below.cell hB (World.block_lt_of_cell? w _ (hc i _ (u32s_at hlt2)))).trans (hc i _ (u32s_at hlt2))
      have b1 := Mth.getD_lt (by omega) HXA.out i
      obtain ⟨x, hx⟩ : ∃ x, la[i]?.getD 0 = x := ⟨_, rfl⟩
      rw [hx] at g1 b1
      have HX := Lib.hid hx
      have HL2 := Lib.hid hlt2
      clear hx hc hlt2 hl hown
      go_wp2
      obtain ⟨wo, rfl⟩ : ∃ wo : World, wo = wr := ⟨_, rfl⟩
      go_loopw [8, 35] (fun a8 a35 wi => ∃ (k cy : Nat) (M : List Nat), a35 = .int .i64 k ∧ a8 = .int .u64 cy ∧ k ≤ lb.length ∧ cy < 1000000000 ∧ M.length = la.length + lb.length ∧ Own wi w.heap.size M ∧ (∀ d ∈ M, d < 1000000000) ∧
        (∀ j, i + lb.length ≤ j → M[j]?.getD 0 = 0) ∧ Mth.val 1000000000 M + 1000000000 ^ (i + k) * cy = Mth.val 1000000000 L + 1000000000 ^ i * (x * Mth.val 1000000000 (lb.take k)) ∧ Below w.heap.size w wi) (fun _ a35 _ => lb.length - (intOf a35).toNat)
      case atStart => exact ⟨0, 0, L, rfl, rfl, by omega, by omega, HL.out, HO.out, HD.out, HZ.out, by simp [Mth.val], hB⟩
      case round =>
        obtain ⟨k, cy, M, rfl, rfl, hk, hcy, hl, hown, hd, hz, hv, hB'⟩ := hrel
        have HD' := Lib.hid hd
        have HV' := Lib.hid hv
        have HL' := Lib.hid hl
        have HZ' := Lib.hid hz
        have hBs' := hB'.size
        clear hd hv hz
        by_cases hlt3 : k < lb.length
        · have hk2 : (k : Int) < (lb.length : Int) := by omega
          obtain ⟨b', o', rfl, hc'⟩ := H3'.out (by omega)
          have g2 := (Below.cell hB' (World.block_lt_of_cell? w _ (hc' k _ (u32s_at hlt3)))).trans (hc' k _ (u32s_at hlt3))
          have b2 := Mth.getD_lt (by omega) HXB.out k
          have g0 := hown.cell (j := i + k) (by have := HL2.out; omega)
          have gf := hown.frozen (i + k)
          have b3 := Mth.getD_lt (by omega) HD'.out (i + k)
          obtain ⟨y, hy⟩ : ∃ y, lb[k]?.getD 0 = y := ⟨_, rfl⟩
          obtain ⟨z, hz⟩ : ∃ z, M[i + k]?.getD 0 = z := ⟨_, rfl⟩
          rw [hy] at g2 b2
          rw [hz] at g0 b3
          have HY := Lib.hid hy
          have HZ0 := Lib.hid hz
          have HL3 := Lib.hid hlt3
          have hp0 : 0 ≤ (x : Int) * (y : Int) := Int.mul_nonneg (by omega) (by omega)
          have hp1 : (x : Int) * (y : Int) ≤ 999999998000000001 := by
            have h : x * y ≤ 999999999 * 999999999 := Nat.mul_le_mul (by omega) (by omega)
            rw [← Int.natCast_mul]; omega
          have HP0 := Lib.hid hp0
          clear hy hz hc' hlt3 hl
          go_wp2
          have e1 : ((x : Int) * (y : Int) + z + cy) % 1000000000 = (((x * y + z + cy) % 1000000000 : Nat) : Int) := by
            rw [Int.natCast_emod]; simp
          have e2 : ((x : Int) * (y : Int) + z + cy) / 1000000000 = (((x * y + z + cy) / 1000000000 : Nat) : Int) := by
            rw [Int.natCast_ediv]; simp
          go_roundw
          case rel =>
            have h5 : x * y ≤ 999999999 * 999999999 := Nat.mul_le_mul (by omega) (by omega)
            refine ⟨k + 1, (x * y + z + cy) / 1000000000, M.set (i + k) ((x * y + z + cy) % 1000000000), by go_num, by rw [e2], by omega, by omega, by simp [HL'.out], by rw [e1]; exact hown.set _ _, Mth.mem_set_lt (d := (x * y + z + cy) % 1000000000) HD'.out (Nat.mod_lt _ (by omega)), ?_, ?_, hB'.setCell (p := ⟨w.heap.size, i + k, none⟩) (Nat.le_refl _) _⟩
            · intro j hj
              rw [Mth.set_get_other (d := (x * y + z + cy) % 1000000000) (by have := HL3.out; omega)]
              exact HZ'.out j hj
            · rw [Mth.val_take_succ _ _ _ HL3.out, HY.out]
              refine Mth.mul_step _ _ _ _ _ _ _ z cy _ _ _ HV'.out ?_ rfl
              have := Mth.val_set 1000000000 M (i + k) ((x * y + z + cy) % 1000000000) (by have := HL2.out; have := HL3.out; have := HL'.out; omega)
              rwa [HZ0.out] at this
          case measure => simp [intOf]; omega
        · obtain rfl : k = lb.length := by omega
          have g0 := hown.cell (j := i + lb.length) (by have := HL2.out; omega)
          have gf := hown.frozen (i + lb.length)
          rw [HZ'.out _ (Nat.le_refl _)] at g0
          clear hl
          go_wp2
          go_roundw
          case rel =>
            refine ⟨i + 1, M.set (i + lb.length) cy, by go_num, by omega, by simp [HL'.out], hown.set _ _, Mth.mem_set_lt HD'.out hcy, ?_, ?_, hB'.setCell (p := ⟨w.heap.size, i + lb.length, none⟩) (Nat.le_refl _) _⟩
            · intro j hj
              rw [Mth.set_get_other (d := cy) (by omega)]
              exact HZ'.out j (by omega)
            · have h6 := Mth.val_set 1000000000 M (i + lb.length) cy (by have := HL2.out; have := HL'.out; omega)
              rw [HZ'.out _ (Nat.le_refl _)] at h6
              have h7 := HV'.out
              rw [List.take_length, HV.out] at h7
              rw [Mth.val_take_succ _ _ _ HL2.out, HX.out, Nat.add_mul, Nat.mul_assoc]
              omega
          case measure => simp [intOf]; omega
    · obtain rfl : i = la.length := by omega
      have hsl := hown.sl (c := la.length + lb.length) (by omega) (by unfold maxLen; omega)
      rw [HL.out] at hsl
      have hv := HV.out
      rw [List.take_length] at hv
      have HE := Lib.hid hv
      clear hv hl
      go_wp2_with (go_at_call 109; refine (trim_any L _ _ hsl (by rw [HL.out]; omega)).mono ?_; rintro e w' ⟨v', rfl, hS, rfl⟩)
      go_ret
      refine ⟨v', rfl, hB, ?_⟩
      unfold Nt
      rw [← HE.out, ← Mth.tidy_eq (by omega) L HD.out]
      exact hS

theorem mul_zero_l (lb : List Nat) (va vb : Value) (w : World) (ha : Sl w va []) (hb : Sl w vb (u32s lb)) :
    Calls Tryz.prog 119 #[va, vb] w fun e w' => e = .returned (.slice none 0 0) ∧ w = w' := by
  obtain ⟨A, c, rfl, h1, h2, h3⟩ := ha
  obtain ⟨A', c', rfl, h1', h2', h3'⟩ := hb
  clear h3 h3' h1 h1'
  go_enter Tryz.func119, Tryz.ntmps119
  go_wp2
  go_ret
  exact ⟨rfl, rfl⟩
theorem mul_zero_r (la : List Nat) (va vb : Value) (w : World) (ha : Sl w va (u32s la)) (hb : Sl w vb []) (ha0 : 0 < la.length) (_hs : la.length ≤ 1000000000000) :
    Calls Tryz.prog 119 #[va, vb] w fun e w' => e = .returned (.slice none 0 0) ∧ w = w' := by
  obtain ⟨A, c, rfl, h1, h2, h3⟩ := ha
  obtain ⟨A', c', rfl, h1', h2', h3'⟩ := hb
  simp only [u32s_length] at *
  clear h3 h3' h1 h1'
  have q1 : ((la.length : Int) == 0) = false := by simpa using (by omega : ¬ (la.length : Int) = 0)
  go_enter Tryz.func119, Tryz.ntmps119
  go_wp2
  go_ret
  exact ⟨rfl, rfl⟩
theorem mul_any (m n : Nat) (va vb : Value) (w : World) (ha : Nt w va m) (hb : Nt w vb n) (hs : (Mth.dg 1000000000 m).length ≤ 1000000000000) (ht : (Mth.dg 1000000000 n).length ≤ 1000000000000) :
    Calls Tryz.prog 119 #[va, vb] w fun e w' => ∃ v, e = .returned v ∧ Below w.heap.size w w' ∧ Nt w' v (m * n) := by
  rcases Nat.eq_zero_or_pos m with rfl | hm
  · have ha' : Sl w va [] := by have := ha; unfold Nt at this; rwa [Mth.dg_zero] at this
    refine (mul_zero_l _ va vb w ha' hb).mono ?_
    rintro e w' ⟨rfl, rfl⟩
    refine ⟨_, rfl, Below.refl _ _, ?_⟩
    unfold Nt
    rw [Nat.zero_mul, Mth.dg_zero]
    exact Sl.nil_ w
  · have hl1 : 0 < (Mth.dg 1000000000 m).length := List.length_pos_iff.2 (Mth.dg_ne_nil (by omega) hm)
    rcases Nat.eq_zero_or_pos n with rfl | hn
    · have hb' : Sl w vb [] := by have := hb; unfold Nt at this; rwa [Mth.dg_zero] at this
      refine (mul_zero_r _ va vb w ha hb' hl1 hs).mono ?_
      rintro e w' ⟨rfl, rfl⟩
      refine ⟨_, rfl, Below.refl _ _, ?_⟩
      unfold Nt
      rw [Nat.mul_zero, Mth.dg_zero]
      exact Sl.nil_ w
    · have hl2 : 0 < (Mth.dg 1000000000 n).length := List.length_pos_iff.2 (Mth.dg_ne_nil (by omega) hn)
      have h := mul_list (Mth.dg 1000000000 m) (Mth.dg 1000000000 n) (Mth.dg_lt (by omega) m) (Mth.dg_lt (by omega) n) va vb w ha hb hs ht hl1 hl2
      rwa [Mth.val_dg (by omega), Mth.val_dg (by omega)] at h
end Go.Proofs.YtneabpgphjcbkaaGreatDoor
