/-
  Power of frac, Pow of the reference.
-/
import Derived.Test.YtaibpeokfbokfaaGreatDoorSgn
import Derived.Test.YtaibpeokfbokfaaGreatDoorTail
import Derived.Outline
namespace Go.Proofs.YtaibpeokfbokfaaGreatDoor.Mth
theorem dg_len_pow {b k : Nat} (hb : 2 ≤ b) {x : Nat} (hx : (dg b x).length ≤ k) : ∀ n : Nat, (dg b (x ^ n)).length ≤ n * k + 1
  | 0 => by
    rw [Nat.pow_zero]
    exact Nat.le_trans (dg_len_le hb 1 _ (by rw [Nat.pow_one]; omega)) (by omega)
  | n + 1 => by
    rw [Nat.pow_succ]
    have h1 := dg_len_pow hb hx n
    have h2 := dg_len_mul (b := b) hb (x ^ n) x
    rw [Nat.add_mul, Nat.one_mul]
    omega
end Go.Proofs.YtaibpeokfbokfaaGreatDoor.Mth
namespace Go.Proofs.YtaibpeokfbokfaaGreatDoor
open Go.RowKit

theorem nt_store2 {w : World} {v : Value} {n g : Nat} {t : TypeId} {x0 x1 x2 y1 y2 : Value} (h : Nt w v n) (hb : Blk w g t #[x0, x1, x2]) (a0 : NotI x0) (a1 : NotI x1) (a2 : NotI x2) (b1 : NotI y1) :
    Nt ((w.setCell ⟨g, 1, none⟩ y1).setCell ⟨g, 2, none⟩ y2) v n := by
  have h1 := h.set (i := 1) (x := y1) (NoInt.of hb (notI3 a0 a1 a2))
  have hb1 : Blk (w.setCell ⟨g, 1, none⟩ y1) g t #[x0, y1, x2] := hb.set 1 y1
  exact h1.set (i := 2) (x := y2) (NoInt.of hb1 (notI3 a0 b1 a2))
/-- the power's number below, as frac.Power has it -/
def pwD (m d n : Nat) : Nat := if m ^ n = 0 then 1 else d ^ n
/-- the sign after so many factors -/
def pwS (g : Bool) (j : Nat) : Bool := g && decide (j % 2 = 1)
theorem pwS_zero (g : Bool) : pwS g 0 = false := by unfold pwS; simp
theorem pwS_succ (g : Bool) (j : Nat) : (!(pwS g j == g)) = pwS g (j + 1) := by
  unfold pwS
  rcases Nat.mod_two_eq_zero_or_one j with h | h
  · have h2 : (j + 1) % 2 = 1 := by omega
    cases g <;> simp [h, h2]
  · have h2 : (j + 1) % 2 = 0 := by omega
    cases g <;> simp [h, h2]

set_option maxHeartbeats 4000000 in
set_option maxRecDepth 100000 in
theorem fpow_false (s : Bool) (m d n : Nat) (x y : Value) (w : World) (h1 : Nt w x m) (h2 : Nt w y d) (l1 : (Mth.dg 1000000000 m).length ≤ 1000000) (l2 : (Mth.dg 1000000000 d).length ≤ 1000000) (hn : n ≤ 64) (hs : pwS false n = s) :
    Calls Tryz.prog 56 #[.agg #[.bool false, x, y], .int .i64 n] w (FNum (rneg s (m ^ n)) (m ^ n) (pwD m d n) w) := by
  obtain ⟨A1, n1, k1, rfl⟩ := h1.shape
  obtain ⟨A2, n2, k2, rfl⟩ := h2.shape
  obtain ⟨W, hW⟩ : ∃ W, W = (w.alloc (.cells #[.bool false, .slice A1 n1 k1, .slice A2 n2 k2] 78)).alloc (.cells #[.bool false, .slice none 0 0, .slice none 0 0] 78) := ⟨_, rfl⟩
  have hBW : Below w.heap.size w W := by rw [hW]; exact ((Below.refl _ w).alloc (Nat.le_refl _) _).alloc (by simp) _
  have hk0 : Blk W w.heap.size 78 #[.bool false, .slice A1 n1 k1, .slice A2 n2 k2] := by rw [hW]; exact (Blk.new w _ _).alloc _
  have hk2 : Blk W (w.heap.size + 1) 78 #[.bool false, .slice none 0 0, .slice none 0 0] := by
    rw [hW]
    have := Blk.new (w.alloc (.cells #[.bool false, .slice A1 n1 k1, .slice A2 n2 k2] 78)) 78 #[.bool false, .slice none 0 0, .slice none 0 0]
    rwa [World.size_alloc] at this
  have e0 := hk0.cell 0
  have e1 := hk0.cell 1
  have e2 := hk0.cell 2
  simp only [List.getElem?_toArray, List.getElem?_cons_zero, List.getElem?_cons_succ] at e0 e1 e2
  have z0 := hk2.lt
  have HS : Hid (∀ w', Below W.heap.size W w' → w'.cell? ⟨w.heap.size, 0, none⟩ = some (.bool false) ∧ w'.cell? ⟨w.heap.size, 1, none⟩ = some (.slice A1 n1 k1) ∧ w'.cell? ⟨w.heap.size, 2, none⟩ = some (.slice A2 n2 k2)) := Lib.hid fun w' hb =>
    ⟨(hb.cell (p := ⟨w.heap.size, 0, none⟩) (by show w.heap.size < _; omega)).trans e0, (hb.cell (p := ⟨w.heap.size, 1, none⟩) (by show w.heap.size < _; omega)).trans e1, (hb.cell (p := ⟨w.heap.size, 2, none⟩) (by show w.heap.size < _; omega)).trans e2⟩
  have H1 := Lib.hid (h1.below hBW)
  have H2 := Lib.hid (h2.below hBW)
  have HW := Lib.hid hW
  have HBW := Lib.hid hBW
  have HK2 := Lib.hid hk2
  have LP : Hid (∀ j, j ≤ 64 → (Mth.dg 1000000000 (m ^ j)).length ≤ 100000000 ∧ (Mth.dg 1000000000 (d ^ j)).length ≤ 100000000) := Lib.hid fun j hj =>
    ⟨Nat.le_trans (Mth.dg_len_pow (by omega) l1 j) (Nat.le_trans (Nat.add_le_add_right (Nat.mul_le_mul_right 1000000 hj) 1) (by decide)), Nat.le_trans (Mth.dg_len_pow (by omega) l2 j) (Nat.le_trans (Nat.add_le_add_right (Nat.mul_le_mul_right 1000000 hj) 1) (by decide))⟩
  have HSV : Hid (s = false) := Lib.hid (by rw [← hs]; rfl)
  have HN := Lib.hid hn
  obtain ⟨M, hM⟩ : ∃ M, m ^ n = M := ⟨_, rfl⟩
  obtain ⟨D, hD⟩ : ∃ D, d ^ n = D := ⟨_, rfl⟩
  obtain ⟨E, hE⟩ : ∃ E, pwD m d n = E := ⟨_, rfl⟩
  have HE : Hid ((M = 0 → E = 1) ∧ (M ≠ 0 → E = D)) := Lib.hid (by rw [← hM, ← hD, ← hE]; unfold pwD; exact ⟨fun h => if_pos h, fun h => if_neg h⟩)
  have HM := Lib.hid hM
  have HD := Lib.hid hD
  rw [hM, hE]
  clear hM hD hE
  clear hW hBW hk0 hk2 h1 h2 hs
  go_enter Tryz.func56, Tryz.ntmps56
  go_wp2_with fail
  rw [← HW.out]
  refine (fone_any _).mono ?_
  rintro e w1 ⟨v1, rfl, hN1, hB1⟩
  have HN1 := Lib.hid hN1
  have HB1 := Lib.hid hB1
  clear hN1 hB1
  go_wp2_with fail
  refine (fone_any _).mono ?_
  rintro e w2 ⟨v2, rfl, hN2, hB2⟩
  have HN2 := Lib.hid hN2
  have HN1' := Lib.hid (HN1.out.below hB2)
  have HB2 : Hid (Below W.heap.size W w2) := Lib.hid (HB1.out.trans (hB2.mono HB1.out.size))
  obtain ⟨A3, n3, k3, rfl⟩ := HN1'.out.shape
  obtain ⟨A4, n4, k4, rfl⟩ := HN2.out.shape
  clear hN2 hB2 HN1
  obtain ⟨W3, hW3⟩ : ∃ W3, W3 = w2.alloc (.cells #[.bool false, .slice A3 n3 k3, .slice A4 n4 k4] 78) := ⟨_, rfl⟩
  have HW3 := Lib.hid hW3
  have HKP : Hid (Blk W3 w2.heap.size 78 #[.bool false, .slice A3 n3 k3, .slice A4 n4 k4]) := Lib.hid (by rw [hW3]; exact Blk.new w2 _ _)
  have HB3 : Hid (Below W.heap.size W W3) := Lib.hid (by rw [hW3]; exact HB2.out.alloc HB2.out.size _)
  have HN3 : Hid (Nt W3 (.slice A3 n3 k3) 1) := Lib.hid (by rw [hW3]; exact Sl.alloc HN1'.out _)
  have HN4 : Hid (Nt W3 (.slice A4 n4 k4) 1) := Lib.hid (by rw [hW3]; exact Sl.alloc HN2.out _)
  have HPW : Hid (W.heap.size ≤ w2.heap.size) := Lib.hid HB2.out.size
  clear hW3 HN1' HN2 e0 e1 e2
  go_wp2
  rw [← HW3.out]
  go_loopw [17] (fun a17 wr => ∃ (j : Nat) (B3 B4 : Option Addr) (a3 c3 a4 c4 : Nat), a17 = .int .i64 j ∧ j ≤ n ∧ Blk wr w2.heap.size 78 #[.bool false, .slice B3 a3 c3, .slice B4 a4 c4] ∧ Nt wr (.slice B3 a3 c3) (m ^ j) ∧ Nt wr (.slice B4 a4 c4) (d ^ j) ∧ Below W.heap.size W wr ∧ w2.heap.size < wr.heap.size) (fun a17 _ => n - (intOf a17).toNat)
  case atStart => exact ⟨0, _, _, _, _, _, _, rfl, Nat.zero_le _, HKP.out, by rw [Nat.pow_zero]; exact HN3.out, by rw [Nat.pow_zero]; exact HN4.out, HB3.out, HKP.out.lt⟩
  case round =>
    obtain ⟨j, B3, B4, a3, c3, a4, c4, rfl, hj, hkp, hp3, hp4, hbr, hlt⟩ := hrel
    have HKPr := Lib.hid hkp
    have HP3 := Lib.hid hp3
    have HP4 := Lib.hid hp4
    have HBR := Lib.hid hbr
    have hbr0 := hbr
    obtain ⟨e0, e1, e2⟩ := HS.out wr hbr
    have c1 := hkp.cell 1
    have c2 := hkp.cell 2
    have f1 := hkp.frozen 1
    have f2 := hkp.frozen 2
    simp only [List.getElem?_toArray, List.getElem?_cons_zero, List.getElem?_cons_succ] at c1 c2
    have HLP := Lib.hid (LP.out j (by omega))
    have HA1 := Lib.hid (H1.out.below hbr)
    have HA2 := Lib.hid (H2.out.below hbr)
    clear hkp hp3 hp4 hbr
    by_cases hjn : j < n
    · have hj1 : (j : Int) < (n : Int) := by omega
      clear hbr0
      go_wp2_with fail
      refine wp_region_steps (fun w' => w'.cell? ⟨w2.heap.size, 1, none⟩ = some (.slice B3 a3 c3) ∧ w'.cell? ⟨w2.heap.size, 2, none⟩ = some (.slice B4 a4 c4) ∧ w'.cell? ⟨w.heap.size, 1, none⟩ = some (.slice A1 n1 k1) ∧ w'.cell? ⟨w.heap.size, 2, none⟩ = some (.slice A2 n2 k2)) 11 [(0, true), (2, true), (5, true), (7, true), (1, true), (3, true), (6, true), (8, true), (4, false), (10, true), (9, false)] (by kernel_rfl) (by kernel_rfl) ⟨c1, c2, e1, e2⟩ ?_
      refine ⟨_, ?_, rfl, Or.inl ⟨by rfl, ?_⟩, fun _ _ _ h => h, ?_⟩
      rotate_left
      · intro w' hSw
        try dsimp only at hSw
        go_simp
        try with_reducible rfl
      simp only [Act.put, List.setIfInBounds_toArray]
      refine ⟨_, ?_, rfl, Or.inl ⟨by rfl, ?_⟩, fun _ _ _ h => h, ?_⟩
      rotate_left
      · intro w' hSw
        try dsimp only at hSw
        go_simp
        try with_reducible rfl
      simp only [Act.put]
      refine ⟨_, ?_, rfl, Or.inl ⟨by rfl, ?_⟩, fun _ _ _ h => h, ?_⟩
      rotate_left
      · intro w' hSw
        try dsimp only at hSw
        go_simp
        try with_reducible rfl
      simp only [Act.put]
      refine ⟨_, ?_, rfl, Or.inl ⟨by rfl, ?_⟩, fun _ _ _ h => h, ?_⟩
      rotate_left
      · intro w' hSw
        try dsimp only at hSw
        go_simp
        try with_reducible rfl
      simp only [Act.put]
      refine ⟨_, ?_, rfl, Or.inl ⟨by rfl, ?_⟩, fun _ _ _ h => h, ?_⟩
      rotate_left
      · intro w' hSw
        try dsimp only at hSw
        go_simp
        try with_reducible rfl
      simp only [Act.put]
      refine ⟨_, ?_, rfl, Or.inl ⟨by rfl, ?_⟩, fun _ _ _ h => h, ?_⟩
      rotate_left
      · intro w' hSw
        try dsimp only at hSw
        go_simp
        try with_reducible rfl
      simp only [Act.put]
      refine ⟨_, ?_, rfl, Or.inl ⟨by rfl, ?_⟩, fun _ _ _ h => h, ?_⟩
      rotate_left
      · intro w' hSw
        try dsimp only at hSw
        go_simp
        try with_reducible rfl
      simp only [Act.put]
      refine ⟨_, ?_, rfl, Or.inl ⟨by rfl, ?_⟩, fun _ _ _ h => h, ?_⟩
      rotate_left
      · intro w' hSw
        try dsimp only at hSw
        go_simp
        try with_reducible rfl
      simp only [Act.put]
      refine wpOp_gen rfl (by rfl) fun K' hK' => ?_
      go_simp
      go_at_call 84
      refine (mul_any (m ^ j) m _ _ _ (Sl.drew HP3.out) (Sl.drew HA1.out) (by have := HLP.out; omega) (by omega)).mono ?_
      rintro e w5 ⟨v5, rfl, hB5, hN5⟩
      have HN5 := Lib.hid hN5
      have HC5 : Hid (Below wr.heap.size wr w5) := Lib.hid ((Below.refl _ wr).drew.trans hB5)
      clear hN5 hB5 e0 e1 e2 c1 c2 f1 f2
      obtain ⟨e0, e1, e2⟩ := HS.out w5 (HBR.out.trans (HC5.out.mono HBR.out.size))
      have hk := HKPr.out.low HC5.out
      have c1 := hk.cell 1
      have c2 := hk.cell 2
      simp only [List.getElem?_toArray, List.getElem?_cons_zero, List.getElem?_cons_succ] at c1 c2
      clear hk
      go_wp2_with fail
      refine hK'.out _ _ ⟨⟨c1, c2, e1, e2⟩, ?_⟩
      clear hK' K'
      refine ⟨_, ?_, rfl, Or.inl ⟨by rfl, ?_⟩, fun _ _ _ h => h, ?_⟩
      rotate_left
      · intro w' hSw
        try dsimp only at hSw
        go_simp
        try with_reducible rfl
      simp only [Act.put, List.setIfInBounds_toArray]
      refine wpOp_gen rfl (by rfl) fun K' hK' => ?_
      go_simp
      go_at_call 84
      refine (mul_any (d ^ j) d _ _ _ (Sl.below HP4.out HC5.out) (Sl.below HA2.out HC5.out) (by have := HLP.out; omega) (by omega)).mono ?_
      rintro e w6 ⟨v6, rfl, hB6, hN6⟩
      have HN6 := Lib.hid hN6
      have HN56 := Lib.hid (HN5.out.below hB6)
      have HC6 : Hid (Below wr.heap.size wr w6) := Lib.hid (HC5.out.trans (hB6.mono HC5.out.size))
      clear hN6 hB6 e0 e1 e2 c1 c2
      obtain ⟨A5, n5, k5, rfl⟩ := HN56.out.shape
      obtain ⟨A6, n6, k6, rfl⟩ := HN6.out.shape
      obtain ⟨e0, e1, e2⟩ := HS.out w6 (HBR.out.trans (HC6.out.mono HBR.out.size))
      have hk := HKPr.out.low HC6.out
      have c1 := hk.cell 1
      have c2 := hk.cell 2
      have f1 := hk.frozen 1
      have f2 := hk.frozen 2
      simp only [List.getElem?_toArray, List.getElem?_cons_zero, List.getElem?_cons_succ] at c1 c2
      have HK6 := Lib.hid hk
      clear hk
      go_wp2_with fail
      refine hK'.out _ _ ⟨⟨c1, c2, e1, e2⟩, ?_⟩
      clear hK' K'
      change wpList _ _ _ _ _ _
      simp only [List.drop_succ_cons, List.drop_zero]
      go_wp2
      go_roundw
      case rel =>
          have hb := HBR.out.trans (HC6.out.mono HBR.out.size)
          exact ⟨j + 1, A5, A6, n5, k5, n6, k6, by go_num, by omega, (HK6.out.set 1 _).set 2 _, by rw [Nat.pow_succ]; exact nt_store2 HN56.out HK6.out (notI_bool _) (notI_slice _ _ _) (notI_slice _ _ _) (notI_slice _ _ _), by rw [Nat.pow_succ]; exact nt_store2 HN6.out HK6.out (notI_bool _) (notI_slice _ _ _) (notI_slice _ _ _) (notI_slice _ _ _),
            (hb.setCell (p := ⟨w2.heap.size, 1, none⟩) HPW.out _).setCell (p := ⟨w2.heap.size, 2, none⟩) HPW.out _, by have := HC6.out.size; simp; omega⟩
      case measure => simp [intOf]; omega
    · have hjn' : j = n := by omega
      rw [hjn'] at HP3 HP4 HLP
      rw [HM.out] at HP3 HLP
      rw [HD.out] at HP4 HLP
      have hb2 := HK2.out.low hbr0
      have HK2r := Lib.hid hb2
      have hge : ¬ ((j : Int) < (n : Int)) := by omega
      clear hj hjn hjn' hb2 c1 c2 f1 f2 e0 e1 e2
      have hk := HKPr.out
      have o0 := hk.cell 0
      have o1 := hk.cell 1
      have o2 := hk.cell 2
      simp only [List.getElem?_toArray, List.getElem?_cons_zero, List.getElem?_cons_succ] at o0 o1 o2
      clear hk
      go_wp2_with fail
      refine (zero_any M _ _ HP3.out (by have := HLP.out; omega)).mono ?_
      rintro e w5 ⟨rfl, rfl⟩
      by_cases hz : M = 0
      · have hd : decide (M = 0) = true := by simpa using hz
        have HZ := Lib.hid hz
        clear hz
        go_wp2_with fail
        refine (fint_any 0 _ (by omega) (by omega)).mono ?_
        rintro e w6 ⟨v7, v8, rfl, hN7, hN8, hB6⟩
        have HN7 := Lib.hid hN7
        have HN8 := Lib.hid hN8
        obtain ⟨A7, n7, k7, rfl⟩ := hN7.shape
        obtain ⟨A8, n8, k8, rfl⟩ := hN8.shape
        have HB6 := Lib.hid (HBR.out.trans (hB6.mono HBR.out.size))
        have hk := HK2r.out.low hB6
        clear hN7 hN8 hB6 o0 o1 o2
        have c0 := hk.cell 0
        have c1 := hk.cell 1
        have c2 := hk.cell 2
        have f0 := hk.frozen 0
        have f1 := hk.frozen 1
        have f2 := hk.frozen 2
        simp only [List.getElem?_toArray, List.getElem?_cons_zero, List.getElem?_cons_succ] at c0 c1 c2
        have HK3 := Lib.hid hk
        clear hk
        go_wp2
        have e1 : M = Int.natAbs 0 := HZ.out
        rw [(HE.out).1 HZ.out, e1]
        have e2 : rneg s (Int.natAbs 0) = false := by unfold rneg; rfl
        rw [e2]
        refine bodyPost_ret (v := .agg #[.bool false, .slice A7 n7 k7, .slice A8 n8 k8]) (by simp [results, Tryz.results56, go_sem, c0, c1, c2]) rfl ?_
        exact fnum_end (show w.heap.size ≤ w.heap.size + 1 by omega) (HBW.out.trans (HB6.out.mono HBW.out.size)) HK3.out HN7.out HN8.out
      · have hd : decide (M = 0) = false := by simpa using hz
        have HZ := Lib.hid hz
        clear hz
        have hk := HK2r.out
        have c0 := hk.cell 0
        have c1 := hk.cell 1
        have c2 := hk.cell 2
        have f0 := hk.frozen 0
        have f1 := hk.frozen 1
        have f2 := hk.frozen 2
        simp only [List.getElem?_toArray, List.getElem?_cons_zero, List.getElem?_cons_succ] at c0 c1 c2
        have HK3 := Lib.hid hk
        clear hk
        go_wp2
        have e2 : rneg s M = false := by unfold rneg; rw [if_neg HZ.out]; exact HSV.out
        rw [(HE.out).2 HZ.out, e2]
        refine bodyPost_ret (v := .agg #[.bool false, .slice B3 a3 c3, .slice B4 a4 c4]) (by simp [results, Tryz.results56, go_sem, c0, c1, c2]) rfl ?_
        exact fnum_end (show w.heap.size ≤ w.heap.size + 1 by omega) (HBW.out.trans (HBR.out.mono HBW.out.size)) HK3.out HP3.out HP4.out

set_option maxHeartbeats 4000000 in
set_option maxRecDepth 100000 in
theorem fpow_true (s : Bool) (m d n : Nat) (x y : Value) (w : World) (h1 : Nt w x m) (h2 : Nt w y d) (l1 : (Mth.dg 1000000000 m).length ≤ 1000000) (l2 : (Mth.dg 1000000000 d).length ≤ 1000000) (hn : n ≤ 64) (hs : pwS true n = s) :
    Calls Tryz.prog 56 #[.agg #[.bool true, x, y], .int .i64 n] w (FNum (rneg s (m ^ n)) (m ^ n) (pwD m d n) w) := by
  obtain ⟨A1, n1, k1, rfl⟩ := h1.shape
  obtain ⟨A2, n2, k2, rfl⟩ := h2.shape
  obtain ⟨W, hW⟩ : ∃ W, W = (w.alloc (.cells #[.bool true, .slice A1 n1 k1, .slice A2 n2 k2] 78)).alloc (.cells #[.bool false, .slice none 0 0, .slice none 0 0] 78) := ⟨_, rfl⟩
  have hBW : Below w.heap.size w W := by rw [hW]; exact ((Below.refl _ w).alloc (Nat.le_refl _) _).alloc (by simp) _
  have hk0 : Blk W w.heap.size 78 #[.bool true, .slice A1 n1 k1, .slice A2 n2 k2] := by rw [hW]; exact (Blk.new w _ _).alloc _
  have hk2 : Blk W (w.heap.size + 1) 78 #[.bool false, .slice none 0 0, .slice none 0 0] := by
    rw [hW]
    have := Blk.new (w.alloc (.cells #[.bool true, .slice A1 n1 k1, .slice A2 n2 k2] 78)) 78 #[.bool false, .slice none 0 0, .slice none 0 0]
    rwa [World.size_alloc] at this
  have e0 := hk0.cell 0
  have e1 := hk0.cell 1
  have e2 := hk0.cell 2
  simp only [List.getElem?_toArray, List.getElem?_cons_zero, List.getElem?_cons_succ] at e0 e1 e2
  have z0 := hk2.lt
  have HS : Hid (∀ w', Below W.heap.size W w' → w'.cell? ⟨w.heap.size, 0, none⟩ = some (.bool true) ∧ w'.cell? ⟨w.heap.size, 1, none⟩ = some (.slice A1 n1 k1) ∧ w'.cell? ⟨w.heap.size, 2, none⟩ = some (.slice A2 n2 k2)) := Lib.hid fun w' hb =>
    ⟨(hb.cell (p := ⟨w.heap.size, 0, none⟩) (by show w.heap.size < _; omega)).trans e0, (hb.cell (p := ⟨w.heap.size, 1, none⟩) (by show w.heap.size < _; omega)).trans e1, (hb.cell (p := ⟨w.heap.size, 2, none⟩) (by show w.heap.size < _; omega)).trans e2⟩
  have H1 := Lib.hid (h1.below hBW)
  have H2 := Lib.hid (h2.below hBW)
  have HW := Lib.hid hW
  have HBW := Lib.hid hBW
  have HK2 := Lib.hid hk2
  have LP : Hid (∀ j, j ≤ 64 → (Mth.dg 1000000000 (m ^ j)).length ≤ 100000000 ∧ (Mth.dg 1000000000 (d ^ j)).length ≤ 100000000) := Lib.hid fun j hj =>
    ⟨Nat.le_trans (Mth.dg_len_pow (by omega) l1 j) (Nat.le_trans (Nat.add_le_add_right (Nat.mul_le_mul_right 1000000 hj) 1) (by decide)), Nat.le_trans (Mth.dg_len_pow (by omega) l2 j) (Nat.le_trans (Nat.add_le_add_right (Nat.mul_le_mul_right 1000000 hj) 1) (by decide))⟩
  have hrem : ((n : Int) % 2 == 1) = s := by
    rw [← hs]
    unfold pwS
    have : (n : Int) % 2 = ((n % 2 : Nat) : Int) := by omega
    rw [this]
    rcases Nat.mod_two_eq_zero_or_one n with h | h <;> rw [h] <;> rfl
  have HREM := Lib.hid hrem
  clear hrem
  have HN := Lib.hid hn
  obtain ⟨M, hM⟩ : ∃ M, m ^ n = M := ⟨_, rfl⟩
  obtain ⟨D, hD⟩ : ∃ D, d ^ n = D := ⟨_, rfl⟩
  obtain ⟨E, hE⟩ : ∃ E, pwD m d n = E := ⟨_, rfl⟩
  have HE : Hid ((M = 0 → E = 1) ∧ (M ≠ 0 → E = D)) := Lib.hid (by rw [← hM, ← hD, ← hE]; unfold pwD; exact ⟨fun h => if_pos h, fun h => if_neg h⟩)
  have HM := Lib.hid hM
  have HD := Lib.hid hD
  rw [hM, hE]
  clear hM hD hE
  clear hW hBW hk0 hk2 h1 h2 hs
  go_enter Tryz.func56, Tryz.ntmps56
  go_wp2_with fail
  rw [← HW.out]
  refine (fone_any _).mono ?_
  rintro e w1 ⟨v1, rfl, hN1, hB1⟩
  have HN1 := Lib.hid hN1
  have HB1 := Lib.hid hB1
  clear hN1 hB1
  go_wp2_with fail
  refine (fone_any _).mono ?_
  rintro e w2 ⟨v2, rfl, hN2, hB2⟩
  have HN2 := Lib.hid hN2
  have HN1' := Lib.hid (HN1.out.below hB2)
  have HB2 : Hid (Below W.heap.size W w2) := Lib.hid (HB1.out.trans (hB2.mono HB1.out.size))
  obtain ⟨A3, n3, k3, rfl⟩ := HN1'.out.shape
  obtain ⟨A4, n4, k4, rfl⟩ := HN2.out.shape
  clear hN2 hB2 HN1
  obtain ⟨W3, hW3⟩ : ∃ W3, W3 = w2.alloc (.cells #[.bool s, .slice A3 n3 k3, .slice A4 n4 k4] 78) := ⟨_, rfl⟩
  have HW3 := Lib.hid hW3
  have HKP : Hid (Blk W3 w2.heap.size 78 #[.bool s, .slice A3 n3 k3, .slice A4 n4 k4]) := Lib.hid (by rw [hW3]; exact Blk.new w2 _ _)
  have HB3 : Hid (Below W.heap.size W W3) := Lib.hid (by rw [hW3]; exact HB2.out.alloc HB2.out.size _)
  have HN3 : Hid (Nt W3 (.slice A3 n3 k3) 1) := Lib.hid (by rw [hW3]; exact Sl.alloc HN1'.out _)
  have HN4 : Hid (Nt W3 (.slice A4 n4 k4) 1) := Lib.hid (by rw [hW3]; exact Sl.alloc HN2.out _)
  have HPW : Hid (W.heap.size ≤ w2.heap.size) := Lib.hid HB2.out.size
  clear hW3 HN1' HN2 e0 e1 e2
  go_wp2
  rw [HREM.out, ← HW3.out]
  go_loopw [17] (fun a17 wr => ∃ (j : Nat) (B3 B4 : Option Addr) (a3 c3 a4 c4 : Nat), a17 = .int .i64 j ∧ j ≤ n ∧ Blk wr w2.heap.size 78 #[.bool s, .slice B3 a3 c3, .slice B4 a4 c4] ∧ Nt wr (.slice B3 a3 c3) (m ^ j) ∧ Nt wr (.slice B4 a4 c4) (d ^ j) ∧ Below W.heap.size W wr ∧ w2.heap.size < wr.heap.size) (fun a17 _ => n - (intOf a17).toNat)
  case atStart => exact ⟨0, _, _, _, _, _, _, rfl, Nat.zero_le _, HKP.out, by rw [Nat.pow_zero]; exact HN3.out, by rw [Nat.pow_zero]; exact HN4.out, HB3.out, HKP.out.lt⟩
  case round =>
    obtain ⟨j, B3, B4, a3, c3, a4, c4, rfl, hj, hkp, hp3, hp4, hbr, hlt⟩ := hrel
    have HKPr := Lib.hid hkp
    have HP3 := Lib.hid hp3
    have HP4 := Lib.hid hp4
    have HBR := Lib.hid hbr
    have hbr0 := hbr
    obtain ⟨e0, e1, e2⟩ := HS.out wr hbr
    have c1 := hkp.cell 1
    have c2 := hkp.cell 2
    have f1 := hkp.frozen 1
    have f2 := hkp.frozen 2
    simp only [List.getElem?_toArray, List.getElem?_cons_zero, List.getElem?_cons_succ] at c1 c2
    have HLP := Lib.hid (LP.out j (by omega))
    have HA1 := Lib.hid (H1.out.below hbr)
    have HA2 := Lib.hid (H2.out.below hbr)
    clear hkp hp3 hp4 hbr
    by_cases hjn : j < n
    · have hj1 : (j : Int) < (n : Int) := by omega
      clear hbr0
      go_wp2_with fail
      refine wp_region_steps (fun w' => w'.cell? ⟨w2.heap.size, 1, none⟩ = some (.slice B3 a3 c3) ∧ w'.cell? ⟨w2.heap.size, 2, none⟩ = some (.slice B4 a4 c4) ∧ w'.cell? ⟨w.heap.size, 1, none⟩ = some (.slice A1 n1 k1) ∧ w'.cell? ⟨w.heap.size, 2, none⟩ = some (.slice A2 n2 k2)) 11 [(0, true), (2, true), (5, true), (7, true), (1, true), (3, true), (6, true), (8, true), (4, false), (10, true), (9, false)] (by kernel_rfl) (by kernel_rfl) ⟨c1, c2, e1, e2⟩ ?_
      refine ⟨_, ?_, rfl, Or.inl ⟨by rfl, ?_⟩, fun _ _ _ h => h, ?_⟩
      rotate_left
      · intro w' hSw
        try dsimp only at hSw
        go_simp
        try with_reducible rfl
      simp only [Act.put, List.setIfInBounds_toArray]
      refine ⟨_, ?_, rfl, Or.inl ⟨by rfl, ?_⟩, fun _ _ _ h => h, ?_⟩
      rotate_left
      · intro w' hSw
        try dsimp only at hSw
        go_simp
        try with_reducible rfl
      simp only [Act.put]
      refine ⟨_, ?_, rfl, Or.inl ⟨by rfl, ?_⟩, fun _ _ _ h => h, ?_⟩
      rotate_left
      · intro w' hSw
        try dsimp only at hSw
        go_simp
        try with_reducible rfl
      simp only [Act.put]
      refine ⟨_, ?_, rfl, Or.inl ⟨by rfl, ?_⟩, fun _ _ _ h => h, ?_⟩
      rotate_left
      · intro w' hSw
        try dsimp only at hSw
        go_simp
        try with_reducible rfl
      simp only [Act.put]
      refine ⟨_, ?_, rfl, Or.inl ⟨by rfl, ?_⟩, fun _ _ _ h => h, ?_⟩
      rotate_left
      · intro w' hSw
        try dsimp only at hSw
        go_simp
        try with_reducible rfl
      simp only [Act.put]
      refine ⟨_, ?_, rfl, Or.inl ⟨by rfl, ?_⟩, fun _ _ _ h => h, ?_⟩
      rotate_left
      · intro w' hSw
        try dsimp only at hSw
        go_simp
        try with_reducible rfl
      simp only [Act.put]
      refine ⟨_, ?_, rfl, Or.inl ⟨by rfl, ?_⟩, fun _ _ _ h => h, ?_⟩
      rotate_left
      · intro w' hSw
        try dsimp only at hSw
        go_simp
        try with_reducible rfl
      simp only [Act.put]
      refine ⟨_, ?_, rfl, Or.inl ⟨by rfl, ?_⟩, fun _ _ _ h => h, ?_⟩
      rotate_left
      · intro w' hSw
        try dsimp only at hSw
        go_simp
        try with_reducible rfl
      simp only [Act.put]
      refine wpOp_gen rfl (by rfl) fun K' hK' => ?_
      go_simp
      go_at_call 84
      refine (mul_any (m ^ j) m _ _ _ (Sl.drew HP3.out) (Sl.drew HA1.out) (by have := HLP.out; omega) (by omega)).mono ?_
      rintro e w5 ⟨v5, rfl, hB5, hN5⟩
      have HN5 := Lib.hid hN5
      have HC5 : Hid (Below wr.heap.size wr w5) := Lib.hid ((Below.refl _ wr).drew.trans hB5)
      clear hN5 hB5 e0 e1 e2 c1 c2 f1 f2
      obtain ⟨e0, e1, e2⟩ := HS.out w5 (HBR.out.trans (HC5.out.mono HBR.out.size))
      have hk := HKPr.out.low HC5.out
      have c1 := hk.cell 1
      have c2 := hk.cell 2
      simp only [List.getElem?_toArray, List.getElem?_cons_zero, List.getElem?_cons_succ] at c1 c2
      clear hk
      go_wp2_with fail
      refine hK'.out _ _ ⟨⟨c1, c2, e1, e2⟩, ?_⟩
      clear hK' K'
      refine ⟨_, ?_, rfl, Or.inl ⟨by rfl, ?_⟩, fun _ _ _ h => h, ?_⟩
      rotate_left
      · intro w' hSw
        try dsimp only at hSw
        go_simp
        try with_reducible rfl
      simp only [Act.put, List.setIfInBounds_toArray]
      refine wpOp_gen rfl (by rfl) fun K' hK' => ?_
      go_simp
      go_at_call 84
      refine (mul_any (d ^ j) d _ _ _ (Sl.below HP4.out HC5.out) (Sl.below HA2.out HC5.out) (by have := HLP.out; omega) (by omega)).mono ?_
      rintro e w6 ⟨v6, rfl, hB6, hN6⟩
      have HN6 := Lib.hid hN6
      have HN56 := Lib.hid (HN5.out.below hB6)
      have HC6 : Hid (Below wr.heap.size wr w6) := Lib.hid (HC5.out.trans (hB6.mono HC5.out.size))
      clear hN6 hB6 e0 e1 e2 c1 c2
      obtain ⟨A5, n5, k5, rfl⟩ := HN56.out.shape
      obtain ⟨A6, n6, k6, rfl⟩ := HN6.out.shape
      obtain ⟨e0, e1, e2⟩ := HS.out w6 (HBR.out.trans (HC6.out.mono HBR.out.size))
      have hk := HKPr.out.low HC6.out
      have c1 := hk.cell 1
      have c2 := hk.cell 2
      have f1 := hk.frozen 1
      have f2 := hk.frozen 2
      simp only [List.getElem?_toArray, List.getElem?_cons_zero, List.getElem?_cons_succ] at c1 c2
      have HK6 := Lib.hid hk
      clear hk
      go_wp2_with fail
      refine hK'.out _ _ ⟨⟨c1, c2, e1, e2⟩, ?_⟩
      clear hK' K'
      change wpList _ _ _ _ _ _
      simp only [List.drop_succ_cons, List.drop_zero]
      go_wp2
      go_roundw
      case rel =>
          have hb := HBR.out.trans (HC6.out.mono HBR.out.size)
          exact ⟨j + 1, A5, A6, n5, k5, n6, k6, by go_num, by omega, (HK6.out.set 1 _).set 2 _, by rw [Nat.pow_succ]; exact nt_store2 HN56.out HK6.out (notI_bool _) (notI_slice _ _ _) (notI_slice _ _ _) (notI_slice _ _ _), by rw [Nat.pow_succ]; exact nt_store2 HN6.out HK6.out (notI_bool _) (notI_slice _ _ _) (notI_slice _ _ _) (notI_slice _ _ _),
            (hb.setCell (p := ⟨w2.heap.size, 1, none⟩) HPW.out _).setCell (p := ⟨w2.heap.size, 2, none⟩) HPW.out _, by have := HC6.out.size; simp; omega⟩
      case measure => simp [intOf]; omega
    · have hjn' : j = n := by omega
      rw [hjn'] at HP3 HP4 HLP
      rw [HM.out] at HP3 HLP
      rw [HD.out] at HP4 HLP
      have hb2 := HK2.out.low hbr0
      have HK2r := Lib.hid hb2
      have hge : ¬ ((j : Int) < (n : Int)) := by omega
      clear hj hjn hjn' hb2 c1 c2 f1 f2 e0 e1 e2
      have hk := HKPr.out
      have o0 := hk.cell 0
      have o1 := hk.cell 1
      have o2 := hk.cell 2
      simp only [List.getElem?_toArray, List.getElem?_cons_zero, List.getElem?_cons_succ] at o0 o1 o2
      clear hk
      go_wp2_with fail
      refine (zero_any M _ _ HP3.out (by have := HLP.out; omega)).mono ?_
      rintro e w5 ⟨rfl, rfl⟩
      by_cases hz : M = 0
      · have hd : decide (M = 0) = true := by simpa using hz
        have HZ := Lib.hid hz
        clear hz
        go_wp2_with fail
        refine (fint_any 0 _ (by omega) (by omega)).mono ?_
        rintro e w6 ⟨v7, v8, rfl, hN7, hN8, hB6⟩
        have HN7 := Lib.hid hN7
        have HN8 := Lib.hid hN8
        obtain ⟨A7, n7, k7, rfl⟩ := hN7.shape
        obtain ⟨A8, n8, k8, rfl⟩ := hN8.shape
        have HB6 := Lib.hid (HBR.out.trans (hB6.mono HBR.out.size))
        have hk := HK2r.out.low hB6
        clear hN7 hN8 hB6 o0 o1 o2
        have c0 := hk.cell 0
        have c1 := hk.cell 1
        have c2 := hk.cell 2
        have f0 := hk.frozen 0
        have f1 := hk.frozen 1
        have f2 := hk.frozen 2
        simp only [List.getElem?_toArray, List.getElem?_cons_zero, List.getElem?_cons_succ] at c0 c1 c2
        have HK3 := Lib.hid hk
        clear hk
        go_wp2
        have e1 : M = Int.natAbs 0 := HZ.out
        rw [(HE.out).1 HZ.out, e1]
        have e2 : rneg s (Int.natAbs 0) = false := by unfold rneg; rfl
        rw [e2]
        refine bodyPost_ret (v := .agg #[.bool false, .slice A7 n7 k7, .slice A8 n8 k8]) (by simp [results, Tryz.results56, go_sem, c0, c1, c2]) rfl ?_
        exact fnum_end (show w.heap.size ≤ w.heap.size + 1 by omega) (HBW.out.trans (HB6.out.mono HBW.out.size)) HK3.out HN7.out HN8.out
      · have hd : decide (M = 0) = false := by simpa using hz
        have HZ := Lib.hid hz
        clear hz
        have hk := HK2r.out
        have c0 := hk.cell 0
        have c1 := hk.cell 1
        have c2 := hk.cell 2
        have f0 := hk.frozen 0
        have f1 := hk.frozen 1
        have f2 := hk.frozen 2
        simp only [List.getElem?_toArray, List.getElem?_cons_zero, List.getElem?_cons_succ] at c0 c1 c2
        have HK3 := Lib.hid hk
        clear hk
        go_wp2
        have e2 : rneg s M = s := by unfold rneg; rw [if_neg HZ.out]
        rw [(HE.out).2 HZ.out, e2]
        refine bodyPost_ret (v := .agg #[.bool s, .slice B3 a3 c3, .slice B4 a4 c4]) (by simp [results, Tryz.results56, go_sem, c0, c1, c2]) rfl ?_
        exact fnum_end (show w.heap.size ≤ w.heap.size + 1 by omega) (HBW.out.trans (HBR.out.mono HBW.out.size)) HK3.out HP3.out HP4.out
theorem fpow_any (g : Bool) (m d n : Nat) (x y : Value) (w : World) (h1 : Nt w x m) (h2 : Nt w y d) (l1 : (Mth.dg 1000000000 m).length ≤ 1000000) (l2 : (Mth.dg 1000000000 d).length ≤ 1000000) (hn : n ≤ 64) :
    Calls Tryz.prog 56 #[.agg #[.bool g, x, y], .int .i64 n] w (FNum (rneg (pwS g n) (m ^ n)) (m ^ n) (pwD m d n) w) := by
  cases g with
  | false => exact fpow_false (pwS false n) m d n x y w h1 h2 l1 l2 hn rfl
  | true => exact fpow_true (pwS true n) m d n x y w h1 h2 l1 l2 hn rfl
end Go.Proofs.YtaibpeokfbokfaaGreatDoor
