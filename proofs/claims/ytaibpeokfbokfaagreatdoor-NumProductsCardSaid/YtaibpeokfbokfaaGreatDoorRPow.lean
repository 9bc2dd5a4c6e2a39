/-
  Pow of the reference.
-/
import Derived.Test.YtaibpeokfbokfaaGreatDoorPow
import Derived.Test.YtaibpeokfbokfaaGreatDoorPair
import Derived.Outline
namespace Go.Proofs.YtaibpeokfbokfaaGreatDoor
open Go.RowKit

set_option maxHeartbeats 4000000 in
set_option maxRecDepth 100000 in
theorem rnpow_any (g : Bool) (m d n : Nat) (x y : Value) (w : World) (h1 : Pt w x m) (h2 : Pt w y d) (l1 : (Mth.dg 10000 m).length ≤ 1000000) (l2 : (Mth.dg 10000 d).length ≤ 1000000) (hn : n ≤ 64) :
    Calls Tryz.prog 19 #[.agg #[.bool g, x, y], .int .i64 n] w (RNum (rneg (pwS g n) (m ^ n)) (m ^ n) (d ^ n) w) := by
  obtain ⟨A1, n1, k1, rfl⟩ := h1.shape
  obtain ⟨A2, n2, k2, rfl⟩ := h2.shape
  obtain ⟨W, hW⟩ : ∃ W, W = (w.alloc (.cells #[.bool g, .slice A1 n1 k1, .slice A2 n2 k2] 33)).alloc (.cells #[.bool false, .slice none 0 0, .slice none 0 0] 33) := ⟨_, rfl⟩
  have hBW : Below w.heap.size w W := by rw [hW]; exact ((Below.refl _ w).alloc (Nat.le_refl _) _).alloc (by simp) _
  have hk0 : Blk W w.heap.size 33 #[.bool g, .slice A1 n1 k1, .slice A2 n2 k2] := by rw [hW]; exact (Blk.new w _ _).alloc _
  have hk2 : Blk W (w.heap.size + 1) 33 #[.bool false, .slice none 0 0, .slice none 0 0] := by
    rw [hW]
    have := Blk.new (w.alloc (.cells #[.bool g, .slice A1 n1 k1, .slice A2 n2 k2] 33)) 33 #[.bool false, .slice none 0 0, .slice none 0 0]
    rwa [World.size_alloc] at this
  have z0 := hk2.lt
  have HS : Hid (∀ w', Below W.heap.size W w' → w'.cell? ⟨w.heap.size, 0, none⟩ = some (.bool g) ∧ w'.cell? ⟨w.heap.size, 1, none⟩ = some (.slice A1 n1 k1) ∧ w'.cell? ⟨w.heap.size, 2, none⟩ = some (.slice A2 n2 k2)) := Lib.hid fun w' hb =>
    ⟨(hk0.low hb).cell 0, (hk0.low hb).cell 1, (hk0.low hb).cell 2⟩
  have H1 := Lib.hid (h1.below hBW)
  have H2 := Lib.hid (h2.below hBW)
  have HW := Lib.hid hW
  have HBW := Lib.hid hBW
  have HK2 := Lib.hid hk2
  have LP : Hid (∀ j, j ≤ 64 → (Mth.dg 10000 (m ^ j)).length ≤ 100000000 ∧ (Mth.dg 10000 (d ^ j)).length ≤ 100000000) := Lib.hid fun j hj =>
    ⟨Nat.le_trans (Mth.dg_len_pow (by omega) l1 j) (Nat.le_trans (Nat.add_le_add_right (Nat.mul_le_mul_right 1000000 hj) 1) (by decide)), Nat.le_trans (Mth.dg_len_pow (by omega) l2 j) (Nat.le_trans (Nat.add_le_add_right (Nat.mul_le_mul_right 1000000 hj) 1) (by decide))⟩
  obtain ⟨M, hM⟩ : ∃ M, m ^ n = M := ⟨_, rfl⟩
  obtain ⟨D, hD⟩ : ∃ D, d ^ n = D := ⟨_, rfl⟩
  have HM := Lib.hid hM
  have HD := Lib.hid hD
  rw [hM, hD]
  clear hW hBW hk0 hk2 h1 h2 hM hD
  go_enter Tryz.func19, Tryz.ntmps19
  go_wp2_with fail
  rw [← HW.out]
  refine (rint_any 1 _ (by omega) (by omega)).mono ?_
  rintro e w2 ⟨v1, v2, rfl, hN1, hN2, hB2⟩
  have HN1 := Lib.hid hN1
  have HN2 := Lib.hid hN2
  have HB2 : Hid (Below W.heap.size W w2) := Lib.hid hB2
  obtain ⟨A3, n3, k3, rfl⟩ := hN1.shape
  obtain ⟨A4, n4, k4, rfl⟩ := hN2.shape
  clear hN1 hN2 hB2
  obtain ⟨W3, hW3⟩ : ∃ W3, W3 = w2.alloc (.cells #[.bool false, .slice A3 n3 k3, .slice A4 n4 k4] 33) := ⟨_, rfl⟩
  have HW3 := Lib.hid hW3
  have HKP : Hid (Blk W3 w2.heap.size 33 #[.bool false, .slice A3 n3 k3, .slice A4 n4 k4]) := Lib.hid (by rw [hW3]; exact Blk.new w2 _ _)
  have HB3 : Hid (Below W.heap.size W W3) := Lib.hid (by rw [hW3]; exact HB2.out.alloc HB2.out.size _)
  have HN3 : Hid (Pt W3 (.slice A3 n3 k3) 1) := Lib.hid (by rw [hW3]; exact Sl.alloc HN1.out _)
  have HN4 : Hid (Pt W3 (.slice A4 n4 k4) 1) := Lib.hid (by rw [hW3]; exact Sl.alloc HN2.out _)
  have HPW : Hid (W.heap.size ≤ w2.heap.size) := Lib.hid HB2.out.size
  obtain ⟨p, hp⟩ : ∃ p, w2.heap.size = p := ⟨_, rfl⟩
  rw [hp] at HKP HPW
  clear hW3 HN1 HN2
  go_wp2
  rw [← HW3.out]
  clear hp
  go_loopw [8] (fun a8 wr => ∃ (j : Nat) (B3 B4 : Option Addr) (a3 c3 a4 c4 : Nat), a8 = .int .i64 j ∧ j ≤ n ∧ Blk wr p 33 #[.bool (pwS g j), .slice B3 a3 c3, .slice B4 a4 c4] ∧ Pt wr (.slice B3 a3 c3) (m ^ j) ∧ Pt wr (.slice B4 a4 c4) (d ^ j) ∧ Below W.heap.size W wr) (fun a8 _ => n - (intOf a8).toNat)
  case atStart => exact ⟨0, _, _, _, _, _, _, rfl, Nat.zero_le _, by rw [pwS_zero]; exact HKP.out, by rw [Nat.pow_zero]; exact HN3.out, by rw [Nat.pow_zero]; exact HN4.out, HB3.out⟩
  case round =>
    obtain ⟨j, B3, B4, a3, c3, a4, c4, rfl, hj, hkp, hp3, hp4, hbr⟩ := hrel
    have HKPr := Lib.hid hkp
    have HP3 := Lib.hid hp3
    have HP4 := Lib.hid hp4
    have HBR := Lib.hid hbr
    have hbr0 := hbr
    obtain ⟨e0, e1, e2⟩ := HS.out wr hbr
    have c0 := hkp.cell 0
    have c1 := hkp.cell 1
    have c2 := hkp.cell 2
    simp only [List.getElem?_toArray, List.getElem?_cons_zero, List.getElem?_cons_succ] at c0 c1 c2
    have hlt := hkp.lt
    have HLP := Lib.hid (LP.out j (by omega))
    have HA1 := Lib.hid (H1.out.below hbr)
    have HA2 := Lib.hid (H2.out.below hbr)
    clear hkp hp3 hp4 hbr
    by_cases hjn : j < n
    · have hj1 : (j : Int) < (n : Int) := by omega
      obtain ⟨s, hs⟩ : ∃ s, pwS g j = s := ⟨_, rfl⟩
      rw [hs] at c0 HKPr
      have HSS : Hid ((!(s == g)) = pwS g (j + 1)) := Lib.hid (by rw [← hs]; exact pwS_succ g j)
      clear hbr0 hs
      go_wp2_with fail
      refine wp_region_steps (fun w' => (w'.cell? ⟨p, 0, none⟩ = some (.bool s) ∧ w'.cell? ⟨p, 1, none⟩ = some (.slice B3 a3 c3) ∧ w'.cell? ⟨p, 2, none⟩ = some (.slice B4 a4 c4)) ∧ w'.cell? ⟨w.heap.size, 0, none⟩ = some (.bool g) ∧ w'.cell? ⟨w.heap.size, 1, none⟩ = some (.slice A1 n1 k1) ∧ w'.cell? ⟨w.heap.size, 2, none⟩ = some (.slice A2 n2 k2)) 16 [(0, true), (2, true), (5, true), (7, true), (10, true), (12, true), (1, true), (3, true), (6, true), (8, true), (11, true), (13, true), (4, true), (9, false), (14, false), (15, true)] (by kernel_rfl) (by kernel_rfl) ⟨⟨c0, c1, c2⟩, e0, e1, e2⟩ ?_
      refine ⟨_, ?_, rfl, Or.inl ⟨by rfl, ?_⟩, fun _ _ _ h => h, ?_⟩
      rotate_left
      · intro w' hSw
        try dsimp only at hSw
        go_simp
        try with_reducible rfl
      simp only [Act.put, List.setIfInBounds_toArray]
      refine ⟨_, ?_, rfl, Or.inl ⟨by rfl, ?_⟩, fun _ _ _ h => h, ?_⟩
      rotate_left
      · intro w' hSw
        try dsimp only at hSw
        go_simp
        try with_reducible rfl
      simp only [Act.put]
      refine ⟨_, ?_, rfl, Or.inl ⟨by rfl, ?_⟩, fun _ _ _ h => h, ?_⟩
      rotate_left
      · intro w' hSw
        try dsimp only at hSw
        go_simp
        try with_reducible rfl
      simp only [Act.put]
      refine ⟨_, ?_, rfl, Or.inl ⟨by rfl, ?_⟩, fun _ _ _ h => h, ?_⟩
      rotate_left
      · intro w' hSw
        try dsimp only at hSw
        go_simp
        try with_reducible rfl
      simp only [Act.put]
      refine ⟨_, ?_, rfl, Or.inl ⟨by rfl, ?_⟩, fun _ _ _ h => h, ?_⟩
      rotate_left
      · intro w' hSw
        try dsimp only at hSw
        go_simp
        try with_reducible rfl
      simp only [Act.put]
      refine ⟨_, ?_, rfl, Or.inl ⟨by rfl, ?_⟩, fun _ _ _ h => h, ?_⟩
      rotate_left
      · intro w' hSw
        try dsimp only at hSw
        go_simp
        try with_reducible rfl
      simp only [Act.put]
      refine ⟨_, ?_, rfl, Or.inl ⟨by rfl, ?_⟩, fun _ _ _ h => h, ?_⟩
      rotate_left
      · intro w' hSw
        try dsimp only at hSw
        go_simp
        try with_reducible rfl
      simp only [Act.put]
      refine ⟨_, ?_, rfl, Or.inl ⟨by rfl, ?_⟩, fun _ _ _ h => h, ?_⟩
      rotate_left
      · intro w' hSw
        try dsimp only at hSw
        go_simp
        try with_reducible rfl
      simp only [Act.put]
      refine ⟨_, ?_, rfl, Or.inl ⟨by rfl, ?_⟩, fun _ _ _ h => h, ?_⟩
      rotate_left
      · intro w' hSw
        try dsimp only at hSw
        go_simp
        try with_reducible rfl
      simp only [Act.put]
      refine ⟨_, ?_, rfl, Or.inl ⟨by rfl, ?_⟩, fun _ _ _ h => h, ?_⟩
      rotate_left
      · intro w' hSw
        try dsimp only at hSw
        go_simp
        try with_reducible rfl
      simp only [Act.put]
      refine ⟨_, ?_, rfl, Or.inl ⟨by rfl, ?_⟩, fun _ _ _ h => h, ?_⟩
      rotate_left
      · intro w' hSw
        try dsimp only at hSw
        go_simp
        try with_reducible rfl
      simp only [Act.put]
      refine ⟨_, ?_, rfl, Or.inl ⟨by rfl, ?_⟩, fun _ _ _ h => h, ?_⟩
      rotate_left
      · intro w' hSw
        try dsimp only at hSw
        go_simp
        try with_reducible rfl
      simp only [Act.put]
      refine ⟨_, ?_, rfl, Or.inl ⟨by rfl, ?_⟩, fun _ _ _ h => h, ?_⟩
      rotate_left
      · intro w' hSw
        try dsimp only at hSw
        go_simp
        try with_reducible rfl
      simp only [Act.put]
      refine wpOp_gen rfl (by rfl) fun K' hK' => ?_
      go_simp
      go_at_call 50
      refine (rmul_any (m ^ j) m _ _ _ (Sl.drew HP3.out) (Sl.drew HA1.out) (by have := HLP.out; omega) (by omega)).mono ?_
      rintro e w5 ⟨v5, rfl, hB5, hN5, -⟩
      have HN5 := Lib.hid hN5
      have HC5 : Hid (Below wr.heap.size wr w5) := Lib.hid ((Below.refl _ wr).drew.trans hB5)
      clear hN5 hB5 e0 e1 e2 c0 c1 c2
      obtain ⟨e0, e1, e2⟩ := HS.out w5 (HBR.out.trans (HC5.out.mono HBR.out.size))
      have hk := HKPr.out.low HC5.out
      have c0 := hk.cell 0
      have c1 := hk.cell 1
      have c2 := hk.cell 2
      simp only [List.getElem?_toArray, List.getElem?_cons_zero, List.getElem?_cons_succ] at c0 c1 c2
      clear hk
      go_wp2_with fail
      refine hK'.out _ _ ⟨⟨⟨c0, c1, c2⟩, e0, e1, e2⟩, ?_⟩
      clear hK' K'
      refine wpOp_gen rfl (by rfl) fun K' hK' => ?_
      go_simp
      go_at_call 50
      refine (rmul_any (d ^ j) d _ _ _ (Sl.below HP4.out HC5.out) (Sl.below HA2.out HC5.out) (by have := HLP.out; omega) (by omega)).mono ?_
      rintro e w6 ⟨v6, rfl, hB6, hN6, -⟩
      have HN6 := Lib.hid hN6
      have HN56 := Lib.hid (HN5.out.below hB6)
      have HC6 : Hid (Below wr.heap.size wr w6) := Lib.hid (HC5.out.trans (hB6.mono HC5.out.size))
      clear hN6 hB6 e0 e1 e2 c0 c1 c2
      obtain ⟨A5, n5, k5, rfl⟩ := HN56.out.shape
      obtain ⟨A6, n6, k6, rfl⟩ := HN6.out.shape
      obtain ⟨e0, e1, e2⟩ := HS.out w6 (HBR.out.trans (HC6.out.mono HBR.out.size))
      have hk := HKPr.out.low HC6.out
      have c0 := hk.cell 0
      have c1 := hk.cell 1
      have c2 := hk.cell 2
      simp only [List.getElem?_toArray, List.getElem?_cons_zero, List.getElem?_cons_succ] at c0 c1 c2
      have f0 := hk.frozen 0
      have f1 := hk.frozen 1
      have f2 := hk.frozen 2
      have HK6 := Lib.hid hk
      clear hk
      go_wp2_with fail
      refine hK'.out _ _ ⟨⟨⟨c0, c1, c2⟩, e0, e1, e2⟩, ?_⟩
      clear hK' K'
      refine ⟨_, ?_, rfl, Or.inl ⟨by rfl, ?_⟩, fun _ _ _ h => h, ?_⟩
      rotate_left
      · intro w' hSw
        try dsimp only at hSw
        go_simp
        try with_reducible rfl
      simp only [Act.put, List.setIfInBounds_toArray]
      change wpList _ _ _ _ _ _
      simp only [List.drop_succ_cons, List.drop_zero]
      go_wp2
      go_roundw
      case rel =>
          have hb := HBR.out.trans (HC6.out.mono HBR.out.size)
          exact ⟨j + 1, A5, A6, n5, k5, n6, k6, by go_num, by omega, by rw [← HSS.out]; exact ((HK6.out.set 0 _).set 1 _).set 2 _, by rw [Nat.pow_succ]; exact pt_store3 HN56.out HK6.out (notI_bool _) (notI_slice _ _ _) (notI_slice _ _ _) (notI_bool _) (notI_slice _ _ _), by rw [Nat.pow_succ]; exact pt_store3 HN6.out HK6.out (notI_bool _) (notI_slice _ _ _) (notI_slice _ _ _) (notI_bool _) (notI_slice _ _ _),
            ((hb.setCell (p := ⟨p, 0, none⟩) HPW.out _).setCell (p := ⟨p, 1, none⟩) HPW.out _).setCell (p := ⟨p, 2, none⟩) HPW.out _⟩
      case measure => simp [intOf]; omega
    · have hjn' : j = n := by omega
      rw [hjn'] at HP3 HP4 HLP HKPr c0
      rw [HM.out] at HP3 HLP
      rw [HD.out] at HP4 HLP
      have HK2r := Lib.hid (HK2.out.low hbr0)
      have hge : ¬ ((j : Int) < (n : Int)) := by omega
      have hkq := HKPr.out
      have f0 := hkq.frozen 0
      have f1 := hkq.frozen 1
      have f2 := hkq.frozen 2
      have hneq : w.heap.size + 1 ≠ p := by have := HPW.out; omega
      obtain ⟨s, hs⟩ : ∃ s, pwS g n = s := ⟨_, rfl⟩
      rw [hs] at c0 HKPr
      have HSS := Lib.hid hs
      clear hj hjn hjn' hkq hs e0 e1 e2
      have fin : ∀ b : Bool, rneg s M = b → Hid (∀ Wx, wr.setCell ⟨p, 0, none⟩ (.bool b) = Wx → Wx.cell? ⟨p, 0, none⟩ = some (.bool b) ∧ Wx.cell? ⟨p, 1, none⟩ = some (.slice B3 a3 c3) ∧ Wx.cell? ⟨p, 2, none⟩ = some (.slice B4 a4 c4) ∧ Blk Wx (w.heap.size + 1) 33 #[.bool false, .slice none 0 0, .slice none 0 0] ∧ Pt Wx (.slice B3 a3 c3) M ∧ Pt Wx (.slice B4 a4 c4) D ∧ Below W.heap.size W Wx) := fun b hb => Lib.hid (by
        rintro Wx rfl
        have hq := HKPr.out.set 0 (.bool b)
        have hno := NoInt.of HKPr.out (notI3 (notI_bool _) (notI_slice _ _ _) (notI_slice _ _ _))
        exact ⟨hq.cell 0, hq.cell 1, hq.cell 2, HK2r.out.far hneq _, HP3.out.set (i := 0) (x := .bool b) hno, HP4.out.set (i := 0) (x := .bool b) hno, HBR.out.setCell (p := ⟨p, 0, none⟩) HPW.out _⟩)
      obtain ⟨z3, hz3, hzz⟩ : ∃ z3, a3 = z3 ∧ (M = 0 ∧ z3 = 0 ∨ 0 < M ∧ 0 < z3) := by
        obtain ⟨A9, k9, c9, e9, -, hz, -⟩ := HP3.out.lenform
        injection e9 with e1 e2 e3
        exact ⟨k9, e2, hz⟩
      subst hz3
      cases s with
      | false =>
        have hr : rneg false M = false := by unfold rneg; split <;> rfl
        have HSGN := Lib.hid hr
        clear hr hzz
        have FN := fin false HSGN.out
        obtain ⟨Wx, hWx⟩ : ∃ Wx, wr.setCell ⟨p, 0, none⟩ (.bool false) = Wx := ⟨_, rfl⟩
        obtain ⟨d0, d1, d2, hk4, hq3, hq4, hbx⟩ := FN.out Wx hWx
        have HK4 := Lib.hid hk4
        have HQ3 := Lib.hid hq3
        have HQ4 := Lib.hid hq4
        have HBX := Lib.hid hbx
        have x0 := hk4.cell 0
        have x1 := hk4.cell 1
        have x2 := hk4.cell 2
        have y0 := hk4.frozen 0
        have y1 := hk4.frozen 1
        have y2 := hk4.frozen 2
        simp only [List.getElem?_toArray, List.getElem?_cons_zero, List.getElem?_cons_succ] at x0 x1 x2
        clear FN fin hk4 hq3 hq4 hbx
        go_wp2
        rw [HSS.out, HSGN.out]
        refine bodyPost_ret (v := .agg #[.bool false, .slice B3 a3 c3, .slice B4 a4 c4]) (by simp [results, Tryz.results19, go_sem, x0, x1, x2]) rfl ?_
        exact rnum_end (show w.heap.size ≤ w.heap.size + 1 by omega) (HBW.out.trans (HBX.out.mono HBW.out.size)) HK4.out HQ3.out HQ4.out
      | true =>
        rcases hzz with ⟨hM0, ha0⟩ | ⟨hM0, ha0⟩
        · have hr : rneg true M = false := by unfold rneg; rw [if_pos hM0]
          have HSGN := Lib.hid hr
          subst ha0
          clear hr hM0
          have FN := fin false HSGN.out
          obtain ⟨Wx, hWx⟩ : ∃ Wx, wr.setCell ⟨p, 0, none⟩ (.bool false) = Wx := ⟨_, rfl⟩
          obtain ⟨d0, d1, d2, hk4, hq3, hq4, hbx⟩ := FN.out Wx hWx
          have HK4 := Lib.hid hk4
          have HQ3 := Lib.hid hq3
          have HQ4 := Lib.hid hq4
          have HBX := Lib.hid hbx
          have x0 := hk4.cell 0
          have x1 := hk4.cell 1
          have x2 := hk4.cell 2
          have y0 := hk4.frozen 0
          have y1 := hk4.frozen 1
          have y2 := hk4.frozen 2
          simp only [List.getElem?_toArray, List.getElem?_cons_zero, List.getElem?_cons_succ] at x0 x1 x2
          clear FN fin hk4 hq3 hq4 hbx
          go_wp2
          rw [HSS.out, HSGN.out]
          refine bodyPost_ret (v := .agg #[.bool false, .slice B3 0 c3, .slice B4 a4 c4]) (by simp [results, Tryz.results19, go_sem, x0, x1, x2]) rfl ?_
          exact rnum_end (show w.heap.size ≤ w.heap.size + 1 by omega) (HBW.out.trans (HBX.out.mono HBW.out.size)) HK4.out HQ3.out HQ4.out
        · have hr : rneg true M = true := by unfold rneg; rw [if_neg (by omega)]
          have HSGN := Lib.hid hr
          have ha1 : decide (0 < a3) = true := by simpa using ha0
          clear hr hM0
          have FN := fin true HSGN.out
          obtain ⟨Wx, hWx⟩ : ∃ Wx, wr.setCell ⟨p, 0, none⟩ (.bool true) = Wx := ⟨_, rfl⟩
          obtain ⟨d0, d1, d2, hk4, hq3, hq4, hbx⟩ := FN.out Wx hWx
          have HK4 := Lib.hid hk4
          have HQ3 := Lib.hid hq3
          have HQ4 := Lib.hid hq4
          have HBX := Lib.hid hbx
          have x0 := hk4.cell 0
          have x1 := hk4.cell 1
          have x2 := hk4.cell 2
          have y0 := hk4.frozen 0
          have y1 := hk4.frozen 1
          have y2 := hk4.frozen 2
          simp only [List.getElem?_toArray, List.getElem?_cons_zero, List.getElem?_cons_succ] at x0 x1 x2
          clear FN fin hk4 hq3 hq4 hbx
          go_wp2
          rw [HSS.out, HSGN.out]
          refine bodyPost_ret (v := .agg #[.bool true, .slice B3 a3 c3, .slice B4 a4 c4]) (by simp [results, Tryz.results19, go_sem, x0, x1, x2]) rfl ?_
          exact rnum_end (show w.heap.size ≤ w.heap.size + 1 by omega) (HBW.out.trans (HBX.out.mono HBW.out.size)) HK4.out HQ3.out HQ4.out
end Go.Proofs.YtaibpeokfbokfaaGreatDoor
