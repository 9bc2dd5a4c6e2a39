/-
  nat.digit: the next digit of a quotient.
-/
import Derived.Test.YtgaiibkkompbnaaGreatDoorNatLess
import Derived.Deep.QuietTactic
import Derived.BigQuiet
import Derived.BigGuardPart
namespace Go.Proofs.YtgaiibkkompbnaaGreatDoor
open Go.RowKit

set_option maxHeartbeats 4000000 in
set_option maxRecDepth 100000 in
theorem digit_any (P U S V : List Nat) (m gu gv cu cv : Nat) (w : World) (hu : Own w gu (P ++ U ++ S)) (hv : Own w gv V) (hne : gv ≠ gu) (hxu : ∀ d ∈ U, d < 1000000000) (hxv : ∀ d ∈ V, d < 1000000000)
    (hvl : V.length = m + 2) (hul : U.length = m + 3) (_hs : m ≤ 100000000000) (hcu : m + 3 ≤ cu) (hcu2 : cu ≤ 9000000000000) (hcv : m + 2 ≤ cv) (hcv2 : cv ≤ 9000000000000) (hp : P.length ≤ 9000000000000)
    (hv1 : 0 < V[m + 1]?.getD 0) (hlt : Mth.val 1000000000 U < 1000000000 * Mth.val 1000000000 V) :
    Calls Tryz.prog 80 #[.slice (some ⟨gu, P.length, none⟩) (m + 3 : Nat) cu, .slice (some ⟨gv, 0, none⟩) (m + 2 : Nat) cv] w fun e w' => ∃ (W : List Nat), e = .returned (.int .u64 ((Mth.val 1000000000 U / Mth.val 1000000000 V : Nat) : Int)) ∧
      Own w' gu (P ++ W ++ S) ∧ W.length = m + 3 ∧ (∀ d ∈ W, d < 1000000000) ∧ Mth.val 1000000000 W = Mth.val 1000000000 U % Mth.val 1000000000 V ∧ w.grownBy w' (some gu) := by
  have c0 := own3_cell hu (k := m + 2) (by omega)
  have c1 := own3_cell hu (k := m + 1) (by omega)
  have c2 := own3_cell hu (k := m) (by omega)
  have d1 := hv.cell (j := m + 1) (by omega)
  have d2 := hv.cell (j := m) (by omega)
  have b0 := Mth.getD_lt (by omega) hxu (m + 2)
  have b1 := Mth.getD_lt (by omega) hxu (m + 1)
  have b2 := Mth.getD_lt (by omega) hxu m
  have b3 := Mth.getD_lt (by omega) hxv (m + 1)
  have b4 := Mth.getD_lt (by omega) hxv m
  obtain ⟨u0, hu0⟩ : ∃ x, U[m + 2]?.getD 0 = x := ⟨_, rfl⟩
  obtain ⟨u1, hu1⟩ : ∃ x, U[m + 1]?.getD 0 = x := ⟨_, rfl⟩
  obtain ⟨u2, hu2⟩ : ∃ x, U[m]?.getD 0 = x := ⟨_, rfl⟩
  obtain ⟨v1, hv1'⟩ : ∃ x, V[m + 1]?.getD 0 = x := ⟨_, rfl⟩
  obtain ⟨v2, hv2'⟩ : ∃ x, V[m]?.getD 0 = x := ⟨_, rfl⟩
  rw [hu0] at c0 b0
  rw [hu1] at c1 b1
  rw [hu2] at c2 b2
  rw [hv1'] at d1 b3 hv1
  rw [hv2'] at d2 b4
  have HU0 := Lib.hid hu0
  have HU1 := Lib.hid hu1
  have HU2 := Lib.hid hu2
  have HV1 := Lib.hid hv1'
  have HV2 := Lib.hid hv2'
  have HXU := Lib.hid hxu
  have HXV := Lib.hid hxv
  have HUL := Lib.hid hul
  have HVL := Lib.hid hvl
  have HLT := Lib.hid hlt
  have HOU := Lib.hid hu
  have HOV := Lib.hid hv
  clear hu0 hu1 hu2 hv1' hv2' hxu hxv hul hvl hlt hu hv
  obtain ⟨ul, hul1, hul2⟩ := Mth.val_top3 (b := 1000000000) (by omega) HUL.out HXU.out
  obtain ⟨vl, hvl1, hvl2⟩ := Mth.val_top2 (b := 1000000000) (by omega) HVL.out HXV.out
  rw [HU0.out, HU1.out, HU2.out] at hul2
  rw [HV1.out, HV2.out] at hvl2
  obtain ⟨Q, hQ⟩ : ∃ Q, Mth.val 1000000000 U / Mth.val 1000000000 V = Q := ⟨_, rfl⟩
  have hQ9 : Q ≤ 999999999 := by
    have := Nat.div_lt_of_lt_mul (by rw [Nat.mul_comm]; exact HLT.out)
    rw [hQ] at this
    omega
  have HK : Hid (∀ q r, q * v1 + r = u0 * 1000000000 + u1 → r * 1000000000 + u2 < q * v2 → Q < q) := Lib.hid (by
    intro q r h1 h2
    have := Mth.knuth_lt (vl := vl) hul1 h1 h2
    rwa [← hul2, ← hvl2, hQ] at this)
  have HK3 : Hid (∀ q r, q ≤ 1000000000 → q * v1 + r = u0 * 1000000000 + u1 → q * v2 ≤ r * 1000000000 + u2 → q ≤ Q + 1) := Lib.hid (by
    intro q r h0 h1 h2
    have := Mth.knuth_ge (ul := ul) hvl1 (by omega) hv1 h0 h1 h2
    rwa [← hul2, ← hvl2, hQ] at this)
  have hQ1 : Q ≤ (u0 * 1000000000 + u1) / v1 := by
    rcases Mth.knuth_first (b := 1000000000) (u0 := u0) (u1 := u1) (u2 := u2) (vl := vl) (v2 := v2) hul1 hv1 with h | h
    · rwa [← hul2, ← hvl2, hQ] at h
    · omega
  have HQ := Lib.hid hQ
  clear hul1 hul2 hvl1 hvl2 hQ
  have hvz : ((v1 : Int) == 0) = false := by simpa using (by omega : ¬ (v1 : Int) = 0)
  -- the first trial digit
  have e0 : ((u0 : Int) * 1000000000 + u1) / (v1 : Int) = (((u0 * 1000000000 + u1) / v1 : Nat) : Int) := by rw [Int.natCast_ediv]; simp
  have hdm := Nat.div_add_mod (u0 * 1000000000 + u1) v1
  obtain ⟨q1, hq1⟩ : ∃ q1, (u0 * 1000000000 + u1) / v1 = q1 := ⟨_, rfl⟩
  obtain ⟨r1, hr1⟩ : ∃ r1, (u0 * 1000000000 + u1) % v1 = r1 := ⟨_, rfl⟩
  rw [hq1] at e0 hdm hQ1
  rw [hr1] at hdm
  rw [Nat.mul_comm] at hdm
  have hpc : ((q1 * v1 : Nat) : Int) = (q1 : Int) * v1 := by simp
  have E0 := Lib.hid e0
  have HDM := Lib.hid hdm
  have HPC := Lib.hid hpc
  clear hq1 hr1 hpc
  have t1 : ((u0 : Int) * 1000000000 + u1) / (v1 : Int) * v1 ≤ (u0 : Int) * 1000000000 + u1 := by
    rw [e0, ← HPC.out]; omega
  have t2 : 0 ≤ ((u0 : Int) * 1000000000 + u1) / (v1 : Int) * v1 := by
    rw [e0, ← HPC.out]; omega
  have hrest : ∀ (q0 r0 : Nat), q0 * v1 + r0 = u0 * 1000000000 + u1 → True := fun _ _ _ => trivial
  clear hrest
  rcases Nat.lt_or_ge 999999999 q1 with hmin | hmin
  · have m1 : 999999999 < ((u0 : Int) * 1000000000 + u1) / (v1 : Int) := by rw [e0]; omega
    have m2 : 999999999 * (v1 : Int) ≤ (u0 : Int) * 1000000000 + u1 := by
      have : 999999999 * v1 ≤ q1 * v1 := Nat.mul_le_mul_right _ (by omega)
      omega
    clear e0 hdm hmin hQ1
    go_enter Tryz.func80, Tryz.ntmps80
    go_wp2
    go_quiet (fail)
    go_wp2
    go_loopw [7, 8] (fun a7 a8 wr => ∃ (q r nd : Nat), a7 = .int .u64 q ∧ a8 = .int .u64 r ∧ q * v1 + r = u0 * 1000000000 + u1 ∧ Q ≤ q ∧ q ≤ 999999999 ∧ wr = w.drewN nd) (fun _ a8 _ => (1000000000 - intOf a8).toNat)
    case atStart => exact ⟨999999999, u0 * 1000000000 + u1 - 999999999 * v1, _, rfl, by go_num, by omega, by omega, by omega, rfl⟩
    case round =>
      obtain ⟨q, r, nd, rfl, rfl, hqr, hq1, hq2, rfl⟩ := hrel
      have HQR := Lib.hid hqr
      have hr8 : (r : Int) ≤ (u0 : Int) * 1000000000 + u1 := by omega
      obtain ⟨X, hX⟩ : ∃ X, q * v2 = X := ⟨_, rfl⟩
      obtain ⟨Y, hY⟩ : ∃ Y, r * 1000000000 = Y := ⟨_, rfl⟩
      have hX9 : X ≤ 999999999 * 999999999 := by rw [← hX]; exact Nat.mul_le_mul (by omega) (by omega)
      have x1 : (q : Int) * (v2 : Int) = (X : Int) := by rw [← hX]; simp
      have y1 : (r : Int) * 1000000000 = (Y : Int) := by rw [← hY]; simp
      have x2 : (X : Int) < 1000000000000000000 := by omega
      have PX := Lib.hid hX
      have PY := Lib.hid hY
      clear hX hY hX9 hqr t1 t2 m1 m2
      by_cases hg : r < 1000000000 ∧ r * 1000000000 + u2 < q * v2
      · obtain ⟨hg1, hg2⟩ := hg
        have hQq := HK.out q r HQR.out hg2
        rw [PX.out, PY.out] at hg2
        have hg3 : (Y : Int) + u2 < (X : Int) := by omega
        have hgb : decide ((r : Int) < 1000000000) = true := by simp; omega
        have y2 : (Y : Int) < 1000000000000000000 := by have := PY.out; omega
        clear hg2
        go_wp2
        go_quiet (fail)
        go_wp2
        go_roundw
        case rel =>
          refine ⟨q - 1, r + v1, _, by go_num, rfl, ?_, by omega, by omega, rfl⟩
          have h := HQR.out
          obtain ⟨p, rfl⟩ : ∃ p, q = p + 1 := ⟨q - 1, by omega⟩
          rw [Nat.succ_mul] at h
          rw [Nat.add_sub_cancel]
          omega
        case measure => simp [intOf]; omega
      · have hle : q * v2 ≤ r * 1000000000 + u2 := by
          rcases Nat.lt_or_ge r 1000000000 with h | h
          · rcases Nat.lt_or_ge (r * 1000000000 + u2) (q * v2) with h2 | h2
            · exact absurd ⟨h, h2⟩ hg
            · exact h2
          · have h3 : q * v2 ≤ 999999999 * 999999999 := Nat.mul_le_mul (by omega) (by omega)
            omega
        have hQ2 := HK3.out q r (by omega) HQR.out hle
        rw [PX.out, PY.out] at hle
        have hle3 : (X : Int) ≤ (Y : Int) + u2 := by omega
        have hle4 : decide ((Y : Int) + u2 < (X : Int)) = false := by simp; omega
        clear hg hle
        have hless := less_any P U S V q gu gv cu cv
        rw [HUL.out, HVL.out] at hless
        have HLESS := Lib.hid hless
        clear hless
        rcases (show (decide ((r : Int) < 1000000000) = true ∧ r < 1000000000) ∨ decide ((r : Int) < 1000000000) = false by
          rcases Nat.lt_or_ge r 1000000000 with h | h
          · left; simp; omega
          · right; simp; omega) with ⟨hr9, hr8'⟩ | hr9
        all_goals
          (try have y2 : (Y : Int) < 1000000000000000000 := by have := PY.out; omega)
          (try clear hr8')
          go_wp2
          go_quiet (fail)
          have HQQ2 := Lib.hid hq2
          have HQQ1 := Lib.hid hq1
          have HH2 := Lib.hid hQ2
          (try clear hr9)
          (try clear y2)
          clear hq1 hq2 hQ2 x1 y1 hle3 hle4 b0 b1 b2 b3 b4 x2 hr8
          go_wp2_with (go_at_call 109; refine (HLESS.out _ (HOU.out.drewN _) (HOV.out.drewN _) hne HXU.out HXV.out (by first | exact trivial | omega) (by have := HQQ2.out; omega) (by omega) hcu hcu2 hcv hcv2 hp).mono ?_; rintro e w1 ⟨W, cy, rfl, ho1, hl1, hd1, hval1, hg1⟩; have HV1E := Lib.hid hval1; have HL1 := Lib.hid hl1; have HD1 := Lib.hid hd1; have HO1 := Lib.hid ho1; have HG1 := Lib.hid hg1; clear hval1 hl1 hd1 ho1 hg1)
          · have hcy : 0 < cy := by assumption
            have hmore := more_any P W S V gu gv cu cv
            rw [HL1.out, HVL.out] at hmore
            have HMORE := Lib.hid hmore
            have HCY := Lib.hid hcy
            clear hmore hcy
            refine (HMORE.out _ HO1.out (((HOV.out.drewN _).only HG1.out hne)) hne HD1.out HXV.out (by first | exact trivial | omega) (by omega) hcu hcu2 hcv hcv2 hp).mono ?_
            rintro e w2 ⟨W2, cy2, ⟨vv, rfl⟩, ho2, hl2, hd2, hval2, hg2⟩
            have hW := Mth.val_lt (b := 1000000000) (by omega) W HD1.out
            have hW2 := Mth.val_lt (b := 1000000000) (by omega) W2 hd2
            have hVV := Mth.val_lt (b := 1000000000) (by omega) V HXV.out
            rw [HL1.out] at hW
            rw [hl2] at hW2
            rw [HVL.out] at hVV
            have hV0 : 0 < Mth.val 1000000000 V := by
              rcases Nat.eq_zero_or_pos (Mth.val 1000000000 V) with h | h
              · have := HLT.out; rw [h] at this; omega
              · exact h
            have hpw : 1000000000 ^ (m + 2) ≤ 1000000000 ^ (m + 3) := Nat.pow_le_pow_right (by omega) (by omega)
            obtain ⟨k1, k2⟩ := Mth.digit_neg HQ.out hV0 HV1E.out HCY.out hW hW2 (by omega) HH2.out hval2
            have K1 := Lib.hid k1
            have K2 := Lib.hid k2
            have HG2 := Lib.hid hg2
            have HO2 := Lib.hid ho2
            have HL2 := Lib.hid hl2
            have HD2 := Lib.hid hd2
            have hq9 : IntKind.u64.wrap ((q : Int) - 1) = (Q : Int) := by
              rw [k1, IntKind.wrap_u64]; have := HQQ2.out; omega
            have HQ9 := Lib.hid hq9
            clear hW hW2 hVV hV0 hpw k1 k2 hval2 hq9 hg2 ho2 hl2 hd2
            go_wp2
            go_ret
            refine ⟨W2, ret_int ?_, HO2.out, HL2.out, HD2.out, K2.out, only_trans (only_trans (only_drewN (only_refl w _) _) HG1.out) HG2.out⟩
            rw [HQ9.out, HQ.out]
          · have hcy : ¬ 0 < cy := by first | assumption | omega
            obtain rfl : cy = 0 := by omega
            have hval := HV1E.out
            rw [Nat.mul_zero, Nat.add_zero] at hval
            have hV0 : 0 < Mth.val 1000000000 V := by
              rcases Nat.eq_zero_or_pos (Mth.val 1000000000 V) with h | h
              · have := HLT.out; rw [h] at this; omega
              · exact h
            obtain ⟨k1, k2⟩ := Mth.digit_pos HQ.out hV0 hval HQQ1.out
            go_ret
            refine ⟨W, ret_int ?_, HO1.out, HL1.out, HD1.out, k2, only_trans (only_drewN (only_refl w _) _) HG1.out⟩
            rw [HQ.out, k1]
  · have m1 : ((u0 : Int) * 1000000000 + u1) / (v1 : Int) ≤ 999999999 := by rw [e0]; omega
    have hmin2 : q1 ≤ 999999999 := hmin
    clear e0 hdm hmin
    go_enter Tryz.func80, Tryz.ntmps80
    go_wp2
    go_quiet (fail)
    go_wp2
    go_loopw [7, 8] (fun a7 a8 wr => ∃ (q r nd : Nat), a7 = .int .u64 q ∧ a8 = .int .u64 r ∧ q * v1 + r = u0 * 1000000000 + u1 ∧ Q ≤ q ∧ q ≤ 999999999 ∧ wr = w.drewN nd) (fun _ a8 _ => (1000000000 - intOf a8).toNat)
    case atStart => exact ⟨q1, r1, _, by rw [E0.out], by rw [E0.out]; have := HDM.out; have := HPC.out; congr 1; omega, HDM.out, hQ1, hmin2, rfl⟩
    case round =>
      obtain ⟨q, r, nd, rfl, rfl, hqr, hq1, hq2, rfl⟩ := hrel
      have HQR := Lib.hid hqr
      have hr8 : (r : Int) ≤ (u0 : Int) * 1000000000 + u1 := by omega
      obtain ⟨X, hX⟩ : ∃ X, q * v2 = X := ⟨_, rfl⟩
      obtain ⟨Y, hY⟩ : ∃ Y, r * 1000000000 = Y := ⟨_, rfl⟩
      have hX9 : X ≤ 999999999 * 999999999 := by rw [← hX]; exact Nat.mul_le_mul (by omega) (by omega)
      have x1 : (q : Int) * (v2 : Int) = (X : Int) := by rw [← hX]; simp
      have y1 : (r : Int) * 1000000000 = (Y : Int) := by rw [← hY]; simp
      have x2 : (X : Int) < 1000000000000000000 := by omega
      have PX := Lib.hid hX
      have PY := Lib.hid hY
      clear hX hY hX9 hqr t1 t2 m1
      by_cases hg : r < 1000000000 ∧ r * 1000000000 + u2 < q * v2
      · obtain ⟨hg1, hg2⟩ := hg
        have hQq := HK.out q r HQR.out hg2
        rw [PX.out, PY.out] at hg2
        have hg3 : (Y : Int) + u2 < (X : Int) := by omega
        have hgb : decide ((r : Int) < 1000000000) = true := by simp; omega
        have y2 : (Y : Int) < 1000000000000000000 := by have := PY.out; omega
        clear hg2
        go_wp2
        go_quiet (fail)
        go_wp2
        go_roundw
        case rel =>
          refine ⟨q - 1, r + v1, _, by go_num, rfl, ?_, by omega, by omega, rfl⟩
          have h := HQR.out
          obtain ⟨p, rfl⟩ : ∃ p, q = p + 1 := ⟨q - 1, by omega⟩
          rw [Nat.succ_mul] at h
          rw [Nat.add_sub_cancel]
          omega
        case measure => simp [intOf]; omega
      · have hle : q * v2 ≤ r * 1000000000 + u2 := by
          rcases Nat.lt_or_ge r 1000000000 with h | h
          · rcases Nat.lt_or_ge (r * 1000000000 + u2) (q * v2) with h2 | h2
            · exact absurd ⟨h, h2⟩ hg
            · exact h2
          · have h3 : q * v2 ≤ 999999999 * 999999999 := Nat.mul_le_mul (by omega) (by omega)
            omega
        have hQ2 := HK3.out q r (by omega) HQR.out hle
        rw [PX.out, PY.out] at hle
        have hle3 : (X : Int) ≤ (Y : Int) + u2 := by omega
        have hle4 : decide ((Y : Int) + u2 < (X : Int)) = false := by simp; omega
        clear hg hle
        have hless := less_any P U S V q gu gv cu cv
        rw [HUL.out, HVL.out] at hless
        have HLESS := Lib.hid hless
        clear hless
        rcases (show (decide ((r : Int) < 1000000000) = true ∧ r < 1000000000) ∨ decide ((r : Int) < 1000000000) = false by
          rcases Nat.lt_or_ge r 1000000000 with h | h
          · left; simp; omega
          · right; simp; omega) with ⟨hr9, hr8'⟩ | hr9
        all_goals
          (try have y2 : (Y : Int) < 1000000000000000000 := by have := PY.out; omega)
          (try clear hr8')
          go_wp2
          go_quiet (fail)
          have HQQ2 := Lib.hid hq2
          have HQQ1 := Lib.hid hq1
          have HH2 := Lib.hid hQ2
          (try clear hr9)
          (try clear y2)
          clear hq1 hq2 hQ2 x1 y1 hle3 hle4 b0 b1 b2 b3 b4 x2 hr8
          go_wp2_with (go_at_call 109; refine (HLESS.out _ (HOU.out.drewN _) (HOV.out.drewN _) hne HXU.out HXV.out (by first | exact trivial | omega) (by have := HQQ2.out; omega) (by omega) hcu hcu2 hcv hcv2 hp).mono ?_; rintro e w1 ⟨W, cy, rfl, ho1, hl1, hd1, hval1, hg1⟩; have HV1E := Lib.hid hval1; have HL1 := Lib.hid hl1; have HD1 := Lib.hid hd1; have HO1 := Lib.hid ho1; have HG1 := Lib.hid hg1; clear hval1 hl1 hd1 ho1 hg1)
          · have hcy : 0 < cy := by assumption
            have hmore := more_any P W S V gu gv cu cv
            rw [HL1.out, HVL.out] at hmore
            have HMORE := Lib.hid hmore
            have HCY := Lib.hid hcy
            clear hmore hcy
            refine (HMORE.out _ HO1.out (((HOV.out.drewN _).only HG1.out hne)) hne HD1.out HXV.out (by first | exact trivial | omega) (by omega) hcu hcu2 hcv hcv2 hp).mono ?_
            rintro e w2 ⟨W2, cy2, ⟨vv, rfl⟩, ho2, hl2, hd2, hval2, hg2⟩
            have hW := Mth.val_lt (b := 1000000000) (by omega) W HD1.out
            have hW2 := Mth.val_lt (b := 1000000000) (by omega) W2 hd2
            have hVV := Mth.val_lt (b := 1000000000) (by omega) V HXV.out
            rw [HL1.out] at hW
            rw [hl2] at hW2
            rw [HVL.out] at hVV
            have hV0 : 0 < Mth.val 1000000000 V := by
              rcases Nat.eq_zero_or_pos (Mth.val 1000000000 V) with h | h
              · have := HLT.out; rw [h] at this; omega
              · exact h
            have hpw : 1000000000 ^ (m + 2) ≤ 1000000000 ^ (m + 3) := Nat.pow_le_pow_right (by omega) (by omega)
            obtain ⟨k1, k2⟩ := Mth.digit_neg HQ.out hV0 HV1E.out HCY.out hW hW2 (by omega) HH2.out hval2
            have K1 := Lib.hid k1
            have K2 := Lib.hid k2
            have HG2 := Lib.hid hg2
            have HO2 := Lib.hid ho2
            have HL2 := Lib.hid hl2
            have HD2 := Lib.hid hd2
            have hq9 : IntKind.u64.wrap ((q : Int) - 1) = (Q : Int) := by
              rw [k1, IntKind.wrap_u64]; have := HQQ2.out; omega
            have HQ9 := Lib.hid hq9
            clear hW hW2 hVV hV0 hpw k1 k2 hval2 hq9 hg2 ho2 hl2 hd2
            go_wp2
            go_ret
            refine ⟨W2, ret_int ?_, HO2.out, HL2.out, HD2.out, K2.out, only_trans (only_trans (only_drewN (only_refl w _) _) HG1.out) HG2.out⟩
            rw [HQ9.out, HQ.out]
          · have hcy : ¬ 0 < cy := by first | assumption | omega
            obtain rfl : cy = 0 := by omega
            have hval := HV1E.out
            rw [Nat.mul_zero, Nat.add_zero] at hval
            have hV0 : 0 < Mth.val 1000000000 V := by
              rcases Nat.eq_zero_or_pos (Mth.val 1000000000 V) with h | h
              · have := HLT.out; rw [h] at this; omega
              · exact h
            obtain ⟨k1, k2⟩ := Mth.digit_pos HQ.out hV0 hval HQQ1.out
            go_ret
            refine ⟨W, ret_int ?_, HO1.out, HL1.out, HD1.out, k2, only_trans (only_drewN (only_refl w _) _) HG1.out⟩
            rw [HQ.out, k1]
end Go.Proofs.YtgaiibkkompbnaaGreatDoor
