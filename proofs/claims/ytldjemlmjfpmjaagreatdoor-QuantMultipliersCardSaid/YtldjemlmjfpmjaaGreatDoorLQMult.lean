/-
  The law QuantMultipliers: quant.Multiplier is as specified.
-/
import Derived.Test.YtldjemlmjfpmjaaGreatDoorQmul
import Derived.Test.YtldjemlmjfpmjaaGreatDoorWorks
import Derived.Test.YtldjemlmjfpmjaaGreatDoorStrm
import Derived.Deep.DeepCutAuto
namespace Go.Proofs.YtldjemlmjfpmjaaGreatDoor
open Go.RowKit Go.Shelf

set_option maxHeartbeats 8000000 in
set_option maxRecDepth 100000 in
theorem qmultipliers_law (v : Value) (ws : List Int) (M : Int) (w : World) (hv : LI w v ws) (htab : Tabs w) (herr : ErrV w) :
    Calls Tryz.prog 5 #[v, .int .i64 M] w fun e w' => e = .returned (.bool true) ∧ Below w.heap.size w w' := by
  obtain ⟨A, c, rfl⟩ := hv.form
  have HN := Lib.hid (fun W (h : Tabs W) => quants_any W h)
  have HB0 : Hid (Below w.heap.size w (w.alloc (.cells #[.slice A ws.length c, .int .i64 0] 36))) := Lib.hid ((Below.refl _ w).alloc (Nat.le_refl _) _)
  have HT := Lib.hid htab
  have HE := Lib.hid herr
  have HGT : Hid (w.heap.size ≠ 2) := Lib.hid (by have := htab.1; omega)
  have HL := Lib.hid (loose_any _ w.heap.size c A ws 0 (strm_new hv) (by omega) (by omega) (HT.out.low HB0.out) HGT.out)
  obtain ⟨n, hn⟩ : ∃ n, ws.length = n := ⟨_, rfl⟩
  rw [hn] at HL HB0 ⊢
  clear hv htab herr hn
  go_enter Tryz.func5, Tryz.ntmps5
  go_wp2_with fail
  refine HL.out.mono ?_
  rintro e w1 ⟨S1, T1, rfl, hS1, hT1, ⟨a1, ha0, ha1, hs1⟩, hg1⟩
  obtain ⟨N1, rfl, hN1⟩ := str_form S1
  obtain ⟨D1, rfl, hD1⟩ := str_form T1
  have hB1 : Below w.heap.size w w1 := HB0.out.grown hg1 (by simp) (fun k hk => by injection hk with hk; omega)
  obtain ⟨wb, hwb⟩ : ∃ wb, wb = w1.alloc (.cells #[.string ⟨N1.toArray⟩, .string ⟨D1.toArray⟩] 45) := ⟨_, rfl⟩
  have hka : Blk wb w1.heap.size 45 #[.string ⟨N1.toArray⟩, .string ⟨D1.toArray⟩] := by rw [hwb]; exact Blk.new w1 _ _
  have hBW : Below w.heap.size w wb := by rw [hwb]; exact hB1.alloc hB1.size _
  have HBX := Lib.hid hBW
  have HTW : Hid (∀ W', Below wb.heap.size wb W' → Tabs W') := Lib.hid fun W' hb => HT.out.low (hBW.trans (hb.mono hBW.size))
  have HEW : Hid (∀ W', Below wb.heap.size wb W' → ErrV W') := Lib.hid fun W' hb => HE.out.low (hBW.trans (hb.mono hBW.size))
  have hrk := fun W => rfault_any N1 D1 W (by omega) (by omega)
  obtain ⟨K, hK⟩ : ∃ K, chkOf N1 D1 = K := ⟨_, rfl⟩
  obtain ⟨R1, R2, R3, hR⟩ : ∃ R1 R2 R3, (if K = 0 then mqN (negNum N1) (pN N1) (Mth.dv D1) M else (0, 0, K)) = (R1, R2, R3) := trip3 _
  have hmu := fun W => quantMult_any N1 D1 M K R1 R2 R3 W (by omega) (by omega) hK hR
  rw [hK] at hrk
  have HRK := Lib.hid hrk
  have HMU := Lib.hid hmu
  have HKK := Lib.hid hK
  have HRR := Lib.hid hR
  have HLEN : Hid (N1.length ≤ 100 ∧ D1.length ≤ 100) := Lib.hid ⟨by omega, by omega⟩
  have HWB := Lib.hid hwb
  obtain ⟨pa, hpa⟩ : ∃ pa, w1.heap.size = pa := ⟨_, rfl⟩
  rw [hpa] at hka
  have HSX : Hid (∀ w', Below wb.heap.size wb w' → w'.cell? ⟨pa, 0, none⟩ = some (.string ⟨N1.toArray⟩) ∧ w'.cell? ⟨pa, 1, none⟩ = some (.string ⟨D1.toArray⟩)) := Lib.hid fun w' hb =>
    ⟨(hka.low hb).cell 0, (hka.low hb).cell 1⟩
  obtain ⟨e0, e1⟩ := HSX.out wb (Below.refl _ wb)
  rw [hwb] at e0 e1
  clear hg1 hs1 hB1 HL hwb hka hBW hrk hmu hK hR hS1 hT1 hN1 hD1
  go_wp2_with fail
  rw [← HWB.out]
  clear hpa e0 e1
  refine (HMU.out _).mono ?_
  rintro e w2 ⟨rfl, hB2⟩
  have HB2 : Hid (Below wb.heap.size wb w2) := Lib.hid hB2
  obtain ⟨e0, e1⟩ := HSX.out w2 hB2
  clear hB2
  go_wp2_with fail
  refine (HRK.out _).mono ?_
  rintro e w3 ⟨rfl, hB3⟩
  have HB3 : Hid (Below wb.heap.size wb w3) := Lib.hid (HB2.out.trans (hB3.mono HB2.out.size))
  clear hB3 e0 e1
  obtain ⟨e0, e1⟩ := HSX.out w3 HB3.out
  go_upto_if 29 with fail
  go_cut [10, 11, 12] (fun a10 a11 a12 wx => a10 = .int .i64 R3 ∧ a11 = .int .i64 R1 ∧ a12 = .int .i64 R2 ∧ Below wb.heap.size wb wx)
  case first =>
    by_cases h0 : K = 0
    · subst h0
      have hrr := HRR.out
      rw [if_pos rfl] at hrr
      unfold mqN at hrr
      obtain ⟨b1, b2, b3⟩ := valid_of HKK.out
      obtain ⟨l1, l2⟩ := HLEN.out
      have c1 : (Mth.dg 10000 (pN N1)).length ≤ 100000 := dv_len (by omega) b1 (Nat.le_trans (cut_len N1) (by omega))
      have c2 : (Mth.dg 10000 (Mth.dv D1)).length ≤ 100000 := dv_len (by omega) b2 (by omega)
      have hO1 := fun W => rnof_any N1 D1 W (by omega) (by omega) b1 b2
      have HO1 : Hid (∀ W, Calls Tryz.prog 24 #[.agg #[.string ⟨N1.toArray⟩, .string ⟨D1.toArray⟩]] W (RNum (negNum N1) (pN N1) (Mth.dv D1) W)) := Lib.hid hO1
      have hsg := fun W x y (q1 : Pt W x (pN N1)) (q2 : Pt W y (Mth.dv D1)) => rsign_any (negNum N1) (pN N1) (Mth.dv D1) x y W q1 q2
      have hcases : (sgn (negNum N1) (pN N1) < 0 ∨ M < 1 ∨ 2147483647 < M) ∨ (¬ (sgn (negNum N1) (pN N1) < 0 ∨ M < 1 ∨ 2147483647 < M) ∧ negNum N1 = false) := by
        by_cases hs : sgn (negNum N1) (pN N1) < 0 ∨ M < 1 ∨ 2147483647 < M
        · exact .inl hs
        · exact .inr ⟨hs, val_neg HKK.out (fun h => hs (.inl h))⟩
      obtain ⟨gn, hgn⟩ : ∃ gn, negNum N1 = gn := ⟨_, rfl⟩
      obtain ⟨sv, hsv⟩ : ∃ sv, sgn (negNum N1) (pN N1) = sv := ⟨_, rfl⟩
      rw [hsv] at hrr hsg hcases
      rw [hgn] at hsg hcases HO1
      have HSG := Lib.hid hsg
      have HC := Lib.hid c1
      have HC2 := Lib.hid c2
      have HB3p := Lib.hid b3
      clear b1 b2 b3 l1 l2 hO1 hsg hgn hsv c1 c2
      go_wp2_with fail
      refine (HO1.out _).mono ?_
      rintro e w4 ⟨x1, y1, rfl, hx1, hy1, hB4⟩
      have HG4 := Lib.hid (HSG.out _ _ _ hx1 hy1)
      have HB4 : Hid (Below wb.heap.size wb w4) := Lib.hid (HB3.out.trans (hB4.mono HB3.out.size))
      clear hx1 hy1 hB4 e0 e1
      obtain ⟨e0, e1⟩ := HSX.out w4 HB4.out
      go_wp2_with fail
      refine HG4.out.mono ?_
      rintro e w5 ⟨rfl, hB5⟩
      have HB5 : Hid (Below wb.heap.size wb w5) := Lib.hid (HB4.out.trans (hB5.mono HB4.out.size))
      clear hB5 e0 e1
      obtain ⟨e0, e1⟩ := HSX.out w5 HB5.out
      rcases hcases with hs | ⟨hs, hg⟩
      · rw [if_pos hs] at hrr
        injection hrr with q1 q2
        injection q2 with q2 q3
        subst q1
        subst q2
        subst q3
        have hcase : (decide (sv < 0) = true) ∨ (decide (sv < 0) = false ∧ decide (M < 1) = true) ∨ (decide (sv < 0) = false ∧ decide (M < 1) = false ∧ decide (2147483647 < M) = true) := by
          by_cases h1 : sv < 0
          · exact .inl (decide_eq_true h1)
          · by_cases h2 : M < 1
            · exact .inr (.inl ⟨decide_eq_false h1, decide_eq_true h2⟩)
            · exact .inr (.inr ⟨decide_eq_false h1, decide_eq_false h2, decide_eq_true (by omega)⟩)
        clear hs
        rcases hcase with h1 | ⟨h1, h2⟩ | ⟨h1, h2, h3⟩ <;>
        · go_wp2_with fail
          go_meet
          exact ⟨rfl, rfl, rfl, HB5.out⟩
      · rw [if_neg hs] at hrr
        have hM0 : 1 ≤ M ∧ M ≤ 2147483647 := by omega
        have hs1 : decide (sv < 0) = false := decide_eq_false (by omega)
        have hm1 : decide (M < 1) = false := decide_eq_false (by omega)
        have hm2 : decide (2147483647 < M) = false := decide_eq_false (by omega)
        have HM0 := Lib.hid hM0
        clear hM0
        obtain ⟨X1, X2, X3, hX⟩ : ∃ X1 X2 X3, mltR M.toNat (pN N1) (Mth.dv D1) 31 = (X1, X2, X3) := trip3 _
        rw [hX] at hrr
        subst hg
        have HXX := Lib.hid hX
        have HXF : Hid (X3 = false → X1 = 0 ∧ X2 = 0) := Lib.hid fun h => by rw [h] at hX; exact mltR_false hX
        have HRV := Lib.hid hrr
        clear hs hX hrr
        go_wp2_with fail
        refine (HO1.out _).mono ?_
        rintro e w6 ⟨x2, y2, rfl, hx2, hy2, hB6⟩
        have HB6 : Hid (Below wb.heap.size wb w6) := Lib.hid (HB5.out.trans (hB6.mono HB5.out.size))
        have hmr := rmult_any M.toNat (pN N1) (Mth.dv D1) x2 y2 X1 X2 X3 w6 hx2 hy2 HC.out HC2.out HB3p.out (by have := HM0.out; omega) HXX.out (HTW.out _ HB6.out) (HEW.out _ HB6.out)
        rw [Int.toNat_of_nonneg (by have := HM0.out; omega)] at hmr
        have HMR := Lib.hid hmr
        clear hmr
        clear hx2 hy2 hB6 e0 e1
        go_wp2_with fail
        refine HMR.out.mono ?_
        rintro e w7 ⟨rfl, hB7⟩
        have HB7 : Hid (Below wb.heap.size wb w7) := Lib.hid (HB6.out.trans (hB7.mono HB6.out.size))
        have hrr := HRV.out
        clear hB7 HMR HRV HXX
        cases X3 with
        | false =>
          obtain ⟨z1, z2⟩ := HXF.out rfl
          subst z1
          subst z2
          injection hrr with q1 q2
          injection q2 with q2 q3
          subst q1
          subst q2
          subst q3
          go_wp2_with fail
          go_meet
          exact ⟨rfl, rfl, rfl, HB7.out⟩
        | true =>
          injection hrr with q1 q2
          injection q2 with q2 q3
          subst q1
          subst q2
          subst q3
          go_wp2_with fail
          go_meet
          exact ⟨rfl, rfl, rfl, HB7.out⟩
    · have hK0 : (K == 0) = false := by simpa using h0
      have hrr := HRR.out
      rw [if_neg h0] at hrr
      injection hrr with q1 q2
      injection q2 with q2 q3
      subst q1
      subst q2
      subst q3
      go_wp2_with fail
      go_meet
      exact ⟨rfl, rfl, rfl, HB3.out⟩
  case rest =>
    obtain ⟨rfl, rfl, rfl, hbc⟩ := hcut
    have HBC := Lib.hid hbc
    clear e0 e1 hbc
    go_wp2_with fail
    refine (HN.out _ (HTW.out _ HBC.out)).mono ?_
    rintro e w8 ⟨rfl, hB8⟩
    have HB8 : Hid (Below wb.heap.size wb w8) := Lib.hid (HBC.out.trans (hB8.mono HBC.out.size))
    clear hB8
    go_wp2
    go_ret
    exact ⟨ret_bool (by simp), HBX.out.trans (HB8.out.mono HBX.out.size)⟩
end Go.Proofs.YtldjemlmjfpmjaaGreatDoor
