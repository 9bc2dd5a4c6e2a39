/-
  The law NumSums: num.Add, num.Sub and num.Neg are as specified.
-/
import Derived.Test.YtaibpeokfbokfaaGreatDoorSums
import Derived.Test.YtaibpeokfbokfaaGreatDoorPair
import Derived.Test.YtaibpeokfbokfaaGreatDoorNums
import Derived.Test.YtaibpeokfbokfaaGreatDoorStrm
import Derived.Test.YtaibpeokfbokfaaGreatDoorRSame
import Derived.Deep.DeepCutAuto
namespace Go.Proofs.YtaibpeokfbokfaaGreatDoor
open Go.RowKit Go.Shelf

set_option maxHeartbeats 8000000 in
set_option maxRecDepth 100000 in
theorem sums_law (v : Value) (ws : List Int) (w : World) (hv : LI w v ws) (htab : Tabs w) :
    Calls Tryz.prog 4 #[v] w fun e w' => e = .returned (.bool true) ∧ Below w.heap.size w w' := by
  obtain ⟨A, c, rfl⟩ := hv.form
  have HN := Lib.hid (fun W (h : Tabs W) => nums_any W h)
  have HB0 : Hid (Below w.heap.size w (w.alloc (.cells #[.slice A ws.length c, .int .i64 0] 25))) := Lib.hid ((Below.refl _ w).alloc (Nat.le_refl _) _)
  have HT := Lib.hid htab
  have HGT : Hid (w.heap.size ≠ 2) := Lib.hid (by have := htab.1; omega)
  have HL := Lib.hid (loose_any _ w.heap.size c A ws 0 (strm_new hv) (by omega) (by omega) (HT.out.low HB0.out) HGT.out)
  obtain ⟨n, hn⟩ : ∃ n, ws.length = n := ⟨_, rfl⟩
  rw [hn] at HL HB0 ⊢
  clear hv htab hn
  go_enter Tryz.func4, Tryz.ntmps4
  go_wp2_with fail
  refine HL.out.mono ?_
  rintro e w1 ⟨S1, T1, rfl, hS1, hT1, ⟨a1, ha0, ha1, hs1⟩, hg1⟩
  obtain ⟨N1, rfl, hN1⟩ := str_form S1
  obtain ⟨D1, rfl, hD1⟩ := str_form T1
  have hB1 : Below w.heap.size w w1 := HB0.out.grown hg1 (by simp) (fun k hk => by injection hk with hk; omega)
  have HB1 := Lib.hid hB1
  have HL2 := Lib.hid (loose_any w1 w.heap.size c A ws a1 hs1 (by omega) (by omega) (HT.out.low hB1) HGT.out)
  clear hg1 hs1 hB1 HL
  go_wp2_with fail
  refine HL2.out.mono ?_
  rintro e w2 ⟨S2, T2, rfl, hS2, hT2, -, hg2⟩
  obtain ⟨N2, rfl, hN2⟩ := str_form S2
  obtain ⟨D2, rfl, hD2⟩ := str_form T2
  have hB2 : Below w.heap.size w w2 := HB1.out.grown hg2 HB1.out.size (fun k hk => by injection hk with hk; omega)
  have HB2 := Lib.hid hB2
  clear hg2 hB2 HL2
  go_wp2_with fail
  obtain ⟨W2, hW2⟩ : ∃ W2, W2 = ((w2.alloc (.cells #[.string ⟨N1.toArray⟩, .string ⟨D1.toArray⟩] 27)).alloc (.cells #[.string ⟨N2.toArray⟩, .string ⟨D2.toArray⟩] 27)).alloc (.cells #[.string ⟨N1.toArray⟩, .string ⟨D1.toArray⟩, .string ⟨N2.toArray⟩, .string ⟨D2.toArray⟩] 27) := ⟨_, rfl⟩
  have hka : Blk W2 w2.heap.size 27 #[.string ⟨N1.toArray⟩, .string ⟨D1.toArray⟩] := by rw [hW2]; exact ((Blk.new w2 _ _).alloc _).alloc _
  have hkb : Blk W2 (w2.heap.size + 1) 27 #[.string ⟨N2.toArray⟩, .string ⟨D2.toArray⟩] := by
    rw [hW2]
    have := (Blk.new (w2.alloc (.cells #[.string ⟨N1.toArray⟩, .string ⟨D1.toArray⟩] 27)) 27 #[.string ⟨N2.toArray⟩, .string ⟨D2.toArray⟩]).alloc (.cells #[.string ⟨N1.toArray⟩, .string ⟨D1.toArray⟩, .string ⟨N2.toArray⟩, .string ⟨D2.toArray⟩] 27)
    rwa [World.size_alloc] at this
  have hkc : Blk W2 (w2.heap.size + 1 + 1) 27 #[.string ⟨N1.toArray⟩, .string ⟨D1.toArray⟩, .string ⟨N2.toArray⟩, .string ⟨D2.toArray⟩] := by
    rw [hW2]
    have := Blk.new ((w2.alloc (.cells #[.string ⟨N1.toArray⟩, .string ⟨D1.toArray⟩] 27)).alloc (.cells #[.string ⟨N2.toArray⟩, .string ⟨D2.toArray⟩] 27)) 27 #[.string ⟨N1.toArray⟩, .string ⟨D1.toArray⟩, .string ⟨N2.toArray⟩, .string ⟨D2.toArray⟩]
    rwa [World.size_alloc, World.size_alloc] at this
  have hBW : Below w.heap.size w W2 := by
    rw [hW2]
    have h := HB2.out.size
    exact ((HB2.out.alloc h _).alloc (by simp; omega) _).alloc (by simp; omega) _
  have hRF := rfaults_any N1 D1 N2 D2 (w2.heap.size + 1 + 1) W2 (hkc.cell 0) (hkc.cell 1) (hkc.cell 2) (hkc.cell 3) (by omega) (by omega) (by omega) (by omega)
  obtain ⟨f, hf⟩ : ∃ f, chk2 (chkOf N1 D1) (chkOf N2 D2) = f := ⟨_, rfl⟩
  rw [hf] at hRF
  have HF := Lib.hid hf
  have HRF := Lib.hid hRF
  have HBW := Lib.hid hBW
  have HKA := Lib.hid hka
  have HKB := Lib.hid hkb
  have HW2 := Lib.hid hW2
  have HLEN : Hid (N1.length ≤ 1000000 ∧ D1.length ≤ 1000000 ∧ N2.length ≤ 1000000 ∧ D2.length ≤ 1000000) := Lib.hid ⟨by omega, by omega, by omega, by omega⟩
  have hltb := hkb.lt
  rw [← hW2]
  clear hW2 hka hkb hkc hBW hRF hf hS1 hT1 hS2 hT2 hN1 hD1 hN2 hD2
  refine HRF.out.mono ?_
  rintro e w3 ⟨rfl, hB3⟩
  have HB3 := Lib.hid hB3
  clear hB3
  go_wp2_with fail
  refine (rint_any 0 w3 (by omega) (by omega)).mono ?_
  rintro e w4 ⟨x1, y1, rfl, hx1, hy1, hB4⟩
  have HX1 := Lib.hid hx1
  have HY1 := Lib.hid hy1
  have HB4 : Hid (Below W2.heap.size W2 w4) := Lib.hid (HB3.out.trans (hB4.mono HB3.out.size))
  clear hx1 hy1 hB4
  go_wp2_with fail
  refine (rint_any 0 w4 (by omega) (by omega)).mono ?_
  rintro e w5 ⟨x2, y2, rfl, hx2, hy2, hB5⟩
  have HX2 := Lib.hid hx2
  have HY2 := Lib.hid hy2
  have HX1' := Lib.hid (HX1.out.below hB5)
  have HY1' := Lib.hid (HY1.out.below hB5)
  have HB5 : Hid (Below W2.heap.size W2 w5) := Lib.hid (HB4.out.trans (hB5.mono HB4.out.size))
  obtain ⟨A1, n1, k1, rfl⟩ := HX1'.out.shape
  obtain ⟨A2, n2, k2, rfl⟩ := HY1'.out.shape
  obtain ⟨A3, n3, k3, rfl⟩ := hx2.shape
  obtain ⟨A4, n4, k4, rfl⟩ := hy2.shape
  clear hx2 hy2 hB5 HX1 HY1
  obtain ⟨W5, hW5⟩ : ∃ W5, W5 = (w5.alloc (.cells #[.bool false, .slice A1 n1 k1, .slice A2 n2 k2] 33)).alloc (.cells #[.bool false, .slice A3 n3 k3, .slice A4 n4 k4] 33) := ⟨_, rfl⟩
  have hkp : Blk W5 w5.heap.size 33 #[.bool false, .slice A1 n1 k1, .slice A2 n2 k2] := by rw [hW5]; exact (Blk.new w5 _ _).alloc _
  have hkq : Blk W5 (w5.heap.size + 1) 33 #[.bool false, .slice A3 n3 k3, .slice A4 n4 k4] := by
    rw [hW5]
    have := Blk.new (w5.alloc (.cells #[.bool false, .slice A1 n1 k1, .slice A2 n2 k2] 33)) 33 #[.bool false, .slice A3 n3 k3, .slice A4 n4 k4]
    rwa [World.size_alloc] at this
  have hB56 : Below W2.heap.size W2 W5 := by
    rw [hW5]
    have h := HB5.out.size
    exact (HB5.out.alloc h _).alloc (by simp; omega) _
  have hT0 : Two N1 D1 N2 D2 f w5.heap.size W5 ∨ f = 0 := by
    by_cases h : f = 0
    · exact Or.inr h
    · refine Or.inl ⟨false, false, A1, A2, A3, A4, n1, k1, n2, k2, n3, k3, n4, k4, 0, 1, 0, 1, hkp, hkq, ?_, ?_, ?_, ?_, fun e => absurd e h, ?_⟩
      · rw [hW5]; exact (HX1'.out.alloc _).alloc _
      · rw [hW5]; exact (HY1'.out.alloc _).alloc _
      · rw [hW5]; exact (HX2.out.alloc _).alloc _
      · rw [hW5]; exact (HY2.out.alloc _).alloc _
      · refine ⟨?_, ?_, ?_, ?_, by omega⟩ <;> exact Nat.le_trans (Mth.dg_len_le (b := 10000) (by omega) 1 _ (by omega)) (by omega)
  have HT0 := Lib.hid hT0
  have HW5 := Lib.hid hW5
  have HKP := Lib.hid hkp
  have HKQ := Lib.hid hkq
  have HB56 := Lib.hid hB56
  obtain ⟨p, hp⟩ : ∃ p, w5.heap.size = p := ⟨_, rfl⟩
  have HLP2 : Hid (W2.heap.size ≤ p) := Lib.hid (by rw [← hp]; exact HB5.out.size)
  have HPL : Hid (p + 1 < W5.heap.size) := Lib.hid (by rw [← hp]; exact HKQ.out.lt)
  have hlp : w2.heap.size + 1 < p := by rw [← hp]; have := HB5.out.size; omega
  clear hW5 hkp hkq hB56 hT0
  go_upto_if 29 with fail
  rw [← HW5.out]
  rw [hp] at HT0 HKP HKQ
  go_cut [] (fun wx => Two N1 D1 N2 D2 f p wx ∧ Below W2.heap.size W2 wx)
  case first =>
    by_cases h0 : f = 0
    · have hf0 : (f == 0) = true := by simpa using h0
      obtain ⟨v1, v2⟩ := chk2_zero (HF.out.trans h0)
      clear h0
      obtain ⟨b1, b2, b3⟩ := valid_of v1
      obtain ⟨b4, b5, b6⟩ := valid_of v2
      obtain ⟨l1, l2, l3, l4⟩ := HLEN.out
      have HLL : Hid ((Mth.dg 10000 (Mth.dv (cutNum N1))).length ≤ 1000000 ∧ (Mth.dg 10000 (Mth.dv D1)).length ≤ 1000000 ∧ (Mth.dg 10000 (Mth.dv (cutNum N2))).length ≤ 1000000 ∧ (Mth.dg 10000 (Mth.dv D2)).length ≤ 1000000 ∧ 0 < Mth.dv D1 * Mth.dv D2) := Lib.hid
        ⟨dv_len (by omega) b1 (Nat.le_trans (cut_len N1) l1), dv_len (by omega) b2 l2, dv_len (by omega) b4 (Nat.le_trans (cut_len N2) l3), dv_len (by omega) b5 l4, Nat.mul_pos b3 b6⟩
      have HO1 := Lib.hid (fun W => rnof_any N1 D1 W (by omega) (by omega) b1 b2)
      have HO2 := Lib.hid (fun W => rnof_any N2 D2 W (by omega) (by omega) b4 b5)
      have HS : Hid (∀ w', Below W5.heap.size W5 w' → w'.cell? ⟨w2.heap.size, 0, none⟩ = some (.string ⟨N1.toArray⟩) ∧ w'.cell? ⟨w2.heap.size, 1, none⟩ = some (.string ⟨D1.toArray⟩) ∧ w'.cell? ⟨w2.heap.size + 1, 0, none⟩ = some (.string ⟨N2.toArray⟩) ∧ w'.cell? ⟨w2.heap.size + 1, 1, none⟩ = some (.string ⟨D2.toArray⟩)) := Lib.hid fun w' hb => by
        have hb2 : Below W2.heap.size W2 w' := HB56.out.trans (hb.mono HB56.out.size)
        have h1 := HKA.out.low hb2
        have h2 := HKB.out.low hb2
        exact ⟨h1.cell 0, h1.cell 1, h2.cell 0, h2.cell 1⟩
      obtain ⟨e0, e1, e2, e3⟩ := HS.out W5 (Below.refl _ W5)
      clear v1 v2 b1 b2 b3 b4 b5 b6 l1 l2 l3 l4
      have tok : True := trivial
      go_wp2_with fail
      go_region_held3 (fun w' => w'.cell? ⟨w2.heap.size, 0, none⟩ = some (.string ⟨N1.toArray⟩) ∧ w'.cell? ⟨w2.heap.size, 1, none⟩ = some (.string ⟨D1.toArray⟩) ∧ w'.cell? ⟨w2.heap.size + 1, 0, none⟩ = some (.string ⟨N2.toArray⟩) ∧ w'.cell? ⟨w2.heap.size + 1, 1, none⟩ = some (.string ⟨D2.toArray⟩))
        (first | (have q := HS.out w7 HC7.out; obtain ⟨q0, q1, q2, q3⟩ := q; refine ⟨?_, ?_, ?_, ?_⟩ <;> (rw [World.cell?_setCell_other _ _ _ _ (by intro h; injection h with h _; omega)]; repeat rw [World.cell?_setCell_other _ _ _ _ (by intro h; injection h with h _; omega)]) <;> assumption) | exact ⟨e0, e1, e2, e3⟩ | exact HS.out _ HC7.out | exact HS.out _ HC6.out | go_keep)
        (first
          | (go_at_call 10; have _t := tok; refine (HO1.out _).mono ?_; rintro e w6 ⟨r1, r2, rfl, hR1, hR2, hB6⟩; have HR1 := Lib.hid hR1; have HR2 := Lib.hid hR2; have HC6 : Hid (Below W5.heap.size W5 w6) := Lib.hid ((Below.refl _ W5).drew.trans hB6); clear hR1 hR2 hB6 tok _t)
          | (go_at_call 10; refine (HO2.out _).mono ?_; rintro e w7 ⟨r3, r4, rfl, hR3, hR4, hB7⟩; have HR3 := Lib.hid hR3; have HR4 := Lib.hid hR4; have HR5 := Lib.hid (HR1.out.below hB7); have HR6 := Lib.hid (HR2.out.below hB7); have HC7 : Hid (Below W5.heap.size W5 w7) := Lib.hid (HC6.out.trans (hB7.mono HC6.out.size)); clear hR3 hR4 hB7; obtain ⟨A5, n5, k5, rfl⟩ := HR5.out.shape; obtain ⟨A6, n6, k6, rfl⟩ := HR6.out.shape; obtain ⟨A7, n7, k7, rfl⟩ := HR3.out.shape; obtain ⟨A8, n8, k8, rfl⟩ := HR4.out.shape; have hk := HKP.out.low HC7.out; have hk' := HKQ.out.low HC7.out; have c0 := hk.cell 0; have c1 := hk.cell 1; have c2 := hk.cell 2; have f0 := hk.frozen 0; have f1 := hk.frozen 1; have f2 := hk.frozen 2; have i0 := hk'.cell 0; have i1 := hk'.cell 1; have i2 := hk'.cell 2; have j0 := hk'.frozen 0; have j1 := hk'.frozen 1; have j2 := hk'.frozen 2; simp only [List.getElem?_toArray, List.getElem?_cons_zero, List.getElem?_cons_succ] at c0 c1 c2 i0 i1 i2; have HK3 := Lib.hid hk; have HK4 := Lib.hid hk'; clear hk hk'))
      go_wp2_with fail
      go_meet
      refine ⟨two_set HK3.out HK4.out HR5.out HR6.out HR3.out HR4.out (fun _ => ⟨rfl, rfl, rfl, rfl, rfl, rfl⟩) HLL.out, ?_⟩
      have hb7 : Below W2.heap.size W2 w7 := HB56.out.trans (HC7.out.mono HB56.out.size)
      have h2 := HLP2.out
      exact (((((hb7.setCell (p := ⟨p, 0, none⟩) h2 _).setCell (p := ⟨p, 1, none⟩) h2 _).setCell (p := ⟨p, 2, none⟩) h2 _).setCell (p := ⟨p + 1, 0, none⟩) (Nat.le_succ_of_le h2) _).setCell (p := ⟨p + 1, 1, none⟩) (Nat.le_succ_of_le h2) _).setCell (p := ⟨p + 1, 2, none⟩) (Nat.le_succ_of_le h2) _
    · have hf0 : (f == 0) = false := by simpa using h0
      go_wp2_with fail
      go_meet
      exact ⟨HT0.out.resolve_right h0, HB56.out⟩
  case rest =>
    obtain ⟨⟨g1, g2, B1, B2, B3, B4, a1, c1, a2, c2, a3, c3, a4, c4, m1, d1, m2, d2, hkp, hkq, hp1, hp2, hp3, hp4, hv, hl⟩, hbc⟩ := hcut
    obtain ⟨l1, l2, l3, l4⟩ := HLEN.out
    obtain ⟨P, Q, hA, hSA⟩ := numAdd_pair l1 l2 l3 l4 HF.out hv
    obtain ⟨P', Q', hS, hSS⟩ := numSub_pair l1 l2 l3 l4 HF.out hv
    have HA := Lib.hid hA
    have HSA := Lib.hid hSA
    have HS := Lib.hid hS
    have HSS := Lib.hid hSS
    have HKP1 := Lib.hid hkp
    have HKQ1 := Lib.hid hkq
    have HP1 := Lib.hid hp1
    have HP2 := Lib.hid hp2
    have HP3 := Lib.hid hp3
    have HP4 := Lib.hid hp4
    have HLL := Lib.hid hl
    have HBC := Lib.hid hbc
    have HV := Lib.hid hv
    have hka := HKA.out.low hbc
    have hkb := HKB.out.low hbc
    have e0 := hka.cell 0
    have e1 := hka.cell 1
    have e2 := hkb.cell 0
    have e3 := hkb.cell 1
    simp only [List.getElem?_toArray, List.getElem?_cons_zero, List.getElem?_cons_succ] at e0 e1 e2 e3
    have HTW : Hid (∀ W', Below W2.heap.size W2 W' → Tabs W') := Lib.hid fun W' hb => HT.out.low (HBW.out.trans (hb.mono HBW.out.size))
    clear hA hSA hS hSS hkp hkq hp1 hp2 hp3 hp4 hv hl hbc hka hkb l1 l2 l3 l4
    go_wp2_with fail
    refine (HA.out _ (HTW.out _ HBC.out)).mono ?_
    rintro e w8 ⟨rfl, hB8⟩
    have HB8 : Hid (Below W2.heap.size W2 w8) := Lib.hid (HBC.out.trans (hB8.mono HBC.out.size))
    have hka := HKA.out.low HB8.out
    have hkb := HKB.out.low HB8.out
    have HKP2 := Lib.hid (HKP1.out.low hB8)
    have HKQ2 := Lib.hid (HKQ1.out.low hB8)
    have HQ1 := Lib.hid (HP1.out.below hB8)
    have HQ2 := Lib.hid (HP2.out.below hB8)
    have HQ3 := Lib.hid (HP3.out.below hB8)
    have HQ4 := Lib.hid (HP4.out.below hB8)
    have e0 := (hka.alloc (.cells #[.string P, .string Q] 27)).cell 0
    have e1 := (hka.alloc (.cells #[.string P, .string Q] 27)).cell 1
    have e2 := (hkb.alloc (.cells #[.string P, .string Q] 27)).cell 0
    have e3 := (hkb.alloc (.cells #[.string P, .string Q] 27)).cell 1
    simp only [List.getElem?_toArray, List.getElem?_cons_zero, List.getElem?_cons_succ] at e0 e1 e2 e3
    have HB9 : Hid (Below W2.heap.size W2 (w8.alloc (.cells #[.string P, .string Q] 27))) := Lib.hid (HB8.out.alloc HB8.out.size _)
    clear hB8 hka hkb HP1 HP2 HP3 HP4 HKP1 HKQ1
    go_wp2_with fail
    refine (HS.out _ (HTW.out _ HB9.out)).mono ?_
    rintro e w10 ⟨rfl, hB10⟩
    obtain ⟨W11, hW11⟩ : ∃ W11, W11 = w10.alloc (.cells #[.string P', .string Q'] 27) := ⟨_, rfl⟩
    have hB11 : Below w8.heap.size (w8.alloc (.cells #[.string P, .string Q] 27)) W11 := by rw [hW11]; exact (hB10.mono (by simp)).alloc (by have := hB10.size; simp at this; omega) _
    have hBA : Below (w8.alloc (.cells #[.string P, .string Q] 27)).heap.size (w8.alloc (.cells #[.string P, .string Q] 27)) W11 := by rw [hW11]; exact hB10.alloc hB10.size _
    have HB11 : Hid (Below W2.heap.size W2 W11) := Lib.hid (HB9.out.trans (hBA.mono HB9.out.size))
    have HKR := Lib.hid ((Blk.new w8 27 #[.string P, .string Q]).low hBA)
    have HKS : Hid (Blk W11 w10.heap.size 27 #[.string P', .string Q']) := Lib.hid (by rw [hW11]; exact Blk.new w10 _ _)
    have HKP3 := Lib.hid ((HKP2.out.alloc (.cells #[.string P, .string Q] 27)).low hBA)
    have HKQ3 := Lib.hid ((HKQ2.out.alloc (.cells #[.string P, .string Q] 27)).low hBA)
    have HX1 : Hid (Pt W11 (.slice B1 a1 c1) m1) := Lib.hid (Sl.below (Sl.alloc HQ1.out (.cells #[.string P, .string Q] 27)) hBA)
    have HX2 : Hid (Pt W11 (.slice B2 a2 c2) d1) := Lib.hid (Sl.below (Sl.alloc HQ2.out (.cells #[.string P, .string Q] 27)) hBA)
    have HX3 : Hid (Pt W11 (.slice B3 a3 c3) m2) := Lib.hid (Sl.below (Sl.alloc HQ3.out (.cells #[.string P, .string Q] 27)) hBA)
    have HX4 : Hid (Pt W11 (.slice B4 a4 c4) d2) := Lib.hid (Sl.below (Sl.alloc HQ4.out (.cells #[.string P, .string Q] 27)) hBA)
    have HSC : Hid (∀ w', Below W11.heap.size W11 w' → w'.cell? ⟨w8.heap.size, 0, none⟩ = some (.string P) ∧ w'.cell? ⟨w8.heap.size, 1, none⟩ = some (.string Q) ∧ w'.cell? ⟨w10.heap.size, 0, none⟩ = some (.string P') ∧ w'.cell? ⟨w10.heap.size, 1, none⟩ = some (.string Q') ∧ w'.cell? ⟨p, 0, none⟩ = some (.bool g1) ∧ w'.cell? ⟨p, 1, none⟩ = some (.slice B1 a1 c1) ∧ w'.cell? ⟨p, 2, none⟩ = some (.slice B2 a2 c2) ∧ w'.cell? ⟨p + 1, 0, none⟩ = some (.bool g2) ∧ w'.cell? ⟨p + 1, 1, none⟩ = some (.slice B3 a3 c3) ∧ w'.cell? ⟨p + 1, 2, none⟩ = some (.slice B4 a4 c4)) := Lib.hid fun w' hb =>
      ⟨(HKR.out.low hb).cell 0, (HKR.out.low hb).cell 1, (HKS.out.low hb).cell 0, (HKS.out.low hb).cell 1, (HKP3.out.low hb).cell 0, (HKP3.out.low hb).cell 1, (HKP3.out.low hb).cell 2, (HKQ3.out.low hb).cell 0, (HKQ3.out.low hb).cell 1, (HKQ3.out.low hb).cell 2⟩
    obtain ⟨t1, t2, t3, t4, t5⟩ := HLL.out
    obtain ⟨r0, r1, r2, r3, r4, r5, r6, r7, r8, r9⟩ := HSC.out W11 (Below.refl _ W11)
    have HW11 := Lib.hid hW11
    have tok9 : True := trivial
    clear hB10 hB11 hBA hW11 HQ1 HQ2 HQ3 HQ4 e0 e1 e2 e3 HKP2 HKQ2
    go_wp2_with fail
    rw [← HW11.out]
    go_region_held3 (fun w' => w'.cell? ⟨w8.heap.size, 0, none⟩ = some (.string P) ∧ w'.cell? ⟨w8.heap.size, 1, none⟩ = some (.string Q) ∧ w'.cell? ⟨w10.heap.size, 0, none⟩ = some (.string P') ∧ w'.cell? ⟨w10.heap.size, 1, none⟩ = some (.string Q') ∧ w'.cell? ⟨p, 0, none⟩ = some (.bool g1) ∧ w'.cell? ⟨p, 1, none⟩ = some (.slice B1 a1 c1) ∧ w'.cell? ⟨p, 2, none⟩ = some (.slice B2 a2 c2) ∧ w'.cell? ⟨p + 1, 0, none⟩ = some (.bool g2) ∧ w'.cell? ⟨p + 1, 1, none⟩ = some (.slice B3 a3 c3) ∧ w'.cell? ⟨p + 1, 2, none⟩ = some (.slice B4 a4 c4))
      (first | exact ⟨r0, r1, r2, r3, r4, r5, r6, r7, r8, r9⟩ | go_keep)
      (first
        | (go_at_call 12; refine (HN.out _ (HTW.out _ HB11.out.drew)).mono ?_; rintro e w12 ⟨rfl, hB12⟩; have HC12 : Hid (Below W11.heap.size W11 w12) := Lib.hid ((Below.refl _ W11).drew.trans hB12); clear hB12; clear r0 r1 r2 r3 r4 r5 r6 r7 r8 r9; obtain ⟨r0, r1, r2, r3, r4, r5, r6, r7, r8, r9⟩ := HSC.out w12 HC12.out)
        | (go_at_call 23; refine (rnadd_any g1 g2 m1 d1 m2 d2 _ _ _ _ _ (Sl.below HX1.out HC12.out) (Sl.below HX2.out HC12.out) (Sl.below HX3.out HC12.out) (Sl.below HX4.out HC12.out) t1 t2 t3 t4 t5).mono ?_; rintro e w13 ⟨y1, y2, rfl, hY1, hY2, hB13⟩; have HY1 := Lib.hid hY1; have HY2 := Lib.hid hY2; have HC13 : Hid (Below W11.heap.size W11 w13) := Lib.hid (HC12.out.trans (hB13.mono HC12.out.size)); clear hY1 hY2 hB13; clear r0 r1 r2 r3 r4 r5 r6 r7 r8 r9; obtain ⟨r0, r1, r2, r3, r4, r5, r6, r7, r8, r9⟩ := HSC.out w13 HC13.out)
        | (go_at_call 24; refine (rnsub_any g1 g2 m1 d1 m2 d2 _ _ _ _ _ (Sl.below HX1.out HC14.out) (Sl.below HX2.out HC14.out) (Sl.below HX3.out HC14.out) (Sl.below HX4.out HC14.out) t1 t2 t3 t4 t5).mono ?_; rintro e w15 ⟨y3, y4, rfl, hY3, hY4, hB15⟩; have HY3 := Lib.hid hY3; have HY4 := Lib.hid hY4; have HC15 : Hid (Below W11.heap.size W11 w15) := Lib.hid (HC14.out.trans (hB15.mono HC14.out.size)); clear hY3 hY4 hB15; clear r0 r1 r2 r3 r4 r5 r6 r7 r8 r9; obtain ⟨r0, r1, r2, r3, r4, r5, r6, r7, r8, r9⟩ := HSC.out w15 HC15.out)
        | (go_at_call 13; have _t := tok9; refine (HSA.out _ _ _ HY1.out HY2.out (HTW.out _ (HB11.out.trans (HC13.out.mono HB11.out.size)))).mono ?_; rintro e w14 ⟨rfl, hB14⟩; have HC14 : Hid (Below W11.heap.size W11 w14) := Lib.hid (HC13.out.trans (hB14.mono HC13.out.size)); clear hB14 tok9 _t; clear r0 r1 r2 r3 r4 r5 r6 r7 r8 r9; obtain ⟨r0, r1, r2, r3, r4, r5, r6, r7, r8, r9⟩ := HSC.out w14 HC14.out)
        | (go_at_call 13; refine (HSS.out _ _ _ HY3.out HY4.out (HTW.out _ (HB11.out.trans (HC15.out.mono HB11.out.size)))).mono ?_; rintro e w16 ⟨rfl, hB16⟩; have HC16 : Hid (Below W11.heap.size W11 w16) := Lib.hid (HC15.out.trans (hB16.mono HC15.out.size)); clear hB16; clear r0 r1 r2 r3 r4 r5 r6 r7 r8 r9; obtain ⟨r0, r1, r2, r3, r4, r5, r6, r7, r8, r9⟩ := HSC.out w16 HC16.out))
    clear r0 r1 r2 r3 r4 r5 r6 r7 r8 r9
    have HB16 : Hid (Below W2.heap.size W2 w16) := Lib.hid (HB11.out.trans (HC16.out.mono HB11.out.size))
    have hka := HKA.out.low HB16.out
    have e0 := hka.cell 0
    have e1 := hka.cell 1
    simp only [List.getElem?_toArray, List.getElem?_cons_zero, List.getElem?_cons_succ] at e0 e1
    clear hka
    obtain ⟨l1, l2, l3, l4⟩ := HLEN.out
    by_cases v1 : chkOf N1 D1 = 0
    · obtain ⟨P3, Q3, hN, hNS⟩ := numNeg_pair l1 l2 v1
      obtain ⟨b1, b2, b3⟩ := valid_of v1
      have HNG := Lib.hid hN
      have HNS := Lib.hid hNS
      have HO1 := Lib.hid (fun W => rnof_any N1 D1 W (by omega) (by omega) b1 b2)
      have HRF1 := Lib.hid (fun W => rfault_any N1 D1 W (by omega) (by omega))
      rw [v1] at HRF1
      clear hN hNS b1 b2 b3 v1 l1 l2 l3 l4
      go_wp2_with fail
      refine (HNG.out _ (HTW.out _ HB16.out)).mono ?_
      rintro e w17 ⟨rfl, hB17⟩
      have HB17 : Hid (Below W2.heap.size W2 w17) := Lib.hid (HB16.out.trans (hB17.mono HB16.out.size))
      obtain ⟨W18, hW18⟩ : ∃ W18, W18 = w17.alloc (.cells #[.string P3, .string Q3] 27) := ⟨_, rfl⟩
      have HB18 : Hid (Below W2.heap.size W2 W18) := Lib.hid (by rw [hW18]; exact HB17.out.alloc HB17.out.size _)
      have HKN : Hid (Blk W18 w17.heap.size 27 #[.string P3, .string Q3]) := Lib.hid (by rw [hW18]; exact Blk.new w17 _ _)
      have HKA2 := Lib.hid (HKA.out.low HB18.out)
      have HW18 := Lib.hid hW18
      have HSC2 : Hid (∀ w', Below W18.heap.size W18 w' → w'.cell? ⟨w17.heap.size, 0, none⟩ = some (.string P3) ∧ w'.cell? ⟨w17.heap.size, 1, none⟩ = some (.string Q3) ∧ w'.cell? ⟨w2.heap.size, 0, none⟩ = some (.string ⟨N1.toArray⟩) ∧ w'.cell? ⟨w2.heap.size, 1, none⟩ = some (.string ⟨D1.toArray⟩)) := Lib.hid fun w' hb =>
        ⟨(HKN.out.low hb).cell 0, (HKN.out.low hb).cell 1, (HKA2.out.low hb).cell 0, (HKA2.out.low hb).cell 1⟩
      clear hB17 e0 e1
      obtain ⟨r0, r1, r2, r3⟩ := HSC2.out W18 (Below.refl _ W18)
      rw [hW18] at r0 r1 r2 r3
      clear hW18
      go_wp2_with fail
      rw [← HW18.out]
      refine (HRF1.out _).mono ?_
      rintro e w19 ⟨rfl, hB19⟩
      have HC19 := Lib.hid hB19
      clear hB19 r0 r1 r2 r3
      obtain ⟨r0, r1, r2, r3⟩ := HSC2.out w19 HC19.out
      go_wp2_with fail
      go_region_held3 (fun w' => w'.cell? ⟨w17.heap.size, 0, none⟩ = some (.string P3) ∧ w'.cell? ⟨w17.heap.size, 1, none⟩ = some (.string Q3) ∧ w'.cell? ⟨w2.heap.size, 0, none⟩ = some (.string ⟨N1.toArray⟩) ∧ w'.cell? ⟨w2.heap.size, 1, none⟩ = some (.string ⟨D1.toArray⟩))
        (first | exact ⟨r0, r1, r2, r3⟩ | go_keep)
        (first
          | (go_at_call 10; refine (HO1.out _).mono ?_; rintro e w20 ⟨y5, y6, rfl, hY5, hY6, hB20⟩; have HY5 := Lib.hid hY5; have HY6 := Lib.hid hY6; have HC20 : Hid (Below W18.heap.size W18 w20) := Lib.hid (HC19.out.drew.trans (hB20.mono HC19.out.drew.size)); clear hY5 hY6 hB20; clear r0 r1 r2 r3; obtain ⟨r0, r1, r2, r3⟩ := HSC2.out w20 HC20.out)
          | (go_at_call 26; refine (rnneg_any (negNum N1) (pN N1) (Mth.dv D1) _ _ _ HY5.out HY6.out).mono ?_; rintro e w21 ⟨y7, y8, rfl, hY7, hY8, hB21⟩; have HY7 := Lib.hid hY7; have HY8 := Lib.hid hY8; have HC21 : Hid (Below W18.heap.size W18 w21) := Lib.hid (HC20.out.trans (hB21.mono HC20.out.size)); clear hY7 hY8 hB21; clear r0 r1 r2 r3; obtain ⟨r0, r1, r2, r3⟩ := HSC2.out w21 HC21.out)
          | (go_at_call 13; refine (HNS.out _ _ _ HY7.out HY8.out (HTW.out _ (HB18.out.trans (HC21.out.mono HB18.out.size)))).mono ?_; rintro e w22 ⟨rfl, hB22⟩; have HC22 : Hid (Below W18.heap.size W18 w22) := Lib.hid (HC21.out.trans (hB22.mono HC21.out.size)); clear hB22; clear r0 r1 r2 r3; obtain ⟨r0, r1, r2, r3⟩ := HSC2.out w22 HC22.out))
      clear r0 r1 r2 r3
      go_wp2
      go_ret
      exact ⟨ret_bool (by simp), HBW.out.trans ((HB18.out.trans (HC22.out.mono HB18.out.size)).mono HBW.out.size)⟩
    · obtain ⟨K, hK⟩ : ∃ K, chkOf N1 D1 = K := ⟨_, rfl⟩
      have h0 : K ≠ 0 := fun e => v1 (hK.trans e)
      have hK0 : (K == 0) = false := by simpa using h0
      have hK1 : (K != 0) = true := by simpa using h0
      have HNG := Lib.hid (fun W hW => numNeg_bad N1 D1 K W hW l1 l2 hK h0)
      have HRF1 := Lib.hid (fun W => rfault_any N1 D1 W (by omega) (by omega))
      rw [hK] at HRF1
      clear v1 hK h0 l1 l2 l3 l4
      go_wp2_with fail
      refine (HNG.out _ (HTW.out _ HB16.out)).mono ?_
      rintro e w17 ⟨rfl, hB17⟩
      have HB17 : Hid (Below W2.heap.size W2 w17) := Lib.hid (HB16.out.trans (hB17.mono HB16.out.size))
      obtain ⟨W18, hW18⟩ : ∃ W18, W18 = w17.alloc (.cells #[.string ⟨#[]⟩, .string ⟨#[]⟩] 27) := ⟨_, rfl⟩
      have HB18 : Hid (Below W2.heap.size W2 W18) := Lib.hid (by rw [hW18]; exact HB17.out.alloc HB17.out.size _)
      have HKN : Hid (Blk W18 w17.heap.size 27 #[.string ⟨#[]⟩, .string ⟨#[]⟩]) := Lib.hid (by rw [hW18]; exact Blk.new w17 _ _)
      have HKA2 := Lib.hid (HKA.out.low HB18.out)
      have HW18 := Lib.hid hW18
      have HSC2 : Hid (∀ w', Below W18.heap.size W18 w' → w'.cell? ⟨w17.heap.size, 0, none⟩ = some (.string ⟨#[]⟩) ∧ w'.cell? ⟨w17.heap.size, 1, none⟩ = some (.string ⟨#[]⟩) ∧ w'.cell? ⟨w2.heap.size, 0, none⟩ = some (.string ⟨N1.toArray⟩) ∧ w'.cell? ⟨w2.heap.size, 1, none⟩ = some (.string ⟨D1.toArray⟩)) := Lib.hid fun w' hb =>
        ⟨(HKN.out.low hb).cell 0, (HKN.out.low hb).cell 1, (HKA2.out.low hb).cell 0, (HKA2.out.low hb).cell 1⟩
      clear hB17 e0 e1
      obtain ⟨r0, r1, r2, r3⟩ := HSC2.out W18 (Below.refl _ W18)
      rw [hW18] at r0 r1 r2 r3
      clear hW18
      go_wp2_with fail
      rw [← HW18.out]
      refine (HRF1.out _).mono ?_
      rintro e w19 ⟨rfl, hB19⟩
      have HC19 := Lib.hid hB19
      clear hB19 r0 r1 r2 r3
      obtain ⟨r0, r1, r2, r3⟩ := HSC2.out w19 HC19.out
      go_wp2
      go_ret
      exact ⟨ret_bool (by simp), HBW.out.trans ((HB18.out.trans (HC19.out.mono HB18.out.size)).mono HBW.out.size)⟩
end Go.Proofs.YtaibpeokfbokfaaGreatDoor
