/-
  The law NumProducts: num.Mul, num.Div and num.Power are as specified.
-/
import Derived.Test.YtaibpeokfbokfaaGreatDoorProds
import Derived.Test.YtaibpeokfbokfaaGreatDoorQuots
import Derived.Test.YtaibpeokfbokfaaGreatDoorRPow
import Derived.Test.YtaibpeokfbokfaaGreatDoorRNumMul
import Derived.Test.YtaibpeokfbokfaaGreatDoorSgn
import Derived.Test.YtaibpeokfbokfaaGreatDoorPair
import Derived.Test.YtaibpeokfbokfaaGreatDoorNums
import Derived.Test.YtaibpeokfbokfaaGreatDoorStrm
import Derived.Test.YtaibpeokfbokfaaGreatDoorRSame
import Derived.Deep.DeepCutAuto
namespace Go.Proofs.YtaibpeokfbokfaaGreatDoor
open Go.RowKit Go.Shelf

/-- two numbers of the reference lie in the blocks p, p + 1; the second is not zero where there is an error -/
def TwoQ (N1 D1 N2 D2 : List UInt8) (f : Int) (p : Nat) (wx : World) : Prop :=
  ∃ (g1 g2 : Bool) (A1 A2 A3 A4 : Option Addr) (n1 k1 n2 k2 n3 k3 n4 k4 m1 d1 m2 d2 : Nat), (Blk wx p 33 #[.bool g1, .slice A1 n1 k1, .slice A2 n2 k2] ∧ Blk wx (p + 1) 33 #[.bool g2, .slice A3 n3 k3, .slice A4 n4 k4] ∧
    Pt wx (.slice A1 n1 k1) m1 ∧ Pt wx (.slice A2 n2 k2) d1 ∧ Pt wx (.slice A3 n3 k3) m2 ∧ Pt wx (.slice A4 n4 k4) d2) ∧
    (f = 0 → g1 = negNum N1 ∧ m1 = pN N1 ∧ d1 = Mth.dv D1 ∧ g2 = negNum N2 ∧ m2 = pN N2 ∧ d2 = Mth.dv D2) ∧ (f ≠ 0 → 0 < m2) ∧
    ((Mth.dg 10000 m1).length ≤ 1000000 ∧ (Mth.dg 10000 d1).length ≤ 1000000 ∧ (Mth.dg 10000 m2).length ≤ 1000000 ∧ (Mth.dg 10000 d2).length ≤ 1000000 ∧ 0 < d1 ∧ 0 < d2)
theorem twoq_set {N1 D1 N2 D2 : List UInt8} {f : Int} {p : Nat} {w : World} {b0 b1 g1 g2 : Bool} {B1 B2 B3 B4 A1 A2 A3 A4 : Option Addr} {a1 c1 a2 c2 a3 c3 a4 c4 n1 k1 n2 k2 n3 k3 n4 k4 m1 d1 m2 d2 : Nat}
    (hp : Blk w p 33 #[.bool b0, .slice B1 a1 c1, .slice B2 a2 c2]) (hq : Blk w (p + 1) 33 #[.bool b1, .slice B3 a3 c3, .slice B4 a4 c4])
    (h1 : Pt w (.slice A1 n1 k1) m1) (h2 : Pt w (.slice A2 n2 k2) d1) (h3 : Pt w (.slice A3 n3 k3) m2) (h4 : Pt w (.slice A4 n4 k4) d2)
    (hv : f = 0 → g1 = negNum N1 ∧ m1 = pN N1 ∧ d1 = Mth.dv D1 ∧ g2 = negNum N2 ∧ m2 = pN N2 ∧ d2 = Mth.dv D2) (hz : f ≠ 0 → 0 < m2)
    (hl : (Mth.dg 10000 m1).length ≤ 1000000 ∧ (Mth.dg 10000 d1).length ≤ 1000000 ∧ (Mth.dg 10000 m2).length ≤ 1000000 ∧ (Mth.dg 10000 d2).length ≤ 1000000 ∧ 0 < d1 ∧ 0 < d2) :
    TwoQ N1 D1 N2 D2 f p ((((((w.setCell ⟨p, 0, none⟩ (.bool g1)).setCell ⟨p, 1, none⟩ (.slice A1 n1 k1)).setCell ⟨p, 2, none⟩ (.slice A2 n2 k2)).setCell ⟨p + 1, 0, none⟩ (.bool g2)).setCell ⟨p + 1, 1, none⟩ (.slice A3 n3 k3)).setCell ⟨p + 1, 2, none⟩ (.slice A4 n4 k4)) := by
  have hq3 := ((hq.far (g' := p) (i := 0) (by omega) (.bool g1)).far (g' := p) (i := 1) (by omega) (.slice A1 n1 k1)).far (g' := p) (i := 2) (by omega) (.slice A2 n2 k2)
  have hp3 : Blk (((w.setCell ⟨p, 0, none⟩ (.bool g1)).setCell ⟨p, 1, none⟩ (.slice A1 n1 k1)).setCell ⟨p, 2, none⟩ (.slice A2 n2 k2)) p 33 #[.bool g1, .slice A1 n1 k1, .slice A2 n2 k2] := ((hp.set 0 (.bool g1)).set 1 (.slice A1 n1 k1)).set 2 (.slice A2 n2 k2)
  have s : ∀ {v : Value} {n : Nat}, Pt w v n → Pt ((((((w.setCell ⟨p, 0, none⟩ (.bool g1)).setCell ⟨p, 1, none⟩ (.slice A1 n1 k1)).setCell ⟨p, 2, none⟩ (.slice A2 n2 k2)).setCell ⟨p + 1, 0, none⟩ (.bool g2)).setCell ⟨p + 1, 1, none⟩ (.slice A3 n3 k3)).setCell ⟨p + 1, 2, none⟩ (.slice A4 n4 k4)) v n := fun h =>
    pt_store3 (pt_store3 h hp (notI_bool _) (notI_slice _ _ _) (notI_slice _ _ _) (notI_bool _) (notI_slice _ _ _)) hq3 (notI_bool _) (notI_slice _ _ _) (notI_slice _ _ _) (notI_bool _) (notI_slice _ _ _)
  exact ⟨g1, g2, A1, A2, A3, A4, n1, k1, n2, k2, n3, k3, n4, k4, m1, d1, m2, d2,
    ⟨((hp3.far (g' := p + 1) (i := 0) (by omega) (.bool g2)).far (g' := p + 1) (i := 1) (by omega) (.slice A3 n3 k3)).far (g' := p + 1) (i := 2) (by omega) (.slice A4 n4 k4),
    ((hq3.set 0 (.bool g2)).set 1 (.slice A3 n3 k3)).set 2 (.slice A4 n4 k4), s h1, s h2, s h3, s h4⟩, hv, hz, hl⟩
/-- one number of the reference in the block p: the power -/
def OneZ (N1 D1 : List UInt8) (f n : Int) (p : Nat) (wx : World) : Prop :=
  ∃ (g : Bool) (A1 A2 : Option Addr) (n1 k1 n2 k2 m d : Nat), Blk wx p 33 #[.bool g, .slice A1 n1 k1, .slice A2 n2 k2] ∧ Pt wx (.slice A1 n1 k1) m ∧ Pt wx (.slice A2 n2 k2) d ∧
    (f = 0 → g = rneg (pwS (negNum N1) n.toNat) (pN N1 ^ n.toNat) ∧ m = pN N1 ^ n.toNat ∧ d = Mth.dv D1 ^ n.toNat)

set_option maxHeartbeats 8000000 in
set_option maxRecDepth 100000 in
theorem products_law (v : Value) (ws : List Int) (nn : Int) (w : World) (hv : LI w v ws) (_hn : -9223372036854775808 ≤ nn ∧ nn ≤ 9223372036854775807) (htab : Tabs w) :
    Calls Tryz.prog 3 #[v, .int .i64 nn] w fun e w' => e = .returned (.bool true) ∧ Below w.heap.size w w' := by
  obtain ⟨A, c, rfl⟩ := hv.form
  have HN := Lib.hid (fun W (h : Tabs W) => nums_any W h)
  have HB0 : Hid (Below w.heap.size w (w.alloc (.cells #[.slice A ws.length c, .int .i64 0] 25))) := Lib.hid ((Below.refl _ w).alloc (Nat.le_refl _) _)
  have HT := Lib.hid htab
  have HGT : Hid (w.heap.size ≠ 2) := Lib.hid (by have := htab.1; omega)
  have HL := Lib.hid (loose_any _ w.heap.size c A ws 0 (strm_new hv) (by omega) (by omega) (HT.out.low HB0.out) HGT.out)
  obtain ⟨n, hn⟩ : ∃ n, ws.length = n := ⟨_, rfl⟩
  rw [hn] at HL HB0 ⊢
  clear hv htab hn
  go_enter Tryz.func3, Tryz.ntmps3
  go_wp2_with fail
  refine HL.out.mono ?_
  rintro e w1 ⟨S1, T1, rfl, hS1, hT1, ⟨a1, ha0, ha1, hs1⟩, hg1⟩
  obtain ⟨N1, rfl, hN1⟩ := str_form S1
  obtain ⟨D1, rfl, hD1⟩ := str_form T1
  have hB1 : Below w.heap.size w w1 := HB0.out.grown hg1 (by simp) (fun k hk => by injection hk with hk; omega)
  have HB1 := Lib.hid hB1
  have HL2 := Lib.hid (loose_any w1 w.heap.size c A ws a1 hs1 (by omega) (by omega) (HT.out.low hB1) HGT.out)
  clear hg1 hs1 hB1 HL
  go_wp2_with fail
  refine HL2.out.mono ?_
  rintro e w2 ⟨S2, T2, rfl, hS2, hT2, -, hg2⟩
  obtain ⟨N2, rfl, hN2⟩ := str_form S2
  obtain ⟨D2, rfl, hD2⟩ := str_form T2
  have hB2 : Below w.heap.size w w2 := HB1.out.grown hg2 HB1.out.size (fun k hk => by injection hk with hk; omega)
  have HB2 := Lib.hid hB2
  clear hg2 hB2 HL2
  go_wp2_with fail
  obtain ⟨W2, hW2⟩ : ∃ W2, W2 = ((w2.alloc (.cells #[.string ⟨N1.toArray⟩, .string ⟨D1.toArray⟩] 27)).alloc (.cells #[.string ⟨N2.toArray⟩, .string ⟨D2.toArray⟩] 27)).alloc (.cells #[.string ⟨N1.toArray⟩, .string ⟨D1.toArray⟩, .string ⟨N2.toArray⟩, .string ⟨D2.toArray⟩] 27) := ⟨_, rfl⟩
  have hka : Blk W2 w2.heap.size 27 #[.string ⟨N1.toArray⟩, .string ⟨D1.toArray⟩] := by rw [hW2]; exact ((Blk.new w2 _ _).alloc _).alloc _
  have hkb : Blk W2 (w2.heap.size + 1) 27 #[.string ⟨N2.toArray⟩, .string ⟨D2.toArray⟩] := by
    rw [hW2]
    have := (Blk.new (w2.alloc (.cells #[.string ⟨N1.toArray⟩, .string ⟨D1.toArray⟩] 27)) 27 #[.string ⟨N2.toArray⟩, .string ⟨D2.toArray⟩]).alloc (.cells #[.string ⟨N1.toArray⟩, .string ⟨D1.toArray⟩, .string ⟨N2.toArray⟩, .string ⟨D2.toArray⟩] 27)
    rwa [World.size_alloc] at this
  have hkc : Blk W2 (w2.heap.size + 1 + 1) 27 #[.string ⟨N1.toArray⟩, .string ⟨D1.toArray⟩, .string ⟨N2.toArray⟩, .string ⟨D2.toArray⟩] := by
    rw [hW2]
    have := Blk.new ((w2.alloc (.cells #[.string ⟨N1.toArray⟩, .string ⟨D1.toArray⟩] 27)).alloc (.cells #[.string ⟨N2.toArray⟩, .string ⟨D2.toArray⟩] 27)) 27 #[.string ⟨N1.toArray⟩, .string ⟨D1.toArray⟩, .string ⟨N2.toArray⟩, .string ⟨D2.toArray⟩]
    rwa [World.size_alloc, World.size_alloc] at this
  have hBW : Below w.heap.size w W2 := by
    rw [hW2]
    have h := HB2.out.size
    exact ((HB2.out.alloc h _).alloc (by simp; omega) _).alloc (by simp; omega) _
  have hRF := rfaults_any N1 D1 N2 D2 (w2.heap.size + 1 + 1) W2 (hkc.cell 0) (hkc.cell 1) (hkc.cell 2) (hkc.cell 3) (by omega) (by omega) (by omega) (by omega)
  obtain ⟨f, hf⟩ : ∃ f, chk2 (chkOf N1 D1) (chkOf N2 D2) = f := ⟨_, rfl⟩
  rw [hf] at hRF
  have HF := Lib.hid hf
  have HRF := Lib.hid hRF
  have HBW := Lib.hid hBW
  have HKA := Lib.hid hka
  have HKB := Lib.hid hkb
  have HW2 := Lib.hid hW2
  have HLEN : Hid (N1.length ≤ 1000000 ∧ D1.length ≤ 1000000 ∧ N2.length ≤ 1000000 ∧ D2.length ≤ 1000000) := Lib.hid ⟨by omega, by omega, by omega, by omega⟩
  have hltb := hkb.lt
  rw [← hW2]
  clear hW2 hka hkb hkc hBW hRF hf hS1 hT1 hS2 hT2 hN1 hD1 hN2 hD2
  refine HRF.out.mono ?_
  rintro e w3 ⟨rfl, hB3⟩
  have HB3 := Lib.hid hB3
  clear hB3
  go_wp2_with fail
  refine (rint_any 0 w3 (by omega) (by omega)).mono ?_
  rintro e w4 ⟨x1, y1, rfl, hx1, hy1, hB4⟩
  have HX1 := Lib.hid hx1
  have HY1 := Lib.hid hy1
  have HB4 : Hid (Below W2.heap.size W2 w4) := Lib.hid (HB3.out.trans (hB4.mono HB3.out.size))
  clear hx1 hy1 hB4
  go_wp2_with fail
  refine (rint_any 1 w4 (by omega) (by omega)).mono ?_
  rintro e w5 ⟨x2, y2, rfl, hx2, hy2, hB5⟩
  have HX2 := Lib.hid hx2
  have HY2 := Lib.hid hy2
  have HX1' := Lib.hid (HX1.out.below hB5)
  have HY1' := Lib.hid (HY1.out.below hB5)
  have HB5 : Hid (Below W2.heap.size W2 w5) := Lib.hid (HB4.out.trans (hB5.mono HB4.out.size))
  obtain ⟨A1, n1, k1, rfl⟩ := HX1'.out.shape
  obtain ⟨A2, n2, k2, rfl⟩ := HY1'.out.shape
  obtain ⟨A3, n3, k3, rfl⟩ := hx2.shape
  obtain ⟨A4, n4, k4, rfl⟩ := hy2.shape
  clear hx2 hy2 hB5 HX1 HY1
  obtain ⟨W5, hW5⟩ : ∃ W5, W5 = (w5.alloc (.cells #[.bool false, .slice A1 n1 k1, .slice A2 n2 k2] 33)).alloc (.cells #[.bool false, .slice A3 n3 k3, .slice A4 n4 k4] 33) := ⟨_, rfl⟩
  have hkp : Blk W5 w5.heap.size 33 #[.bool false, .slice A1 n1 k1, .slice A2 n2 k2] := by rw [hW5]; exact (Blk.new w5 _ _).alloc _
  have hkq : Blk W5 (w5.heap.size + 1) 33 #[.bool false, .slice A3 n3 k3, .slice A4 n4 k4] := by
    rw [hW5]
    have := Blk.new (w5.alloc (.cells #[.bool false, .slice A1 n1 k1, .slice A2 n2 k2] 33)) 33 #[.bool false, .slice A3 n3 k3, .slice A4 n4 k4]
    rwa [World.size_alloc] at this
  have hB56 : Below W2.heap.size W2 W5 := by
    rw [hW5]
    have h := HB5.out.size
    exact (HB5.out.alloc h _).alloc (by simp; omega) _
  have hT0 : TwoQ N1 D1 N2 D2 f w5.heap.size W5 ∨ f = 0 := by
    by_cases h : f = 0
    · exact Or.inr h
    · refine Or.inl ⟨false, false, A1, A2, A3, A4, n1, k1, n2, k2, n3, k3, n4, k4, 0, 1, 1, 1, ⟨hkp, hkq, ?_, ?_, ?_, ?_⟩, fun e => absurd e h, fun _ => by omega, ?_⟩
      · rw [hW5]; exact (HX1'.out.alloc _).alloc _
      · rw [hW5]; exact (HY1'.out.alloc _).alloc _
      · rw [hW5]; exact (HX2.out.alloc _).alloc _
      · rw [hW5]; exact (HY2.out.alloc _).alloc _
      · refine ⟨?_, ?_, ?_, ?_, by omega, by omega⟩ <;> exact Nat.le_trans (Mth.dg_len_le (b := 10000) (by omega) 1 _ (by omega)) (by omega)
  have HT0 := Lib.hid hT0
  have HW5 := Lib.hid hW5
  have HKP := Lib.hid hkp
  have HKQ := Lib.hid hkq
  have HB56 := Lib.hid hB56
  obtain ⟨p, hp⟩ : ∃ p, w5.heap.size = p := ⟨_, rfl⟩
  have HLP2 : Hid (W2.heap.size ≤ p) := Lib.hid (by rw [← hp]; exact HB5.out.size)
  have hlp : w2.heap.size + 1 < p := by rw [← hp]; have := HB5.out.size; omega
  clear hW5 hkp hkq hB56 hT0
  go_upto_if 31 with fail
  rw [← HW5.out]
  rw [hp] at HT0 HKP HKQ
  go_cut [] (fun wx => TwoQ N1 D1 N2 D2 f p wx ∧ Below W2.heap.size W2 wx)
  case first =>
    by_cases h0 : f = 0
    · have hf0 : (f == 0) = true := by simpa using h0
      obtain ⟨v1, v2⟩ := chk2_zero (HF.out.trans h0)
      have HF0 := Lib.hid h0
      clear h0
      obtain ⟨b1, b2, b3⟩ := valid_of v1
      obtain ⟨b4, b5, b6⟩ := valid_of v2
      obtain ⟨l1, l2, l3, l4⟩ := HLEN.out
      have HLL : Hid ((Mth.dg 10000 (Mth.dv (cutNum N1))).length ≤ 1000000 ∧ (Mth.dg 10000 (Mth.dv D1)).length ≤ 1000000 ∧ (Mth.dg 10000 (Mth.dv (cutNum N2))).length ≤ 1000000 ∧ (Mth.dg 10000 (Mth.dv D2)).length ≤ 1000000 ∧ 0 < Mth.dv D1 ∧ 0 < Mth.dv D2) := Lib.hid
        ⟨dv_len (by omega) b1 (Nat.le_trans (cut_len N1) l1), dv_len (by omega) b2 l2, dv_len (by omega) b4 (Nat.le_trans (cut_len N2) l3), dv_len (by omega) b5 l4, b3, b6⟩
      have HO1 := Lib.hid (fun W => rnof_any N1 D1 W (by omega) (by omega) b1 b2)
      have HO2 := Lib.hid (fun W => rnof_any N2 D2 W (by omega) (by omega) b4 b5)
      have HS : Hid (∀ w', Below W5.heap.size W5 w' → w'.cell? ⟨w2.heap.size, 0, none⟩ = some (.string ⟨N1.toArray⟩) ∧ w'.cell? ⟨w2.heap.size, 1, none⟩ = some (.string ⟨D1.toArray⟩) ∧ w'.cell? ⟨w2.heap.size + 1, 0, none⟩ = some (.string ⟨N2.toArray⟩) ∧ w'.cell? ⟨w2.heap.size + 1, 1, none⟩ = some (.string ⟨D2.toArray⟩)) := Lib.hid fun w' hb => by
        have hb2 : Below W2.heap.size W2 w' := HB56.out.trans (hb.mono HB56.out.size)
        have h1 := HKA.out.low hb2
        have h2 := HKB.out.low hb2
        exact ⟨h1.cell 0, h1.cell 1, h2.cell 0, h2.cell 1⟩
      obtain ⟨e0, e1, e2, e3⟩ := HS.out W5 (Below.refl _ W5)
      clear v1 v2 b1 b2 b3 b4 b5 b6 l1 l2 l3 l4
      have tok : True := trivial
      go_wp2_with fail
      go_region_held3 (fun w' => w'.cell? ⟨w2.heap.size, 0, none⟩ = some (.string ⟨N1.toArray⟩) ∧ w'.cell? ⟨w2.heap.size, 1, none⟩ = some (.string ⟨D1.toArray⟩) ∧ w'.cell? ⟨w2.heap.size + 1, 0, none⟩ = some (.string ⟨N2.toArray⟩) ∧ w'.cell? ⟨w2.heap.size + 1, 1, none⟩ = some (.string ⟨D2.toArray⟩))
        (first | (have q := HS.out w7 HC7.out; obtain ⟨q0, q1, q2, q3⟩ := q; refine ⟨?_, ?_, ?_, ?_⟩ <;> (rw [World.cell?_setCell_other _ _ _ _ (by intro h; injection h with h _; omega)]; repeat rw [World.cell?_setCell_other _ _ _ _ (by intro h; injection h with h _; omega)]) <;> assumption) | exact ⟨e0, e1, e2, e3⟩ | exact HS.out _ HC7.out | exact HS.out _ HC6.out | go_keep)
        (first
          | (go_at_call 10; have _t := tok; refine (HO1.out _).mono ?_; rintro e w6 ⟨r1, r2, rfl, hR1, hR2, hB6⟩; have HR1 := Lib.hid hR1; have HR2 := Lib.hid hR2; have HC6 : Hid (Below W5.heap.size W5 w6) := Lib.hid ((Below.refl _ W5).drew.trans hB6); clear hR1 hR2 hB6 tok _t)
          | (go_at_call 10; refine (HO2.out _).mono ?_; rintro e w7 ⟨r3, r4, rfl, hR3, hR4, hB7⟩; have HR3 := Lib.hid hR3; have HR4 := Lib.hid hR4; have HR5 := Lib.hid (HR1.out.below hB7); have HR6 := Lib.hid (HR2.out.below hB7); have HC7 : Hid (Below W5.heap.size W5 w7) := Lib.hid (HC6.out.trans (hB7.mono HC6.out.size)); clear hR3 hR4 hB7; obtain ⟨A5, n5, k5, rfl⟩ := HR5.out.shape; obtain ⟨A6, n6, k6, rfl⟩ := HR6.out.shape; obtain ⟨A7, n7, k7, rfl⟩ := HR3.out.shape; obtain ⟨A8, n8, k8, rfl⟩ := HR4.out.shape; have hk := HKP.out.low HC7.out; have hk' := HKQ.out.low HC7.out; have c0 := hk.cell 0; have c1 := hk.cell 1; have c2 := hk.cell 2; have f0 := hk.frozen 0; have f1 := hk.frozen 1; have f2 := hk.frozen 2; have i0 := hk'.cell 0; have i1 := hk'.cell 1; have i2 := hk'.cell 2; have j0 := hk'.frozen 0; have j1 := hk'.frozen 1; have j2 := hk'.frozen 2; simp only [List.getElem?_toArray, List.getElem?_cons_zero, List.getElem?_cons_succ] at c0 c1 c2 i0 i1 i2; have HK3 := Lib.hid hk; have HK4 := Lib.hid hk'; clear hk hk'))
      go_wp2_with fail
      go_meet
      refine ⟨twoq_set HK3.out HK4.out HR5.out HR6.out HR3.out HR4.out (fun _ => ⟨rfl, rfl, rfl, rfl, rfl, rfl⟩) (fun h => absurd HF0.out h) HLL.out, ?_⟩
      have hb7 : Below W2.heap.size W2 w7 := HB56.out.trans (HC7.out.mono HB56.out.size)
      have h2 := HLP2.out
      exact (((((hb7.setCell (p := ⟨p, 0, none⟩) h2 _).setCell (p := ⟨p, 1, none⟩) h2 _).setCell (p := ⟨p, 2, none⟩) h2 _).setCell (p := ⟨p + 1, 0, none⟩) (Nat.le_succ_of_le h2) _).setCell (p := ⟨p + 1, 1, none⟩) (Nat.le_succ_of_le h2) _).setCell (p := ⟨p + 1, 2, none⟩) (Nat.le_succ_of_le h2) _
    · have hf0 : (f == 0) = false := by simpa using h0
      go_wp2_with fail
      go_meet
      exact ⟨HT0.out.resolve_right h0, HB56.out⟩
  case rest =>
    obtain ⟨⟨g1, g2, B1, B2, B3, B4, a1, c1, a2, c2, a3, c3, a4, c4, m1, d1, m2, d2, ⟨hkp, hkq, hp1, hp2, hp3, hp4⟩, hv, hz, hl⟩, hbc⟩ := hcut
    obtain ⟨we, rfl⟩ : ∃ we, we = wc := ⟨wc, rfl⟩
    obtain ⟨l1, l2, l3, l4⟩ := HLEN.out
    obtain ⟨P, Q, hA, hSA⟩ := numMul_pair l1 l2 l3 l4 HF.out hv
    have HA := Lib.hid hA
    have HSA := Lib.hid hSA
    have HKP1 := Lib.hid hkp
    have HKQ1 := Lib.hid hkq
    have HP1 := Lib.hid hp1
    have HP2 := Lib.hid hp2
    have HP3 := Lib.hid hp3
    have HP4 := Lib.hid hp4
    have HLL := Lib.hid hl
    have HBC := Lib.hid hbc
    have HV := Lib.hid hv
    have HZ := Lib.hid hz
    have HTW : Hid (∀ W', Below W2.heap.size W2 W' → Tabs W') := Lib.hid fun W' hb => HT.out.low (HBW.out.trans (hb.mono HBW.out.size))
    have HAB : Hid (∀ W', Below W2.heap.size W2 W' → W'.cell? ⟨w2.heap.size, 0, none⟩ = some (.string ⟨N1.toArray⟩) ∧ W'.cell? ⟨w2.heap.size, 1, none⟩ = some (.string ⟨D1.toArray⟩) ∧ W'.cell? ⟨w2.heap.size + 1, 0, none⟩ = some (.string ⟨N2.toArray⟩) ∧ W'.cell? ⟨w2.heap.size + 1, 1, none⟩ = some (.string ⟨D2.toArray⟩)) := Lib.hid fun W' hb =>
      ⟨(HKA.out.low hb).cell 0, (HKA.out.low hb).cell 1, (HKB.out.low hb).cell 0, (HKB.out.low hb).cell 1⟩
    obtain ⟨e0, e1, e2, e3⟩ := HAB.out _ hbc
    clear hA hSA hkp hkq hp1 hp2 hp3 hp4 hv hz hl hbc l1 l2 l3 l4
    go_wp2_with fail
    refine (HA.out _ (HTW.out _ HBC.out)).mono ?_
    rintro e w8 ⟨rfl, hB8⟩
    obtain ⟨W9, hW9⟩ : ∃ W9, W9 = w8.alloc (.cells #[.string P, .string Q] 27) := ⟨_, rfl⟩
    have hb9 : Below we.heap.size we W9 := by rw [hW9]; exact hB8.alloc hB8.size _
    have HC9 := Lib.hid hb9
    have HKR : Hid (Blk W9 w8.heap.size 27 #[.string P, .string Q]) := Lib.hid (by rw [hW9]; exact Blk.new w8 _ _)
    have HKP2 := Lib.hid (HKP1.out.low hb9)
    have HKQ2 := Lib.hid (HKQ1.out.low hb9)
    have HB9 : Hid (Below W2.heap.size W2 W9) := Lib.hid (HBC.out.trans (hb9.mono HBC.out.size))
    have HSC : Hid (∀ w', Below W9.heap.size W9 w' → (w'.cell? ⟨w8.heap.size, 0, none⟩ = some (.string P) ∧ w'.cell? ⟨w8.heap.size, 1, none⟩ = some (.string Q)) ∧ (w'.cell? ⟨p, 0, none⟩ = some (.bool g1) ∧ w'.cell? ⟨p, 1, none⟩ = some (.slice B1 a1 c1) ∧ w'.cell? ⟨p, 2, none⟩ = some (.slice B2 a2 c2)) ∧ w'.cell? ⟨p + 1, 0, none⟩ = some (.bool g2) ∧ w'.cell? ⟨p + 1, 1, none⟩ = some (.slice B3 a3 c3) ∧ w'.cell? ⟨p + 1, 2, none⟩ = some (.slice B4 a4 c4)) := Lib.hid fun w' hb =>
      ⟨⟨(HKR.out.low hb).cell 0, (HKR.out.low hb).cell 1⟩, ⟨(HKP2.out.low hb).cell 0, (HKP2.out.low hb).cell 1, (HKP2.out.low hb).cell 2⟩, (HKQ2.out.low hb).cell 0, (HKQ2.out.low hb).cell 1, (HKQ2.out.low hb).cell 2⟩
    obtain ⟨t1, t2, t3, t4, t5, t6⟩ := HLL.out
    have ht56 : 0 < d1 * d2 := Nat.mul_pos t5 t6
    obtain ⟨⟨r0, r1⟩, ⟨r2, r3, r4⟩, r5, r6, r7⟩ := HSC.out W9 (Below.refl _ W9)
    have HW9 := Lib.hid hW9
    clear hB8 hb9 hW9 e0 e1 e2 e3
    go_wp2_with fail
    rw [← HW9.out]
    go_region_held3 (fun w' => (w'.cell? ⟨w8.heap.size, 0, none⟩ = some (.string P) ∧ w'.cell? ⟨w8.heap.size, 1, none⟩ = some (.string Q)) ∧ (w'.cell? ⟨p, 0, none⟩ = some (.bool g1) ∧ w'.cell? ⟨p, 1, none⟩ = some (.slice B1 a1 c1) ∧ w'.cell? ⟨p, 2, none⟩ = some (.slice B2 a2 c2)) ∧ w'.cell? ⟨p + 1, 0, none⟩ = some (.bool g2) ∧ w'.cell? ⟨p + 1, 1, none⟩ = some (.slice B3 a3 c3) ∧ w'.cell? ⟨p + 1, 2, none⟩ = some (.slice B4 a4 c4))
      (first | exact ⟨⟨r0, r1⟩, ⟨r2, r3, r4⟩, r5, r6, r7⟩ | go_keep)
      (first
        | (go_at_call 12; refine (HN.out _ (HTW.out _ HB9.out.drew)).mono ?_; rintro e w10 ⟨rfl, hB10⟩; have HC10 : Hid (Below W9.heap.size W9 w10) := Lib.hid ((Below.refl _ W9).drew.trans hB10); clear hB10; clear r0 r1 r2 r3 r4 r5 r6 r7; obtain ⟨⟨r0, r1⟩, ⟨r2, r3, r4⟩, r5, r6, r7⟩ := HSC.out w10 HC10.out)
        | (go_at_call 14; refine (rnmul_any g1 g2 m1 d1 m2 d2 _ _ _ _ _ (Sl.below HP1.out (HC9.out.trans (HC10.out.mono HC9.out.size))) (Sl.below HP2.out (HC9.out.trans (HC10.out.mono HC9.out.size))) (Sl.below HP3.out (HC9.out.trans (HC10.out.mono HC9.out.size))) (Sl.below HP4.out (HC9.out.trans (HC10.out.mono HC9.out.size))) t1 t2 t3 t4 ht56).mono ?_; rintro e w11 ⟨y1, y2, rfl, hY1, hY2, hB11⟩; have HY1 := Lib.hid hY1; have HY2 := Lib.hid hY2; have HC11 : Hid (Below W9.heap.size W9 w11) := Lib.hid (HC10.out.trans (hB11.mono HC10.out.size)); clear hY1 hY2 hB11; clear r0 r1 r2 r3 r4 r5 r6 r7; obtain ⟨⟨r0, r1⟩, ⟨r2, r3, r4⟩, r5, r6, r7⟩ := HSC.out w11 HC11.out)
        | (go_at_call 13; refine (HSA.out _ _ _ HY1.out HY2.out (HTW.out _ (HB9.out.trans (HC11.out.mono HB9.out.size)))).mono ?_; rintro e w12 ⟨rfl, hB12⟩; have HC12 : Hid (Below W9.heap.size W9 w12) := Lib.hid (HC11.out.trans (hB12.mono HC11.out.size)); clear hB12; clear r0 r1 r2 r3 r4 r5 r6 r7; obtain ⟨⟨r0, r1⟩, ⟨r2, r3, r4⟩, r5, r6, r7⟩ := HSC.out w12 HC12.out))
    have HE12 : Hid (Below we.heap.size we w12) := Lib.hid (HC9.out.trans (HC12.out.mono HC9.out.size))
    have HB12 : Hid (Below W2.heap.size W2 w12) := Lib.hid (HB9.out.trans (HC12.out.mono HB9.out.size))
    clear r0 r1 r2 r3 r4
    obtain ⟨bz, hbz⟩ : ∃ bz, decide (f = 0 ∧ pN N2 = 0) = bz := ⟨_, rfl⟩
    have HBZ := Lib.hid hbz
    have HSG := Lib.hid (rsign_any g2 m2 d2 _ _ w12 (HP3.out.below HE12.out) (HP4.out.below HE12.out))
    clear hbz
    go_upto_region 10 with fail
    go_cut [60] (fun a60 wx => a60 = .bool bz ∧ Below w12.heap.size w12 wx)
    case first =>
      by_cases h0 : f = 0
      · have hf0 : (f == 0) = true := by simpa using h0
        obtain ⟨-, -, -, -, hm2, -⟩ := HV.out h0
        have hsz : (sgn g2 m2 == 0) = bz := by
          rw [← HBZ.out]
          by_cases hz : m2 = 0
          · rw [hz, sgn_zero, decide_eq_true ⟨h0, hm2.symm.trans hz⟩]; rfl
          · rw [sgn_pos hz, decide_eq_false (fun h => hz (hm2.trans h.2))]
            cases g2 <;> rfl
        obtain ⟨sv, hsv⟩ : ∃ sv, sgn g2 m2 = sv := ⟨_, rfl⟩
        rw [hsv] at HSG hsz
        have HSZ := Lib.hid hsz
        clear h0 hm2 hsz hsv
        go_wp2_with fail
        refine HSG.out.mono ?_
        rintro e w13 ⟨rfl, hB13⟩
        go_wp2_with fail
        go_meet
        rw [HSZ.out]
        exact ⟨rfl, hB13⟩
      · have hf0 : (f == 0) = false := by simpa using h0
        have hb0 : bz = false := by rw [← HBZ.out, decide_eq_false (fun h => h0 h.1)]
        subst hb0
        clear h0
        go_wp2_with fail
        go_meet
        exact ⟨rfl, Below.refl _ _⟩
    case rest =>
      obtain ⟨rfl, hb13⟩ := hcut
      obtain ⟨wf, rfl⟩ : ∃ wf, wf = wc := ⟨wc, rfl⟩
      have HC13 := Lib.hid hb13
      have HKP3 := Lib.hid ((HKP1.out.low HE12.out).low hb13)
      have HKQ3 := Lib.hid ((HKQ1.out.low HE12.out).low hb13)
      have HE13 : Hid (Below we.heap.size we wf) := Lib.hid (HE12.out.trans (hb13.mono HE12.out.size))
      have HB13 : Hid (Below W2.heap.size W2 wf) := Lib.hid (HB12.out.trans (hb13.mono HB12.out.size))
      obtain ⟨F2, hF2⟩ : ∃ F2, dvF f (pN N2) = F2 := ⟨_, rfl⟩
      have HF2 := Lib.hid hF2
      clear hb13 hF2 r5 r6 r7 HSG HA HSA HKR HSC
      go_upto_if 60 with fail
      go_cut [8] (fun a8 wx => a8 = .int .i64 F2 ∧ TwoQ N1 D1 N2 D2 F2 p wx ∧ Below W2.heap.size W2 wx)
      case first =>
        cases bz with
        | true =>
          have hfz : f = 0 ∧ pN N2 = 0 := by simpa using HBZ.out
          have hF23 : F2 = 23 := by rw [← HF2.out]; exact if_pos hfz
          subst hF23
          clear hfz
          go_wp2_with fail
          refine (rint_any 1 _ (by omega) (by omega)).mono ?_
          rintro e w14 ⟨x9, y9, rfl, hx9, hy9, hB14⟩
          have HX9 := Lib.hid hx9
          have HY9 := Lib.hid hy9
          have HE14 : Hid (Below we.heap.size we w14) := Lib.hid (HE13.out.trans (hB14.mono HE13.out.size))
          have hk := HKQ3.out.low hB14
          have q0 := hk.cell 0
          have q1 := hk.cell 1
          have q2 := hk.cell 2
          have f0 := hk.frozen 0
          have f1 := hk.frozen 1
          have f2 := hk.frozen 2
          simp only [List.getElem?_toArray, List.getElem?_cons_zero, List.getElem?_cons_succ] at q0 q1 q2
          have HKQ4 := Lib.hid hk
          have HKP4 := Lib.hid (HKP3.out.low hB14)
          obtain ⟨A9, n9, k9, rfl⟩ := hx9.shape
          obtain ⟨A8, n8, k8, rfl⟩ := hy9.shape
          clear hx9 hy9 hB14 hk
          go_wp2_with fail
          go_meet
          refine ⟨rfl, ⟨g1, false, B1, B2, A9, A8, a1, c1, a2, c2, n9, k9, n8, k8, m1, d1, 1, 1, ⟨((HKP4.out.far (by omega) _).far (by omega) _).far (by omega) _, ((HKQ4.out.set 0 _).set 1 _).set 2 _, ?_, ?_, ?_, ?_⟩, fun h => absurd h (by decide), fun _ => by omega, t1, t2, ?_, ?_, t5, by omega⟩, ?_⟩
          · exact pt_store3 (HP1.out.below HE14.out) HKQ4.out (notI_bool _) (notI_slice _ _ _) (notI_slice _ _ _) (notI_bool _) (notI_slice _ _ _)
          · exact pt_store3 (HP2.out.below HE14.out) HKQ4.out (notI_bool _) (notI_slice _ _ _) (notI_slice _ _ _) (notI_bool _) (notI_slice _ _ _)
          · exact pt_store3 HX9.out HKQ4.out (notI_bool _) (notI_slice _ _ _) (notI_slice _ _ _) (notI_bool _) (notI_slice _ _ _)
          · exact pt_store3 HY9.out HKQ4.out (notI_bool _) (notI_slice _ _ _) (notI_slice _ _ _) (notI_bool _) (notI_slice _ _ _)
          · exact Nat.le_trans (Mth.dg_len_le (b := 10000) (by omega) 1 _ (by omega)) (by omega)
          · exact Nat.le_trans (Mth.dg_len_le (b := 10000) (by omega) 1 _ (by omega)) (by omega)
          · have h2 := HLP2.out
            exact (((HBC.out.trans (HE14.out.mono HBC.out.size)).setCell (p := ⟨p + 1, 0, none⟩) (Nat.le_succ_of_le h2) _).setCell (p := ⟨p + 1, 1, none⟩) (Nat.le_succ_of_le h2) _).setCell (p := ⟨p + 1, 2, none⟩) (Nat.le_succ_of_le h2) _
        | false =>
          have hF2f : F2 = f := by rw [← HF2.out]; exact if_neg (by simpa using HBZ.out)
          subst hF2f
          go_wp2_with fail
          go_meet
          exact ⟨rfl, ⟨g1, g2, B1, B2, B3, B4, a1, c1, a2, c2, a3, c3, a4, c4, m1, d1, m2, d2, ⟨HKP3.out, HKQ3.out, HP1.out.below HE13.out, HP2.out.below HE13.out, HP3.out.below HE13.out, HP4.out.below HE13.out⟩, HV.out, HZ.out, t1, t2, t3, t4, t5, t6⟩, HB13.out⟩
      case rest =>
        clear HKP1 HKQ1 HP1 HP2 HP3 HP4 HV HZ HLL HKP2 HKQ2 HKP3 HKQ3 HE13 HE12 t1 t2 t3 t4 t5 t6 ht56 HB13 HB12 HC13 HC12 HB9 HW9
        obtain ⟨rfl, ⟨g1', g2', B1', B2', B3', B4', b1', k1', b2', k2', b3', k3', b4', k4', m1', d1', m2', d2', ⟨hkp, hkq, hp1, hp2, hp3, hp4⟩, hv, hz, hl⟩, hbc⟩ := hcut
        obtain ⟨wg, rfl⟩ : ∃ wg, wg = wc := ⟨wc, rfl⟩
        obtain ⟨l1, l2, l3, l4⟩ := HLEN.out
        have hm2 : 0 < m2' := by
          by_cases h : F2 = 0
          · obtain ⟨-, -, -, -, h5, -⟩ := hv h
            have h6 : ¬ (f = 0 ∧ pN N2 = 0) := fun h7 => by
              have h8 : F2 = 23 := by rw [← HF2.out]; exact if_pos h7
              rw [h8] at h; cases h
            have h9 : F2 = f := by rw [← HF2.out]; exact if_neg h6
            rcases Nat.eq_zero_or_pos m2' with h10 | h10
            · exact absurd ⟨h9.symm.trans h, h5.symm.trans h10⟩ h6
            · exact h10
          · exact hz h
        have hpair := numDiv_pair (g1 := g1') (g2 := g2') (m1 := m1') (d1 := d1') (m2 := m2') (d2 := d2') l1 l2 l3 l4 HF.out
        rw [HF2.out] at hpair
        obtain ⟨P', Q', hA, hSA⟩ := hpair hv
        have HA := Lib.hid hA
        have HSA := Lib.hid hSA
        have HKP1 := Lib.hid hkp
        have HKQ1 := Lib.hid hkq
        have HP1 := Lib.hid hp1
        have HP2 := Lib.hid hp2
        have HP3 := Lib.hid hp3
        have HP4 := Lib.hid hp4
        have HBG := Lib.hid hbc
        obtain ⟨t1, t2, t3, t4, t5, -⟩ := hl
        have ht56 : 0 < d1' * m2' := Nat.mul_pos t5 hm2
        obtain ⟨e0, e1, e2, e3⟩ := HAB.out _ hbc
        clear hpair hA hSA hkp hkq hp1 hp2 hp3 hp4 hv hz hbc l1 l2 l3 l4 hm2
        go_wp2_with fail
        refine (HA.out _ (HTW.out _ HBG.out)).mono ?_
        rintro e w15 ⟨rfl, hB15⟩
        obtain ⟨W16, hW16⟩ : ∃ W16, W16 = w15.alloc (.cells #[.string P', .string Q'] 27) := ⟨_, rfl⟩
        have hb16 : Below wg.heap.size wg W16 := by rw [hW16]; exact hB15.alloc hB15.size _
        have HC16 := Lib.hid hb16
        have HKR : Hid (Blk W16 w15.heap.size 27 #[.string P', .string Q']) := Lib.hid (by rw [hW16]; exact Blk.new w15 _ _)
        have HKP2 := Lib.hid (HKP1.out.low hb16)
        have HKQ2 := Lib.hid (HKQ1.out.low hb16)
        have HB16 : Hid (Below W2.heap.size W2 W16) := Lib.hid (HBG.out.trans (hb16.mono HBG.out.size))
        have HSC : Hid (∀ w', Below W16.heap.size W16 w' → (w'.cell? ⟨w15.heap.size, 0, none⟩ = some (.string P') ∧ w'.cell? ⟨w15.heap.size, 1, none⟩ = some (.string Q')) ∧ (w'.cell? ⟨p, 0, none⟩ = some (.bool g1') ∧ w'.cell? ⟨p, 1, none⟩ = some (.slice B1' b1' k1') ∧ w'.cell? ⟨p, 2, none⟩ = some (.slice B2' b2' k2')) ∧ w'.cell? ⟨p + 1, 0, none⟩ = some (.bool g2') ∧ w'.cell? ⟨p + 1, 1, none⟩ = some (.slice B3' b3' k3') ∧ w'.cell? ⟨p + 1, 2, none⟩ = some (.slice B4' b4' k4')) := Lib.hid fun w' hb =>
          ⟨⟨(HKR.out.low hb).cell 0, (HKR.out.low hb).cell 1⟩, ⟨(HKP2.out.low hb).cell 0, (HKP2.out.low hb).cell 1, (HKP2.out.low hb).cell 2⟩, (HKQ2.out.low hb).cell 0, (HKQ2.out.low hb).cell 1, (HKQ2.out.low hb).cell 2⟩
        obtain ⟨⟨r0, r1⟩, ⟨r2, r3, r4⟩, r5, r6, r7⟩ := HSC.out W16 (Below.refl _ W16)
        have HW16 := Lib.hid hW16
        clear hB15 hb16 hW16 e0 e1 e2 e3
        go_wp2_with fail
        rw [← HW16.out]
        go_region_held3 (fun w' => (w'.cell? ⟨w15.heap.size, 0, none⟩ = some (.string P') ∧ w'.cell? ⟨w15.heap.size, 1, none⟩ = some (.string Q')) ∧ (w'.cell? ⟨p, 0, none⟩ = some (.bool g1') ∧ w'.cell? ⟨p, 1, none⟩ = some (.slice B1' b1' k1') ∧ w'.cell? ⟨p, 2, none⟩ = some (.slice B2' b2' k2')) ∧ w'.cell? ⟨p + 1, 0, none⟩ = some (.bool g2') ∧ w'.cell? ⟨p + 1, 1, none⟩ = some (.slice B3' b3' k3') ∧ w'.cell? ⟨p + 1, 2, none⟩ = some (.slice B4' b4' k4'))
          (first | exact ⟨⟨r0, r1⟩, ⟨r2, r3, r4⟩, r5, r6, r7⟩ | go_keep)
          (first
            | (go_at_call 17; refine (rndiv_any g1' g2' m1' d1' m2' d2' _ _ _ _ _ (Sl.below HP1.out HC16.out.drew) (Sl.below HP2.out HC16.out.drew) (Sl.below HP3.out HC16.out.drew) (Sl.below HP4.out HC16.out.drew) t1 t2 t3 t4 ht56).mono ?_; rintro e w17 ⟨y1, y2, rfl, hY1, hY2, hB17⟩; have HY1 := Lib.hid hY1; have HY2 := Lib.hid hY2; have HC17 : Hid (Below W16.heap.size W16 w17) := Lib.hid ((Below.refl _ W16).drew.trans hB17); clear hY1 hY2 hB17; clear r0 r1 r2 r3 r4 r5 r6 r7; obtain ⟨⟨r0, r1⟩, ⟨r2, r3, r4⟩, r5, r6, r7⟩ := HSC.out w17 HC17.out)
            | (go_at_call 13; refine (HSA.out _ _ _ HY1.out HY2.out (HTW.out _ (HB16.out.trans (HC17.out.mono HB16.out.size)))).mono ?_; rintro e w18 ⟨rfl, hB18⟩; have HC18 : Hid (Below W16.heap.size W16 w18) := Lib.hid (HC17.out.trans (hB18.mono HC17.out.size)); clear hB18; clear r0 r1 r2 r3 r4 r5 r6 r7; obtain ⟨⟨r0, r1⟩, ⟨r2, r3, r4⟩, r5, r6, r7⟩ := HSC.out w18 HC18.out))
        clear r0 r1 r2 r3 r4 r5 r6 r7
        have HB18 : Hid (Below W2.heap.size W2 w18) := Lib.hid (HB16.out.trans (HC18.out.mono HB16.out.size))
        obtain ⟨e0, e1, -, -⟩ := HAB.out _ HB18.out
        obtain ⟨K, hK⟩ : ∃ K, chkOf N1 D1 = K := ⟨_, rfl⟩
        obtain ⟨l1, l2, -, -⟩ := HLEN.out
        have hrk := fun W => rfault_any N1 D1 W (by omega) (by omega)
        rw [hK] at hrk
        have HRK := Lib.hid hrk
        have HKK := Lib.hid hK
        obtain ⟨P3, Q3, hPW, hPS⟩ := numPower_pair (n := nn) l1 l2 hK
        obtain ⟨F3, hF3⟩ : ∃ F3, pwF K nn = F3 := ⟨_, rfl⟩
        rw [hF3] at hPW hPS
        have HPW := Lib.hid hPW
        have HPS := Lib.hid hPS
        have HF3 := Lib.hid hF3
        clear hrk hK hPW hPS hF3 l1 l2 t1 t2 t3 t4 t5 ht56 HA HSA HKP1 HKQ1 HP1 HP2 HP3 HP4 HKR HKP2 HKQ2 HSC HC16 HC17 HY1 HY2
        go_wp2_with fail
        refine (HRK.out _).mono ?_
        rintro e w19 ⟨rfl, hB19⟩
        have HB19 : Hid (Below W2.heap.size W2 w19) := Lib.hid (HB18.out.trans (hB19.mono HB18.out.size))
        clear hB19 e0 e1
        obtain ⟨b2, hb2⟩ : ∃ b2, decide (K = 0 ∧ (nn < 0 ∨ 64 < nn)) = b2 := ⟨_, rfl⟩
        have HB2b := Lib.hid hb2
        clear hb2
        go_upto_region 16 with fail
        go_cut [87] (fun a87 wx => a87 = .bool b2 ∧ wx = w19)
        case first =>
          by_cases h0 : K = 0
          · have hf0 : (K == 0) = true := by simpa using h0
            by_cases h1 : nn < 0
            · have h1' : decide (nn < 0) = true := by simpa using h1
              have hb : b2 = true := by rw [← HB2b.out]; exact decide_eq_true ⟨h0, Or.inl h1⟩
              subst hb
              clear h0 h1
              go_wp2_with fail
              go_meet
              exact ⟨rfl, rfl⟩
            · have h1' : decide (nn < 0) = false := by simpa using h1
              by_cases h2 : 64 < nn
              · have h2' : decide (64 < nn) = true := by simpa using h2
                have hb : b2 = true := by rw [← HB2b.out]; exact decide_eq_true ⟨h0, Or.inr h2⟩
                subst hb
                clear h0 h1 h2
                go_wp2_with fail
                go_meet
                exact ⟨rfl, rfl⟩
              · have h2' : decide (64 < nn) = false := by simpa using h2
                have hb : b2 = false := by rw [← HB2b.out]; exact decide_eq_false (fun h => h.2.elim h1 h2)
                subst hb
                clear h0 h1 h2
                go_wp2_with fail
                go_meet
                exact ⟨rfl, rfl⟩
          · have hf0 : (K == 0) = false := by simpa using h0
            have hb : b2 = false := by rw [← HB2b.out]; exact decide_eq_false (fun h => h0 h.1)
            subst hb
            clear h0
            go_wp2_with fail
            go_meet
            exact ⟨rfl, rfl⟩
        case rest =>
          obtain ⟨rfl, hwx⟩ := hcut
          rw [hwx]
          clear hwx
          go_upto_if 87 with fail
          go_cut [8] (fun a8 wx => a8 = .int .i64 F3 ∧ wx = w19)
          case first =>
            cases b2 with
            | true =>
              have hF : F3 = 1 := by rw [← HF3.out]; exact if_pos (of_decide_eq_true HB2b.out)
              subst hF
              go_wp2_with fail
              go_meet
              exact ⟨rfl, rfl⟩
            | false =>
              have hF : F3 = K := by rw [← HF3.out]; exact if_neg (of_decide_eq_false HB2b.out)
              subst hF
              go_wp2_with fail
              go_meet
              exact ⟨rfl, rfl⟩
          case rest =>
            obtain ⟨rfl, hwx⟩ := hcut
            rw [hwx]
            clear hwx
            go_wp2_with fail
            refine (rint_any 0 w19 (by omega) (by omega)).mono ?_
            rintro e w20 ⟨x3, y3, rfl, hx3, hy3, hB20⟩
            have HX3 := Lib.hid hx3
            have HY3 := Lib.hid hy3
            have HB20 : Hid (Below W2.heap.size W2 w20) := Lib.hid (HB19.out.trans (hB20.mono HB19.out.size))
            obtain ⟨A7, n7, k7, rfl⟩ := hx3.shape
            obtain ⟨A8, n8, k8, rfl⟩ := hy3.shape
            obtain ⟨W21, hW21⟩ : ∃ W21, W21 = w20.alloc (.cells #[.bool false, .slice A7 n7 k7, .slice A8 n8 k8] 33) := ⟨_, rfl⟩
            have hkz : Blk W21 w20.heap.size 33 #[.bool false, .slice A7 n7 k7, .slice A8 n8 k8] := by rw [hW21]; exact Blk.new w20 _ _
            have hb21 : Below W2.heap.size W2 W21 := by rw [hW21]; exact HB20.out.alloc HB20.out.size _
            have HZ0 : Hid (F3 ≠ 0 → OneZ N1 D1 F3 nn w20.heap.size W21) := Lib.hid fun h =>
              ⟨false, A7, A8, n7, k7, n8, k8, 0, 1, hkz, by rw [hW21]; exact HX3.out.alloc _, by rw [hW21]; exact HY3.out.alloc _, fun e => absurd e h⟩
            have HKZ := Lib.hid hkz
            have HB21 := Lib.hid hb21
            have HW21 := Lib.hid hW21
            have HLZ : Hid (W2.heap.size ≤ w20.heap.size) := Lib.hid HB20.out.size
            obtain ⟨e0, e1, -, -⟩ := HAB.out _ hb21
            clear hx3 hy3 hB20 hW21 hkz hb21
            go_upto_if 90 with fail
            rw [← HW21.out]
            obtain ⟨pz, hpz⟩ : ∃ pz, w20.heap.size = pz := ⟨_, rfl⟩
            rw [hpz] at HZ0 HKZ HLZ ⊢
            clear hpz
            go_cut [] (fun wx => OneZ N1 D1 F3 nn pz wx ∧ Below W2.heap.size W2 wx)
            case first =>
              by_cases h0 : F3 = 0
              · have hf0 : (F3 == 0) = true := by simpa using h0
                have hn0 : ¬ (K = 0 ∧ (nn < 0 ∨ 64 < nn)) := fun h => by
                  have h2 : F3 = 1 := by rw [← HF3.out]; exact if_pos h
                  rw [h2] at h0; cases h0
                have hK0 : K = 0 := by
                  have h2 : F3 = K := by rw [← HF3.out]; exact if_neg hn0
                  rw [← h2]; exact h0
                have hr : 0 ≤ nn ∧ nn ≤ 64 := by
                  constructor
                  · rcases Int.lt_or_le nn 0 with h | h
                    · exact absurd ⟨hK0, Or.inl h⟩ hn0
                    · exact h
                  · rcases Int.lt_or_le 64 nn with h | h
                    · exact absurd ⟨hK0, Or.inr h⟩ hn0
                    · exact h
                obtain ⟨q, hq⟩ : ∃ q : Nat, nn = q := ⟨nn.toNat, by omega⟩
                have hq64 : q ≤ 64 := by omega
                obtain ⟨b1, b2', b3⟩ := valid_of (HKK.out.trans hK0)
                obtain ⟨l1, l2, -, -⟩ := HLEN.out
                have c1 : (Mth.dg 10000 (pN N1)).length ≤ 1000000 := dv_len (by omega) b1 (Nat.le_trans (cut_len N1) l1)
                have c2 : (Mth.dg 10000 (Mth.dv D1)).length ≤ 1000000 := dv_len (by omega) b2' l2
                have HO1 : Hid (∀ W, Calls Tryz.prog 10 #[.agg #[.string ⟨N1.toArray⟩, .string ⟨D1.toArray⟩]] W (RNum (negNum N1) (pN N1) (Mth.dv D1) W)) := Lib.hid (fun W => rnof_any N1 D1 W (by omega) (by omega) b1 b2')
                have hpo : ∀ (W : World) (x y : Value), Pt W x (pN N1) → Pt W y (Mth.dv D1) → Calls Tryz.prog 19 #[.agg #[.bool (negNum N1), x, y], .int .i64 nn] W (RNum (rneg (pwS (negNum N1) nn.toNat) (pN N1 ^ nn.toNat)) (pN N1 ^ nn.toNat) (Mth.dv D1 ^ nn.toNat) W) := fun W x y q1 q2 => by
                  rw [hq, Int.toNat_natCast]
                  exact rnpow_any (negNum N1) (pN N1) (Mth.dv D1) q x y W q1 q2 c1 c2 hq64
                have HPO := Lib.hid hpo
                clear h0 hn0 hK0 hr hq hq64 b1 b2' b3 l1 l2 c1 c2 hpo
                go_wp2_with fail
                refine (HO1.out _).mono ?_
                rintro e w22 ⟨x4, y4, rfl, hx4, hy4, hB22⟩
                have HP := Lib.hid (HPO.out _ _ _ hx4 hy4)
                have HC22 : Hid (Below W21.heap.size W21 w22) := Lib.hid hB22
                clear hx4 hy4 hB22 e0 e1
                go_wp2_with fail
                refine HP.out.mono ?_
                rintro e w23 ⟨x5, y5, rfl, hx5, hy5, hB23⟩
                have HX5 := Lib.hid hx5
                have HY5 := Lib.hid hy5
                have HC23 : Hid (Below W21.heap.size W21 w23) := Lib.hid (HC22.out.trans (hB23.mono HC22.out.size))
                have hk := HKZ.out.low HC23.out
                have HKZ2 := Lib.hid hk
                have q0 := hk.cell 0
                have q1 := hk.cell 1
                have q2 := hk.cell 2
                have f0 := hk.frozen 0
                have f1 := hk.frozen 1
                have f2 := hk.frozen 2
                simp only [List.getElem?_toArray, List.getElem?_cons_zero, List.getElem?_cons_succ] at q0 q1 q2
                obtain ⟨A5, n5, k5, rfl⟩ := hx5.shape
                obtain ⟨A6, n6, k6, rfl⟩ := hy5.shape
                clear hx5 hy5 hB23 hk
                go_wp2_with fail
                go_meet
                refine ⟨⟨_, A5, A6, n5, k5, n6, k6, _, _, ((HKZ2.out.set 0 _).set 1 _).set 2 _, pt_store3 HX5.out HKZ2.out (notI_bool _) (notI_slice _ _ _) (notI_slice _ _ _) (notI_bool _) (notI_slice _ _ _), pt_store3 HY5.out HKZ2.out (notI_bool _) (notI_slice _ _ _) (notI_slice _ _ _) (notI_bool _) (notI_slice _ _ _), fun _ => ⟨rfl, rfl, rfl⟩⟩, ?_⟩
                exact (((HB21.out.trans (HC23.out.mono HB21.out.size)).setCell (p := ⟨pz, 0, none⟩) HLZ.out _).setCell (p := ⟨pz, 1, none⟩) HLZ.out _).setCell (p := ⟨pz, 2, none⟩) HLZ.out _
              · have hf0 : (F3 == 0) = false := by simpa using h0
                go_wp2_with fail
                go_meet
                exact ⟨HZ0.out h0, HB21.out⟩
            case rest =>
              obtain ⟨⟨g5, A5, A6, n5, k5, n6, k6, m5, d5, hkz, hm5, hd5, hv5⟩, hbc⟩ := hcut
              obtain ⟨wh, rfl⟩ : ∃ wh, wh = wc := ⟨wc, rfl⟩
              have HKZ3 := Lib.hid hkz
              have HM5 := Lib.hid hm5
              have HD5 := Lib.hid hd5
              have HV5 := Lib.hid hv5
              have HBH := Lib.hid hbc
              clear e0 e1
              obtain ⟨e0, e1, -, -⟩ := HAB.out _ hbc
              clear hkz hm5 hd5 hv5 hbc
              go_wp2_with fail
              refine (HPW.out _ (HTW.out _ HBH.out)).mono ?_
              rintro e w24 ⟨rfl, hB24⟩
              obtain ⟨W25, hW25⟩ : ∃ W25, W25 = w24.alloc (.cells #[.string P3, .string Q3] 27) := ⟨_, rfl⟩
              have hb25 : Below wh.heap.size wh W25 := by rw [hW25]; exact hB24.alloc hB24.size _
              have HC25 := Lib.hid hb25
              have HB25 : Hid (Below W2.heap.size W2 W25) := Lib.hid (HBH.out.trans (hb25.mono HBH.out.size))
              have HW25 := Lib.hid hW25
              have hkn : Blk W25 w24.heap.size 27 #[.string P3, .string Q3] := by rw [hW25]; exact Blk.new w24 _ _
              have r0 := hkn.cell 0
              have r1 := hkn.cell 1
              have hkz4 := HKZ3.out.low hb25
              have r2 := hkz4.cell 0
              have r3 := hkz4.cell 1
              have r4 := hkz4.cell 2
              simp only [List.getElem?_toArray, List.getElem?_cons_zero, List.getElem?_cons_succ] at r0 r1 r2 r3 r4
              rw [hW25] at r0 r1 r2 r3 r4
              have HSX := Lib.hid (HPS.out W25 g5 m5 d5 _ _ HV5.out (HM5.out.below hb25) (HD5.out.below hb25) (HTW.out _ HB25.out))
              clear hB24 hW25 hb25 hkn hkz4 e0 e1
              go_wp2_with fail
              rw [← HW25.out]
              clear r0 r1 r2 r3 r4
              refine HSX.out.mono ?_
              rintro e w26 ⟨rfl, hB26⟩
              have HB26 : Hid (Below W2.heap.size W2 w26) := Lib.hid (HB25.out.trans (hB26.mono HB25.out.size))
              clear hB26
              go_wp2
              go_ret
              exact ⟨ret_bool (by simp), HBW.out.trans (HB26.out.mono HBW.out.size)⟩
end Go.Proofs.YtaibpeokfbokfaaGreatDoor
