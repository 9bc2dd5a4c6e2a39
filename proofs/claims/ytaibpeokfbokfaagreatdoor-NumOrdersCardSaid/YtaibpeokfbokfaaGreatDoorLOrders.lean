/-
  The law NumOrders: num.Cmp, num.Floor, num.Near and num.Word are as specified.
-/
import Derived.Test.YtaibpeokfbokfaaGreatDoorOrds
import Derived.Test.YtaibpeokfbokfaaGreatDoorPair
import Derived.Test.YtaibpeokfbokfaaGreatDoorRWhole
import Derived.Test.YtaibpeokfbokfaaGreatDoorNums
import Derived.Test.YtaibpeokfbokfaaGreatDoorStrm
import Derived.Test.YtaibpeokfbokfaaGreatDoorRSame
import Derived.Deep.DeepCutAuto
namespace Go.Proofs.YtaibpeokfbokfaaGreatDoor
open Go.RowKit Go.Shelf

/-- a number of the reference lies in the block p -/
def OneN (N1 D1 : List UInt8) (f : Int) (p : Nat) (wx : World) : Prop :=
  ∃ (g1 : Bool) (A1 A2 : Option Addr) (n1 k1 n2 k2 m1 d1 : Nat), Blk wx p 33 #[.bool g1, .slice A1 n1 k1, .slice A2 n2 k2] ∧ Pt wx (.slice A1 n1 k1) m1 ∧ Pt wx (.slice A2 n2 k2) d1 ∧
    (f = 0 → g1 = negNum N1 ∧ m1 = pN N1 ∧ d1 = Mth.dv D1) ∧ ((Mth.dg 10000 m1).length ≤ 100000 ∧ (Mth.dg 10000 d1).length ≤ 100000 ∧ 0 < d1)
theorem one_set {N1 D1 : List UInt8} {f : Int} {p : Nat} {w : World} {b0 g1 : Bool} {B1 B2 A1 A2 : Option Addr} {a1 c1 a2 c2 n1 k1 n2 k2 m1 d1 : Nat}
    (hp : Blk w p 33 #[.bool b0, .slice B1 a1 c1, .slice B2 a2 c2]) (h1 : Pt w (.slice A1 n1 k1) m1) (h2 : Pt w (.slice A2 n2 k2) d1) (hv : f = 0 → g1 = negNum N1 ∧ m1 = pN N1 ∧ d1 = Mth.dv D1)
    (hl : (Mth.dg 10000 m1).length ≤ 100000 ∧ (Mth.dg 10000 d1).length ≤ 100000 ∧ 0 < d1) :
    OneN N1 D1 f p (((w.setCell ⟨p, 0, none⟩ (.bool g1)).setCell ⟨p, 1, none⟩ (.slice A1 n1 k1)).setCell ⟨p, 2, none⟩ (.slice A2 n2 k2)) := by
  have s : ∀ {v : Value} {n : Nat}, Pt w v n → Pt (((w.setCell ⟨p, 0, none⟩ (.bool g1)).setCell ⟨p, 1, none⟩ (.slice A1 n1 k1)).setCell ⟨p, 2, none⟩ (.slice A2 n2 k2)) v n := fun h =>
    pt_store3 h hp (notI_bool _) (notI_slice _ _ _) (notI_slice _ _ _) (notI_bool _) (notI_slice _ _ _)
  exact ⟨g1, A1, A2, n1, k1, n2, k2, m1, d1, ((hp.set 0 (.bool g1)).set 1 (.slice A1 n1 k1)).set 2 (.slice A2 n2 k2), s h1, s h2, hv, hl⟩

/-- a word of the reference is a word of the program -/
theorem wd_wh (g : Bool) (m d : Nat) : (whB m d && isW (whV g m d)) = wdB g m d ∧ (wdB g m d = true → whV g m d = wdV g m d) := by
  by_cases hd : d = 1
  · subst hd
    have key : ∀ v : Int, v = (if g = true then -(m : Int) else m) → isW v = true → m < 4611686018000000000 ∧ (Lib.decDigits m).length ≤ 18 := by
      intro v hv h
      simp only [isW, Bool.and_eq_true, decide_eq_true_eq] at h
      have hm : m < 1000000000000000000 := by
        cases g
        · have h2 : v = (m : Int) := hv
          omega
        · have h2 : v = -(m : Int) := hv
          omega
      exact ⟨by omega, Mth.dec_len_word (k := 18) (by omega) (by omega)⟩
    obtain ⟨v, hv⟩ : ∃ v, v = (if g = true then -(m : Int) else m) := ⟨_, rfl⟩
    by_cases hi : isW v = true
    · obtain ⟨h1, h2⟩ := key v hv hi
      have e1 : whB m 1 = true := by unfold whB; rw [decide_eq_true]; exact ⟨h2, rfl⟩
      have e2 : fsB m 1 = true := by unfold fsB smB; rw [decide_eq_true h1]; rfl
      have e3 : whV g m 1 = v := by unfold whV; rw [if_pos e1]; exact hv.symm
      have e4 : fsV g m 1 = v := by unfold fsV; rw [if_pos e2]; exact hv.symm
      have e5 : wdB g m 1 = true := by unfold wdB; rw [e2, e4, hi]; rfl
      refine ⟨by rw [e1, e3, hi, e5]; rfl, fun _ => ?_⟩
      rw [e3]; unfold wdV; rw [if_pos e5, e4]
    · have hi2 : isW v = false := by simpa using hi
      have i0 : isW 0 = true := rfl
      have e3 : (whB m 1 && isW (whV g m 1)) = false := by
        by_cases hb : whB m 1 = true
        · have : whV g m 1 = v := by unfold whV; rw [if_pos hb]; exact hv.symm
          rw [this, hi2, Bool.and_false]
        · have hb2 : whB m 1 = false := by simpa using hb
          rw [hb2, Bool.false_and]
      have e4 : wdB g m 1 = false := by
        unfold wdB
        by_cases hb : fsB m 1 = true
        · have : fsV g m 1 = v := by unfold fsV; rw [if_pos hb]; exact hv.symm
          rw [this, hi2, Bool.and_false]
        · have hb2 : fsB m 1 = false := by simpa using hb
          rw [hb2, Bool.false_and]
      exact ⟨by rw [e3, e4], fun h => by rw [e4] at h; cases h⟩
  · have e1 : whB m d = false := by unfold whB; rw [decide_eq_false]; exact fun h => hd h.2
    have e2 : fsB m d = false := by unfold fsB; rw [decide_eq_false hd, Bool.and_false]
    have e3 : wdB g m d = false := by unfold wdB; rw [e2, Bool.false_and]
    exact ⟨by rw [e1, e3, Bool.false_and], fun h => by rw [e3] at h; cases h⟩

set_option maxHeartbeats 8000000 in
set_option maxRecDepth 100000 in
theorem orders_law (v : Value) (ws : List Int) (w : World) (hv : LI w v ws) (htab : Tabs w) (herr : ErrV w) :
    Calls Tryz.prog 6 #[v] w fun e w' => e = .returned (.bool true) ∧ Below w.heap.size w w' := by
  obtain ⟨A, c, rfl⟩ := hv.form
  have HN := Lib.hid (fun W (h : Tabs W) => nums_any W h)
  have HB0 : Hid (Below w.heap.size w (w.alloc (.cells #[.slice A ws.length c, .int .i64 0] 25))) := Lib.hid ((Below.refl _ w).alloc (Nat.le_refl _) _)
  have HT := Lib.hid htab
  have HE := Lib.hid herr
  have HGT : Hid (w.heap.size ≠ 2) := Lib.hid (by have := htab.1; omega)
  have HL := Lib.hid (loose_any _ w.heap.size c A ws 0 (strm_new hv) (by omega) (by omega) (HT.out.low HB0.out) HGT.out)
  obtain ⟨n, hn⟩ : ∃ n, ws.length = n := ⟨_, rfl⟩
  rw [hn] at HL HB0 ⊢
  clear hv htab herr hn
  go_enter Tryz.func6, Tryz.ntmps6
  go_wp2_with fail
  refine HL.out.mono ?_
  rintro e w1 ⟨S1, T1, rfl, hS1, hT1, ⟨a1, ha0, ha1, hs1⟩, hg1⟩
  obtain ⟨N1, rfl, hN1⟩ := str_form S1
  obtain ⟨D1, rfl, hD1⟩ := str_form T1
  have hB1 : Below w.heap.size w w1 := HB0.out.grown hg1 (by simp) (fun k hk => by injection hk with hk; omega)
  have HB1 := Lib.hid hB1
  have HL2 := Lib.hid (loose_any w1 w.heap.size c A ws a1 hs1 (by omega) (by omega) (HT.out.low hB1) HGT.out)
  clear hg1 hs1 hB1 HL
  go_wp2_with fail
  refine HL2.out.mono ?_
  rintro e w2 ⟨S2, T2, rfl, hS2, hT2, ⟨a2, hb0, hb1, hs2⟩, hg2⟩
  obtain ⟨N2, rfl, hN2⟩ := str_form S2
  obtain ⟨D2, rfl, hD2⟩ := str_form T2
  have hB2 : Below w.heap.size w w2 := HB1.out.grown hg2 HB1.out.size (fun k hk => by injection hk with hk; omega)
  have HB2 := Lib.hid hB2
  obtain ⟨W2, hW2⟩ : ∃ W2, W2 = (w2.alloc (.cells #[.string ⟨N1.toArray⟩, .string ⟨D1.toArray⟩] 27)).alloc (.cells #[.string ⟨N2.toArray⟩, .string ⟨D2.toArray⟩] 27) := ⟨_, rfl⟩
  have hka : Blk W2 w2.heap.size 27 #[.string ⟨N1.toArray⟩, .string ⟨D1.toArray⟩] := by rw [hW2]; exact (Blk.new w2 _ _).alloc _
  have hkb : Blk W2 (w2.heap.size + 1) 27 #[.string ⟨N2.toArray⟩, .string ⟨D2.toArray⟩] := by
    rw [hW2]
    have := Blk.new (w2.alloc (.cells #[.string ⟨N1.toArray⟩, .string ⟨D1.toArray⟩] 27)) 27 #[.string ⟨N2.toArray⟩, .string ⟨D2.toArray⟩]
    rwa [World.size_alloc] at this
  have hbw2 : Below w2.heap.size w2 W2 := by rw [hW2]; exact ((Below.refl _ w2).alloc (Nat.le_refl _) _).alloc (by simp) _
  have hBW : Below w.heap.size w W2 := hB2.trans (hbw2.mono hB2.size)
  have hlt2 := hs2.lt
  have HF := Lib.hid (flip_any W2 w.heap.size c A ws a2 4 (hs2.below hbw2 hlt2) (by omega) (by omega) (by omega) (by omega))
  have hltb := hkb.lt
  have HKA := Lib.hid hka
  have HKB := Lib.hid hkb
  have HBW := Lib.hid hBW
  have HW2 := Lib.hid hW2
  have HLEN : Hid (N1.length ≤ 100 ∧ D1.length ≤ 100 ∧ N2.length ≤ 100 ∧ D2.length ≤ 100) := Lib.hid ⟨by omega, by omega, by omega, by omega⟩
  clear hg2 hB2 HL2 hs2 hW2 hka hkb hbw2 hBW hS1 hT1 hS2 hT2 hN1 hD1 hN2 hD2
  go_wp2_with fail
  rw [← HW2.out]
  refine HF.out.mono ?_
  rintro e w3 ⟨fb, rfl, -, hadv⟩
  have HKA3 := Lib.hid (Strm.adv_blk hadv HKA.out (by omega))
  have HKB3 := Lib.hid (Strm.adv_blk hadv HKB.out (by omega))
  have hsz : w3.heap.size = W2.heap.size := hadv.2.1
  have HB3 : Hid (Below w.heap.size w w3) := Lib.hid (hadv.below (Nat.le_refl _) (by omega) HBW.out)
  obtain ⟨pa, hpa⟩ : ∃ pa, w2.heap.size = pa := ⟨_, rfl⟩
  rw [hpa] at HKA3 HKB3 hlt2 hltb
  have hltc : pa + 1 < w3.heap.size := by omega
  clear hadv HKA HKB HF hsz hltb
  go_upto_if 29 with fail
  clear hpa
  go_cut [] (fun wx => (∃ N2' D2' : List UInt8, Blk wx pa 27 #[.string ⟨N1.toArray⟩, .string ⟨D1.toArray⟩] ∧ Blk wx (pa + 1) 27 #[.string ⟨N2'.toArray⟩, .string ⟨D2'.toArray⟩] ∧ N2'.length ≤ 100 ∧ D2'.length ≤ 100) ∧ Below w.heap.size w wx)
  case first =>
    have hka := HKA3.out
    have hkb := HKB3.out
    have e0 := hka.cell 0
    have e1 := hka.cell 1
    have c0 := hkb.cell 0
    have c1 := hkb.cell 1
    have f0 := hkb.frozen 0
    have f1 := hkb.frozen 1
    simp only [List.getElem?_toArray, List.getElem?_cons_zero, List.getElem?_cons_succ] at e0 e1 c0 c1
    clear hka hkb
    cases fb with
    | true =>
      go_wp2_with fail
      go_meet
      refine ⟨⟨N1, D1, (HKA3.out.far (by omega) _).far (by omega) _, (HKB3.out.set 0 _).set 1 _, HLEN.out.1, HLEN.out.2.1⟩, ?_⟩
      exact (HB3.out.setCell (p := ⟨pa + 1, 0, none⟩) (by show w.heap.size ≤ pa + 1; omega) _).setCell (p := ⟨pa + 1, 1, none⟩) (by show w.heap.size ≤ pa + 1; omega) _
    | false =>
      go_wp2_with fail
      go_meet
      exact ⟨⟨N2, D2, HKA3.out, HKB3.out, HLEN.out.2.2.1, HLEN.out.2.2.2⟩, HB3.out⟩
  case rest =>
    obtain ⟨wb, rfl⟩ : ∃ wb, wb = wc := ⟨wc, rfl⟩
    obtain ⟨⟨N2', D2', hka, hkb, hlen3, hlen4⟩, hbx⟩ := hcut
    have hL1 := HLEN.out.1
    have hL2 := HLEN.out.2.1
    have HKA := Lib.hid hka
    have HKB := Lib.hid hkb
    have HBX := Lib.hid hbx
    have e0 := hka.cell 0
    have e1 := hka.cell 1
    have e2 := hkb.cell 0
    have e3 := hkb.cell 1
    simp only [List.getElem?_toArray, List.getElem?_cons_zero, List.getElem?_cons_succ] at e0 e1 e2 e3
    have HTW : Hid (∀ W', Below wb.heap.size wb W' → Tabs W') := Lib.hid fun W' hb => HT.out.low (hbx.trans (hb.mono hbx.size))
    have HEW : Hid (∀ W', Below wb.heap.size wb W' → ErrV W') := Lib.hid fun W' hb => HE.out.low (hbx.trans (hb.mono hbx.size))
    have hltw : pa + 1 < wb.heap.size := hkb.lt
    have HSX : Hid (∀ w', Below wb.heap.size wb w' → w'.cell? ⟨pa, 0, none⟩ = some (.string ⟨N1.toArray⟩) ∧ w'.cell? ⟨pa, 1, none⟩ = some (.string ⟨D1.toArray⟩) ∧ w'.cell? ⟨pa + 1, 0, none⟩ = some (.string ⟨N2'.toArray⟩) ∧ w'.cell? ⟨pa + 1, 1, none⟩ = some (.string ⟨D2'.toArray⟩)) := Lib.hid fun w' hb =>
      ⟨(hka.low hb).cell 0, (hka.low hb).cell 1, (hkb.low hb).cell 0, (hkb.low hb).cell 1⟩
    have hrf := fun W h0 h1 h2 h3 => rfaults_any N1 D1 N2' D2' wb.heap.size W h0 h1 h2 h3 (by omega) (by omega) (by omega) (by omega)
    have hrk := fun W => rfault_any N1 D1 W (by omega) (by omega)
    have hcm := fun W => numCmp_any N1 D1 N2' D2' W (by omega) (by omega) (by omega) (by omega)
    obtain ⟨f, hf⟩ : ∃ f, chk2 (chkOf N1 D1) (chkOf N2' D2') = f := ⟨_, rfl⟩
    obtain ⟨K, hK⟩ : ∃ K, chkOf N1 D1 = K := ⟨_, rfl⟩
    obtain ⟨C, hC⟩ : ∃ C, cmpN N1 D1 N2' D2' = C := ⟨_, rfl⟩
    rw [hf] at hrf hcm
    rw [hC] at hcm
    rw [hK] at hrk
    have HRF := Lib.hid hrf
    have HRK := Lib.hid hrk
    have HCM := Lib.hid hcm
    have HFF := Lib.hid hf
    have HKK := Lib.hid hK
    have HCC := Lib.hid hC
    have hkc : Blk (wb.drew.alloc (.cells #[.string ⟨N1.toArray⟩, .string ⟨D1.toArray⟩, .string ⟨N2'.toArray⟩, .string ⟨D2'.toArray⟩] 27)) wb.heap.size 27 #[.string ⟨N1.toArray⟩, .string ⟨D1.toArray⟩, .string ⟨N2'.toArray⟩, .string ⟨D2'.toArray⟩] := Blk.new wb.drew _ _
    have HKC := Lib.hid hkc
    have HBC : Hid (Below wb.heap.size wb (wb.drew.alloc (.cells #[.string ⟨N1.toArray⟩, .string ⟨D1.toArray⟩, .string ⟨N2'.toArray⟩, .string ⟨D2'.toArray⟩] 27))) := Lib.hid ((Below.refl _ wb).drew.alloc (Nat.le_refl _) _)
    have HLL : Hid (N2'.length ≤ 100 ∧ D2'.length ≤ 100) := Lib.hid ⟨hlen3, hlen4⟩
    clear hka hkb hbx HKA3 HKB3 HB3 hrf hrk hcm hf hK hC hkc hlen3 hlen4 hL1 hL2
    go_wp2_with fail
    go_region_held3 (fun w' => w'.cell? ⟨pa, 0, none⟩ = some (.string ⟨N1.toArray⟩) ∧ w'.cell? ⟨pa, 1, none⟩ = some (.string ⟨D1.toArray⟩) ∧ w'.cell? ⟨pa + 1, 0, none⟩ = some (.string ⟨N2'.toArray⟩) ∧ w'.cell? ⟨pa + 1, 1, none⟩ = some (.string ⟨D2'.toArray⟩))
      (first | exact ⟨e0, e1, e2, e3⟩ | exact HSX.out _ HBC.out | go_keep)
      (first
        | (go_at_call 8; refine (HRF.out _ (HKC.out.cell 0) (HKC.out.cell 1) (HKC.out.cell 2) (HKC.out.cell 3)).mono ?_; rintro e w4 ⟨rfl, hB4⟩; have HB4 : Hid (Below wb.heap.size wb w4) := Lib.hid (HBC.out.trans (hB4.mono HBC.out.size)); clear hB4 e0 e1 e2 e3; obtain ⟨e0, e1, e2, e3⟩ := HSX.out w4 HB4.out)
        | (go_at_call 18; refine (HRK.out _).mono ?_; rintro e w5 ⟨rfl, hB5⟩; have HB5 : Hid (Below wb.heap.size wb w5) := Lib.hid (HB4.out.trans (hB5.mono HB4.out.size)); clear hB5 e0 e1 e2 e3; obtain ⟨e0, e1, e2, e3⟩ := HSX.out w5 HB5.out))
    clear HKC HBC
    go_wp2_with fail
    refine (HCM.out _).mono ?_
    rintro e w6 ⟨rfl, hB6⟩
    have HB6 : Hid (Below wb.heap.size wb w6) := Lib.hid (HB5.out.trans (hB6.mono HB5.out.size))
    clear hB6 e0 e1 e2 e3
    obtain ⟨e0, e1, e2, e3⟩ := HSX.out w6 HB6.out
    go_upto_if 44 with fail
    go_cut [10] (fun a10 wx => a10 = .int .i64 C ∧ Below wb.heap.size wb wx)
    case first =>
      by_cases h0 : f = 0
      · have hf0 : (f == 0) = true := by simpa using h0
        obtain ⟨v1, v2⟩ := chk2_zero (HFF.out.trans h0)
        obtain ⟨b1, b2, b3⟩ := valid_of v1
        obtain ⟨b4, b5, b6⟩ := valid_of v2
        obtain ⟨l1, l2, -, -⟩ := HLEN.out
        obtain ⟨l3, l4⟩ := HLL.out
        have c1 : (Mth.dg 10000 (pN N1)).length ≤ 1000000 := dv_len (by omega) b1 (Nat.le_trans (cut_len N1) (by omega))
        have c2 : (Mth.dg 10000 (Mth.dv D1)).length ≤ 1000000 := dv_len (by omega) b2 (by omega)
        have c3 : (Mth.dg 10000 (pN N2')).length ≤ 1000000 := dv_len (by omega) b4 (Nat.le_trans (cut_len N2') (by omega))
        have c4 : (Mth.dg 10000 (Mth.dv D2')).length ≤ 1000000 := dv_len (by omega) b5 (by omega)
        have hCv : cmpQ (negNum N1) (pN N1) (Mth.dv D1) (negNum N2') (pN N2') (Mth.dv D2') = C := by rw [← HCC.out]; unfold cmpN; rw [HFF.out, if_pos h0]
        have HO1 := Lib.hid (fun W => rnof_any N1 D1 W (by omega) (by omega) b1 b2)
        have HO2 := Lib.hid (fun W => rnof_any N2' D2' W (by omega) (by omega) b4 b5)
        have hrc := fun W x1 y1 x2 y2 q1 q2 q3 q4 => rncmp_any (negNum N1) (negNum N2') (pN N1) (Mth.dv D1) (pN N2') (Mth.dv D2') x1 y1 x2 y2 W q1 q2 q3 q4 c1 c2 c3 c4 b3 b6
        rw [hCv] at hrc
        have HRC := Lib.hid hrc
        have tok : True := trivial
        clear h0 v1 v2 b1 b2 b3 b4 b5 b6 l1 l2 l3 l4 c1 c2 c3 c4 hCv hrc
        go_wp2_with fail
        go_region_held3 (fun w' => w'.cell? ⟨pa, 0, none⟩ = some (.string ⟨N1.toArray⟩) ∧ w'.cell? ⟨pa, 1, none⟩ = some (.string ⟨D1.toArray⟩) ∧ w'.cell? ⟨pa + 1, 0, none⟩ = some (.string ⟨N2'.toArray⟩) ∧ w'.cell? ⟨pa + 1, 1, none⟩ = some (.string ⟨D2'.toArray⟩))
          (first | exact ⟨e0, e1, e2, e3⟩ | go_keep)
          (first
            | (go_at_call 10; have _t := tok; refine (HO1.out _).mono ?_; rintro e w7 ⟨y1, y2, rfl, hY1, hY2, hB7⟩; have HY1 := Lib.hid hY1; have HY2 := Lib.hid hY2; have HB7 : Hid (Below wb.heap.size wb w7) := Lib.hid (HB6.out.drew.trans (hB7.mono HB6.out.drew.size)); clear hY1 hY2 hB7 tok _t e0 e1 e2 e3; obtain ⟨e0, e1, e2, e3⟩ := HSX.out w7 HB7.out)
            | (go_at_call 10; refine (HO2.out _).mono ?_; rintro e w8 ⟨y3, y4, rfl, hY3, hY4, hB8⟩; have HY3 := Lib.hid hY3; have HY4 := Lib.hid hY4; have HY5 := Lib.hid (HY1.out.below hB8); have HY6 := Lib.hid (HY2.out.below hB8); have HB8 : Hid (Below wb.heap.size wb w8) := Lib.hid (HB7.out.trans (hB8.mono HB7.out.size)); clear hY3 hY4 hB8 e0 e1 e2 e3; obtain ⟨e0, e1, e2, e3⟩ := HSX.out w8 HB8.out)
            | (go_at_call 31; refine (HRC.out _ _ _ _ _ HY5.out HY6.out HY3.out HY4.out).mono ?_; rintro e w9 ⟨rfl, hB9⟩; have HB9 : Hid (Below wb.heap.size wb w9) := Lib.hid (HB8.out.trans (hB9.mono HB8.out.size)); clear hB9 e0 e1 e2 e3; obtain ⟨e0, e1, e2, e3⟩ := HSX.out w9 HB9.out))
        go_wp2_with fail
        go_meet
        exact ⟨rfl, HB9.out⟩
      · have hf0 : (f == 0) = false := by simpa using h0
        have hC0 : C = 0 := by rw [← HCC.out]; unfold cmpN; rw [HFF.out, if_neg h0]
        subst hC0
        go_wp2_with fail
        go_meet
        exact ⟨rfl, HB6.out⟩
    case rest =>
      obtain ⟨rfl, hbd⟩ := hcut
      obtain ⟨wd, rfl⟩ : ∃ wd, wd = wc := ⟨wc, rfl⟩
      have HBD := Lib.hid hbd
      clear e0 e1 e2 e3 hbd HB4 HB5 HB6 HRF HCM
      go_wp2_with fail
      refine (HN.out _ (HTW.out _ HBD.out)).mono ?_
      rintro e w10 ⟨rfl, hB10⟩
      have HB10 : Hid (Below wb.heap.size wb w10) := Lib.hid (HBD.out.trans (hB10.mono HBD.out.size))
      clear hB10
      go_wp2_with fail
      refine (rint_any 0 w10 (by omega) (by omega)).mono ?_
      rintro e w11 ⟨x1, y1, rfl, hx1, hy1, hB11⟩
      have HX1 := Lib.hid hx1
      have HY1 := Lib.hid hy1
      have HB11 : Hid (Below wb.heap.size wb w11) := Lib.hid (HB10.out.trans (hB11.mono HB10.out.size))
      obtain ⟨A1, n1, k1, rfl⟩ := hx1.shape
      obtain ⟨A2, n2, k2, rfl⟩ := hy1.shape
      obtain ⟨W12, hW12⟩ : ∃ W12, W12 = w11.alloc (.cells #[.bool false, .slice A1 n1 k1, .slice A2 n2 k2] 33) := ⟨_, rfl⟩
      have hkp : Blk W12 w11.heap.size 33 #[.bool false, .slice A1 n1 k1, .slice A2 n2 k2] := by rw [hW12]; exact Blk.new w11 _ _
      have hb12 : Below wb.heap.size wb W12 := by rw [hW12]; exact HB11.out.alloc HB11.out.size _
      have hT0 : OneN N1 D1 K w11.heap.size W12 ∨ K = 0 := by
        by_cases h : K = 0
        · exact Or.inr h
        · refine Or.inl ⟨false, A1, A2, n1, k1, n2, k2, 0, 1, hkp, ?_, ?_, fun e => absurd e h, ?_⟩
          · rw [hW12]; exact HX1.out.alloc _
          · rw [hW12]; exact HY1.out.alloc _
          · refine ⟨?_, ?_, by omega⟩ <;> exact Nat.le_trans (Mth.dg_len_le (b := 10000) (by omega) 1 _ (by omega)) (by omega)
      have HT0 := Lib.hid hT0
      have HW12 := Lib.hid hW12
      have HKP := Lib.hid hkp
      have HB12 := Lib.hid hb12
      have HLP : Hid (wb.heap.size ≤ w11.heap.size) := HB11.out.size |> Lib.hid
      obtain ⟨e0, e1, e2, e3⟩ := HSX.out W12 hb12
      clear hx1 hy1 hB11 hW12 hkp hb12 hT0 e2 e3
      go_upto_if 64 with fail
      rw [← HW12.out]
      obtain ⟨p, hp⟩ : ∃ p, w11.heap.size = p := ⟨_, rfl⟩
      rw [hp] at HT0 HKP HLP ⊢
      clear hp
      go_cut [] (fun wx => OneN N1 D1 K p wx ∧ Below wb.heap.size wb wx)
      case first =>
        by_cases h0 : K = 0
        · have hK0 : (K == 0) = true := by simpa using h0
          obtain ⟨b1, b2, b3⟩ := valid_of (HKK.out.trans h0)
          obtain ⟨l1, l2, -, -⟩ := HLEN.out
          have HLN : Hid ((Mth.dg 10000 (Mth.dv (cutNum N1))).length ≤ 100000 ∧ (Mth.dg 10000 (Mth.dv D1)).length ≤ 100000 ∧ 0 < Mth.dv D1) := Lib.hid
            ⟨dv_len (by omega) b1 (Nat.le_trans (cut_len N1) (by omega)), dv_len (by omega) b2 (by omega), b3⟩
          have HO1 := Lib.hid (fun W => rnof_any N1 D1 W (by omega) (by omega) b1 b2)
          clear h0 b1 b2 b3 l1 l2
          go_wp2_with fail
          refine (HO1.out _).mono ?_
          rintro e w13 ⟨r1, r2, rfl, hR1, hR2, hB13⟩
          have HR1 := Lib.hid hR1
          have HR2 := Lib.hid hR2
          have HB13 : Hid (Below wb.heap.size wb w13) := Lib.hid (HB12.out.trans (hB13.mono HB12.out.size))
          have hk := HKP.out.low hB13
          have HKP2 := Lib.hid hk
          have c0 := hk.cell 0
          have c1 := hk.cell 1
          have c2 := hk.cell 2
          have f0 := hk.frozen 0
          have f1 := hk.frozen 1
          have f2 := hk.frozen 2
          simp only [List.getElem?_toArray, List.getElem?_cons_zero, List.getElem?_cons_succ] at c0 c1 c2
          obtain ⟨A5, n5, k5, rfl⟩ := hR1.shape
          obtain ⟨A6, n6, k6, rfl⟩ := hR2.shape
          clear hR1 hR2 hB13 hk
          go_wp2_with fail
          go_meet
          exact ⟨one_set HKP2.out HR1.out HR2.out (fun _ => ⟨rfl, rfl, rfl⟩) HLN.out, ((HB13.out.setCell (p := ⟨p, 0, none⟩) HLP.out _).setCell (p := ⟨p, 1, none⟩) HLP.out _).setCell (p := ⟨p, 2, none⟩) HLP.out _⟩
        · have hK0 : (K == 0) = false := by simpa using h0
          go_wp2_with fail
          go_meet
          exact ⟨HT0.out.resolve_right h0, HB12.out⟩
      case rest =>
        obtain ⟨⟨g1, B1, B2, a1', c1, a2', c2, m1, d1, hkp, hp1, hp2, hv, hl⟩, hbc⟩ := hcut
        obtain ⟨we, rfl⟩ : ∃ we, we = wc := ⟨wc, rfl⟩
        obtain ⟨l1, l2, -, -⟩ := HLEN.out
        obtain ⟨P, Q, hF, hFS⟩ := numFloor_pair (g := g1) (m := m1) (d := d1) (by omega) (by omega) HKK.out hv
        obtain ⟨P', Q', hG, hGS⟩ := numNear_pair (g := g1) (m := m1) (d := d1) (by omega) (by omega) HKK.out hv
        have hwd := fun W => numWord_any N1 D1 W (by omega) (by omega)
        obtain ⟨KV, hKV⟩ : ∃ KV, (if chkOf N1 D1 = 0 then wdV (negNum N1) (pN N1) (Mth.dv D1) else 0) = KV := ⟨_, rfl⟩
        obtain ⟨KB, hKB⟩ : ∃ KB, (if chkOf N1 D1 = 0 then wdB (negNum N1) (pN N1) (Mth.dv D1) else false) = KB := ⟨_, rfl⟩
        rw [hKV, hKB, HKK.out] at hwd
        obtain ⟨xv, hxv⟩ : ∃ xv, whV g1 m1 d1 = xv := ⟨_, rfl⟩
        obtain ⟨xb, hxb⟩ : ∃ xb, whB m1 d1 = xb := ⟨_, rfl⟩
        have hlink : (K = 0 → (xb && isW xv) = KB ∧ (KB = true → xv = KV)) ∧ (K ≠ 0 → KB = false) ∧ (KB = false → KV = 0) := by
          rw [← hKV, ← hKB, ← hxv, ← hxb, HKK.out]
          refine ⟨fun e => ?_, fun e => if_neg e, ?_⟩
          · obtain ⟨rfl, rfl, rfl⟩ := hv e
            rw [if_pos e, if_pos e]
            exact wd_wh _ _ _
          · by_cases e : K = 0
            · rw [if_pos e, if_pos e]; intro h; unfold wdV; rw [h]; rfl
            · rw [if_neg e, if_neg e]; exact fun _ => rfl
        have HLK := Lib.hid hlink
        have HFL := Lib.hid hF
        have HFS := Lib.hid hFS
        have HNE := Lib.hid hG
        have HNS := Lib.hid hGS
        have HWD := Lib.hid hwd
        have HP1 := Lib.hid hp1
        have HP2 := Lib.hid hp2
        have HKQ := Lib.hid hkp
        have HLM := Lib.hid hl
        have HBE := Lib.hid hbc
        have HXV := Lib.hid hxv
        have HXB := Lib.hid hxb
        have hsz : p < we.heap.size := hkp.lt
        obtain ⟨e0, e1, e2, e3⟩ := HSX.out we hbc
        clear hF hFS hG hGS hwd hKV hKB hp1 hp2 hkp hl hbc hv hlink l1 l2 hxv hxb e2 e3
        go_wp2_with fail
        refine (HFL.out _ (HTW.out _ HBE.out)).mono ?_
        rintro e w14 ⟨rfl, hB14⟩
        obtain ⟨W15, hW15⟩ : ∃ W15, W15 = w14.alloc (.cells #[.string P, .string Q] 27) := ⟨_, rfl⟩
        have hb15 : Below we.heap.size we W15 := by rw [hW15]; exact hB14.alloc hB14.size _
        have HC15 := Lib.hid hb15
        have HB15 : Hid (Below wb.heap.size wb W15) := Lib.hid (HBE.out.trans (hb15.mono HBE.out.size))
        have HK15 : Hid (Blk W15 w14.heap.size 27 #[.string P, .string Q]) := Lib.hid (by rw [hW15]; exact Blk.new w14 _ _)
        have HW15 := Lib.hid hW15
        clear e0 e1
        obtain ⟨e0, e1, -, -⟩ := HSX.out W15 HB15.out
        rw [hW15] at e0 e1
        clear hB14 hW15 hb15
        go_wp2_with fail
        rw [← HW15.out]
        refine (HNE.out _ (HTW.out _ HB15.out)).mono ?_
        rintro e w16 ⟨rfl, hB16⟩
        obtain ⟨W17, hW17⟩ : ∃ W17, W17 = w16.alloc (.cells #[.string P', .string Q'] 27) := ⟨_, rfl⟩
        have hb17 : Below W15.heap.size W15 W17 := by rw [hW17]; exact hB16.alloc hB16.size _
        have HC17 : Hid (Below we.heap.size we W17) := Lib.hid (HC15.out.trans (hb17.mono HC15.out.size))
        have HB17 : Hid (Below wb.heap.size wb W17) := Lib.hid (HBE.out.trans (HC17.out.mono HBE.out.size))
        have HK17 : Hid (Blk W17 w16.heap.size 27 #[.string P', .string Q']) := Lib.hid (by rw [hW17]; exact Blk.new w16 _ _)
        have HK15b := Lib.hid (HK15.out.low hb17)
        have HW17 := Lib.hid hW17
        clear e0 e1
        obtain ⟨e0, e1, -, -⟩ := HSX.out W17 HB17.out
        rw [hW17] at e0 e1
        clear hB16 hW17 hb17
        go_wp2_with fail
        rw [← HW17.out]
        refine (HWD.out _).mono ?_
        rintro e w18 ⟨rfl, hB18⟩
        have HC18 : Hid (Below we.heap.size we w18) := Lib.hid (HC17.out.trans (hB18.mono HC17.out.size))
        have HQ18 := Lib.hid (HKQ.out.low HC18.out)
        have HK15c := Lib.hid (HK15b.out.low hB18)
        have HK17c := Lib.hid (HK17.out.low hB18)
        have o0 := HQ18.out.cell 0
        have o1 := HQ18.out.cell 1
        have o2 := HQ18.out.cell 2
        simp only [List.getElem?_toArray, List.getElem?_cons_zero, List.getElem?_cons_succ] at o0 o1 o2
        have HB18 : Hid (Below wb.heap.size wb w18) := Lib.hid (HBE.out.trans (HC18.out.mono HBE.out.size))
        have hwh := rwhole_any g1 m1 d1 _ _ w18 (HP1.out.below HC18.out) (HP2.out.below HC18.out) (Nat.le_trans HLM.out.1 (by omega)) (HTW.out _ HB18.out) (HEW.out _ HB18.out)
        rw [HXV.out, HXB.out] at hwh
        have HWH := Lib.hid hwh
        clear hB18 hwh e0 e1
        go_wp2_with fail
        refine HWH.out.mono ?_
        rintro e w19 ⟨rfl, hB19⟩
        have HC19 : Hid (Below we.heap.size we w19) := Lib.hid (HC18.out.trans (hB19.mono HC18.out.size))
        have HQ19 := Lib.hid (HKQ.out.low HC19.out)
        have HK15d := Lib.hid (HK15c.out.low hB19)
        have HK17d := Lib.hid (HK17c.out.low hB19)
        clear hB19 o0 o1 o2
        go_upto_region 19 with fail
        go_cut [20] (fun a20 wx => a20 = .bool KB ∧ wx = w19)
        case first =>
          cases xb with
          | false =>
            have hkb : KB = false := by
              by_cases h : K = 0
              · exact ((HLK.out.1 h).1).symm
              · exact HLK.out.2.1 h
            subst hkb
            go_wp2_with fail
            go_meet
            exact ⟨rfl, rfl⟩
          | true =>
            by_cases hK : K = 0
            · have hK0 : (K == 0) = true := by simpa using hK
              have hkb : KB = isW xv := ((HLK.out.1 hK).1).symm
              clear hK
              by_cases h1 : -2147483648 ≤ xv
              · have h1' : decide (-2147483648 ≤ xv) = true := by simpa using h1
                by_cases h2 : xv ≤ 2147483647
                · have h2' : decide (xv ≤ 2147483647) = true := by simpa using h2
                  have hkb2 : KB = true := by rw [hkb]; unfold isW; rw [h1', h2']; rfl
                  clear hkb
                  subst hkb2
                  go_wp2_with fail
                  go_meet
                  exact ⟨rfl, rfl⟩
                · have h2' : decide (xv ≤ 2147483647) = false := by simpa using h2
                  have hkb2 : KB = false := by rw [hkb]; unfold isW; rw [h1', h2']; rfl
                  clear hkb
                  subst hkb2
                  go_wp2_with fail
                  go_meet
                  exact ⟨rfl, rfl⟩
              · have h1' : decide (-2147483648 ≤ xv) = false := by simpa using h1
                have hkb2 : KB = false := by rw [hkb]; unfold isW; rw [h1']; rfl
                clear hkb
                subst hkb2
                go_wp2_with fail
                go_meet
                exact ⟨rfl, rfl⟩
            · have hK0 : (K == 0) = false := by simpa using hK
              have hkb : KB = false := HLK.out.2.1 hK
              subst hkb
              go_wp2_with fail
              go_meet
              exact ⟨rfl, rfl⟩
        case rest =>
          obtain ⟨rfl, hwx⟩ := hcut
          rw [hwx]
          clear hwx
          go_upto_if 102 with fail
          go_cut [19] (fun a19 wx => a19 = .int .i64 KV ∧ wx = w19)
          case first =>
            cases KB with
            | true =>
              have hkv : xv = KV := by
                by_cases h : K = 0
                · exact (HLK.out.1 h).2 rfl
                · exact absurd (HLK.out.2.1 h) (by simp)
              subst hkv
              go_wp2_with fail
              go_meet
              exact ⟨rfl, rfl⟩
            | false =>
              have hkv : KV = 0 := HLK.out.2.2 rfl
              subst hkv
              go_wp2_with fail
              go_meet
              exact ⟨rfl, rfl⟩
          case rest =>
            obtain ⟨rfl, hwx⟩ := hcut
            rw [hwx]
            clear hwx
            have HSC : Hid (∀ w', Below w19.heap.size w19 w' → (w'.cell? ⟨w14.heap.size, 0, none⟩ = some (.string P) ∧ w'.cell? ⟨w14.heap.size, 1, none⟩ = some (.string Q) ∧ w'.cell? ⟨w16.heap.size, 0, none⟩ = some (.string P') ∧ w'.cell? ⟨w16.heap.size, 1, none⟩ = some (.string Q')) ∧
                w'.cell? ⟨p, 0, none⟩ = some (.bool g1) ∧ w'.cell? ⟨p, 1, none⟩ = some (.slice B1 a1' c1) ∧ w'.cell? ⟨p, 2, none⟩ = some (.slice B2 a2' c2)) := Lib.hid fun w' hb =>
              ⟨⟨(HK15d.out.low hb).cell 0, (HK15d.out.low hb).cell 1, (HK17d.out.low hb).cell 0, (HK17d.out.low hb).cell 1⟩, (HQ19.out.low hb).cell 0, (HQ19.out.low hb).cell 1, (HQ19.out.low hb).cell 2⟩
            have HPA := Lib.hid (HP1.out.below HC19.out)
            have HPB := Lib.hid (HP2.out.below HC19.out)
            have HB19 : Hid (Below wb.heap.size wb w19) := Lib.hid (HBE.out.trans (HC19.out.mono HBE.out.size))
            have HTX : Hid (∀ W', Below w19.heap.size w19 W' → Tabs W') := Lib.hid fun W' hb => HTW.out W' (HB19.out.trans (hb.mono HB19.out.size))
            obtain ⟨q1, q2, q3⟩ := HLM.out
            obtain ⟨⟨r0, r1, r2, r3⟩, r4, r5, r6⟩ := HSC.out w19 (Below.refl _ w19)
            have tok : True := trivial
            clear HK15 HK15b HK15c HK17 HK17c HQ18 HFL HNE HWD HWH
            go_wp2_with fail
            go_region_held3 (fun w' => (w'.cell? ⟨w14.heap.size, 0, none⟩ = some (.string P) ∧ w'.cell? ⟨w14.heap.size, 1, none⟩ = some (.string Q) ∧ w'.cell? ⟨w16.heap.size, 0, none⟩ = some (.string P') ∧ w'.cell? ⟨w16.heap.size, 1, none⟩ = some (.string Q')) ∧
                w'.cell? ⟨p, 0, none⟩ = some (.bool g1) ∧ w'.cell? ⟨p, 1, none⟩ = some (.slice B1 a1' c1) ∧ w'.cell? ⟨p, 2, none⟩ = some (.slice B2 a2' c2))
              (first | exact ⟨⟨r0, r1, r2, r3⟩, r4, r5, r6⟩ | go_keep)
              (first
                | (go_at_call 36; refine (rnfloor_any g1 m1 d1 _ _ _ (Sl.drew HPA.out) (Sl.drew HPB.out) (by omega) (by omega) q3).mono ?_; rintro e w20 ⟨y1, y2, rfl, hY1, hY2, hB20⟩; have HY1 := Lib.hid hY1; have HY2 := Lib.hid hY2; have HC20 : Hid (Below w19.heap.size w19 w20) := Lib.hid ((Below.refl _ w19).drew.trans hB20); clear hY1 hY2 hB20 r0 r1 r2 r3 r4 r5 r6; obtain ⟨⟨r0, r1, r2, r3⟩, r4, r5, r6⟩ := HSC.out w20 HC20.out)
                | (go_at_call 37; refine (rnnear_any g1 m1 d1 _ _ _ (Sl.below HPA.out HC21.out) (Sl.below HPB.out HC21.out) (by omega) (by omega) q3).mono ?_; rintro e w22 ⟨y3, y4, rfl, hY3, hY4, hB22⟩; have HY3 := Lib.hid hY3; have HY4 := Lib.hid hY4; have HC22 : Hid (Below w19.heap.size w19 w22) := Lib.hid (HC21.out.trans (hB22.mono HC21.out.size)); clear hY3 hY4 hB22 r0 r1 r2 r3 r4 r5 r6; obtain ⟨⟨r0, r1, r2, r3⟩, r4, r5, r6⟩ := HSC.out w22 HC22.out)
                | (go_at_call 13; have _t := tok; refine (HFS.out _ _ _ HY1.out HY2.out (HTX.out _ HC20.out)).mono ?_; rintro e w21 ⟨rfl, hB21⟩; have HC21 : Hid (Below w19.heap.size w19 w21) := Lib.hid (HC20.out.trans (hB21.mono HC20.out.size)); clear hB21 tok _t r0 r1 r2 r3 r4 r5 r6; obtain ⟨⟨r0, r1, r2, r3⟩, r4, r5, r6⟩ := HSC.out w21 HC21.out)
                | (go_at_call 13; refine (HNS.out _ _ _ HY3.out HY4.out (HTX.out _ HC22.out)).mono ?_; rintro e w23 ⟨rfl, hB23⟩; have HC23 : Hid (Below w19.heap.size w19 w23) := Lib.hid (HC22.out.trans (hB23.mono HC22.out.size)); clear hB23 r0 r1 r2 r3 r4 r5 r6; obtain ⟨⟨r0, r1, r2, r3⟩, r4, r5, r6⟩ := HSC.out w23 HC23.out))
            clear r0 r1 r2 r3 r4 r5 r6
            go_wp2
            go_ret
            exact ⟨ret_bool (by simp), HBX.out.trans ((HB19.out.trans (HC23.out.mono HB19.out.size)).mono HBX.out.size)⟩
end Go.Proofs.YtaibpeokfbokfaaGreatDoor
