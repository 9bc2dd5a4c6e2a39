/-
  num.Multiplier and the reference's Multiplied.
-/
import Derived.Test.YtaibpeokfbokfaaGreatDoorNear
import Derived.Test.YtaibpeokfbokfaaGreatDoorSmall
import Derived.Test.YtaibpeokfbokfaaGreatDoorRWhole
import Derived.Test.YtaibpeokfbokfaaGreatDoorRNumMul
import Derived.Test.YtaibpeokfbokfaaGreatDoorVal
import Derived.Deep.RegionHeld3
import Derived.Outline
namespace Go.Proofs.YtaibpeokfbokfaaGreatDoor
open Go.RowKit Go.Shelf

/-- a positive number times a power of two: the parts, and the nearest whole number -/
def mtN (m d k : Nat) : Nat := rnum (m * 2 ^ k) (d * 1)
def mtD (m d k : Nat) : Nat := rden (m * 2 ^ k) (d * 1)
def mtV (m d k : Nat) : Nat := neM false (mtN m d k) (mtD m d k)
/-- num.Multiplier from a shift down: the number, the shift, the error -/
def mltP (m d : Nat) : Nat → Int × Int × Int
  | 0 => (0, 0, 22)
  | k + 1 => if mtV m d (k + 1) ≤ 2147483647 then (if mtV m d (k + 1) = 0 then (0, 0, 22) else ((mtV m d (k + 1) : Nat), ((k + 1 : Nat) : Int), 0)) else mltP m d k
/-- Multiplied from a shift down -/
def mltR (m d : Nat) : Nat → Int × Int × Bool
  | 0 => (0, 0, false)
  | k + 1 => if mtV m d (k + 1) ≤ 2147483647 then ((mtV m d (k + 1) : Nat), ((k + 1 : Nat) : Int), true) else mltR m d k
theorem mlt_same (m d : Nat) : ∀ k, mltP m d k = (if (!(mltR m d k).2.2 || (mltR m d k).1 == 0) = true then (0, 0, 22) else ((mltR m d k).1, (mltR m d k).2.1, 0))
  | 0 => rfl
  | k + 1 => by
    unfold mltP mltR
    by_cases h : mtV m d (k + 1) ≤ 2147483647
    · rw [if_pos h, if_pos h]
      by_cases h0 : mtV m d (k + 1) = 0
      · simp [h0]
      · simp [h0]
    · rw [if_neg h, if_neg h]
      exact mlt_same m d k
theorem rneg_f (m : Nat) : rneg false m = false := by unfold rneg; split <;> rfl
theorem hfS_false (m d : Nat) : hfS false m d = false := by unfold hfS addS; rw [if_pos rfl]; exact rneg_f _
theorem neS_false (m d : Nat) : neS false m d = false := by unfold neS; rw [hfS_false]; exact rneg_f _
theorem two_len {b : Nat} (hb : 10 ≤ b) {k : Nat} (hk : k ≤ 62) : (Mth.dg b (2 ^ k)).length ≤ 20 := by
  refine Mth.dg_len_le (by omega) 20 _ ?_
  have h1 : 2 ^ k ≤ 2 ^ 62 := Nat.pow_le_pow_right (by omega) hk
  have h2 : (10 : Nat) ^ 20 ≤ b ^ 20 := Nat.pow_le_pow_left hb 20
  have h3 : (2 : Nat) ^ 62 < 10 ^ 20 := by decide
  omega
theorem mtN_len {b : Nat} (hb : 10 ≤ b) {m d k : Nat} (h1 : (Mth.dg b m).length ≤ 100000) (hk : k ≤ 62) : (Mth.dg b (mtN m d k)).length ≤ 200000 := by
  have h2 := two_len hb hk
  exact Nat.le_trans (Mth.dg_len_mono (by omega) (rnum_le _ _)) (Nat.le_trans (Mth.dg_len_mul (by omega) _ _) (by omega))
theorem mtD_len {b : Nat} (hb : 10 ≤ b) {m d k : Nat} (h2 : (Mth.dg b d).length ≤ 100000) (hd : 0 < d) : (Mth.dg b (mtD m d k)).length ≤ 200000 :=
  Nat.le_trans (Mth.dg_len_mono (by omega) (rden_le (by omega))) (by rw [Nat.mul_one]; omega)
theorem mtD_pos {m d k : Nat} (hd : 0 < d) : 0 < mtD m d k := rden_pos (by omega)
theorem mtV_len {b : Nat} (hb : 10 ≤ b) {m d k : Nat} (h1 : (Mth.dg b m).length ≤ 100000) (h2 : (Mth.dg b d).length ≤ 100000) (hd : 0 < d) (hk : k ≤ 62) : (Mth.dg b (mtV m d k)).length ≤ 300000 :=
  Nat.le_trans (neM_len hb false (mtN_len hb h1 hk) (mtD_len hb h2 hd)) (by omega)
theorem two_pow_lt {k : Nat} (hk : k ≤ 62) : (2 : Nat) ^ k ≤ 4611686018427387904 := by
  have h1 : 2 ^ k ≤ 2 ^ 62 := Nat.pow_le_pow_right (by omega) hk
  have h3 : (2 : Nat) ^ 62 = 4611686018427387904 := by decide
  omega
theorem f_int (k : Nat) (hk : k ≤ 62) (W : World) : Calls Tryz.prog 65 #[.int .i64 (IntKind.i64.wrap ((2 : Int) ^ k))] W (FNum false (2 ^ k) 1 W) := by
  have h2 := two_pow_lt hk
  obtain ⟨q, hq⟩ : ∃ q, 2 ^ k = q := ⟨_, rfl⟩
  have e : (2 : Int) ^ k = (q : Int) := by rw [← hq]; push_cast; rfl
  rw [hq] at h2 ⊢
  rw [e, IntWalk.i64_in (q : Int) ⟨by omega, by omega⟩]
  have h := fint_any (q : Int) W (by omega) (by omega)
  rw [decide_eq_false (by omega), Int.natAbs_natCast] at h
  exact h
theorem f_mul {m d k : Nat} (hk : k ≤ 62) (l1 : (Mth.dg 1000000000 m).length ≤ 100000) (l2 : (Mth.dg 1000000000 d).length ≤ 100000) (hd : 0 < d) (W : World) (x1 y1 x2 y2 : Value) (a1 : Nt W x1 m) (a2 : Nt W y1 d) (a3 : Nt W x2 (2 ^ k)) (a4 : Nt W y2 1) :
    Calls Tryz.prog 45 #[.agg #[.bool false, x1, y1], .agg #[.bool false, x2, y2]] W (FNum false (mtN m d k) (mtD m d k) W) := by
  have h := fmul_any false false m d (2 ^ k) 1 x1 y1 x2 y2 W a1 a2 a3 a4 (Nat.le_trans l1 (by omega)) (Nat.le_trans l2 (by omega)) (Nat.le_trans (two_len (b := 1000000000) (by omega) hk) (by omega)) (Nat.le_trans (Mth.dg_len_le (b := 1000000000) (by omega) 1 _ (by omega)) (by omega)) (by omega)
  have e : rneg (!(false == false)) (m * 2 ^ k) = false := rneg_f _
  rw [e] at h
  exact h
theorem f_near {m d k : Nat} (hk : k ≤ 62) (l1 : (Mth.dg 1000000000 m).length ≤ 100000) (l2 : (Mth.dg 1000000000 d).length ≤ 100000) (hd : 0 < d) (W : World) (x1 y1 : Value) (a1 : Nt W x1 (mtN m d k)) (a2 : Nt W y1 (mtD m d k)) :
    Calls Tryz.prog 64 #[.agg #[.bool false, x1, y1]] W (FNum false (mtV m d k) 1 W) := by
  have h := fnear_any false (mtN m d k) (mtD m d k) x1 y1 W a1 a2 (Nat.le_trans (mtN_len (by omega) l1 hk) (by omega)) (Nat.le_trans (mtD_len (by omega) l2 hd) (by omega)) (mtD_pos hd)
  rw [neS_false] at h
  exact h
theorem r_int (k : Nat) (hk : k ≤ 62) (W : World) : Calls Tryz.prog 9 #[.int .i64 (IntKind.i64.wrap ((2 : Int) ^ k))] W (RNum false (2 ^ k) 1 W) := by
  have h2 := two_pow_lt hk
  obtain ⟨q, hq⟩ : ∃ q, 2 ^ k = q := ⟨_, rfl⟩
  have e : (2 : Int) ^ k = (q : Int) := by rw [← hq]; push_cast; rfl
  rw [hq] at h2 ⊢
  rw [e, IntWalk.i64_in (q : Int) ⟨by omega, by omega⟩]
  have h := rint_any (q : Int) W (by omega) (by omega)
  rw [decide_eq_false (by omega), Int.natAbs_natCast] at h
  exact h
theorem r_mul {m d k : Nat} (hk : k ≤ 62) (l1 : (Mth.dg 10000 m).length ≤ 100000) (l2 : (Mth.dg 10000 d).length ≤ 100000) (hd : 0 < d) (W : World) (x1 y1 x2 y2 : Value) (a1 : Pt W x1 m) (a2 : Pt W y1 d) (a3 : Pt W x2 (2 ^ k)) (a4 : Pt W y2 1) :
    Calls Tryz.prog 14 #[.agg #[.bool false, x1, y1], .agg #[.bool false, x2, y2]] W (RNum false (mtN m d k) (mtD m d k) W) := by
  have h := rnmul_any false false m d (2 ^ k) 1 x1 y1 x2 y2 W a1 a2 a3 a4 (Nat.le_trans l1 (by omega)) (Nat.le_trans l2 (by omega)) (Nat.le_trans (two_len (b := 10000) (by omega) hk) (by omega)) (Nat.le_trans (Mth.dg_len_le (b := 10000) (by omega) 1 _ (by omega)) (by omega)) (by omega)
  have e : rneg (!(false == false)) (m * 2 ^ k) = false := rneg_f _
  rw [e] at h
  exact h
theorem r_near {m d k : Nat} (hk : k ≤ 62) (l1 : (Mth.dg 10000 m).length ≤ 100000) (l2 : (Mth.dg 10000 d).length ≤ 100000) (hd : 0 < d) (W : World) (x1 y1 : Value) (a1 : Pt W x1 (mtN m d k)) (a2 : Pt W y1 (mtD m d k)) :
    Calls Tryz.prog 37 #[.agg #[.bool false, x1, y1]] W (RNum false (mtV m d k) 1 W) := by
  have h := rnnear_any false (mtN m d k) (mtD m d k) x1 y1 W a1 a2 (Nat.le_trans (mtN_len (by omega) l1 hk) (by omega)) (Nat.le_trans (mtD_len (by omega) l2 hd) (by omega)) (mtD_pos hd)
  rw [neS_false] at h
  exact h

set_option maxHeartbeats 8000000 in
set_option maxRecDepth 100000 in
theorem mult_walk (N1 D1 : ByteArray) (m d : Nat) (R1 R2 R3 : Int) (w : World) (l1 : (Mth.dg 1000000000 m).length ≤ 100000) (l2 : (Mth.dg 1000000000 d).length ≤ 100000) (hd : 0 < d) (hm : m ≠ 0) (hR : mltP m d 62 = (R1, R2, R3))
    (HC1 : Hid (∀ W, Calls Tryz.prog 47 #[.agg #[.string N1, .string D1]] W fun e w' => e = .returned (.int .i64 0) ∧ Below W.heap.size W w'))
    (HO1 : Hid (∀ W, Calls Tryz.prog 62 #[.agg #[.string N1, .string D1]] W (FNum false m d W))) :
    Calls Tryz.prog 27 #[.agg #[.string N1, .string D1]] w fun e w' => e = .returned (.tuple #[.int .i64 R1, .int .i64 R2, .int .i64 R3]) ∧ Below w.heap.size w w' := by
  obtain ⟨W, hW⟩ : ∃ W, W = w.alloc (.cells #[.string N1, .string D1] 27) := ⟨_, rfl⟩
  have hBW : Below w.heap.size w W := by rw [hW]; exact (Below.refl _ w).alloc (Nat.le_refl _) _
  have hk0 : Blk W w.heap.size 27 #[.string N1, .string D1] := by rw [hW]; exact Blk.new w _ _
  have HK0 := Lib.hid hk0
  have HBW := Lib.hid hBW
  have HW := Lib.hid hW
  have HR := Lib.hid hR
  have hsg := fun W x y (a1 : Nt W x m) (a2 : Nt W y d) => fsign_any false m d x y W a1 a2 (by omega)
  have hsv : sgn false m = 1 := by rw [sgn_pos hm]; rfl
  rw [hsv] at hsg
  have HSG := Lib.hid hsg
  clear hBW hW hk0 hR hsg hsv hm
  go_enter Tryz.func27, Tryz.ntmps27
  go_wp2_with fail
  rw [← HW.out]
  refine (HC1.out _).mono ?_
  rintro e w1 ⟨rfl, hB1⟩
  have HB1 := Lib.hid hB1
  have e0 := (HK0.out.low hB1).cell 0
  have e1 := (HK0.out.low hB1).cell 1
  simp only [List.getElem?_toArray, List.getElem?_cons_zero, List.getElem?_cons_succ] at e0 e1
  clear hB1
  go_wp2_with fail
  refine (HO1.out _).mono ?_
  rintro e w2 ⟨x, y, rfl, hN1, hN2, hB2⟩
  have HN1 := Lib.hid hN1
  have HN2 := Lib.hid hN2
  have HB2 := Lib.hid (HB1.out.trans (hB2.mono HB1.out.size))
  obtain ⟨A1, n1, k1, rfl⟩ := hN1.shape
  obtain ⟨A2, n2, k2, rfl⟩ := hN2.shape
  obtain ⟨W3, hW3⟩ : ∃ W3, W3 = w2.alloc (.cells #[.bool false, .slice A1 n1 k1, .slice A2 n2 k2] 78) := ⟨_, rfl⟩
  have hkx : Blk W3 w2.heap.size 78 #[.bool false, .slice A1 n1 k1, .slice A2 n2 k2] := by rw [hW3]; exact Blk.new w2 _ _
  have hb3 : Below W.heap.size W W3 := by rw [hW3]; exact HB2.out.alloc HB2.out.size _
  have HX1 : Hid (Nt W3 (.slice A1 n1 k1) m) := Lib.hid (by rw [hW3]; exact Sl.alloc HN1.out _)
  have HX2 : Hid (Nt W3 (.slice A2 n2 k2) d) := Lib.hid (by rw [hW3]; exact Sl.alloc HN2.out _)
  have HB3 := Lib.hid hb3
  have HW3 := Lib.hid hW3
  obtain ⟨p, hp⟩ : ∃ p, w2.heap.size = p := ⟨_, rfl⟩
  rw [hp] at hkx
  have HSX : Hid (∀ w', Below W3.heap.size W3 w' → w'.cell? ⟨p, 0, none⟩ = some (.bool false) ∧ w'.cell? ⟨p, 1, none⟩ = some (.slice A1 n1 k1) ∧ w'.cell? ⟨p, 2, none⟩ = some (.slice A2 n2 k2)) := Lib.hid fun w' hb =>
    ⟨(hkx.low hb).cell 0, (hkx.low hb).cell 1, (hkx.low hb).cell 2⟩
  obtain ⟨r0, r1, r2⟩ := HSX.out W3 (Below.refl _ _)
  rw [hW3] at r0 r1 r2
  clear hN1 hN2 hB2 e0 e1 hkx hb3 hW3
  go_wp2_with fail
  rw [← HW3.out]
  clear r0 r1 r2
  refine (HSG.out _ _ _ HX1.out HX2.out).mono ?_
  rintro e w4 ⟨rfl, hB4⟩
  have HB4 := Lib.hid hB4
  clear hB4
  clear hp
  go_wp2
  go_loopw [7] (fun a7 wr => ∃ k : Nat, a7 = .int .i64 k ∧ k ≤ 62 ∧ mltP m d k = (R1, R2, R3) ∧ Below W3.heap.size W3 wr) (fun a7 _ => (intOf a7).toNat)
  case atStart => exact ⟨62, rfl, by omega, HR.out, HB4.out⟩
  case round =>
    obtain ⟨k, rfl, hk, hrk, hbr⟩ := hrel
    have HBR := Lib.hid hbr
    have HRK := Lib.hid hrk
    obtain ⟨r0, r1, r2⟩ := HSX.out wr hbr
    clear hbr hrk
    by_cases hk0 : 1 ≤ k
    · have hk1 : (1 : Int) ≤ (k : Int) := by omega
      have HXA := Lib.hid (HX1.out.below HBR.out)
      have HXB := Lib.hid (HX2.out.below HBR.out)
      have HI := Lib.hid (f_int k hk)
      have HM := Lib.hid (fun W x1 y1 x2 y2 a1 a2 a3 a4 => f_mul hk l1 l2 hd W x1 y1 x2 y2 a1 a2 a3 a4)
      have HNR := Lib.hid (fun W x1 y1 a1 a2 => f_near hk l1 l2 hd W x1 y1 a1 a2)
      have hk2 : (0 : Int) ≤ (k : Int) := by omega
      have hk3 : (k : Int) ≤ 62 := by omega
      go_wp2_with fail
      go_region_held3 (fun w' => w'.cell? ⟨p, 0, none⟩ = some (.bool false) ∧ w'.cell? ⟨p, 1, none⟩ = some (.slice A1 n1 k1) ∧ w'.cell? ⟨p, 2, none⟩ = some (.slice A2 n2 k2))
        (first | exact ⟨r0, r1, r2⟩ | go_keep)
        (first
          | (go_at_call 65; refine (HI.out _).mono ?_; rintro e w5 ⟨v1, v2, rfl, hV1, hV2, hB5⟩; have HV1 := Lib.hid hV1; have HV2 := Lib.hid hV2; have HC5 : Hid (Below wr.heap.size wr w5) := Lib.hid ((Below.refl _ wr).drew.trans hB5); clear hV1 hV2 hB5 r0 r1 r2; obtain ⟨r0, r1, r2⟩ := HSX.out w5 (HBR.out.trans (HC5.out.mono HBR.out.size)))
          | (go_at_call 45; refine (HM.out _ _ _ _ _ (HXA.out.below HC5.out) (HXB.out.below HC5.out) HV1.out HV2.out).mono ?_; rintro e w6 ⟨v3, v4, rfl, hV3, hV4, hB6⟩; have HV3 := Lib.hid hV3; have HV4 := Lib.hid hV4; have HC6 : Hid (Below wr.heap.size wr w6) := Lib.hid (HC5.out.trans (hB6.mono HC5.out.size)); clear hV3 hV4 hB6 r0 r1 r2; obtain ⟨r0, r1, r2⟩ := HSX.out w6 (HBR.out.trans (HC6.out.mono HBR.out.size)))
          | (go_at_call 64; refine (HNR.out _ _ _ HV3.out HV4.out).mono ?_; rintro e w7 ⟨v5, v6, rfl, hV5, hV6, hB7⟩; have HSM := Lib.hid (fsmall_any false (mtV m d k) 1 v5 v6 w7 hV5 hV6 (Nat.le_trans (Mth.dg_len_le (b := 1000000000) (by omega) 1 _ (by omega)) (by omega))); have HC7 : Hid (Below wr.heap.size wr w7) := Lib.hid (HC6.out.trans (hB7.mono HC6.out.size)); clear hV5 hV6 hB7 r0 r1 r2; obtain ⟨r0, r1, r2⟩ := HSX.out w7 (HBR.out.trans (HC7.out.mono HBR.out.size)))
          | (go_at_call 66; refine HSM.out.mono ?_; rintro e w8 ⟨rfl, hB8⟩; have HC8 : Hid (Below wr.heap.size wr w8) := Lib.hid (HC7.out.trans (hB8.mono HC7.out.size)); clear hB8 r0 r1 r2; obtain ⟨r0, r1, r2⟩ := HSX.out w8 (HBR.out.trans (HC8.out.mono HBR.out.size))))
      clear r0 r1 r2
      obtain ⟨q, rfl⟩ : ∃ q, k = q + 1 := ⟨k - 1, by omega⟩
      have hrk := HRK.out
      unfold mltP at hrk
      obtain ⟨V, hV⟩ : ∃ V, mtV m d (q + 1) = V := ⟨_, rfl⟩
      rw [hV] at hrk ⊢
      have HB8 : Hid (Below W3.heap.size W3 w8) := Lib.hid (HBR.out.trans (HC8.out.mono HBR.out.size))
      have HRQ := Lib.hid hrk
      clear hrk HSM HRK HI HM HNR hV
      by_cases hle : V ≤ 2147483647
      · have hsb : fsB V 1 = true := by unfold fsB smB; rw [decide_eq_true (show V < 4611686018000000000 by omega)]; rfl
        have hsv : fsV false V 1 = (V : Int) := by unfold fsV; rw [if_pos hsb]; rfl
        rw [hsb, hsv]
        have hgt : decide ((2147483647 : Int) < (V : Int)) = false := by rw [decide_eq_false]; omega
        have hrv := HRQ.out
        rw [if_pos hle] at hrv
        by_cases hv0 : V = 0
        · rw [if_pos hv0] at hrv
          injection hrv with q1 q2
          injection q2 with q2 q3
          subst q1
          subst q2
          subst q3
          subst hv0
          clear hsb hsv hgt hle
          go_wp2
          refine bodyPost_ret (v := .tuple #[.int .i64 0, .int .i64 0, .int .i64 22]) (by simp [results, Tryz.results27, go_sem]) rfl ?_
          exact ⟨rfl, HBW.out.trans ((HB3.out.trans (HB8.out.mono HB3.out.size)).mono HBW.out.size)⟩
        · rw [if_neg hv0] at hrv
          injection hrv with q1 q2
          injection q2 with q2 q3
          subst q1
          subst q2
          subst q3
          have hv1 : ((V : Int) == 0) = false := by simp; omega
          clear hsb hsv hle
          go_wp2
          refine bodyPost_ret (v := .tuple #[.int .i64 (V : Nat), .int .i64 ((q + 1 : Nat) : Int), .int .i64 0]) (by simp [results, Tryz.results27, go_sem]) rfl ?_
          exact ⟨rfl, HBW.out.trans ((HB3.out.trans (HB8.out.mono HB3.out.size)).mono HBW.out.size)⟩
      · have hrv := HRQ.out
        rw [if_neg hle] at hrv
        obtain ⟨fv, hfv⟩ : ∃ fv, fsV false V 1 = fv := ⟨_, rfl⟩
        obtain ⟨fb, hfb⟩ : ∃ fb, fsB V 1 = fb := ⟨_, rfl⟩
        have hcont : fb = true → (2147483647 : Int) < fv := by
          intro h
          rw [← hfv]
          unfold fsV
          rw [hfb, if_pos h]
          show (2147483647 : Int) < (V : Int)
          omega
        rw [hfv, hfb]
        have HRV := Lib.hid hrv
        clear hfv hfb hrv hle HRQ
        cases fb with
        | true =>
          have hgt := hcont rfl
          clear hcont
          go_wp2
          exact ⟨⟨q, rfl, by omega, HRV.out, HB8.out⟩, by simp [intOf]⟩
        | false =>
          clear hcont
          go_wp2
          exact ⟨⟨q, rfl, by omega, HRV.out, HB8.out⟩, by simp [intOf]⟩
    · have hk00 : k = 0 := by omega
      have hrk := HRK.out
      rw [hk00] at hrk
      unfold mltP at hrk
      injection hrk with q1 q2
      injection q2 with q2 q3
      subst q1
      subst q2
      subst q3
      have hk1 : ¬ ((1 : Int) ≤ (k : Int)) := by omega
      clear HRK hk00
      go_wp2
      refine bodyPost_ret (v := .tuple #[.int .i64 0, .int .i64 0, .int .i64 22]) (by simp [results, Tryz.results27, go_sem]) rfl ?_
      exact ⟨rfl, HBW.out.trans ((HB3.out.trans (HBR.out.mono HB3.out.size)).mono HBW.out.size)⟩

set_option maxHeartbeats 4000000 in
set_option maxRecDepth 100000 in
theorem mult_low (N1 D1 : ByteArray) (g : Bool) (m d : Nat) (w : World) (l1 : (Mth.dg 1000000000 m).length ≤ 100000) (hs : sgn g m ≤ 0)
    (HC1 : Hid (∀ W, Calls Tryz.prog 47 #[.agg #[.string N1, .string D1]] W fun e w' => e = .returned (.int .i64 0) ∧ Below W.heap.size W w'))
    (HO1 : Hid (∀ W, Calls Tryz.prog 62 #[.agg #[.string N1, .string D1]] W (FNum g m d W))) :
    Calls Tryz.prog 27 #[.agg #[.string N1, .string D1]] w fun e w' => e = .returned (.tuple #[.int .i64 0, .int .i64 0, .int .i64 1]) ∧ Below w.heap.size w w' := by
  obtain ⟨W, hW⟩ : ∃ W, W = w.alloc (.cells #[.string N1, .string D1] 27) := ⟨_, rfl⟩
  have hBW : Below w.heap.size w W := by rw [hW]; exact (Below.refl _ w).alloc (Nat.le_refl _) _
  have hk0 : Blk W w.heap.size 27 #[.string N1, .string D1] := by rw [hW]; exact Blk.new w _ _
  have HK0 := Lib.hid hk0
  have HBW := Lib.hid hBW
  have HW := Lib.hid hW
  have hsg := fun W x y (a1 : Nt W x m) (a2 : Nt W y d) => fsign_any g m d x y W a1 a2 (by omega)
  obtain ⟨s, hsv⟩ : ∃ s, sgn g m = s := ⟨_, rfl⟩
  rw [hsv] at hsg hs
  have HSG := Lib.hid hsg
  have hs2 : decide (s ≤ 0) = true := by simpa using hs
  clear hBW hW hk0 hsg hsv
  go_enter Tryz.func27, Tryz.ntmps27
  go_wp2_with fail
  rw [← HW.out]
  refine (HC1.out _).mono ?_
  rintro e w1 ⟨rfl, hB1⟩
  have HB1 := Lib.hid hB1
  have e0 := (HK0.out.low hB1).cell 0
  have e1 := (HK0.out.low hB1).cell 1
  simp only [List.getElem?_toArray, List.getElem?_cons_zero, List.getElem?_cons_succ] at e0 e1
  clear hB1
  go_wp2_with fail
  refine (HO1.out _).mono ?_
  rintro e w2 ⟨x, y, rfl, hN1, hN2, hB2⟩
  have HN1 := Lib.hid hN1
  have HN2 := Lib.hid hN2
  have HB2 := Lib.hid (HB1.out.trans (hB2.mono HB1.out.size))
  obtain ⟨A1, n1, k1, rfl⟩ := hN1.shape
  obtain ⟨A2, n2, k2, rfl⟩ := hN2.shape
  obtain ⟨W3, hW3⟩ : ∃ W3, W3 = w2.alloc (.cells #[.bool g, .slice A1 n1 k1, .slice A2 n2 k2] 78) := ⟨_, rfl⟩
  have hb3 : Below W.heap.size W W3 := by rw [hW3]; exact HB2.out.alloc HB2.out.size _
  have HX1 : Hid (Nt W3 (.slice A1 n1 k1) m) := Lib.hid (by rw [hW3]; exact Sl.alloc HN1.out _)
  have HX2 : Hid (Nt W3 (.slice A2 n2 k2) d) := Lib.hid (by rw [hW3]; exact Sl.alloc HN2.out _)
  have HB3 := Lib.hid hb3
  have HW3 := Lib.hid hW3
  clear hN1 hN2 hB2 e0 e1 hb3 hW3
  go_wp2_with fail
  rw [← HW3.out]
  refine (HSG.out _ _ _ HX1.out HX2.out).mono ?_
  rintro e w4 ⟨rfl, hB4⟩
  have HB4 := Lib.hid (HB3.out.trans (hB4.mono HB3.out.size))
  clear hB4
  go_wp2
  refine bodyPost_ret (v := .tuple #[.int .i64 0, .int .i64 0, .int .i64 1]) (by simp [results, Tryz.results27, go_sem]) rfl ?_
  exact ⟨rfl, HBW.out.trans (HB4.out.mono HBW.out.size)⟩
set_option maxHeartbeats 4000000 in
set_option maxRecDepth 100000 in
theorem mult_bad (N1 D1 : ByteArray) (K : Int) (w : World) (hK : K ≠ 0)
    (HC1 : Hid (∀ W, Calls Tryz.prog 47 #[.agg #[.string N1, .string D1]] W fun e w' => e = .returned (.int .i64 K) ∧ Below W.heap.size W w')) :
    Calls Tryz.prog 27 #[.agg #[.string N1, .string D1]] w fun e w' => e = .returned (.tuple #[.int .i64 0, .int .i64 0, .int .i64 K]) ∧ Below w.heap.size w w' := by
  obtain ⟨W, hW⟩ : ∃ W, W = w.alloc (.cells #[.string N1, .string D1] 27) := ⟨_, rfl⟩
  have hBW : Below w.heap.size w W := by rw [hW]; exact (Below.refl _ w).alloc (Nat.le_refl _) _
  have HBW := Lib.hid hBW
  have HW := Lib.hid hW
  have hK0 : (K != 0) = true := by simpa using hK
  clear hBW hW hK
  go_enter Tryz.func27, Tryz.ntmps27
  go_wp2_with fail
  rw [← HW.out]
  refine (HC1.out _).mono ?_
  rintro e w1 ⟨rfl, hB1⟩
  have HB1 := Lib.hid hB1
  clear hB1
  go_wp2
  refine bodyPost_ret (v := .tuple #[.int .i64 0, .int .i64 0, .int .i64 K]) (by simp [results, Tryz.results27, go_sem]) rfl ?_
  exact ⟨rfl, HBW.out.trans (HB1.out.mono HBW.out.size)⟩

set_option maxHeartbeats 8000000 in
set_option maxRecDepth 100000 in
theorem rmult_any (m d : Nat) (x y : Value) (R1 R2 : Int) (R3 : Bool) (w : World) (h1 : Pt w x m) (h2 : Pt w y d) (l1 : (Mth.dg 10000 m).length ≤ 100000) (l2 : (Mth.dg 10000 d).length ≤ 100000) (hd : 0 < d) (hR : mltR m d 62 = (R1, R2, R3)) (htab : Tabs w) (herr : ErrV w) :
    Calls Tryz.prog 28 #[.agg #[.bool false, x, y], .int .i64 2147483647, .int .i64 62] w fun e w' => e = .returned (.tuple #[.int .i64 R1, .int .i64 R2, .bool R3]) ∧ Below w.heap.size w w' := by
  obtain ⟨A1, n1, k1, rfl⟩ := h1.shape
  obtain ⟨A2, n2, k2, rfl⟩ := h2.shape
  obtain ⟨W, hW⟩ : ∃ W, W = w.alloc (.cells #[.bool false, .slice A1 n1 k1, .slice A2 n2 k2] 33) := ⟨_, rfl⟩
  have hBW : Below w.heap.size w W := by rw [hW]; exact (Below.refl _ w).alloc (Nat.le_refl _) _
  have hk0 : Blk W w.heap.size 33 #[.bool false, .slice A1 n1 k1, .slice A2 n2 k2] := by rw [hW]; exact Blk.new w _ _
  have HSX : Hid (∀ w', Below W.heap.size W w' → w'.cell? ⟨w.heap.size, 0, none⟩ = some (.bool false) ∧ w'.cell? ⟨w.heap.size, 1, none⟩ = some (.slice A1 n1 k1) ∧ w'.cell? ⟨w.heap.size, 2, none⟩ = some (.slice A2 n2 k2)) := Lib.hid fun w' hb =>
    ⟨(hk0.low hb).cell 0, (hk0.low hb).cell 1, (hk0.low hb).cell 2⟩
  have HX1 := Lib.hid (h1.below hBW)
  have HX2 := Lib.hid (h2.below hBW)
  have HT : Hid (∀ W', Below W.heap.size W W' → Tabs W' ∧ ErrV W') := Lib.hid fun W' hb => ⟨htab.low (hBW.trans (hb.mono hBW.size)), herr.low (hBW.trans (hb.mono hBW.size))⟩
  have HBW := Lib.hid hBW
  have HW := Lib.hid hW
  have HR := Lib.hid hR
  clear hBW hW hk0 hR h1 h2 htab herr
  go_enter Tryz.func28, Tryz.ntmps28
  go_wp2
  rw [← HW.out]
  go_loopw [9] (fun a9 wr => ∃ k : Nat, a9 = .int .i64 k ∧ k ≤ 62 ∧ mltR m d k = (R1, R2, R3) ∧ Below W.heap.size W wr) (fun a9 _ => (intOf a9).toNat)
  case atStart => exact ⟨62, rfl, by omega, HR.out, Below.refl _ _⟩
  case round =>
    obtain ⟨k, rfl, hk, hrk, hbr⟩ := hrel
    have HBR := Lib.hid hbr
    have HRK := Lib.hid hrk
    obtain ⟨r0, r1, r2⟩ := HSX.out wr hbr
    clear hbr hrk
    by_cases hk0 : 1 ≤ k
    · have hk1 : (1 : Int) ≤ (k : Int) := by omega
      have HXA := Lib.hid (HX1.out.below HBR.out)
      have HXB := Lib.hid (HX2.out.below HBR.out)
      have HI := Lib.hid (r_int k hk)
      have HM := Lib.hid (fun W x1 y1 x2 y2 a1 a2 a3 a4 => r_mul hk l1 l2 hd W x1 y1 x2 y2 a1 a2 a3 a4)
      have HNR := Lib.hid (fun W x1 y1 a1 a2 => r_near hk l1 l2 hd W x1 y1 a1 a2)
      have HVL := Lib.hid (mtV_len (b := 10000) (k := k) (by omega) l1 l2 hd hk)
      have hk2 : (0 : Int) ≤ (k : Int) := by omega
      have hk3 : (k : Int) ≤ 62 := by omega
      go_wp2_with fail
      go_region_held3 (fun w' => w'.cell? ⟨w.heap.size, 0, none⟩ = some (.bool false) ∧ w'.cell? ⟨w.heap.size, 1, none⟩ = some (.slice A1 n1 k1) ∧ w'.cell? ⟨w.heap.size, 2, none⟩ = some (.slice A2 n2 k2))
        (first | exact ⟨r0, r1, r2⟩ | go_keep)
        (first
          | (go_at_call 9; refine (HI.out _).mono ?_; rintro e w5 ⟨v1, v2, rfl, hV1, hV2, hB5⟩; have HV1 := Lib.hid hV1; have HV2 := Lib.hid hV2; have HC5 : Hid (Below wr.heap.size wr w5) := Lib.hid ((Below.refl _ wr).drew.trans hB5); clear hV1 hV2 hB5 r0 r1 r2; obtain ⟨r0, r1, r2⟩ := HSX.out w5 (HBR.out.trans (HC5.out.mono HBR.out.size)))
          | (go_at_call 14; refine (HM.out _ _ _ _ _ (HXA.out.below HC5.out) (HXB.out.below HC5.out) HV1.out HV2.out).mono ?_; rintro e w6 ⟨v3, v4, rfl, hV3, hV4, hB6⟩; have HV3 := Lib.hid hV3; have HV4 := Lib.hid hV4; have HC6 : Hid (Below wr.heap.size wr w6) := Lib.hid (HC5.out.trans (hB6.mono HC5.out.size)); clear hV3 hV4 hB6 r0 r1 r2; obtain ⟨r0, r1, r2⟩ := HSX.out w6 (HBR.out.trans (HC6.out.mono HBR.out.size)))
          | (go_at_call 37; refine (HNR.out _ _ _ HV3.out HV4.out).mono ?_; rintro e w7 ⟨v5, v6, rfl, hV5, hV6, hB7⟩; have HC7 : Hid (Below wr.heap.size wr w7) := Lib.hid (HC6.out.trans (hB7.mono HC6.out.size)); have hbw7 := HBR.out.trans (HC7.out.mono HBR.out.size); have HSM := Lib.hid (rwhole_any false (mtV m d k) 1 v5 v6 w7 hV5 hV6 (Nat.le_trans HVL.out (by omega)) (HT.out _ hbw7).1 (HT.out _ hbw7).2); clear hV5 hV6 hB7 r0 r1 r2 hbw7; obtain ⟨r0, r1, r2⟩ := HSX.out w7 (HBR.out.trans (HC7.out.mono HBR.out.size)))
          | (go_at_call 35; refine HSM.out.mono ?_; rintro e w8 ⟨rfl, hB8⟩; have HC8 : Hid (Below wr.heap.size wr w8) := Lib.hid (HC7.out.trans (hB8.mono HC7.out.size)); clear hB8 r0 r1 r2; obtain ⟨r0, r1, r2⟩ := HSX.out w8 (HBR.out.trans (HC8.out.mono HBR.out.size))))
      clear r0 r1 r2
      obtain ⟨q, rfl⟩ : ∃ q, k = q + 1 := ⟨k - 1, by omega⟩
      have hrk := HRK.out
      unfold mltR at hrk
      obtain ⟨V, hV⟩ : ∃ V, mtV m d (q + 1) = V := ⟨_, rfl⟩
      rw [hV] at hrk ⊢
      have HB8 : Hid (Below W.heap.size W w8) := Lib.hid (HBR.out.trans (HC8.out.mono HBR.out.size))
      have HRQ := Lib.hid hrk
      clear hrk HSM HRK HI HM HNR hV HVL
      by_cases hle : V ≤ 2147483647
      · have hsb : whB V 1 = true := by unfold whB; rw [decide_eq_true]; exact ⟨Mth.dec_len_word (k := 18) (by omega) (by omega), rfl⟩
        have hsv : whV false V 1 = (V : Int) := by unfold whV; rw [if_pos hsb]; rfl
        rw [hsb, hsv]
        have hgt : decide ((V : Int) ≤ 2147483647) = true := by rw [decide_eq_true]; omega
        have hrv := HRQ.out
        rw [if_pos hle] at hrv
        injection hrv with q1 q2
        injection q2 with q2 q3
        subst q1
        subst q2
        subst q3
        have hgt2 : (V : Int) ≤ 2147483647 := by omega
        clear hsb hsv hle
        go_wp2
        refine bodyPost_ret (v := .tuple #[.int .i64 (V : Nat), .int .i64 ((q + 1 : Nat) : Int), .bool true]) (by simp [results, Tryz.results28, go_sem]) rfl ?_
        exact ⟨rfl, HBW.out.trans (HB8.out.mono HBW.out.size)⟩
      · have hrv := HRQ.out
        rw [if_neg hle] at hrv
        obtain ⟨fv, hfv⟩ : ∃ fv, whV false V 1 = fv := ⟨_, rfl⟩
        obtain ⟨fb, hfb⟩ : ∃ fb, whB V 1 = fb := ⟨_, rfl⟩
        have hcont : fb = true → ¬ fv ≤ (2147483647 : Int) := by
          intro h
          rw [← hfv]
          unfold whV
          rw [hfb, if_pos h]
          show ¬ (V : Int) ≤ 2147483647
          omega
        rw [hfv, hfb]
        have HRV := Lib.hid hrv
        clear hfv hfb hrv hle HRQ
        cases fb with
        | true =>
          have hgt := hcont rfl
          have hgt2 : decide (fv ≤ 2147483647) = false := by simpa using hgt
          clear hcont
          go_wp2
          exact ⟨⟨q, rfl, by omega, HRV.out, HB8.out⟩, by simp [intOf]⟩
        | false =>
          clear hcont
          go_wp2
          exact ⟨⟨q, rfl, by omega, HRV.out, HB8.out⟩, by simp [intOf]⟩
    · have hk00 : k = 0 := by omega
      have hrk := HRK.out
      rw [hk00] at hrk
      unfold mltR at hrk
      injection hrk with q1 q2
      injection q2 with q2 q3
      subst q1
      subst q2
      subst q3
      have hk1 : ¬ ((1 : Int) ≤ (k : Int)) := by omega
      clear HRK hk00
      go_wp2
      refine bodyPost_ret (v := .tuple #[.int .i64 0, .int .i64 0, .bool false]) (by simp [results, Tryz.results28, go_sem]) rfl ?_
      exact ⟨rfl, HBW.out.trans (HBR.out.mono HBW.out.size)⟩

/-- num.Multiplier: what it answers where the number is valid -/
def mlN (g : Bool) (m d : Nat) : Int × Int × Int := if sgn g m ≤ 0 then (0, 0, 1) else mltP m d 62
theorem numMult_any (N1 D1 : List UInt8) (K R1 R2 R3 : Int) (w : World) (l1 : N1.length ≤ 100000) (l2 : D1.length ≤ 100000) (hK : chkOf N1 D1 = K) (hR : (if K = 0 then mlN (negNum N1) (pN N1) (Mth.dv D1) else (0, 0, K)) = (R1, R2, R3)) :
    Calls Tryz.prog 27 #[.agg #[.string ⟨N1.toArray⟩, .string ⟨D1.toArray⟩]] w fun e w' => e = .returned (.tuple #[.int .i64 R1, .int .i64 R2, .int .i64 R3]) ∧ Below w.heap.size w w' := by
  have hc1 := fun W => numCheck_any N1 D1 W (by omega) (by omega)
  rw [hK] at hc1
  by_cases v1 : K = 0
  · subst v1
    rw [if_pos rfl] at hR
    obtain ⟨a1, a2, a3⟩ := valid_of hK
    have c1 : (Mth.dg 1000000000 (pN N1)).length ≤ 100000 := dv_len (b := 1000000000) (k := 100000) (by omega) a1 (Nat.le_trans (cut_len N1) l1)
    have c2 := dv_len (b := 1000000000) (k := 100000) (by omega) a2 l2
    have hof := fun W => fof_any N1 D1 W (by omega) (by omega) a1 a2
    unfold mlN at hR
    by_cases hs : sgn (negNum N1) (pN N1) ≤ 0
    · rw [if_pos hs] at hR
      injection hR with q1 q2
      injection q2 with q2 q3
      subst q1
      subst q2
      subst q3
      exact mult_low _ _ (negNum N1) (pN N1) (Mth.dv D1) w c1 hs (Lib.hid hc1) (Lib.hid hof)
    · rw [if_neg hs] at hR
      have hm : pN N1 ≠ 0 := fun e => hs (by rw [e, sgn_zero]; decide)
      have hg : negNum N1 = false := by
        cases hh : negNum N1 with
        | false => rfl
        | true => exact absurd (by rw [hh, sgn_pos hm]; decide) hs
      have hof2 : ∀ W, Calls Tryz.prog 62 #[.agg #[.string ⟨N1.toArray⟩, .string ⟨D1.toArray⟩]] W (FNum false (pN N1) (Mth.dv D1) W) := fun W => by have := hof W; rw [hg] at this; exact this
      exact mult_walk _ _ (pN N1) (Mth.dv D1) R1 R2 R3 w c1 c2 a3 hm hR (Lib.hid hc1) (Lib.hid hof2)
  · rw [if_neg v1] at hR
    injection hR with q1 q2
    injection q2 with q2 q3
    subst q1
    subst q2
    subst q3
    exact mult_bad _ _ K w v1 (Lib.hid hc1)
end Go.Proofs.YtaibpeokfbokfaaGreatDoor
