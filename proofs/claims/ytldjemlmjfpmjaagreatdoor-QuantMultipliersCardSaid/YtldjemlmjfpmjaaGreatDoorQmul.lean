/-
  quant.nearest, quant.Multiplier, and the reference Multiplied with any bound.
-/
import Derived.Test.YtldjemlmjfpmjaaGreatDoorNear
import Derived.Test.YtldjemlmjfpmjaaGreatDoorSmall
import Derived.Test.YtldjemlmjfpmjaaGreatDoorRNumMul
import Derived.Test.YtldjemlmjfpmjaaGreatDoorVal
import Derived.Deep.RegionHeld3
import Derived.Outline
import Derived.Test.YtldjemlmjfpmjaaGreatDoorGt
import Derived.Deep.DeepCutAuto
namespace Go.Proofs.YtldjemlmjfpmjaaGreatDoor
open Go.RowKit Go.Shelf

/-- a positive number times a power of two: the parts, and the nearest whole number -/
def mtN (m d k : Nat) : Nat := rnum (m * 2 ^ k) (d * 1)
def mtD (m d k : Nat) : Nat := rden (m * 2 ^ k) (d * 1)
def mtV (m d k : Nat) : Nat := neM false (mtN m d k) (mtD m d k)
/-- Multiplied from a shift down -/
def mltR (M m d : Nat) : Nat → Int × Int × Bool
  | 0 => (0, 0, false)
  | k + 1 => if mtV m d (k + 1) ≤ M then ((mtV m d (k + 1) : Nat), ((k + 1 : Nat) : Int), true) else mltR M m d k
theorem rneg_f (m : Nat) : rneg false m = false := by unfold rneg; split <;> rfl
theorem hfS_false (m d : Nat) : hfS false m d = false := by unfold hfS addS; rw [if_pos rfl]; exact rneg_f _
theorem neS_false (m d : Nat) : neS false m d = false := by unfold neS; rw [hfS_false]; exact rneg_f _
theorem two_len {b : Nat} (hb : 10 ≤ b) {k : Nat} (hk : k ≤ 62) : (Mth.dg b (2 ^ k)).length ≤ 20 := by
  refine Mth.dg_len_le (by omega) 20 _ ?_
  have h1 : 2 ^ k ≤ 2 ^ 62 := Nat.pow_le_pow_right (by omega) hk
  have h2 : (10 : Nat) ^ 20 ≤ b ^ 20 := Nat.pow_le_pow_left hb 20
  have h3 : (2 : Nat) ^ 62 < 10 ^ 20 := by decide
  omega
theorem mtN_len {b : Nat} (hb : 10 ≤ b) {m d k : Nat} (h1 : (Mth.dg b m).length ≤ 100000) (hk : k ≤ 62) : (Mth.dg b (mtN m d k)).length ≤ 200000 := by
  have h2 := two_len hb hk
  exact Nat.le_trans (Mth.dg_len_mono (by omega) (rnum_le _ _)) (Nat.le_trans (Mth.dg_len_mul (by omega) _ _) (by omega))
theorem mtD_len {b : Nat} (hb : 10 ≤ b) {m d k : Nat} (h2 : (Mth.dg b d).length ≤ 100000) (hd : 0 < d) : (Mth.dg b (mtD m d k)).length ≤ 200000 :=
  Nat.le_trans (Mth.dg_len_mono (by omega) (rden_le (by omega))) (by rw [Nat.mul_one]; omega)
theorem mtD_pos {m d k : Nat} (hd : 0 < d) : 0 < mtD m d k := rden_pos (by omega)
theorem mtV_len {b : Nat} (hb : 10 ≤ b) {m d k : Nat} (h1 : (Mth.dg b m).length ≤ 100000) (h2 : (Mth.dg b d).length ≤ 100000) (hd : 0 < d) (hk : k ≤ 62) : (Mth.dg b (mtV m d k)).length ≤ 300000 :=
  Nat.le_trans (neM_len hb false (mtN_len hb h1 hk) (mtD_len hb h2 hd)) (by omega)
theorem two_pow_lt {k : Nat} (hk : k ≤ 62) : (2 : Nat) ^ k ≤ 4611686018427387904 := by
  have h1 : 2 ^ k ≤ 2 ^ 62 := Nat.pow_le_pow_right (by omega) hk
  have h3 : (2 : Nat) ^ 62 = 4611686018427387904 := by decide
  omega
theorem f_int (k : Nat) (hk : k ≤ 62) (W : World) : Calls Tryz.prog 107 #[.int .i64 (IntKind.i64.wrap ((2 : Int) ^ k))] W (FNum false (2 ^ k) 1 W) := by
  have h2 := two_pow_lt hk
  obtain ⟨q, hq⟩ : ∃ q, 2 ^ k = q := ⟨_, rfl⟩
  have e : (2 : Int) ^ k = (q : Int) := by rw [← hq]; push_cast; rfl
  rw [hq] at h2 ⊢
  rw [e, IntWalk.i64_in (q : Int) ⟨by omega, by omega⟩]
  have h := fint_any (q : Int) W (by omega) (by omega)
  rw [decide_eq_false (by omega), Int.natAbs_natCast] at h
  exact h
theorem f_mul {m d k : Nat} (hk : k ≤ 62) (l1 : (Mth.dg 1000000000 m).length ≤ 100000) (l2 : (Mth.dg 1000000000 d).length ≤ 100000) (hd : 0 < d) (W : World) (x1 y1 x2 y2 : Value) (a1 : Nt W x1 m) (a2 : Nt W y1 d) (a3 : Nt W x2 (2 ^ k)) (a4 : Nt W y2 1) :
    Calls Tryz.prog 106 #[.agg #[.bool false, x1, y1], .agg #[.bool false, x2, y2]] W (FNum false (mtN m d k) (mtD m d k) W) := by
  have h := fmul_any false false m d (2 ^ k) 1 x1 y1 x2 y2 W a1 a2 a3 a4 (Nat.le_trans l1 (by omega)) (Nat.le_trans l2 (by omega)) (Nat.le_trans (two_len (b := 1000000000) (by omega) hk) (by omega)) (Nat.le_trans (Mth.dg_len_le (b := 1000000000) (by omega) 1 _ (by omega)) (by omega)) (by omega)
  have e : rneg (!(false == false)) (m * 2 ^ k) = false := rneg_f _
  rw [e] at h
  exact h
theorem f_near {m d k : Nat} (hk : k ≤ 62) (l1 : (Mth.dg 1000000000 m).length ≤ 100000) (l2 : (Mth.dg 1000000000 d).length ≤ 100000) (hd : 0 < d) (W : World) (x1 y1 : Value) (a1 : Nt W x1 (mtN m d k)) (a2 : Nt W y1 (mtD m d k)) :
    Calls Tryz.prog 105 #[.agg #[.bool false, x1, y1]] W (FNum false (mtV m d k) 1 W) := by
  have h := fnear_any false (mtN m d k) (mtD m d k) x1 y1 W a1 a2 (Nat.le_trans (mtN_len (by omega) l1 hk) (by omega)) (Nat.le_trans (mtD_len (by omega) l2 hd) (by omega)) (mtD_pos hd)
  rw [neS_false] at h
  exact h
theorem r_int (k : Nat) (hk : k ≤ 62) (W : World) : Calls Tryz.prog 74 #[.int .i64 (IntKind.i64.wrap ((2 : Int) ^ k))] W (RNum false (2 ^ k) 1 W) := by
  have h2 := two_pow_lt hk
  obtain ⟨q, hq⟩ : ∃ q, 2 ^ k = q := ⟨_, rfl⟩
  have e : (2 : Int) ^ k = (q : Int) := by rw [← hq]; push_cast; rfl
  rw [hq] at h2 ⊢
  rw [e, IntWalk.i64_in (q : Int) ⟨by omega, by omega⟩]
  have h := rint_any (q : Int) W (by omega) (by omega)
  rw [decide_eq_false (by omega), Int.natAbs_natCast] at h
  exact h
theorem r_mul {m d k : Nat} (hk : k ≤ 62) (l1 : (Mth.dg 10000 m).length ≤ 100000) (l2 : (Mth.dg 10000 d).length ≤ 100000) (hd : 0 < d) (W : World) (x1 y1 x2 y2 : Value) (a1 : Pt W x1 m) (a2 : Pt W y1 d) (a3 : Pt W x2 (2 ^ k)) (a4 : Pt W y2 1) :
    Calls Tryz.prog 73 #[.agg #[.bool false, x1, y1], .agg #[.bool false, x2, y2]] W (RNum false (mtN m d k) (mtD m d k) W) := by
  have h := rnmul_any false false m d (2 ^ k) 1 x1 y1 x2 y2 W a1 a2 a3 a4 (Nat.le_trans l1 (by omega)) (Nat.le_trans l2 (by omega)) (Nat.le_trans (two_len (b := 10000) (by omega) hk) (by omega)) (Nat.le_trans (Mth.dg_len_le (b := 10000) (by omega) 1 _ (by omega)) (by omega)) (by omega)
  have e : rneg (!(false == false)) (m * 2 ^ k) = false := rneg_f _
  rw [e] at h
  exact h
theorem r_near {m d k : Nat} (hk : k ≤ 62) (l1 : (Mth.dg 10000 m).length ≤ 100000) (l2 : (Mth.dg 10000 d).length ≤ 100000) (hd : 0 < d) (W : World) (x1 y1 : Value) (a1 : Pt W x1 (mtN m d k)) (a2 : Pt W y1 (mtD m d k)) :
    Calls Tryz.prog 75 #[.agg #[.bool false, x1, y1]] W (RNum false (mtV m d k) 1 W) := by
  have h := rnnear_any false (mtN m d k) (mtD m d k) x1 y1 W a1 a2 (Nat.le_trans (mtN_len (by omega) l1 hk) (by omega)) (Nat.le_trans (mtD_len (by omega) l2 hd) (by omega)) (mtD_pos hd)
  rw [neS_false] at h
  exact h

set_option maxHeartbeats 8000000 in
set_option maxRecDepth 100000 in
theorem rmult_any (M m d : Nat) (x y : Value) (R1 R2 : Int) (R3 : Bool) (w : World) (h1 : Pt w x m) (h2 : Pt w y d) (l1 : (Mth.dg 10000 m).length ≤ 100000) (l2 : (Mth.dg 10000 d).length ≤ 100000) (hd : 0 < d) (hM : M ≤ 2147483647) (hR : mltR M m d 31 = (R1, R2, R3)) (htab : Tabs w) (herr : ErrV w) :
    Calls Tryz.prog 26 #[.agg #[.bool false, x, y], .int .i64 (M : Int), .int .i64 31] w fun e w' => e = .returned (.tuple #[.int .i64 R1, .int .i64 R2, .bool R3]) ∧ Below w.heap.size w w' := by
  obtain ⟨A1, n1, k1, rfl⟩ := h1.shape
  obtain ⟨A2, n2, k2, rfl⟩ := h2.shape
  obtain ⟨W, hW⟩ : ∃ W, W = w.alloc (.cells #[.bool false, .slice A1 n1 k1, .slice A2 n2 k2] 52) := ⟨_, rfl⟩
  have hBW : Below w.heap.size w W := by rw [hW]; exact (Below.refl _ w).alloc (Nat.le_refl _) _
  have hk0 : Blk W w.heap.size 52 #[.bool false, .slice A1 n1 k1, .slice A2 n2 k2] := by rw [hW]; exact Blk.new w _ _
  have HSX : Hid (∀ w', Below W.heap.size W w' → w'.cell? ⟨w.heap.size, 0, none⟩ = some (.bool false) ∧ w'.cell? ⟨w.heap.size, 1, none⟩ = some (.slice A1 n1 k1) ∧ w'.cell? ⟨w.heap.size, 2, none⟩ = some (.slice A2 n2 k2)) := Lib.hid fun w' hb =>
    ⟨(hk0.low hb).cell 0, (hk0.low hb).cell 1, (hk0.low hb).cell 2⟩
  have HX1 := Lib.hid (h1.below hBW)
  have HX2 := Lib.hid (h2.below hBW)
  have HT : Hid (∀ W', Below W.heap.size W W' → Tabs W' ∧ ErrV W') := Lib.hid fun W' hb => ⟨htab.low (hBW.trans (hb.mono hBW.size)), herr.low (hBW.trans (hb.mono hBW.size))⟩
  have HBW := Lib.hid hBW
  have HW := Lib.hid hW
  have HR := Lib.hid hR
  clear hBW hW hk0 hR h1 h2 htab herr
  go_enter Tryz.func26, Tryz.ntmps26
  go_wp2
  rw [← HW.out]
  go_loopw [9] (fun a9 wr => ∃ k : Nat, a9 = .int .i64 k ∧ k ≤ 31 ∧ mltR M m d k = (R1, R2, R3) ∧ Below W.heap.size W wr) (fun a9 _ => (intOf a9).toNat)
  case atStart => exact ⟨31, rfl, by omega, HR.out, Below.refl _ _⟩
  case round =>
    obtain ⟨k, rfl, hk, hrk, hbr⟩ := hrel
    have HBR := Lib.hid hbr
    have HRK := Lib.hid hrk
    obtain ⟨r0, r1, r2⟩ := HSX.out wr hbr
    clear hbr hrk
    by_cases hk0 : 1 ≤ k
    · have hk1 : (1 : Int) ≤ (k : Int) := by omega
      have HXA := Lib.hid (HX1.out.below HBR.out)
      have HXB := Lib.hid (HX2.out.below HBR.out)
      have HI := Lib.hid (r_int k (by omega))
      have HM := Lib.hid (fun W x1 y1 x2 y2 a1 a2 a3 a4 => r_mul (k := k) (by omega) l1 l2 hd W x1 y1 x2 y2 a1 a2 a3 a4)
      have HNR := Lib.hid (fun W x1 y1 a1 a2 => r_near (k := k) (by omega) l1 l2 hd W x1 y1 a1 a2)
      have HVL := Lib.hid (mtV_len (b := 10000) (k := k) (by omega) l1 l2 hd (by omega))
      have hk2 : (0 : Int) ≤ (k : Int) := by omega
      have hk3 : (k : Int) ≤ 31 := by omega
      go_wp2_with fail
      go_region_held3 (fun w' => w'.cell? ⟨w.heap.size, 0, none⟩ = some (.bool false) ∧ w'.cell? ⟨w.heap.size, 1, none⟩ = some (.slice A1 n1 k1) ∧ w'.cell? ⟨w.heap.size, 2, none⟩ = some (.slice A2 n2 k2))
        (first | exact ⟨r0, r1, r2⟩ | go_keep)
        (first
          | (go_at_call 74; refine (HI.out _).mono ?_; rintro e w5 ⟨v1, v2, rfl, hV1, hV2, hB5⟩; have HV1 := Lib.hid hV1; have HV2 := Lib.hid hV2; have HC5 : Hid (Below wr.heap.size wr w5) := Lib.hid ((Below.refl _ wr).drew.trans hB5); clear hV1 hV2 hB5 r0 r1 r2; obtain ⟨r0, r1, r2⟩ := HSX.out w5 (HBR.out.trans (HC5.out.mono HBR.out.size)))
          | (go_at_call 73; refine (HM.out _ _ _ _ _ (HXA.out.below HC5.out) (HXB.out.below HC5.out) HV1.out HV2.out).mono ?_; rintro e w6 ⟨v3, v4, rfl, hV3, hV4, hB6⟩; have HV3 := Lib.hid hV3; have HV4 := Lib.hid hV4; have HC6 : Hid (Below wr.heap.size wr w6) := Lib.hid (HC5.out.trans (hB6.mono HC5.out.size)); clear hV3 hV4 hB6 r0 r1 r2; obtain ⟨r0, r1, r2⟩ := HSX.out w6 (HBR.out.trans (HC6.out.mono HBR.out.size)))
          | (go_at_call 75; refine (HNR.out _ _ _ HV3.out HV4.out).mono ?_; rintro e w7 ⟨v5, v6, rfl, hV5, hV6, hB7⟩; have HC7 : Hid (Below wr.heap.size wr w7) := Lib.hid (HC6.out.trans (hB7.mono HC6.out.size)); have hbw7 := HBR.out.trans (HC7.out.mono HBR.out.size); have HSM := Lib.hid (rwhole_any false (mtV m d k) 1 v5 v6 w7 hV5 hV6 (Nat.le_trans HVL.out (by omega)) (HT.out _ hbw7).1 (HT.out _ hbw7).2); clear hV5 hV6 hB7 r0 r1 r2 hbw7; obtain ⟨r0, r1, r2⟩ := HSX.out w7 (HBR.out.trans (HC7.out.mono HBR.out.size)))
          | (go_at_call 76; refine HSM.out.mono ?_; rintro e w8 ⟨rfl, hB8⟩; have HC8 : Hid (Below wr.heap.size wr w8) := Lib.hid (HC7.out.trans (hB8.mono HC7.out.size)); clear hB8 r0 r1 r2; obtain ⟨r0, r1, r2⟩ := HSX.out w8 (HBR.out.trans (HC8.out.mono HBR.out.size))))
      clear r0 r1 r2
      obtain ⟨q, rfl⟩ : ∃ q, k = q + 1 := ⟨k - 1, by omega⟩
      have hrk := HRK.out
      unfold mltR at hrk
      obtain ⟨V, hV⟩ : ∃ V, mtV m d (q + 1) = V := ⟨_, rfl⟩
      rw [hV] at hrk ⊢
      have HB8 : Hid (Below W.heap.size W w8) := Lib.hid (HBR.out.trans (HC8.out.mono HBR.out.size))
      have HRQ := Lib.hid hrk
      clear hrk HSM HRK HI HM HNR hV HVL
      by_cases hle : V ≤ M
      · have hsb : whB V 1 = true := by unfold whB; rw [decide_eq_true]; exact ⟨Mth.dec_len_word (k := 18) (by omega) (by omega), rfl⟩
        have hsv : whV false V 1 = (V : Int) := by unfold whV; rw [if_pos hsb]; rfl
        rw [hsb, hsv]
        have hgt : decide ((V : Int) ≤ (M : Int)) = true := by rw [decide_eq_true]; omega
        have hrv := HRQ.out
        rw [if_pos hle] at hrv
        injection hrv with q1 q2
        injection q2 with q2 q3
        subst q1
        subst q2
        subst q3
        have hgt2 : (V : Int) ≤ (M : Int) := by omega
        clear hsb hsv hle
        go_wp2
        refine bodyPost_ret (v := .tuple #[.int .i64 (V : Nat), .int .i64 ((q + 1 : Nat) : Int), .bool true]) (by simp [results, Tryz.results26, go_sem]) rfl ?_
        exact ⟨rfl, HBW.out.trans (HB8.out.mono HBW.out.size)⟩
      · have hrv := HRQ.out
        rw [if_neg hle] at hrv
        obtain ⟨fv, hfv⟩ : ∃ fv, whV false V 1 = fv := ⟨_, rfl⟩
        obtain ⟨fb, hfb⟩ : ∃ fb, whB V 1 = fb := ⟨_, rfl⟩
        have hcont : fb = true → ¬ fv ≤ (M : Int) := by
          intro h
          rw [← hfv]
          unfold whV
          rw [hfb, if_pos h]
          show ¬ (V : Int) ≤ (M : Int)
          omega
        rw [hfv, hfb]
        have HRV := Lib.hid hrv
        clear hfv hfb hrv hle HRQ
        cases fb with
        | true =>
          have hgt := hcont rfl
          have hgt2 : decide (fv ≤ (M : Int)) = false := by simpa using hgt
          clear hcont
          go_wp2
          exact ⟨⟨q, rfl, by omega, HRV.out, HB8.out⟩, by simp [intOf]⟩
        | false =>
          clear hcont
          go_wp2
          exact ⟨⟨q, rfl, by omega, HRV.out, HB8.out⟩, by simp [intOf]⟩
    · have hk00 : k = 0 := by omega
      have hrk := HRK.out
      rw [hk00] at hrk
      unfold mltR at hrk
      injection hrk with q1 q2
      injection q2 with q2 q3
      subst q1
      subst q2
      subst q3
      have hk1 : ¬ ((1 : Int) ≤ (k : Int)) := by omega
      clear HRK hk00
      go_wp2
      refine bodyPost_ret (v := .tuple #[.int .i64 0, .int .i64 0, .bool false]) (by simp [results, Tryz.results26, go_sem]) rfl ?_
      exact ⟨rfl, HBW.out.trans (HBR.out.mono HBW.out.size)⟩

end Go.Proofs.YtldjemlmjfpmjaaGreatDoor

namespace Go.Proofs.YtldjemlmjfpmjaaGreatDoor
open Go.RowKit Go.Shelf

theorem ow_form {T : TypeId} {w : World} {C : Cl} {base : Nat} {v : Value} {xs : List Int} (h : Ow 1 EInt T w C base v xs) : ∃ A n c, v = .slice A n c := by
  obtain ⟨cs, ho, -, -⟩ := h
  rcases ho.2 with ⟨h, -⟩ | ⟨g, cap, cur, h, -⟩
  · exact ⟨_, _, _, h⟩
  · exact ⟨_, _, _, h⟩
theorem one_newq (w : World) (cs : Array Value) (t : TypeId) : ∀ j u, cs.toList[j]? = some u → (w.alloc (.cells cs t)).cell? ((⟨w.heap.size, 0, none⟩ : Addr).add j) = some u := World.news_of_block (heap_alloc_new w _)
theorem infq : Inf Tryz.prog 3 1 8 := inf_of (z := .int .i64 0) (by kernel_rfl) rfl (by decide)

set_option maxHeartbeats 8000000 in
set_option maxRecDepth 100000 in
theorem near_one (M m d fb : Nat) (A1 A2 : Option Addr) (n1 k1 n2 k2 : Nat) (R1 R2 : Int) (R3 : Bool) (w : World) (hc0 : w.cell? ⟨fb, 0, none⟩ = some (.bool false)) (hc1 : w.cell? ⟨fb, 1, none⟩ = some (.slice A1 n1 k1)) (hc2 : w.cell? ⟨fb, 2, none⟩ = some (.slice A2 n2 k2))
    (h1 : Nt w (.slice A1 n1 k1) m) (h2 : Nt w (.slice A2 n2 k2) d) (l1 : (Mth.dg 1000000000 m).length ≤ 100000) (l2 : (Mth.dg 1000000000 d).length ≤ 100000) (hd : 0 < d) (hM : M ≤ 2147483647) (hR : mltR M m d 31 = (R1, R2, R3)) :
    Calls Tryz.prog 68 #[.slice (some ⟨fb, 0, none⟩) 1 1, .int .i64 (M : Int)] w fun e w' => Below w.heap.size w w' ∧ ∃ v, e = .returned (.tuple #[v, .int .i64 R2, .bool R3]) ∧ (R3 = true → Ow 1 EInt 3 w' (fun _ => none) w.heap.size v [R1]) := by
  have HSX : Hid (∀ w', Below w.heap.size w w' → w'.cell? ⟨fb, 0, none⟩ = some (.bool false) ∧ w'.cell? ⟨fb, 1, none⟩ = some (.slice A1 n1 k1) ∧ w'.cell? ⟨fb, 2, none⟩ = some (.slice A2 n2 k2)) := Lib.hid fun w' hb =>
    ⟨Keeps.of_below hb _ _ hc0, Keeps.of_below hb _ _ hc1, Keeps.of_below hb _ _ hc2⟩
  have HX1 := Lib.hid h1
  have HX2 := Lib.hid h2
  have HR := Lib.hid hR
  clear hR h1 h2 hc0 hc1 hc2
  go_enter Tryz.func68, Tryz.ntmps68
  go_wp2
  go_loopw [7] (fun a7 wr => ∃ k : Nat, a7 = .int .i64 k ∧ k ≤ 31 ∧ mltR M m d k = (R1, R2, R3) ∧ Below w.heap.size w wr) (fun a7 _ => (intOf a7).toNat)
  case atStart => exact ⟨31, rfl, by omega, HR.out, Below.refl _ _⟩
  case round =>
    obtain ⟨k, rfl, hk, hrk, hbr⟩ := hrel
    have HBR := Lib.hid hbr
    have HRK := Lib.hid hrk
    clear hbr hrk
    by_cases hk0 : 1 ≤ k
    · have hk1 : (1 : Int) ≤ (k : Int) := by omega
      have HI := Lib.hid (f_int k (by omega))
      have HM := Lib.hid (fun W x1 y1 x2 y2 a1 a2 a3 a4 => f_mul (k := k) (by omega) l1 l2 hd W x1 y1 x2 y2 a1 a2 a3 a4)
      have HNR := Lib.hid (fun W x1 y1 a1 a2 => f_near (k := k) (by omega) l1 l2 hd W x1 y1 a1 a2)
      have hk2 : (0 : Int) ≤ (k : Int) := by omega
      have hk3 : (k : Int) ≤ 31 := by omega
      obtain ⟨q, hq⟩ : ∃ q, k = q + 1 := ⟨k - 1, by omega⟩
      have hrk := HRK.out
      rw [hq] at hrk
      unfold mltR at hrk
      rw [← hq] at hrk
      obtain ⟨V, hV⟩ : ∃ V, mtV m d k = V := ⟨_, rfl⟩
      rw [hV] at hrk
      have HV := Lib.hid hV
      have HRQ := Lib.hid hrk
      have HQ := Lib.hid hq
      clear hrk hV hq
      go_wp2_with fail
      go_loopw [8, 19] (fun a8 a19 wq => Below w.heap.size w wq ∧ ((a8 = .slice none 0 0 ∧ a19 = .int .i64 0) ∨ (a19 = .int .i64 1 ∧ V ≤ M ∧ Ow 1 EInt 3 wq (fun _ => none) w.heap.size a8 [(V : Int)]))) (fun _ a19 _ => 2 - (intOf a19).toNat)
      case atStart => exact ⟨HBR.out, .inl ⟨rfl, rfl⟩⟩
      case round =>
        obtain ⟨hbq, ⟨rfl, rfl⟩ | ⟨rfl, hle, hO⟩⟩ := hrel
        · obtain ⟨r0, r1, r2⟩ := HSX.out wr hbq
          obtain ⟨W, hW⟩ : ∃ W, W = wr.alloc (.cells #[.bool false, .slice A1 n1 k1, .slice A2 n2 k2] 90) := ⟨_, rfl⟩
          have hkf : Bk W wr.heap.size 90 #[.bool false, .slice A1 n1 k1, .slice A2 n2 k2] := by rw [hW]; exact Bk.new _ _ _
          have hbw : Below w.heap.size w W := by rw [hW]; exact laid hbq _
          have HBW := Lib.hid hbw
          have HSP : Hid (∀ w', Below W.heap.size W w' → w'.cell? ⟨wr.heap.size, 0, none⟩ = some (.bool false) ∧ w'.cell? ⟨wr.heap.size, 1, none⟩ = some (.slice A1 n1 k1) ∧ w'.cell? ⟨wr.heap.size, 2, none⟩ = some (.slice A2 n2 k2)) := Lib.hid fun w' hb =>
            ⟨(hkf.low hb).cell 0, (hkf.low hb).cell 1, (hkf.low hb).cell 2⟩
          have HXA := Lib.hid (HX1.out.below hbw)
          have HXB := Lib.hid (HX2.out.below hbw)
          have HW := Lib.hid hW
          obtain ⟨s0, s1, s2⟩ := HSP.out W (Below.refl _ _)
          clear hW hkf hbw hbq
          go_wp2_with fail
          rw [← HW.out]
          clear r0 r1 r2
          go_region_held3 (fun w' => w'.cell? ⟨wr.heap.size, 0, none⟩ = some (.bool false) ∧ w'.cell? ⟨wr.heap.size, 1, none⟩ = some (.slice A1 n1 k1) ∧ w'.cell? ⟨wr.heap.size, 2, none⟩ = some (.slice A2 n2 k2))
            (first | exact ⟨s0, s1, s2⟩ | go_keep)
            (first
              | (go_at_call 107; refine (HI.out _).mono ?_; rintro e w5 ⟨v1, v2, rfl, hV1, hV2, hB5⟩; have HV1 := Lib.hid hV1; have HV2 := Lib.hid hV2; have HC5 : Hid (Below W.heap.size W w5) := Lib.hid ((Below.refl _ W).drew.trans hB5); clear hV1 hV2 hB5 s0 s1 s2; obtain ⟨s0, s1, s2⟩ := HSP.out w5 HC5.out)
              | (go_at_call 106; refine (HM.out _ _ _ _ _ (HXA.out.below HC5.out) (HXB.out.below HC5.out) HV1.out HV2.out).mono ?_; rintro e w6 ⟨v3, v4, rfl, hV3, hV4, hB6⟩; have HV3 := Lib.hid hV3; have HV4 := Lib.hid hV4; have HC6 : Hid (Below W.heap.size W w6) := Lib.hid (HC5.out.trans (hB6.mono HC5.out.size)); clear hV3 hV4 hB6 s0 s1 s2; obtain ⟨s0, s1, s2⟩ := HSP.out w6 HC6.out)
              | (go_at_call 105; refine (HNR.out _ _ _ HV3.out HV4.out).mono ?_; rintro e w7 ⟨v5, v6, rfl, hV5, hV6, hB7⟩; have HSM := Lib.hid (fsmall_any false (mtV m d k) 1 v5 v6 w7 hV5 hV6 (Nat.le_trans (Mth.dg_len_le (b := 1000000000) (by omega) 1 _ (by omega)) (by omega))); have HC7 : Hid (Below W.heap.size W w7) := Lib.hid (HC6.out.trans (hB7.mono HC6.out.size)); clear hV5 hV6 hB7 s0 s1 s2; obtain ⟨s0, s1, s2⟩ := HSP.out w7 HC7.out)
              | (go_at_call 108; refine HSM.out.mono ?_; rintro e w8 ⟨rfl, hB8⟩; have HC8 : Hid (Below W.heap.size W w8) := Lib.hid (HC7.out.trans (hB8.mono HC7.out.size)); clear hB8 s0 s1 s2; obtain ⟨s0, s1, s2⟩ := HSP.out w8 HC8.out))
          clear s0 s1 s2
          have HB8 : Hid (Below w.heap.size w w8) := Lib.hid (HBW.out.trans (HC8.out.mono HBW.out.size))
          rw [HV.out]
          clear HSM HI HM HNR HC5 HC6 HC7 HC8 HXA HXB HSP HV1 HV2 HV3 HV4 HRK
          by_cases hle : V ≤ M
          · have hsb : fsB V 1 = true := by unfold fsB smB; rw [decide_eq_true (show V < 4611686018000000000 by omega)]; rfl
            have hsv : fsV false V 1 = (V : Int) := by unfold fsV; rw [if_pos hsb]; rfl
            rw [hsb, hsv]
            have hgt : decide ((M : Int) < (V : Int)) = false := by rw [decide_eq_false]; omega
            have hgtn : decide (M < V) = false := by rw [decide_eq_false]; omega
            have HLE := Lib.hid hle
            clear hsb hsv hle
            go_wp2_with (at_builtin; refine wpList_append_Ow cellsInt infq _ rfl _ _ 22 rfl w.heap.size Tryz.underlying22 (.slice none 0 0) [] (fun _ => none) rfl (Ow.nil _ _ _ _ _ _) ⟨w8.heap.size, 0, none⟩ 1 1 [_] [_] rfl rfl (Enc.single cellsInt rfl) (one_newq _ #[_] _) (by simp) (Nat.le_trans HB8.out.size (laid (Below.refl _ w8) _).size) ?_; intro v' w9 hown' hB9 hgr; obtain ⟨A8, m8, c8, rfl⟩ := ow_form hown'; have HO9 := Lib.hid hown'; have HB9 : Hid (Below w.heap.size w w9) := Lib.hid ((laid HB8.out _).trans hB9); clear hown' hB9 hgr)
            go_roundw
            case rel => exact ⟨HB9.out, .inr ⟨by go_num, HLE.out, HO9.out⟩⟩
            case measure => simp [intOf]
          · have hrv := HRQ.out
            rw [if_neg hle] at hrv
            obtain ⟨fv, hfv⟩ : ∃ fv, fsV false V 1 = fv := ⟨_, rfl⟩
            obtain ⟨fb2, hfb⟩ : ∃ fb, fsB V 1 = fb := ⟨_, rfl⟩
            have hcont : fb2 = true → (M : Int) < fv := by
              intro h
              rw [← hfv]
              unfold fsV
              rw [hfb, if_pos h]
              show (M : Int) < (V : Int)
              omega
            rw [hfv, hfb]
            have HRV := Lib.hid hrv
            clear hfv hfb hrv hle HRQ
            cases fb2 with
            | true =>
              have hgt := hcont rfl
              clear hcont
              go_wp2
              exact ⟨⟨q, by rw [HQ.out]; push_cast; go_num, by have := HQ.out; omega, HRV.out, HB8.out⟩, by have := HQ.out; simp [intOf]; omega⟩
            | false =>
              clear hcont
              go_wp2
              exact ⟨⟨q, by rw [HQ.out]; push_cast; go_num, by have := HQ.out; omega, HRV.out, HB8.out⟩, by have := HQ.out; simp [intOf]; omega⟩
        · have hrv := HRQ.out
          rw [if_pos hle] at hrv
          injection hrv with q1 q2
          injection q2 with q2 q3
          obtain ⟨A8, m8, c8, rfl⟩ := ow_form hO
          obtain rfl : m8 = 1 := (Rws.len (Ow.rws cellsInt hO (fun _ _ h => by cases h)))
          have HO := Lib.hid hO
          have HBQ := Lib.hid hbq
          have HQ1 := Lib.hid q1
          have HQ2 : Hid (R2 = (k : Int)) := Lib.hid (by rw [← q2, HQ.out])
          have HQ3 := Lib.hid q3
          clear hO hbq hle q1 q2 q3 HRQ HRK
          go_wp2
          refine bodyPost_ret (v := .tuple #[.slice A8 1 c8, .int .i64 (k : Nat), .bool true]) (by simp [results, Tryz.results68, go_sem]) rfl ?_
          exact ⟨HBQ.out, _, by rw [HQ2.out, ← HQ3.out], fun _ => by rw [← HQ1.out]; exact HO.out⟩
    · have hk00 : k = 0 := by omega
      have hrk := HRK.out
      rw [hk00] at hrk
      unfold mltR at hrk
      injection hrk with q1 q2
      injection q2 with q2 q3
      subst q1
      subst q2
      subst q3
      have hk1 : ¬ ((1 : Int) ≤ (k : Int)) := by omega
      clear HRK hk00
      go_wp2
      refine bodyPost_ret (v := .tuple #[.slice none 0 0, .int .i64 0, .bool false]) (by simp [results, Tryz.results68, go_sem]) rfl ?_
      first | exact ⟨HBR.out, _, rfl, fun h => by cases h⟩ | exact ⟨HBR.out, _, rfl⟩ | exact ⟨HBR.out, by simp⟩
end Go.Proofs.YtldjemlmjfpmjaaGreatDoor

namespace Go.Proofs.YtldjemlmjfpmjaaGreatDoor
open Go.RowKit Go.Shelf

/-- a valid text that is not below zero has no sign -/
theorem val_neg {nl dl : List UInt8} (h : chkOf nl dl = 0) (hs : ¬ sgn (negNum nl) (pN nl) < 0) : negNum nl = false := by
  obtain ⟨a1, a2, a3⟩ := valid_of h
  by_cases hm : pN nl = 0
  · have hc : (cutNum nl == [48]) = true := by
      cases hh : (cutNum nl == [48]) with
      | true => rfl
      | false =>
        have := dv_pos a1 hh
        unfold pN at hm
        omega
    unfold chkOf chk at h
    rw [a1, a2, hc] at h
    cases hg : negNum nl with
    | false => rfl
    | true =>
      rw [hg] at h
      by_cases hd : (dl == [48]) = true
      · simp [hd] at h
      · simp [hd] at h
  · cases hh : negNum nl with
    | false => rfl
    | true => exact absurd (by rw [hh, sgn_pos hm]; decide) hs
/-- what quant.Multiplier answers -/
def mqR (x : Int × Int × Bool) : Int × Int × Int := if x.2.2 = true then (x.1, x.2.1, 0) else (0, 0, 22)
def mqN (g : Bool) (m d : Nat) (M : Int) : Int × Int × Int :=
  if sgn g m < 0 ∨ M < 1 ∨ 2147483647 < M then (0, 0, 1) else mqR (mltR M.toNat m d 31)
theorem trip3 {α β γ : Type} (p : α × β × γ) : ∃ a b c, p = (a, b, c) := ⟨p.1, p.2.1, p.2.2, rfl⟩
theorem mltR_false {M m d : Nat} {R1 R2 : Int} : ∀ {k : Nat}, mltR M m d k = (R1, R2, false) → R1 = 0 ∧ R2 = 0
  | 0, h => by injection h with a b; injection b with b _; exact ⟨a.symm, b.symm⟩
  | k + 1, h => by
    unfold mltR at h
    split at h
    · injection h with a b; injection b with b c; cases c
    · exact mltR_false h
set_option maxHeartbeats 8000000 in
set_option maxRecDepth 100000 in
theorem qmul_low (N1 D1 : ByteArray) (g : Bool) (m d : Nat) (M : Int) (w : World) (l1 : (Mth.dg 1000000000 m).length ≤ 100000) (hs : sgn g m < 0 ∨ M < 1 ∨ 2147483647 < M)
    (HC1 : Hid (∀ W, Calls Tryz.prog 65 #[.agg #[.string N1, .string D1]] W fun e w' => e = .returned (.int .i64 0) ∧ Below W.heap.size W w'))
    (HO1 : Hid (∀ W, Calls Tryz.prog 66 #[.agg #[.string N1, .string D1]] W (FNum g m d W))) :
    Calls Tryz.prog 22 #[.agg #[.string N1, .string D1], .int .i64 M] w fun e w' => e = .returned (.tuple #[.int .i64 0, .int .i64 0, .int .i64 1]) ∧ Below w.heap.size w w' := by
  obtain ⟨W, hW⟩ : ∃ W, W = w.alloc (.cells #[.string N1, .string D1] 45) := ⟨_, rfl⟩
  have hBW : Below w.heap.size w W := by rw [hW]; exact (Below.refl _ w).alloc (Nat.le_refl _) _
  have hk0 : Blk W w.heap.size 45 #[.string N1, .string D1] := by rw [hW]; exact Blk.new w _ _
  have HK0 := Lib.hid hk0
  have HBW := Lib.hid hBW
  have HW := Lib.hid hW
  have hsg := fun W x y (a1 : Nt W x m) (a2 : Nt W y d) => fsign_any g m d x y W a1 a2 (by omega)
  obtain ⟨s, hsv⟩ : ∃ s, sgn g m = s := ⟨_, rfl⟩
  rw [hsv] at hsg hs
  have HSG := Lib.hid hsg
  have hcase : (decide (s < 0) = true) ∨ (decide (s < 0) = false ∧ decide (M < 1) = true) ∨ (decide (s < 0) = false ∧ decide (M < 1) = false ∧ decide (2147483647 < M) = true) := by
    by_cases h1 : s < 0
    · exact .inl (decide_eq_true h1)
    · by_cases h2 : M < 1
      · exact .inr (.inl ⟨decide_eq_false h1, decide_eq_true h2⟩)
      · exact .inr (.inr ⟨decide_eq_false h1, decide_eq_false h2, decide_eq_true (by omega)⟩)
  clear hs
  clear hBW hW hk0 hsg hsv
  go_enter Tryz.func22, Tryz.ntmps22
  go_wp2_with fail
  rw [← HW.out]
  refine (HC1.out _).mono ?_
  rintro e w1 ⟨rfl, hB1⟩
  have HB1 := Lib.hid hB1
  have e0 := (HK0.out.low hB1).cell 0
  have e1 := (HK0.out.low hB1).cell 1
  simp only [List.getElem?_toArray, List.getElem?_cons_zero, List.getElem?_cons_succ] at e0 e1
  clear hB1
  go_wp2_with fail
  refine (HO1.out _).mono ?_
  rintro e w2 ⟨x, y, rfl, hN1, hN2, hB2⟩
  have HN1 := Lib.hid hN1
  have HN2 := Lib.hid hN2
  have HB2 := Lib.hid (HB1.out.trans (hB2.mono HB1.out.size))
  obtain ⟨A1, n1, k1, rfl⟩ := hN1.shape
  obtain ⟨A2, n2, k2, rfl⟩ := hN2.shape
  obtain ⟨W3, hW3⟩ : ∃ W3, W3 = w2.alloc (.cells #[.bool g, .slice A1 n1 k1, .slice A2 n2 k2] 90) := ⟨_, rfl⟩
  have hkx : Blk W3 w2.heap.size 90 #[.bool g, .slice A1 n1 k1, .slice A2 n2 k2] := by rw [hW3]; exact Blk.new w2 _ _
  have hb3 : Below W.heap.size W W3 := by rw [hW3]; exact HB2.out.alloc HB2.out.size _
  have HX1 : Hid (Nt W3 (.slice A1 n1 k1) m) := Lib.hid (by rw [hW3]; exact Sl.alloc HN1.out _)
  have HX2 : Hid (Nt W3 (.slice A2 n2 k2) d) := Lib.hid (by rw [hW3]; exact Sl.alloc HN2.out _)
  have HB3 := Lib.hid hb3
  have HW3 := Lib.hid hW3
  have HSX : Hid (∀ w', Below W3.heap.size W3 w' → w'.cell? ⟨w2.heap.size, 0, none⟩ = some (.bool g) ∧ w'.cell? ⟨w2.heap.size, 1, none⟩ = some (.slice A1 n1 k1) ∧ w'.cell? ⟨w2.heap.size, 2, none⟩ = some (.slice A2 n2 k2)) := Lib.hid fun w' hb =>
    ⟨(hkx.low hb).cell 0, (hkx.low hb).cell 1, (hkx.low hb).cell 2⟩
  obtain ⟨r0, r1, r2⟩ := HSX.out W3 (Below.refl _ _)
  rw [hW3] at r0 r1 r2
  clear hN1 hN2 hB2 e0 e1 hkx hb3 hW3
  go_wp2_with fail
  rw [← HW3.out]
  clear r0 r1 r2
  refine (HSG.out _ _ _ HX1.out HX2.out).mono ?_
  rintro e w4 ⟨rfl, hB4⟩
  have HB4 : Hid (Below W.heap.size W w4) := Lib.hid (HB3.out.trans (hB4.mono HB3.out.size))
  obtain ⟨r0, r1, r2⟩ := HSX.out w4 hB4
  have HX3 := Lib.hid (HX1.out.below hB4)
  have HX4 := Lib.hid (HX2.out.below hB4)
  clear hB4
  clear r0 r1 r2
  rcases hcase with h1 | ⟨h1, h2⟩ | ⟨h1, h2, h3⟩ <;>
  · go_wp2
    refine bodyPost_ret (v := .tuple #[.int .i64 0, .int .i64 0, .int .i64 1]) (by simp [results, Tryz.results22, go_sem]) rfl ?_
    exact ⟨rfl, HBW.out.trans (HB4.out.mono HBW.out.size)⟩
set_option maxHeartbeats 8000000 in
set_option maxRecDepth 100000 in
theorem qmul_bad (N1 D1 : ByteArray) (K M : Int) (w : World) (hK : K ≠ 0)
    (HC1 : Hid (∀ W, Calls Tryz.prog 65 #[.agg #[.string N1, .string D1]] W fun e w' => e = .returned (.int .i64 K) ∧ Below W.heap.size W w')) :
    Calls Tryz.prog 22 #[.agg #[.string N1, .string D1], .int .i64 M] w fun e w' => e = .returned (.tuple #[.int .i64 0, .int .i64 0, .int .i64 K]) ∧ Below w.heap.size w w' := by
  obtain ⟨W, hW⟩ : ∃ W, W = w.alloc (.cells #[.string N1, .string D1] 45) := ⟨_, rfl⟩
  have hBW : Below w.heap.size w W := by rw [hW]; exact (Below.refl _ w).alloc (Nat.le_refl _) _
  have HBW := Lib.hid hBW
  have HW := Lib.hid hW
  have hK0 : (K != 0) = true := by simpa using hK
  clear hBW hW hK
  go_enter Tryz.func22, Tryz.ntmps22
  go_wp2_with fail
  rw [← HW.out]
  refine (HC1.out _).mono ?_
  rintro e w1 ⟨rfl, hB1⟩
  have HB1 := Lib.hid hB1
  clear hB1
  go_wp2
  refine bodyPost_ret (v := .tuple #[.int .i64 0, .int .i64 0, .int .i64 K]) (by simp [results, Tryz.results22, go_sem]) rfl ?_
  exact ⟨rfl, HBW.out.trans (HB1.out.mono HBW.out.size)⟩
set_option maxHeartbeats 8000000 in
set_option maxRecDepth 100000 in
theorem qmul_walk (N1 D1 : ByteArray) (m d M : Nat) (R1 R2 R3 : Int) (w : World) (l1 : (Mth.dg 1000000000 m).length ≤ 100000) (l2 : (Mth.dg 1000000000 d).length ≤ 100000) (hd : 0 < d) (hM1 : 1 ≤ M) (hM : M ≤ 2147483647) (hR : mqR (mltR M m d 31) = (R1, R2, R3))
    (HC1 : Hid (∀ W, Calls Tryz.prog 65 #[.agg #[.string N1, .string D1]] W fun e w' => e = .returned (.int .i64 0) ∧ Below W.heap.size W w'))
    (HO1 : Hid (∀ W, Calls Tryz.prog 66 #[.agg #[.string N1, .string D1]] W (FNum false m d W))) :
    Calls Tryz.prog 22 #[.agg #[.string N1, .string D1], .int .i64 (M : Int)] w fun e w' => e = .returned (.tuple #[.int .i64 R1, .int .i64 R2, .int .i64 R3]) ∧ Below w.heap.size w w' := by
  obtain ⟨W, hW⟩ : ∃ W, W = w.alloc (.cells #[.string N1, .string D1] 45) := ⟨_, rfl⟩
  have hBW : Below w.heap.size w W := by rw [hW]; exact (Below.refl _ w).alloc (Nat.le_refl _) _
  have hk0 : Blk W w.heap.size 45 #[.string N1, .string D1] := by rw [hW]; exact Blk.new w _ _
  have HK0 := Lib.hid hk0
  have HBW := Lib.hid hBW
  have HW := Lib.hid hW
  have hsg := fun W x y (a1 : Nt W x m) (a2 : Nt W y d) => fsign_any false m d x y W a1 a2 (by omega)
  obtain ⟨s, hsv⟩ : ∃ s, sgn false m = s := ⟨_, rfl⟩
  rw [hsv] at hsg
  have hs0 : decide (s < 0) = false := by rw [← hsv]; unfold sgn; split <;> rfl
  have HSG := Lib.hid hsg
  obtain ⟨X1, X2, X3, hX⟩ : ∃ X1 X2 X3, mltR M m d 31 = (X1, X2, X3) := trip3 _
  rw [hX] at hR
  have HN := Lib.hid (fun W fb A1 n1 k1 A2 n2 k2 a b c h1 h2 => near_one M m d fb A1 A2 n1 k1 n2 k2 X1 X2 X3 W a b c h1 h2 l1 l2 hd hM hX)
  have hm1 : decide ((M : Int) < 1) = false := by rw [decide_eq_false]; omega
  have hm2 : decide ((2147483647 : Int) < (M : Int)) = false := by rw [decide_eq_false]; omega
  have HR := Lib.hid hR
  clear hX hR
  clear hBW hW hk0 hsg hsv
  go_enter Tryz.func22, Tryz.ntmps22
  go_wp2_with fail
  rw [← HW.out]
  refine (HC1.out _).mono ?_
  rintro e w1 ⟨rfl, hB1⟩
  have HB1 := Lib.hid hB1
  have e0 := (HK0.out.low hB1).cell 0
  have e1 := (HK0.out.low hB1).cell 1
  simp only [List.getElem?_toArray, List.getElem?_cons_zero, List.getElem?_cons_succ] at e0 e1
  clear hB1
  go_wp2_with fail
  refine (HO1.out _).mono ?_
  rintro e w2 ⟨x, y, rfl, hN1, hN2, hB2⟩
  have HN1 := Lib.hid hN1
  have HN2 := Lib.hid hN2
  have HB2 := Lib.hid (HB1.out.trans (hB2.mono HB1.out.size))
  obtain ⟨A1, n1, k1, rfl⟩ := hN1.shape
  obtain ⟨A2, n2, k2, rfl⟩ := hN2.shape
  obtain ⟨W3, hW3⟩ : ∃ W3, W3 = w2.alloc (.cells #[.bool false, .slice A1 n1 k1, .slice A2 n2 k2] 90) := ⟨_, rfl⟩
  have hkx : Blk W3 w2.heap.size 90 #[.bool false, .slice A1 n1 k1, .slice A2 n2 k2] := by rw [hW3]; exact Blk.new w2 _ _
  have hb3 : Below W.heap.size W W3 := by rw [hW3]; exact HB2.out.alloc HB2.out.size _
  have HX1 : Hid (Nt W3 (.slice A1 n1 k1) m) := Lib.hid (by rw [hW3]; exact Sl.alloc HN1.out _)
  have HX2 : Hid (Nt W3 (.slice A2 n2 k2) d) := Lib.hid (by rw [hW3]; exact Sl.alloc HN2.out _)
  have HB3 := Lib.hid hb3
  have HW3 := Lib.hid hW3
  have HSX : Hid (∀ w', Below W3.heap.size W3 w' → w'.cell? ⟨w2.heap.size, 0, none⟩ = some (.bool false) ∧ w'.cell? ⟨w2.heap.size, 1, none⟩ = some (.slice A1 n1 k1) ∧ w'.cell? ⟨w2.heap.size, 2, none⟩ = some (.slice A2 n2 k2)) := Lib.hid fun w' hb =>
    ⟨(hkx.low hb).cell 0, (hkx.low hb).cell 1, (hkx.low hb).cell 2⟩
  obtain ⟨r0, r1, r2⟩ := HSX.out W3 (Below.refl _ _)
  rw [hW3] at r0 r1 r2
  clear hN1 hN2 hB2 e0 e1 hkx hb3 hW3
  go_wp2_with fail
  rw [← HW3.out]
  clear r0 r1 r2
  refine (HSG.out _ _ _ HX1.out HX2.out).mono ?_
  rintro e w4 ⟨rfl, hB4⟩
  have HB4 : Hid (Below W.heap.size W w4) := Lib.hid (HB3.out.trans (hB4.mono HB3.out.size))
  obtain ⟨r0, r1, r2⟩ := HSX.out w4 hB4
  have HX3 := Lib.hid (HX1.out.below hB4)
  have HX4 := Lib.hid (HX2.out.below hB4)
  clear hB4
  have h0 := (Bk.new w4 90 #[.bool false, .slice A1 n1 k1, .slice A2 n2 k2])
  have H0 := Lib.hid h0
  have HL4 : Hid (Below w4.heap.size w4 (w4.alloc (.cells #[.bool false, .slice A1 n1 k1, .slice A2 n2 k2] 90))) := Lib.hid (laid (Below.refl _ _) _)
  clear h0
  go_wp2_with fail
  refine (HN.out _ w4.heap.size A1 n1 k1 A2 n2 k2 (H0.out.cell 0) (H0.out.cell 1) (H0.out.cell 2) (HX3.out.below HL4.out) (HX4.out.below HL4.out)).mono ?_
  rintro e w5 ⟨hB5, v, rfl, hO⟩
  have HB5 : Hid (Below W.heap.size W w5) := Lib.hid (behind HB4.out (behind HL4.out hB5))
  have hR := HR.out
  clear hB5 r0 r1 r2
  cases X3
  · injection hR with q1 q2
    injection q2 with q2 q3
    subst q1
    subst q2
    subst q3
    clear hO
    go_wp2
    refine bodyPost_ret (v := .tuple #[.int .i64 0, .int .i64 0, .int .i64 22]) (by simp [results, Tryz.results22, go_sem]) rfl ?_
    exact ⟨rfl, HBW.out.trans (HB5.out.mono HBW.out.size)⟩
  · injection hR with q1 q2
    injection q2 with q2 q3
    subst q1
    subst q2
    subst q3
    have hO2 := Ow.rws cellsInt (hO (by simp)) (fun _ _ h => by cases h)
    obtain ⟨A5, n5, c5, rfl⟩ := hO2.sl
    obtain rfl : n5 = 1 := hO2.len
    obtain ⟨b5, o5, rfl, hc5⟩ := hO2.at_ (by simp)
    have hcell : w5.cell? ⟨b5, o5, none⟩ = some (.int .i64 X1) := by have := hc5 0 X1 rfl; simpa [RInt] using this
    clear hO hO2 hc5
    go_wp2
    refine bodyPost_ret (v := .tuple #[.int .i64 X1, .int .i64 X2, .int .i64 0]) (by simp [results, Tryz.results22, go_sem]) rfl ?_
    exact ⟨rfl, HBW.out.trans (HB5.out.mono HBW.out.size)⟩

theorem quantMult_any (N1 D1 : List UInt8) (M K R1 R2 R3 : Int) (w : World) (l1 : N1.length ≤ 100000) (l2 : D1.length ≤ 100000) (hK : chkOf N1 D1 = K) (hR : (if K = 0 then mqN (negNum N1) (pN N1) (Mth.dv D1) M else (0, 0, K)) = (R1, R2, R3)) :
    Calls Tryz.prog 22 #[.agg #[.string ⟨N1.toArray⟩, .string ⟨D1.toArray⟩], .int .i64 M] w fun e w' => e = .returned (.tuple #[.int .i64 R1, .int .i64 R2, .int .i64 R3]) ∧ Below w.heap.size w w' := by
  have hc1 := fun W => numCheck_any N1 D1 W (by omega) (by omega)
  rw [hK] at hc1
  by_cases v1 : K = 0
  · subst v1
    rw [if_pos rfl] at hR
    obtain ⟨a1, a2, a3⟩ := valid_of hK
    have c1 : (Mth.dg 1000000000 (pN N1)).length ≤ 100000 := dv_len (b := 1000000000) (k := 100000) (by omega) a1 (Nat.le_trans (cut_len N1) l1)
    have c2 := dv_len (b := 1000000000) (k := 100000) (by omega) a2 l2
    have hof := fun W => fof_any N1 D1 W (by omega) (by omega) a1 a2
    unfold mqN at hR
    by_cases hs : sgn (negNum N1) (pN N1) < 0 ∨ M < 1 ∨ 2147483647 < M
    · rw [if_pos hs] at hR
      injection hR with q1 q2
      injection q2 with q2 q3
      subst q1
      subst q2
      subst q3
      exact qmul_low _ _ (negNum N1) (pN N1) (Mth.dv D1) M w c1 hs (Lib.hid hc1) (Lib.hid hof)
    · rw [if_neg hs] at hR
      have hg := val_neg hK (fun h => hs (.inl h))
      have hof2 : ∀ W, Calls Tryz.prog 66 #[.agg #[.string ⟨N1.toArray⟩, .string ⟨D1.toArray⟩]] W (FNum false (pN N1) (Mth.dv D1) W) := fun W => by have := hof W; rw [hg] at this; exact this
      have h := qmul_walk ⟨N1.toArray⟩ ⟨D1.toArray⟩ (pN N1) (Mth.dv D1) M.toNat R1 R2 R3 w c1 c2 a3 (by omega) (by omega) hR (Lib.hid hc1) (Lib.hid hof2)
      rwa [Int.toNat_of_nonneg (by omega)] at h
  · rw [if_neg v1] at hR
    injection hR with q1 q2
    injection q2 with q2 q3
    subst q1
    subst q2
    subst q3
    exact qmul_bad _ _ K M w v1 (Lib.hid hc1)
end Go.Proofs.YtldjemlmjfpmjaaGreatDoor
