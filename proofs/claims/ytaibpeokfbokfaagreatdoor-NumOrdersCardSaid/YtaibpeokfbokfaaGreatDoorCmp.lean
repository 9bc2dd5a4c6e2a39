/-
  Cmp of frac and of the reference.
-/
import Derived.Test.YtaibpeokfbokfaaGreatDoorSgn
import Derived.Test.YtaibpeokfbokfaaGreatDoorSub
import Derived.Test.YtaibpeokfbokfaaGreatDoorFrac2
import Derived.Deep.RegionHeld3
import Derived.Outline
namespace Go.Proofs.YtaibpeokfbokfaaGreatDoor
open Go.RowKit

theorem sgn_cases (g : Bool) (m : Nat) : sgn g m = -1 ∨ sgn g m = 0 ∨ sgn g m = 1 := by
  unfold sgn; split
  · exact Or.inr (Or.inl rfl)
  · split
    · exact Or.inl rfl
    · exact Or.inr (Or.inr rfl)
theorem cmp_cases (m n : Nat) : Mth.cmp m n = -1 ∨ Mth.cmp m n = 0 ∨ Mth.cmp m n = 1 := by
  unfold Mth.cmp; split
  · exact Or.inl rfl
  · split
    · exact Or.inr (Or.inr rfl)
    · exact Or.inr (Or.inl rfl)

set_option maxHeartbeats 4000000 in
set_option maxRecDepth 100000 in
theorem fcmp_any (g1 g2 : Bool) (m1 d1 m2 d2 : Nat) (x1 y1 x2 y2 : Value) (w : World) (h1 : Nt w x1 m1) (h2 : Nt w y1 d1) (h3 : Nt w x2 m2) (h4 : Nt w y2 d2)
    (l1 : (Mth.dg 1000000000 m1).length ≤ 1000000) (l2 : (Mth.dg 1000000000 d1).length ≤ 1000000) (l3 : (Mth.dg 1000000000 m2).length ≤ 1000000) (l4 : (Mth.dg 1000000000 d2).length ≤ 1000000) :
    Calls Tryz.prog 67 #[.agg #[.bool g1, x1, y1], .agg #[.bool g2, x2, y2]] w fun e w' => e = .returned (.int .i64 (cmpQ g1 m1 d1 g2 m2 d2)) ∧ Below w.heap.size w w' := by
  obtain ⟨A1, n1, k1, rfl⟩ := h1.shape
  obtain ⟨A2, n2, k2, rfl⟩ := h2.shape
  obtain ⟨A3, n3, k3, rfl⟩ := h3.shape
  obtain ⟨A4, n4, k4, rfl⟩ := h4.shape
  obtain ⟨W, hW⟩ : ∃ W, W = (w.alloc (.cells #[.bool g1, .slice A1 n1 k1, .slice A2 n2 k2] 78)).alloc (.cells #[.bool g2, .slice A3 n3 k3, .slice A4 n4 k4] 78) := ⟨_, rfl⟩
  have hBW : Below w.heap.size w W := by rw [hW]; exact ((Below.refl _ w).alloc (Nat.le_refl _) _).alloc (by simp) _
  have hk0 : Blk W w.heap.size 78 #[.bool g1, .slice A1 n1 k1, .slice A2 n2 k2] := by rw [hW]; exact (Blk.new w _ _).alloc _
  have hk1 : Blk W (w.heap.size + 1) 78 #[.bool g2, .slice A3 n3 k3, .slice A4 n4 k4] := by
    rw [hW]
    have := Blk.new (w.alloc (.cells #[.bool g1, .slice A1 n1 k1, .slice A2 n2 k2] 78)) 78 #[.bool g2, .slice A3 n3 k3, .slice A4 n4 k4]
    rwa [World.size_alloc] at this
  have HS : Hid (∀ w', Below W.heap.size W w' → (w'.cell? ⟨w.heap.size, 0, none⟩ = some (.bool g1) ∧ w'.cell? ⟨w.heap.size, 1, none⟩ = some (.slice A1 n1 k1) ∧ w'.cell? ⟨w.heap.size, 2, none⟩ = some (.slice A2 n2 k2)) ∧
      w'.cell? ⟨w.heap.size + 1, 0, none⟩ = some (.bool g2) ∧ w'.cell? ⟨w.heap.size + 1, 1, none⟩ = some (.slice A3 n3 k3) ∧ w'.cell? ⟨w.heap.size + 1, 2, none⟩ = some (.slice A4 n4 k4)) := Lib.hid fun w' hb =>
    ⟨⟨(hk0.low hb).cell 0, (hk0.low hb).cell 1, (hk0.low hb).cell 2⟩, (hk1.low hb).cell 0, (hk1.low hb).cell 1, (hk1.low hb).cell 2⟩
  obtain ⟨⟨e0, e1, e2⟩, e3, e4, e5⟩ := HS.out W (Below.refl _ W)
  have H1 := Lib.hid (h1.below hBW)
  have H2 := Lib.hid (h2.below hBW)
  have H3 := Lib.hid (h3.below hBW)
  have H4 := Lib.hid (h4.below hBW)
  have hsg1 := fun W' (hb : Below W.heap.size W W') => fsign_any g1 m1 d1 _ _ W' ((h1.below hBW).below hb) ((h2.below hBW).below hb) (by omega)
  have hsg2 := fun W' (hb : Below W.heap.size W W') => fsign_any g2 m2 d2 _ _ W' ((h3.below hBW).below hb) ((h4.below hBW).below hb) (by omega)
  obtain ⟨s, hs⟩ : ∃ s, sgn g1 m1 = s := ⟨_, rfl⟩
  obtain ⟨t, ht⟩ : ∃ t, sgn g2 m2 = t := ⟨_, rfl⟩
  obtain ⟨R, hR⟩ : ∃ R, cmpQ g1 m1 d1 g2 m2 d2 = R := ⟨_, rfl⟩
  have HR : Hid ((s < t → R = -1) ∧ (t < s → R = 1) ∧ (¬ s < t → ¬ t < s → R = s * Mth.cmp (m1 * d2) (m2 * d1))) := Lib.hid (by
    rw [← hR, ← hs, ← ht]; unfold cmpQ
    exact ⟨fun h => if_pos h, fun h => by rw [if_neg (by omega), if_pos h], fun h h' => by rw [if_neg h, if_neg h']⟩)
  have HSC : Hid (s = -1 ∨ s = 0 ∨ s = 1) := Lib.hid (by rw [← hs]; exact sgn_cases g1 m1)
  rw [hs] at hsg1
  rw [ht] at hsg2
  rw [hR]
  have HSG1 := Lib.hid hsg1
  have HSG2 := Lib.hid hsg2
  have HBW := Lib.hid hBW
  have HW := Lib.hid hW
  have hlx : (Mth.dg 1000000000 (m1 * d2)).length ≤ 1000000000000 := Nat.le_trans (Mth.dg_len_mul (by omega) _ _) (by omega)
  have hly : (Mth.dg 1000000000 (m2 * d1)).length ≤ 1000000000000 := Nat.le_trans (Mth.dg_len_mul (by omega) _ _) (by omega)
  have tok1 : True := trivial
  clear hs ht hR hsg1 hsg2 hBW hW hk0 hk1 h1 h2 h3 h4
  go_enter Tryz.func67, Tryz.ntmps67
  go_wp2_with fail
  rw [← HW.out]
  go_region_held3 (fun w' => (w'.cell? ⟨w.heap.size, 0, none⟩ = some (.bool g1) ∧ w'.cell? ⟨w.heap.size, 1, none⟩ = some (.slice A1 n1 k1) ∧ w'.cell? ⟨w.heap.size, 2, none⟩ = some (.slice A2 n2 k2)) ∧
      w'.cell? ⟨w.heap.size + 1, 0, none⟩ = some (.bool g2) ∧ w'.cell? ⟨w.heap.size + 1, 1, none⟩ = some (.slice A3 n3 k3) ∧ w'.cell? ⟨w.heap.size + 1, 2, none⟩ = some (.slice A4 n4 k4))
    (first | exact ⟨⟨e0, e1, e2⟩, e3, e4, e5⟩ | go_keep)
    (first
      | (go_at_call 63; have _t := tok1; refine (HSG1.out _ (Below.refl _ W).drew).mono ?_; rintro e w1 ⟨rfl, hB1⟩; have HC1 : Hid (Below W.heap.size W w1) := Lib.hid ((Below.refl _ W).drew.trans hB1); clear hB1 tok1 _t e0 e1 e2 e3 e4 e5; obtain ⟨⟨e0, e1, e2⟩, e3, e4, e5⟩ := HS.out w1 HC1.out)
      | (go_at_call 63; refine (HSG2.out _ HC1.out).mono ?_; rintro e w2 ⟨rfl, hB2⟩; have HC2 : Hid (Below W.heap.size W w2) := Lib.hid (HC1.out.trans (hB2.mono HC1.out.size)); clear hB2 e0 e1 e2 e3 e4 e5; obtain ⟨⟨e0, e1, e2⟩, e3, e4, e5⟩ := HS.out w2 HC2.out))
  by_cases hst : s < t
  · have hRv : R = -1 := (HR.out).1 hst
    subst hRv
    go_wp2
    go_ret
    exact ⟨rfl, HBW.out.trans (HC2.out.mono HBW.out.size)⟩
  · by_cases hts : t < s
    · have hRv : R = 1 := (HR.out).2.1 hts
      subst hRv
      have hts2 : decide (s < t) = false := by simpa using hst
      go_wp2
      go_ret
      exact ⟨rfl, HBW.out.trans (HC2.out.mono HBW.out.size)⟩
    · have hRv : R = s * Mth.cmp (m1 * d2) (m2 * d1) := (HR.out).2.2 (by omega) (by omega)
      have hst2 : decide (s < t) = false := by simpa using hst
      have hts2 : decide (t < s) = false := by simpa using hts
      obtain ⟨cv, hcv⟩ : ∃ cv, Mth.cmp (m1 * d2) (m2 * d1) = cv := ⟨_, rfl⟩
      have hcc := cmp_cases (m1 * d2) (m2 * d1)
      rw [hcv] at hRv hcc
      have hwr : IntKind.i64.wrap (s * cv) = s * cv := by
        rcases HSC.out with h | h | h <;> rcases hcc with h' | h' | h' <;> (subst h; subst h'; rfl)
      subst hRv
      have HCV := Lib.hid hcv
      have HWR := Lib.hid hwr
      have tok2 : True := trivial
      clear hcv hcc hwr hst hts
      go_wp2_with fail
      go_region_held3 (fun w' => (w'.cell? ⟨w.heap.size, 0, none⟩ = some (.bool g1) ∧ w'.cell? ⟨w.heap.size, 1, none⟩ = some (.slice A1 n1 k1) ∧ w'.cell? ⟨w.heap.size, 2, none⟩ = some (.slice A2 n2 k2)) ∧
          w'.cell? ⟨w.heap.size + 1, 0, none⟩ = some (.bool g2) ∧ w'.cell? ⟨w.heap.size + 1, 1, none⟩ = some (.slice A3 n3 k3) ∧ w'.cell? ⟨w.heap.size + 1, 2, none⟩ = some (.slice A4 n4 k4))
        (first | exact ⟨⟨e0, e1, e2⟩, e3, e4, e5⟩ | go_keep)
        (first
          | (go_at_call 84; have _t := tok2; refine (mul_any m1 d2 _ _ _ (H1.out.below HC2.out.drew) (H4.out.below HC2.out.drew) (by omega) (by omega)).mono ?_; rintro e w3 ⟨v3, rfl, hB3, hN3⟩; have HN3 := Lib.hid hN3; have HC3 : Hid (Below W.heap.size W w3) := Lib.hid (HC2.out.drew.trans (hB3.mono HC2.out.drew.size)); clear hB3 hN3 tok2 _t e0 e1 e2 e3 e4 e5; obtain ⟨⟨e0, e1, e2⟩, e3, e4, e5⟩ := HS.out w3 HC3.out)
          | (go_at_call 84; refine (mul_any m2 d1 _ _ _ (H3.out.below HC3.out) (H2.out.below HC3.out) (by omega) (by omega)).mono ?_; rintro e w4 ⟨v4, rfl, hB4, hN4⟩; have HN4 := Lib.hid hN4; have HN34 := Lib.hid (HN3.out.below hB4); have HC4 : Hid (Below W.heap.size W w4) := Lib.hid (HC3.out.trans (hB4.mono HC3.out.size)); clear hB4 hN4 e0 e1 e2 e3 e4 e5; obtain ⟨⟨e0, e1, e2⟩, e3, e4, e5⟩ := HS.out w4 HC4.out)
          | (go_at_call 94; refine (cmp_any (m1 * d2) (m2 * d1) _ _ _ HN34.out HN4.out hlx hly).mono ?_; rintro e w5 ⟨rfl, kk, rfl⟩; rw [HCV.out]; have HC5 : Hid (Below W.heap.size W (w4.drewN kk)) := Lib.hid (below_drewN HC4.out kk); clear e0 e1 e2 e3 e4 e5; obtain ⟨⟨e0, e1, e2⟩, e3, e4, e5⟩ := HS.out _ HC5.out))
      go_wp2
      rw [HWR.out]
      go_ret
      exact ⟨rfl, HBW.out.trans (HC5.out.mono HBW.out.size)⟩

set_option maxHeartbeats 4000000 in
set_option maxRecDepth 100000 in
theorem rncmp_any (g1 g2 : Bool) (m1 d1 m2 d2 : Nat) (x1 y1 x2 y2 : Value) (w : World) (h1 : Pt w x1 m1) (h2 : Pt w y1 d1) (h3 : Pt w x2 m2) (h4 : Pt w y2 d2)
    (l1 : (Mth.dg 10000 m1).length ≤ 1000000) (l2 : (Mth.dg 10000 d1).length ≤ 1000000) (l3 : (Mth.dg 10000 m2).length ≤ 1000000) (l4 : (Mth.dg 10000 d2).length ≤ 1000000) (p1 : 0 < d1) (p2 : 0 < d2) :
    Calls Tryz.prog 31 #[.agg #[.bool g1, x1, y1], .agg #[.bool g2, x2, y2]] w fun e w' => e = .returned (.int .i64 (cmpQ g1 m1 d1 g2 m2 d2)) ∧ Below w.heap.size w w' := by
  rw [← sgn_sub g1 g2 m1 d1 m2 d2 p1 p2]
  obtain ⟨A1, n1, k1, rfl⟩ := h1.shape
  obtain ⟨A2, n2, k2, rfl⟩ := h2.shape
  obtain ⟨A3, n3, k3, rfl⟩ := h3.shape
  obtain ⟨A4, n4, k4, rfl⟩ := h4.shape
  obtain ⟨W, hW⟩ : ∃ W, W = (w.alloc (.cells #[.bool g1, .slice A1 n1 k1, .slice A2 n2 k2] 33)).alloc (.cells #[.bool g2, .slice A3 n3 k3, .slice A4 n4 k4] 33) := ⟨_, rfl⟩
  have hBW : Below w.heap.size w W := by rw [hW]; exact ((Below.refl _ w).alloc (Nat.le_refl _) _).alloc (by simp) _
  have hsub := rnsub_any g1 g2 m1 d1 m2 d2 _ _ _ _ W (h1.below hBW) (h2.below hBW) (h3.below hBW) (h4.below hBW) l1 l2 l3 l4 (Nat.mul_pos p1 p2)
  obtain ⟨S, hS⟩ : ∃ S, rneg (addS g1 (rneg (!g2) m2) (m1 * d2) (m2 * d1)) (addM g1 (rneg (!g2) m2) (m1 * d2) (m2 * d1)) = S := ⟨_, rfl⟩
  obtain ⟨M, hM⟩ : ∃ M, rnum (addM g1 (rneg (!g2) m2) (m1 * d2) (m2 * d1)) (d1 * d2) = M := ⟨_, rfl⟩
  obtain ⟨D, hD⟩ : ∃ D, rden (addM g1 (rneg (!g2) m2) (m1 * d2) (m2 * d1)) (d1 * d2) = D := ⟨_, rfl⟩
  rw [hS, hM, hD] at hsub
  rw [hS, hM]
  have HSUB := Lib.hid hsub
  have HBW := Lib.hid hBW
  have HW := Lib.hid hW
  clear hS hM hD hsub hBW hW h1 h2 h3 h4
  go_enter Tryz.func31, Tryz.ntmps31
  go_wp2_with fail
  rw [← HW.out]
  refine HSUB.out.mono ?_
  rintro e w1 ⟨v1, v2, rfl, hN1, hN2, hB1⟩
  have HB1 := Lib.hid hB1
  have HSG := Lib.hid (rsign_any S M D v1 v2 w1 hN1 hN2)
  clear hN1 hN2 hB1
  go_wp2_with fail
  refine HSG.out.mono ?_
  rintro e w2 ⟨rfl, hB2⟩
  have HB2 := Lib.hid (HB1.out.trans (hB2.mono HB1.out.size))
  clear hB2
  go_wp2
  go_ret
  exact ⟨rfl, HBW.out.trans (HB2.out.mono HBW.out.size)⟩
end Go.Proofs.YtaibpeokfbokfaaGreatDoor
