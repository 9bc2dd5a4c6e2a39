/-
  nat.Div: quotient and rest.
-/
import Derived.Test.YtgaiibkkompbnaaGreatDoorNatA
import Derived.Test.YtgaiibkkompbnaaGreatDoorNatS
import Derived.Test.YtgaiibkkompbnaaGreatDoorNatDigit
namespace Go.Proofs.YtgaiibkkompbnaaGreatDoor
open Go.RowKit

set_option maxHeartbeats 1000000 in
set_option maxRecDepth 100000 in
theorem div_less (m n : Nat) (va vb : Value) (w : World) (ha : Nt w va m) (hb : Nt w vb n) (hs : (Mth.dg 1000000000 m).length ≤ 100000000000) (ht : (Mth.dg 1000000000 n).length ≤ 100000000000) (hlt : m < n) :
    Calls Tryz.prog 49 #[va, vb] w fun e w' => ∃ vq vr, e = .returned (.tuple #[vq, vr]) ∧ Below w.heap.size w w' ∧ Nt w' vq (m / n) ∧ Nt w' vr (m % n) := by
  have hcmp := cmp_any m n va vb w ha hb (by omega) (by omega)
  rw [Mth.cmp_lt hlt] at hcmp
  have hq : m / n = 0 := Nat.div_eq_of_lt hlt
  have hr : m % n = m := Nat.mod_eq_of_lt hlt
  rw [hq, hr]
  have HC := Lib.hid hcmp
  have HA := Lib.hid ha
  clear hcmp hq hr hb ha
  go_enter Tryz.func49, Tryz.ntmps49
  go_wp2_with fail
  refine HC.out.mono ?_
  rintro e w1 ⟨rfl, k, rfl⟩
  go_wp2_with (go_at_call 48; refine (clone_any (Mth.dg 1000000000 m) va _ (Sl.drewN HA.out _) (by omega)).mono ?_; rintro e w2 ⟨v', rfl, hB, hS⟩)
  go_ret2
  exact ⟨_, _, rfl, (below_drewN (Below.refl _ _) k).trans hB, by unfold Nt; rw [Mth.dg_zero]; exact Sl.nil_ _, hS⟩

set_option maxHeartbeats 1000000 in
set_option maxRecDepth 100000 in
theorem div_short (m n : Nat) (va vb : Value) (w : World) (ha : Nt w va m) (hb : Nt w vb n) (hs : (Mth.dg 1000000000 m).length ≤ 100000000000) (hge : n ≤ m) (hn0 : 0 < n) (hn1 : n < 1000000000) :
    Calls Tryz.prog 49 #[va, vb] w fun e w' => ∃ vq vr, e = .returned (.tuple #[vq, vr]) ∧ Below w.heap.size w w' ∧ Nt w' vq (m / n) ∧ Nt w' vr (m % n) := by
  have hd1 := Mth.dg_one (b := 1000000000) (by omega) hn0 hn1
  have hcmp := cmp_any m n va vb w ha hb (by omega) (by rw [hd1]; simp)
  have hb' := hb
  unfold Nt at hb'
  rw [hd1] at hb'
  obtain ⟨A', c', rfl, h1', h2', h3'⟩ := hb'
  obtain ⟨b, o, rfl, h4⟩ := h3' (by simp [u32s])
  have hc := h4 0 _ (u32s_at (by simp))
  simp only [List.getElem?_cons_zero, Option.getD_some, Nat.add_zero] at hc
  have hc2 : -1 < Mth.cmp m n := by
    rcases Nat.lt_or_ge n m with h | h
    · rw [Mth.cmp_gt h]; omega
    · obtain rfl : m = n := by omega
      rw [Mth.cmp_eq]; omega
  obtain ⟨cm, hcm⟩ : ∃ cm, Mth.cmp m n = cm := ⟨_, rfl⟩
  rw [hcm] at hcmp hc2
  have hc3 : 0 ≤ cm := by omega
  have HC := Lib.hid hcmp
  have HA := Lib.hid ha
  have HM := Lib.hid hge
  have hlen : (u32s [n]).length = 1 := rfl
  rw [hlen]
  have HCM := HC.out
  rw [hlen] at HCM
  have HC2 := Lib.hid HCM
  clear hcmp hb ha hd1 h4 h3' HC hge hcm h1' hlen HCM hc2
  go_enter Tryz.func49, Tryz.ntmps49
  go_wp2_with fail
  refine HC2.out.mono ?_
  rintro e w1 ⟨rfl, k, rfl⟩
  go_wp2_with (go_at_call 78; refine (short_list (Mth.dg 1000000000 m) n (Mth.dg_lt (by omega) m) va _ (Sl.drewN HA.out _) (by omega) hn0 (by omega)).mono ?_; rintro e w2 ⟨v', rfl, hB, hS⟩)
  rw [Mth.val_dg (by omega)] at *
  have HS := Lib.hid hS
  have HB2 := Lib.hid hB
  clear hS hB
  have hml : m % n < n := Nat.mod_lt _ hn0
  go_wp2_with (go_at_call 51; refine (of_any (m % n) _ (by omega)).mono ?_; rintro e w3 ⟨v3, rfl, hN, hB3⟩)
  go_ret2
  exact ⟨_, _, rfl, ((below_drewN (Below.refl _ _) k).trans HB2.out).trans (hB3.mono HB2.out.size), HS.out.below hB3, hN⟩

set_option maxHeartbeats 4000000 in
set_option maxRecDepth 100000 in
theorem div_long (la lb : List Nat) (m n k t g na N : Nat) (va vb : Value) (w : World) (ha : Sl w va (u32s la)) (hb : Sl w vb (u32s lb)) (hna : la.length = na) (hk : lb.length = k + 2) (hN : na = k + 1 + N) (hN0 : 0 < N) (hs : na ≤ 100000000000)
    (hdm : ∀ d ∈ la, d < 1000000000) (hdn : ∀ d ∈ lb, d < 1000000000) (hvm : Mth.val 1000000000 la = m) (hvn : Mth.val 1000000000 lb = n) (ht : lb[k + 1]?.getD 0 = t)
    (htb : t < 1000000000) (hgi : (1000000000 : Int) / ((t : Int) + 1) = (g : Int)) (hg0 : 0 < g) (hg1 : g ≤ 1000000000) (hfu : Mth.val 1000000000 la * g < 1000000000 ^ (na + 1)) (hfv : Mth.val 1000000000 lb * g < 1000000000 ^ (k + 2))
    (hst : m * g < n * g * 1000000000 ^ N) (htop : ∀ V : List Nat, V.length = k + 2 → (∀ d ∈ V, d < 1000000000) → Mth.val 1000000000 V = n * g → 0 < V[k + 1]?.getD 0) (hng : 0 < n * g) (hngp : n * g < 1000000000 ^ (k + 2))
    (cm : Int) (hc3 : 0 ≤ cm) (hcmp : Calls Tryz.prog 77 #[va, vb] w fun e w' => e = .returned (.int .i64 cm) ∧ ∃ k, w' = w.drewN k) :
    Calls Tryz.prog 49 #[va, vb] w fun e w' => ∃ vq vr, e = .returned (.tuple #[vq, vr]) ∧ Below w.heap.size w w' ∧ Nt w' vq (m / n) ∧ Nt w' vr (m % n) := by
  have HA := Lib.hid ha
  have HB := Lib.hid hb
  obtain ⟨A, c, rfl, h1, h2, h3⟩ := ha
  obtain ⟨A', c', rfl, h1', h2', h3'⟩ := hb
  simp only [u32s_length] at *
  obtain ⟨b', o', rfl, hc⟩ := h3' (by omega)
  have hb1 := hc (k + 1) _ (u32s_at (by omega))
  rw [ht] at hb1
  have hn1 : (na : Int) = (k : Int) + 1 + (N : Int) := by omega
  rw [hk, hna]
  rw [hk] at h1' hcmp
  rw [hna] at h1 hcmp
  have HNA := Lib.hid hna
  have HK := Lib.hid hk
  have HC := Lib.hid hcmp
  have HFU := Lib.hid hfu
  have HFV := Lib.hid hfv
  have HVN := Lib.hid hvn
  have HVM := Lib.hid hvm
  have HDN := Lib.hid hdn
  have HDM := Lib.hid hdm
  have HST := Lib.hid hst
  have HTOP := Lib.hid htop
  have HNG := Lib.hid hng
  have HNGP := Lib.hid hngp
  have hN2 : (na : Int) - ((k : Int) + 2) + 1 = (N : Int) := by omega
  have HN1 := Lib.hid hn1
  have hle1 : (k : Int) + 2 ≤ (na : Int) := by omega
  have hle2 : (N : Int) ≤ (na : Int) := by omega
  have hmk := run_make_row' (P := Tryz.prog) 70 96 (.int .u32 0) 4 Tryz.underlying70 info_u32 rfl .i64 .i64 N (by omega) (by omega)
  have HMK := Lib.hid hmk
  clear hcmp hfu hfv hvn hvm hdn hdm hst htop hng hngp h3 h3' hc ht hk hna hN hn1 hmk
  go_enter Tryz.func49, Tryz.ntmps49
  go_wp2_with fail
  refine HC.out.mono ?_
  rintro e w1 ⟨rfl, dr, rfl⟩
  go_wp2_with fail
  have hs1 := scaled_list la g (na + 1) HDM.out _ (w.drewN dr) (HA.out.drewN dr) (by rw [HNA.out]; omega) hg0 hg1 (by rw [HNA.out]; omega) (by omega) HFU.out
  simp only [Int.natCast_add, Int.natCast_one] at hs1
  rw [HNA.out] at hs1
  refine hs1.mono ?_
  clear hs1
  rintro e w1 ⟨U0, rfl, hB1, hO1, hl1, hd1, hv1⟩
  have hB1' : Below w.heap.size w w1 := (below_drewN (Below.refl _ _) dr).trans hB1
  have hs2 := scaled_list lb g (k + 2) HDN.out _ w1 (HB.out.below hB1') (by rw [HK.out]; omega) hg0 hg1 (by rw [HK.out]; exact Nat.le_refl _) (by omega) HFV.out
  simp only [Int.natCast_add, Int.cast_ofNat_Int] at hs2
  rw [HK.out] at hs2
  have HS2 := Lib.hid hs2
  have HO1 := Lib.hid hO1
  have HL1 := Lib.hid hl1
  have HD1 := Lib.hid hd1
  have HV1 := Lib.hid hv1
  have HB1 := Lib.hid hB1'
  have hz1 := hB1'.size
  have hz0 := hO1.lt
  clear hs2 hO1 hl1 hd1 hv1 hB1 hB1'
  go_wp2_with fail
  refine HS2.out.mono ?_
  rintro e w2 ⟨V, rfl, hB2, hO2, hl2, hd2, hv2⟩
  have HVT := Lib.hid (HTOP.out V hl2 hd2 (by rw [hv2, HVN.out]))
  have HO2 := Lib.hid hO2
  have HL2 := Lib.hid hl2
  have HD2 := Lib.hid hd2
  have HV2 := Lib.hid (hv2.trans (by rw [HVN.out]))
  have HB2 := Lib.hid hB2
  have hz2 := hB2.size
  have hz3 := hO2.lt
  clear hO2 hl2 hd2 hv2 hB2
  have hmk := HMK.out
  go_wp2_with fail
  clear hmk
  have hzu : w.heap.size < w1.heap.size := by have := hz0; simp at this; exact this
  go_loopw [12] (fun a12 wr => ∃ (i : Int) (U O : List Nat), a12 = .int .i64 i ∧ -1 ≤ i ∧ i < N ∧ U.length = na + 1 ∧ O.length = N ∧ Own wr w.heap.size U ∧ Own wr w1.heap.size V ∧ Own wr w2.heap.size O ∧
    (∀ d ∈ U, d < 1000000000) ∧ (∀ d ∈ O, d < 1000000000) ∧ m * g = n * g * 1000000000 ^ (i + 1).toNat * Mth.val 1000000000 (O.drop (i + 1).toNat) + Mth.val 1000000000 U ∧
    Mth.val 1000000000 U < n * g * 1000000000 ^ (i + 1).toNat ∧ Below w.heap.size w wr) (fun a12 _ => (intOf a12 + 1).toNat)
  case atStart =>
    have hb2 := HB2.out
    refine ⟨(N : Int) - 1, U0, List.replicate N 0, rfl, by omega, by omega, HL1.out, by simp, ?_, HO2.out.alloc _, Own.made w2 N, HD1.out, by simp, ?_, ?_, ((HB1.out.trans (hb2.mono (by omega))).alloc (by omega) _)⟩
    · exact (HO1.out.below hb2 hzu).alloc _
    · rw [show ((N : Int) - 1 + 1).toNat = N by omega, List.drop_eq_nil_of_le (by simp), HV1.out, HVM.out]
      simp only [Mth.val, Nat.mul_zero, Nat.zero_add]
    · rw [show ((N : Int) - 1 + 1).toNat = N by omega, HV1.out, HVM.out]
      exact HST.out
  case round =>
    obtain ⟨i, U, O, rfl, hi1, hi2, hlU, hlO, hoU, hoV, hoO, hdU, hdO, hA, hU, hB⟩ := hrel
    have HLU := Lib.hid hlU
    have HLO := Lib.hid hlO
    have HDU := Lib.hid hdU
    have HDO := Lib.hid hdO
    have HAA := Lib.hid hA
    have HU := Lib.hid hU
    have hBs := hB.size
    clear hdU hdO hA hU
    by_cases h0 : i < 0
    · obtain rfl : i = -1 := by omega
      have hA0 := HAA.out
      have hU0 := HU.out
      simp only [Int.reduceNeg, Int.reduceAdd, Int.toNat_zero, List.drop_zero, Nat.pow_zero, Nat.mul_one] at hA0 hU0
      obtain ⟨f1, f2⟩ := Mth.div_end hg0 hA0 hU0
      have F1 := Lib.hid f1
      have F2 := Lib.hid f2
      have hcut := Mth.val_take_lt (b := 1000000000) (by omega) (l := U) (k := k + 2) (by have := HNGP.out; omega)
      have HCUT := Lib.hid hcut
      have hslu := hoU.sl (c := na + 1) (by omega) (by unfold maxLen; omega)
      rw [HLU.out] at hslu
      have hslu2 := hslu.head (k := k + 2) (by rw [u32s_length, HLU.out]; omega)
      have hslo := hoO.sl (c := N) (by omega) (by unfold maxLen; omega)
      rw [HLO.out] at hslo
      rw [u32s, ← List.map_take] at hslu2
      have HSU := Lib.hid hslu2
      have HSO := Lib.hid hslo
      have hzo : (2 : Int) + k ≤ (na : Int) + 1 := by omega
      clear hA0 hU0 f1 f2 hcut hslu hslu2 hslo hlU hlO h0 hi1 hi2
      go_wp2_with fail
      refine (trim_any (U.take (k + 2)) _ _ HSU.out (by rw [List.length_take, HLU.out]; omega)).mono ?_
      rintro e w' ⟨vt, rfl, hS, rfl⟩
      have HST2 := Lib.hid hS
      clear hS
      go_wp2_with fail
      have htl : (Mth.tidy (U.take (k + 2))).length ≤ k + 2 := by
        have := Mth.tidy_len (U.take (k + 2))
        rw [List.length_take] at this
        omega
      have hsh := short_list (Mth.tidy (U.take (k + 2))) g (fun d hd => HDU.out d (List.mem_of_mem_take (Mth.tidy_mem hd))) vt _ HST2.out (by omega) hg0 hg1
      rw [Mth.val_tidy 1000000000 _ (U.take (k + 2)) rfl, HCUT.out, F2.out] at hsh
      refine hsh.mono ?_
      clear hsh htl
      rintro e w4 ⟨vr, rfl, hB4, hN4⟩
      have HN4 := Lib.hid hN4
      have HB4 := Lib.hid hB4
      have HSO4 := Lib.hid (HSO.out.below hB4)
      clear hN4 hB4
      go_wp2_with fail
      refine (trim_any O _ _ HSO4.out (by rw [HLO.out]; omega)).mono ?_
      rintro e w' ⟨vq, rfl, hS, rfl⟩
      have HQ := Lib.hid hS
      clear hS
      go_wp2
      go_ret2
      refine ⟨vq, vr, rfl, hB.trans (HB4.out.mono hBs), ?_, HN4.out⟩
      unfold Nt
      rw [← F1.out, ← Mth.tidy_eq (by omega) O HDO.out]
      exact HQ.out
    · obtain ⟨q, rfl⟩ : ∃ q : Nat, i = q := ⟨i.toNat, by omega⟩
      have hq9 : q + (k + 2 + 1) ≤ U.length := by have := HN1.out; omega
      have HQ9 := Lib.hid hq9
      have hqa : (q : Int) + k + 3 ≤ (na : Int) + 1 := by have := HN1.out; omega
      have g0 := hoO.cell (j := q) (by omega)
      have gf := hoO.frozen q
      obtain ⟨z, hz⟩ : ∃ z, O[q]?.getD 0 = z := ⟨_, rfl⟩
      rw [hz] at g0
      clear hz hlU hlO hq9
      have hU0 := HU.out
      have hA0 := HAA.out
      rw [show ((q : Int) + 1).toNat = q + 1 by omega] at hU0 hA0
      obtain ⟨hp1, hp2⟩ := Mth.div_pre (b := 1000000000) (by omega) HQ9.out HNGP.out hU0
      have hmidl : ((U.drop q).take (k + 2 + 1)).length = k + 3 := by
        have := HQ9.out
        rw [List.length_take, List.length_drop]; omega
      have hdig := digit_any (U.take q) ((U.drop q).take (k + 2 + 1)) (U.drop (q + (k + 2 + 1))) V k w.heap.size w1.heap.size (na + 1 - q) (k + 2) wr (by rw [Mth.cut3]; exact hoU) hoV (by omega)
        (fun d hd => HDU.out d (List.mem_of_mem_drop (List.mem_of_mem_take hd))) HD2.out HL2.out hmidl (by omega) (by have := HN1.out; omega) (by omega) (Nat.le_refl _) (by omega) (by rw [List.length_take]; omega) HVT.out
        (by rw [HV2.out]; exact hp1)
      rw [List.length_take, Nat.min_eq_left (by have := HQ9.out; omega), HV2.out] at hdig
      have hQ9 : Mth.val 1000000000 ((U.drop q).take (k + 2 + 1)) / (n * g) < 1000000000 := Nat.div_lt_of_lt_mul (by rw [Nat.mul_comm]; exact hp1)
      obtain ⟨Qd, hQd⟩ : ∃ x, Mth.val 1000000000 ((U.drop q).take (k + 2 + 1)) / (n * g) = x := ⟨_, rfl⟩
      rw [hQd] at hdig hQ9
      have HDG := Lib.hid hdig
      have HQD := Lib.hid hQd
      have HP2 := Lib.hid hp2
      have HA0 := Lib.hid hA0
      clear hU0 hA0 hp1 hp2 hmidl hdig hQd
      go_wp2_with fail
      rw [show q + (k + 2) + 1 - q = k + 3 by omega]
      refine HDG.out.mono ?_
      rintro e w3 ⟨W, rfl, hoW, hlW, hdW, hvW, hg3⟩
      have hcO := (hoO.only hg3 (by omega)).cell (j := q) (by rw [HLO.out]; omega)
      have hfO := (hoO.only hg3 (by omega)).frozen q
      obtain ⟨z2, hz2⟩ : ∃ z, O[q]?.getD 0 = z := ⟨_, rfl⟩
      rw [hz2] at hcO
      have HOW := Lib.hid hoW
      have HLW := Lib.hid hlW
      have HDW := Lib.hid hdW
      have HVW := Lib.hid hvW
      have HG3 := Lib.hid hg3
      have hz4 := hg3.size
      clear hoW hlW hdW hvW hg3 hz2 g0 gf
      go_wp2
      go_roundw
      case rel =>
        have hr := Mth.div_round (b := 1000000000) (A := m * g) (V := n * g) (q := q) (nb := k + 2) (U := U) (W := W) (O := O) (by omega) HQ9.out HDU.out (by rw [HLO.out]; omega) HNG.out HP2.out HA0.out HLW.out HVW.out
        rw [HQD.out] at hr
        obtain ⟨r1, r2⟩ := hr
        refine ⟨(q : Int) - 1, U.take q ++ W ++ U.drop (q + (k + 2 + 1)), O.set q Qd, rfl, by omega, by omega, ?_, by simp [HLO.out], ?_, ?_, ?_, ?_, Mth.mem_set_lt HDO.out hQ9, ?_, ?_, ?_⟩
        · have := HQ9.out
          have := HLU.out
          simp [HLW.out]
          omega
        · exact HOW.out.far (by simp; omega) _
        · exact (hoV.only HG3.out (by omega)).far (by simp; omega) _
        · exact (hoO.only HG3.out (by omega)).set _ _
        · intro d hd
          rcases List.mem_append.1 hd with h | h
          · rcases List.mem_append.1 h with h | h
            · exact HDU.out d (List.mem_of_mem_take h)
            · exact HDW.out d h
          · exact HDU.out d (List.mem_of_mem_drop h)
        · rw [show ((q : Int) - 1 + 1).toNat = q by omega]; exact r1
        · rw [show ((q : Int) - 1 + 1).toNat = q by omega]; exact r2
        · exact (hB.grown HG3.out hB.size (fun x hx => by cases hx; exact Nat.le_refl _)).setCell (p := ⟨w2.heap.size, q, none⟩) (by show w.heap.size ≤ w2.heap.size; omega) _
      case measure => simp [intOf]

theorem div_any (m n : Nat) (va vb : Value) (w : World) (ha : Nt w va m) (hb : Nt w vb n) (hs : (Mth.dg 1000000000 m).length ≤ 100000000000) (ht : (Mth.dg 1000000000 n).length ≤ 100000000000) (hn0 : 0 < n) :
    Calls Tryz.prog 49 #[va, vb] w fun e w' => ∃ vq vr, e = .returned (.tuple #[vq, vr]) ∧ Below w.heap.size w w' ∧ Nt w' vq (m / n) ∧ Nt w' vr (m % n) := by
  rcases Nat.lt_or_ge m n with hmn | hmn
  · exact div_less m n va vb w ha hb hs ht hmn
  · have hml : (Mth.dg 1000000000 n).length ≤ (Mth.dg 1000000000 m).length := by
      rcases Nat.lt_or_ge (Mth.dg 1000000000 m).length (Mth.dg 1000000000 n).length with h | h
      · have := Mth.lt_of_len (b := 1000000000) (by omega) h
        omega
      · exact h
    by_cases hl : (Mth.dg 1000000000 n).length ≤ 1
    · refine div_short m n va vb w ha hb hs hmn hn0 ?_
      have := Mth.lt_pow_dg (b := 1000000000) (by omega) n
      have h2 : (1000000000 : Nat) ^ (Mth.dg 1000000000 n).length ≤ 1000000000 ^ 1 := Nat.pow_le_pow_right (by omega) hl
      omega
    · obtain ⟨k, hk⟩ : ∃ k, (Mth.dg 1000000000 n).length = k + 2 := ⟨(Mth.dg 1000000000 n).length - 2, by omega⟩
      obtain ⟨t, ht⟩ : ∃ t, (Mth.dg 1000000000 n)[k + 1]?.getD 0 = t := ⟨_, rfl⟩
      obtain ⟨g, hg⟩ : ∃ g, 1000000000 / (t + 1) = g := ⟨_, rfl⟩
      obtain ⟨p1, p2, p3, p4, p5⟩ := Mth.div_prep (b := 1000000000) (by omega) hk (Mth.dg_lt (by omega) n) (Mth.dg_last (by omega) n) (Mth.val_dg (by omega) n) ht hg
      obtain ⟨N, hN⟩ : ∃ N, (Mth.dg 1000000000 m).length = k + 1 + N := ⟨(Mth.dg 1000000000 m).length - (k + 1), by omega⟩
      have hpm := Mth.lt_pow_dg (b := 1000000000) (by omega) m
      have hcmp := cmp_any m n va vb w ha hb (by omega) (by omega)
      have hc3 : 0 ≤ Mth.cmp m n := by
        rcases Nat.lt_or_ge n m with h | h
        · rw [Mth.cmp_gt h]; omega
        · obtain rfl : m = n := by omega
          rw [Mth.cmp_eq]; omega
      exact div_long (Mth.dg 1000000000 m) (Mth.dg 1000000000 n) m n k t g (Mth.dg 1000000000 m).length N va vb w ha hb rfl hk hN (by omega) hs (Mth.dg_lt (by omega) m) (Mth.dg_lt (by omega) n) (Mth.val_dg (by omega) m) (Mth.val_dg (by omega) n) ht p3
        (by rw [← hg, Int.natCast_ediv]; simp) p1 p2 (by rw [Mth.val_dg (by omega)]; exact Mth.div_fit hpm p2 p1) (by rw [Mth.val_dg (by omega)]; exact p4) (Mth.div_start hpm p5 hN p1)
        (fun V h1 h2 h3 => Mth.div_top (by omega) h1 h2 h3 p5 p1) (Nat.mul_pos hn0 p1) p4 _ hc3 hcmp
end Go.Proofs.YtgaiibkkompbnaaGreatDoor
