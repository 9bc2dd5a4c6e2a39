/-
  numOf with a common divisor, Quo of the reference.
-/
import Derived.Test.YtlildanamfjnmaaGreatDoorRNum
namespace Go.Proofs.YtlildanamfjnmaaGreatDoor
open Go.RowKit

set_option maxHeartbeats 4000000 in
set_option maxRecDepth 100000 in
theorem rnumOf_div (neg : Bool) (m n : Nat) (va vb : Value) (w : World) (ha : Pt w va m) (hb : Pt w vb n) (hs : (Mth.dg 10000 m).length ≤ 100000000) (ht : (Mth.dg 10000 n).length ≤ 100000000) (hn0 : 0 < n) (hg : Nat.gcd m n ≠ 1) :
    Calls Tryz.prog 65 #[.bool neg, va, vb] w (RNum (rneg neg (m / Nat.gcd m n)) (m / Nat.gcd m n) (n / Nat.gcd m n) w) := by
  obtain ⟨W, hW⟩ : ∃ W, W = w.alloc (.cells #[.bool false, .slice none 0 0, .slice none 0 0] 37) := ⟨_, rfl⟩
  have hBW : Below w.heap.size w W := by rw [hW]; exact (Below.refl _ _).alloc (Nat.le_refl _) _
  have hk0 : Blk W w.heap.size 37 #[.bool false, .slice none 0 0, .slice none 0 0] := by rw [hW]; exact Blk.new w _ _
  have hgc := rgcd_any m n va vb W (ha.below hBW) (hb.below hBW) hs ht
  have hgl : Nat.gcd m n ≤ n := Nat.gcd_le_right _ hn0
  have hg0 : 0 < Nat.gcd m n := Nat.gcd_pos_of_pos_right _ hn0
  have hgd := Mth.dg_len_mono (b := 10000) (by omega) hgl
  obtain ⟨G, hG⟩ : ∃ G, Nat.gcd m n = G := ⟨_, rfl⟩
  rw [hG] at hgc hg hgl hg0 hgd
  rw [hG]
  have HGC := Lib.hid hgc
  have HW := Lib.hid hW
  have HK0 := Lib.hid hk0
  have HBW := Lib.hid hBW
  have HA := Lib.hid (ha.below hBW)
  have HB := Lib.hid (hb.below hBW)
  have HG1 := Lib.hid hg
  have HG0 := Lib.hid hg0
  have HGD := Lib.hid hgd
  have HS := Lib.hid hs
  have HT := Lib.hid ht
  obtain ⟨A2, k2, c2, rfl, -⟩ := hb.lenform
  obtain ⟨A1, k1, c1, rfl, -⟩ := ha.lenform
  clear hgc hW hk0 hBW ha hb hs ht hg hgl hg0 hgd hG hn0
  go_enter Tryz.func65, Tryz.ntmps65
  go_wp2_with fail
  rw [← HW.out]
  refine HGC.out.mono ?_
  rintro e w1 ⟨v1, rfl, hB1, hN1⟩
  have HK1 := Lib.hid (HK0.out.low hB1)
  have HB1 : Hid (Below w.heap.size w w1) := Lib.hid (HBW.out.trans (hB1.mono HBW.out.size))
  have HBB1 := Lib.hid (HB.out.below hB1)
  have hd1 := rdiv_any m G _ v1 w1 (HA.out.below hB1) hN1 HS.out (by have := HGD.out; have := HT.out; omega) HG0.out
  have HN1 := Lib.hid hN1
  obtain ⟨A3, k3, c3, rfl, h3, -, h4⟩ := hN1.lenform
  have HD1 := Lib.hid hd1
  have H4 : Hid (k3 = 1 → ∃ b o, A3 = some ⟨b, o, none⟩ ∧ w1.cell? ⟨b, o, none⟩ = some (.int .i64 (G : Int))) := Lib.hid h4
  have hgne : ((G : Int) != 1) = true := by have := HG1.out; simp; omega
  clear h3 h4 hN1 hB1 hd1
  by_cases hk3 : k3 = 1
  · subst hk3
    obtain ⟨b3, o3, rfl, hcell⟩ := H4.out rfl
    clear H4
    go_wp2_with fail
    refine HD1.out.mono ?_
    rintro e w2 ⟨q1, r1, rfl, hB2, hq1, hr1⟩
    have HK2 := Lib.hid (HK1.out.low hB2)
    have HB2 : Hid (Below w.heap.size w w2) := Lib.hid (HB1.out.trans (hB2.mono HB1.out.size))
    have hd2 := rdiv_any _ G _ _ w2 (HBB1.out.below hB2) (HN1.out.below hB2) HT.out (by have := HGD.out; have := HT.out; omega) HG0.out
    have HD2 := Lib.hid hd2
    have HQ1 := Lib.hid hq1
    clear hB2 hd2 hr1 hcell
    obtain ⟨A5, k5, c5, rfl, -, hm, -⟩ := hq1.lenform
    clear hq1
    rcases hm with ⟨hm, rfl⟩ | ⟨hm, hk⟩
    all_goals
      cases neg
      all_goals
        go_wp2_with fail
        refine HD2.out.mono ?_
        rintro e w3 ⟨q2, r2, rfl, hB3, hq2, hr2⟩
        have hk := HK2.out.low hB3
        have c0 := hk.cell 0
        have c1' := hk.cell 1
        have c2' := hk.cell 2
        have f0 := hk.frozen 0
        have f1 := hk.frozen 1
        have f2 := hk.frozen 2
        simp only [List.getElem?_toArray, List.getElem?_cons_zero, List.getElem?_cons_succ] at c0 c1' c2'
        have HK := Lib.hid hk
        have HB3 : Hid (Below w.heap.size w w3) := Lib.hid (HB2.out.trans (hB3.mono HB2.out.size))
        have HQ13 := Lib.hid (HQ1.out.below hB3)
        have HQ2 := Lib.hid hq2
        obtain ⟨A6, k6, c6, rfl, -⟩ := hq2.lenform
        clear hq2 hr2 hB3 hk
        go_wp2
        first
          | (refine bodyPost_ret (v := .agg #[.bool false, .slice A5 0 c5, .slice A6 k6 c6]) (by simp [results, Tryz.results65, go_sem, c0, c1', c2']) rfl ?_
             rw [rneg, if_pos hm]
             exact rnum_end (Nat.le_refl _) HB3.out HK.out HQ13.out HQ2.out)
          | (refine bodyPost_ret (v := .agg #[.bool true, .slice A5 k5 c5, .slice A6 k6 c6]) (by simp [results, Tryz.results65, go_sem, c0, c1', c2']) rfl ?_
             rw [rneg, if_neg (by omega)]
             exact rnum_end (Nat.le_refl _) HB3.out HK.out HQ13.out HQ2.out)
          | (refine bodyPost_ret (v := .agg #[.bool false, .slice A5 k5 c5, .slice A6 k6 c6]) (by simp [results, Tryz.results65, go_sem, c0, c1', c2']) rfl ?_
             rw [rneg, if_neg (by omega)]
             exact rnum_end (Nat.le_refl _) HB3.out HK.out HQ13.out HQ2.out)
  · have hk4 : ((k3 : Int) != 1) = true := by simp; omega
    clear H4 hk3
    go_wp2_with fail
    refine HD1.out.mono ?_
    rintro e w2 ⟨q1, r1, rfl, hB2, hq1, hr1⟩
    have HK2 := Lib.hid (HK1.out.low hB2)
    have HB2 : Hid (Below w.heap.size w w2) := Lib.hid (HB1.out.trans (hB2.mono HB1.out.size))
    have hd2 := rdiv_any _ G _ _ w2 (HBB1.out.below hB2) (HN1.out.below hB2) HT.out (by have := HGD.out; have := HT.out; omega) HG0.out
    have HD2 := Lib.hid hd2
    have HQ1 := Lib.hid hq1
    clear hB2 hd2 hr1
    obtain ⟨A5, k5, c5, rfl, -, hm, -⟩ := hq1.lenform
    clear hq1
    rcases hm with ⟨hm, rfl⟩ | ⟨hm, hk⟩
    all_goals
      cases neg
      all_goals
        go_wp2_with fail
        refine HD2.out.mono ?_
        rintro e w3 ⟨q2, r2, rfl, hB3, hq2, hr2⟩
        have hk := HK2.out.low hB3
        have c0 := hk.cell 0
        have c1' := hk.cell 1
        have c2' := hk.cell 2
        have f0 := hk.frozen 0
        have f1 := hk.frozen 1
        have f2 := hk.frozen 2
        simp only [List.getElem?_toArray, List.getElem?_cons_zero, List.getElem?_cons_succ] at c0 c1' c2'
        have HK := Lib.hid hk
        have HB3 : Hid (Below w.heap.size w w3) := Lib.hid (HB2.out.trans (hB3.mono HB2.out.size))
        have HQ13 := Lib.hid (HQ1.out.below hB3)
        have HQ2 := Lib.hid hq2
        obtain ⟨A6, k6, c6, rfl, -⟩ := hq2.lenform
        clear hq2 hr2 hB3 hk
        go_wp2
        first
          | (refine bodyPost_ret (v := .agg #[.bool false, .slice A5 0 c5, .slice A6 k6 c6]) (by simp [results, Tryz.results65, go_sem, c0, c1', c2']) rfl ?_
             rw [rneg, if_pos hm]
             exact rnum_end (Nat.le_refl _) HB3.out HK.out HQ13.out HQ2.out)
          | (refine bodyPost_ret (v := .agg #[.bool true, .slice A5 k5 c5, .slice A6 k6 c6]) (by simp [results, Tryz.results65, go_sem, c0, c1', c2']) rfl ?_
             rw [rneg, if_neg (by omega)]
             exact rnum_end (Nat.le_refl _) HB3.out HK.out HQ13.out HQ2.out)
          | (refine bodyPost_ret (v := .agg #[.bool false, .slice A5 k5 c5, .slice A6 k6 c6]) (by simp [results, Tryz.results65, go_sem, c0, c1', c2']) rfl ?_
             rw [rneg, if_neg (by omega)]
             exact rnum_end (Nat.le_refl _) HB3.out HK.out HQ13.out HQ2.out)

theorem rnum_eq (m n : Nat) : rnum m n = m / Nat.gcd m n := by
  unfold rnum
  split
  · rename_i h; rw [h, Nat.zero_div]
  · rfl
theorem rden_eq {m n : Nat} (hn : 0 < n) : rden m n = n / Nat.gcd m n := by
  unfold rden
  split
  · rename_i h; rw [h, Nat.gcd_zero_left, Nat.div_self hn]
  · rfl
theorem rneg_eq {neg : Bool} {m n : Nat} (hn : 0 < n) : rneg neg (m / Nat.gcd m n) = rneg neg m := by
  unfold rneg
  have h : m / Nat.gcd m n = 0 ↔ m = 0 := by
    rw [Nat.div_eq_zero_iff]
    constructor
    · rintro (h | h)
      · exact absurd h (Nat.pos_iff_ne_zero.1 (Nat.gcd_pos_of_pos_right _ hn))
      · rcases Nat.eq_zero_or_pos m with h0 | h0
        · exact h0
        · exact absurd (Nat.gcd_le_left n h0) (by omega)
    · rintro rfl
      exact Or.inr (by rw [Nat.gcd_zero_left]; exact hn)
  by_cases h0 : m = 0
  · rw [if_pos (h.2 h0), if_pos h0]
  · rw [if_neg (fun e => h0 (h.1 e)), if_neg h0]
/-- numOf of the reference: in lowest terms -/
theorem rnumOf_any (neg : Bool) (m n : Nat) (va vb : Value) (w : World) (ha : Pt w va m) (hb : Pt w vb n) (hs : (Mth.dg 10000 m).length ≤ 100000000) (ht : (Mth.dg 10000 n).length ≤ 100000000) (hn0 : 0 < n) :
    Calls Tryz.prog 65 #[.bool neg, va, vb] w (RNum (rneg neg m) (rnum m n) (rden m n) w) := by
  rw [rnum_eq, rden_eq hn0]
  by_cases hg : Nat.gcd m n = 1
  · rw [hg, Nat.div_one, Nat.div_one]
    exact rnumOf_one neg m n va vb w ha hb hs ht hg
  · rw [← rneg_eq (neg := neg) hn0]
    exact rnumOf_div neg m n va vb w ha hb hs ht hn0 hg
end Go.Proofs.YtlildanamfjnmaaGreatDoor
