/-
  The reference's numbers: size, Int, numOf.
-/
import Derived.Test.YtldjemlmjfpmjaaGreatDoorRC
import Derived.Test.YtldjemlmjfpmjaaGreatDoorFrac2
namespace Go.Proofs.YtldjemlmjfpmjaaGreatDoor
open Go.RowKit

theorem Pt.set {w : World} {v : Value} {n g i : Nat} {x : Value} (h : Pt w v n) (hn : NoInt w g) : Pt (w.setCell ⟨g, i, none⟩ x) v n := by
  obtain ⟨A, c, e, h1, h2, h3⟩ := h
  refine ⟨A, c, e, h1, h2, fun h0 => ?_⟩
  obtain ⟨b, o, e2, h4⟩ := h3 h0
  refine ⟨b, o, e2, fun j u hu => ?_⟩
  have h5 := h4 j u hu
  rw [World.cell?_setCell_other]
  · exact h5
  · intro h; injection h with h _
    have hl : j < (Mth.dg 10000 n).length := by
      rcases Nat.lt_or_ge j (Mth.dg 10000 n).length with h | h
      · exact h
      · rw [List.getElem?_eq_none (by rw [n64s_length]; exact h)] at hu; cases hu
    rw [n64s_at hl] at hu
    injection hu with hu
    subst h
    rw [← hu] at h5
    exact hn _ _ _ h5
theorem pt_store3 {w : World} {v : Value} {n g : Nat} {t : TypeId} {x0 x1 x2 y0 y1 y2 : Value} (h : Pt w v n) (hb : Blk w g t #[x0, x1, x2]) (a0 : NotI x0) (a1 : NotI x1) (a2 : NotI x2) (b0 : NotI y0) (b1 : NotI y1) :
    Pt (((w.setCell ⟨g, 0, none⟩ y0).setCell ⟨g, 1, none⟩ y1).setCell ⟨g, 2, none⟩ y2) v n := by
  have h1 := h.set (i := 0) (x := y0) (NoInt.of hb (notI3 a0 a1 a2))
  have hb1 : Blk (w.setCell ⟨g, 0, none⟩ y0) g t #[y0, x1, x2] := hb.set 0 y0
  have h2 := h1.set (i := 1) (x := y1) (NoInt.of hb1 (notI3 b0 a1 a2))
  have hb2 : Blk ((w.setCell ⟨g, 0, none⟩ y0).setCell ⟨g, 1, none⟩ y1) g t #[y0, y1, x2] := hb1.set 1 y1
  exact h2.set (i := 2) (x := y2) (NoInt.of hb2 (notI3 b0 b1 a2))

/-- a number of the reference -/
def RNum (neg : Bool) (m n : Nat) (w : World) (e : Ending) (w' : World) : Prop := ∃ v1 v2, e = .returned (.agg #[.bool neg, v1, v2]) ∧ Pt w' v1 m ∧ Pt w' v2 n ∧ Below w.heap.size w w'

/-- the last step: the fields are stored into the result's block -/
theorem rnum_end {w w1 : World} {g : Nat} {t : TypeId} {neg b0 : Bool} {m n : Nat} {A B A1 B1 : Option Addr} {k c l d k1 c1 l1 d1 : Nat} (hg : w.heap.size ≤ g) (hb : Below w.heap.size w w1) (hk : Blk w1 g t #[.bool b0, .slice A1 k1 c1, .slice B1 l1 d1])
    (h1 : Pt w1 (.slice A k c) m) (h2 : Pt w1 (.slice B l d) n) :
    RNum neg m n w (.returned (.agg #[.bool neg, .slice A k c, .slice B l d])) (((w1.setCell ⟨g, 0, none⟩ (.bool neg)).setCell ⟨g, 1, none⟩ (.slice A k c)).setCell ⟨g, 2, none⟩ (.slice B l d)) :=
  ⟨_, _, rfl, pt_store3 h1 hk (notI_bool _) (notI_slice _ _ _) (notI_slice _ _ _) (notI_bool _) (notI_slice _ _ _), pt_store3 h2 hk (notI_bool _) (notI_slice _ _ _) (notI_slice _ _ _) (notI_bool _) (notI_slice _ _ _),
    ((hb.setCell (p := ⟨g, 0, none⟩) hg _).setCell (p := ⟨g, 1, none⟩) hg _).setCell (p := ⟨g, 2, none⟩) hg _⟩

theorem rsize_any (n : Int) (w : World) (h1 : -9223372036854775808 ≤ n) (h2 : n ≤ 9223372036854775807) :
    Calls Tryz.prog 116 #[.int .i64 n] w fun e w' => e = .returned (.int .u64 (n.natAbs : Nat)) ∧ w = w' := by
  by_cases h0 : n < 0
  · have hu : IntKind.u64.wrap (-(IntKind.u64.wrap n)) = (n.natAbs : Int) := by rw [IntKind.wrap_u64, IntKind.wrap_u64]; omega
    have HU := Lib.hid hu
    clear hu h1 h2
    go_enter Tryz.func116, Tryz.ntmps116
    go_wp2
    go_ret
    exact ⟨by rw [HU.out]; rfl, rfl⟩
  · have hu : IntKind.u64.wrap n = (n.natAbs : Int) := by rw [IntKind.wrap_u64]; omega
    have HU := Lib.hid hu
    clear hu h1 h2
    go_enter Tryz.func116, Tryz.ntmps116
    go_wp2
    go_ret
    exact ⟨by rw [HU.out]; rfl, rfl⟩

set_option maxHeartbeats 1000000 in
set_option maxRecDepth 100000 in
theorem rint_any (n : Int) (w : World) (h1 : -9223372036854775808 ≤ n) (h2 : n ≤ 9223372036854775807) :
    Calls Tryz.prog 74 #[.int .i64 n] w (RNum (decide (n < 0)) n.natAbs 1 w) := by
  have HS := Lib.hid (fun W => rsize_any n W h1 h2)
  have HO := Lib.hid (fun W => rof_any n.natAbs W (by omega))
  have HO1 := Lib.hid (fun W => rof_any 1 W (by omega))
  clear h1 h2
  go_enter Tryz.func74, Tryz.ntmps74
  go_wp2_with fail
  refine (HS.out _).mono ?_
  rintro e w1 ⟨rfl, rfl⟩
  go_wp2_with fail
  refine (HO.out _).mono ?_
  rintro e w1 ⟨v1, rfl, hN1, hB1⟩
  have HN1 := Lib.hid hN1
  have HB1 : Hid (Below w.heap.size w w1) := Lib.hid (((Below.refl _ w).alloc (Nat.le_refl _) _).trans (hB1.mono (by simp)))
  have HK1 := Lib.hid ((Blk.new w 52 #[.bool false, .slice none 0 0, .slice none 0 0]).low hB1)
  clear hN1 hB1
  go_wp2_with fail
  refine (HO1.out _).mono ?_
  rintro e w2 ⟨v2, rfl, hN2, hB2⟩
  have HN1' := Lib.hid (HN1.out.below hB2)
  have HN2 := Lib.hid hN2
  have HB2 : Hid (Below w.heap.size w w2) := Lib.hid (HB1.out.trans (hB2.mono HB1.out.size))
  have hk := HK1.out.low hB2
  have c0 := hk.cell 0
  have c1 := hk.cell 1
  have c2 := hk.cell 2
  have f0 := hk.frozen 0
  have f1 := hk.frozen 1
  have f2 := hk.frozen 2
  simp only [List.getElem?_toArray, List.getElem?_cons_zero, List.getElem?_cons_succ] at c0 c1 c2
  have HK := Lib.hid hk
  obtain ⟨A1, k1, l1, rfl⟩ := hN2.shape
  obtain ⟨A2, k2, l2, rfl⟩ := HN1.out.shape
  clear hN2 hB2 hk
  go_wp2
  refine bodyPost_ret (v := .agg #[.bool (decide (n < 0)), .slice A2 k2 l2, .slice A1 k1 l1]) (by simp [results, Tryz.results74, go_sem, c0, c1, c2]) rfl ?_
  exact rnum_end (Nat.le_refl _) HB2.out HK.out HN1'.out HN2.out

/-- the length of a number's slice -/
theorem Pt.lenform {w : World} {v : Value} {n : Nat} (h : Pt w v n) : ∃ A k c, v = .slice A k c ∧ k = (Mth.dg 10000 n).length ∧ (n = 0 ∧ k = 0 ∨ 0 < n ∧ 0 < k) ∧ (k = 1 → ∃ b o, A = some ⟨b, o, none⟩ ∧ w.cell? ⟨b, o, none⟩ = some (.int .i64 (n : Int))) := by
  obtain ⟨A, c, rfl, h1, h2, h3⟩ := h
  simp only [n64s_length] at *
  refine ⟨A, _, c, rfl, rfl, ?_, fun hk => ?_⟩
  · rcases Nat.eq_zero_or_pos n with rfl | hn
    · exact Or.inl ⟨rfl, by rw [Mth.dg_zero]; rfl⟩
    · exact Or.inr ⟨hn, List.length_pos_iff.2 (Mth.dg_ne_nil (by omega) hn)⟩
  · obtain ⟨b, o, rfl, h4⟩ := h3 (by omega)
    refine ⟨b, o, rfl, ?_⟩
    have h5 := h4 0 _ (n64s_at (by omega))
    obtain ⟨x, hx⟩ := List.length_eq_one_iff.1 hk
    have hv := Mth.val_dg (b := 10000) (by omega) n
    rw [hx] at hv
    simp only [Mth.val, Nat.mul_zero, Nat.add_zero] at hv
    subst hv
    rw [hx] at h5
    simpa using h5

set_option maxHeartbeats 2000000 in
set_option maxRecDepth 100000 in
theorem rnumOf_one (neg : Bool) (m n : Nat) (va vb : Value) (w : World) (ha : Pt w va m) (hb : Pt w vb n) (hs : (Mth.dg 10000 m).length ≤ 100000000) (ht : (Mth.dg 10000 n).length ≤ 100000000) (hg : Nat.gcd m n = 1) :
    Calls Tryz.prog 113 #[.bool neg, va, vb] w (RNum (rneg neg m) m n w) := by
  obtain ⟨W, hW⟩ : ∃ W, W = w.alloc (.cells #[.bool false, .slice none 0 0, .slice none 0 0] 52) := ⟨_, rfl⟩
  have hBW : Below w.heap.size w W := by rw [hW]; exact (Below.refl _ _).alloc (Nat.le_refl _) _
  have hk0 : Blk W w.heap.size 52 #[.bool false, .slice none 0 0, .slice none 0 0] := by rw [hW]; exact Blk.new w _ _
  have hgc := rgcd_any m n va vb W (ha.below hBW) (hb.below hBW) hs ht
  rw [hg] at hgc
  have HGC := Lib.hid hgc
  have HW := Lib.hid hW
  have HK0 := Lib.hid hk0
  have HBW := Lib.hid hBW
  have HA := Lib.hid (ha.below hBW)
  have HB := Lib.hid (hb.below hBW)
  obtain ⟨A2, k2, c2, rfl, -⟩ := hb.lenform
  obtain ⟨A1, k1, c1, rfl, -, hm, -⟩ := ha.lenform
  clear hgc hW hk0 hBW ha hb hs ht hg
  rcases hm with ⟨rfl, rfl⟩ | ⟨hm, hk⟩
  all_goals
    cases neg
    all_goals
      go_enter Tryz.func113, Tryz.ntmps113
      go_wp2_with fail
      rw [← HW.out]
      refine HGC.out.mono ?_
      rintro e w1 ⟨v1, rfl, hB1, hN1⟩
      have hk := HK0.out.low hB1
      have c0 := hk.cell 0
      have c1' := hk.cell 1
      have c2' := hk.cell 2
      have f0 := hk.frozen 0
      have f1 := hk.frozen 1
      have f2 := hk.frozen 2
      simp only [List.getElem?_toArray, List.getElem?_cons_zero, List.getElem?_cons_succ] at c0 c1' c2'
      have HK := Lib.hid hk
      have HB1 : Hid (Below w.heap.size w w1) := Lib.hid (HBW.out.trans (hB1.mono HBW.out.size))
      have HA1 := Lib.hid (HA.out.below hB1)
      have HBB1 := Lib.hid (HB.out.below hB1)
      obtain ⟨A3, k3, c3, rfl, h3, -, h4⟩ := hN1.lenform
      obtain rfl : k3 = 1 := by rw [h3, Mth.dg_one (by omega) (by omega) (by omega)]; rfl
      obtain ⟨b3, o3, rfl, hcell⟩ := h4 rfl
      clear h3 h4 hN1 hB1 hk
      go_wp2
      first
        | (refine bodyPost_ret (v := .agg #[.bool false, .slice A1 0 c1, .slice A2 k2 c2]) (by simp [results, Tryz.results113, go_sem, c0, c1', c2']) rfl ?_
           exact rnum_end (Nat.le_refl _) HB1.out HK.out HA1.out HBB1.out)
        | (refine bodyPost_ret (v := .agg #[.bool true, .slice A1 k1 c1, .slice A2 k2 c2]) (by simp [results, Tryz.results113, go_sem, c0, c1', c2']) rfl ?_
           have e : rneg true m = true := by rw [rneg, if_neg (by omega)]
           rw [e]
           exact rnum_end (Nat.le_refl _) HB1.out HK.out HA1.out HBB1.out)
        | (refine bodyPost_ret (v := .agg #[.bool false, .slice A1 k1 c1, .slice A2 k2 c2]) (by simp [results, Tryz.results113, go_sem, c0, c1', c2']) rfl ?_
           have e : rneg false m = false := by rw [rneg, if_neg (by omega)]
           rw [e]
           exact rnum_end (Nat.le_refl _) HB1.out HK.out HA1.out HBB1.out)
end Go.Proofs.YtldjemlmjfpmjaaGreatDoor

namespace Go.Proofs.YtldjemlmjfpmjaaGreatDoor
open Go.RowKit

set_option maxHeartbeats 4000000 in
set_option maxRecDepth 100000 in
theorem rnumOf_div (neg : Bool) (m n : Nat) (va vb : Value) (w : World) (ha : Pt w va m) (hb : Pt w vb n) (hs : (Mth.dg 10000 m).length ≤ 100000000) (ht : (Mth.dg 10000 n).length ≤ 100000000) (hn0 : 0 < n) (hg : Nat.gcd m n ≠ 1) :
    Calls Tryz.prog 113 #[.bool neg, va, vb] w (RNum (rneg neg (m / Nat.gcd m n)) (m / Nat.gcd m n) (n / Nat.gcd m n) w) := by
  obtain ⟨W, hW⟩ : ∃ W, W = w.alloc (.cells #[.bool false, .slice none 0 0, .slice none 0 0] 52) := ⟨_, rfl⟩
  have hBW : Below w.heap.size w W := by rw [hW]; exact (Below.refl _ _).alloc (Nat.le_refl _) _
  have hk0 : Blk W w.heap.size 52 #[.bool false, .slice none 0 0, .slice none 0 0] := by rw [hW]; exact Blk.new w _ _
  have hgc := rgcd_any m n va vb W (ha.below hBW) (hb.below hBW) hs ht
  have hgl : Nat.gcd m n ≤ n := Nat.gcd_le_right _ hn0
  have hg0 : 0 < Nat.gcd m n := Nat.gcd_pos_of_pos_right _ hn0
  have hgd := Mth.dg_len_mono (b := 10000) (by omega) hgl
  obtain ⟨G, hG⟩ : ∃ G, Nat.gcd m n = G := ⟨_, rfl⟩
  rw [hG] at hgc hg hgl hg0 hgd
  rw [hG]
  have HGC := Lib.hid hgc
  have HW := Lib.hid hW
  have HK0 := Lib.hid hk0
  have HBW := Lib.hid hBW
  have HA := Lib.hid (ha.below hBW)
  have HB := Lib.hid (hb.below hBW)
  have HG1 := Lib.hid hg
  have HG0 := Lib.hid hg0
  have HGD := Lib.hid hgd
  have HS := Lib.hid hs
  have HT := Lib.hid ht
  obtain ⟨A2, k2, c2, rfl, -⟩ := hb.lenform
  obtain ⟨A1, k1, c1, rfl, -⟩ := ha.lenform
  clear hgc hW hk0 hBW ha hb hs ht hg hgl hg0 hgd hG hn0
  go_enter Tryz.func113, Tryz.ntmps113
  go_wp2_with fail
  rw [← HW.out]
  refine HGC.out.mono ?_
  rintro e w1 ⟨v1, rfl, hB1, hN1⟩
  have HK1 := Lib.hid (HK0.out.low hB1)
  have HB1 : Hid (Below w.heap.size w w1) := Lib.hid (HBW.out.trans (hB1.mono HBW.out.size))
  have HBB1 := Lib.hid (HB.out.below hB1)
  have hd1 := rdiv_any m G _ v1 w1 (HA.out.below hB1) hN1 HS.out (by have := HGD.out; have := HT.out; omega) HG0.out
  have HN1 := Lib.hid hN1
  obtain ⟨A3, k3, c3, rfl, h3, -, h4⟩ := hN1.lenform
  have HD1 := Lib.hid hd1
  have H4 : Hid (k3 = 1 → ∃ b o, A3 = some ⟨b, o, none⟩ ∧ w1.cell? ⟨b, o, none⟩ = some (.int .i64 (G : Int))) := Lib.hid h4
  have hgne : ((G : Int) != 1) = true := by have := HG1.out; simp; omega
  clear h3 h4 hN1 hB1 hd1
  by_cases hk3 : k3 = 1
  · subst hk3
    obtain ⟨b3, o3, rfl, hcell⟩ := H4.out rfl
    clear H4
    go_wp2_with fail
    refine HD1.out.mono ?_
    rintro e w2 ⟨q1, r1, rfl, hB2, hq1, hr1⟩
    have HK2 := Lib.hid (HK1.out.low hB2)
    have HB2 : Hid (Below w.heap.size w w2) := Lib.hid (HB1.out.trans (hB2.mono HB1.out.size))
    have hd2 := rdiv_any _ G _ _ w2 (HBB1.out.below hB2) (HN1.out.below hB2) HT.out (by have := HGD.out; have := HT.out; omega) HG0.out
    have HD2 := Lib.hid hd2
    have HQ1 := Lib.hid hq1
    clear hB2 hd2 hr1 hcell
    obtain ⟨A5, k5, c5, rfl, -, hm, -⟩ := hq1.lenform
    clear hq1
    rcases hm with ⟨hm, rfl⟩ | ⟨hm, hk⟩
    all_goals
      cases neg
      all_goals
        go_wp2_with fail
        refine HD2.out.mono ?_
        rintro e w3 ⟨q2, r2, rfl, hB3, hq2, hr2⟩
        have hk := HK2.out.low hB3
        have c0 := hk.cell 0
        have c1' := hk.cell 1
        have c2' := hk.cell 2
        have f0 := hk.frozen 0
        have f1 := hk.frozen 1
        have f2 := hk.frozen 2
        simp only [List.getElem?_toArray, List.getElem?_cons_zero, List.getElem?_cons_succ] at c0 c1' c2'
        have HK := Lib.hid hk
        have HB3 : Hid (Below w.heap.size w w3) := Lib.hid (HB2.out.trans (hB3.mono HB2.out.size))
        have HQ13 := Lib.hid (HQ1.out.below hB3)
        have HQ2 := Lib.hid hq2
        obtain ⟨A6, k6, c6, rfl, -⟩ := hq2.lenform
        clear hq2 hr2 hB3 hk
        go_wp2
        first
          | (refine bodyPost_ret (v := .agg #[.bool false, .slice A5 0 c5, .slice A6 k6 c6]) (by simp [results, Tryz.results113, go_sem, c0, c1', c2']) rfl ?_
             rw [rneg, if_pos hm]
             exact rnum_end (Nat.le_refl _) HB3.out HK.out HQ13.out HQ2.out)
          | (refine bodyPost_ret (v := .agg #[.bool true, .slice A5 k5 c5, .slice A6 k6 c6]) (by simp [results, Tryz.results113, go_sem, c0, c1', c2']) rfl ?_
             rw [rneg, if_neg (by omega)]
             exact rnum_end (Nat.le_refl _) HB3.out HK.out HQ13.out HQ2.out)
          | (refine bodyPost_ret (v := .agg #[.bool false, .slice A5 k5 c5, .slice A6 k6 c6]) (by simp [results, Tryz.results113, go_sem, c0, c1', c2']) rfl ?_
             rw [rneg, if_neg (by omega)]
             exact rnum_end (Nat.le_refl _) HB3.out HK.out HQ13.out HQ2.out)
  · have hk4 : ((k3 : Int) != 1) = true := by simp; omega
    clear H4 hk3
    go_wp2_with fail
    refine HD1.out.mono ?_
    rintro e w2 ⟨q1, r1, rfl, hB2, hq1, hr1⟩
    have HK2 := Lib.hid (HK1.out.low hB2)
    have HB2 : Hid (Below w.heap.size w w2) := Lib.hid (HB1.out.trans (hB2.mono HB1.out.size))
    have hd2 := rdiv_any _ G _ _ w2 (HBB1.out.below hB2) (HN1.out.below hB2) HT.out (by have := HGD.out; have := HT.out; omega) HG0.out
    have HD2 := Lib.hid hd2
    have HQ1 := Lib.hid hq1
    clear hB2 hd2 hr1
    obtain ⟨A5, k5, c5, rfl, -, hm, -⟩ := hq1.lenform
    clear hq1
    rcases hm with ⟨hm, rfl⟩ | ⟨hm, hk⟩
    all_goals
      cases neg
      all_goals
        go_wp2_with fail
        refine HD2.out.mono ?_
        rintro e w3 ⟨q2, r2, rfl, hB3, hq2, hr2⟩
        have hk := HK2.out.low hB3
        have c0 := hk.cell 0
        have c1' := hk.cell 1
        have c2' := hk.cell 2
        have f0 := hk.frozen 0
        have f1 := hk.frozen 1
        have f2 := hk.frozen 2
        simp only [List.getElem?_toArray, List.getElem?_cons_zero, List.getElem?_cons_succ] at c0 c1' c2'
        have HK := Lib.hid hk
        have HB3 : Hid (Below w.heap.size w w3) := Lib.hid (HB2.out.trans (hB3.mono HB2.out.size))
        have HQ13 := Lib.hid (HQ1.out.below hB3)
        have HQ2 := Lib.hid hq2
        obtain ⟨A6, k6, c6, rfl, -⟩ := hq2.lenform
        clear hq2 hr2 hB3 hk
        go_wp2
        first
          | (refine bodyPost_ret (v := .agg #[.bool false, .slice A5 0 c5, .slice A6 k6 c6]) (by simp [results, Tryz.results113, go_sem, c0, c1', c2']) rfl ?_
             rw [rneg, if_pos hm]
             exact rnum_end (Nat.le_refl _) HB3.out HK.out HQ13.out HQ2.out)
          | (refine bodyPost_ret (v := .agg #[.bool true, .slice A5 k5 c5, .slice A6 k6 c6]) (by simp [results, Tryz.results113, go_sem, c0, c1', c2']) rfl ?_
             rw [rneg, if_neg (by omega)]
             exact rnum_end (Nat.le_refl _) HB3.out HK.out HQ13.out HQ2.out)
          | (refine bodyPost_ret (v := .agg #[.bool false, .slice A5 k5 c5, .slice A6 k6 c6]) (by simp [results, Tryz.results113, go_sem, c0, c1', c2']) rfl ?_
             rw [rneg, if_neg (by omega)]
             exact rnum_end (Nat.le_refl _) HB3.out HK.out HQ13.out HQ2.out)

theorem rnum_eq (m n : Nat) : rnum m n = m / Nat.gcd m n := by
  unfold rnum
  split
  · rename_i h; rw [h, Nat.zero_div]
  · rfl
theorem rden_eq {m n : Nat} (hn : 0 < n) : rden m n = n / Nat.gcd m n := by
  unfold rden
  split
  · rename_i h; rw [h, Nat.gcd_zero_left, Nat.div_self hn]
  · rfl
theorem rneg_eq {neg : Bool} {m n : Nat} (hn : 0 < n) : rneg neg (m / Nat.gcd m n) = rneg neg m := by
  unfold rneg
  have h : m / Nat.gcd m n = 0 ↔ m = 0 := by
    rw [Nat.div_eq_zero_iff]
    constructor
    · rintro (h | h)
      · exact absurd h (Nat.pos_iff_ne_zero.1 (Nat.gcd_pos_of_pos_right _ hn))
      · rcases Nat.eq_zero_or_pos m with h0 | h0
        · exact h0
        · exact absurd (Nat.gcd_le_left n h0) (by omega)
    · rintro rfl
      exact Or.inr (by rw [Nat.gcd_zero_left]; exact hn)
  by_cases h0 : m = 0
  · rw [if_pos (h.2 h0), if_pos h0]
  · rw [if_neg (fun e => h0 (h.1 e)), if_neg h0]
/-- numOf of the reference: in lowest terms -/
theorem rnumOf_any (neg : Bool) (m n : Nat) (va vb : Value) (w : World) (ha : Pt w va m) (hb : Pt w vb n) (hs : (Mth.dg 10000 m).length ≤ 100000000) (ht : (Mth.dg 10000 n).length ≤ 100000000) (hn0 : 0 < n) :
    Calls Tryz.prog 113 #[.bool neg, va, vb] w (RNum (rneg neg m) (rnum m n) (rden m n) w) := by
  rw [rnum_eq, rden_eq hn0]
  by_cases hg : Nat.gcd m n = 1
  · rw [hg, Nat.div_one, Nat.div_one]
    exact rnumOf_one neg m n va vb w ha hb hs ht hg
  · rw [← rneg_eq (neg := neg) hn0]
    exact rnumOf_div neg m n va vb w ha hb hs ht hn0 hg
end Go.Proofs.YtldjemlmjfpmjaaGreatDoor
