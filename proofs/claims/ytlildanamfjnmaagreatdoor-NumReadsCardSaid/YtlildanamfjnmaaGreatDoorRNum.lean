/-
  numOf, size, Int, Quo of the reference.
-/
import Derived.Test.YtlildanamfjnmaaGreatDoorRGcd
import Derived.Test.YtlildanamfjnmaaGreatDoorFrac3
namespace Go.Proofs.YtlildanamfjnmaaGreatDoor
open Go.RowKit

theorem Pt.set {w : World} {v : Value} {n g i : Nat} {x : Value} (h : Pt w v n) (hn : NoInt w g) : Pt (w.setCell ⟨g, i, none⟩ x) v n := by
  obtain ⟨A, c, e, h1, h2, h3⟩ := h
  refine ⟨A, c, e, h1, h2, fun h0 => ?_⟩
  obtain ⟨b, o, e2, h4⟩ := h3 h0
  refine ⟨b, o, e2, fun j u hu => ?_⟩
  have h5 := h4 j u hu
  rw [World.cell?_setCell_other]
  · exact h5
  · intro h; injection h with h _
    have hl : j < (Mth.dg 10000 n).length := by
      rcases Nat.lt_or_ge j (Mth.dg 10000 n).length with h | h
      · exact h
      · rw [List.getElem?_eq_none (by rw [n64s_length]; exact h)] at hu; cases hu
    rw [n64s_at hl] at hu
    injection hu with hu
    subst h
    rw [← hu] at h5
    exact hn _ _ _ h5
theorem pt_store3 {w : World} {v : Value} {n g : Nat} {t : TypeId} {x0 x1 x2 y0 y1 y2 : Value} (h : Pt w v n) (hb : Blk w g t #[x0, x1, x2]) (a0 : NotI x0) (a1 : NotI x1) (a2 : NotI x2) (b0 : NotI y0) (b1 : NotI y1) :
    Pt (((w.setCell ⟨g, 0, none⟩ y0).setCell ⟨g, 1, none⟩ y1).setCell ⟨g, 2, none⟩ y2) v n := by
  have h1 := h.set (i := 0) (x := y0) (NoInt.of hb (notI3 a0 a1 a2))
  have hb1 : Blk (w.setCell ⟨g, 0, none⟩ y0) g t #[y0, x1, x2] := hb.set 0 y0
  have h2 := h1.set (i := 1) (x := y1) (NoInt.of hb1 (notI3 b0 a1 a2))
  have hb2 : Blk ((w.setCell ⟨g, 0, none⟩ y0).setCell ⟨g, 1, none⟩ y1) g t #[y0, y1, x2] := hb1.set 1 y1
  exact h2.set (i := 2) (x := y2) (NoInt.of hb2 (notI3 b0 b1 a2))

/-- a number of the reference -/
def RNum (neg : Bool) (m n : Nat) (w : World) (e : Ending) (w' : World) : Prop := ∃ v1 v2, e = .returned (.agg #[.bool neg, v1, v2]) ∧ Pt w' v1 m ∧ Pt w' v2 n ∧ Below w.heap.size w w'

/-- the last step: the fields are stored into the result's block -/
theorem rnum_end {w w1 : World} {g : Nat} {t : TypeId} {neg b0 : Bool} {m n : Nat} {A B A1 B1 : Option Addr} {k c l d k1 c1 l1 d1 : Nat} (hg : w.heap.size ≤ g) (hb : Below w.heap.size w w1) (hk : Blk w1 g t #[.bool b0, .slice A1 k1 c1, .slice B1 l1 d1])
    (h1 : Pt w1 (.slice A k c) m) (h2 : Pt w1 (.slice B l d) n) :
    RNum neg m n w (.returned (.agg #[.bool neg, .slice A k c, .slice B l d])) (((w1.setCell ⟨g, 0, none⟩ (.bool neg)).setCell ⟨g, 1, none⟩ (.slice A k c)).setCell ⟨g, 2, none⟩ (.slice B l d)) :=
  ⟨_, _, rfl, pt_store3 h1 hk (notI_bool _) (notI_slice _ _ _) (notI_slice _ _ _) (notI_bool _) (notI_slice _ _ _), pt_store3 h2 hk (notI_bool _) (notI_slice _ _ _) (notI_slice _ _ _) (notI_bool _) (notI_slice _ _ _),
    ((hb.setCell (p := ⟨g, 0, none⟩) hg _).setCell (p := ⟨g, 1, none⟩) hg _).setCell (p := ⟨g, 2, none⟩) hg _⟩

theorem rsize_any (n : Int) (w : World) (h1 : -9223372036854775808 ≤ n) (h2 : n ≤ 9223372036854775807) :
    Calls Tryz.prog 63 #[.int .i64 n] w fun e w' => e = .returned (.int .u64 (n.natAbs : Nat)) ∧ w = w' := by
  by_cases h0 : n < 0
  · have hu : IntKind.u64.wrap (-(IntKind.u64.wrap n)) = (n.natAbs : Int) := by rw [IntKind.wrap_u64, IntKind.wrap_u64]; omega
    have HU := Lib.hid hu
    clear hu h1 h2
    go_enter Tryz.func63, Tryz.ntmps63
    go_wp2
    go_ret
    exact ⟨by rw [HU.out]; rfl, rfl⟩
  · have hu : IntKind.u64.wrap n = (n.natAbs : Int) := by rw [IntKind.wrap_u64]; omega
    have HU := Lib.hid hu
    clear hu h1 h2
    go_enter Tryz.func63, Tryz.ntmps63
    go_wp2
    go_ret
    exact ⟨by rw [HU.out]; rfl, rfl⟩

set_option maxHeartbeats 1000000 in
set_option maxRecDepth 100000 in
theorem rint_any (n : Int) (w : World) (h1 : -9223372036854775808 ≤ n) (h2 : n ≤ 9223372036854775807) :
    Calls Tryz.prog 17 #[.int .i64 n] w (RNum (decide (n < 0)) n.natAbs 1 w) := by
  have HS := Lib.hid (fun W => rsize_any n W h1 h2)
  have HO := Lib.hid (fun W => rof_any n.natAbs W (by omega))
  have HO1 := Lib.hid (fun W => rof_any 1 W (by omega))
  clear h1 h2
  go_enter Tryz.func17, Tryz.ntmps17
  go_wp2_with fail
  refine (HS.out _).mono ?_
  rintro e w1 ⟨rfl, rfl⟩
  go_wp2_with fail
  refine (HO.out _).mono ?_
  rintro e w1 ⟨v1, rfl, hN1, hB1⟩
  have HN1 := Lib.hid hN1
  have HB1 : Hid (Below w.heap.size w w1) := Lib.hid (((Below.refl _ w).alloc (Nat.le_refl _) _).trans (hB1.mono (by simp)))
  have HK1 := Lib.hid ((Blk.new w 37 #[.bool false, .slice none 0 0, .slice none 0 0]).low hB1)
  clear hN1 hB1
  go_wp2_with fail
  refine (HO1.out _).mono ?_
  rintro e w2 ⟨v2, rfl, hN2, hB2⟩
  have HN1' := Lib.hid (HN1.out.below hB2)
  have HN2 := Lib.hid hN2
  have HB2 : Hid (Below w.heap.size w w2) := Lib.hid (HB1.out.trans (hB2.mono HB1.out.size))
  have hk := HK1.out.low hB2
  have c0 := hk.cell 0
  have c1 := hk.cell 1
  have c2 := hk.cell 2
  have f0 := hk.frozen 0
  have f1 := hk.frozen 1
  have f2 := hk.frozen 2
  simp only [List.getElem?_toArray, List.getElem?_cons_zero, List.getElem?_cons_succ] at c0 c1 c2
  have HK := Lib.hid hk
  obtain ⟨A1, k1, l1, rfl⟩ := hN2.shape
  obtain ⟨A2, k2, l2, rfl⟩ := HN1.out.shape
  clear hN2 hB2 hk
  go_wp2
  refine bodyPost_ret (v := .agg #[.bool (decide (n < 0)), .slice A2 k2 l2, .slice A1 k1 l1]) (by simp [results, Tryz.results17, go_sem, c0, c1, c2]) rfl ?_
  exact rnum_end (Nat.le_refl _) HB2.out HK.out HN1'.out HN2.out

/-- the length of a number's slice -/
theorem Pt.lenform {w : World} {v : Value} {n : Nat} (h : Pt w v n) : ∃ A k c, v = .slice A k c ∧ k = (Mth.dg 10000 n).length ∧ (n = 0 ∧ k = 0 ∨ 0 < n ∧ 0 < k) ∧ (k = 1 → ∃ b o, A = some ⟨b, o, none⟩ ∧ w.cell? ⟨b, o, none⟩ = some (.int .i64 (n : Int))) := by
  obtain ⟨A, c, rfl, h1, h2, h3⟩ := h
  simp only [n64s_length] at *
  refine ⟨A, _, c, rfl, rfl, ?_, fun hk => ?_⟩
  · rcases Nat.eq_zero_or_pos n with rfl | hn
    · exact Or.inl ⟨rfl, by rw [Mth.dg_zero]; rfl⟩
    · exact Or.inr ⟨hn, List.length_pos_iff.2 (Mth.dg_ne_nil (by omega) hn)⟩
  · obtain ⟨b, o, rfl, h4⟩ := h3 (by omega)
    refine ⟨b, o, rfl, ?_⟩
    have h5 := h4 0 _ (n64s_at (by omega))
    obtain ⟨x, hx⟩ := List.length_eq_one_iff.1 hk
    have hv := Mth.val_dg (b := 10000) (by omega) n
    rw [hx] at hv
    simp only [Mth.val, Nat.mul_zero, Nat.add_zero] at hv
    subst hv
    rw [hx] at h5
    simpa using h5

set_option maxHeartbeats 2000000 in
set_option maxRecDepth 100000 in
theorem rnumOf_one (neg : Bool) (m n : Nat) (va vb : Value) (w : World) (ha : Pt w va m) (hb : Pt w vb n) (hs : (Mth.dg 10000 m).length ≤ 100000000) (ht : (Mth.dg 10000 n).length ≤ 100000000) (hg : Nat.gcd m n = 1) :
    Calls Tryz.prog 65 #[.bool neg, va, vb] w (RNum (rneg neg m) m n w) := by
  obtain ⟨W, hW⟩ : ∃ W, W = w.alloc (.cells #[.bool false, .slice none 0 0, .slice none 0 0] 37) := ⟨_, rfl⟩
  have hBW : Below w.heap.size w W := by rw [hW]; exact (Below.refl _ _).alloc (Nat.le_refl _) _
  have hk0 : Blk W w.heap.size 37 #[.bool false, .slice none 0 0, .slice none 0 0] := by rw [hW]; exact Blk.new w _ _
  have hgc := rgcd_any m n va vb W (ha.below hBW) (hb.below hBW) hs ht
  rw [hg] at hgc
  have HGC := Lib.hid hgc
  have HW := Lib.hid hW
  have HK0 := Lib.hid hk0
  have HBW := Lib.hid hBW
  have HA := Lib.hid (ha.below hBW)
  have HB := Lib.hid (hb.below hBW)
  obtain ⟨A2, k2, c2, rfl, -⟩ := hb.lenform
  obtain ⟨A1, k1, c1, rfl, -, hm, -⟩ := ha.lenform
  clear hgc hW hk0 hBW ha hb hs ht hg
  rcases hm with ⟨rfl, rfl⟩ | ⟨hm, hk⟩
  all_goals
    cases neg
    all_goals
      go_enter Tryz.func65, Tryz.ntmps65
      go_wp2_with fail
      rw [← HW.out]
      refine HGC.out.mono ?_
      rintro e w1 ⟨v1, rfl, hB1, hN1⟩
      have hk := HK0.out.low hB1
      have c0 := hk.cell 0
      have c1' := hk.cell 1
      have c2' := hk.cell 2
      have f0 := hk.frozen 0
      have f1 := hk.frozen 1
      have f2 := hk.frozen 2
      simp only [List.getElem?_toArray, List.getElem?_cons_zero, List.getElem?_cons_succ] at c0 c1' c2'
      have HK := Lib.hid hk
      have HB1 : Hid (Below w.heap.size w w1) := Lib.hid (HBW.out.trans (hB1.mono HBW.out.size))
      have HA1 := Lib.hid (HA.out.below hB1)
      have HBB1 := Lib.hid (HB.out.below hB1)
      obtain ⟨A3, k3, c3, rfl, h3, -, h4⟩ := hN1.lenform
      obtain rfl : k3 = 1 := by rw [h3, Mth.dg_one (by omega) (by omega) (by omega)]; rfl
      obtain ⟨b3, o3, rfl, hcell⟩ := h4 rfl
      clear h3 h4 hN1 hB1 hk
      go_wp2
      first
        | (refine bodyPost_ret (v := .agg #[.bool false, .slice A1 0 c1, .slice A2 k2 c2]) (by simp [results, Tryz.results65, go_sem, c0, c1', c2']) rfl ?_
           exact rnum_end (Nat.le_refl _) HB1.out HK.out HA1.out HBB1.out)
        | (refine bodyPost_ret (v := .agg #[.bool true, .slice A1 k1 c1, .slice A2 k2 c2]) (by simp [results, Tryz.results65, go_sem, c0, c1', c2']) rfl ?_
           have e : rneg true m = true := by rw [rneg, if_neg (by omega)]
           rw [e]
           exact rnum_end (Nat.le_refl _) HB1.out HK.out HA1.out HBB1.out)
        | (refine bodyPost_ret (v := .agg #[.bool false, .slice A1 k1 c1, .slice A2 k2 c2]) (by simp [results, Tryz.results65, go_sem, c0, c1', c2']) rfl ?_
           have e : rneg false m = false := by rw [rneg, if_neg (by omega)]
           rw [e]
           exact rnum_end (Nat.le_refl _) HB1.out HK.out HA1.out HBB1.out)
end Go.Proofs.YtlildanamfjnmaaGreatDoor
