/-
  num.Div and num.Power over all texts, and the comparisons with the reference.
-/
import Derived.Test.YtaibpeokfbokfaaGreatDoorTwo
import Derived.Test.YtaibpeokfbokfaaGreatDoorVal
import Derived.Test.YtaibpeokfbokfaaGreatDoorRD
import Derived.Test.YtaibpeokfbokfaaGreatDoorRSame
import Derived.Test.YtaibpeokfbokfaaGreatDoorPow
namespace Go.Proofs.YtaibpeokfbokfaaGreatDoor
open Go.RowKit Go.Shelf

/-- what a valid text of zero says -/
theorem zero_val {N D : List UInt8} (v : chkOf N D = 0) (h : pN N = 0) : N = [48] ∧ Mth.dv D = 1 := by
  have v2 := v
  unfold chkOf chk at v
  obtain ⟨a1, a2, a3⟩ := valid_of v2
  have hc : (cutNum N == [48]) = true := by
    cases hh : (cutNum N == [48]) with
    | true => rfl
    | false => have := dv_pos a1 hh; unfold pN at h; omega
  have hd0 : (!digB (cutNum N) || !digB D || D == [48]) = false := by
    cases hh : (!digB (cutNum N) || !digB D || D == [48]) with
    | false => rfl
    | true => rw [if_pos hh] at v; cases v
  rw [if_neg (by rw [hd0]; simp), if_pos hc] at v
  have hg : (negNum N || !D == [49]) = false := by
    cases hh : (negNum N || !D == [49]) with
    | false => rfl
    | true => rw [if_pos hh] at v; cases v
  simp only [Bool.or_eq_false_iff, Bool.not_eq_false'] at hg
  have hcut : cutNum N = N := by
    have h2 : Lib.hasPrefix N [45] = false := hg.1
    unfold cutNum Lib.trimPrefix
    rw [h2]; rfl
  refine ⟨by rw [← hcut]; exact eq_of_beq hc, ?_⟩
  rw [eq_of_beq hg.2]
  decide
theorem zero_txt : pN [48] = 0 := by decide
theorem quot_len {b : Nat} (hb : 10 ≤ b) {N1 D1 N2 D2 : List UInt8} (v1 : chkOf N1 D1 = 0) (v2 : chkOf N2 D2 = 0) (h0 : pN N2 ≠ 0) (l1 : N1.length ≤ 1000000) (l2 : D1.length ≤ 1000000) (l3 : N2.length ≤ 1000000) (l4 : D2.length ≤ 1000000) :
    (Mth.dg b (rnum (pN N1 * Mth.dv D2) (Mth.dv D1 * pN N2))).length ≤ 100000000 ∧ (Mth.dg b (rden (pN N1 * Mth.dv D2) (Mth.dv D1 * pN N2))).length ≤ 100000000 := by
  obtain ⟨a1, a2, a3⟩ := valid_of v1
  obtain ⟨b1, b2, b3⟩ := valid_of v2
  have c1 := dv_len (k := 1000000) hb a1 (Nat.le_trans (cut_len N1) l1)
  have c2 := dv_len (k := 1000000) hb a2 l2
  have c3 := dv_len (k := 1000000) hb b1 (Nat.le_trans (cut_len N2) l3)
  have c4 := dv_len (k := 1000000) hb b2 l4
  have hx : (Mth.dg b (pN N1 * Mth.dv D2)).length ≤ 2000000 := Nat.le_trans (Mth.dg_len_mul (by omega) _ _) (by unfold pN; omega)
  have hd : (Mth.dg b (Mth.dv D1 * pN N2)).length ≤ 2000000 := Nat.le_trans (Mth.dg_len_mul (by omega) _ _) (by unfold pN; omega)
  exact ⟨Nat.le_trans (Mth.dg_len_mono (by omega) (rnum_le _ _)) (by omega), Nat.le_trans (Mth.dg_len_mono (by omega) (rden_le (Nat.mul_pos a3 (by omega)))) (by omega)⟩

set_option maxHeartbeats 4000000 in
set_option maxRecDepth 100000 in
theorem numDiv_walk (N1 D1 D2 RS RT : ByteArray) (N2 : List UInt8) (K1 K2 K : Int) (w : World) (htab : Tabs w)
    (HC1 : Hid (∀ W, Calls Tryz.prog 47 #[.agg #[.string N1, .string D1]] W fun e w' => e = .returned (.int .i64 K1) ∧ Below W.heap.size W w'))
    (HC2 : Hid (∀ W, Calls Tryz.prog 47 #[.agg #[.string ⟨N2.toArray⟩, .string D2]] W fun e w' => e = .returned (.int .i64 K2) ∧ Below W.heap.size W w'))
    (HZ : Hid ((K1 ≠ 0 ∨ K2 ≠ 0 ∨ (N2 == [48]) = false) ∧ ∀ W, Tabs W → Calls Tryz.prog 44 #[.agg #[.string N1, .string D1], .agg #[.string ⟨N2.toArray⟩, .string D2], .func (.func 51) #[] #[]] W fun e w' => e = .returned (.tuple #[.agg #[.string RS, .string RT], .int .i64 K]) ∧ Below W.heap.size W w') ∨
      Hid (K1 = 0 ∧ K2 = 0 ∧ (N2 == [48]) = true ∧ RS = ⟨#[]⟩ ∧ RT = ⟨#[]⟩ ∧ K = 23)) :
    Calls Tryz.prog 16 #[.agg #[.string N1, .string D1], .agg #[.string ⟨N2.toArray⟩, .string D2]] w fun e w' => e = .returned (.tuple #[.agg #[.string RS, .string RT], .int .i64 K]) ∧ Below w.heap.size w w' := by
  obtain ⟨W, hW⟩ : ∃ W, W = ((w.alloc (.cells #[.string N1, .string D1] 27)).alloc (.cells #[.string ⟨N2.toArray⟩, .string D2] 27)).alloc (.cells #[.string ⟨#[]⟩, .string ⟨#[]⟩] 27) := ⟨_, rfl⟩
  have hBW : Below w.heap.size w W := by rw [hW]; exact (((Below.refl _ w).alloc (Nat.le_refl _) _).alloc (by simp) _).alloc (by simp; omega) _
  have hk0 : Blk W w.heap.size 27 #[.string N1, .string D1] := by rw [hW]; exact ((Blk.new w _ _).alloc _).alloc _
  have hk1 : Blk W (w.heap.size + 1) 27 #[.string ⟨N2.toArray⟩, .string D2] := by
    rw [hW]
    have := (Blk.new (w.alloc (.cells #[.string N1, .string D1] 27)) 27 #[.string ⟨N2.toArray⟩, .string D2]).alloc (.cells #[.string ⟨#[]⟩, .string ⟨#[]⟩] 27)
    rwa [World.size_alloc] at this
  have hk2 : Blk W (w.heap.size + 1 + 1) 27 #[.string ⟨#[]⟩, .string ⟨#[]⟩] := by
    rw [hW]
    have := Blk.new ((w.alloc (.cells #[.string N1, .string D1] 27)).alloc (.cells #[.string ⟨N2.toArray⟩, .string D2] 27)) 27 #[.string ⟨#[]⟩, .string ⟨#[]⟩]
    rwa [World.size_alloc, World.size_alloc] at this
  have HS : Hid (∀ w', Below W.heap.size W w' → w'.cell? ⟨w.heap.size, 0, none⟩ = some (.string N1) ∧ w'.cell? ⟨w.heap.size, 1, none⟩ = some (.string D1) ∧ w'.cell? ⟨w.heap.size + 1, 0, none⟩ = some (.string ⟨N2.toArray⟩) ∧ w'.cell? ⟨w.heap.size + 1, 1, none⟩ = some (.string D2)) := Lib.hid fun w' hb =>
    ⟨(hk0.low hb).cell 0, (hk0.low hb).cell 1, (hk1.low hb).cell 0, (hk1.low hb).cell 1⟩
  obtain ⟨p0, p1, p2, p3⟩ := HS.out W (Below.refl _ W)
  have HT := Lib.hid (htab.low hBW)
  have HW := Lib.hid hW
  have HBW := Lib.hid hBW
  have HK2 := Lib.hid hk2
  have fin : ∀ w1, Below W.heap.size W w1 → Hid (Blk w1 (w.heap.size + 1 + 1) 27 #[.string ⟨#[]⟩, .string ⟨#[]⟩]) := fun w1 hb => Lib.hid (HK2.out.low hb)
  clear hW hBW hk0 hk1 hk2 htab
  go_enter Tryz.func16, Tryz.ntmps16
  go_wp2_with fail
  rw [← HW.out]
  refine (HC1.out _).mono ?_
  rintro e w1 ⟨rfl, hB1⟩
  have HB1 := Lib.hid hB1
  clear hB1 p0 p1 p2 p3
  obtain ⟨p0, p1, p2, p3⟩ := HS.out w1 HB1.out
  by_cases h1 : K1 = 0
  · have h1' : (K1 == 0) = true := by simpa using h1
    go_wp2_with fail
    refine (HC2.out _).mono ?_
    rintro e w2 ⟨rfl, hB2⟩
    have HB2 := Lib.hid (HB1.out.trans (hB2.mono HB1.out.size))
    clear hB2 p0 p1 p2 p3
    obtain ⟨p0, p1, p2, p3⟩ := HS.out w2 HB2.out
    by_cases h2 : K2 = 0
    · have h2' : (K2 == 0) = true := by simpa using h2
      rcases HZ with HZ | HZ
      · obtain ⟨hz, hh⟩ := HZ.out
        have h3 : (N2 == [48]) = false := by
          rcases hz with h | h | h
          · exact absurd h1 h
          · exact absurd h2 h
          · exact h
        have HH := Lib.hid hh
        clear hz hh h1 h2
        have HX := Lib.hid (HH.out _ (HT.out.low HB2.out))
        clear HZ HH
        go_wp2_with fail
        refine HX.out.mono ?_
        rintro e w3 ⟨rfl, hB3⟩
        have HB3 := Lib.hid (HB2.out.trans (hB3.mono HB2.out.size))
        have hk := (fin w3 HB3.out).out
        have c0 := hk.cell 0
        have c1 := hk.cell 1
        have f0 := hk.frozen 0
        have f1 := hk.frozen 1
        simp only [List.getElem?_toArray, List.getElem?_cons_zero, List.getElem?_cons_succ] at c0 c1
        clear hk hB3 fin
        go_wp2
        refine bodyPost_ret (v := .tuple #[.agg #[.string RS, .string RT], .int .i64 K]) (by simp [results, Tryz.results16, go_sem, c0, c1]) rfl ?_
        exact ⟨rfl, ((HBW.out.trans (HB3.out.mono HBW.out.size)).setCell (p := ⟨w.heap.size + 1 + 1, 0, none⟩) (by show w.heap.size ≤ w.heap.size + 1 + 1; omega) _).setCell (p := ⟨w.heap.size + 1 + 1, 1, none⟩) (by show w.heap.size ≤ w.heap.size + 1 + 1; omega) _⟩
      · obtain ⟨-, -, h3, rfl, rfl, rfl⟩ := HZ.out
        clear HZ h1 h2
        have hk := (fin w2 HB2.out).out
        have c0 := hk.cell 0
        have c1 := hk.cell 1
        have f0 := hk.frozen 0
        have f1 := hk.frozen 1
        simp only [List.getElem?_toArray, List.getElem?_cons_zero, List.getElem?_cons_succ] at c0 c1
        clear hk fin
        go_wp2
        refine bodyPost_ret (v := .tuple #[.agg #[.string ⟨#[]⟩, .string ⟨#[]⟩], .int .i64 23]) (by simp [results, Tryz.results16, go_sem, c0, c1]) rfl ?_
        exact ⟨rfl, ((HBW.out.trans (HB2.out.mono HBW.out.size)).setCell (p := ⟨w.heap.size + 1 + 1, 0, none⟩) (by show w.heap.size ≤ w.heap.size + 1 + 1; omega) _).setCell (p := ⟨w.heap.size + 1 + 1, 1, none⟩) (by show w.heap.size ≤ w.heap.size + 1 + 1; omega) _⟩
    · have h2' : (K2 == 0) = false := by simpa using h2
      rcases HZ with HZ | HZ
      · have HH := Lib.hid HZ.out.2
        clear h1 h2
        have HX := Lib.hid (HH.out _ (HT.out.low HB2.out))
        clear HZ HH
        go_wp2_with fail
        refine HX.out.mono ?_
        rintro e w3 ⟨rfl, hB3⟩
        have HB3 := Lib.hid (HB2.out.trans (hB3.mono HB2.out.size))
        have hk := (fin w3 HB3.out).out
        have c0 := hk.cell 0
        have c1 := hk.cell 1
        have f0 := hk.frozen 0
        have f1 := hk.frozen 1
        simp only [List.getElem?_toArray, List.getElem?_cons_zero, List.getElem?_cons_succ] at c0 c1
        clear hk hB3 fin
        go_wp2
        refine bodyPost_ret (v := .tuple #[.agg #[.string RS, .string RT], .int .i64 K]) (by simp [results, Tryz.results16, go_sem, c0, c1]) rfl ?_
        exact ⟨rfl, ((HBW.out.trans (HB3.out.mono HBW.out.size)).setCell (p := ⟨w.heap.size + 1 + 1, 0, none⟩) (by show w.heap.size ≤ w.heap.size + 1 + 1; omega) _).setCell (p := ⟨w.heap.size + 1 + 1, 1, none⟩) (by show w.heap.size ≤ w.heap.size + 1 + 1; omega) _⟩
      · exact absurd HZ.out.2.1 h2
  · have h1' : (K1 == 0) = false := by simpa using h1
    rcases HZ with HZ | HZ
    · have HH := Lib.hid HZ.out.2
      clear h1
      have HX := Lib.hid (HH.out _ (HT.out.low HB1.out))
      clear HZ HH
      go_wp2_with fail
      refine HX.out.mono ?_
      rintro e w3 ⟨rfl, hB3⟩
      have HB3 := Lib.hid (HB1.out.trans (hB3.mono HB1.out.size))
      have hk := (fin w3 HB3.out).out
      have c0 := hk.cell 0
      have c1 := hk.cell 1
      have f0 := hk.frozen 0
      have f1 := hk.frozen 1
      simp only [List.getElem?_toArray, List.getElem?_cons_zero, List.getElem?_cons_succ] at c0 c1
      clear hk hB3 fin
      go_wp2
      refine bodyPost_ret (v := .tuple #[.agg #[.string RS, .string RT], .int .i64 K]) (by simp [results, Tryz.results16, go_sem, c0, c1]) rfl ?_
      exact ⟨rfl, ((HBW.out.trans (HB3.out.mono HBW.out.size)).setCell (p := ⟨w.heap.size + 1 + 1, 0, none⟩) (by show w.heap.size ≤ w.heap.size + 1 + 1; omega) _).setCell (p := ⟨w.heap.size + 1 + 1, 1, none⟩) (by show w.heap.size ≤ w.heap.size + 1 + 1; omega) _⟩
    · exact absurd HZ.out.1 h1
theorem enter_div : ∀ args w, (callFunc 51 args).run Tryz.prog w = .ok (.enter 51 args) w := fun _ _ => by kernel_rfl
theorem numDiv_ok (N1 D1 N2 D2 : List UInt8) (w : World) (htab : Tabs w) (l1 : N1.length ≤ 1000000) (l2 : D1.length ≤ 1000000) (l3 : N2.length ≤ 1000000) (l4 : D2.length ≤ 1000000) (v1 : chkOf N1 D1 = 0) (v2 : chkOf N2 D2 = 0) (h0 : pN N2 ≠ 0) :
    Calls Tryz.prog 16 #[.agg #[.string ⟨N1.toArray⟩, .string ⟨D1.toArray⟩], .agg #[.string ⟨N2.toArray⟩, .string ⟨D2.toArray⟩]] w fun e w' => e = .returned (.tuple #[.agg #[.string ⟨(numBytes (rneg (!(negNum N1 == negNum N2)) (pN N1 * Mth.dv D2)) (rnum (pN N1 * Mth.dv D2) (Mth.dv D1 * pN N2))).toArray⟩, .string ⟨(Lib.decDigits (rden (pN N1 * Mth.dv D2) (Mth.dv D1 * pN N2))).toArray⟩], .int .i64 0]) ∧ Below w.heap.size w w' := by
  obtain ⟨a1, a2, a3⟩ := valid_of v1
  obtain ⟨b1, b2, b3⟩ := valid_of v2
  have hz : (N2 == [48]) = false := by
    cases hh : (N2 == [48]) with
    | false => rfl
    | true => exact absurd (by rw [eq_of_beq hh]; exact zero_txt) h0
  have hl := quot_len (b := 1000000000) (by omega) v1 v2 h0 l1 l2 l3 l4
  have c1 := dv_len (b := 1000000000) (k := 1000000) (by omega) a1 (Nat.le_trans (cut_len N1) l1)
  have c2 := dv_len (b := 1000000000) (k := 1000000) (by omega) a2 l2
  have c3 := dv_len (b := 1000000000) (k := 1000000) (by omega) b1 (Nat.le_trans (cut_len N2) l3)
  have c4 := dv_len (b := 1000000000) (k := 1000000) (by omega) b2 l4
  refine numDiv_walk _ _ _ _ _ N2 0 0 0 w htab (Lib.hid fun W => by rw [← v1]; exact numCheck_any N1 D1 W (by omega) (by omega)) (Lib.hid fun W => by rw [← v2]; exact numCheck_any N2 D2 W (by omega) (by omega)) (.inl (Lib.hid ⟨.inr (.inr hz), fun W hW => two_ok 51 enter_div _ _ _ _ _ _ (negNum N1) (negNum N2) (rneg (!(negNum N1 == negNum N2)) (pN N1 * Mth.dv D2)) (pN N1) (Mth.dv D1) (pN N2) (Mth.dv D2) (rnum (pN N1 * Mth.dv D2) (Mth.dv D1 * pN N2)) (rden (pN N1 * Mth.dv D2) (Mth.dv D1 * pN N2)) W hW (Lib.hid fun W => ?_) (Lib.hid fun W => ?_) (Lib.hid ⟨fun W => ?_, fun W => ?_, fun W x1 y1 x2 y2 h1 h2 h3 h4 => ?_, fun W x y h1 h2 h3 => ?_⟩)⟩))
  · rw [← v1]; exact numCheck_any N1 D1 W (by omega) (by omega)
  · rw [← v2]; exact numCheck_any N2 D2 W (by omega) (by omega)
  · exact fof_any N1 D1 W (by omega) (by omega) a1 a2
  · exact fof_any N2 D2 W (by omega) (by omega) b1 b2
  · exact fdiv_any (negNum N1) (negNum N2) (pN N1) (Mth.dv D1) (pN N2) (Mth.dv D2) x1 y1 x2 y2 W h1 h2 h3 h4 (Nat.le_trans c1 (by omega)) (Nat.le_trans c2 (by omega)) (Nat.le_trans c3 (by omega)) (Nat.le_trans c4 (by omega)) (Nat.mul_pos a3 (by omega))
  · exact rat_str _ _ _ x y W h1 h2 (by omega) (by omega) h3
theorem numDiv_bad (N1 D1 N2 D2 : List UInt8) (K : Int) (w : World) (htab : Tabs w) (l1 : N1.length ≤ 1000000) (l2 : D1.length ≤ 1000000) (l3 : N2.length ≤ 1000000) (l4 : D2.length ≤ 1000000) (hK : chk2 (chkOf N1 D1) (chkOf N2 D2) = K) (h0 : K ≠ 0) :
    Calls Tryz.prog 16 #[.agg #[.string ⟨N1.toArray⟩, .string ⟨D1.toArray⟩], .agg #[.string ⟨N2.toArray⟩, .string ⟨D2.toArray⟩]] w fun e w' => e = .returned (.tuple #[.agg #[.string ⟨#[]⟩, .string ⟨#[]⟩], .int .i64 K]) ∧ Below w.heap.size w w' := by
  unfold chk2 at hK
  have hc1 := fun W => numCheck_any N1 D1 W (by omega) (by omega)
  have hc2 := fun W => numCheck_any N2 D2 W (by omega) (by omega)
  by_cases h1 : chkOf N1 D1 = 0
  · rw [if_pos h1] at hK
    refine numDiv_walk _ _ _ _ _ N2 (chkOf N1 D1) (chkOf N2 D2) K w htab (Lib.hid hc1) (Lib.hid hc2) (.inl (Lib.hid ⟨.inr (.inl (by rw [hK]; exact h0)), fun W hW => two_fault2 51 _ _ _ _ K W h0 (Lib.hid fun W => ?_) (Lib.hid fun W => ?_)⟩))
    · rw [← h1]; exact numCheck_any N1 D1 W (by omega) (by omega)
    · rw [← hK]; exact numCheck_any N2 D2 W (by omega) (by omega)
  · rw [if_neg h1] at hK
    refine numDiv_walk _ _ _ _ _ N2 (chkOf N1 D1) (chkOf N2 D2) K w htab (Lib.hid hc1) (Lib.hid hc2) (.inl (Lib.hid ⟨.inl h1, fun W hW => two_fault1 51 _ _ _ _ K W h0 (Lib.hid fun W => ?_)⟩))
    rw [← hK]; exact numCheck_any N1 D1 W (by omega) (by omega)
theorem numDiv_zero (N1 D1 N2 D2 : List UInt8) (w : World) (htab : Tabs w) (l1 : N1.length ≤ 1000000) (l2 : D1.length ≤ 1000000) (l3 : N2.length ≤ 1000000) (l4 : D2.length ≤ 1000000) (v1 : chkOf N1 D1 = 0) (v2 : chkOf N2 D2 = 0) (h0 : pN N2 = 0) :
    Calls Tryz.prog 16 #[.agg #[.string ⟨N1.toArray⟩, .string ⟨D1.toArray⟩], .agg #[.string ⟨N2.toArray⟩, .string ⟨D2.toArray⟩]] w fun e w' => e = .returned (.tuple #[.agg #[.string ⟨#[]⟩, .string ⟨#[]⟩], .int .i64 23]) ∧ Below w.heap.size w w' :=
  numDiv_walk _ _ _ _ _ N2 0 0 23 w htab (Lib.hid fun W => by rw [← v1]; exact numCheck_any N1 D1 W (by omega) (by omega)) (Lib.hid fun W => by rw [← v2]; exact numCheck_any N2 D2 W (by omega) (by omega)) (.inr (Lib.hid ⟨rfl, rfl, by rw [(zero_val v2 h0).1]; rfl, rfl, rfl, rfl⟩))
/-- the error of a quotient -/
def dvF (f : Int) (m : Nat) : Int := if f = 0 ∧ m = 0 then 23 else f
theorem numDiv_pair {N1 D1 N2 D2 : List UInt8} {f : Int} {g1 g2 : Bool} {m1 d1 m2 d2 : Nat} (l1 : N1.length ≤ 1000000) (l2 : D1.length ≤ 1000000) (l3 : N2.length ≤ 1000000) (l4 : D2.length ≤ 1000000) (hf : chk2 (chkOf N1 D1) (chkOf N2 D2) = f)
    (hv : dvF f (pN N2) = 0 → g1 = negNum N1 ∧ m1 = pN N1 ∧ d1 = Mth.dv D1 ∧ g2 = negNum N2 ∧ m2 = pN N2 ∧ d2 = Mth.dv D2) :
    ∃ P Q : ByteArray, (∀ W, Tabs W → Calls Tryz.prog 16 #[.agg #[.string ⟨N1.toArray⟩, .string ⟨D1.toArray⟩], .agg #[.string ⟨N2.toArray⟩, .string ⟨D2.toArray⟩]] W fun e w' => e = .returned (.tuple #[.agg #[.string P, .string Q], .int .i64 (dvF f (pN N2))]) ∧ Below W.heap.size W w') ∧
      (∀ W va vb, Pt W va (rnum (m1 * d2) (d1 * m2)) → Pt W vb (rden (m1 * d2) (d1 * m2)) → Tabs W →
        Calls Tryz.prog 13 #[.agg #[.string P, .string Q], .int .i64 (dvF f (pN N2)), .agg #[.bool (rneg (!(g1 == g2)) (m1 * d2)), va, vb], .int .i64 (dvF f (pN N2))] W fun e w' => e = .returned (.bool true) ∧ Below W.heap.size W w') := by
  by_cases h0 : f = 0
  · obtain ⟨v1, v2⟩ := chk2_zero (hf.trans h0)
    by_cases hz : pN N2 = 0
    · have e : dvF f (pN N2) = 23 := if_pos ⟨h0, hz⟩
      rw [e]
      exact ⟨_, _, fun W hW => numDiv_zero N1 D1 N2 D2 W hW l1 l2 l3 l4 v1 v2 hz, fun W va vb ha hb _ => same_fault 23 _ va vb W _ _ ha hb (by decide)⟩
    · have e : dvF f (pN N2) = 0 := by unfold dvF; rw [if_neg (fun h => hz h.2)]; exact h0
      obtain ⟨rfl, rfl, rfl, rfl, rfl, rfl⟩ := hv e
      rw [e]
      have hl := quot_len (b := 10000) (by omega) v1 v2 hz l1 l2 l3 l4
      refine ⟨_, _, fun W hW => numDiv_ok N1 D1 N2 D2 W hW l1 l2 l3 l4 v1 v2 hz, fun W va vb ha hb hW => ?_⟩
      exact same_ok _ _ _ va vb W ha hb (Nat.le_trans hl.1 (by omega)) (Nat.le_trans hl.2 (by omega)) hW
  · have e : dvF f (pN N2) = f := if_neg (fun h => h0 h.1)
    rw [e]
    exact ⟨_, _, fun W hW => numDiv_bad N1 D1 N2 D2 f W hW l1 l2 l3 l4 hf h0, fun W va vb ha hb _ => same_fault f _ va vb W _ _ ha hb h0⟩
/-- what num.one needs where the number is valid -/
structure OneOkC (F b : Nat) (nv : Value) (N1 D1 RS RT : ByteArray) (g1 s : Bool) (m1 d1 M D : Nat) : Prop where
  of1 : ∀ W, Calls Tryz.prog 62 #[.agg #[.string N1, .string D1]] W (FNum g1 m1 d1 W)
  op : ∀ W x1 y1, Nt W x1 m1 → Nt W y1 d1 → W.cell? ⟨b, 0, none⟩ = some nv → Calls Tryz.prog F #[.agg #[.bool g1, x1, y1], .pointer (some ⟨b, 0, none⟩)] W (FNum s M D W)
  rat : ∀ W v1 v2, Nt W v1 M → Nt W v2 D → Tabs W → Calls Tryz.prog 82 #[.agg #[.bool s, v1, v2]] W fun e w' => e = .returned (.agg #[.string RS, .string RT]) ∧ Below W.heap.size W w'

set_option maxHeartbeats 4000000 in
set_option maxRecDepth 100000 in
theorem one_okc (F b : Nat) (nv : Value) (eF : ∀ args w, (callFunc F args).run Tryz.prog w = .ok (.enter F args) w) (N1 D1 RS RT : ByteArray) (g1 s : Bool) (m1 d1 M D : Nat) (w : World) (htab : Tabs w) (hcb : w.cell? ⟨b, 0, none⟩ = some nv)
    (HC1 : Hid (∀ W, Calls Tryz.prog 47 #[.agg #[.string N1, .string D1]] W fun e w' => e = .returned (.int .i64 0) ∧ Below W.heap.size W w'))
    (HOK : Hid (OneOkC F b nv N1 D1 RS RT g1 s m1 d1 M D)) :
    Calls Tryz.prog 54 #[.agg #[.string N1, .string D1], .func (.func F) #[] #[.pointer (some ⟨b, 0, none⟩)]] w fun e w' => e = .returned (.tuple #[.agg #[.string RS, .string RT], .int .i64 0]) ∧ Below w.heap.size w w' := by
  obtain ⟨W, hW⟩ : ∃ W, W = (w.alloc (.cells #[.string N1, .string D1] 27)).alloc (.cells #[.string ⟨#[]⟩, .string ⟨#[]⟩] 27) := ⟨_, rfl⟩
  have hBW : Below w.heap.size w W := by rw [hW]; exact ((Below.refl _ w).alloc (Nat.le_refl _) _).alloc (by simp) _
  have hk0 : Blk W w.heap.size 27 #[.string N1, .string D1] := by rw [hW]; exact (Blk.new w _ _).alloc _
  have hk2 : Blk W (w.heap.size + 1) 27 #[.string ⟨#[]⟩, .string ⟨#[]⟩] := by
    rw [hW]
    have := Blk.new (w.alloc (.cells #[.string N1, .string D1] 27)) 27 #[.string ⟨#[]⟩, .string ⟨#[]⟩]
    rwa [World.size_alloc] at this
  have e0 := hk0.cell 0
  have e1 := hk0.cell 1
  simp only [List.getElem?_toArray, List.getElem?_cons_zero, List.getElem?_cons_succ] at e0 e1
  have z0 := hk2.lt
  have HW := Lib.hid hW
  have HBW := Lib.hid hBW
  have HK2 := Lib.hid hk2
  have HS : Hid (∀ w', Below W.heap.size W w' → w'.cell? ⟨w.heap.size, 0, none⟩ = some (.string N1) ∧ w'.cell? ⟨w.heap.size, 1, none⟩ = some (.string D1)) := Lib.hid fun w' hb =>
    ⟨(hb.cell (p := ⟨w.heap.size, 0, none⟩) (by show w.heap.size < _; omega)).trans e0, (hb.cell (p := ⟨w.heap.size, 1, none⟩) (by show w.heap.size < _; omega)).trans e1⟩
  have HCB : Hid (∀ w', Below W.heap.size W w' → w'.cell? ⟨b, 0, none⟩ = some nv) := Lib.hid fun w' hb => ((hBW.trans (hb.mono hBW.size)).cell (p := ⟨b, 0, none⟩) (World.block_lt_of_cell? w _ hcb)).trans hcb
  have HTAB := Lib.hid (htab.low hBW)
  clear hW hBW hk0 hk2 htab hcb
  go_enter Tryz.func54, Tryz.ntmps54
  go_wp2_with fail
  rw [← HW.out]
  refine (HC1.out _).mono ?_
  rintro e w1 ⟨rfl, hB1⟩
  obtain ⟨p0, p1⟩ := HS.out w1 hB1
  have HB1 := Lib.hid hB1
  clear hB1 e0 e1
  go_wp2_with fail
  refine (HOK.out.of1 _).mono ?_
  rintro e w3 ⟨v1, v2, rfl, hN1, hN2, hB3⟩
  have HN1 := Lib.hid hN1
  have HN2 := Lib.hid hN2
  have HC3 : Hid (Below W.heap.size W w3) := Lib.hid (HB1.out.trans (hB3.mono HB1.out.size))
  clear hN1 hN2 hB3 p0 p1
  go_wp2_with fail
  refine (HOK.out.op _ _ _ HN1.out HN2.out (HCB.out _ HC3.out)).mono ?_
  rintro e w5 ⟨v5, v6, rfl, hR1, hR2, hB5⟩
  have HC5 : Hid (Below W.heap.size W w5) := Lib.hid (HC3.out.trans (hB5.mono HC3.out.size))
  have HR := Lib.hid (HOK.out.rat _ _ _ hR1 hR2 (HTAB.out.low HC5.out))
  clear hR1 hR2 hB5
  go_wp2_with fail
  refine HR.out.mono ?_
  rintro e w6 ⟨rfl, hB6⟩
  have HBL : Hid (Below W.heap.size W w6) := Lib.hid (HC5.out.trans (hB6.mono HC5.out.size))
  clear hB6
  have hk := HK2.out.low HBL.out
  have c0 := hk.cell 0
  have c1 := hk.cell 1
  have f0 := hk.frozen 0
  have f1 := hk.frozen 1
  simp only [List.getElem?_toArray, List.getElem?_cons_zero, List.getElem?_cons_succ] at c0 c1
  clear hk
  go_wp2
  refine bodyPost_ret (v := .tuple #[.agg #[.string RS, .string RT], .int .i64 0]) (by simp [results, Tryz.results54, go_sem, c0, c1]) rfl ?_
  exact ⟨rfl, ((HBW.out.trans (HBL.out.mono HBW.out.size)).setCell (p := ⟨w.heap.size + 1, 0, none⟩) (by show w.heap.size ≤ w.heap.size + 1; omega) _).setCell (p := ⟨w.heap.size + 1, 1, none⟩) (by show w.heap.size ≤ w.heap.size + 1; omega) _⟩
set_option maxHeartbeats 4000000 in
set_option maxRecDepth 100000 in
theorem one_faultc (F b : Nat) (N1 D1 : ByteArray) (K : Int) (w : World) (hK : K ≠ 0)
    (HC1 : Hid (∀ W, Calls Tryz.prog 47 #[.agg #[.string N1, .string D1]] W fun e w' => e = .returned (.int .i64 K) ∧ Below W.heap.size W w')) :
    Calls Tryz.prog 54 #[.agg #[.string N1, .string D1], .func (.func F) #[] #[.pointer (some ⟨b, 0, none⟩)]] w fun e w' => e = .returned (.tuple #[.agg #[.string ⟨#[]⟩, .string ⟨#[]⟩], .int .i64 K]) ∧ Below w.heap.size w w' := by
  obtain ⟨W, hW⟩ : ∃ W, W = (w.alloc (.cells #[.string N1, .string D1] 27)).alloc (.cells #[.string ⟨#[]⟩, .string ⟨#[]⟩] 27) := ⟨_, rfl⟩
  have hBW : Below w.heap.size w W := by rw [hW]; exact ((Below.refl _ w).alloc (Nat.le_refl _) _).alloc (by simp) _
  have hk0 : Blk W w.heap.size 27 #[.string N1, .string D1] := by rw [hW]; exact (Blk.new w _ _).alloc _
  have hk2 : Blk W (w.heap.size + 1) 27 #[.string ⟨#[]⟩, .string ⟨#[]⟩] := by
    rw [hW]
    have := Blk.new (w.alloc (.cells #[.string N1, .string D1] 27)) 27 #[.string ⟨#[]⟩, .string ⟨#[]⟩]
    rwa [World.size_alloc] at this
  have e0 := hk0.cell 0
  have e1 := hk0.cell 1
  simp only [List.getElem?_toArray, List.getElem?_cons_zero, List.getElem?_cons_succ] at e0 e1
  have z0 := hk2.lt
  have HW := Lib.hid hW
  have HBW := Lib.hid hBW
  have HK2 := Lib.hid hk2
  have HS : Hid (∀ w', Below W.heap.size W w' → w'.cell? ⟨w.heap.size, 0, none⟩ = some (.string N1) ∧ w'.cell? ⟨w.heap.size, 1, none⟩ = some (.string D1)) := Lib.hid fun w' hb =>
    ⟨(hb.cell (p := ⟨w.heap.size, 0, none⟩) (by show w.heap.size < _; omega)).trans e0, (hb.cell (p := ⟨w.heap.size, 1, none⟩) (by show w.heap.size < _; omega)).trans e1⟩
  clear hW hBW hk0 hk2
  go_enter Tryz.func54, Tryz.ntmps54
  go_wp2_with fail
  rw [← HW.out]
  refine (HC1.out _).mono ?_
  rintro e w1 ⟨rfl, hB1⟩
  have HBL := Lib.hid hB1
  have hk := HK2.out.low hB1
  clear hB1
  have c0 := hk.cell 0
  have c1 := hk.cell 1
  have f0 := hk.frozen 0
  have f1 := hk.frozen 1
  simp only [List.getElem?_toArray, List.getElem?_cons_zero, List.getElem?_cons_succ] at c0 c1
  clear hk
  go_wp2
  refine bodyPost_ret (v := .tuple #[.agg #[.string ⟨#[]⟩, .string ⟨#[]⟩], .int .i64 K]) (by simp [results, Tryz.results54, go_sem, c0, c1]) rfl ?_
  exact ⟨rfl, ((HBW.out.trans (HBL.out.mono HBW.out.size)).setCell (p := ⟨w.heap.size + 1, 0, none⟩) (by show w.heap.size ≤ w.heap.size + 1; omega) _).setCell (p := ⟨w.heap.size + 1, 1, none⟩) (by show w.heap.size ≤ w.heap.size + 1; omega) _⟩

set_option maxHeartbeats 4000000 in
set_option maxRecDepth 100000 in
theorem pow1_any (g : Bool) (m d n b : Nat) (x y : Value) (w : World) (h1 : Nt w x m) (h2 : Nt w y d) (l1 : (Mth.dg 1000000000 m).length ≤ 1000000) (l2 : (Mth.dg 1000000000 d).length ≤ 1000000) (hn : n ≤ 64) (hcb : w.cell? ⟨b, 0, none⟩ = some (.int .i64 n)) :
    Calls Tryz.prog 55 #[.agg #[.bool g, x, y], .pointer (some ⟨b, 0, none⟩)] w (FNum (rneg (pwS g n) (m ^ n)) (m ^ n) (pwD m d n) w) := by
  obtain ⟨A1, n1, k1, rfl⟩ := h1.shape
  obtain ⟨A2, n2, k2, rfl⟩ := h2.shape
  obtain ⟨W, hW⟩ : ∃ W, W = (w.alloc (.cells #[.bool g, .slice A1 n1 k1, .slice A2 n2 k2] 78)).alloc (.cells #[.bool false, .slice none 0 0, .slice none 0 0] 78) := ⟨_, rfl⟩
  have hBW : Below w.heap.size w W := by rw [hW]; exact ((Below.refl _ w).alloc (Nat.le_refl _) _).alloc (by simp) _
  have hk0 : Blk W w.heap.size 78 #[.bool g, .slice A1 n1 k1, .slice A2 n2 k2] := by rw [hW]; exact (Blk.new w _ _).alloc _
  have hk2 : Blk W (w.heap.size + 1) 78 #[.bool false, .slice none 0 0, .slice none 0 0] := by
    rw [hW]
    have := Blk.new (w.alloc (.cells #[.bool g, .slice A1 n1 k1, .slice A2 n2 k2] 78)) 78 #[.bool false, .slice none 0 0, .slice none 0 0]
    rwa [World.size_alloc] at this
  have HP := Lib.hid (fpow_any g m d n _ _ W (h1.below hBW) (h2.below hBW) l1 l2 hn)
  have e0 := hk0.cell 0
  have e1 := hk0.cell 1
  have e2 := hk0.cell 2
  simp only [List.getElem?_toArray, List.getElem?_cons_zero, List.getElem?_cons_succ] at e0 e1 e2
  have e3 : W.cell? ⟨b, 0, none⟩ = some (.int .i64 n) := (hBW.cell (p := ⟨b, 0, none⟩) (World.block_lt_of_cell? w _ hcb)).trans hcb
  have HW := Lib.hid hW
  have HBW := Lib.hid hBW
  have HK2 := Lib.hid hk2
  obtain ⟨S, hS⟩ : ∃ S, rneg (pwS g n) (m ^ n) = S := ⟨_, rfl⟩
  obtain ⟨M, hM⟩ : ∃ M, m ^ n = M := ⟨_, rfl⟩
  obtain ⟨D, hD⟩ : ∃ D, pwD m d n = D := ⟨_, rfl⟩
  rw [hS, hM, hD] at HP ⊢
  clear hS hM hD hBW hk0 hk2 h1 h2 hcb
  rw [hW] at e0 e1 e2 e3
  clear hW
  go_enter Tryz.func55, Tryz.ntmps55
  go_wp2_with fail
  rw [← HW.out]
  refine HP.out.mono ?_
  rintro e w1 ⟨v1, v2, rfl, hN1, hN2, hB1⟩
  have HN1 := Lib.hid hN1
  have HN2 := Lib.hid hN2
  have HB1 := Lib.hid hB1
  obtain ⟨A3, n3, k3, rfl⟩ := hN1.shape
  obtain ⟨A4, n4, k4, rfl⟩ := hN2.shape
  have hk := HK2.out.low hB1
  have c0 := hk.cell 0
  have c1 := hk.cell 1
  have c2 := hk.cell 2
  have f0 := hk.frozen 0
  have f1 := hk.frozen 1
  have f2 := hk.frozen 2
  simp only [List.getElem?_toArray, List.getElem?_cons_zero, List.getElem?_cons_succ] at c0 c1 c2
  have HK3 := Lib.hid hk
  clear hk hN1 hN2 hB1 e0 e1 e2 e3
  go_wp2
  refine bodyPost_ret (v := .agg #[.bool S, .slice A3 n3 k3, .slice A4 n4 k4]) (by simp [results, Tryz.results55, go_sem, c0, c1, c2]) rfl ?_
  exact fnum_end (show w.heap.size ≤ w.heap.size + 1 by omega) (HBW.out.trans (HB1.out.mono HBW.out.size)) HK3.out HN1.out HN2.out

set_option maxHeartbeats 4000000 in
set_option maxRecDepth 100000 in
theorem numPower_walk (N1 D1 RS RT : ByteArray) (n K1 K : Int) (w : World) (htab : Tabs w)
    (HC1 : Hid (∀ W, Calls Tryz.prog 47 #[.agg #[.string N1, .string D1]] W fun e w' => e = .returned (.int .i64 K1) ∧ Below W.heap.size W w'))
    (HZ : Hid ((K1 ≠ 0 ∨ (0 ≤ n ∧ n ≤ 64)) ∧ ∀ b W, Tabs W → W.cell? ⟨b, 0, none⟩ = some (.int .i64 n) → Calls Tryz.prog 54 #[.agg #[.string N1, .string D1], .func (.func 55) #[] #[.pointer (some ⟨b, 0, none⟩)]] W fun e w' => e = .returned (.tuple #[.agg #[.string RS, .string RT], .int .i64 K]) ∧ Below W.heap.size W w') ∨
      Hid (K1 = 0 ∧ (n < 0 ∨ 64 < n) ∧ RS = ⟨#[]⟩ ∧ RT = ⟨#[]⟩ ∧ K = 1)) :
    Calls Tryz.prog 20 #[.agg #[.string N1, .string D1], .int .i64 n] w fun e w' => e = .returned (.tuple #[.agg #[.string RS, .string RT], .int .i64 K]) ∧ Below w.heap.size w w' := by
  obtain ⟨W, hW⟩ : ∃ W, W = ((w.alloc (.cells #[.string N1, .string D1] 27)).alloc (.cells #[.int .i64 n] 3)).alloc (.cells #[.string ⟨#[]⟩, .string ⟨#[]⟩] 27) := ⟨_, rfl⟩
  have hBW : Below w.heap.size w W := by rw [hW]; exact (((Below.refl _ w).alloc (Nat.le_refl _) _).alloc (by simp) _).alloc (by simp; omega) _
  have hk0 : Blk W w.heap.size 27 #[.string N1, .string D1] := by rw [hW]; exact ((Blk.new w _ _).alloc _).alloc _
  have hk1 : Blk W (w.heap.size + 1) 3 #[.int .i64 n] := by
    rw [hW]
    have := (Blk.new (w.alloc (.cells #[.string N1, .string D1] 27)) 3 #[.int .i64 n]).alloc (.cells #[.string ⟨#[]⟩, .string ⟨#[]⟩] 27)
    rwa [World.size_alloc] at this
  have hk2 : Blk W (w.heap.size + 1 + 1) 27 #[.string ⟨#[]⟩, .string ⟨#[]⟩] := by
    rw [hW]
    have := Blk.new ((w.alloc (.cells #[.string N1, .string D1] 27)).alloc (.cells #[.int .i64 n] 3)) 27 #[.string ⟨#[]⟩, .string ⟨#[]⟩]
    rwa [World.size_alloc, World.size_alloc] at this
  have HS : Hid (∀ w', Below W.heap.size W w' → w'.cell? ⟨w.heap.size, 0, none⟩ = some (.string N1) ∧ w'.cell? ⟨w.heap.size, 1, none⟩ = some (.string D1) ∧ w'.cell? ⟨w.heap.size + 1, 0, none⟩ = some (.int .i64 n)) := Lib.hid fun w' hb =>
    ⟨(hk0.low hb).cell 0, (hk0.low hb).cell 1, (hk1.low hb).cell 0⟩
  obtain ⟨p0, p1, p2⟩ := HS.out W (Below.refl _ W)
  have HT := Lib.hid (htab.low hBW)
  have HW := Lib.hid hW
  have HBW := Lib.hid hBW
  have HK2 := Lib.hid hk2
  have fin : ∀ w1, Below W.heap.size W w1 → Hid (Blk w1 (w.heap.size + 1 + 1) 27 #[.string ⟨#[]⟩, .string ⟨#[]⟩]) := fun w1 hb => Lib.hid (HK2.out.low hb)
  clear hBW hk0 hk1 hk2 htab
  rw [hW] at p0 p1 p2
  clear hW
  go_enter Tryz.func20, Tryz.ntmps20
  go_wp2_with fail
  rw [← HW.out]
  refine (HC1.out _).mono ?_
  rintro e w1 ⟨rfl, hB1⟩
  have HB1 := Lib.hid hB1
  clear hB1 p0 p1 p2
  obtain ⟨p0, p1, p2⟩ := HS.out w1 HB1.out
  by_cases h1 : K1 = 0
  · have h1' : (K1 == 0) = true := by simpa using h1
    rcases HZ with HZ | HZ
    · obtain ⟨hz, hh⟩ := HZ.out
      have hn : 0 ≤ n ∧ n ≤ 64 := hz.resolve_left (fun h => h h1)
      have n1 : decide (n < 0) = false := by rw [decide_eq_false]; omega
      have n2 : decide (64 < n) = false := by rw [decide_eq_false]; omega
      have HH := Lib.hid hh
      clear hz hh h1 hn
      have HX := Lib.hid (HH.out _ _ (HT.out.low HB1.out) p2)
      clear HZ HH
      go_wp2_with fail
      refine HX.out.mono ?_
      rintro e w3 ⟨rfl, hB3⟩
      have HB3 := Lib.hid (HB1.out.trans (hB3.mono HB1.out.size))
      have hk := (fin w3 HB3.out).out
      have c0 := hk.cell 0
      have c1 := hk.cell 1
      have f0 := hk.frozen 0
      have f1 := hk.frozen 1
      simp only [List.getElem?_toArray, List.getElem?_cons_zero, List.getElem?_cons_succ] at c0 c1
      clear hk hB3 fin
      go_wp2
      refine bodyPost_ret (v := .tuple #[.agg #[.string RS, .string RT], .int .i64 K]) (by simp [results, Tryz.results20, go_sem, c0, c1]) rfl ?_
      exact ⟨rfl, ((HBW.out.trans (HB3.out.mono HBW.out.size)).setCell (p := ⟨w.heap.size + 1 + 1, 0, none⟩) (by show w.heap.size ≤ w.heap.size + 1 + 1; omega) _).setCell (p := ⟨w.heap.size + 1 + 1, 1, none⟩) (by show w.heap.size ≤ w.heap.size + 1 + 1; omega) _⟩
    · have hn := HZ.out.2.1
      clear h1
      by_cases h2 : n < 0
      · have n1 : decide (n < 0) = true := by simpa using h2
        clear hn
        obtain ⟨-, -, rfl, rfl, rfl⟩ := HZ.out
        clear HZ
        have hk := (fin w1 HB1.out).out
        have c0 := hk.cell 0
        have c1 := hk.cell 1
        have f0 := hk.frozen 0
        have f1 := hk.frozen 1
        simp only [List.getElem?_toArray, List.getElem?_cons_zero, List.getElem?_cons_succ] at c0 c1
        clear hk fin
        go_wp2
        refine bodyPost_ret (v := .tuple #[.agg #[.string ⟨#[]⟩, .string ⟨#[]⟩], .int .i64 1]) (by simp [results, Tryz.results20, go_sem, c0, c1]) rfl ?_
        exact ⟨rfl, ((HBW.out.trans (HB1.out.mono HBW.out.size)).setCell (p := ⟨w.heap.size + 1 + 1, 0, none⟩) (by show w.heap.size ≤ w.heap.size + 1 + 1; omega) _).setCell (p := ⟨w.heap.size + 1 + 1, 1, none⟩) (by show w.heap.size ≤ w.heap.size + 1 + 1; omega) _⟩
      · have n1 : decide (n < 0) = false := by simpa using h2
        have h3 : 64 < n := hn.resolve_left h2
        have n2 : decide (64 < n) = true := by simpa using h3
        clear hn h2
        obtain ⟨-, -, rfl, rfl, rfl⟩ := HZ.out
        clear HZ
        have hk := (fin w1 HB1.out).out
        have c0 := hk.cell 0
        have c1 := hk.cell 1
        have f0 := hk.frozen 0
        have f1 := hk.frozen 1
        simp only [List.getElem?_toArray, List.getElem?_cons_zero, List.getElem?_cons_succ] at c0 c1
        clear hk fin
        go_wp2
        refine bodyPost_ret (v := .tuple #[.agg #[.string ⟨#[]⟩, .string ⟨#[]⟩], .int .i64 1]) (by simp [results, Tryz.results20, go_sem, c0, c1]) rfl ?_
        exact ⟨rfl, ((HBW.out.trans (HB1.out.mono HBW.out.size)).setCell (p := ⟨w.heap.size + 1 + 1, 0, none⟩) (by show w.heap.size ≤ w.heap.size + 1 + 1; omega) _).setCell (p := ⟨w.heap.size + 1 + 1, 1, none⟩) (by show w.heap.size ≤ w.heap.size + 1 + 1; omega) _⟩
  · have h1' : (K1 == 0) = false := by simpa using h1
    rcases HZ with HZ | HZ
    · have HH := Lib.hid HZ.out.2
      clear h1
      have HX := Lib.hid (HH.out _ _ (HT.out.low HB1.out) p2)
      clear HZ HH
      go_wp2_with fail
      refine HX.out.mono ?_
      rintro e w3 ⟨rfl, hB3⟩
      have HB3 := Lib.hid (HB1.out.trans (hB3.mono HB1.out.size))
      have hk := (fin w3 HB3.out).out
      have c0 := hk.cell 0
      have c1 := hk.cell 1
      have f0 := hk.frozen 0
      have f1 := hk.frozen 1
      simp only [List.getElem?_toArray, List.getElem?_cons_zero, List.getElem?_cons_succ] at c0 c1
      clear hk hB3 fin
      go_wp2
      refine bodyPost_ret (v := .tuple #[.agg #[.string RS, .string RT], .int .i64 K]) (by simp [results, Tryz.results20, go_sem, c0, c1]) rfl ?_
      exact ⟨rfl, ((HBW.out.trans (HB3.out.mono HBW.out.size)).setCell (p := ⟨w.heap.size + 1 + 1, 0, none⟩) (by show w.heap.size ≤ w.heap.size + 1 + 1; omega) _).setCell (p := ⟨w.heap.size + 1 + 1, 1, none⟩) (by show w.heap.size ≤ w.heap.size + 1 + 1; omega) _⟩
    · exact absurd HZ.out.1 h1

theorem pwD_len {b k : Nat} (hb : 10 ≤ b) {m d : Nat} (h2 : (Mth.dg b d).length ≤ k) (n : Nat) : (Mth.dg b (pwD m d n)).length ≤ n * k + 1 := by
  unfold pwD
  split
  · exact Nat.le_trans (Mth.dg_len_le (by omega) 1 _ (by rw [Nat.pow_one]; omega)) (by omega)
  · exact Mth.dg_len_pow (by omega) h2 n
theorem numPower_ok (N1 D1 : List UInt8) (n : Nat) (w : World) (htab : Tabs w) (l1 : N1.length ≤ 1000000) (l2 : D1.length ≤ 1000000) (hn : n ≤ 64) (v1 : chkOf N1 D1 = 0) :
    Calls Tryz.prog 20 #[.agg #[.string ⟨N1.toArray⟩, .string ⟨D1.toArray⟩], .int .i64 n] w fun e w' => e = .returned (.tuple #[.agg #[.string ⟨(numBytes (rneg (pwS (negNum N1) n) (pN N1 ^ n)) (pN N1 ^ n)).toArray⟩, .string ⟨(Lib.decDigits (pwD (pN N1) (Mth.dv D1) n)).toArray⟩], .int .i64 0]) ∧ Below w.heap.size w w' := by
  obtain ⟨a1, a2, a3⟩ := valid_of v1
  have c1 : (Mth.dg 1000000000 (pN N1)).length ≤ 1000000 := dv_len (b := 1000000000) (k := 1000000) (by omega) a1 (Nat.le_trans (cut_len N1) l1)
  have c2 := dv_len (b := 1000000000) (k := 1000000) (by omega) a2 l2
  have hm : n * 1000000 + 1 ≤ 64000001 := Nat.le_trans (Nat.add_le_add_right (Nat.mul_le_mul_right 1000000 hn) 1) (by decide)
  have q1 := Nat.le_trans (Mth.dg_len_pow (b := 1000000000) (by omega) c1 n) hm
  have q2 := Nat.le_trans (pwD_len (b := 1000000000) (m := pN N1) (by omega) c2 n) hm
  refine numPower_walk _ _ _ _ (n : Int) 0 0 w htab (Lib.hid fun W => by rw [← v1]; exact numCheck_any N1 D1 W (by omega) (by omega)) (.inl (Lib.hid ⟨.inr ⟨by omega, by omega⟩, fun b W hW hcb => one_okc 55 b (.int .i64 n) (fun _ _ => by kernel_rfl) _ _ _ _ (negNum N1) (rneg (pwS (negNum N1) n) (pN N1 ^ n)) (pN N1) (Mth.dv D1) (pN N1 ^ n) (pwD (pN N1) (Mth.dv D1) n) W hW hcb (Lib.hid fun W => ?_) (Lib.hid ⟨fun W => ?_, fun W x1 y1 h1 h2 h3 => ?_, fun W x y h1 h2 h3 => ?_⟩)⟩))
  · rw [← v1]; exact numCheck_any N1 D1 W (by omega) (by omega)
  · exact fof_any N1 D1 W (by omega) (by omega) a1 a2
  · exact pow1_any (negNum N1) (pN N1) (Mth.dv D1) n b x1 y1 W h1 h2 c1 c2 hn h3
  · exact rat_str _ _ _ x y W h1 h2 (Nat.le_trans q1 (by omega)) (Nat.le_trans q2 (by omega)) h3
theorem numPower_bad (N1 D1 : List UInt8) (n K : Int) (w : World) (htab : Tabs w) (l1 : N1.length ≤ 1000000) (l2 : D1.length ≤ 1000000) (hK : chkOf N1 D1 = K) (h0 : K ≠ 0) :
    Calls Tryz.prog 20 #[.agg #[.string ⟨N1.toArray⟩, .string ⟨D1.toArray⟩], .int .i64 n] w fun e w' => e = .returned (.tuple #[.agg #[.string ⟨#[]⟩, .string ⟨#[]⟩], .int .i64 K]) ∧ Below w.heap.size w w' := by
  refine numPower_walk _ _ _ _ n K K w htab (Lib.hid fun W => by rw [← hK]; exact numCheck_any N1 D1 W (by omega) (by omega)) (.inl (Lib.hid ⟨.inl h0, fun b W hW hcb => one_faultc 55 b _ _ K W h0 (Lib.hid fun W => ?_)⟩))
  rw [← hK]; exact numCheck_any N1 D1 W (by omega) (by omega)
theorem numPower_arg (N1 D1 : List UInt8) (n : Int) (w : World) (htab : Tabs w) (l1 : N1.length ≤ 1000000) (l2 : D1.length ≤ 1000000) (v1 : chkOf N1 D1 = 0) (hn : n < 0 ∨ 64 < n) :
    Calls Tryz.prog 20 #[.agg #[.string ⟨N1.toArray⟩, .string ⟨D1.toArray⟩], .int .i64 n] w fun e w' => e = .returned (.tuple #[.agg #[.string ⟨#[]⟩, .string ⟨#[]⟩], .int .i64 1]) ∧ Below w.heap.size w w' :=
  numPower_walk _ _ _ _ n 0 1 w htab (Lib.hid fun W => by rw [← v1]; exact numCheck_any N1 D1 W (by omega) (by omega)) (.inr (Lib.hid ⟨rfl, hn, rfl, rfl, rfl⟩))
/-- the error of a power -/
def pwF (K n : Int) : Int := if K = 0 ∧ (n < 0 ∨ 64 < n) then 1 else K
/-- the answer of num.Power and the comparison that follows -/
theorem numPower_pair {N1 D1 : List UInt8} {K n : Int} (l1 : N1.length ≤ 1000000) (l2 : D1.length ≤ 1000000) (hf : chkOf N1 D1 = K) :
    ∃ P Q : ByteArray, (∀ W, Tabs W → Calls Tryz.prog 20 #[.agg #[.string ⟨N1.toArray⟩, .string ⟨D1.toArray⟩], .int .i64 n] W fun e w' => e = .returned (.tuple #[.agg #[.string P, .string Q], .int .i64 (pwF K n)]) ∧ Below W.heap.size W w') ∧
      (∀ W g m d va vb, (pwF K n = 0 → g = rneg (pwS (negNum N1) n.toNat) (pN N1 ^ n.toNat) ∧ m = pN N1 ^ n.toNat ∧ d = Mth.dv D1 ^ n.toNat) → Pt W va m → Pt W vb d → Tabs W →
        Calls Tryz.prog 13 #[.agg #[.string P, .string Q], .int .i64 (pwF K n), .agg #[.bool g, va, vb], .int .i64 (pwF K n)] W fun e w' => e = .returned (.bool true) ∧ Below W.heap.size W w') := by
  by_cases h0 : K = 0
  · have v1 := hf.trans h0
    by_cases hn : n < 0 ∨ 64 < n
    · have e : pwF K n = 1 := if_pos ⟨h0, hn⟩
      rw [e]
      exact ⟨_, _, fun W hW => numPower_arg N1 D1 n W hW l1 l2 v1 hn, fun W g m d va vb _ ha hb _ => same_fault 1 _ va vb W _ _ ha hb (by decide)⟩
    · have e : pwF K n = 0 := by unfold pwF; rw [if_neg (fun h => hn h.2)]; exact h0
      obtain ⟨q, hq⟩ : ∃ q : Nat, n = q := ⟨n.toNat, by omega⟩
      subst hq
      have hq64 : q ≤ 64 := by omega
      rw [e]
      refine ⟨_, _, fun W hW => numPower_ok N1 D1 q W hW l1 l2 hq64 v1, fun W g m d va vb hv ha hb hW => ?_⟩
      obtain ⟨rfl, rfl, rfl⟩ := hv rfl
      rw [Int.toNat_natCast] at ha hb ⊢
      obtain ⟨a1, a2, a3⟩ := valid_of v1
      have c1 : (Mth.dg 10000 (pN N1)).length ≤ 1000000 := dv_len (b := 10000) (k := 1000000) (by omega) a1 (Nat.le_trans (cut_len N1) l1)
      have c2 := dv_len (b := 10000) (k := 1000000) (by omega) a2 l2
      have hm : q * 1000000 + 1 ≤ 64000001 := Nat.le_trans (Nat.add_le_add_right (Nat.mul_le_mul_right 1000000 hq64) 1) (by decide)
      have q1 := Nat.le_trans (Mth.dg_len_pow (b := 10000) (by omega) c1 q) hm
      have q2 := Nat.le_trans (Mth.dg_len_pow (b := 10000) (by omega) c2 q) hm
      have hd : pwD (pN N1) (Mth.dv D1) q = Mth.dv D1 ^ q := by
        unfold pwD
        by_cases hz : pN N1 ^ q = 0
        · rw [if_pos hz]
          have hz1 : pN N1 = 0 := by
            rcases Nat.eq_zero_or_pos (pN N1) with h | h
            · exact h
            · have := Nat.pow_pos (n := q) h; omega
          rw [(zero_val v1 hz1).2, Nat.one_pow]
        · rw [if_neg hz]
      rw [hd]
      exact same_ok _ _ _ va vb W ha hb (Nat.le_trans q1 (by omega)) (Nat.le_trans q2 (by omega)) hW
  · have e : pwF K n = K := if_neg (fun h => h0 h.1)
    rw [e]
    exact ⟨_, _, fun W hW => numPower_bad N1 D1 n K W hW l1 l2 hf h0, fun W g m d va vb _ ha hb _ => same_fault K _ va vb W _ _ ha hb h0⟩
end Go.Proofs.YtaibpeokfbokfaaGreatDoor
