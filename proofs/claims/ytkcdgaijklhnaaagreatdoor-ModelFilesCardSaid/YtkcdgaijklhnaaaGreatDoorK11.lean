/-
  The naturals: trim, cmp, of, clone.
  The naturals: short and scaled.
  nat.Mul: the product.
-/
import Derived.Test.YtkcdgaijklhnaaaGreatDoorK01
import Derived.Outline
import Derived.Deep.QuietTactic
import Derived.BigQuiet
import Derived.Lib.SliceRun
import Derived.RegionTactic
namespace Go.Proofs.YtkcdgaijklhnaaaGreatDoor
open Go.RowKit
set_option maxHeartbeats 400000 in
set_option maxRecDepth 100000 in
theorem trim_any (l : List Nat) (v : Value) (w : World) (h : Sl w v (u32s l)) (hs : l.length ≤ 9000000000000) :
  Calls Tryz.prog 184 #[v] w fun e w' => ∃ v', e = .returned v' ∧ Sl w v' (u32s (Mth.tidy l)) ∧ w = w' := by
 have HS := Lib.hid h
 obtain ⟨A, c, rfl, h1, h2, h3⟩ := h
 simp only [u32s_length] at *
 unfold maxLen at h2
 have H3 := Lib.hid h3
 clear h3
 go_enter Tryz.func184, Tryz.ntmps184
 go_wp2
 go_loop [0] (fun a0 => ∃ k : Nat, a0 = .slice A k c ∧ k ≤ l.length ∧ Mth.tidy (l.take k) = Mth.tidy l) (fun a0 => lenOf a0)
 case atStart => exact ⟨l.length, rfl, Nat.le_refl _, by rw [List.take_length]⟩
 case round =>
  obtain ⟨k, rfl, hk, ht⟩ := hrel
  have HT := Lib.hid ht
  clear ht
  by_cases h0 : k = 0
  ·subst h0
   go_wp2
   go_ret
   have hd := HT.out
   refine ⟨_, rfl, ?_, rfl⟩
   rw [← hd]
   exact HS.out.head (k := 0) (by simp)
  ·obtain ⟨q, rfl⟩ : ∃ q, k = q + 1 := ⟨k - 1, by omega⟩
   obtain ⟨b, o, rfl, hc⟩ := H3.out (by omega)
   have hcell : w.cell? ⟨b, o + q, none⟩ = some (.int .u32 ((l[q]?.getD 0 : Nat) : Int)) := hc q _ (by
    rw [u32s_get, List.getElem?_eq_getElem (by omega)]; rfl)
   clear hc
   by_cases hz : l[q]?.getD 0 = 0
   ·rw [hz] at hcell
    have hd := HT.out
    rw [take_snoc_nat l q (by omega), hz, Mth.tidy_snoc_zero] at hd
    have HD := Lib.hid hd
    clear hd hz
    go_wp2
    go_round
    case rel => exact ⟨q, rfl, by omega, HD.out⟩
    case measure => simp [lenOf]
   ·have hne : (((l[q]?.getD 0 : Nat) : Int) == 0) = false := by simp; omega
    have hd := HT.out
    rw [take_snoc_nat l q (by omega), Mth.tidy_snoc hz, ← take_snoc_nat l q (by omega)] at hd
    have HD := Lib.hid hd
    clear hd hz
    go_wp2
    go_ret
    refine ⟨_, rfl, ?_, rfl⟩
    rw [← HD.out]
    have := HS.out.head (k := q + 1) (by rw [u32s_length]; omega)
    rwa [u32s, ← List.map_take] at this
end Go.Proofs.YtkcdgaijklhnaaaGreatDoor
namespace Go.Proofs.YtkcdgaijklhnaaaGreatDoor
open Go.RowKit
theorem cmpInt_lt (a b : Int) (w : World) (h : a < b) : Calls Tryz.prog 252 #[.int .i64 a, .int .i64 b] w fun e w' => e = .returned (.int .i64 (-1)) ∧ w' = w := by
 go_enter Tryz.func252, Tryz.ntmps252
 go_wp2
 go_ret
 exact ⟨rfl, rfl⟩
theorem cmpInt_gt (a b : Int) (w : World) (h : b < a) : Calls Tryz.prog 252 #[.int .i64 a, .int .i64 b] w fun e w' => e = .returned (.int .i64 1) ∧ w' = w := by
 go_enter Tryz.func252, Tryz.ntmps252
 go_wp2
 go_ret
 exact ⟨rfl, rfl⟩
theorem cmpInt_any (m n : Nat) (w : World) (h : m ≠ n) : Calls Tryz.prog 252 #[.int .i64 m, .int .i64 n] w fun e w' => e = .returned (.int .i64 (Mth.cmp m n)) ∧ w' = w := by
 rcases Nat.lt_or_ge m n with h1 | h1
 ·rw [Mth.cmp_lt h1]; exact cmpInt_lt _ _ w (by omega)
 ·rw [Mth.cmp_gt (by omega)]; exact cmpInt_gt _ _ w (by omega)
theorem zero_any (n : Nat) (v : Value) (w : World) (h : Nt w v n) (_hs : (Mth.dg 1000000000 n).length ≤ 1000000000000) :
  Calls Tryz.prog 162 #[v] w fun e w' => e = .returned (.bool (decide (n = 0))) ∧ w = w' := by
 obtain ⟨A, c, rfl, h1, h2, h3⟩ := h
 simp only [u32s_length] at *
 by_cases h0 : n = 0
 ·have hl : (((Mth.dg 1000000000 n).length : Int) == 0) = true := by rw [h0, Mth.dg_zero]; rfl
  go_enter Tryz.func162, Tryz.ntmps162
  go_wp2
  go_ret
  exact ⟨by simp [h0, Mth.dg_zero], rfl⟩
 ·have hl : (((Mth.dg 1000000000 n).length : Int) == 0) = false := by
   have := Mth.dg_ne_nil (b := 1000000000) (n := n) (by omega) (by omega)
   simpa using this
  go_enter Tryz.func162, Tryz.ntmps162
  go_wp2
  go_ret
  exact ⟨by simp [h0], rfl⟩
theorem one_any (n : Nat) (v : Value) (w : World) (h : Nt w v n) (_hs : (Mth.dg 1000000000 n).length ≤ 1000000000000) :
  Calls Tryz.prog 147 #[v] w fun e w' => e = .returned (.bool (decide (n = 1))) ∧ w = w' := by
 obtain ⟨A, c, rfl, h1, h2, h3⟩ := h
 simp only [u32s_length] at *
 by_cases h0 : (Mth.dg 1000000000 n).length = 1
 ·obtain ⟨b, o, rfl, h4⟩ := h3 (by omega)
  have hc := h4 0 _ (u32s_at (by omega))
  clear h3 h4
  obtain ⟨x, hx⟩ := List.length_eq_one_iff.1 h0
  have hv := Mth.val_dg (b := 1000000000) (by omega) n
  rw [hx] at hv
  simp only [Mth.val, Nat.mul_zero, Nat.add_zero] at hv
  subst hv
  rw [hx] at hc
  rw [h0] at *
  simp only [List.getElem?_cons_zero, Option.getD_some, Nat.add_zero] at hc
  clear hx
  by_cases h5 : x = 1
  ·subst h5
   go_enter Tryz.func147, Tryz.ntmps147
   go_wp2
   go_ret
   exact ⟨rfl, rfl⟩
  ·have h6 : ((x : Int) == 1) = false := by simpa using (by omega : ¬ (x : Int) = 1)
   go_enter Tryz.func147, Tryz.ntmps147
   go_wp2
   go_ret
   exact ⟨by simp, rfl⟩
 ·have hl : (((Mth.dg 1000000000 n).length : Int) == 1) = false := by simpa using (by omega : ¬ ((Mth.dg 1000000000 n).length : Int) = 1)
  have hn : n ≠ 1 := by rintro rfl; exact h0 (by rw [Mth.dg_one (by omega) (by omega) (by omega)]; rfl)
  clear h3
  go_enter Tryz.func147, Tryz.ntmps147
  go_wp2
  go_ret
  exact ⟨by simp [hn], rfl⟩
set_option maxHeartbeats 1000000 in
set_option maxRecDepth 100000 in
theorem cmp_list (la lb : List Nat) (m n : Nat) (hab : la = lb → m = n) (hlt : la.length < lb.length → m < n) (hgt : lb.length < la.length → n < m)
  (hld : ∀ q, q < la.length → q < lb.length → la.drop (q + 1) = lb.drop (q + 1) → la[q]?.getD 0 < lb[q]?.getD 0 → m < n)
  (hgd : ∀ q, q < la.length → q < lb.length → la.drop (q + 1) = lb.drop (q + 1) → lb[q]?.getD 0 < la[q]?.getD 0 → n < m)
  (hxa : ∀ d ∈ la, d < 1000000000) (hxb : ∀ d ∈ lb, d < 1000000000) (va vb : Value) (w : World) (ha : Sl w va (u32s la)) (hb : Sl w vb (u32s lb)) (_hs : la.length ≤ 1000000000000) (_ht : lb.length ≤ 1000000000000) :
  Calls Tryz.prog 207 #[va, vb] w fun e w' => e = .returned (.int .i64 (Mth.cmp m n)) ∧ ∃ k, w' = w.drewN k := by
 obtain ⟨A, c, rfl, h1, h2, h3⟩ := ha
 obtain ⟨A', c', rfl, h1', h2', h3'⟩ := hb
 simp only [u32s_length] at *
 have HXA := Lib.hid hxa
 have HXB := Lib.hid hxb
 clear hxa hxb
 have HAB := Lib.hid hab
 have HLT := Lib.hid hlt
 have HGT := Lib.hid hgt
 have HLD := Lib.hid hld
 have HGD := Lib.hid hgd
 clear hab hlt hgt hld hgd
 have H3 := Lib.hid h3
 have H3' := Lib.hid h3'
 clear h3 h3'
 by_cases hl : la.length = lb.length
 ·have hl0 : ((la.length : Int) != lb.length) = false := by rw [hl]; simp
  have HL := Lib.hid hl
  clear hl
  go_enter Tryz.func207, Tryz.ntmps207
  go_wp2
  go_loopw [5] (fun a5 wr => ∃ (i : Int) (nd : Nat), a5 = .int .i64 i ∧ -1 ≤ i ∧ i < la.length ∧ la.drop (i + 1).toNat = lb.drop (i + 1).toNat ∧ wr = w.drewN nd) (fun a5 _ => (intOf a5 + 1).toNat)
  case atStart => exact ⟨(la.length : Int) - 1, 0, rfl, by omega, by omega, by rw [show ((la.length : Int) - 1 + 1).toNat = la.length by omega, List.drop_length, HL.out, List.drop_length], rfl⟩
  case round =>
   obtain ⟨i, nd, rfl, hk1, hk2, hd, rfl⟩ := hrel
   have HD := Lib.hid hd
   clear hd
   by_cases h0 : i < 0
   ·go_wp2
    go_ret
    refine ⟨ret_int ?_, nd, rfl⟩
    rw [HAB.out (by have := HD.out; rw [show (i + 1).toNat = 0 by omega] at this; exact this), Mth.cmp_eq]
   ·obtain ⟨q, rfl⟩ : ∃ q : Nat, i = q := ⟨i.toNat, by omega⟩
    have b1 := Mth.getD_lt (by omega) HXA.out q
    have b2 := Mth.getD_lt (by omega) HXB.out q
    have hq' : q < lb.length := by have := HL.out; omega
    obtain ⟨b, o, rfl, hc⟩ := H3.out (by omega)
    obtain ⟨b', o', rfl, hc'⟩ := H3'.out (by omega)
    have g1 := hc q _ (u32s_at (by omega))
    have g2 := hc' q _ (u32s_at hq')
    clear hc hc'
    have hq2 : (q : Int) < (lb.length : Int) := by omega
    have HQ := Lib.hid hq'
    clear hq'
    obtain ⟨x, hx⟩ : ∃ x, la[q]?.getD 0 = x := ⟨_, rfl⟩
    obtain ⟨y, hy⟩ : ∃ y, lb[q]?.getD 0 = y := ⟨_, rfl⟩
    rw [hx] at g1 b1
    rw [hy] at g2 b2
    have HX := Lib.hid hx
    have HY := Lib.hid hy
    clear hx hy
    by_cases hz : x = y
    ·subst hz
     go_wp2
     go_quiet (fail)
     go_wp2
     go_roundw
     case rel =>
      refine ⟨(q : Int) - 1, _, rfl, by omega, by omega, ?_, rfl⟩
      rw [show ((q : Int) - 1 + 1).toNat = q by omega]
      have h6 := HD.out
      have h7 := HQ.out
      rw [show ((q : Int) + 1).toNat = q + 1 by omega] at h6
      rw [List.drop_eq_getElem_cons (show q < la.length by omega), List.drop_eq_getElem_cons h7, h6]
      have h8 := HX.out
      have h9 := HY.out
      rw [List.getElem?_eq_getElem (by omega)] at h8
      rw [List.getElem?_eq_getElem h7] at h9
      simp only [Option.getD_some] at h8 h9
      rw [h8, h9]
     case measure => simp [intOf]
    ·have hne : ((x : Int) != (y : Int)) = true := by simp; omega
     go_wp2
     go_quiet (fail)
     go_wp2
     go_quiet ((go_at_call 252; exact quiet_more (cmpInt_any _ _ _ hz)))
     go_wp2
     go_ret
     refine ⟨ret_int ?_, _, by rw [World.drewN_drewN, World.drewN_drewN]⟩
     have h6 := HD.out
     rw [show ((q : Int) + 1).toNat = q + 1 by omega] at h6
     rcases Nat.lt_or_ge x y with h5 | h5
     ·rw [Mth.cmp_lt h5, Mth.cmp_lt (HLD.out q (by omega) HQ.out h6 (by rw [HX.out, HY.out]; exact h5))]
     ·rw [Mth.cmp_gt (by omega), Mth.cmp_gt (HGD.out q (by omega) HQ.out h6 (by rw [HX.out, HY.out]; omega))]
 ·have hl0 : ((la.length : Int) != lb.length) = true := by simp; omega
  go_enter Tryz.func207, Tryz.ntmps207
  go_wp2_with (go_at_call 252; refine (cmpInt_any _ _ _ hl).mono ?_; rintro e w' ⟨rfl, rfl⟩)
  go_ret
  refine ⟨ret_int ?_, 0, rfl⟩
  rcases Nat.lt_or_ge la.length lb.length with h5 | h5
  ·rw [Mth.cmp_lt h5, Mth.cmp_lt (HLT.out h5)]
  ·rw [Mth.cmp_gt (by omega), Mth.cmp_gt (HGT.out (by omega))]
theorem cmp_any (m n : Nat) (va vb : Value) (w : World) (ha : Nt w va m) (hb : Nt w vb n) (hs : (Mth.dg 1000000000 m).length ≤ 1000000000000) (ht : (Mth.dg 1000000000 n).length ≤ 1000000000000) :
  Calls Tryz.prog 207 #[va, vb] w fun e w' => e = .returned (.int .i64 (Mth.cmp m n)) ∧ ∃ k, w' = w.drewN k :=
 cmp_list (Mth.dg 1000000000 m) (Mth.dg 1000000000 n) m n (Mth.dg_inj (by omega)) (Mth.lt_of_len (by omega)) (Mth.lt_of_len (by omega))
  (fun q h1 h2 h3 h4 => by
   have := Mth.val_lt_of (b := 1000000000) (by omega) h1 h2 h3 (Mth.dg_lt (by omega) m) h4
   rwa [Mth.val_dg (by omega), Mth.val_dg (by omega)] at this)
  (fun q h1 h2 h3 h4 => by
   have := Mth.val_lt_of (b := 1000000000) (by omega) h2 h1 h3.symm (Mth.dg_lt (by omega) n) h4
   rwa [Mth.val_dg (by omega), Mth.val_dg (by omega)] at this) (Mth.dg_lt (by omega) m) (Mth.dg_lt (by omega) n) va vb w ha hb hs ht
end Go.Proofs.YtkcdgaijklhnaaaGreatDoor
namespace Go.Proofs.YtkcdgaijklhnaaaGreatDoor
open Go.RowKit
theorem info_u32 : (Tryz.prog.info? 148).map (fun i => (i.zero, i.size, i.bytes)) = some (some (.int .u32 0), 1, 4) := by kernel_rfl
set_option maxHeartbeats 400000 in
set_option maxRecDepth 100000 in
theorem of_any (n : Nat) (w : World) (hn : n < 18446744073709551616) :
  Calls Tryz.prog 182 #[.int .u64 n] w fun e w' => ∃ v, e = .returned v ∧ Nt w' v n ∧ Below w.heap.size w w' := by
 obtain ⟨i0, hi, hz0, hz1, hz2⟩ := info_parts info_u32
 have HN := Lib.hid hn
 clear hn
 go_enter Tryz.func182, Tryz.ntmps182
 go_wp2
 go_loopw [0, 3] (fun a0 a3 wr => ∃ (m : Nat) (ds : List Nat), a0 = .int .u64 m ∧ m ≤ n ∧ wr.ownsRow w.heap.size 148 1 a3 ds.length (u32s ds) ∧ Mth.dg 1000000000 n = ds ++ Mth.dg 1000000000 m ∧ Below w.heap.size w wr) (fun a0 _ _ => (intOf a0).toNat)
 case atStart => exact ⟨n, [], rfl, Nat.le_refl _, World.ownsRow_nil _ _ _ _, rfl, Below.refl _ _⟩
 case round =>
  obtain ⟨m, ds, rfl, hm, hown, hd, hB⟩ := hrel
  have HD := Lib.hid hd
  have hl3 : ds.length ≤ 3 := by
   have h1 := Mth.dg_len_le (b := 1000000000) (by omega) 3 n (by have := HN.out; omega)
   rw [hd] at h1
   simp at h1
   omega
  clear hd
  by_cases h0 : 0 < m
  ·go_wp2_with (at_builtin; go_must (refine wpList_append_own _ rfl _ _ 159 rfl w.heap.size 148 i0 (.int .u32 0) 1 4 Tryz.underlying159 hi hz0 hz1 hz2 rfl (by decide) _ _ _ rfl (hown.alloc _) ⟨wr.heap.size, 0, none⟩ 1 1 [.int .u32 ((m : Int) % 1000000000)] rfl rfl (cell_one_new _ _ _) (by simp [Value.oneCell']) (by unfold maxLen; omega) (by omega) (by have := hB.size; simp; omega) ?_); intro v' w1 hown' hgrow _)
   have hw : IntKind.u64.wrap ((m : Int) / 1000000000) = ((m / 1000000000 : Nat) : Int) := by
    have := HN.out
    rw [IntKind.wrap_u64]; omega
   have hd := HD.out
   rw [Mth.dg_pos (b := 1000000000) (by omega) h0] at hd
   go_roundw
   case rel =>
    refine ⟨m / 1000000000, ds ++ [m % 1000000000], by rw [hw], by omega, ?_, by rw [hd]; simp, (hB.alloc (hB.size) _).grown hgrow (by have := hB.size; simp; omega) (fun k hk => (hown.lt k hk).1)⟩
    rw [u32s_append, List.length_append]
    exact hown'
   case measure => rw [hw]; simp [intOf]; omega
  ·go_wp2
   go_ret
   obtain rfl : m = 0 := by omega
   have hd := HD.out
   rw [Mth.dg_zero, List.append_nil] at hd
   refine ⟨_, rfl, ?_, hB⟩
   unfold Nt
   rw [hd]
   exact Sl.of_own hown
end Go.Proofs.YtkcdgaijklhnaaaGreatDoor
namespace Go.Proofs.YtkcdgaijklhnaaaGreatDoor
open Go.RowKit
theorem info_u32' : (Tryz.prog.info? 148).map (fun i => (i.zero, i.size, i.bytes)) = some (some (.int .u32 0), 1, 4) := by kernel_rfl
set_option maxHeartbeats 1000000 in
set_option maxRecDepth 100000 in
theorem clone_any (l : List Nat) (v : Value) (w : World) (h : Sl w v (u32s l)) (_hs : l.length ≤ 1000000000000) :
  Calls Tryz.prog 179 #[v] w fun e w' => ∃ v', e = .returned v' ∧ Below w.heap.size w w' ∧ Sl w' v' (u32s l) := by
 obtain ⟨i0, hi, hz0, hz1, hz2⟩ := info_parts info_u32'
 obtain ⟨A, c, rfl, h1, h2, h3⟩ := h
 simp only [u32s_length] at *
 rcases A with _ | ad
 ·have hl : l.length = 0 := by
   rcases Nat.eq_zero_or_pos l.length with h | h
   ·exact h
   ·obtain ⟨b, o, e, _⟩ := h3 h
    cases e
  have hn : l = [] := List.eq_nil_of_length_eq_zero hl
  subst hn
  clear h3
  have heq := fun W => Lib.run_eql_slice_nil (P := Tryz.prog) W 159 148 none 0 c 0 0 Tryz.underlying159
  simp only [List.length_nil]
  go_enter Tryz.func179, Tryz.ntmps179
  go_wp2
  go_ret
  exact ⟨_, rfl, Below.refl _ _, Sl.nil_ _⟩
 ·have hnews : ∀ j u, (u32s l)[j]? = some u → (w.alloc (.cells #[] 148)).cell? (ad.add j) = some u := by
   intro j u hu
   have hj : j < l.length := by
    rcases Nat.lt_or_ge j l.length with h | h
    ·exact h
    ·rw [List.getElem?_eq_none (by rw [u32s_length]; exact h)] at hu; cases hu
   obtain ⟨b, o, e, hc⟩ := h3 (by omega)
   injection e with e
   subst e
   have := hc j u hu
   rw [Addr.add_lit]
   exact (World.cell?_alloc_lt w _ _ (World.block_lt_of_cell? w _ this)).trans this
  have h1c : ∀ u ∈ u32s l, u.oneCell' = true := by
   intro u hu
   simp only [u32s, List.mem_map] at hu
   obtain ⟨d, _, rfl⟩ := hu
   rfl
  have heq := fun W => Lib.run_eql_slice_nil (P := Tryz.prog) W 159 148 (some ad) l.length c 0 0 Tryz.underlying159
  have hown := World.ownsRow_made (base := w.heap.size) (e := 148) (size := 1) w #[] 0 (Nat.le_refl _) (by unfold maxLen; omega) rfl
  have HN := Lib.hid hnews
  have HC1 := Lib.hid h1c
  clear h3 hnews h1c
  go_enter Tryz.func179, Tryz.ntmps179
  go_wp2_with (at_builtin; refine wpList_append_own _ rfl _ _ 159 rfl w.heap.size 148 i0 (.int .u32 0) 1 4 Tryz.underlying159 hi hz0 hz1 hz2 rfl (by decide) _ _ _ rfl hown ad l.length c (u32s l) rfl (by rw [u32s_length, Nat.mul_one]) HN.out HC1.out (by unfold maxLen; omega) (by omega) (by simp) ?_; intro v' w1 hown' hgrow _)
  go_ret
  refine ⟨_, rfl, ((Below.refl _ _).alloc (Nat.le_refl _) _).grown hgrow (by simp) (fun k hk => (hown.lt k hk).1), ?_⟩
  exact Sl.of_own (by simpa using hown')
end Go.Proofs.YtkcdgaijklhnaaaGreatDoor
namespace Go.Proofs.YtkcdgaijklhnaaaGreatDoor
open Go.RowKit
set_option maxHeartbeats 2000000 in
set_option maxRecDepth 100000 in
theorem short_list (la : List Nat) (d : Nat) (hxa : ∀ d ∈ la, d < 1000000000) (va : Value) (w : World) (ha : Sl w va (u32s la)) (_hs : la.length ≤ 1000000000000) (hd0 : 0 < d) (hd1 : d ≤ 1000000000) :
  Calls Tryz.prog 226 #[va, .int .u64 d] w fun e w' => ∃ v, e = .returned (.tuple #[v, .int .u64 ((Mth.val 1000000000 la % d : Nat) : Int)]) ∧ Below w.heap.size w w' ∧ Nt w' v (Mth.val 1000000000 la / d) := by
 obtain ⟨A, c, rfl, h1, h2, h3⟩ := ha
 simp only [u32s_length] at *
 have H3 := Lib.hid h3
 have HXA := Lib.hid hxa
 clear h3 hxa
 have hdz : ((d : Int) == 0) = false := by simpa using (by omega : ¬ (d : Int) = 0)
 have hmk := run_make_row' (P := Tryz.prog) 159 148 (.int .u32 0) 4 Tryz.underlying159 info_u32 rfl .i64 .i64 la.length (by omega) (by omega)
 go_enter Tryz.func226, Tryz.ntmps226
 go_wp2
 clear hmk
 go_loopw [7, 8] (fun a7 a8 wr => ∃ (i : Int) (r : Nat) (L : List Nat), a8 = .int .i64 i ∧ a7 = .int .u64 r ∧ -1 ≤ i ∧ i < la.length ∧ r < d ∧ L.length = la.length ∧ Own wr w.heap.size L ∧ (∀ d ∈ L, d < 1000000000) ∧
  Mth.val 1000000000 (la.drop (i + 1).toNat) = d * Mth.val 1000000000 (L.drop (i + 1).toNat) + r ∧ Below w.heap.size w wr) (fun _ a8 _ => (intOf a8 + 1).toNat)
 case atStart => exact ⟨(la.length : Int) - 1, 0, List.replicate la.length 0, rfl, rfl, by omega, by omega, hd0, by simp, Own.made w _, by simp, by rw [show ((la.length : Int) - 1 + 1).toNat = la.length by omega, List.drop_length]; simp [Mth.val], (Below.refl _ _).alloc (Nat.le_refl _) _⟩
 case round =>
  obtain ⟨i, r, L, rfl, rfl, hi1, hi2, hr, hl, hown, hd, hv, hB⟩ := hrel
  have HD := Lib.hid hd
  have HV := Lib.hid hv
  have HL := Lib.hid hl
  have hBs := hB.size
  clear hd hv
  by_cases h0 : i < 0
  ·obtain rfl : i = -1 := by omega
   have hv := HV.out
   simp only [Int.reduceNeg, Int.reduceAdd, Int.toNat_zero, List.drop_zero] at hv
   have hq : Mth.val 1000000000 la / d = Mth.val 1000000000 L := by
    rw [hv, Nat.mul_add_div hd0, Nat.div_eq_of_lt hr, Nat.add_zero]
   have hm : Mth.val 1000000000 la % d = r := by
    rw [hv, Nat.mul_add_mod, Nat.mod_eq_of_lt hr]
   have hsl := hown.sl (c := la.length) (by omega) (by unfold maxLen; omega)
   rw [HL.out] at hsl
   have HQ := Lib.hid hq
   have HM := Lib.hid hm
   clear hv hl hq hm
   go_wp2_with (go_at_call 184; refine (trim_any L _ _ hsl (by rw [HL.out]; omega)).mono ?_; rintro e w' ⟨v', rfl, hS, rfl⟩)
   go_ret2
   refine ⟨v', by rw [HM.out]; rfl, hB, ?_⟩
   unfold Nt
   rw [HQ.out, ← Mth.tidy_eq (by omega) L HD.out]
   exact hS
  ·obtain ⟨q, rfl⟩ : ∃ q : Nat, i = q := ⟨i.toNat, by omega⟩
   obtain ⟨b, o, rfl, hc⟩ := H3.out (by omega)
   have g1 := (Below.cell hB (World.block_lt_of_cell? w _ (hc q _ (u32s_at (by omega))))).trans (hc q _ (u32s_at (by omega)))
   have g0 := hown.cell (j := q) (by omega)
   have gf := hown.frozen q
   have b1 := Mth.getD_lt (by omega) HXA.out q
   obtain ⟨x, hx⟩ : ∃ x, la[q]?.getD 0 = x := ⟨_, rfl⟩
   obtain ⟨z, hz⟩ : ∃ z, L[q]?.getD 0 = z := ⟨_, rfl⟩
   rw [hx] at g1 b1
   rw [hz] at g0
   have HX := Lib.hid hx
   clear hx hz hc hl
   have ht : r * 1000000000 + x < d * 1000000000 := by
    have : (r + 1) * 1000000000 ≤ d * 1000000000 := Nat.mul_le_mul_right _ hr
    omega
   have e1 : ((r : Int) * 1000000000 + x) / (d : Int) = (((r * 1000000000 + x) / d : Nat) : Int) := by
    rw [Int.natCast_ediv]; simp
   have e2 : ((r : Int) * 1000000000 + x) % (d : Int) = (((r * 1000000000 + x) % d : Nat) : Int) := by
    rw [Int.natCast_emod]; simp
   have e3 : (r * 1000000000 + x) / d < 1000000000 := Nat.div_lt_of_lt_mul ht
   have hR2 : (r * 1000000000 + x) % d < d := Nat.mod_lt _ hd0
   obtain ⟨Q, hQ⟩ : ∃ Q, (r * 1000000000 + x) / d = Q := ⟨_, rfl⟩
   obtain ⟨R, hR⟩ : ∃ R, (r * 1000000000 + x) % d = R := ⟨_, rfl⟩
   rw [hQ] at e1 e3
   rw [hR] at e2 hR2
   have E1 := Lib.hid e1
   have E2 := Lib.hid e2
   have HQ := Lib.hid hQ
   have HR := Lib.hid hR
   clear e1 e2 hQ hR
   go_wp2
   go_region
   go_wp2
   go_roundw
   case rel =>
    have e4 : ((r : Int) * 1000000000 + x) / (d : Int) % 4294967296 = (Q : Int) := by rw [E1.out]; omega
    have hq3 : q < L.length := by rw [HL.out]; omega
    refine ⟨(q : Int) - 1, R, L.set q Q, rfl, by rw [E2.out], by omega, by omega, hR2, by simp [HL.out], by rw [e4]; exact (hown.set _ _).drew, Mth.mem_set_lt HD.out e3, ?_, (hB.setCell (p := ⟨w.heap.size, q, none⟩) (Nat.le_refl _) _).drew⟩
    have hv := HV.out
    rw [show ((q : Int) + 1).toNat = q + 1 by omega] at hv
    rw [show ((q : Int) - 1 + 1).toNat = q by omega, Mth.drop_set_self _ _ _ hq3, Mth.val_drop _ _ _ (by omega), HX.out, ← HQ.out, ← HR.out]
    exact Mth.short_step _ _ _ _ _ _ _ hv rfl
   case measure => simp [intOf]
end Go.Proofs.YtkcdgaijklhnaaaGreatDoor
namespace Go.Proofs.YtkcdgaijklhnaaaGreatDoor
open Go.RowKit
set_option maxHeartbeats 2000000 in
set_option maxRecDepth 100000 in
theorem scaled_list (la : List Nat) (m room : Nat) (hxa : ∀ d ∈ la, d < 1000000000) (va : Value) (w : World) (ha : Sl w va (u32s la)) (_hs : la.length ≤ 1000000000000) (hm0 : 0 < m) (hm1 : m ≤ 1000000000)
  (hr : la.length ≤ room) (hr2 : room ≤ 2000000000000) (hfit : Mth.val 1000000000 la * m < 1000000000 ^ room) :
  Calls Tryz.prog 227 #[va, .int .u64 m, .int .i64 room] w fun e w' => ∃ L : List Nat, e = .returned (.slice (some ⟨w.heap.size, 0, none⟩) room room) ∧ Below w.heap.size w w' ∧
   Own w' w.heap.size L ∧ L.length = room ∧ (∀ d ∈ L, d < 1000000000) ∧ Mth.val 1000000000 L = Mth.val 1000000000 la * m := by
 obtain ⟨A, c, rfl, h1, h2, h3⟩ := ha
 simp only [u32s_length] at *
 have H3 := Lib.hid h3
 have HXA := Lib.hid hxa
 have HF := Lib.hid hfit
 clear h3 hxa hfit
 have hmk := run_make_row' (P := Tryz.prog) 159 148 (.int .u32 0) 4 Tryz.underlying159 info_u32 rfl .i64 .i64 room (by omega) (by omega)
 go_enter Tryz.func227, Tryz.ntmps227
 go_wp2
 clear hmk
 go_loopw [8, 15] (fun a8 a15 wr => ∃ (k cy : Nat) (L : List Nat), a15 = .int .i64 k ∧ a8 = .int .u64 cy ∧ k ≤ room ∧ cy < m ∧ L.length = room ∧ Own wr w.heap.size L ∧ (∀ d ∈ L, d < 1000000000) ∧
  Mth.val 1000000000 (L.take k) + 1000000000 ^ k * cy = Mth.val 1000000000 (la.take k) * m ∧ Below w.heap.size w wr) (fun _ a15 _ => room - (intOf a15).toNat)
 case atStart => exact ⟨0, 0, List.replicate room 0, rfl, rfl, by omega, hm0, by simp, Own.made w _, by simp, by simp [Mth.val], (Below.refl _ _).alloc (Nat.le_refl _) _⟩
 case round =>
  obtain ⟨k, cy, L, rfl, rfl, hk, hcy, hl, hown, hd, hv, hB⟩ := hrel
  have HD := Lib.hid hd
  have HV := Lib.hid hv
  have HL := Lib.hid hl
  have hBs := hB.size
  clear hd hv
  by_cases hlt2 : k < room
  ·have hk2 : (k : Int) < (room : Int) := by omega
   have g0 := hown.cell (j := k) (by omega)
   have gf := hown.frozen k
   obtain ⟨z, hz⟩ : ∃ z, L[k]?.getD 0 = z := ⟨_, rfl⟩
   rw [hz] at g0
   have HL2 := Lib.hid hlt2
   clear hz hlt2 hl
   by_cases hkb : k < la.length
   ·have hkb2 : (k : Int) < (la.length : Int) := by omega
    obtain ⟨b, o, rfl, hc⟩ := H3.out (by omega)
    have g1 := (Below.cell hB (World.block_lt_of_cell? w _ (hc k _ (u32s_at hkb)))).trans (hc k _ (u32s_at hkb))
    have b1 := Mth.getD_lt (by omega) HXA.out k
    obtain ⟨x, hx⟩ : ∃ x, la[k]?.getD 0 = x := ⟨_, rfl⟩
    rw [hx] at g1 b1
    have HX := Lib.hid hx
    have HKB := Lib.hid hkb
    have hp0 : 0 ≤ (x : Int) * (m : Int) := Int.mul_nonneg (by omega) (by omega)
    have hp2 : x * m ≤ 999999999 * m := Nat.mul_le_mul_right _ (by omega)
    have hp1 : (x : Int) * (m : Int) ≤ 999999999 * m := by
     rw [← Int.natCast_mul]; omega
    clear hx hc hkb
    go_wp2
    have e1 : ((cy : Int) + x * m) % 1000000000 = (((cy + x * m) % 1000000000 : Nat) : Int) := by
     rw [Int.natCast_emod]; simp
    have e2 : ((cy : Int) + x * m) / 1000000000 = (((cy + x * m) / 1000000000 : Nat) : Int) := by
     rw [Int.natCast_ediv]; simp
    go_roundw
    case rel =>
     refine ⟨k + 1, (cy + x * m) / 1000000000, L.set k ((cy + x * m) % 1000000000), by go_num, by rw [e2], by omega, by omega, by simp [HL.out], by rw [e1]; exact hown.set _ _, Mth.mem_set_lt (d := (cy + x * m) % 1000000000) HD.out (Nat.mod_lt _ (by omega)), ?_, hB.setCell (p := ⟨w.heap.size, k, none⟩) (Nat.le_refl _) _⟩
     rw [Mth.take_set_succ _ _ _ (by rw [HL.out]; exact HL2.out), Mth.val_snoc, List.length_take, Nat.min_eq_left (by rw [HL.out]; exact Nat.le_of_lt HL2.out), Mth.val_take_succ _ _ _ HKB.out, HX.out, Nat.pow_succ]
     exact Mth.scale_step 1000000000 (1000000000 ^ k) _ _ cy x m (cy + x * m) HV.out rfl
    case measure => simp [intOf]; omega
   ·have hkb2 : (la.length : Int) ≤ (k : Int) := by omega
    have HKB : Hid (la.length ≤ k) := Lib.hid (by omega)
    clear hkb
    go_wp2
    have e1 : (cy : Int) % 1000000000 = (((cy) % 1000000000 : Nat) : Int) := by
     rw [Int.natCast_emod]; simp
    have e2 : (cy : Int) / 1000000000 = (((cy) / 1000000000 : Nat) : Int) := by
     rw [Int.natCast_ediv]; simp
    go_roundw
    case rel =>
     refine ⟨k + 1, (cy) / 1000000000, L.set k ((cy) % 1000000000), by go_num, by rw [e2], by omega, by omega, by simp [HL.out], by rw [e1]; exact hown.set _ _, Mth.mem_set_lt (d := (cy) % 1000000000) HD.out (Nat.mod_lt _ (by omega)), ?_, hB.setCell (p := ⟨w.heap.size, k, none⟩) (Nat.le_refl _) _⟩
     rw [Mth.take_set_succ _ _ _ (by rw [HL.out]; exact HL2.out), Mth.val_snoc, List.length_take, Nat.min_eq_left (by rw [HL.out]; exact Nat.le_of_lt HL2.out), Mth.val_take_ge _ _ _ HKB.out, Nat.pow_succ]
     exact Mth.scale_step 1000000000 (1000000000 ^ k) _ _ cy 0 m (cy) HV.out (by omega)
    case measure => simp [intOf]; omega
  ·obtain rfl : k = room := by omega
   have hv := HV.out
   have hd := HD.out
   rw [List.take_of_length_le (by omega), List.take_of_length_le (by omega)] at hv
   have hf := HF.out
   have hc0 : cy = 0 := by
    rcases Nat.eq_zero_or_pos cy with h | h
    ·exact h
    ·have : 1000000000 ^ k * 1 ≤ 1000000000 ^ k * cy := Nat.mul_le_mul_left _ h
     omega
   have he : Mth.val 1000000000 L = Mth.val 1000000000 la * m := by rw [← hv, hc0]; simp
   have HE := Lib.hid he
   clear hv hd hf he hl hc0
   go_wp2
   go_ret
   exact ⟨L, rfl, hB, hown, HL.out, HD.out, HE.out⟩
end Go.Proofs.YtkcdgaijklhnaaaGreatDoor
namespace Go.Proofs.YtkcdgaijklhnaaaGreatDoor
open Go.RowKit
set_option maxHeartbeats 2000000 in
set_option maxRecDepth 100000 in
theorem mul_list (la lb : List Nat) (hxa : ∀ d ∈ la, d < 1000000000) (hxb : ∀ d ∈ lb, d < 1000000000) (va vb : Value) (w : World) (ha : Sl w va (u32s la)) (hb : Sl w vb (u32s lb)) (_hs : la.length ≤ 1000000000000) (_ht : lb.length ≤ 1000000000000)
  (ha0 : 0 < la.length) (hb0 : 0 < lb.length) :
  Calls Tryz.prog 204 #[va, vb] w fun e w' => ∃ v, e = .returned v ∧ Below w.heap.size w w' ∧ Nt w' v (Mth.val 1000000000 la * Mth.val 1000000000 lb) := by
 obtain ⟨A, c, rfl, h1, h2, h3⟩ := ha
 obtain ⟨A', c', rfl, h1', h2', h3'⟩ := hb
 simp only [u32s_length] at *
 have H3 := Lib.hid h3
 have H3' := Lib.hid h3'
 have HXA := Lib.hid hxa
 have HXB := Lib.hid hxb
 clear h3 h3' hxa hxb
 have q1 : ((la.length : Int) == 0) = false := by simpa using (by omega : ¬ (la.length : Int) = 0)
 have q2 : ((lb.length : Int) == 0) = false := by simpa using (by omega : ¬ (lb.length : Int) = 0)
 have hmk := run_make_row' (P := Tryz.prog) 159 148 (.int .u32 0) 4 Tryz.underlying159 info_u32 rfl .i64 .i64 (la.length + lb.length) (by omega) (by omega)
 rw [show (((la.length + lb.length : Nat)) : Int) = (la.length : Int) + (lb.length : Int) by omega] at hmk
 go_enter Tryz.func204, Tryz.ntmps204
 go_wp2
 clear hmk
 go_loopw [28] (fun a28 wr => ∃ (i : Nat) (L : List Nat), a28 = .int .i64 i ∧ i ≤ la.length ∧ L.length = la.length + lb.length ∧ Own wr w.heap.size L ∧ (∀ d ∈ L, d < 1000000000) ∧
  (∀ j, i + lb.length ≤ j → L[j]?.getD 0 = 0) ∧ Mth.val 1000000000 L = Mth.val 1000000000 (la.take i) * Mth.val 1000000000 lb ∧ Below w.heap.size w wr) (fun a28 _ => la.length - (intOf a28).toNat)
 case atStart => exact ⟨0, List.replicate (la.length + lb.length) 0, rfl, by omega, by simp, Own.made w _, by simp, by intro j _; simp [List.getElem?_replicate]; split <;> rfl, by simp [Mth.val, Mth.val_replicate_zero], (Below.refl _ _).alloc (Nat.le_refl _) _⟩
 case round =>
  obtain ⟨i, L, rfl, hi, hl, hown, hd, hz, hv, hB⟩ := hrel
  have HD := Lib.hid hd
  have HV := Lib.hid hv
  have HL := Lib.hid hl
  have HZ := Lib.hid hz
  have HO := Lib.hid hown
  have hBs := hB.size
  clear hd hv hz
  by_cases hlt2 : i < la.length
  ·have hi2 : (i : Int) < (la.length : Int) := by omega
   obtain ⟨b, o, rfl, hc⟩ := H3.out (by omega)
   have g1 := (Below.cell hB (World.block_lt_of_cell? w _ (hc i _ (u32s_at hlt2)))).trans (hc i _ (u32s_at hlt2))
   have b1 := Mth.getD_lt (by omega) HXA.out i
   obtain ⟨x, hx⟩ : ∃ x, la[i]?.getD 0 = x := ⟨_, rfl⟩
   rw [hx] at g1 b1
   have HX := Lib.hid hx
   have HL2 := Lib.hid hlt2
   clear hx hc hlt2 hl hown
   go_wp2
   obtain ⟨wo, rfl⟩ : ∃ wo : World, wo = wr := ⟨_, rfl⟩
   go_loopw [8, 35] (fun a8 a35 wi => ∃ (k cy : Nat) (M : List Nat), a35 = .int .i64 k ∧ a8 = .int .u64 cy ∧ k ≤ lb.length ∧ cy < 1000000000 ∧ M.length = la.length + lb.length ∧ Own wi w.heap.size M ∧ (∀ d ∈ M, d < 1000000000) ∧
    (∀ j, i + lb.length ≤ j → M[j]?.getD 0 = 0) ∧ Mth.val 1000000000 M + 1000000000 ^ (i + k) * cy = Mth.val 1000000000 L + 1000000000 ^ i * (x * Mth.val 1000000000 (lb.take k)) ∧ Below w.heap.size w wi) (fun _ a35 _ => lb.length - (intOf a35).toNat)
   case atStart => exact ⟨0, 0, L, rfl, rfl, by omega, by omega, HL.out, HO.out, HD.out, HZ.out, by simp [Mth.val], hB⟩
   case round =>
    obtain ⟨k, cy, M, rfl, rfl, hk, hcy, hl, hown, hd, hz, hv, hB'⟩ := hrel
    have HD' := Lib.hid hd
    have HV' := Lib.hid hv
    have HL' := Lib.hid hl
    have HZ' := Lib.hid hz
    have hBs' := hB'.size
    clear hd hv hz
    by_cases hlt3 : k < lb.length
    ·have hk2 : (k : Int) < (lb.length : Int) := by omega
     obtain ⟨b', o', rfl, hc'⟩ := H3'.out (by omega)
     have g2 := (Below.cell hB' (World.block_lt_of_cell? w _ (hc' k _ (u32s_at hlt3)))).trans (hc' k _ (u32s_at hlt3))
     have b2 := Mth.getD_lt (by omega) HXB.out k
     have g0 := hown.cell (j := i + k) (by have := HL2.out; omega)
     have gf := hown.frozen (i + k)
     have b3 := Mth.getD_lt (by omega) HD'.out (i + k)
     obtain ⟨y, hy⟩ : ∃ y, lb[k]?.getD 0 = y := ⟨_, rfl⟩
     obtain ⟨z, hz⟩ : ∃ z, M[i + k]?.getD 0 = z := ⟨_, rfl⟩
     rw [hy] at g2 b2
     rw [hz] at g0 b3
     have HY := Lib.hid hy
     have HZ0 := Lib.hid hz
     have HL3 := Lib.hid hlt3
     have hp0 : 0 ≤ (x : Int) * (y : Int) := Int.mul_nonneg (by omega) (by omega)
     have hp1 : (x : Int) * (y : Int) ≤ 999999998000000001 := by
      have h : x * y ≤ 999999999 * 999999999 := Nat.mul_le_mul (by omega) (by omega)
      rw [← Int.natCast_mul]; omega
     have HP0 := Lib.hid hp0
     clear hy hz hc' hlt3 hl
     go_wp2
     have e1 : ((x : Int) * (y : Int) + z + cy) % 1000000000 = (((x * y + z + cy) % 1000000000 : Nat) : Int) := by
      rw [Int.natCast_emod]; simp
     have e2 : ((x : Int) * (y : Int) + z + cy) / 1000000000 = (((x * y + z + cy) / 1000000000 : Nat) : Int) := by
      rw [Int.natCast_ediv]; simp
     go_roundw
     case rel =>
      have h5 : x * y ≤ 999999999 * 999999999 := Nat.mul_le_mul (by omega) (by omega)
      refine ⟨k + 1, (x * y + z + cy) / 1000000000, M.set (i + k) ((x * y + z + cy) % 1000000000), by go_num, by rw [e2], by omega, by omega, by simp [HL'.out], by rw [e1]; exact hown.set _ _, Mth.mem_set_lt (d := (x * y + z + cy) % 1000000000) HD'.out (Nat.mod_lt _ (by omega)), ?_, ?_, hB'.setCell (p := ⟨w.heap.size, i + k, none⟩) (Nat.le_refl _) _⟩
      ·intro j hj
       rw [Mth.set_get_other (d := (x * y + z + cy) % 1000000000) (by have := HL3.out; omega)]
       exact HZ'.out j hj
      ·rw [Mth.val_take_succ _ _ _ HL3.out, HY.out]
       refine Mth.mul_step _ _ _ _ _ _ _ z cy _ _ _ HV'.out ?_ rfl
       have := Mth.val_set 1000000000 M (i + k) ((x * y + z + cy) % 1000000000) (by have := HL2.out; have := HL3.out; have := HL'.out; omega)
       rwa [HZ0.out] at this
     case measure => simp [intOf]; omega
    ·obtain rfl : k = lb.length := by omega
     have g0 := hown.cell (j := i + lb.length) (by have := HL2.out; omega)
     have gf := hown.frozen (i + lb.length)
     rw [HZ'.out _ (Nat.le_refl _)] at g0
     clear hl
     go_wp2
     go_roundw
     case rel =>
      refine ⟨i + 1, M.set (i + lb.length) cy, by go_num, by omega, by simp [HL'.out], hown.set _ _, Mth.mem_set_lt HD'.out hcy, ?_, ?_, hB'.setCell (p := ⟨w.heap.size, i + lb.length, none⟩) (Nat.le_refl _) _⟩
      ·intro j hj
       rw [Mth.set_get_other (d := cy) (by omega)]
       exact HZ'.out j (by omega)
      ·have h6 := Mth.val_set 1000000000 M (i + lb.length) cy (by have := HL2.out; have := HL'.out; omega)
       rw [HZ'.out _ (Nat.le_refl _)] at h6
       have h7 := HV'.out
       rw [List.take_length, HV.out] at h7
       rw [Mth.val_take_succ _ _ _ HL2.out, HX.out, Nat.add_mul, Nat.mul_assoc]
       omega
     case measure => simp [intOf]; omega
  ·obtain rfl : i = la.length := by omega
   have hsl := hown.sl (c := la.length + lb.length) (by omega) (by unfold maxLen; omega)
   rw [HL.out] at hsl
   have hv := HV.out
   rw [List.take_length] at hv
   have HE := Lib.hid hv
   clear hv hl
   go_wp2_with (go_at_call 184; refine (trim_any L _ _ hsl (by rw [HL.out]; omega)).mono ?_; rintro e w' ⟨v', rfl, hS, rfl⟩)
   go_ret
   refine ⟨v', rfl, hB, ?_⟩
   unfold Nt
   rw [← HE.out, ← Mth.tidy_eq (by omega) L HD.out]
   exact hS
theorem mul_zero_l (lb : List Nat) (va vb : Value) (w : World) (ha : Sl w va []) (hb : Sl w vb (u32s lb)) :
  Calls Tryz.prog 204 #[va, vb] w fun e w' => e = .returned (.slice none 0 0) ∧ w = w' := by
 obtain ⟨A, c, rfl, h1, h2, h3⟩ := ha
 obtain ⟨A', c', rfl, h1', h2', h3'⟩ := hb
 clear h3 h3' h1 h1'
 go_enter Tryz.func204, Tryz.ntmps204
 go_wp2
 go_ret
 exact ⟨rfl, rfl⟩
theorem mul_zero_r (la : List Nat) (va vb : Value) (w : World) (ha : Sl w va (u32s la)) (hb : Sl w vb []) (ha0 : 0 < la.length) (_hs : la.length ≤ 1000000000000) :
  Calls Tryz.prog 204 #[va, vb] w fun e w' => e = .returned (.slice none 0 0) ∧ w = w' := by
 obtain ⟨A, c, rfl, h1, h2, h3⟩ := ha
 obtain ⟨A', c', rfl, h1', h2', h3'⟩ := hb
 simp only [u32s_length] at *
 clear h3 h3' h1 h1'
 have q1 : ((la.length : Int) == 0) = false := by simpa using (by omega : ¬ (la.length : Int) = 0)
 go_enter Tryz.func204, Tryz.ntmps204
 go_wp2
 go_ret
 exact ⟨rfl, rfl⟩
theorem mul_any (m n : Nat) (va vb : Value) (w : World) (ha : Nt w va m) (hb : Nt w vb n) (hs : (Mth.dg 1000000000 m).length ≤ 1000000000000) (ht : (Mth.dg 1000000000 n).length ≤ 1000000000000) :
  Calls Tryz.prog 204 #[va, vb] w fun e w' => ∃ v, e = .returned v ∧ Below w.heap.size w w' ∧ Nt w' v (m * n) := by
 rcases Nat.eq_zero_or_pos m with rfl | hm
 ·have ha' : Sl w va [] := by have := ha; unfold Nt at this; rwa [Mth.dg_zero] at this
  refine (mul_zero_l _ va vb w ha' hb).mono ?_
  rintro e w' ⟨rfl, rfl⟩
  refine ⟨_, rfl, Below.refl _ _, ?_⟩
  unfold Nt
  rw [Nat.zero_mul, Mth.dg_zero]
  exact Sl.nil_ w
 ·have hl1 : 0 < (Mth.dg 1000000000 m).length := List.length_pos_iff.2 (Mth.dg_ne_nil (by omega) hm)
  rcases Nat.eq_zero_or_pos n with rfl | hn
  ·have hb' : Sl w vb [] := by have := hb; unfold Nt at this; rwa [Mth.dg_zero] at this
   refine (mul_zero_r _ va vb w ha hb' hl1 hs).mono ?_
   rintro e w' ⟨rfl, rfl⟩
   refine ⟨_, rfl, Below.refl _ _, ?_⟩
   unfold Nt
   rw [Nat.mul_zero, Mth.dg_zero]
   exact Sl.nil_ w
  ·have hl2 : 0 < (Mth.dg 1000000000 n).length := List.length_pos_iff.2 (Mth.dg_ne_nil (by omega) hn)
   have h := mul_list (Mth.dg 1000000000 m) (Mth.dg 1000000000 n) (Mth.dg_lt (by omega) m) (Mth.dg_lt (by omega) n) va vb w ha hb hs ht hl1 hl2
   rwa [Mth.val_dg (by omega), Mth.val_dg (by omega)] at h
end Go.Proofs.YtkcdgaijklhnaaaGreatDoor
