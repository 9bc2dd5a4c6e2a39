/-
  The naturals: trim, cmp, of, clone.
-/
import Derived.Test.YtneabpgphjcbkaaGreatDoorBase
import Derived.Outline
import Derived.Deep.QuietTactic
import Derived.BigQuiet
import Derived.Lib.SliceRun
namespace Go.Proofs.YtneabpgphjcbkaaGreatDoor
open Go.RowKit

set_option maxHeartbeats 400000 in
set_option maxRecDepth 100000 in
theorem trim_any (l : List Nat) (v : Value) (w : World) (h : Sl w v (u32s l)) (hs : l.length ≤ 9000000000000) :
    Calls Tryz.prog 109 #[v] w fun e w' => ∃ v', e = .returned v' ∧ Sl w v' (u32s (Mth.tidy l)) ∧ w = w' := by
  have HS := Lib.hid h
  obtain ⟨A, c, rfl, h1, h2, h3⟩ := h
  simp only [u32s_length] at *
  unfold maxLen at h2
  have H3 := Lib.hid h3
  clear h3
  go_enter Tryz.func109, Tryz.ntmps109
  go_wp2
  go_loop [0] (fun a0 => ∃ k : Nat, a0 = .slice A k c ∧ k ≤ l.length ∧ Mth.tidy (l.take k) = Mth.tidy l) (fun a0 => lenOf a0)
  case atStart => exact ⟨l.length, rfl, Nat.le_refl _, by rw [List.take_length]⟩
  case round =>
    obtain ⟨k, rfl, hk, ht⟩ := hrel
    have HT := Lib.hid ht
    clear ht
    by_cases h0 : k = 0
    · subst h0
      go_wp2
      go_ret
      have hd := HT.out
      refine ⟨_, rfl, ?_, rfl⟩
      rw [← hd]
      exact HS.out.head (k := 0) (by simp)
    · obtain ⟨q, rfl⟩ : ∃ q, k = q + 1 := ⟨k - 1, by omega⟩
      obtain ⟨b, o, rfl, hc⟩ := H3.out (by omega)
      have hcell : w.cell? ⟨b, o + q, none⟩ = some (.int .u32 ((l[q]?.getD 0 : Nat) : Int)) := hc q _ (by
        rw [u32s_get, List.getElem?_eq_getElem (by omega)]; rfl)
      clear hc
      by_cases hz : l[q]?.getD 0 = 0
      · rw [hz] at hcell
        have hd := HT.out
        rw [take_snoc_nat l q (by omega), hz, Mth.tidy_snoc_zero] at hd
        have HD := Lib.hid hd
        clear hd hz
        go_wp2
        go_round
        case rel => exact ⟨q, rfl, by omega, HD.out⟩
        case measure => simp [lenOf]
      · have hne : (((l[q]?.getD 0 : Nat) : Int) == 0) = false := by simp; omega
        have hd := HT.out
        rw [take_snoc_nat l q (by omega), Mth.tidy_snoc hz, ← take_snoc_nat l q (by omega)] at hd
        have HD := Lib.hid hd
        clear hd hz
        go_wp2
        go_ret
        refine ⟨_, rfl, ?_, rfl⟩
        rw [← HD.out]
        have := HS.out.head (k := q + 1) (by rw [u32s_length]; omega)
        rwa [u32s, ← List.map_take] at this
end Go.Proofs.YtneabpgphjcbkaaGreatDoor

namespace Go.Proofs.YtneabpgphjcbkaaGreatDoor
open Go.RowKit

theorem cmpInt_lt (a b : Int) (w : World) (h : a < b) : Calls Tryz.prog 164 #[.int .i64 a, .int .i64 b] w fun e w' => e = .returned (.int .i64 (-1)) ∧ w' = w := by
  go_enter Tryz.func164, Tryz.ntmps164
  go_wp2
  go_ret
  exact ⟨rfl, rfl⟩
theorem cmpInt_gt (a b : Int) (w : World) (h : b < a) : Calls Tryz.prog 164 #[.int .i64 a, .int .i64 b] w fun e w' => e = .returned (.int .i64 1) ∧ w' = w := by
  go_enter Tryz.func164, Tryz.ntmps164
  go_wp2
  go_ret
  exact ⟨rfl, rfl⟩
theorem cmpInt_any (m n : Nat) (w : World) (h : m ≠ n) : Calls Tryz.prog 164 #[.int .i64 m, .int .i64 n] w fun e w' => e = .returned (.int .i64 (Mth.cmp m n)) ∧ w' = w := by
  rcases Nat.lt_or_ge m n with h1 | h1
  · rw [Mth.cmp_lt h1]; exact cmpInt_lt _ _ w (by omega)
  · rw [Mth.cmp_gt (by omega)]; exact cmpInt_gt _ _ w (by omega)

theorem zero_any (n : Nat) (v : Value) (w : World) (h : Nt w v n) (_hs : (Mth.dg 1000000000 n).length ≤ 1000000000000) :
    Calls Tryz.prog 153 #[v] w fun e w' => e = .returned (.bool (decide (n = 0))) ∧ w = w' := by
  obtain ⟨A, c, rfl, h1, h2, h3⟩ := h
  simp only [u32s_length] at *
  by_cases h0 : n = 0
  · have hl : (((Mth.dg 1000000000 n).length : Int) == 0) = true := by rw [h0, Mth.dg_zero]; rfl
    go_enter Tryz.func153, Tryz.ntmps153
    go_wp2
    go_ret
    exact ⟨by simp [h0, Mth.dg_zero], rfl⟩
  · have hl : (((Mth.dg 1000000000 n).length : Int) == 0) = false := by
      have := Mth.dg_ne_nil (b := 1000000000) (n := n) (by omega) (by omega)
      simpa using this
    go_enter Tryz.func153, Tryz.ntmps153
    go_wp2
    go_ret
    exact ⟨by simp [h0], rfl⟩

theorem one_any (n : Nat) (v : Value) (w : World) (h : Nt w v n) (_hs : (Mth.dg 1000000000 n).length ≤ 1000000000000) :
    Calls Tryz.prog 93 #[v] w fun e w' => e = .returned (.bool (decide (n = 1))) ∧ w = w' := by
  obtain ⟨A, c, rfl, h1, h2, h3⟩ := h
  simp only [u32s_length] at *
  by_cases h0 : (Mth.dg 1000000000 n).length = 1
  · obtain ⟨b, o, rfl, h4⟩ := h3 (by omega)
    have hc := h4 0 _ (u32s_at (by omega))
    clear h3 h4
    obtain ⟨x, hx⟩ := List.length_eq_one_iff.1 h0
    have hv := Mth.val_dg (b := 1000000000) (by omega) n
    rw [hx] at hv
    simp only [Mth.val, Nat.mul_zero, Nat.add_zero] at hv
    subst hv
    rw [hx] at hc
    rw [h0] at *
    simp only [List.getElem?_cons_zero, Option.getD_some, Nat.add_zero] at hc
    clear hx
    by_cases h5 : x = 1
    · subst h5
      go_enter Tryz.func93, Tryz.ntmps93
      go_wp2
      go_ret
      exact ⟨rfl, rfl⟩
    · have h6 : ((x : Int) == 1) = false := by simpa using (by omega : ¬ (x : Int) = 1)
      go_enter Tryz.func93, Tryz.ntmps93
      go_wp2
      go_ret
      exact ⟨by simp, rfl⟩
  · have hl : (((Mth.dg 1000000000 n).length : Int) == 1) = false := by simpa using (by omega : ¬ ((Mth.dg 1000000000 n).length : Int) = 1)
    have hn : n ≠ 1 := by rintro rfl; exact h0 (by rw [Mth.dg_one (by omega) (by omega) (by omega)]; rfl)
    clear h3
    go_enter Tryz.func93, Tryz.ntmps93
    go_wp2
    go_ret
    exact ⟨by simp [hn], rfl⟩

set_option maxHeartbeats 1000000 in
set_option maxRecDepth 100000 in
theorem cmp_list (la lb : List Nat) (m n : Nat) (hab : la = lb → m = n) (hlt : la.length < lb.length → m < n) (hgt : lb.length < la.length → n < m)
    (hld : ∀ q, q < la.length → q < lb.length → la.drop (q + 1) = lb.drop (q + 1) → la[q]?.getD 0 < lb[q]?.getD 0 → m < n)
    (hgd : ∀ q, q < la.length → q < lb.length → la.drop (q + 1) = lb.drop (q + 1) → lb[q]?.getD 0 < la[q]?.getD 0 → n < m)
    (hxa : ∀ d ∈ la, d < 1000000000) (hxb : ∀ d ∈ lb, d < 1000000000) (va vb : Value) (w : World) (ha : Sl w va (u32s la)) (hb : Sl w vb (u32s lb)) (_hs : la.length ≤ 1000000000000) (_ht : lb.length ≤ 1000000000000) :
    Calls Tryz.prog 133 #[va, vb] w fun e w' => e = .returned (.int .i64 (Mth.cmp m n)) ∧ ∃ k, w' = w.drewN k := by
  obtain ⟨A, c, rfl, h1, h2, h3⟩ := ha
  obtain ⟨A', c', rfl, h1', h2', h3'⟩ := hb
  simp only [u32s_length] at *
  have HXA := Lib.hid hxa
  have HXB := Lib.hid hxb
  clear hxa hxb
  have HAB := Lib.hid hab
  have HLT := Lib.hid hlt
  have HGT := Lib.hid hgt
  have HLD := Lib.hid hld
  have HGD := Lib.hid hgd
  clear hab hlt hgt hld hgd
  have H3 := Lib.hid h3
  have H3' := Lib.hid h3'
  clear h3 h3'
  by_cases hl : la.length = lb.length
  · have hl0 : ((la.length : Int) != lb.length) = false := by rw [hl]; simp
    have HL := Lib.hid hl
    clear hl
    go_enter Tryz.func133, Tryz.ntmps133
    go_wp2
    go_loopw [5] (fun a5 wr => ∃ (i : Int) (nd : Nat), a5 = .int .i64 i ∧ -1 ≤ i ∧ i < la.length ∧ la.drop (i + 1).toNat = lb.drop (i + 1).toNat ∧ wr = w.drewN nd) (fun a5 _ => (intOf a5 + 1).toNat)
    case atStart => exact ⟨(la.length : Int) - 1, 0, rfl, by omega, by omega, by rw [show ((la.length : Int) - 1 + 1).toNat = la.length by omega, List.drop_length, HL.out, List.drop_length], rfl⟩
    case round =>
      obtain ⟨i, nd, rfl, hk1, hk2, hd, rfl⟩ := hrel
      have HD := Lib.hid hd
      clear hd
      by_cases h0 : i < 0
      · go_wp2
        go_ret
        refine ⟨ret_int ?_, nd, rfl⟩
        rw [HAB.out (by have := HD.out; rw [show (i + 1).toNat = 0 by omega] at this; exact this), Mth.cmp_eq]
      · obtain ⟨q, rfl⟩ : ∃ q : Nat, i = q := ⟨i.toNat, by omega⟩
        have b1 := Mth.getD_lt (by omega) HXA.out q
        have b2 := Mth.getD_lt (by omega) HXB.out q
        have hq' : q < lb.length := by have := HL.out; omega
        obtain ⟨b, o, rfl, hc⟩ := H3.out (by omega)
        obtain ⟨b', o', rfl, hc'⟩ := H3'.out (by omega)
        have g1 := hc q _ (u32s_at (by omega))
        have g2 := hc' q _ (u32s_at hq')
        clear hc hc'
        have hq2 : (q : Int) < (lb.length : Int) := by omega
        have HQ := Lib.hid hq'
        clear hq'
        obtain ⟨x, hx⟩ : ∃ x, la[q]?.getD 0 = x := ⟨_, rfl⟩
        obtain ⟨y, hy⟩ : ∃ y, lb[q]?.getD 0 = y := ⟨_, rfl⟩
        rw [hx] at g1 b1
        rw [hy] at g2 b2
        have HX := Lib.hid hx
        have HY := Lib.hid hy
        clear hx hy
        by_cases hz : x = y
        · subst hz
          go_wp2
          go_quiet (fail)
          go_wp2
          go_roundw
          case rel =>
            refine ⟨(q : Int) - 1, _, rfl, by omega, by omega, ?_, rfl⟩
            rw [show ((q : Int) - 1 + 1).toNat = q by omega]
            have h6 := HD.out
            have h7 := HQ.out
            rw [show ((q : Int) + 1).toNat = q + 1 by omega] at h6
            rw [List.drop_eq_getElem_cons (show q < la.length by omega), List.drop_eq_getElem_cons h7, h6]
            have h8 := HX.out
            have h9 := HY.out
            rw [List.getElem?_eq_getElem (by omega)] at h8
            rw [List.getElem?_eq_getElem h7] at h9
            simp only [Option.getD_some] at h8 h9
            rw [h8, h9]
          case measure => simp [intOf]
        · have hne : ((x : Int) != (y : Int)) = true := by simp; omega
          go_wp2
          go_quiet (fail)
          go_wp2
          go_quiet ((go_at_call 164; exact quiet_more (cmpInt_any _ _ _ hz)))
          go_wp2
          go_ret
          refine ⟨ret_int ?_, _, by rw [World.drewN_drewN, World.drewN_drewN]⟩
          have h6 := HD.out
          rw [show ((q : Int) + 1).toNat = q + 1 by omega] at h6
          rcases Nat.lt_or_ge x y with h5 | h5
          · rw [Mth.cmp_lt h5, Mth.cmp_lt (HLD.out q (by omega) HQ.out h6 (by rw [HX.out, HY.out]; exact h5))]
          · rw [Mth.cmp_gt (by omega), Mth.cmp_gt (HGD.out q (by omega) HQ.out h6 (by rw [HX.out, HY.out]; omega))]
  · have hl0 : ((la.length : Int) != lb.length) = true := by simp; omega
    go_enter Tryz.func133, Tryz.ntmps133
    go_wp2_with (go_at_call 164; refine (cmpInt_any _ _ _ hl).mono ?_; rintro e w' ⟨rfl, rfl⟩)
    go_ret
    refine ⟨ret_int ?_, 0, rfl⟩
    rcases Nat.lt_or_ge la.length lb.length with h5 | h5
    · rw [Mth.cmp_lt h5, Mth.cmp_lt (HLT.out h5)]
    · rw [Mth.cmp_gt (by omega), Mth.cmp_gt (HGT.out (by omega))]

/-- nat.Cmp compares the numbers. -/
theorem cmp_any (m n : Nat) (va vb : Value) (w : World) (ha : Nt w va m) (hb : Nt w vb n) (hs : (Mth.dg 1000000000 m).length ≤ 1000000000000) (ht : (Mth.dg 1000000000 n).length ≤ 1000000000000) :
    Calls Tryz.prog 133 #[va, vb] w fun e w' => e = .returned (.int .i64 (Mth.cmp m n)) ∧ ∃ k, w' = w.drewN k :=
  cmp_list (Mth.dg 1000000000 m) (Mth.dg 1000000000 n) m n (Mth.dg_inj (by omega)) (Mth.lt_of_len (by omega)) (Mth.lt_of_len (by omega))
    (fun q h1 h2 h3 h4 => by
      have := Mth.val_lt_of (b := 1000000000) (by omega) h1 h2 h3 (Mth.dg_lt (by omega) m) h4
      rwa [Mth.val_dg (by omega), Mth.val_dg (by omega)] at this)
    (fun q h1 h2 h3 h4 => by
      have := Mth.val_lt_of (b := 1000000000) (by omega) h2 h1 h3.symm (Mth.dg_lt (by omega) n) h4
      rwa [Mth.val_dg (by omega), Mth.val_dg (by omega)] at this) (Mth.dg_lt (by omega) m) (Mth.dg_lt (by omega) n) va vb w ha hb hs ht
end Go.Proofs.YtneabpgphjcbkaaGreatDoor

namespace Go.Proofs.YtneabpgphjcbkaaGreatDoor
open Go.RowKit

theorem info_u32 : (Tryz.prog.info? 126).map (fun i => (i.zero, i.size, i.bytes)) = some (some (.int .u32 0), 1, 4) := by kernel_rfl

set_option maxHeartbeats 400000 in
set_option maxRecDepth 100000 in
theorem of_any (n : Nat) (w : World) (hn : n < 18446744073709551616) :
    Calls Tryz.prog 107 #[.int .u64 n] w fun e w' => ∃ v, e = .returned v ∧ Nt w' v n ∧ Below w.heap.size w w' := by
  obtain ⟨i0, hi, hz0, hz1, hz2⟩ := info_parts info_u32
  have HN := Lib.hid hn
  clear hn
  go_enter Tryz.func107, Tryz.ntmps107
  go_wp2
  go_loopw [0, 3] (fun a0 a3 wr => ∃ (m : Nat) (ds : List Nat), a0 = .int .u64 m ∧ m ≤ n ∧ wr.ownsRow w.heap.size 126 1 a3 ds.length (u32s ds) ∧ Mth.dg 1000000000 n = ds ++ Mth.dg 1000000000 m ∧ Below w.heap.size w wr) (fun a0 _ _ => (intOf a0).toNat)
  case atStart => exact ⟨n, [], rfl, Nat.le_refl _, World.ownsRow_nil _ _ _ _, rfl, Below.refl _ _⟩
  case round =>
    obtain ⟨m, ds, rfl, hm, hown, hd, hB⟩ := hrel
    have HD := Lib.hid hd
    have hl3 : ds.length ≤ 3 := by
      have h1 := Mth.dg_len_le (b := 1000000000) (by omega) 3 n (by have := HN.out; omega)
      rw [hd] at h1
      simp at h1
      omega
    clear hd
    by_cases h0 : 0 < m
    · go_wp2_with (at_builtin; go_must (refine wpList_append_own _ rfl _ _ 107 rfl w.heap.size 126 i0 (.int .u32 0) 1 4 Tryz.underlying107 hi hz0 hz1 hz2 rfl (by decide) _ _ _ rfl (hown.alloc _) ⟨wr.heap.size, 0, none⟩ 1 1 [.int .u32 ((m : Int) % 1000000000)] rfl rfl (cell_one_new _ _ _) (by simp [Value.oneCell']) (by unfold maxLen; omega) (by omega) (by have := hB.size; simp; omega) ?_); intro v' w1 hown' hgrow _)
      have hw : IntKind.u64.wrap ((m : Int) / 1000000000) = ((m / 1000000000 : Nat) : Int) := by
        have := HN.out
        rw [IntKind.wrap_u64]; omega
      have hd := HD.out
      rw [Mth.dg_pos (b := 1000000000) (by omega) h0] at hd
      go_roundw
      case rel =>
        refine ⟨m / 1000000000, ds ++ [m % 1000000000], by rw [hw], by omega, ?_, by rw [hd]; simp, (hB.alloc (hB.size) _).grown hgrow (by have := hB.size; simp; omega) (fun k hk => (hown.lt k hk).1)⟩
        rw [u32s_append, List.length_append]
        exact hown'
      case measure => rw [hw]; simp [intOf]; omega
    · go_wp2
      go_ret
      obtain rfl : m = 0 := by omega
      have hd := HD.out
      rw [Mth.dg_zero, List.append_nil] at hd
      refine ⟨_, rfl, ?_, hB⟩
      unfold Nt
      rw [hd]
      exact Sl.of_own hown
end Go.Proofs.YtneabpgphjcbkaaGreatDoor

namespace Go.Proofs.YtneabpgphjcbkaaGreatDoor
open Go.RowKit

theorem info_u32' : (Tryz.prog.info? 126).map (fun i => (i.zero, i.size, i.bytes)) = some (some (.int .u32 0), 1, 4) := by kernel_rfl

set_option maxHeartbeats 1000000 in
set_option maxRecDepth 100000 in
theorem clone_any (l : List Nat) (v : Value) (w : World) (h : Sl w v (u32s l)) (_hs : l.length ≤ 1000000000000) :
    Calls Tryz.prog 104 #[v] w fun e w' => ∃ v', e = .returned v' ∧ Below w.heap.size w w' ∧ Sl w' v' (u32s l) := by
  obtain ⟨i0, hi, hz0, hz1, hz2⟩ := info_parts info_u32'
  obtain ⟨A, c, rfl, h1, h2, h3⟩ := h
  simp only [u32s_length] at *
  rcases A with _ | ad
  · have hl : l.length = 0 := by
      rcases Nat.eq_zero_or_pos l.length with h | h
      · exact h
      · obtain ⟨b, o, e, _⟩ := h3 h
        cases e
    have hn : l = [] := List.eq_nil_of_length_eq_zero hl
    subst hn
    clear h3
    have heq := fun W => Lib.run_eql_slice_nil (P := Tryz.prog) W 107 126 none 0 c 0 0 Tryz.underlying107
    simp only [List.length_nil]
    go_enter Tryz.func104, Tryz.ntmps104
    go_wp2
    go_ret
    exact ⟨_, rfl, Below.refl _ _, Sl.nil_ _⟩
  · have hnews : ∀ j u, (u32s l)[j]? = some u → (w.alloc (.cells #[] 126)).cell? (ad.add j) = some u := by
      intro j u hu
      have hj : j < l.length := by
        rcases Nat.lt_or_ge j l.length with h | h
        · exact h
        · rw [List.getElem?_eq_none (by rw [u32s_length]; exact h)] at hu; cases hu
      obtain ⟨b, o, e, hc⟩ := h3 (by omega)
      injection e with e
      subst e
      have := hc j u hu
      rw [Addr.add_lit]
      exact (World.cell?_alloc_lt w _ _ (World.block_lt_of_cell? w _ this)).trans this
    have h1c : ∀ u ∈ u32s l, u.oneCell' = true := by
      intro u hu
      simp only [u32s, List.mem_map] at hu
      obtain ⟨d, _, rfl⟩ := hu
      rfl
    have heq := fun W => Lib.run_eql_slice_nil (P := Tryz.prog) W 107 126 (some ad) l.length c 0 0 Tryz.underlying107
    have hown := World.ownsRow_made (base := w.heap.size) (e := 126) (size := 1) w #[] 0 (Nat.le_refl _) (by unfold maxLen; omega) rfl
    have HN := Lib.hid hnews
    have HC1 := Lib.hid h1c
    clear h3 hnews h1c
    go_enter Tryz.func104, Tryz.ntmps104
    go_wp2_with (at_builtin; refine wpList_append_own _ rfl _ _ 107 rfl w.heap.size 126 i0 (.int .u32 0) 1 4 Tryz.underlying107 hi hz0 hz1 hz2 rfl (by decide) _ _ _ rfl hown ad l.length c (u32s l) rfl (by rw [u32s_length, Nat.mul_one]) HN.out HC1.out (by unfold maxLen; omega) (by omega) (by simp) ?_; intro v' w1 hown' hgrow _)
    go_ret
    refine ⟨_, rfl, ((Below.refl _ _).alloc (Nat.le_refl _) _).grown hgrow (by simp) (fun k hk => (hown.lt k hk).1), ?_⟩
    exact Sl.of_own (by simpa using hown')
end Go.Proofs.YtneabpgphjcbkaaGreatDoor
