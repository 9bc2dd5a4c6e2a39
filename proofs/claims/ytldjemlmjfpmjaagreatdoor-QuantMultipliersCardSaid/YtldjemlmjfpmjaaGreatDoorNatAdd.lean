/-
  nat.Add, nat.Sub.
-/
import Derived.Test.YtldjemlmjfpmjaaGreatDoorNatA
namespace Go.Proofs.YtldjemlmjfpmjaaGreatDoor
open Go.RowKit

/-- what a sum's digits are -/
def AddPost (w : World) (v : Value) (la lb : List Nat) : Prop :=
  ∃ ds : List Nat, Sl w v (u32s ds) ∧ (∀ d ∈ ds, d < 1000000000) ∧ Mth.val 1000000000 ds = Mth.val 1000000000 la + Mth.val 1000000000 lb ∧ (ds.getLast? = some 1 ∨ ds.length = la.length)

set_option maxHeartbeats 1000000 in
set_option maxRecDepth 100000 in
theorem add_ge (la lb : List Nat) (hxa : ∀ d ∈ la, d < 1000000000) (hxb : ∀ d ∈ lb, d < 1000000000) (va vb : Value) (w : World) (ha : Sl w va (u32s la)) (hb : Sl w vb (u32s lb)) (_hs : la.length ≤ 1000000000000)
    (hlt : ¬ la.length < lb.length) :
    Calls Tryz.prog 191 #[va, vb] w fun e w' => ∃ v, e = .returned v ∧ Below w.heap.size w w' ∧ AddPost w' v la lb := by
  obtain ⟨i0, hi, hz0, hz1, hz2⟩ := info_parts info_u32
  have HSA := Lib.hid ha
  have HSB := Lib.hid hb
  obtain ⟨A, c, rfl, h1, h2, h3⟩ := ha
  obtain ⟨A', c', rfl, h1', h2', h3'⟩ := hb
  simp only [u32s_length] at *
  have H3 := Lib.hid h3
  have H3' := Lib.hid h3'
  have HXA := Lib.hid hxa
  have HXB := Lib.hid hxb
  clear h3 h3' hxa hxb
  have hbytes : 4 * (la.length + 1) ≤ 281474976710656 := by omega
  have hmk := run_make_own (P := Tryz.prog) w w.heap.size 88 178 i0 (.int .u32 0) 1 Tryz.underlying88 hi hz0 hz1 .i64 .i64 (la.length + 1) (by rw [hz2]; exact hbytes) (by unfold maxLen; omega) (Nat.le_refl _)
  obtain ⟨w1, hrun, hown1, hgr1⟩ := hmk
  have hsz1 := hgr1.size
  rw [show (((la.length + 1 : Nat)) : Int) = (la.length : Int) + 1 by omega] at hrun
  have hB1 : Below w.heap.size w w1 := (Below.refl _ _).grown hgr1 (Nat.le_refl _) (fun k hk => by cases hk)
  have HO := Lib.hid hown1
  have HB := Lib.hid hB1
  clear hown1 hgr1 hB1
  go_enter Tryz.func191, Tryz.ntmps191
  go_wp2
  clear hrun
  go_loopw [5, 6, 22] (fun a5 a6 a22 wr => ∃ (k cy : Nat) (ds : List Nat), a22 = .int .i64 k ∧ a6 = .int .u32 cy ∧ k ≤ la.length ∧ cy ≤ 1 ∧ ds.length = k ∧ wr.ownsRow w.heap.size 178 1 a5 k (u32s ds) ∧ (∀ d ∈ ds, d < 1000000000) ∧
    Mth.val 1000000000 ds + 1000000000 ^ k * cy = Mth.val 1000000000 (la.take k) + Mth.val 1000000000 (lb.take k) ∧ Below w.heap.size w wr) (fun _ _ a22 _ => la.length - (intOf a22).toNat)
  case atStart => exact ⟨0, 0, [], rfl, rfl, by omega, by omega, rfl, HO.out, by simp, by simp [Mth.val], HB.out⟩
  case round =>
    obtain ⟨k, cy, ds, rfl, rfl, hk, hcy, hl, hown, hd, hv, hB⟩ := hrel
    have HD := Lib.hid hd
    have HV := Lib.hid hv
    have HL := Lib.hid hl
    clear hd hv hl
    have hBs := hB.size
    by_cases hlt2 : k < la.length
    · have hk2 : (k : Int) < (la.length : Int) := by omega
      obtain ⟨b, o, rfl, hc⟩ := H3.out (by omega)
      have g1 := (Below.cell hB (World.block_lt_of_cell? w _ (hc k _ (u32s_at hlt2)))).trans (hc k _ (u32s_at hlt2))
      have b1 := Mth.getD_lt (by omega) HXA.out k
      obtain ⟨x, hx⟩ : ∃ x, la[k]?.getD 0 = x := ⟨_, rfl⟩
      rw [hx] at g1 b1
      have HX := Lib.hid hx
      have HL2 := Lib.hid hlt2
      clear hx hc hlt2
      by_cases hkb : k < lb.length
      · have hkb2 : (k : Int) < (lb.length : Int) := by omega
        obtain ⟨b', o', rfl, hc'⟩ := H3'.out (by omega)
        have g2 := (Below.cell hB (World.block_lt_of_cell? w _ (hc' k _ (u32s_at hkb)))).trans (hc' k _ (u32s_at hkb))
        have b2 := Mth.getD_lt (by omega) HXB.out k
        obtain ⟨y, hy⟩ : ∃ y, lb[k]?.getD 0 = y := ⟨_, rfl⟩
        rw [hy] at g2 b2
        have HY := Lib.hid hy
        have HKB := Lib.hid hkb
        clear hy hc' hkb
        go_wp2_with (at_builtin; refine wpList_append_own _ rfl _ _ 88 rfl w.heap.size 178 i0 (.int .u32 0) 1 4 Tryz.underlying88 hi hz0 hz1 hz2 rfl (by decide) _ _ _ rfl (hown.alloc _) ⟨wr.heap.size, 0, none⟩ 1 1 [.int .u32 (((x : Int) + cy + y) % 1000000000)] rfl rfl (cell_one_new _ _ _) (by simp [Value.oneCell']) (by unfold maxLen; omega) (by omega) (by simp; omega) ?_; intro v' w2 hown' hgrow _)
        go_roundw
        case rel =>
          refine ⟨k + 1, (x + cy + y) / 1000000000, ds ++ [(x + cy + y) % 1000000000], by go_num, rfl, by omega, by omega, by simp [HL.out], ?_, ?_, ?_, (hB.alloc (hB.size) _).grown hgrow (by simp; omega) (fun q hq => (hown.lt q hq).1)⟩
          · rw [u32s_append]; exact hown'
          · intro d hd
            rcases List.mem_append.1 hd with h | h
            · exact HD.out d h
            · simp at h; omega
          · rw [Mth.val_snoc, HL.out, Mth.val_take_succ _ _ _ HL2.out, Mth.val_take_succ _ _ _ HKB.out, HX.out, HY.out, Nat.pow_succ]
            exact Mth.add_step _ _ _ _ _ _ _ _ _ (by omega) HV.out rfl
        case measure => simp [intOf]; omega
      · have hkb2 : (lb.length : Int) ≤ (k : Int) := by omega
        have HKB := Lib.hid hkb
        clear hkb
        go_wp2_with (at_builtin; refine wpList_append_own _ rfl _ _ 88 rfl w.heap.size 178 i0 (.int .u32 0) 1 4 Tryz.underlying88 hi hz0 hz1 hz2 rfl (by decide) _ _ _ rfl (hown.alloc _) ⟨wr.heap.size, 0, none⟩ 1 1 [.int .u32 (((x : Int) + cy) % 1000000000)] rfl rfl (cell_one_new _ _ _) (by simp [Value.oneCell']) (by unfold maxLen; omega) (by omega) (by simp; omega) ?_; intro v' w2 hown' hgrow _)
        go_roundw
        case rel =>
          refine ⟨k + 1, (x + cy) / 1000000000, ds ++ [(x + cy) % 1000000000], by go_num, rfl, by omega, by omega, by simp [HL.out], ?_, ?_, ?_, (hB.alloc (hB.size) _).grown hgrow (by simp; omega) (fun q hq => (hown.lt q hq).1)⟩
          · rw [u32s_append]; exact hown'
          · intro d hd
            rcases List.mem_append.1 hd with h | h
            · exact HD.out d h
            · simp at h; omega
          · rw [Mth.val_snoc, HL.out, Mth.val_take_succ _ _ _ HL2.out, Mth.val_take_ge _ _ _ (by have := HKB.out; omega), HX.out, Nat.pow_succ]
            exact Mth.add_step _ _ _ _ _ _ _ 0 _ (by omega) HV.out rfl
        case measure => simp [intOf]; omega
    · obtain rfl : k = la.length := by omega
      have hv := HV.out
      rw [List.take_length, List.take_of_length_le (by omega)] at hv
      have HV2 := Lib.hid hv
      clear hv
      by_cases hc0 : 0 < cy
      · obtain rfl : cy = 1 := by omega
        go_wp2_with (at_builtin; refine wpList_append_own _ rfl _ _ 88 rfl w.heap.size 178 i0 (.int .u32 0) 1 4 Tryz.underlying88 hi hz0 hz1 hz2 rfl (by decide) _ _ _ rfl (hown.alloc _) ⟨wr.heap.size, 0, none⟩ 1 1 [.int .u32 1] rfl rfl (cell_one_new _ _ _) (by simp [Value.oneCell']) (by unfold maxLen; omega) (by omega) (by simp; omega) ?_; intro v' w2 hown' hgrow _)
        go_ret
        refine ⟨_, rfl, (hB.alloc (hB.size) _).grown hgrow (by simp; omega) (fun q hq => (hown.lt q hq).1), ds ++ [1], ?_, ?_, ?_, ?_⟩
        · rw [u32s_append]; exact Sl.of_own hown'
        · intro d hd
          rcases List.mem_append.1 hd with h | h
          · exact HD.out d h
          · simp at h; omega
        · rw [Mth.val_snoc, HL.out]; exact HV2.out
        · exact Or.inl (by simp)
      · obtain rfl : cy = 0 := by omega
        go_wp2
        go_ret
        refine ⟨_, rfl, hB, ds, Sl.of_own hown, HD.out, ?_, Or.inr HL.out⟩
        have := HV2.out
        omega

set_option maxHeartbeats 1000000 in
set_option maxRecDepth 100000 in
theorem add_lt (la lb : List Nat) (hxa : ∀ d ∈ la, d < 1000000000) (hxb : ∀ d ∈ lb, d < 1000000000) (va vb : Value) (w : World) (ha : Sl w va (u32s la)) (hb : Sl w vb (u32s lb)) (_hs : la.length ≤ 1000000000000)
    (hlt : lb.length < la.length) :
    Calls Tryz.prog 191 #[vb, va] w fun e w' => ∃ v, e = .returned v ∧ Below w.heap.size w w' ∧ AddPost w' v la lb := by
  obtain ⟨i0, hi, hz0, hz1, hz2⟩ := info_parts info_u32
  have HSA := Lib.hid ha
  have HSB := Lib.hid hb
  obtain ⟨A, c, rfl, h1, h2, h3⟩ := ha
  obtain ⟨A', c', rfl, h1', h2', h3'⟩ := hb
  simp only [u32s_length] at *
  have H3 := Lib.hid h3
  have H3' := Lib.hid h3'
  have HXA := Lib.hid hxa
  have HXB := Lib.hid hxb
  clear h3 h3' hxa hxb
  have hbytes : 4 * (la.length + 1) ≤ 281474976710656 := by omega
  have hmk := run_make_own (P := Tryz.prog) w w.heap.size 88 178 i0 (.int .u32 0) 1 Tryz.underlying88 hi hz0 hz1 .i64 .i64 (la.length + 1) (by rw [hz2]; exact hbytes) (by unfold maxLen; omega) (Nat.le_refl _)
  obtain ⟨w1, hrun, hown1, hgr1⟩ := hmk
  have hsz1 := hgr1.size
  rw [show (((la.length + 1 : Nat)) : Int) = (la.length : Int) + 1 by omega] at hrun
  have hB1 : Below w.heap.size w w1 := (Below.refl _ _).grown hgr1 (Nat.le_refl _) (fun k hk => by cases hk)
  have HO := Lib.hid hown1
  have HB := Lib.hid hB1
  clear hown1 hgr1 hB1
  go_enter Tryz.func191, Tryz.ntmps191
  go_wp2
  clear hrun
  go_loopw [5, 6, 22] (fun a5 a6 a22 wr => ∃ (k cy : Nat) (ds : List Nat), a22 = .int .i64 k ∧ a6 = .int .u32 cy ∧ k ≤ la.length ∧ cy ≤ 1 ∧ ds.length = k ∧ wr.ownsRow w.heap.size 178 1 a5 k (u32s ds) ∧ (∀ d ∈ ds, d < 1000000000) ∧
    Mth.val 1000000000 ds + 1000000000 ^ k * cy = Mth.val 1000000000 (la.take k) + Mth.val 1000000000 (lb.take k) ∧ Below w.heap.size w wr) (fun _ _ a22 _ => la.length - (intOf a22).toNat)
  case atStart => exact ⟨0, 0, [], rfl, rfl, by omega, by omega, rfl, HO.out, by simp, by simp [Mth.val], HB.out⟩
  case round =>
    obtain ⟨k, cy, ds, rfl, rfl, hk, hcy, hl, hown, hd, hv, hB⟩ := hrel
    have HD := Lib.hid hd
    have HV := Lib.hid hv
    have HL := Lib.hid hl
    clear hd hv hl
    have hBs := hB.size
    by_cases hlt2 : k < la.length
    · have hk2 : (k : Int) < (la.length : Int) := by omega
      obtain ⟨b, o, rfl, hc⟩ := H3.out (by omega)
      have g1 := (Below.cell hB (World.block_lt_of_cell? w _ (hc k _ (u32s_at hlt2)))).trans (hc k _ (u32s_at hlt2))
      have b1 := Mth.getD_lt (by omega) HXA.out k
      obtain ⟨x, hx⟩ : ∃ x, la[k]?.getD 0 = x := ⟨_, rfl⟩
      rw [hx] at g1 b1
      have HX := Lib.hid hx
      have HL2 := Lib.hid hlt2
      clear hx hc hlt2
      by_cases hkb : k < lb.length
      · have hkb2 : (k : Int) < (lb.length : Int) := by omega
        obtain ⟨b', o', rfl, hc'⟩ := H3'.out (by omega)
        have g2 := (Below.cell hB (World.block_lt_of_cell? w _ (hc' k _ (u32s_at hkb)))).trans (hc' k _ (u32s_at hkb))
        have b2 := Mth.getD_lt (by omega) HXB.out k
        obtain ⟨y, hy⟩ : ∃ y, lb[k]?.getD 0 = y := ⟨_, rfl⟩
        rw [hy] at g2 b2
        have HY := Lib.hid hy
        have HKB := Lib.hid hkb
        clear hy hc' hkb
        go_wp2_with (at_builtin; refine wpList_append_own _ rfl _ _ 88 rfl w.heap.size 178 i0 (.int .u32 0) 1 4 Tryz.underlying88 hi hz0 hz1 hz2 rfl (by decide) _ _ _ rfl (hown.alloc _) ⟨wr.heap.size, 0, none⟩ 1 1 [.int .u32 (((x : Int) + cy + y) % 1000000000)] rfl rfl (cell_one_new _ _ _) (by simp [Value.oneCell']) (by unfold maxLen; omega) (by omega) (by simp; omega) ?_; intro v' w2 hown' hgrow _)
        go_roundw
        case rel =>
          refine ⟨k + 1, (x + cy + y) / 1000000000, ds ++ [(x + cy + y) % 1000000000], by go_num, rfl, by omega, by omega, by simp [HL.out], ?_, ?_, ?_, (hB.alloc (hB.size) _).grown hgrow (by simp; omega) (fun q hq => (hown.lt q hq).1)⟩
          · rw [u32s_append]; exact hown'
          · intro d hd
            rcases List.mem_append.1 hd with h | h
            · exact HD.out d h
            · simp at h; omega
          · rw [Mth.val_snoc, HL.out, Mth.val_take_succ _ _ _ HL2.out, Mth.val_take_succ _ _ _ HKB.out, HX.out, HY.out, Nat.pow_succ]
            exact Mth.add_step _ _ _ _ _ _ _ _ _ (by omega) HV.out rfl
        case measure => simp [intOf]; omega
      · have hkb2 : (lb.length : Int) ≤ (k : Int) := by omega
        have HKB := Lib.hid hkb
        clear hkb
        go_wp2_with (at_builtin; refine wpList_append_own _ rfl _ _ 88 rfl w.heap.size 178 i0 (.int .u32 0) 1 4 Tryz.underlying88 hi hz0 hz1 hz2 rfl (by decide) _ _ _ rfl (hown.alloc _) ⟨wr.heap.size, 0, none⟩ 1 1 [.int .u32 (((x : Int) + cy) % 1000000000)] rfl rfl (cell_one_new _ _ _) (by simp [Value.oneCell']) (by unfold maxLen; omega) (by omega) (by simp; omega) ?_; intro v' w2 hown' hgrow _)
        go_roundw
        case rel =>
          refine ⟨k + 1, (x + cy) / 1000000000, ds ++ [(x + cy) % 1000000000], by go_num, rfl, by omega, by omega, by simp [HL.out], ?_, ?_, ?_, (hB.alloc (hB.size) _).grown hgrow (by simp; omega) (fun q hq => (hown.lt q hq).1)⟩
          · rw [u32s_append]; exact hown'
          · intro d hd
            rcases List.mem_append.1 hd with h | h
            · exact HD.out d h
            · simp at h; omega
          · rw [Mth.val_snoc, HL.out, Mth.val_take_succ _ _ _ HL2.out, Mth.val_take_ge _ _ _ (by have := HKB.out; omega), HX.out, Nat.pow_succ]
            exact Mth.add_step _ _ _ _ _ _ _ 0 _ (by omega) HV.out rfl
        case measure => simp [intOf]; omega
    · obtain rfl : k = la.length := by omega
      have hv := HV.out
      rw [List.take_length, List.take_of_length_le (by omega)] at hv
      have HV2 := Lib.hid hv
      clear hv
      by_cases hc0 : 0 < cy
      · obtain rfl : cy = 1 := by omega
        go_wp2_with (at_builtin; refine wpList_append_own _ rfl _ _ 88 rfl w.heap.size 178 i0 (.int .u32 0) 1 4 Tryz.underlying88 hi hz0 hz1 hz2 rfl (by decide) _ _ _ rfl (hown.alloc _) ⟨wr.heap.size, 0, none⟩ 1 1 [.int .u32 1] rfl rfl (cell_one_new _ _ _) (by simp [Value.oneCell']) (by unfold maxLen; omega) (by omega) (by simp; omega) ?_; intro v' w2 hown' hgrow _)
        go_ret
        refine ⟨_, rfl, (hB.alloc (hB.size) _).grown hgrow (by simp; omega) (fun q hq => (hown.lt q hq).1), ds ++ [1], ?_, ?_, ?_, ?_⟩
        · rw [u32s_append]; exact Sl.of_own hown'
        · intro d hd
          rcases List.mem_append.1 hd with h | h
          · exact HD.out d h
          · simp at h; omega
        · rw [Mth.val_snoc, HL.out]; exact HV2.out
        · exact Or.inl (by simp)
      · obtain rfl : cy = 0 := by omega
        go_wp2
        go_ret
        refine ⟨_, rfl, hB, ds, Sl.of_own hown, HD.out, ?_, Or.inr HL.out⟩
        have := HV2.out
        omega

theorem add_any (m n : Nat) (va vb : Value) (w : World) (ha : Nt w va m) (hb : Nt w vb n) (hs : (Mth.dg 1000000000 m).length ≤ 1000000000000) (ht : (Mth.dg 1000000000 n).length ≤ 1000000000000) :
    Calls Tryz.prog 191 #[va, vb] w fun e w' => ∃ v, e = .returned v ∧ Below w.heap.size w w' ∧ Nt w' v (m + n) := by
  have key : ∀ (p q : Nat) (w' : World) (v : Value), AddPost w' v (Mth.dg 1000000000 p) (Mth.dg 1000000000 q) → Nt w' v (p + q) := by
    rintro p q w' v ⟨ds, h1, h2, h3, h4⟩
    rw [Mth.val_dg (by omega), Mth.val_dg (by omega)] at h3
    unfold Nt
    have e : ds = Mth.dg 1000000000 (Mth.val 1000000000 ds) := by
      rcases h4 with h4 | h4
      · exact (Mth.dg_val (by omega) ds h2 (by rw [h4]; simp)).symm
      · refine Mth.dg_of_ge (by omega) ds h2 ?_
        rcases Nat.eq_zero_or_pos p with h5 | h5
        · left; rw [h5, Mth.dg_zero] at h4; exact List.eq_nil_of_length_eq_zero h4
        · right
          rw [h3, h4]
          have := Mth.pow_le_of_dg (b := 1000000000) (by omega) h5
          omega
    rw [← h3, ← e]; exact h1
  by_cases h : (Mth.dg 1000000000 m).length < (Mth.dg 1000000000 n).length
  · refine (add_lt _ _ (Mth.dg_lt (by omega) n) (Mth.dg_lt (by omega) m) vb va w hb ha ht h).mono ?_
    rintro e w' ⟨v, rfl, h1, h2⟩
    exact ⟨v, rfl, h1, by rw [Nat.add_comm]; exact key _ _ _ _ h2⟩
  · refine (add_ge _ _ (Mth.dg_lt (by omega) m) (Mth.dg_lt (by omega) n) va vb w ha hb hs h).mono ?_
    rintro e w' ⟨v, rfl, h1, h2⟩
    exact ⟨v, rfl, h1, key _ _ _ _ h2⟩
end Go.Proofs.YtldjemlmjfpmjaaGreatDoor

namespace Go.Proofs.YtldjemlmjfpmjaaGreatDoor
open Go.RowKit

set_option maxHeartbeats 2000000 in
set_option maxRecDepth 100000 in
theorem sub_list (la lb : List Nat) (hxa : ∀ d ∈ la, d < 1000000000) (hxb : ∀ d ∈ lb, d < 1000000000) (va vb : Value) (w : World) (ha : Sl w va (u32s la)) (hb : Sl w vb (u32s lb)) (_hs : la.length ≤ 1000000000000)
    (hle : lb.length ≤ la.length) (hvl : Mth.val 1000000000 lb ≤ Mth.val 1000000000 la) :
    Calls Tryz.prog 192 #[va, vb] w fun e w' => ∃ v, e = .returned v ∧ Below w.heap.size w w' ∧ Nt w' v (Mth.val 1000000000 la - Mth.val 1000000000 lb) := by
  obtain ⟨i0, hi, hz0, hz1, hz2⟩ := info_parts info_u32
  obtain ⟨A, c, rfl, h1, h2, h3⟩ := ha
  obtain ⟨A', c', rfl, h1', h2', h3'⟩ := hb
  simp only [u32s_length] at *
  have H3 := Lib.hid h3
  have H3' := Lib.hid h3'
  have HXA := Lib.hid hxa
  have HXB := Lib.hid hxb
  have HVL := Lib.hid hvl
  clear h3 h3' hxa hxb hvl
  have hmk := run_make_row' (P := Tryz.prog) 88 178 (.int .u32 0) 4 Tryz.underlying88 info_u32 rfl .i64 .i64 la.length (by omega) (by omega)
  go_enter Tryz.func192, Tryz.ntmps192
  go_wp2
  clear hmk
  go_loopw [6, 15] (fun a6 a15 wr => ∃ (k cy : Nat) (L : List Nat), a15 = .int .i64 k ∧ a6 = .int .u32 cy ∧ k ≤ la.length ∧ cy ≤ 1 ∧ L.length = la.length ∧ Own wr w.heap.size L ∧ (∀ d ∈ L.take k, d < 1000000000) ∧
    Mth.val 1000000000 (L.take k) + Mth.val 1000000000 (lb.take k) = Mth.val 1000000000 (la.take k) + 1000000000 ^ k * cy ∧ Below w.heap.size w wr) (fun _ a15 _ => la.length - (intOf a15).toNat)
  case atStart => exact ⟨0, 0, List.replicate la.length 0, rfl, rfl, by omega, by omega, by simp, Own.made w _, by simp, by simp [Mth.val], (Below.refl _ _).alloc (Nat.le_refl _) _⟩
  case round =>
    obtain ⟨k, cy, L, rfl, rfl, hk, hcy, hl, hown, hd, hv, hB⟩ := hrel
    have HD := Lib.hid hd
    have HV := Lib.hid hv
    have HL := Lib.hid hl
    have hBs := hB.size
    by_cases hlt2 : k < la.length
    · have hk2 : (k : Int) < (la.length : Int) := by omega
      obtain ⟨b, o, rfl, hc⟩ := H3.out (by omega)
      have g1 := (Below.cell hB (World.block_lt_of_cell? w _ (hc k _ (u32s_at hlt2)))).trans (hc k _ (u32s_at hlt2))
      have g0 := hown.cell (j := k) (by omega)
      have gf := hown.frozen k
      have b1 := Mth.getD_lt (by omega) HXA.out k
      obtain ⟨x, hx⟩ : ∃ x, la[k]?.getD 0 = x := ⟨_, rfl⟩
      obtain ⟨z, hz⟩ : ∃ z, L[k]?.getD 0 = z := ⟨_, rfl⟩
      rw [hx] at g1 b1
      rw [hz] at g0
      have HX := Lib.hid hx
      have HL2 := Lib.hid hlt2
      clear hx hz hc hlt2 hd hv hl
      by_cases hkb : k < lb.length
      · have hkb2 : (k : Int) < (lb.length : Int) := by omega
        obtain ⟨b', o', rfl, hc'⟩ := H3'.out (by omega)
        have g2 := (Below.cell hB (World.block_lt_of_cell? w _ (hc' k _ (u32s_at hkb)))).trans (hc' k _ (u32s_at hkb))
        have b2 := Mth.getD_lt (by omega) HXB.out k
        obtain ⟨y, hy⟩ : ∃ y, lb[k]?.getD 0 = y := ⟨_, rfl⟩
        rw [hy] at g2 b2
        have HY := Lib.hid hy
        have HKB := Lib.hid hkb
        clear hy hc' hkb
        by_cases hxy : x < cy + y
        · have hcm : (x : Int) < (cy : Int) + y := by omega
          clear hxy
          go_wp2
          have hval : (x : Int) + 1000000000 - ((cy : Int) + y) = ((x + 1000000000 - (cy + y) : Nat) : Int) := by omega
          rw [hval]
          go_roundw
          case rel =>
            refine ⟨k + 1, 1, L.set k (x + 1000000000 - (cy + y)), by go_num, rfl, by omega, by omega, by simp [HL.out], hown.set _ _, ?_, ?_, hB.setCell (p := ⟨w.heap.size, k, none⟩) (Nat.le_refl _) _⟩
            · rw [Mth.take_set_succ _ _ _ (by rw [HL.out]; exact HL2.out)]
              intro d hd
              rcases List.mem_append.1 hd with h | h
              · exact HD.out d h
              · simp at h; omega
            · rw [Mth.take_set_succ _ _ _ (by rw [HL.out]; exact HL2.out), Mth.val_snoc, Mth.val_take_succ _ _ _ HL2.out, Mth.val_take_succ _ _ _ HKB.out, HY.out, HX.out, Nat.pow_succ, List.length_take, Nat.min_eq_left (by rw [HL.out]; exact Nat.le_of_lt HL2.out)]
              exact Mth.sub_step _ _ _ _ _ _ _ _ _ _ HV.out (by omega)
          case measure => simp [intOf]; omega
        · have hcm : (cy : Int) + y ≤ (x : Int) := by omega
          clear hxy
          go_wp2
          have hval : (x : Int) - ((cy : Int) + y) = ((x - (cy + y) : Nat) : Int) := by omega
          rw [hval]
          go_roundw
          case rel =>
            refine ⟨k + 1, 0, L.set k (x - (cy + y)), by go_num, rfl, by omega, by omega, by simp [HL.out], hown.set _ _, ?_, ?_, hB.setCell (p := ⟨w.heap.size, k, none⟩) (Nat.le_refl _) _⟩
            · rw [Mth.take_set_succ _ _ _ (by rw [HL.out]; exact HL2.out)]
              intro d hd
              rcases List.mem_append.1 hd with h | h
              · exact HD.out d h
              · simp at h; omega
            · rw [Mth.take_set_succ _ _ _ (by rw [HL.out]; exact HL2.out), Mth.val_snoc, Mth.val_take_succ _ _ _ HL2.out, Mth.val_take_succ _ _ _ HKB.out, HY.out, HX.out, Nat.pow_succ, List.length_take, Nat.min_eq_left (by rw [HL.out]; exact Nat.le_of_lt HL2.out)]
              exact Mth.sub_step _ _ _ _ _ _ _ _ _ _ HV.out (by omega)
          case measure => simp [intOf]; omega
      · have hkb2 : (lb.length : Int) ≤ (k : Int) := by omega
        have HKB := Lib.hid hkb
        clear hkb
        by_cases hxy : x < cy
        · have hcm : (x : Int) < (cy : Int) := by omega
          clear hxy
          go_wp2
          have hval : (x : Int) + 1000000000 - ((cy : Int)) = ((x + 1000000000 - (cy) : Nat) : Int) := by omega
          rw [hval]
          go_roundw
          case rel =>
            refine ⟨k + 1, 1, L.set k (x + 1000000000 - (cy)), by go_num, rfl, by omega, by omega, by simp [HL.out], hown.set _ _, ?_, ?_, hB.setCell (p := ⟨w.heap.size, k, none⟩) (Nat.le_refl _) _⟩
            · rw [Mth.take_set_succ _ _ _ (by rw [HL.out]; exact HL2.out)]
              intro d hd
              rcases List.mem_append.1 hd with h | h
              · exact HD.out d h
              · simp at h; omega
            · rw [Mth.take_set_succ _ _ _ (by rw [HL.out]; exact HL2.out), Mth.val_snoc, Mth.val_take_succ _ _ _ HL2.out, Mth.val_take_ge _ _ _ (by have := HKB.out; omega), HX.out, Nat.pow_succ, List.length_take, Nat.min_eq_left (by rw [HL.out]; exact Nat.le_of_lt HL2.out)]
              exact Mth.sub_step _ _ _ _ _ _ _ 0 _ _ HV.out (by omega)
          case measure => simp [intOf]; omega
        · have hcm : (cy : Int) ≤ (x : Int) := by omega
          clear hxy
          go_wp2
          have hval : (x : Int) - ((cy : Int)) = ((x - (cy) : Nat) : Int) := by omega
          rw [hval]
          go_roundw
          case rel =>
            refine ⟨k + 1, 0, L.set k (x - (cy)), by go_num, rfl, by omega, by omega, by simp [HL.out], hown.set _ _, ?_, ?_, hB.setCell (p := ⟨w.heap.size, k, none⟩) (Nat.le_refl _) _⟩
            · rw [Mth.take_set_succ _ _ _ (by rw [HL.out]; exact HL2.out)]
              intro d hd
              rcases List.mem_append.1 hd with h | h
              · exact HD.out d h
              · simp at h; omega
            · rw [Mth.take_set_succ _ _ _ (by rw [HL.out]; exact HL2.out), Mth.val_snoc, Mth.val_take_succ _ _ _ HL2.out, Mth.val_take_ge _ _ _ (by have := HKB.out; omega), HX.out, Nat.pow_succ, List.length_take, Nat.min_eq_left (by rw [HL.out]; exact Nat.le_of_lt HL2.out)]
              exact Mth.sub_step _ _ _ _ _ _ _ 0 _ _ HV.out (by omega)
          case measure => simp [intOf]; omega
    · obtain rfl : k = la.length := by omega
      have hv := HV.out
      rw [List.take_length, List.take_of_length_le (by omega), List.take_of_length_le (by omega)] at hv
      have hd := HD.out
      rw [List.take_of_length_le (by omega)] at hd
      have hvl := HVL.out
      have hL := Mth.val_lt (b := 1000000000) (by omega) L hd
      rw [HL.out] at hL
      obtain rfl : cy = 0 := by
        rcases Nat.lt_or_ge 0 cy with h | h
        · obtain rfl : cy = 1 := by omega
          omega
        · omega
      have hsl := hown.sl (c := la.length) (by omega) (by unfold maxLen; omega)
      rw [HL.out] at hsl
      have he : Mth.val 1000000000 L = Mth.val 1000000000 la - Mth.val 1000000000 lb := by omega
      have HE := Lib.hid he
      have HDD := Lib.hid hd
      clear hv hd hvl hL he hl
      go_wp2_with (go_at_call 144; refine (trim_any L _ _ hsl (by rw [HL.out]; omega)).mono ?_; rintro e w' ⟨v', rfl, hS, rfl⟩)
      go_ret
      refine ⟨v', rfl, hB, ?_⟩
      unfold Nt
      rw [← HE.out, ← Mth.tidy_eq (by omega) L HDD.out]
      exact hS
theorem sub_any (m n : Nat) (va vb : Value) (w : World) (ha : Nt w va m) (hb : Nt w vb n) (hs : (Mth.dg 1000000000 m).length ≤ 1000000000000) (hle : n ≤ m) :
    Calls Tryz.prog 192 #[va, vb] w fun e w' => ∃ v, e = .returned v ∧ Below w.heap.size w w' ∧ Nt w' v (m - n) := by
  have h := sub_list (Mth.dg 1000000000 m) (Mth.dg 1000000000 n) (Mth.dg_lt (by omega) m) (Mth.dg_lt (by omega) n) va vb w ha hb hs (by
    rcases Nat.lt_or_ge (Mth.dg 1000000000 m).length (Mth.dg 1000000000 n).length with h | h
    · have := Mth.lt_of_len (b := 1000000000) (by omega) h
      omega
    · exact h) (by rw [Mth.val_dg (by omega), Mth.val_dg (by omega)]; exact hle)
  rwa [Mth.val_dg (by omega), Mth.val_dg (by omega)] at h
end Go.Proofs.YtldjemlmjfpmjaaGreatDoor
