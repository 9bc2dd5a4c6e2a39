/-
  The law NumPermutes: the walk.
-/
import Derived.Test.YtmbccjncgikehaaGreatDoorNums
import Derived.Test.YtmbccjncgikehaaGreatDoorShelfB
import Derived.Test.YtmbccjncgikehaaGreatDoorPermute
import Derived.Deep.AppendLies
namespace Go.Proofs.YtmbccjncgikehaaGreatDoor
open Go.RowKit

theorem permutes_bad (s k n : Int) (w : World) (hv : ¬ (0 ≤ n ∧ n ≤ 4096)) (htab : Tabs w) :
    Calls Tryz.prog 11 #[.int .i64 s, .int .i64 k, .int .i64 n] w fun e w' => e = .returned (.bool true) ∧ Below w.heap.size w w' := by
  have HN := Lib.hid (fun W (h : Tabs W) => nums_any W h)
  have HT := Lib.hid htab
  have HS := Lib.hid (fun W => permute_bad s k n W hv)
  rcases (show n < 0 ∨ (0 ≤ n ∧ 4096 < n) by omega) with h1 | ⟨h1, h2⟩
  all_goals
    clear hv htab
    go_enter Tryz.func11, Tryz.ntmps11
    go_wp2_with fail
    refine (HS.out _).mono ?_
    rintro e w1 ⟨rfl, rfl⟩
    go_wp2_with fail
    all_goals first
      | (exfalso; omega)
      | skip
    refine (HN.out _ HT.out).mono ?_
    rintro e w1 ⟨rfl, hB⟩
    go_wp2
    go_ret
    exact ⟨rfl, hB⟩
theorem permutes_zero (s k : Int) (w : World) (htab : Tabs w) :
    Calls Tryz.prog 11 #[.int .i64 s, .int .i64 k, .int .i64 0] w fun e w' => e = .returned (.bool true) ∧ Below w.heap.size w w' := by
  have HN := Lib.hid (fun W (h : Tabs W) => nums_any W h)
  have HT := Lib.hid htab
  have HS := Lib.hid (fun W => permute_zero s k W)
  clear htab
  go_enter Tryz.func11, Tryz.ntmps11
  go_wp2_with fail
  refine (HS.out _).mono ?_
  rintro e w1 ⟨rfl, hB⟩
  have HB := Lib.hid hB
  clear hB
  go_wp2
  go_loopw [10, 45] (fun a10 a45 wr => a45 = .int .i64 0 ∧ a10 = .slice none 0 0 ∧ wr = w1) (fun _ _ _ => 0)
  case atStart => exact ⟨rfl, rfl, rfl⟩
  case round =>
    obtain ⟨rfl, rfl, rfl⟩ := hrel
    go_wp2
    go_loopw [12, 13] (fun a12 a13 ws => a13 = .int .i64 (-1) ∧ a12 = .int .i64 0 ∧ ws = wr) (fun _ _ _ => 0)
    case atStart => exact ⟨rfl, rfl, rfl⟩
    case round =>
      obtain ⟨rfl, rfl, rfl⟩ := hrel
      go_wp2_with fail
      refine (HN.out _ (HT.out.low HB.out)).mono ?_
      rintro e w2 ⟨rfl, hB2⟩
      have HB2 := Lib.hid hB2
      clear hB2
      go_wp2_with fail
      refine (Tryz.slices_Equal_int_empty _ _ _ _ _ _ (by omega)).mono ?_
      rintro e w3 ⟨rfl, rfl⟩
      go_wp2
      go_ret
      exact ⟨rfl, HB.out.trans (HB2.out.mono HB.out.size)⟩

theorem Rw.below {w w' : World} {B g : Nat} {l : List Int} (h : Rw w g l) (hb : Below B w w') (hg : g < B) : Rw w' g l := fun j hj => by
  obtain ⟨h1, h2⟩ := h j hj
  exact ⟨(hb.cell (p := ⟨g, j, none⟩) hg).trans h1, (hb.frozen (p := ⟨g, j, none⟩) hg).trans h2⟩
theorem Rw.lt {w : World} {g : Nat} {l : List Int} (h : Rw w g l) (hl : 0 < l.length) : g < w.heap.size := World.block_lt_of_cell? w _ (h 0 hl).1

set_option maxHeartbeats 2000000 in
set_option maxRecDepth 100000 in
theorem permutes_ok (s k : Int) (p : Nat) (w : World) (hp : p + 1 ≤ 4096) (htab : Tabs w) :
    Calls Tryz.prog 11 #[.int .i64 s, .int .i64 k, .int .i64 ((p : Int) + 1)] w fun e w' => e = .returned (.bool true) ∧ Below w.heap.size w w' := by
  obtain ⟨i0, hi, hz0, hz1, hz2⟩ := info_parts pinfo_int
  have HN := Lib.hid (fun W (h : Tabs W) => nums_any W h)
  have HT := Lib.hid htab
  have HS := Lib.hid (fun W => permute_ok s k p W hp)
  have HB := Lib.hid (fun W k (S : Int) (hS : 1 ≤ S ∧ S ≤ 2147483647) => drawnBelow_any s k S W hS.1 hS.2)
  obtain ⟨L, hL⟩ : ∃ L, (perm s k p (upTo (p + 1)) 0).1 = L := ⟨_, rfl⟩
  obtain ⟨U0, hU0⟩ : ∃ U0, (perm s k p (upTo (p + 1)) 0).2 = U0 := ⟨_, rfl⟩
  have HL := Lib.hid hL
  have HU0 := Lib.hid hU0
  have h3 : (p : Int) ≤ 4095 := by omega
  have h4 : decide ((p : Int) + 1 < 0) = false := by simp; omega
  have h5 : decide (4096 < (p : Int) + 1) = false := by simp; omega
  clear htab hL hU0
  go_enter Tryz.func11, Tryz.ntmps11
  go_wp2_with fail
  refine (HS.out _).mono ?_
  rintro e w1 ⟨rfl, hrw1, hB1⟩
  rw [Nat.add_sub_cancel] at hrw1 ⊢
  rw [HL.out] at hrw1
  rw [HU0.out]
  have HR1 := Lib.hid hrw1
  have HB1 := Lib.hid hB1
  clear hrw1 hB1
  go_wp2
  all_goals first
    | (exfalso; omega)
    | skip
  push_cast
  go_loopw [10, 45] (fun a10 a45 wr => ∃ j : Nat, a45 = .int .i64 j ∧ j ≤ p + 1 ∧ wr.ownsRow w1.heap.size 3 1 a10 j (i64s (upTo j)) ∧ Below w1.heap.size w1 wr) (fun _ a45 _ => p + 1 - (intOf a45).toNat)
  case atStart => exact ⟨0, rfl, by omega, World.ownsRow_nil _ _ _ _, Below.refl _ _⟩
  case round =>
    obtain ⟨j, rfl, hj, hown, hB⟩ := hrel
    have hBs := hB.size
    have HBW := Lib.hid hB
    clear hB
    by_cases hlt : j < p + 1
    · have hlt2 : (j : Int) < (p : Int) + 1 := by omega
      have HO := Lib.hid hown
      have HLT := Lib.hid hlt
      clear hown hlt
      go_wp2_with (at_builtin; refine wpList_append_own _ rfl _ _ 36 rfl w1.heap.size 3 i0 (.int .i64 0) 1 8 Tryz.underlying36 hi hz0 hz1 hz2 rfl (by decide) _ _ _ rfl (HO.out.alloc _) ⟨wr.heap.size, 0, none⟩ 1 1 [.int .i64 (j : Int)] rfl rfl (cell_one_new _ _ _) (by simp [Value.oneCell']) (by unfold maxLen; omega) (by omega) (by simp; omega) ?_; intro v' w2 hown' hgrow _)
      go_roundw
      case rel =>
        refine ⟨j + 1, by go_num, by have := HLT.out; omega, ?_, (HBW.out.alloc hBs _).grown hgrow (by simp; omega) (fun q hq => (HO.out.lt q hq).1)⟩
        rw [show upTo (j + 1) = upTo j ++ [(j : Int)] by simp [upTo, List.range_succ], i64s_append]
        exact hown'
      case measure => simp [intOf]; omega
    · obtain rfl : j = p + 1 := by omega
      obtain ⟨g, cap, rfl, hg, hglt⟩ := hown.form (by omega)
      have hrw : Rw wr g (upTo (p + 1)) := fun i hi2 => by
        have h1 := hown.cells (g := g) rfl i _ (i64s_at hi2)
        rw [Addr.add_lit, Nat.zero_add] at h1
        exact ⟨h1, hown.frozenAt i⟩
      have HRW := Lib.hid hrw
      clear hown hrw hlt
      go_wp2
      push_cast
      go_loopw [12, 13] (fun a12 a13 ws => ∃ (i : Nat) (l : List Int) (u : Int), a13 = .int .i64 i ∧ a12 = .int .i64 u ∧ i ≤ p ∧ l.length = p + 1 ∧ Rw ws g l ∧ Below w1.heap.size w1 ws ∧ perm s k p (upTo (p + 1)) 0 = perm s k i l u) (fun _ a13 _ => (intOf a13).toNat)
      case atStart => exact ⟨p, _, 0, by first | rfl | simp, rfl, Nat.le_refl _, upTo_length _, HRW.out, HBW.out, rfl⟩
      case round =>
        obtain ⟨i, l, u, rfl, rfl, hi4, hl, hrw, hB, hR⟩ := hrel
        have hBs2 := hB.size
        have HBC := Lib.hid hB
        have HR := Lib.hid hR
        have HRWs := Lib.hid hrw
        have hi2 : (i : Int) ≤ 4095 := by omega
        have HLEN := Lib.hid hl
        clear hB hR hrw hl
        by_cases h0 : 0 < i
        · obtain ⟨q, rfl⟩ : ∃ q, i = q + 1 := ⟨i - 1, by omega⟩
          have hq0 : (0:Int) ≤ (q:Int) := Int.natCast_nonneg _
          have hc := fun W => HB.out W (wrap64 (k + u)) ((q : Int) + 1 + 1) ⟨by omega, by omega⟩
          have hin := dv_in s (wrap64 (k + u)) ((q : Int) + 1 + 1) (by omega)
          have hR2 := HR.out
          rw [perm] at hR2
          change ∀ W, Calls _ _ _ _ fun e w' => e = .returned (.tuple #[.int .i64 (dv s (wrap64 (k + u)) ((q : Int) + 1 + 1)), .int .i64 (du s (wrap64 (k + u)) ((q : Int) + 1 + 1))]) ∧ w' = W at hc
          obtain ⟨U, hU⟩ : ∃ U, du s (wrap64 (k + u)) ((q : Int) + 1 + 1) = U := ⟨_, rfl⟩
          obtain ⟨V, hV⟩ : ∃ V, dv s (wrap64 (k + u)) ((q : Int) + 1 + 1) = V := ⟨_, rfl⟩
          rw [hU, hV] at hR2
          rw [hV] at hin
          simp only [hU, hV] at hc
          obtain ⟨J, rfl⟩ : ∃ J : Nat, V = (J : Int) := ⟨V.toNat, by omega⟩
          rw [Int.toNat_natCast] at hR2
          have HC := Lib.hid hc
          have HR3 := Lib.hid hR2
          clear hc hR2 hU hV
          obtain ⟨in1, in2⟩ := hin
          go_wp2_with fail
          refine (HC.out _).mono ?_
          rintro e w2 ⟨rfl, rfl⟩
          obtain ⟨c1, f1⟩ := HRWs.out (q + 1) (by rw [HLEN.out]; omega)
          obtain ⟨c2, f2⟩ := HRWs.out J (by rw [HLEN.out]; omega)
          obtain ⟨x1, hx1⟩ : ∃ x, l[q + 1]?.getD 0 = x := ⟨_, rfl⟩
          obtain ⟨x2, hx2⟩ : ∃ x, l[J]?.getD 0 = x := ⟨_, rfl⟩
          rw [hx1] at c1
          rw [hx2] at c2
          have HX1 := Lib.hid hx1
          have HX2 := Lib.hid hx2
          have hJ : (J : Int) < (p : Int) + 1 := by omega
          have hq2 : (q : Int) + 1 < (p : Int) + 1 := by omega
          clear hx1 hx2
          have HRel : Hid (Rw (((w2.setCell ⟨g, q + 1, none⟩ (.int .i64 x2)).setCell ⟨g, J, none⟩ (.int .i64 x1)).drew) g (swp l (q + 1) J)) := Lib.hid (by
            have h := (HRWs.out.set (i := q + 1) (by rw [HLEN.out]; omega) x2).set (i := J) (by rw [List.length_set, HLEN.out]; omega) x1
            rw [swp, HX1.out, HX2.out]
            exact h)
          have HBel : Hid (Below w1.heap.size w1 (((w2.setCell ⟨g, q + 1, none⟩ (.int .i64 x2)).setCell ⟨g, J, none⟩ (.int .i64 x1)).drew)) := Lib.hid (((HBC.out.setCell (p := ⟨g, q + 1, none⟩) hg _).setCell (p := ⟨g, J, none⟩) hg _).drew)
          by_cases he : J = q + 1
          · subst he
            have hxx : x2 = x1 := by rw [← HX1.out, ← HX2.out]
            subst hxx
            go_wp2
            go_region
            go_wp2
            go_roundw
            case rel => exact ⟨q, _, _, by go_num, rfl, by omega, by rw [swp_length, HLEN.out], HRel.out, HBel.out, HR3.out⟩
            case measure => simp [intOf]
          · have he2 : ¬ q + 1 = J := fun h => he h.symm
            go_wp2
            go_region
            go_wp2
            go_roundw
            case rel => exact ⟨q, _, _, by go_num, rfl, by omega, by rw [swp_length, HLEN.out], HRel.out, HBel.out, HR3.out⟩
            case measure => simp [intOf]
        · obtain rfl : i = 0 := by omega
          have hr := HR.out
          rw [perm] at hr
          obtain rfl : l = L := by rw [← HL.out, hr]
          obtain rfl : u = U0 := by rw [← HU0.out, hr]
          have hl1 : l.length = p + 1 := HLEN.out
          have hlt1 : w.heap.size < w1.heap.size := HR1.out.lt (by omega)
          have HR4 := Lib.hid (HR1.out.below HBC.out hlt1)
          have HLT := Lib.hid hlt1
          have HHL := Lib.hid hl1
          clear hr hl1 hlt1
          go_wp2_with fail
          have hb1 := HB1.out.trans (HBC.out.mono HB1.out.size)
          refine (HN.out _ (HT.out.low hb1)).mono ?_
          rintro e w3 ⟨rfl, hB3⟩
          have hra := HR4.out.below hB3 (HR4.out.lt (by rw [HHL.out]; omega))
          have hrb := HRWs.out.below hB3 (HRWs.out.lt (by rw [HHL.out]; omega))
          have heq := Tryz.slices_Equal_int w.heap.size 0 (p + 1) (p + 1) g 0 (p + 1) cap l l w3 (by rw [HHL.out]; omega) (by rw [HHL.out]; omega) (by omega) (by omega)
            (fun j hj => by rw [Nat.zero_add, (hra j hj).1, List.getD_eq_getElem?_getD]) (fun j hj => by rw [Nat.zero_add, (hrb j hj).1, List.getD_eq_getElem?_getD])
          have HE := Lib.hid heq
          have HB5 := Lib.hid (hb1.trans (hB3.mono hb1.size))
          clear heq hra hrb hb1 hB3
          go_wp2_with fail
          refine HE.out.mono ?_
          rintro e w4 ⟨rfl, q, rfl⟩
          go_wp2
          go_ret
          exact ⟨by simp, below_drewN HB5.out q⟩

theorem permutes_law (s k n : Int) (w : World) (htab : Tabs w) :
    Calls Tryz.prog 11 #[.int .i64 s, .int .i64 k, .int .i64 n] w fun e w' => e = .returned (.bool true) ∧ Below w.heap.size w w' := by
  by_cases hv : 0 ≤ n ∧ n ≤ 4096
  · obtain ⟨h1, h2⟩ := hv
    by_cases h0 : n = 0
    · subst h0
      exact permutes_zero s k w htab
    · obtain ⟨p, rfl⟩ : ∃ p : Nat, n = (p : Int) + 1 := ⟨(n - 1).toNat, by omega⟩
      exact permutes_ok s k p w (by omega) htab
  · exact permutes_bad s k n w hv htab
end Go.Proofs.YtmbccjncgikehaaGreatDoor
