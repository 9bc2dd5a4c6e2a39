/-
  num.Permute.
-/
import Derived.Test.YtmbccjncgikehaaGreatDoorPick
import Derived.RegionTactic
import Derived.BigRegion
import Derived.WalkArith
namespace Go.Proofs.YtmbccjncgikehaaGreatDoor
open Go.RowKit

/-- two places change their contents -/
def swp (l : List Int) (i j : Nat) : List Int := (l.set i (l[j]?.getD 0)).set j (l[i]?.getD 0)
theorem swp_length (l : List Int) (i j : Nat) : (swp l i j).length = l.length := by simp [swp]
/-- the order that is drawn, and how many numbers were drawn -/
def perm (s k : Int) : Nat → List Int → Int → List Int × Int
  | 0, l, u => (l, u)
  | i + 1, l, u => perm s k i (swp l (i + 1) (dv s (wrap64 (k + u)) ((i : Int) + 1 + 1)).toNat) (wrap64 (u + du s (wrap64 (k + u)) ((i : Int) + 1 + 1)))

/-- the cells of block g from its head on are the ints l, and may be written -/
def Rw (w : World) (g : Nat) (l : List Int) : Prop := ∀ j, j < l.length → w.cell? ⟨g, j, none⟩ = some (.int .i64 (l[j]?.getD 0)) ∧ w.frozen? ⟨g, j, none⟩ = false
theorem Rw.set {w : World} {g : Nat} {l : List Int} (h : Rw w g l) {i : Nat} (hi : i < l.length) (x : Int) : Rw (w.setCell ⟨g, i, none⟩ (.int .i64 x)) g (l.set i x) := by
  intro j hj
  rw [List.length_set] at hj
  obtain ⟨h1, h2⟩ := h j hj
  refine ⟨?_, by rw [World.frozen?_setCell]; exact h2⟩
  by_cases e : i = j
  · subst e
    rw [World.cell?_setCell_same _ _ _ (h i hi).1]
    simp [hj]
  · rw [World.cell?_setCell_other _ _ _ _ (by intro h; apply e; injection h with _ h), h1]
    simp [e]
theorem OwnI.rw {w : World} {g : Nat} {l : List Int} (h : OwnI w g l) : Rw w g l := fun j hj => ⟨h.cell hj, h.frozen j⟩

theorem pfill_set {k P : Nat} (h : k < P) (x : Int) (f : Nat → Int) : ((List.range k).map f ++ List.replicate (P - k) (0:Int)).set k x = (List.range k).map f ++ x :: List.replicate (P - (k + 1)) 0 := by
  rw [List.set_append_right _ _ (by simp)]
  obtain ⟨m, hm⟩ : ∃ m, P - k = m + 1 := ⟨P - (k + 1), by omega⟩
  rw [hm, show P - (k + 1) = m by omega]
  simp [List.replicate_succ]
theorem pfill_next {k P : Nat} (f : Nat → Int) : (List.range k).map f ++ f k :: List.replicate (P - (k + 1)) (0:Int) = (List.range (k + 1)).map f ++ List.replicate (P - (k + 1)) 0 := by
  rw [List.range_succ, List.map_append, List.append_assoc]; rfl
/-- the numbers below n -/
def upTo (n : Nat) : List Int := (List.range n).map fun i : Nat => (i : Int)
theorem upTo_length (n : Nat) : (upTo n).length = n := by simp [upTo]
theorem pinfo_int : (Tryz.prog.info? 3).map (fun i => (i.zero, i.size, i.bytes)) = some (some (.int .i64 0), 1, 8) := by kernel_rfl

def PermPost (s k : Int) (n : Nat) (w : World) (e : Ending) (w' : World) : Prop :=
  e = .returned (.tuple #[.slice (some ⟨w.heap.size, 0, none⟩) n n, .int .i64 (perm s k (n - 1) (upTo n) 0).2, .int .i64 0]) ∧ Rw w' w.heap.size (perm s k (n - 1) (upTo n) 0).1 ∧ Below w.heap.size w w'

set_option maxHeartbeats 2000000 in
set_option maxRecDepth 100000 in
theorem permute_ok (s k : Int) (p : Nat) (w : World) (h2 : p + 1 ≤ 4096) : Calls Tryz.prog 45 #[.int .i64 s, .int .i64 k, .int .i64 ((p : Int) + 1)] w (PermPost s k (p + 1) w) := by
  have hmk := run_make_row' (P := Tryz.prog) 36 3 (.int .i64 0) 8 Tryz.underlying36 pinfo_int rfl .i64 .i64 (p + 1) (by omega) (by omega)
  simp at hmk
  have HB := Lib.hid (fun W k (S : Int) (hS : 1 ≤ S ∧ S ≤ 2147483647) => below_ok s k S W hS.1 hS.2)
  have h3 : (p : Int) ≤ 4095 := by omega
  have h4 : decide ((p : Int) + 1 < 0) = false := by simp; omega
  have h5 : decide (4096 < (p : Int) + 1) = false := by simp; omega
  go_enter Tryz.func45, Tryz.ntmps45
  go_wp2
  all_goals first
    | (exfalso; omega)
    | skip
  clear hmk
  go_loopw [24] (fun a24 wr => ∃ j : Nat, a24 = .int .i64 j ∧ j ≤ p + 1 ∧ OwnI wr w.heap.size ((List.range j).map (fun i : Nat => (i : Int)) ++ List.replicate (p + 1 - j) 0) ∧ Below w.heap.size w wr) (fun a24 _ => p + 1 - (intOf a24).toNat)
  case atStart => exact ⟨0, rfl, by omega, by have := OwnI.made w (p + 1); simpa using this, (Below.refl _ _).alloc (Nat.le_refl _) _⟩
  case round =>
    obtain ⟨j, rfl, hj, hown, hB⟩ := hrel
    have hBs := hB.size
    have HBB := Lib.hid hB
    clear hB
    by_cases hlt : j < p + 1
    · have hlt2 : (j : Int) < (p : Int) + 1 := by omega
      have hlen : ((List.range j).map (fun i : Nat => (i : Int)) ++ List.replicate (p + 1 - j) (0:Int)).length = p + 1 := by simp; omega
      have gf := hown.frozen j
      have g0 := hown.cell (j := j) (by rw [hlen]; exact hlt)
      have h6 := hown.set j (j : Int)
      rw [pfill_set hlt, pfill_next (fun i : Nat => (i : Int))] at h6
      have H6 := Lib.hid h6
      have HLT := Lib.hid hlt
      clear h6 hlen hown hlt
      go_wp2
      go_roundw
      case rel => exact ⟨j + 1, by go_num, by have := HLT.out; omega, H6.out, HBB.out.setCell (p := ⟨w.heap.size, j, none⟩) (Nat.le_refl _) _⟩
      case measure => simp [intOf]; omega
    · obtain rfl : j = p + 1 := by omega
      have hrw : Rw wr w.heap.size (upTo (p + 1)) := by
        have := hown.rw
        simpa [upTo] using this
      have HRW := Lib.hid hrw
      clear hown hrw hlt
      go_wp2
      push_cast
      go_loopw [7, 10] (fun a7 a10 ws => ∃ (i : Nat) (l : List Int) (u : Int), a10 = .int .i64 i ∧ a7 = .int .i64 u ∧ i ≤ p ∧ l.length = p + 1 ∧ Rw ws w.heap.size l ∧ Below w.heap.size w ws ∧ perm s k p (upTo (p + 1)) 0 = perm s k i l u) (fun _ a10 _ => (intOf a10).toNat)
      case atStart => exact ⟨p, _, 0, by first | rfl | simp, rfl, Nat.le_refl _, upTo_length _, HRW.out, HBB.out, rfl⟩
      case round =>
        obtain ⟨i, l, u, rfl, rfl, hi, hl, hrw, hB, hR⟩ := hrel
        have hBs := hB.size
        have HBC := Lib.hid hB
        have HR := Lib.hid hR
        have HRWs := Lib.hid hrw
        have hi2 : (i : Int) ≤ 4095 := by omega
        have HLEN := Lib.hid hl
        clear hB hR hrw hl
        by_cases h0 : 0 < i
        · obtain ⟨q, rfl⟩ : ∃ q, i = q + 1 := ⟨i - 1, by omega⟩
          have hq0 : (0:Int) ≤ (q:Int) := Int.natCast_nonneg _
          have hc := fun W => HB.out W (wrap64 (k + u)) ((q : Int) + 1 + 1) ⟨by omega, by omega⟩
          have hin := dv_in s (wrap64 (k + u)) ((q : Int) + 1 + 1) (by omega)
          have hR2 := HR.out
          rw [perm] at hR2
          change ∀ W, Calls _ _ _ _ fun e w' => e = .returned (.tuple #[.int .i64 (dv s (wrap64 (k + u)) ((q : Int) + 1 + 1)), .int .i64 (du s (wrap64 (k + u)) ((q : Int) + 1 + 1)), .int .i64 0]) ∧ w' = W at hc
          obtain ⟨U, hU⟩ : ∃ U, du s (wrap64 (k + u)) ((q : Int) + 1 + 1) = U := ⟨_, rfl⟩
          obtain ⟨V, hV⟩ : ∃ V, dv s (wrap64 (k + u)) ((q : Int) + 1 + 1) = V := ⟨_, rfl⟩
          rw [hU, hV] at hR2
          rw [hV] at hin
          simp only [hU, hV] at hc
          obtain ⟨J, rfl⟩ : ∃ J : Nat, V = (J : Int) := ⟨V.toNat, by omega⟩
          rw [Int.toNat_natCast] at hR2
          have HC := Lib.hid hc
          have HR3 := Lib.hid hR2
          clear hc hR2 hU hV
          obtain ⟨in1, in2⟩ := hin
          go_wp2_with fail
          refine (HC.out _).mono ?_
          rintro e w1 ⟨rfl, rfl⟩
          obtain ⟨c1, f1⟩ := HRWs.out (q + 1) (by rw [HLEN.out]; omega)
          obtain ⟨c2, f2⟩ := HRWs.out J (by rw [HLEN.out]; omega)
          obtain ⟨x1, hx1⟩ : ∃ x, l[q + 1]?.getD 0 = x := ⟨_, rfl⟩
          obtain ⟨x2, hx2⟩ : ∃ x, l[J]?.getD 0 = x := ⟨_, rfl⟩
          rw [hx1] at c1
          rw [hx2] at c2
          have HX1 := Lib.hid hx1
          have HX2 := Lib.hid hx2
          have hJ : (J : Int) < (p : Int) + 1 := by omega
          have hq2 : (q : Int) + 1 < (p : Int) + 1 := by omega
          clear hx1 hx2
          have HRel : Hid (Rw (((w1.setCell ⟨w.heap.size, q + 1, none⟩ (.int .i64 x2)).setCell ⟨w.heap.size, J, none⟩ (.int .i64 x1)).drew) w.heap.size (swp l (q + 1) J)) := Lib.hid (by
            have h := (HRWs.out.set (i := q + 1) (by rw [HLEN.out]; omega) x2).set (i := J) (by rw [List.length_set, HLEN.out]; omega) x1
            rw [swp, HX1.out, HX2.out]
            exact h)
          have HBel : Hid (Below w.heap.size w (((w1.setCell ⟨w.heap.size, q + 1, none⟩ (.int .i64 x2)).setCell ⟨w.heap.size, J, none⟩ (.int .i64 x1)).drew)) := Lib.hid (((HBC.out.setCell (p := ⟨w.heap.size, q + 1, none⟩) (Nat.le_refl _) _).setCell (p := ⟨w.heap.size, J, none⟩) (Nat.le_refl _) _).drew)
          by_cases he : J = q + 1
          · subst he
            have hxx : x2 = x1 := by rw [← HX1.out, ← HX2.out]
            subst hxx
            go_wp2
            go_region
            go_wp2
            go_roundw
            case rel => exact ⟨q, _, _, by go_num, rfl, by omega, by rw [swp_length, HLEN.out], HRel.out, HBel.out, HR3.out⟩
            case measure => simp [intOf]
          · have he2 : ¬ q + 1 = J := fun h => he h.symm
            go_wp2
            go_region
            go_wp2
            go_roundw
            case rel => exact ⟨q, _, _, by go_num, rfl, by omega, by rw [swp_length, HLEN.out], HRel.out, HBel.out, HR3.out⟩
            case measure => simp [intOf]
        · obtain rfl : i = 0 := by omega
          go_wp2
          go_ret3
          have hr := HR.out
          rw [perm] at hr
          refine ⟨?_, ?_, HBC.out⟩
          · rw [Nat.add_sub_cancel, hr]; rfl
          · rw [Nat.add_sub_cancel, hr]; exact HRWs.out
theorem permute_zero (s k : Int) (w : World) : Calls Tryz.prog 45 #[.int .i64 s, .int .i64 k, .int .i64 0] w fun e w' => e = .returned (.tuple #[.slice (some ⟨w.heap.size, 0, none⟩) 0 0, .int .i64 0, .int .i64 0]) ∧ Below w.heap.size w w' := by
  have hmk := run_make_row' (P := Tryz.prog) 36 3 (.int .i64 0) 8 Tryz.underlying36 pinfo_int rfl .i64 .i64 0 (by omega) (by omega)
  simp at hmk
  go_enter Tryz.func45, Tryz.ntmps45
  go_wp2
  clear hmk
  go_loopw [24] (fun a24 wr => a24 = .int .i64 0 ∧ Below w.heap.size w wr) (fun _ _ => 0)
  case atStart => exact ⟨rfl, (Below.refl _ _).alloc (Nat.le_refl _) _⟩
  case round =>
    obtain ⟨rfl, hB⟩ := hrel
    have HB := Lib.hid hB
    clear hB
    go_wp2
    go_loopw [7, 10] (fun a7 a10 ws => a10 = .int .i64 (-1) ∧ a7 = .int .i64 0 ∧ Below w.heap.size w ws) (fun _ _ _ => 0)
    case atStart => exact ⟨rfl, rfl, HB.out⟩
    case round =>
      obtain ⟨rfl, rfl, hB⟩ := hrel
      go_wp2
      go_ret3
      exact ⟨rfl, hB⟩
theorem permute_bad (s k n : Int) (w : World) (h : ¬ (0 ≤ n ∧ n ≤ 4096)) : Calls Tryz.prog 45 #[.int .i64 s, .int .i64 k, .int .i64 n] w fun e w' => e = .returned (.tuple #[.slice none 0 0, .int .i64 0, .int .i64 1]) ∧ w' = w := by
  rcases (show n < 0 ∨ (0 ≤ n ∧ 4096 < n) by omega) with h1 | ⟨h1, h2⟩
  all_goals
    clear h
    go_enter Tryz.func45, Tryz.ntmps45
    go_wp2
    all_goals first
      | (exfalso; omega)
      | (go_ret3
         exact ⟨rfl, rfl⟩)
end Go.Proofs.YtmbccjncgikehaaGreatDoor
