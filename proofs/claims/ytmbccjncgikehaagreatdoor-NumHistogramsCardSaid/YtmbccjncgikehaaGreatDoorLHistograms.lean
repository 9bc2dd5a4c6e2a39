/-
  The law NumHistograms: the walk.
-/
import Derived.Test.YtmbccjncgikehaaGreatDoorNums
import Derived.Test.YtmbccjncgikehaaGreatDoorShelfB
import Derived.Test.YtmbccjncgikehaaGreatDoorHist
namespace Go.Proofs.YtmbccjncgikehaaGreatDoor
open Go.RowKit

theorem hists_bad (v : Value) (lo hi b : Int) (w : World) (h : ¬ (-2147483648 ≤ lo ∧ lo ≤ hi ∧ hi ≤ 2147483647 ∧ 1 ≤ b ∧ b ≤ 1024)) (htab : Tabs w) :
    Calls Tryz.prog 8 #[v, .int .i64 lo, .int .i64 hi, .int .i64 b] w fun e w' => e = .returned (.bool true) ∧ Below w.heap.size w w' := by
  have HN := Lib.hid (fun W (h : Tabs W) => nums_any W h)
  have HT := Lib.hid htab
  have HS := Lib.hid (fun W => hist_bad v lo hi b W h)
  rcases (show lo < -2147483648 ∨ (-2147483648 ≤ lo ∧ hi < lo) ∨ (-2147483648 ≤ lo ∧ lo ≤ hi ∧ 2147483647 < hi) ∨ (-2147483648 ≤ lo ∧ lo ≤ hi ∧ hi ≤ 2147483647 ∧ b < 1) ∨ (-2147483648 ≤ lo ∧ lo ≤ hi ∧ hi ≤ 2147483647 ∧ 1 ≤ b ∧ 1024 < b) by omega) with h1 | ⟨h1, h2⟩ | ⟨h1, h2, h3⟩ | ⟨h1, h2, h3, h4⟩ | ⟨h1, h2, h3, h4, h5⟩
  all_goals
    clear h htab
    go_enter Tryz.func8, Tryz.ntmps8
    go_wp2_with fail
    refine (HS.out _).mono ?_
    rintro e w1 ⟨rfl, rfl⟩
    go_wp2_with fail
    all_goals first
      | (exfalso; omega)
      | skip
    refine (HN.out _ HT.out).mono ?_
    rintro e w1 ⟨rfl, hB⟩
    go_wp2
    go_ret
    exact ⟨rfl, hB⟩
theorem hists_words (v : Value) (ws : List Int) (lo hi b : Int) (w : World) (hv : LI w v ws) (h : -2147483648 ≤ lo ∧ lo ≤ hi ∧ hi ≤ 2147483647 ∧ 1 ≤ b ∧ b ≤ 1024) (hn : ws.any noW = true) (htab : Tabs w) :
    Calls Tryz.prog 8 #[v, .int .i64 lo, .int .i64 hi, .int .i64 b] w fun e w' => e = .returned (.bool true) ∧ Below w.heap.size w w' := by
  have HN := Lib.hid (fun W (h : Tabs W) => nums_any W h)
  have HT := Lib.hid htab
  have HS := Lib.hid (hist_words v ws lo hi b w hv h hn)
  have hc := containsFunc_any _ noW enter_hl histLaw_fn ws v w hv
  rw [hn] at hc
  have HC := Lib.hid hc
  obtain ⟨h1, h2, h3, h4, h5⟩ := h
  clear hc hv hn htab
  go_enter Tryz.func8, Tryz.ntmps8
  go_wp2_with fail
  refine HS.out.mono ?_
  rintro e w1 ⟨rfl, rfl⟩
  go_wp2_with fail
  all_goals first
    | (exfalso; omega)
    | skip
  refine HC.out.mono ?_
  rintro e w2 ⟨rfl, rfl⟩
  go_wp2_with fail
  refine (HN.out _ HT.out).mono ?_
  rintro e w1 ⟨rfl, hB⟩
  go_wp2
  go_ret
  exact ⟨rfl, hB⟩
theorem LI.below {w w' : World} {v : Value} {ws : List Int} (h : LI w v ws) (hb : Below w.heap.size w w') : LI w' v ws := ⟨h.1.below hb, h.2⟩

set_option maxHeartbeats 2000000 in
set_option maxRecDepth 100000 in
theorem hists_ok (v : Value) (ws : List Int) (lo hi : Int) (B : Nat) (w : World) (hv : LI w v ws) (h : -2147483648 ≤ lo ∧ lo ≤ hi ∧ hi ≤ 2147483647 ∧ 1 ≤ B ∧ B ≤ 1024) (hn : ws.any noW = false) (htab : Tabs w) :
    Calls Tryz.prog 8 #[v, .int .i64 lo, .int .i64 hi, .int .i64 (B : Int)] w fun e w' => e = .returned (.bool true) ∧ Below w.heap.size w w' := by
  have HN := Lib.hid (fun W (h : Tabs W) => nums_any W h)
  have HT := Lib.hid htab
  have HS := Lib.hid (hist_ok v ws lo hi B w hv h hn)
  obtain ⟨h1, h2, h3, h4, h5⟩ := h
  have hmk := run_make_row' (P := Tryz.prog) 36 3 (.int .i64 0) 8 Tryz.underlying36 hinfo_int rfl .i64 .i64 B (by omega) (by omega)
  obtain ⟨A, c, rfl⟩ := hv.form
  have hmx := hv.2.1
  unfold maxLen at hmx
  have HV0 := Lib.hid hv
  have HC0 := Lib.hid (fun W (hW : LI W (.slice A ws.length c) ws) => containsFunc_any _ noW enter_hl histLaw_fn ws _ W hW)
  obtain ⟨n, hnn⟩ : ∃ n, ws.length = n := ⟨_, rfl⟩
  rw [hnn] at hmx HV0 HC0 HS ⊢
  have HL := Lib.hid hnn
  have HNW := Lib.hid hn
  have hn2 : (n : Int) ≤ 9223372036854775807 := by omega
  have h4' : 1 ≤ (B : Int) := by omega
  have h5' : (B : Int) ≤ 1024 := by omega
  have HB0 := Lib.hid h4
  have HB1 := Lib.hid h5
  clear hv hnn hn h4 h5 htab
  go_enter Tryz.func8, Tryz.ntmps8
  go_wp2_with fail
  refine HS.out.mono ?_
  rintro e w1 ⟨rfl, hown1, hbw1⟩
  have HO1 := Lib.hid hown1
  have HBW1 := Lib.hid hbw1
  have HV := Lib.hid (HV0.out.below hbw1)
  have hc := HC0.out w1 HV.out
  rw [HNW.out] at hc
  have HC := Lib.hid hc
  clear hc hown1 hbw1
  go_wp2_with fail
  all_goals first
    | (exfalso; omega)
    | skip
  refine HC.out.mono ?_
  rintro e w2 ⟨rfl, rfl⟩
  go_wp2
  clear hmk
  go_loopw [69] (fun a69 wr => ∃ j : Nat, a69 = .int .i64 j ∧ j ≤ n ∧ OwnI wr w2.heap.size (hist lo hi B (ws.take j) (List.replicate B 0)) ∧ Below w2.heap.size w2 wr) (fun a69 _ => n - (intOf a69).toNat)
  case atStart => exact ⟨0, rfl, by omega, OwnI.made w2 B, (Below.refl _ _).alloc (Nat.le_refl _) _⟩
  case round =>
    obtain ⟨j, rfl, hj, hown, hB⟩ := hrel
    have hBs := hB.size
    have HO := Lib.hid hown
    have HBW := Lib.hid hB
    clear hown
    by_cases hlt : j < n
    · have hlt2 : (j : Int) < (n : Int) := by omega
      obtain ⟨b, o, rfl, hc⟩ := HV.out.at_ (by rw [HL.out]; omega)
      have hcj := hc j (by rw [HL.out]; exact hlt)
      have hcj2 := (Below.cell hB (World.block_lt_of_cell? _ _ hcj)).trans hcj
      have hxw := isW_at HNW.out (by rw [HL.out]; exact hlt)
      obtain ⟨x, hx⟩ : ∃ x, ws[j]?.getD 0 = x := ⟨_, rfl⟩
      rw [hx] at hcj2 hxw
      have HX := Lib.hid hx
      obtain ⟨x1, x2⟩ := hxw
      clear hx hc hcj hB
      have HT := hist_take (lo := lo) (hi := hi) (B := B) (out := List.replicate B 0) (l := ws) (j := j) (by rw [HL.out]; exact hlt)
      rw [HX.out] at HT
      have HTT := Lib.hid HT
      clear HT
      by_cases hin : lo ≤ x ∧ x ≤ hi
      · obtain ⟨i1, i2⟩ := hin
        have hb := bin_in i1 i2 HB0.out
        have hm := bin_mul i1 i2 h1 h3 HB1.out
        obtain ⟨I, hI⟩ : ∃ I : Nat, (x - lo) * B / (hi - lo + 1) = (I : Int) := ⟨((x - lo) * B / (hi - lo + 1)).toNat, by omega⟩
        have hbin : bin lo hi B x = I := by rw [bin, hI, Int.toNat_natCast]
        rw [hI] at hb
        have hlen := hist_length lo hi B (ws.take j) (List.replicate B 0)
        rw [List.length_replicate] at hlen
        have g0 := HO.out.cell (j := I) (by rw [hlen]; omega)
        have gf := HO.out.frozen I
        have HREL : Hid (OwnI (wr.setCell ⟨w2.heap.size, I, none⟩ (.int .i64 (wrap64 ((hist lo hi B (ws.take j) (List.replicate B 0))[I]?.getD 0 + 1)))) w2.heap.size (hist lo hi B (ws.take (j + 1)) (List.replicate B 0))) := Lib.hid (by
          rw [HTT.out, hstep, if_pos ⟨i1, i2⟩, hbin]
          exact HO.out.set I _)
        obtain ⟨q, hq⟩ : ∃ q, (hist lo hi B (ws.take j) (List.replicate B 0))[I]?.getD 0 = q := ⟨_, rfl⟩
        rw [hq] at g0 HREL
        obtain ⟨Y, hY⟩ : ∃ Y, (x - lo) * (B : Int) = Y := ⟨_, rfl⟩
        rw [hY] at hm hI
        obtain ⟨hb1, hb2⟩ := hb
        obtain ⟨hm1, hm2⟩ := hm
        clear hq hlen hbin
        go_wp2
        go_roundw
        case rel => exact ⟨j + 1, by go_num, by omega, HREL.out, HBW.out.setCell (p := ⟨w2.heap.size, I, none⟩) (Nat.le_refl _) _⟩
        case measure => simp [intOf]; omega
      · have hE : hist lo hi B (ws.take (j + 1)) (List.replicate B 0) = hist lo hi B (ws.take j) (List.replicate B 0) := by rw [HTT.out, hstep, if_neg hin]
        have HE := Lib.hid hE
        clear hE
        rcases (show x < lo ∨ (lo ≤ x ∧ hi < x) by omega) with i1 | ⟨i1, i2⟩
        all_goals
          clear hin
          go_wp2
          go_roundw
          case rel => exact ⟨j + 1, by go_num, by omega, by rw [HE.out]; exact HO.out, HBW.out⟩
          case measure => simp [intOf]; omega
    · obtain rfl : j = n := by omega
      have hp := HO.out
      rw [List.take_of_length_le (by rw [HL.out]; omega)] at hp
      have HO2 := Lib.hid hp
      have HO3 := Lib.hid (HO1.out.low hB)
      have hl := hist_length lo hi B ws (List.replicate B 0)
      rw [List.length_replicate] at hl
      have HHL := Lib.hid hl
      clear hp hB hl
      go_wp2_with fail
      have hb1 := HBW1.out.trans (HBW.out.mono HBW1.out.size)
      refine (HN.out _ (HT.out.low hb1)).mono ?_
      rintro e w3 ⟨rfl, hB3⟩
      have hra := HO3.out.low hB3
      have hrb := HO2.out.low hB3
      have heq := Tryz.slices_Equal_int w.heap.size 0 B B w2.heap.size 0 B B (hist lo hi B ws (List.replicate B 0)) (hist lo hi B ws (List.replicate B 0)) w3 (by rw [HHL.out]; omega) (by rw [HHL.out]; omega) (by omega) (by omega)
        (fun j hj => by rw [Nat.zero_add, hra.cell hj, List.getD_eq_getElem?_getD]) (fun j hj => by rw [Nat.zero_add, hrb.cell hj, List.getD_eq_getElem?_getD])
      have HE := Lib.hid heq
      have HB5 := Lib.hid (hb1.trans (hB3.mono hb1.size))
      clear heq hra hrb hb1 hB3
      go_wp2_with fail
      refine HE.out.mono ?_
      rintro e w4 ⟨rfl, q, rfl⟩
      go_wp2
      go_ret
      exact ⟨by simp, below_drewN HB5.out q⟩

theorem hists_law (v : Value) (ws : List Int) (lo hi b : Int) (w : World) (hv : LI w v ws) (htab : Tabs w) :
    Calls Tryz.prog 8 #[v, .int .i64 lo, .int .i64 hi, .int .i64 b] w fun e w' => e = .returned (.bool true) ∧ Below w.heap.size w w' := by
  by_cases h : -2147483648 ≤ lo ∧ lo ≤ hi ∧ hi ≤ 2147483647 ∧ 1 ≤ b ∧ b ≤ 1024
  · cases hn : ws.any noW with
    | true => exact hists_words v ws lo hi b w hv h hn htab
    | false =>
      obtain ⟨B, rfl⟩ : ∃ B : Nat, b = (B : Int) := ⟨b.toNat, by omega⟩
      exact hists_ok v ws lo hi B w hv (by omega) hn htab
  · exact hists_bad v lo hi b w h htab
end Go.Proofs.YtmbccjncgikehaaGreatDoor
