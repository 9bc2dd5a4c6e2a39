/-
  The law NumPicks: the walk.
-/
import Derived.Test.YtmbccjncgikehaaGreatDoorNums
import Derived.Test.YtmbccjncgikehaaGreatDoorPick
namespace Go.Proofs.YtmbccjncgikehaaGreatDoor
open Go.RowKit

theorem picks_none (s k : Int) (A : Option Addr) (c : Nat) (w : World) (htab : Tabs w) :
    Calls Tryz.prog 10 #[.int .i64 s, .int .i64 k, .slice A 0 c] w fun e w' => e = .returned (.bool true) ∧ Below w.heap.size w w' := by
  have HN := Lib.hid (fun W (h : Tabs W) => nums_any W h)
  have HT := Lib.hid htab
  have HP := Lib.hid (fun W => pick_none s k A c W)
  clear htab
  go_enter Tryz.func10, Tryz.ntmps10
  go_wp2_with fail
  refine (HP.out _).mono ?_
  rintro e w1 ⟨rfl, rfl⟩
  go_wp2
  go_loopw [10, 11, 27] (fun a10 a11 a27 wr => a27 = .int .i64 0 ∧ a10 = .int .i64 0 ∧ a11 = .int .i64 0 ∧ wr = w1) (fun _ _ _ _ => 0)
  case atStart => exact ⟨rfl, rfl, rfl, rfl⟩
  case round =>
    obtain ⟨rfl, rfl, rfl, rfl⟩ := hrel
    go_wp2_with fail
    refine (HN.out _ HT.out).mono ?_
    rintro e w1 ⟨rfl, hB⟩
    go_wp2
    go_ret
    exact ⟨rfl, hB⟩

set_option maxHeartbeats 1000000 in
set_option maxRecDepth 100000 in
theorem picks_large (s k : Int) (ws : List Int) (n b o c : Nat) (w : World) (hn : ws.length = n) (h1 : 1024 < n) (h2 : n ≤ 9223372036854775807) (hc : ∀ j, j < ws.length → w.cell? ⟨b, o + j, none⟩ = some (.int .i64 (ws[j]?.getD 0))) (htab : Tabs w) :
    Calls Tryz.prog 10 #[.int .i64 s, .int .i64 k, .slice (some ⟨b, o, none⟩) n c] w fun e w' => e = .returned (.bool true) ∧ Below w.heap.size w w' := by
  have HN := Lib.hid (fun W (h : Tabs W) => nums_any W h)
  have HT := Lib.hid htab
  have hq : pickOf s k ws = (0, 0, 2) := by
    unfold pickOf
    rw [if_neg (by omega), if_pos (by omega)]
  have HP : Hid (∀ W, Calls Tryz.prog 44 #[.int .i64 s, .int .i64 k, .slice (some ⟨b, o, none⟩) n c] W fun e w' => e = .returned (.tuple #[.int .i64 0, .int .i64 0, .int .i64 2]) ∧ w' = W) := Lib.hid (fun W => (pick_large s k ws n hn h1 _ c W).mono fun e w' ⟨he, hw⟩ => ⟨by rw [he, hq], hw⟩)
  have HC := Lib.hid hc
  have HL := Lib.hid hn
  have h3 : 1024 < (n : Int) := by omega
  have h4 : (n : Int) ≤ 9223372036854775807 := by omega
  have h5 : ((n : Int) == 0) = false := by simp; omega
  have h6 : decide (1024 < (n : Int)) = true := by simp; omega
  clear htab hq hc hn
  go_enter Tryz.func10, Tryz.ntmps10
  go_wp2_with fail
  refine (HP.out _).mono ?_
  rintro e w1 ⟨rfl, rfl⟩
  go_wp2
  go_loopw [10, 11, 27] (fun a10 a11 a27 wr => ∃ (j : Nat) (S : Int), a27 = .int .i64 j ∧ a10 = .int .i64 S ∧ a11 = .int .i64 0 ∧ wr = w1 ∧ j ≤ n) (fun _ _ a27 _ => n - (intOf a27).toNat)
  case atStart => exact ⟨0, 0, rfl, rfl, rfl, rfl, by omega⟩
  case round =>
    obtain ⟨j, S, rfl, rfl, rfl, rfl, hj⟩ := hrel
    by_cases hlt : j < n
    · have hlt2 : (j : Int) < (n : Int) := by omega
      have hcj := HC.out j (by rw [HL.out]; exact hlt)
      obtain ⟨x, hx⟩ : ∃ x, ws[j]?.getD 0 = x := ⟨_, rfl⟩
      rw [hx] at hcj
      clear hx
      rcases (show x < 0 ∨ (0 ≤ x ∧ 1000000 < x) ∨ (0 ≤ x ∧ x ≤ 1000000) by omega) with g1 | ⟨g1, g2⟩ | ⟨g1, g2⟩
      · go_wp2_with fail
        all_goals first
          | (exfalso; omega)
          | skip
        refine (HN.out _ HT.out).mono ?_
        rintro e w1 ⟨rfl, hB⟩
        go_wp2
        go_ret
        exact ⟨rfl, hB⟩
      · go_wp2_with fail
        all_goals first
          | (exfalso; omega)
          | skip
        refine (HN.out _ HT.out).mono ?_
        rintro e w1 ⟨rfl, hB⟩
        go_wp2
        go_ret
        exact ⟨rfl, hB⟩
      · go_wp2_with fail
        all_goals first
          | (exfalso; omega)
          | skip
        go_roundw
        case rel => exact ⟨j + 1, _, by go_num, rfl, rfl, by first | rfl | trivial, by omega⟩
        case measure => simp [intOf]; omega
    · obtain rfl : j = n := by omega
      go_wp2_with fail
      all_goals first
        | (exfalso; omega)
        | skip
      refine (HN.out _ HT.out).mono ?_
      rintro e w1 ⟨rfl, hB⟩
      go_wp2
      go_ret
      exact ⟨rfl, hB⟩

set_option maxHeartbeats 2000000 in
set_option maxRecDepth 100000 in
theorem picks_run (s k : Int) (ws : List Int) (n b o c : Nat) (w : World) (hn : ws.length = n) (h1 : 1 ≤ n) (h2 : n ≤ 1024) (hc : ∀ j, j < ws.length → w.cell? ⟨b, o + j, none⟩ = some (.int .i64 (ws[j]?.getD 0))) (htab : Tabs w) :
    Calls Tryz.prog 10 #[.int .i64 s, .int .i64 k, .slice (some ⟨b, o, none⟩) n c] w fun e w' => e = .returned (.bool true) ∧ Below w.heap.size w w' := by
  have HN := Lib.hid (fun W (h : Tabs W) => nums_any W h)
  have HT := Lib.hid htab
  have HDB := Lib.hid (fun W (S : Int) (hS : 1 ≤ S ∧ S ≤ 2147483647) => drawnBelow_any s k S W hS.1 hS.2)
  have HPK := Lib.hid (pick_run s k ws n b o c w hn h1 h2 hc)
  obtain ⟨q1, hq1⟩ : ∃ q, (pickOf s k ws).1 = q := ⟨_, rfl⟩
  obtain ⟨q2, hq2⟩ : ∃ q, (pickOf s k ws).2.1 = q := ⟨_, rfl⟩
  obtain ⟨q3, hq3⟩ : ∃ q, (pickOf s k ws).2.2 = q := ⟨_, rfl⟩
  have HP : Hid (Calls Tryz.prog 44 #[.int .i64 s, .int .i64 k, .slice (some ⟨b, o, none⟩) n c] w fun e w' => e = .returned (.tuple #[.int .i64 q1, .int .i64 q2, .int .i64 q3]) ∧ w' = w) := Lib.hid (HPK.out.mono fun e w' ⟨he, hw⟩ => ⟨by rw [he, hq1, hq2, hq3], hw⟩)
  have HQ : Hid (pickOf s k ws = (q1, q2, q3)) := Lib.hid (by rw [← hq1, ← hq2, ← hq3])
  have HC := Lib.hid hc
  have HL := Lib.hid hn
  have h3 : 1 ≤ (n : Int) := by omega
  have h4 : (n : Int) ≤ 1024 := by omega
  have h5 : ((n : Int) == 0) = false := by simp; omega
  have h6 : decide (1024 < (n : Int)) = false := by simp; omega
  clear hc hn htab HPK hq1 hq2 hq3
  go_enter Tryz.func10, Tryz.ntmps10
  go_wp2_with fail
  refine HP.out.mono ?_
  rintro e w1 ⟨rfl, rfl⟩
  go_wp2
  go_loopw [10, 11, 27] (fun a10 a11 a27 wr => ∃ j : Nat, a27 = .int .i64 j ∧ a10 = .int .i64 (sumI (ws.take j)) ∧ a11 = .int .i64 0 ∧ wr = w1 ∧ j ≤ n ∧ ∀ x ∈ ws.take j, good x = true) (fun _ _ a27 _ => n - (intOf a27).toNat)
  case atStart => exact ⟨0, rfl, rfl, rfl, rfl, by omega, fun x hx => by simp at hx⟩
  case round =>
    obtain ⟨j, rfl, rfl, rfl, rfl, hj, hg⟩ := hrel
    have hs := sumI_good hg
    rw [List.length_take, HL.out, Nat.min_eq_left hj] at hs
    obtain ⟨S, hS⟩ : ∃ S, sumI (ws.take j) = S := ⟨_, rfl⟩
    rw [hS] at hs ⊢
    have HS := Lib.hid hS
    have HG := Lib.hid hg
    obtain ⟨s1, s2⟩ := hs
    have hj' : (j : Int) ≤ 1024 := by omega
    clear hS hg
    by_cases hlt : j < n
    · have hlt2 : (j : Int) < (n : Int) := by omega
      have hcj := HC.out j (by rw [HL.out]; exact hlt)
      obtain ⟨x, hx⟩ : ∃ x, ws[j]?.getD 0 = x := ⟨_, rfl⟩
      rw [hx] at hcj
      have HX := Lib.hid hx
      clear hx
      by_cases hg : good x = true
      · have hg2 : 0 ≤ x ∧ x ≤ 1000000 := by simpa [good] using hg
        obtain ⟨g1, g2⟩ := hg2
        have HGG := Lib.hid hg
        clear hg
        go_wp2
        go_roundw
        case rel =>
          refine ⟨j + 1, by go_num, ?_, rfl, by first | rfl | trivial, by omega, take_good HG.out (by rw [HL.out]; exact hlt) (by rw [HX.out]; exact HGG.out)⟩
          rw [sumI_take (by rw [HL.out]; exact hlt), HS.out, HX.out]
        case measure => simp [intOf]; omega
      · have hP := HQ.out.symm.trans (pickOf_bad (s := s) (k := k) (by rw [HL.out]; omega) (by rw [HL.out]; omega) (by rw [HL.out]; exact hlt) (by rw [HX.out]; exact hg))
        have hg2 : x < 0 ∨ (0 ≤ x ∧ 1000000 < x) := by
          have : ¬ (0 ≤ x ∧ x ≤ 1000000) := by simpa [good] using hg
          omega
        obtain ⟨rfl, rfl, rfl⟩ : q1 = 0 ∧ q2 = 0 ∧ q3 = 9 := by
          injection hP with e1 e2
          injection e2 with e2 e3
          exact ⟨e1, e2, e3⟩
        clear hg hP HQ HP
        rcases hg2 with g1 | ⟨g1, g2⟩
        all_goals
          go_wp2_with fail
          all_goals first
            | (exfalso; omega)
            | skip
          refine (HN.out _ HT.out).mono ?_
          rintro e w1 ⟨rfl, hB⟩
          go_wp2
          go_ret
          exact ⟨rfl, hB⟩
    · obtain rfl : j = n := by omega
      have hT : sumI ws = S := by
        have h := HS.out
        rwa [List.take_of_length_le (by rw [HL.out]; omega)] at h
      have hGG : ∀ x ∈ ws, good x = true := by
        have h := HG.out
        rwa [List.take_of_length_le (by rw [HL.out]; omega)] at h
      by_cases hz : S = 0
      · have hP := HQ.out.symm.trans (pickOf_zero (by rw [HL.out]; omega) (by rw [HL.out]; omega) hGG (by rw [hT]; exact hz))
        obtain ⟨rfl, rfl, rfl⟩ : q1 = 0 ∧ q2 = 0 ∧ q3 = 23 := by
          injection hP with e1 e2
          injection e2 with e2 e3
          exact ⟨e1, e2, e3⟩
        clear hT hGG hP HQ HP
        subst hz
        go_wp2_with fail
        all_goals first
          | (exfalso; omega)
          | skip
        refine (HN.out _ HT.out).mono ?_
        rintro e w1 ⟨rfl, hB⟩
        go_wp2
        go_ret
        exact ⟨rfl, hB⟩
      · have hP := HQ.out.symm.trans (pickOf_ok (s := s) (k := k) (by rw [HL.out]; omega) (by rw [HL.out]; omega) hGG (by rw [hT]; exact hz))
        rw [hT] at hP
        have hin := dv_in s k S (by omega)
        obtain ⟨V, hV⟩ : ∃ V, dv s k S = V := ⟨_, rfl⟩
        obtain ⟨U, hU⟩ : ∃ U, du s k S = U := ⟨_, rfl⟩
        rw [hV, hU] at hP
        rw [hV] at hin
        obtain ⟨he1, rfl, rfl⟩ : q1 = ((pk ws V 0 : Nat) : Int) ∧ q2 = U ∧ q3 = 0 := by
          injection hP with e1 e2
          injection e2 with e2 e3
          exact ⟨e1, e2, e3⟩
        have HE := Lib.hid he1
        have HTT := Lib.hid hT
        have HV := Lib.hid hV
        have HU := Lib.hid hU
        have HBB : Hid (∀ W, Calls Tryz.prog 25 #[.int .i64 s, .int .i64 k, .int .i64 S] W fun e w' => e = .returned (.tuple #[.int .i64 V, .int .i64 q2]) ∧ w' = W) := Lib.hid (fun W => by
          have h := HDB.out W S ⟨by omega, by omega⟩
          rw [show (below s k (lim S) 63 0).1.tmod S = V from HV.out, show (below s k (lim S) 63 0).2 = q2 from HU.out] at h
          exact h)
        obtain ⟨i1, i2⟩ := hin
        have hz1 : 1 ≤ S := by omega
        clear hP hT hV hU hGG hz he1
        go_wp2_with fail
        all_goals first
          | (exfalso; omega)
          | skip
        refine (HBB.out _).mono ?_
        rintro e w1 ⟨rfl, rfl⟩
        go_wp2
        go_loopw [14, 16] (fun a14 a16 wr => ∃ (i : Nat) (v : Int), a16 = .int .i64 i ∧ a14 = .int .i64 v ∧ wr = w1 ∧ 0 ≤ v ∧ v ≤ 1024000000 ∧ v < sumI (ws.drop i) ∧ pk ws V 0 = pk (ws.drop i) v i) (fun _ a16 _ => j - (intOf a16).toNat)
        case atStart => exact ⟨0, V, rfl, rfl, rfl, i1, by omega, by rw [List.drop_zero, HTT.out]; exact i2, rfl⟩
        case round =>
          obtain ⟨i, v, rfl, rfl, rfl, v1, v3, v2, hpk⟩ := hrel
          have hi : i < j := by have := sum_drop_end v1 v2; rw [HL.out] at this; exact this
          have hi2 : (i : Int) < (j : Int) := by omega
          have hci := HC.out i (by rw [HL.out]; exact hi)
          obtain ⟨x, hx⟩ : ∃ x, ws[i]?.getD 0 = x := ⟨_, rfl⟩
          rw [hx] at hci
          have hsd := sum_drop (l := ws) (i := i) (by rw [HL.out]; exact hi)
          rw [hx] at hsd
          by_cases hxv : x ≤ v
          · have hgx := HG.out
            have hyes := pk_yes (l := ws) (v := v) (by rw [HL.out]; exact hi) (by rw [hx]; exact hxv)
            rw [hx] at hyes
            have h0x : 0 ≤ x := by
              have : ws[i]?.getD 0 ∈ ws := by rw [List.getElem?_eq_getElem (by rw [HL.out]; exact hi)]; exact List.getElem_mem _
              have h := hgx _ (by rw [List.take_of_length_le (by rw [HL.out]; omega)]; exact this)
              rw [hx] at h
              have : 0 ≤ x ∧ x ≤ 1000000 := by simpa [good] using h
              exact this.1
            have HR : Hid (v - x < sumI (ws.drop (i + 1)) ∧ pk ws V 0 = pk (ws.drop (i + 1)) (v - x) (i + 1)) := Lib.hid ⟨by omega, hpk.trans hyes⟩
            clear hpk hyes hsd hx v2 hgx
            go_wp2
            go_roundw
            case rel => exact ⟨i + 1, v - x, by go_num, by first | rfl | trivial, by first | rfl | trivial, by omega, by omega, HR.out.1, HR.out.2⟩
            case measure => simp [intOf]; omega
          · have hno := pk_no (l := ws) (v := v) (by rw [HL.out]; exact hi) (by rw [hx]; exact hxv)
            obtain rfl : q1 = (i : Int) := by rw [HE.out, hpk.trans hno]
            clear hpk hno hsd hx v2 HE HP HQ
            go_wp2_with fail
            refine (HN.out _ HT.out).mono ?_
            rintro e w1 ⟨rfl, hB⟩
            go_wp2
            go_ret
            exact ⟨rfl, hB⟩

theorem picks_law (s k : Int) (v : Value) (ws : List Int) (w : World) (h : LI w v ws) (htab : Tabs w) :
    Calls Tryz.prog 10 #[.int .i64 s, .int .i64 k, v] w fun e w' => e = .returned (.bool true) ∧ Below w.heap.size w w' := by
  obtain ⟨A, c, rfl⟩ := h.form
  by_cases h0 : ws.length = 0
  · rw [h0]
    exact picks_none s k A c w htab
  · obtain ⟨b, o, rfl, hc⟩ := h.at_ (by omega)
    by_cases h1 : 1024 < ws.length
    · exact picks_large s k ws _ b o c w rfl h1 (by have := h.2.1; unfold maxLen at this; omega) hc htab
    · exact picks_run s k ws _ b o c w rfl (by omega) (by omega) hc htab
end Go.Proofs.YtmbccjncgikehaaGreatDoor
