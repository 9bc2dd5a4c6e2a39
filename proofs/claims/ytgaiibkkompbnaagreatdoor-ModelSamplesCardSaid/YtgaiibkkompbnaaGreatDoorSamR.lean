/-
  The error of models.Sample and its reference: the walks.
-/
import Derived.Test.YtgaiibkkompbnaaGreatDoorSamp
namespace Go.Proofs.YtgaiibkkompbnaaGreatDoor
open Go.RowKit

def SfPost (ws : List Int) (d : Int) (w : World) (e : Ending) (w' : World) : Prop := e = .returned (.int .i64 (samOf ws d).2) ∧ w' = w
theorem sf_none (d : Int) (A : Option Addr) (c : Nat) (w : World) : Calls Tryz.prog 5 #[.slice A 0 c, .int .i64 d] w (SfPost [] d w) := by
  go_enter Tryz.func5, Tryz.ntmps5
  go_wp2
  go_ret
  exact ⟨rfl, rfl⟩
theorem sf_large (ws : List Int) (d : Int) (A : Option Addr) (n c : Nat) (w : World) (hn : ws.length = n) (h : 1024 < n) : Calls Tryz.prog 5 #[.slice A n c, .int .i64 d] w (SfPost ws d w) := by
  have hq : samOf ws d = (0, 2) := by
    unfold samOf
    rw [if_neg (by omega), if_pos (by omega)]
  have HQ := Lib.hid hq
  have h3 : 1024 < (n : Int) := by omega
  clear hq hn
  go_enter Tryz.func5, Tryz.ntmps5
  go_wp2
  all_goals first
    | (exfalso; omega)
    | skip
  go_ret
  refine ⟨?_, rfl⟩
  rw [HQ.out]; rfl
theorem all_not {ws : List Int} {j : Nat} (hj : j < ws.length) (h : ¬ good (ws[j]?.getD 0) = true) : ws.all good = false := by
  cases ha : ws.all good with
  | false => rfl
  | true =>
    exfalso
    apply h
    rw [List.getElem?_eq_getElem hj]
    exact List.all_eq_true.1 ha _ (List.getElem_mem hj)
set_option maxHeartbeats 1000000 in
set_option maxRecDepth 100000 in
theorem sf_run (ws : List Int) (d : Int) (n b o c : Nat) (w : World) (hn : ws.length = n) (h1 : 1 ≤ n) (h2 : n ≤ 1024) (hc : ∀ j, j < ws.length → w.cell? ⟨b, o + j, none⟩ = some (.int .i64 (ws[j]?.getD 0))) :
    Calls Tryz.prog 5 #[.slice (some ⟨b, o, none⟩) n c, .int .i64 d] w (SfPost ws d w) := by
  have HC := Lib.hid hc
  have HL := Lib.hid hn
  have h3 : 1 ≤ (n : Int) := by omega
  have h4 : (n : Int) ≤ 1024 := by omega
  have h5 : ((n : Int) == 0) = false := by simp; omega
  have h6 : decide (1024 < (n : Int)) = false := by simp; omega
  clear hc hn
  go_enter Tryz.func5, Tryz.ntmps5
  go_wp2
  all_goals first
    | (exfalso; omega)
    | skip
  go_loopw [5, 18] (fun a5 a18 wr => ∃ j : Nat, a18 = .int .i64 j ∧ a5 = .int .i64 (sumI (ws.take j)) ∧ wr = w ∧ j ≤ n ∧ ∀ x ∈ ws.take j, good x = true) (fun _ a18 _ => n - (intOf a18).toNat)
  case atStart => exact ⟨0, rfl, rfl, rfl, by omega, fun x hx => by simp at hx⟩
  case round =>
    obtain ⟨j, rfl, rfl, rfl, hj, hg⟩ := hrel
    have hs := sumI_good hg
    rw [List.length_take, HL.out, Nat.min_eq_left hj] at hs
    obtain ⟨S, hS⟩ : ∃ S, sumI (ws.take j) = S := ⟨_, rfl⟩
    rw [hS] at hs ⊢
    have HS := Lib.hid hS
    have HG := Lib.hid hg
    obtain ⟨s1, s2⟩ := hs
    have hj' : (j : Int) ≤ 1024 := by omega
    clear hS hg
    by_cases hlt : j < n
    · have hlt2 : (j : Int) < (n : Int) := by omega
      have hcj := HC.out j (by rw [HL.out]; exact hlt)
      obtain ⟨x, hx⟩ : ∃ x, ws[j]?.getD 0 = x := ⟨_, rfl⟩
      rw [hx] at hcj
      have HX := Lib.hid hx
      clear hx
      by_cases hg : good x = true
      · have hg2 : 0 ≤ x ∧ x ≤ 1000000 := by simpa [good] using hg
        obtain ⟨g1, g2⟩ := hg2
        have HGG := Lib.hid hg
        clear hg
        go_wp2
        go_roundw
        case rel =>
          refine ⟨j + 1, by go_num, ?_, by first | rfl | trivial, by omega, take_good HG.out (by rw [HL.out]; exact hlt) (by rw [HX.out]; exact HGG.out)⟩
          rw [sumI_take (by rw [HL.out]; exact hlt), HS.out, HX.out]
        case measure => simp [intOf]; omega
      · have HP : Hid (samOf ws d = (0, 9)) := Lib.hid (samOf_bad (by rw [HL.out]; omega) (by rw [HL.out]; omega) (all_not (by rw [HL.out]; exact hlt) (by rw [HX.out]; exact hg)))
        have hg2 : x < 0 ∨ (0 ≤ x ∧ 1000000 < x) := by
          have : ¬ (0 ≤ x ∧ x ≤ 1000000) := by simpa [good] using hg
          omega
        clear hg
        rcases hg2 with g1 | ⟨g1, g2⟩
        all_goals
          go_wp2
          go_ret
          refine ⟨?_, rfl⟩
          rw [HP.out]; rfl
    · obtain rfl : j = n := by omega
      have hT : sumI ws = S := by
        have h := HS.out
        rwa [List.take_of_length_le (by rw [HL.out]; omega)] at h
      have hGG : ∀ x ∈ ws, good x = true := by
        have h := HG.out
        rwa [List.take_of_length_le (by rw [HL.out]; omega)] at h
      have hga : ws.all good = true := List.all_eq_true.2 hGG
      by_cases hz : S = 0
      · have HP : Hid (samOf ws d = (0, 23)) := Lib.hid (samOf_zero (by rw [HL.out]; omega) (by rw [HL.out]; omega) hga (by rw [hT]; exact hz))
        clear hT hGG hga
        subst hz
        go_wp2
        go_ret
        refine ⟨?_, rfl⟩
        rw [HP.out]; rfl
      · have hz1 : 1 ≤ S := by omega
        have hz2 : (S == 0) = false := by simpa using hz
        rcases (show d < 0 ∨ (0 ≤ d ∧ 4294967296 ≤ d) ∨ (0 ≤ d ∧ d ≤ 4294967295) by omega) with g1 | ⟨g1, g2⟩ | ⟨g1, g2⟩
        · have HP : Hid (samOf ws d = (0, 1)) := Lib.hid (samOf_arg (by rw [HL.out]; omega) (by rw [HL.out]; omega) hga (by rw [hT]; exact hz) (by simp [inB]; omega))
          clear hT hGG hga hz
          go_wp2
          go_ret
          refine ⟨?_, rfl⟩
          rw [HP.out]; rfl
        · have HP : Hid (samOf ws d = (0, 1)) := Lib.hid (samOf_arg (by rw [HL.out]; omega) (by rw [HL.out]; omega) hga (by rw [hT]; exact hz) (by simp [inB]; omega))
          clear hT hGG hga hz
          go_wp2
          go_ret
          refine ⟨?_, rfl⟩
          rw [HP.out]; rfl
        · have HP := Lib.hid (samOf_ok (d := d) (by rw [HL.out]; omega) (by rw [HL.out]; omega) hga (by rw [hT]; exact hz) (by simp [inB]; omega))
          clear hT hGG hga hz
          go_wp2
          go_ret
          refine ⟨?_, rfl⟩
          rw [HP.out]; rfl
set_option maxHeartbeats 1000000 in
set_option maxRecDepth 100000 in
theorem sampled_run (ws : List Int) (d : Int) (n b o c : Nat) (w : World) (hn : ws.length = n) (h1 : 1 ≤ n) (h2 : n ≤ 1024) (hc : ∀ j, j < ws.length → w.cell? ⟨b, o + j, none⟩ = some (.int .i64 (ws[j]?.getD 0)))
    (hg : ∀ x ∈ ws, good x = true) (h0 : ¬ sumI ws = 0) (hd0 : 0 ≤ d) (hd1 : d ≤ 4294967295) :
    Calls Tryz.prog 7 #[.slice (some ⟨b, o, none⟩) n c, .int .i64 d] w fun e w' => e = .returned (.int .i64 (pk ws (d * sumI ws / 4294967296) 0 : Nat)) ∧ w' = w := by
  have HC := Lib.hid hc
  have HL := Lib.hid hn
  have HG := Lib.hid hg
  have hs0 := sumI_good hg
  rw [hn] at hs0
  have H0 := Lib.hid h0
  have HS0 := Lib.hid hs0
  have h3 : 1 ≤ (n : Int) := by omega
  have h4 : (n : Int) ≤ 1024 := by omega
  clear hc hn hg h0 hs0
  go_enter Tryz.func7, Tryz.ntmps7
  go_wp2
  go_loopw [5, 13] (fun a5 a13 wr => ∃ j : Nat, a13 = .int .i64 j ∧ a5 = .int .i64 (sumI (ws.take j)) ∧ wr = w ∧ j ≤ n) (fun _ a13 _ => n - (intOf a13).toNat)
  case atStart => exact ⟨0, rfl, rfl, rfl, by omega⟩
  case round =>
    obtain ⟨j, rfl, rfl, rfl, hj⟩ := hrel
    have hs := sumI_good (l := ws.take j) fun x hx => HG.out x (List.mem_of_mem_take hx)
    rw [List.length_take, HL.out, Nat.min_eq_left hj] at hs
    obtain ⟨S, hS⟩ : ∃ S, sumI (ws.take j) = S := ⟨_, rfl⟩
    rw [hS] at hs ⊢
    have HS := Lib.hid hS
    obtain ⟨s1, s2⟩ := hs
    have hj' : (j : Int) ≤ 1024 := by omega
    clear hS
    by_cases hlt : j < n
    · have hlt2 : (j : Int) < (n : Int) := by omega
      have hcj := HC.out j (by rw [HL.out]; exact hlt)
      have hgj := good_at HG.out (i := j) (by rw [HL.out]; exact hlt)
      obtain ⟨x, hx⟩ : ∃ x, ws[j]?.getD 0 = x := ⟨_, rfl⟩
      rw [hx] at hcj hgj
      have HX := Lib.hid hx
      obtain ⟨g1, g2⟩ := hgj
      clear hx
      go_wp2
      go_roundw
      case rel =>
        refine ⟨j + 1, by go_num, ?_, by first | rfl | trivial, by omega⟩
        rw [sumI_take (by rw [HL.out]; exact hlt), HS.out, HX.out]
      case measure => simp [intOf]; omega
    · obtain rfl : j = n := by omega
      have hT : sumI ws = S := by
        have h := HS.out
        rwa [List.take_of_length_le (by rw [HL.out]; omega)] at h
      have hz1 : 1 ≤ S := by have := H0.out; rw [hT] at this; omega
      obtain ⟨p1, p2, p3, p4⟩ := place_in hd0 hd1 hz1 (by omega)
      have HT := Lib.hid hT
      obtain ⟨M, hM⟩ : ∃ M, d * S = M := ⟨_, rfl⟩
      rw [hM] at p1 p2 p3 p4
      have HM := Lib.hid hM
      have hw : IntKind.i64.wrap (d * S) = M := by rw [hM]; simp [IntKind.wrap, IntKind.signed, IntKind.bits]; omega
      clear hT hM
      go_wp2
      all_goals first
        | (exfalso; omega)
        | skip
      go_loopw [8, 27] (fun a8 a27 wr' => ∃ (i : Nat) (v : Int), a27 = .int .i64 i ∧ a8 = .int .i64 v ∧ wr' = wr ∧ 0 ≤ v ∧ v ≤ 1024000000 ∧ v < sumI (ws.drop i) ∧ pk ws (M / 4294967296) 0 = pk (ws.drop i) v i) (fun _ a27 _ => j - (intOf a27).toNat)
      case atStart => exact ⟨0, M / 4294967296, rfl, rfl, rfl, p3, by omega, by rw [List.drop_zero, HT.out]; exact p4, rfl⟩
      case round =>
        obtain ⟨i, v, rfl, rfl, rfl, v1, v3, v2, hpk⟩ := hrel
        have hi : i < j := by have := sum_drop_end v1 v2; rw [HL.out] at this; exact this
        have hi2 : (i : Int) < (j : Int) := by omega
        have hci := HC.out i (by rw [HL.out]; exact hi)
        have hgi := good_at HG.out (i := i) (by rw [HL.out]; exact hi)
        obtain ⟨x, hx⟩ : ∃ x, ws[i]?.getD 0 = x := ⟨_, rfl⟩
        rw [hx] at hci hgi
        obtain ⟨h0x, h1x⟩ := hgi
        have hsd := sum_drop (l := ws) (i := i) (by rw [HL.out]; exact hi)
        rw [hx] at hsd
        by_cases hxv : x ≤ v
        · have hyes := pk_yes (l := ws) (v := v) (by rw [HL.out]; exact hi) (by rw [hx]; exact hxv)
          rw [hx] at hyes
          have HR : Hid (v - x < sumI (ws.drop (i + 1)) ∧ pk ws (M / 4294967296) 0 = pk (ws.drop (i + 1)) (v - x) (i + 1)) := Lib.hid ⟨by omega, hpk.trans hyes⟩
          clear hpk hyes hsd hx v2
          go_wp2
          go_roundw
          case rel => exact ⟨i + 1, v - x, by go_num, by first | rfl | trivial, by first | rfl | trivial, by omega, by omega, HR.out.1, HR.out.2⟩
          case measure => simp [intOf]; omega
        · have hno := pk_no (l := ws) (v := v) (by rw [HL.out]; exact hi) (by rw [hx]; exact hxv)
          have HR : Hid (pk ws (M / 4294967296) 0 = i) := Lib.hid (hpk.trans hno)
          clear hpk hno hsd hx v2
          go_wp2
          go_ret
          refine ⟨?_, rfl⟩
          rw [HT.out, HM.out, HR.out]; rfl
end Go.Proofs.YtgaiibkkompbnaaGreatDoor
