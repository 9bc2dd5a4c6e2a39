/-
  models.Sample, its error and its reference: the walks.
-/
import Derived.Test.YtgaiibkkompbnaaGreatDoorSample
namespace Go.Proofs.YtgaiibkkompbnaaGreatDoor
open Go.RowKit

theorem drawOK_any (d : Int) (w : World) : Calls Tryz.prog 9 #[.int .i64 d] w fun e w' => e = .returned (.bool (inB 0 4294967295 d)) ∧ w' = w := by
  have HW := Lib.hid mwithin_any
  go_enter Tryz.func9, Tryz.ntmps9
  go_wp2_with (go_at_call 18; refine (HW.out _ _ _ _).mono ?_; rintro e w1 ⟨rfl, rfl⟩)
  go_ret
  exact ⟨rfl, rfl⟩
theorem good_at {ws : List Int} {i : Nat} (h : ∀ x ∈ ws, good x = true) (hi : i < ws.length) : 0 ≤ ws[i]?.getD 0 ∧ ws[i]?.getD 0 ≤ 1000000 := by
  have : ws[i]?.getD 0 ∈ ws := by rw [List.getElem?_eq_getElem hi]; exact List.getElem_mem _
  have h := h _ this
  simpa [good] using h
set_option maxHeartbeats 1000000 in
set_option maxRecDepth 100000 in
theorem msample_run (ws : List Int) (d : Int) (n b o c : Nat) (w : World) (hn : ws.length = n) (h1 : 1 ≤ n) (h2 : n ≤ 1024) (hc : ∀ j, j < ws.length → w.cell? ⟨b, o + j, none⟩ = some (.int .i64 (ws[j]?.getD 0)))
    (hg : ∀ x ∈ ws, good x = true) (h0 : ¬ sumI ws = 0) (hd0 : 0 ≤ d) (hd1 : d ≤ 4294967295) :
    Calls Tryz.prog 10 #[.slice (some ⟨b, o, none⟩) n c, .int .i64 d] w fun e w' => e = .returned (.int .i64 (pk ws (d * sumI ws / 4294967296) 0 : Nat)) ∧ w' = w := by
  have HC := Lib.hid hc
  have HL := Lib.hid hn
  have HG := Lib.hid hg
  have hs0 := sumI_good hg
  rw [hn] at hs0
  have H0 := Lib.hid h0
  have HS0 := Lib.hid hs0
  have h3 : 1 ≤ (n : Int) := by omega
  have h4 : (n : Int) ≤ 1024 := by omega
  clear hc hn hg h0 hs0
  go_enter Tryz.func10, Tryz.ntmps10
  go_wp2
  go_loopw [5, 12] (fun a5 a12 wr => ∃ j : Nat, a12 = .int .i64 j ∧ a5 = .int .i64 (sumI (ws.take j)) ∧ wr = w ∧ j ≤ n) (fun _ a12 _ => n - (intOf a12).toNat)
  case atStart => exact ⟨0, rfl, rfl, rfl, by omega⟩
  case round =>
    obtain ⟨j, rfl, rfl, rfl, hj⟩ := hrel
    have hs := sumI_good (l := ws.take j) fun x hx => HG.out x (List.mem_of_mem_take hx)
    rw [List.length_take, HL.out, Nat.min_eq_left hj] at hs
    obtain ⟨S, hS⟩ : ∃ S, sumI (ws.take j) = S := ⟨_, rfl⟩
    rw [hS] at hs ⊢
    have HS := Lib.hid hS
    obtain ⟨s1, s2⟩ := hs
    have hj' : (j : Int) ≤ 1024 := by omega
    clear hS
    by_cases hlt : j < n
    · have hlt2 : (j : Int) < (n : Int) := by omega
      have hcj := HC.out j (by rw [HL.out]; exact hlt)
      have hgj := good_at HG.out (i := j) (by rw [HL.out]; exact hlt)
      obtain ⟨x, hx⟩ : ∃ x, ws[j]?.getD 0 = x := ⟨_, rfl⟩
      rw [hx] at hcj hgj
      have HX := Lib.hid hx
      obtain ⟨g1, g2⟩ := hgj
      clear hx
      go_wp2
      go_roundw
      case rel =>
        refine ⟨j + 1, by go_num, ?_, by first | rfl | trivial, by omega⟩
        rw [sumI_take (by rw [HL.out]; exact hlt), HS.out, HX.out]
      case measure => simp [intOf]; omega
    · obtain rfl : j = n := by omega
      have hT : sumI ws = S := by
        have h := HS.out
        rwa [List.take_of_length_le (by rw [HL.out]; omega)] at h
      have hz1 : 1 ≤ S := by have := H0.out; rw [hT] at this; omega
      obtain ⟨p1, p2, p3, p4⟩ := place_in hd0 hd1 hz1 (by omega)
      have HT := Lib.hid hT
      obtain ⟨M, hM⟩ : ∃ M, d * S = M := ⟨_, rfl⟩
      rw [hM] at p1 p2 p3 p4
      have HM := Lib.hid hM
      have hw : IntKind.i64.wrap (d * S) = M := by rw [hM]; simp [IntKind.wrap, IntKind.signed, IntKind.bits]; omega
      clear hT hM
      go_wp2
      all_goals first
        | (exfalso; omega)
        | skip
      go_loopw [8, 9] (fun a8 a9 wr' => ∃ (i : Nat) (v : Int), a9 = .int .i64 i ∧ a8 = .int .i64 v ∧ wr' = wr ∧ 0 ≤ v ∧ v ≤ 1024000000 ∧ v < sumI (ws.drop i) ∧ pk ws (M / 4294967296) 0 = pk (ws.drop i) v i) (fun _ a9 _ => j - (intOf a9).toNat)
      case atStart => exact ⟨0, M / 4294967296, rfl, rfl, rfl, p3, by omega, by rw [List.drop_zero, HT.out]; exact p4, rfl⟩
      case round =>
        obtain ⟨i, v, rfl, rfl, rfl, v1, v3, v2, hpk⟩ := hrel
        have hi : i < j := by have := sum_drop_end v1 v2; rw [HL.out] at this; exact this
        have hi2 : (i : Int) < (j : Int) := by omega
        have hci := HC.out i (by rw [HL.out]; exact hi)
        have hgi := good_at HG.out (i := i) (by rw [HL.out]; exact hi)
        obtain ⟨x, hx⟩ : ∃ x, ws[i]?.getD 0 = x := ⟨_, rfl⟩
        rw [hx] at hci hgi
        obtain ⟨h0x, h1x⟩ := hgi
        have hsd := sum_drop (l := ws) (i := i) (by rw [HL.out]; exact hi)
        rw [hx] at hsd
        by_cases hxv : x ≤ v
        · have hyes := pk_yes (l := ws) (v := v) (by rw [HL.out]; exact hi) (by rw [hx]; exact hxv)
          rw [hx] at hyes
          have HR : Hid (v - x < sumI (ws.drop (i + 1)) ∧ pk ws (M / 4294967296) 0 = pk (ws.drop (i + 1)) (v - x) (i + 1)) := Lib.hid ⟨by omega, hpk.trans hyes⟩
          clear hpk hyes hsd hx v2
          go_wp2
          go_roundw
          case rel => exact ⟨i + 1, v - x, by go_num, by first | rfl | trivial, by first | rfl | trivial, by omega, by omega, HR.out.1, HR.out.2⟩
          case measure => simp [intOf]; omega
        · have hno := pk_no (l := ws) (v := v) (by rw [HL.out]; exact hi) (by rw [hx]; exact hxv)
          have HR : Hid (pk ws (M / 4294967296) 0 = i) := Lib.hid (hpk.trans hno)
          clear hpk hno hsd hx v2
          go_wp2
          go_ret
          refine ⟨?_, rfl⟩
          rw [HT.out, HM.out, HR.out]; rfl
theorem rints_of {W : World} {ws : List Int} {n b o c : Nat} (hn : ws.length = n) (h2 : n ≤ 1024) (h3 : n ≤ c) (h4 : c ≤ maxLen) (hc : ∀ j, j < ws.length → W.cell? ⟨b, o + j, none⟩ = some (.int .i64 (ws[j]?.getD 0))) : RInts W.cell? (.slice (some ⟨b, o, none⟩) n c) ws :=
  ⟨_, c, by rw [hn], by omega, h4, by omega, fun _ => ⟨b, o, rfl, fun i x hx => by
    have hi : i < ws.length := (List.getElem?_eq_some_iff.1 hx).1
    have := hc i hi
    rw [hx] at this
    rw [Nat.mul_one]
    exact this⟩⟩
def SamPost (ws : List Int) (d : Int) (w : World) (e : Ending) (w' : World) : Prop :=
  e = .returned (.tuple #[.int .i64 (samOf ws d).1, .int .i64 (samOf ws d).2]) ∧ Below w.heap.size w w'
theorem sam_none (d : Int) (A : Option Addr) (c : Nat) (w : World) : Calls Tryz.prog 4 #[.slice A 0 c, .int .i64 d] w (SamPost [] d w) := by
  go_enter Tryz.func4, Tryz.ntmps4
  go_wp2
  go_ret2
  exact ⟨rfl, Below.refl _ _⟩
theorem sam_large (ws : List Int) (d : Int) (A : Option Addr) (n c : Nat) (w : World) (hn : ws.length = n) (h : 1024 < n) : Calls Tryz.prog 4 #[.slice A n c, .int .i64 d] w (SamPost ws d w) := by
  have hq : samOf ws d = (0, 2) := by
    unfold samOf
    rw [if_neg (by omega), if_pos (by omega)]
  have HQ := Lib.hid hq
  have h3 : 1024 < (n : Int) := by omega
  clear hq hn
  go_enter Tryz.func4, Tryz.ntmps4
  go_wp2
  all_goals first
    | (exfalso; omega)
    | skip
  go_ret2
  refine ⟨?_, Below.refl _ _⟩
  rw [HQ.out]; rfl
set_option maxHeartbeats 1000000 in
set_option maxRecDepth 100000 in
theorem sam_run (ws : List Int) (d : Int) (n b o c : Nat) (w : World) (hn : ws.length = n) (h1 : 1 ≤ n) (h2 : n ≤ 1024) (hcap : n ≤ c) (hmax : c ≤ maxLen) (hc : ∀ j, j < ws.length → w.cell? ⟨b, o + j, none⟩ = some (.int .i64 (ws[j]?.getD 0))) :
    Calls Tryz.prog 4 #[.slice (some ⟨b, o, none⟩) n c, .int .i64 d] w (SamPost ws d w) := by
  have HC : Hid (∀ W, Below w.heap.size w W → ∀ j, j < ws.length → W.cell? ⟨b, o + j, none⟩ = some (.int .i64 (ws[j]?.getD 0))) := Lib.hid fun W hb j hj => Keeps.of_below hb _ _ (hc j hj)
  have HA : Hid (∀ W, Below w.heap.size w W → ∀ lo hi, Calls Tryz.prog 8 #[.slice (some ⟨b, o, none⟩) n c, .int .i64 lo, .int .i64 hi] W fun e w' => e = .returned (.bool (ws.all (inB lo hi))) ∧ Below W.heap.size W w') :=
    Lib.hid fun W hb lo hi => all_any ws lo hi _ W (rints_of hn h2 hcap hmax (HC.out W hb))
  have h3 : 1 ≤ (n : Int) := by omega
  have h4 : (n : Int) ≤ 1024 := by omega
  have h5 : ((n : Int) == 0) = false := by simp; omega
  have h6 : decide (1024 < (n : Int)) = false := by simp; omega
  have HL := Lib.hid hn
  have hg1 : ws.all (inB 0 1000000) = ws.all good := rfl
  cases hg : ws.all good with
  | false =>
    have HP := Lib.hid (samOf_bad (d := d) (by omega) (by omega) hg)
    have HG : Hid (ws.all (inB 0 1000000) = false) := Lib.hid hg
    clear hg hg1 hc hn
    go_enter Tryz.func4, Tryz.ntmps4
    go_wp2_with fail
    all_goals first
      | (exfalso; omega)
      | skip
    go_at_call 8
    refine (HA.out _ (Below.refl _ _) _ _).mono ?_
    rintro e w1 ⟨rfl, hB⟩
    rw [HG.out]
    go_wp2
    go_ret2
    refine ⟨?_, hB⟩
    rw [HP.out]; rfl
  | true =>
    have hgm : ∀ x ∈ ws, good x = true := List.all_eq_true.1 hg
    have hz := all_zero hgm
    have HG : Hid (ws.all (inB 0 1000000) = true) := Lib.hid hg
    by_cases h0 : sumI ws = 0
    · have HP := Lib.hid (samOf_zero (d := d) (by omega) (by omega) hg h0)
      have HZ : Hid (ws.all (inB 0 0) = true) := Lib.hid (by rw [hz]; simpa using h0)
      clear hg hg1 hc hn hgm hz h0
      go_enter Tryz.func4, Tryz.ntmps4
      go_wp2_with fail
      all_goals first
        | (exfalso; omega)
        | skip
      go_at_call 8
      refine (HA.out _ (Below.refl _ _) _ _).mono ?_
      rintro e w1 ⟨rfl, hB⟩
      rw [HG.out]
      have HB := Lib.hid hB
      clear hB
      go_wp2_with fail
      go_at_call 8
      refine (HA.out _ HB.out _ _).mono ?_
      rintro e w2 ⟨rfl, hB⟩
      rw [HZ.out]
      have HB2 := Lib.hid (behind HB.out hB)
      clear hB
      go_wp2
      go_ret2
      refine ⟨?_, HB2.out⟩
      rw [HP.out]; rfl
    · have HZ : Hid (ws.all (inB 0 0) = false) := Lib.hid (by rw [hz]; simpa using h0)
      have HD := Lib.hid drawOK_any
      cases hd : inB 0 4294967295 d with
      | false =>
        have HP := Lib.hid (samOf_arg (by omega) (by omega) hg h0 hd)
        have HDD := Lib.hid hd
        clear hg hg1 hc hn hgm hz h0 hd
        go_enter Tryz.func4, Tryz.ntmps4
        go_wp2_with fail
        all_goals first
          | (exfalso; omega)
          | skip
        go_at_call 8
        refine (HA.out _ (Below.refl _ _) _ _).mono ?_
        rintro e w1 ⟨rfl, hB⟩
        rw [HG.out]
        have HB := Lib.hid hB
        clear hB
        go_wp2_with fail
        go_at_call 8
        refine (HA.out _ HB.out _ _).mono ?_
        rintro e w2 ⟨rfl, hB⟩
        rw [HZ.out]
        have HB2 := Lib.hid (behind HB.out hB)
        clear hB
        go_wp2_with fail
        go_at_call 9
        refine (HD.out _ _).mono ?_
        rintro e w3 ⟨rfl, rfl⟩
        rw [HDD.out]
        go_wp2
        go_ret2
        refine ⟨?_, HB2.out⟩
        rw [HP.out]; rfl
      | true =>
        have HP := Lib.hid (samOf_ok (by omega) (by omega) hg h0 hd)
        have HDD := Lib.hid hd
        have hd2 : 0 ≤ d ∧ d ≤ 4294967295 := by simpa [inB] using hd
        have HS : Hid (∀ W, Below w.heap.size w W → Calls Tryz.prog 10 #[.slice (some ⟨b, o, none⟩) n c, .int .i64 d] W fun e w' => e = .returned (.int .i64 (pk ws (d * sumI ws / 4294967296) 0 : Nat)) ∧ w' = W) :=
          Lib.hid fun W hb => msample_run ws d n b o c W hn h1 h2 (HC.out W hb) hgm h0 hd2.1 hd2.2
        clear hg hg1 hc hn hgm hz h0 hd hd2
        go_enter Tryz.func4, Tryz.ntmps4
        go_wp2_with fail
        all_goals first
          | (exfalso; omega)
          | skip
        go_at_call 8
        refine (HA.out _ (Below.refl _ _) _ _).mono ?_
        rintro e w1 ⟨rfl, hB⟩
        rw [HG.out]
        have HB := Lib.hid hB
        clear hB
        go_wp2_with fail
        go_at_call 8
        refine (HA.out _ HB.out _ _).mono ?_
        rintro e w2 ⟨rfl, hB⟩
        rw [HZ.out]
        have HB2 := Lib.hid (behind HB.out hB)
        clear hB
        go_wp2_with fail
        go_at_call 9
        refine (HD.out _ _).mono ?_
        rintro e w3 ⟨rfl, rfl⟩
        rw [HDD.out]
        go_wp2_with fail
        go_at_call 10
        refine (HS.out _ HB2.out).mono ?_
        rintro e w3 ⟨rfl, rfl⟩
        go_wp2
        go_ret2
        refine ⟨?_, HB2.out⟩
        rw [HP.out]; rfl
end Go.Proofs.YtgaiibkkompbnaaGreatDoor
