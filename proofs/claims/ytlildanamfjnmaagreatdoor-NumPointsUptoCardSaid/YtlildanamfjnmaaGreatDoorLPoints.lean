/-
  The law NumPoints, up to a size: the walk.
-/
import Derived.Test.YtlildanamfjnmaaGreatDoorNums
import Derived.Test.YtlildanamfjnmaaGreatDoorPoint
namespace Go.Proofs.YtlildanamfjnmaaGreatDoor
open Go.RowKit

theorem points_none (A : Option Addr) (c : Nat) (m : Int) (w : World) (htab : Tabs w) :
    Calls Tryz.prog 3 #[.slice A 0 c, .int .i64 m] w fun e w' => e = .returned (.bool true) ∧ Below w.heap.size w w' := by
  have HN := Lib.hid (fun W (h : Tabs W) => nums_any W h)
  have HT := Lib.hid htab
  have HS := Lib.hid (point_none A c m w)
  clear htab
  go_enter Tryz.func3, Tryz.ntmps3
  go_wp2_with fail
  refine HS.out.mono ?_
  rintro e w1 ⟨rfl, rfl⟩
  go_wp2_with fail
  refine (HN.out _ HT.out).mono ?_
  rintro e w1 ⟨rfl, hB⟩
  go_wp2
  go_ret
  exact ⟨rfl, hB⟩
theorem points_words (v : Value) (ws : List Int) (m : Int) (w : World) (hv : LI w v ws) (h0 : 0 < ws.length) (hn : ws.any noC = true) (htab : Tabs w) :
    Calls Tryz.prog 3 #[v, .int .i64 m] w fun e w' => e = .returned (.bool true) ∧ Below w.heap.size w w' := by
  have HN := Lib.hid (fun W (h : Tabs W) => nums_any W h)
  have HT := Lib.hid htab
  have hs := point_words v ws m w hv h0 hn
  have hc := containsFunc_any _ noC enter_pl pointsLaw_fn ws v w hv
  rw [hn] at hc
  obtain ⟨A, c, rfl⟩ := hv.form
  obtain ⟨n, hnl⟩ : ∃ n, ws.length = n := ⟨_, rfl⟩
  rw [hnl] at hc hs h0 ⊢
  have HC := Lib.hid hc
  have HS := Lib.hid hs
  have h1 : ((n : Int) == 0) = false := by simp; omega
  clear hc hs hv hn hnl htab
  go_enter Tryz.func3, Tryz.ntmps3
  go_wp2_with fail
  refine HS.out.mono ?_
  rintro e w1 ⟨rfl, rfl⟩
  go_wp2_with fail
  refine HC.out.mono ?_
  rintro e w2 ⟨rfl, rfl⟩
  go_wp2_with fail
  refine (HN.out _ HT.out).mono ?_
  rintro e w1 ⟨rfl, hB⟩
  go_wp2
  go_ret
  exact ⟨rfl, hB⟩
theorem points_neg (v : Value) (ws : List Int) (m : Int) (w : World) (hv : LI w v ws) (h0 : 0 < ws.length) (hn : ws.any noC = false) (hm : m < 0) (htab : Tabs w) :
    Calls Tryz.prog 3 #[v, .int .i64 m] w fun e w' => e = .returned (.bool true) ∧ Below w.heap.size w w' := by
  have HN := Lib.hid (fun W (h : Tabs W) => nums_any W h)
  have HT := Lib.hid htab
  have hs := point_neg v ws m w hv h0 hn hm
  have hc := containsFunc_any _ noC enter_pl pointsLaw_fn ws v w hv
  rw [hn] at hc
  obtain ⟨A, c, rfl⟩ := hv.form
  obtain ⟨n, hnl⟩ : ∃ n, ws.length = n := ⟨_, rfl⟩
  rw [hnl] at hc hs h0 ⊢
  have HC := Lib.hid hc
  have HS := Lib.hid hs
  have h1 : ((n : Int) == 0) = false := by simp; omega
  clear hc hs hv hn hnl htab
  go_enter Tryz.func3, Tryz.ntmps3
  go_wp2_with fail
  refine HS.out.mono ?_
  rintro e w1 ⟨rfl, rfl⟩
  go_wp2_with fail
  refine HC.out.mono ?_
  rintro e w2 ⟨rfl, rfl⟩
  go_wp2_with fail
  refine (HN.out _ HT.out).mono ?_
  rintro e w1 ⟨rfl, hB⟩
  go_wp2
  go_ret
  exact ⟨rfl, hB⟩

set_option maxHeartbeats 2000000 in
set_option maxRecDepth 100000 in
theorem points_ok (ws : List Int) (m : Int) (w : World) (b o c n : Nat) (hl : ws.length = n) (hc : ∀ j, j < ws.length → w.cell? ⟨b, o + j, none⟩ = some (.int .i64 (ws[j]?.getD 0))) (hv : LI w (.slice (some ⟨b, o, none⟩) n c) ws) (hcap : n ≤ c) (h0 : 0 < n) (h1 : n ≤ 1048576) (hn : ws.any noC = false) (hm : 0 ≤ m) (hm2 : m ≤ 9223372036854775807) (htab : Tabs w) :
    Calls Tryz.prog 3 #[.slice (some ⟨b, o, none⟩) n c, .int .i64 m] w fun e w' => e = .returned (.bool true) ∧ Below w.heap.size w w' := by
  have HN := Lib.hid (fun W (h : Tabs W) => nums_any W h)
  have HTAB := Lib.hid htab
  have HS := Lib.hid (point_ok ws m w b o c n hl hc hv h0 h1 hn hm hm2)
  have hcf := containsFunc_any _ noC enter_pl pointsLaw_fn ws _ w hv
  rw [hn] at hcf
  have HCF := Lib.hid hcf
  have HL := Lib.hid hl
  have HC := Lib.hid hc
  have HNC := Lib.hid hn
  have HNN : Hid (∀ x ∈ ws, 0 ≤ x) := Lib.hid (fun x hx => (cnt_all hn x hx).1)
  have hpl := fun k (hk : k ≤ n) => Mth.pre_le (l := ws) (m := 2147483647) (by omega) (cnt_all hn) k (by omega)
  have HPL := Lib.hid hpl
  have hA := hpl n (Nat.le_refl _)
  obtain ⟨T, hT⟩ : ∃ T, Mth.pre ws n = T := ⟨_, rfl⟩
  rw [hT] at hA
  have HT := Lib.hid hT
  have hT0 : 0 ≤ T := by rw [← hT]; exact Mth.pre_nn HNN.out n
  have hn0 : ((n : Int) == 0) = false := by simp; omega
  have hn1 : (1:Int) ≤ n := by omega
  have hn2 : (n:Int) ≤ 1048576 := by omega
  have hTb : T ≤ 2251799813685248 := by omega
  have hmd : decide (m < 0) = false := by simp; omega
  have hcap2 : (n:Int) ≤ (c:Int) := by omega
  clear hcf hl hc hn hv hpl hT hA htab
  go_enter Tryz.func3, Tryz.ntmps3
  go_wp2_with fail
  refine HS.out.mono ?_
  rintro e w1 ⟨f, t, hbest, rfl, rfl⟩
  have HB := Lib.hid hbest
  have hft2 : (f : Int) ≤ (t : Int) := by have := hbest.1; omega
  have htl2 : (t : Int) < (n : Int) := by have := hbest.2.1; rw [HL.out] at this; omega
  clear hbest HS
  go_wp2_with fail
  refine HCF.out.mono ?_
  rintro e w2 ⟨rfl, rfl⟩
  go_wp2
  all_goals first
    | (exfalso; omega)
    | skip
  go_loopw [8, 74] (fun a8 a74 wr => ∃ j : Nat, a74 = .int .i64 j ∧ a8 = .int .i64 (Mth.pre ws j) ∧ wr = w2 ∧ j ≤ n) (fun _ a74 _ => n - (intOf a74).toNat)
  case atStart => exact ⟨0, rfl, rfl, rfl, by omega⟩
  case round =>
    obtain ⟨j, rfl, rfl, rfl, hj⟩ := hrel
    by_cases hlt : j < n
    · have hlt2 : (j : Int) < (n : Int) := by omega
      have hcj := HC.out j (by rw [HL.out]; exact hlt)
      have hxr := cnt_at HNC.out (j := j) (by rw [HL.out]; exact hlt)
      have hps := Mth.pre_succ (l := ws) (k := j) (by rw [HL.out]; exact hlt)
      have hb1 := HPL.out j (by omega)
      have hb0 := Mth.pre_nn HNN.out j
      obtain ⟨x, hx⟩ : ∃ x, ws[j]?.getD 0 = x := ⟨_, rfl⟩
      rw [hx] at hcj hxr hps
      obtain ⟨P, hP⟩ : ∃ P, Mth.pre ws j = P := ⟨_, rfl⟩
      rw [hP] at hps hb1 hb0 ⊢
      have HPS := Lib.hid hps
      obtain ⟨x1, x2⟩ := hxr
      have hPb : P ≤ 2251799813685248 := by omega
      clear hx hP hps hb1
      go_wp2
      go_roundw
      case rel => exact ⟨j + 1, by go_num, by rw [HPS.out], by first | rfl | trivial, by omega⟩
      case measure => simp [intOf]; omega
    · obtain rfl : j = n := by omega
      rw [HT.out]
      go_wp2
      go_loopw [11] (fun a11 wt => ∃ q : Nat, a11 = .int .i64 q ∧ 1 ≤ q ∧ q ≤ j + 1 ∧ wt = wr ∧ ∀ n', 1 ≤ n' → n' < q → ∀ i', i' + n' ≤ ws.length → ¬ Mth.Good ws m i' (i' + n')) (fun a11 _ => j + 1 - (intOf a11).toNat)
      case atStart => exact ⟨1, rfl, by omega, by omega, rfl, fun n' h2 h3 => by omega⟩
      case round =>
        obtain ⟨q, rfl, hq1, hq2, rfl, hno⟩ := hrel
        have HNO := Lib.hid hno
        clear hno
        have hq3 : (1:Int) ≤ (q:Int) := by omega
        by_cases hqj : q ≤ j
        · have hqj2 : (q : Int) ≤ (j : Int) := by omega
          go_wp2
          go_loopw [12] (fun a12 wu => ∃ i : Nat, a12 = .int .i64 i ∧ i + q ≤ j + 1 ∧ wu = wr ∧ ∀ i', i' < i → ¬ Mth.Good ws m i' (i' + q)) (fun a12 _ => j + 1 - (intOf a12).toNat)
          case atStart => exact ⟨0, rfl, by omega, rfl, fun i' h2 => by omega⟩
          case round =>
            obtain ⟨i, rfl, hi1, rfl, hnoi⟩ := hrel
            have HNOI := Lib.hid hnoi
            clear hnoi
            by_cases hiq : i + q ≤ j
            · have hiq2 : (i : Int) + (q : Int) ≤ (j : Int) := by omega
              have hic : i < c := by omega
              have hci : ¬ c = i := by omega
              have hPI0 := Mth.pre_nn HNN.out i
              have hgd : Mth.Good ws m i (i + q) ↔ T - (Mth.pre ws (i + q) - Mth.pre ws i) ≤ m := by unfold Mth.Good; rw [HL.out, HT.out]
              have hmonoP := fun e (h : i ≤ e) => Mth.pre_mono HNN.out h
              obtain ⟨PI, hPI⟩ : ∃ PI, Mth.pre ws i = PI := ⟨_, rfl⟩
              rw [hPI] at hPI0 hgd
              simp only [hPI] at hmonoP
              have HPI := Lib.hid hPI
              have HGD := Lib.hid hgd
              have HMP := Lib.hid hmonoP
              clear hPI hgd hmonoP
              go_wp2
              go_loopw [13, 103] (fun a13 a103 wv => ∃ k : Nat, a103 = .int .i64 k ∧ k ≤ q ∧ a13 = .int .i64 (Mth.pre ws (i + k) - PI) ∧ wv = wr) (fun _ a103 _ => q - (intOf a103).toNat)
              case atStart => exact ⟨0, rfl, by omega, by rw [Nat.add_zero, HPI.out, Int.sub_self], rfl⟩
              case round =>
                obtain ⟨k, rfl, hk, rfl, rfl⟩ := hrel
                have hPk := HMP.out (i + k) (by omega)
                have hPT := Mth.pre_mono HNN.out (show i + k ≤ j by omega)
                rw [HT.out] at hPT
                by_cases hkq : k < q
                · have hkq2 : (k : Int) < (q : Int) := by omega
                  have hcj0 := HC.out (i + k) (by rw [HL.out]; omega)
                  have hcj : wr.cell? ⟨b, o + i + k, none⟩ = some (.int .i64 (ws[i + k]?.getD 0)) := by rw [Nat.add_assoc]; exact hcj0
                  have hxr := cnt_at HNC.out (j := i + k) (by rw [HL.out]; omega)
                  have hps := Mth.pre_succ (l := ws) (k := i + k) (by rw [HL.out]; omega)
                  obtain ⟨x, hx⟩ : ∃ x, ws[i + k]?.getD 0 = x := ⟨_, rfl⟩
                  rw [hx] at hcj hxr hps
                  obtain ⟨P, hP⟩ : ∃ P, Mth.pre ws (i + k) = P := ⟨_, rfl⟩
                  rw [hP] at hps hPk hPT ⊢
                  have HPS : Hid (Mth.pre ws (i + (k + 1)) - PI = P - PI + x) := Lib.hid (by rw [← Nat.add_assoc, hps]; omega)
                  obtain ⟨D, hD⟩ : ∃ D, P - PI = D := ⟨_, rfl⟩
                  rw [hD] at HPS ⊢
                  have hD1 : 0 ≤ D := by omega
                  have hD2 : D ≤ T := by omega
                  obtain ⟨x1, x2⟩ := hxr
                  clear hx hP hps hcj0 hD hPk hPT
                  go_wp2
                  go_roundw
                  case rel => exact ⟨k + 1, by go_num, by omega, by rw [HPS.out], by first | rfl | trivial⟩
                  case measure => simp [intOf]; omega
                · obtain rfl : k = q := by omega
                  have hgd2 := HGD.out
                  obtain ⟨P, hP⟩ : ∃ P, Mth.pre ws (i + k) = P := ⟨_, rfl⟩
                  rw [hP] at hPk hPT hgd2 ⊢
                  obtain ⟨D, hD⟩ : ∃ D, P - PI = D := ⟨_, rfl⟩
                  rw [hD] at hgd2 ⊢
                  have hD1 : 0 ≤ D := by omega
                  have hD2 : D ≤ T := by omega
                  have HG2 := Lib.hid hgd2
                  clear hP hD hPk hPT hgd2
                  by_cases hg : T - D ≤ m
                  · have hhit := HB.out.hit HNO.out HNOI.out hq1 (by rw [HL.out]; exact hiq) (HG2.out.2 hg)
                    obtain ⟨rfl, ht⟩ := hhit
                    have htt : (t : Int) = (f : Int) + (k : Int) - 1 := by omega
                    clear ht
                    go_wp2_with fail
                    refine (HN.out _ HTAB.out).mono ?_
                    rintro e w5 ⟨rfl, hB⟩
                    have HBB := Lib.hid hB
                    clear hB
                    go_wp2
                    go_ret
                    exact ⟨rfl, HBB.out⟩
                  · have HNG : Hid (¬ Mth.Good ws m i (i + k)) := Lib.hid (fun h => hg (HG2.out.1 h))
                    go_wp2
                    go_roundw
                    case rel =>
                      refine ⟨i + 1, by go_num, by omega, by first | rfl | trivial, fun i' h2 => ?_⟩
                      rcases (show i' < i ∨ i' = i by omega) with h3 | rfl
                      · exact HNOI.out i' h3
                      · exact HNG.out
                    case measure => simp [intOf]; omega
            · have hiq2 : ¬ (i : Int) + (q : Int) ≤ (j : Int) := by omega
              go_wp2
              go_roundw
              case rel =>
                refine ⟨q + 1, by go_num, by omega, by omega, by first | rfl | trivial, fun n' h2 h3 i' h4 => ?_⟩
                rcases (show n' < q ∨ n' = q by omega) with h5 | rfl
                · exact HNO.out n' h2 h5 i' h4
                · rw [HL.out] at h4
                  exact HNOI.out i' (by omega)
              case measure => simp [intOf]; omega
        · exfalso
          refine HB.out.none fun n' h2 h3 i' h4 => HNO.out n' h2 (by rw [HL.out] at h3; omega) i' h4

theorem points_law (v : Value) (ws : List Int) (m : Int) (w : World) (hm2 : -9223372036854775808 ≤ m ∧ m ≤ 9223372036854775807) (hv : LI w v ws) (hlen : ws.length ≤ 1048576) (htab : Tabs w) :
    Calls Tryz.prog 3 #[v, .int .i64 m] w fun e w' => e = .returned (.bool true) ∧ Below w.heap.size w w' := by
  by_cases h0 : ws.length = 0
  · obtain ⟨A, c, rfl⟩ := hv.form
    rw [h0]
    exact points_none A c m w htab
  · cases hn : ws.any noC with
    | true => exact points_words v ws m w hv (by omega) hn htab
    | false =>
      by_cases hm : m < 0
      · exact points_neg v ws m w hv (by omega) hn hm htab
      · obtain ⟨A, c, rfl⟩ := hv.form
        obtain ⟨b, o, rfl, hc⟩ := hv.at_ (by omega)
        have hcap : ws.length ≤ c := by
          obtain ⟨⟨A', c', e, e1, -⟩, -⟩ := hv
          injection e with e2 e3 e4
          subst e4
          rwa [i64s_length] at e1
        exact points_ok ws m w b o c _ rfl hc hv hcap (by omega) hlen hn (by omega) hm2.2 htab
end Go.Proofs.YtlildanamfjnmaaGreatDoor
