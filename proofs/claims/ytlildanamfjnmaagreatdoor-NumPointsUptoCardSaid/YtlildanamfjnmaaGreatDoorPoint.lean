/-
  num.Point.
-/
import Derived.Test.YtlildanamfjnmaaGreatDoorPtm
import Derived.Test.YtlildanamfjnmaaGreatDoorIdx
namespace Go.Proofs.YtlildanamfjnmaaGreatDoor
open Go.RowKit

/-- no count -/
def noC (x : Int) : Bool := !(decide (0 ≤ x) && decide (x ≤ 2147483647))
theorem pointsLaw_fn : Answers 14 noC := by
  intro x W
  rcases (show x < 0 ∨ (0 ≤ x ∧ 2147483647 < x) ∨ (0 ≤ x ∧ x ≤ 2147483647) by omega) with h1 | ⟨h1, h2⟩ | ⟨h1, h2⟩
  all_goals
    go_enter Tryz.func14, Tryz.ntmps14
    go_wp2
    go_ret
    exact ⟨ret_bool (by first | (simp [noC]; omega) | (simp [noC, *]; done) | (simp [noC]; intros; omega)), rfl⟩
theorem point_fn : Answers 57 noC := by
  intro x W
  rcases (show x < 0 ∨ (0 ≤ x ∧ 2147483647 < x) ∨ (0 ≤ x ∧ x ≤ 2147483647) by omega) with h1 | ⟨h1, h2⟩ | ⟨h1, h2⟩
  all_goals
    go_enter Tryz.func57, Tryz.ntmps57
    go_wp2
    go_ret
    exact ⟨ret_bool (by first | (simp [noC]; omega) | (simp [noC, *]; done) | (simp [noC]; intros; omega)), rfl⟩
theorem enter_pl : ∀ args w, (callFunc 14 args).run Tryz.prog w = .ok (.enter 14 args) w := fun _ _ => by kernel_rfl
theorem enter_p : ∀ args w, (callFunc 57 args).run Tryz.prog w = .ok (.enter 57 args) w := fun _ _ => by kernel_rfl
theorem cnt_all {ws : List Int} (h : ws.any noC = false) : ∀ x ∈ ws, 0 ≤ x ∧ x ≤ 2147483647 := by
  intro x hx
  have h1 := List.any_eq_false.1 h _ hx
  simpa [noC] using h1
theorem cnt_at {ws : List Int} (h : ws.any noC = false) {j : Nat} (hj : j < ws.length) : 0 ≤ ws[j]?.getD 0 ∧ ws[j]?.getD 0 ≤ 2147483647 := by
  rw [List.getElem?_eq_getElem hj]
  exact cnt_all h _ (List.getElem_mem hj)

theorem point_none (A : Option Addr) (c : Nat) (m : Int) (w : World) : Calls Tryz.prog 11 #[.slice A 0 c, .int .i64 m] w fun e w' => e = .returned (.tuple #[.int .i64 0, .int .i64 0, .int .i64 11]) ∧ w' = w := by
  go_enter Tryz.func11, Tryz.ntmps11
  go_wp2
  go_ret3
  exact ⟨rfl, rfl⟩
theorem point_words (v : Value) (ws : List Int) (m : Int) (w : World) (hv : LI w v ws) (h0 : 0 < ws.length) (hn : ws.any noC = true) : Calls Tryz.prog 11 #[v, .int .i64 m] w fun e w' => e = .returned (.tuple #[.int .i64 0, .int .i64 0, .int .i64 9]) ∧ w' = w := by
  have hc := containsFunc_any _ noC enter_p point_fn ws v w hv
  rw [hn] at hc
  obtain ⟨A, c, rfl⟩ := hv.form
  obtain ⟨n, hnl⟩ : ∃ n, ws.length = n := ⟨_, rfl⟩
  rw [hnl] at hc h0 ⊢
  have HC := Lib.hid hc
  have h1 : ((n : Int) == 0) = false := by simp; omega
  clear hc hv hn hnl
  go_enter Tryz.func11, Tryz.ntmps11
  go_wp2_with fail
  refine HC.out.mono ?_
  rintro e w1 ⟨rfl, rfl⟩
  go_wp2
  go_ret3
  exact ⟨rfl, rfl⟩
theorem point_neg (v : Value) (ws : List Int) (m : Int) (w : World) (hv : LI w v ws) (h0 : 0 < ws.length) (hn : ws.any noC = false) (hm : m < 0) : Calls Tryz.prog 11 #[v, .int .i64 m] w fun e w' => e = .returned (.tuple #[.int .i64 0, .int .i64 0, .int .i64 1]) ∧ w' = w := by
  have hc := containsFunc_any _ noC enter_p point_fn ws v w hv
  rw [hn] at hc
  obtain ⟨A, c, rfl⟩ := hv.form
  obtain ⟨n, hnl⟩ : ∃ n, ws.length = n := ⟨_, rfl⟩
  rw [hnl] at hc h0 ⊢
  have HC := Lib.hid hc
  have h1 : ((n : Int) == 0) = false := by simp; omega
  clear hc hv hn hnl
  go_enter Tryz.func11, Tryz.ntmps11
  go_wp2_with fail
  refine HC.out.mono ?_
  rintro e w1 ⟨rfl, rfl⟩
  go_wp2
  go_ret3
  exact ⟨rfl, rfl⟩

def PointPost (ws : List Int) (m : Int) (w : World) (e : Ending) (w' : World) : Prop := ∃ f t : Nat, Mth.Best ws m ws.length f t ∧ e = .returned (.tuple #[.int .i64 f, .int .i64 t, .int .i64 0]) ∧ w' = w

set_option maxHeartbeats 2000000 in
set_option maxRecDepth 100000 in
theorem point_ok (ws : List Int) (m : Int) (w : World) (b o c n : Nat) (hl : ws.length = n) (hc : ∀ j, j < ws.length → w.cell? ⟨b, o + j, none⟩ = some (.int .i64 (ws[j]?.getD 0))) (hv : LI w (.slice (some ⟨b, o, none⟩) n c) ws) (h0 : 0 < n) (h1 : n ≤ 1048576) (hn : ws.any noC = false) (hm : 0 ≤ m) (hm2 : m ≤ 9223372036854775807) :
    Calls Tryz.prog 11 #[.slice (some ⟨b, o, none⟩) n c, .int .i64 m] w (PointPost ws m w) := by
  have hcf := containsFunc_any _ noC enter_p point_fn ws _ w hv
  rw [hn] at hcf
  have HCF := Lib.hid hcf
  have HL := Lib.hid hl
  have HC := Lib.hid hc
  have HNC := Lib.hid hn
  have HNN : Hid (∀ x ∈ ws, 0 ≤ x) := Lib.hid (fun x hx => (cnt_all hn x hx).1)
  have hpl := fun k (hk : k ≤ n) => Mth.pre_le (l := ws) (m := 2147483647) (by omega) (cnt_all hn) k (by omega)
  have HPL := Lib.hid hpl
  have hA := hpl n (Nat.le_refl _)
  obtain ⟨T, hT⟩ : ∃ T, Mth.pre ws n = T := ⟨_, rfl⟩
  rw [hT] at hA
  have HT := Lib.hid hT
  have hT0 : 0 ≤ T := by rw [← hT]; exact Mth.pre_nn HNN.out n
  have hn0 : ((n : Int) == 0) = false := by simp; omega
  have hn1 : (1:Int) ≤ n := by omega
  have hn2 : (n:Int) ≤ 1048576 := by omega
  have hTb : T ≤ 2251799813685248 := by omega
  have hmd : decide (m < 0) = false := by simp; omega
  clear hcf hl hc hn hv hpl hT hA
  go_enter Tryz.func11, Tryz.ntmps11
  go_wp2_with fail
  refine HCF.out.mono ?_
  rintro e w1 ⟨rfl, rfl⟩
  go_wp2
  all_goals first
    | (exfalso; omega)
    | skip
  go_loopw [7, 24] (fun a7 a24 wr => ∃ j : Nat, a24 = .int .i64 j ∧ a7 = .int .i64 (Mth.pre ws j) ∧ wr = w1 ∧ j ≤ n) (fun _ a24 _ => n - (intOf a24).toNat)
  case atStart => exact ⟨0, rfl, rfl, rfl, by omega⟩
  case round =>
    obtain ⟨j, rfl, rfl, rfl, hj⟩ := hrel
    by_cases hlt : j < n
    · have hlt2 : (j : Int) < (n : Int) := by omega
      have hcj := HC.out j (by rw [HL.out]; exact hlt)
      have hxr := cnt_at HNC.out (j := j) (by rw [HL.out]; exact hlt)
      have hps := Mth.pre_succ (l := ws) (k := j) (by rw [HL.out]; exact hlt)
      have hb1 := HPL.out j (by omega)
      have hb0 := Mth.pre_nn HNN.out j
      obtain ⟨x, hx⟩ : ∃ x, ws[j]?.getD 0 = x := ⟨_, rfl⟩
      rw [hx] at hcj hxr hps
      obtain ⟨P, hP⟩ : ∃ P, Mth.pre ws j = P := ⟨_, rfl⟩
      rw [hP] at hps hb1 hb0 ⊢
      have HPS := Lib.hid hps
      obtain ⟨x1, x2⟩ := hxr
      have hPb : P ≤ 2251799813685248 := by omega
      clear hx hP hps hb1
      go_wp2
      go_roundw
      case rel => exact ⟨j + 1, by go_num, by rw [HPS.out], by first | rfl | trivial, by omega⟩
      case measure => simp [intOf]; omega
    · obtain rfl : j = n := by omega
      rw [HT.out]
      go_wp2
      go_loopw [4, 5, 7, 10, 37] (fun a4 a5 a7 a10 a37 wt => ∃ b f t e : Nat, a37 = .int .i64 b ∧ a4 = .int .i64 f ∧ a5 = .int .i64 t ∧ a10 = .int .i64 e ∧ a7 = .int .i64 (T - (Mth.pre ws e - Mth.pre ws b)) ∧ wt = wr ∧ b ≤ j ∧ b ≤ e ∧ e ≤ j ∧ f ≤ b ∧ Mth.Best ws m b f t ∧ ∀ i, b < i → i < e → ¬ Mth.Good ws m b i) (fun _ _ _ _ a37 _ => j - (intOf a37).toNat)
      case atStart =>
        have hbs := Mth.Best.start (l := ws) (most := m) (by rw [HL.out]; exact h0) hm
        rw [HL.out] at hbs
        exact ⟨0, 0, j - 1, 0, rfl, rfl, by rw [show ((j - 1 : Nat) : Int) = (j : Int) - 1 by omega], rfl, by simp, rfl, by omega, by omega, by omega, by omega, hbs, fun i h2 h3 => by omega⟩
      case round =>
        obtain ⟨bg, f, t, e, rfl, rfl, rfl, rfl, rfl, rfl, hb1, hb2, hb3, hfb, hbest, hmin⟩ := hrel
        have HB := Lib.hid hbest
        have HMIN := Lib.hid hmin
        have hft : f ≤ t := hbest.1
        have htl : t < j := by have := hbest.2.1; rw [HL.out] at this; exact this
        have hft2 : (f : Int) ≤ (t : Int) := by omega
        have htl2 : (t : Int) < (j : Int) := by omega
        clear hbest hmin
        by_cases hlt : bg < j
        · have hlt2 : (bg : Int) < (j : Int) := by omega
          have hPB0 := Mth.pre_nn HNN.out bg
          have hPBT := Mth.pre_mono HNN.out hb1
          rw [HT.out] at hPBT
          have hcb := HC.out bg (by rw [HL.out]; exact hlt)
          have hyr := cnt_at HNC.out (j := bg) (by rw [HL.out]; exact hlt)
          have hpsb := Mth.pre_succ (l := ws) (k := bg) (by rw [HL.out]; exact hlt)
          obtain ⟨y, hy⟩ : ∃ y, ws[bg]?.getD 0 = y := ⟨_, rfl⟩
          rw [hy] at hcb hyr hpsb
          have hGd : ∀ e, Mth.Good ws m bg e ↔ T - (Mth.pre ws e - Mth.pre ws bg) ≤ m := fun e => by unfold Mth.Good; rw [HL.out, HT.out]
          have hmonoP := fun e (h : bg ≤ e) => Mth.pre_mono HNN.out h
          obtain ⟨PB, hPB⟩ : ∃ PB, Mth.pre ws bg = PB := ⟨_, rfl⟩
          rw [hPB] at hPB0 hPBT hpsb hGd ⊢
          simp only [hPB] at hmonoP
          have HPSB := Lib.hid hpsb
          have HGD := Lib.hid hGd
          have HMP := Lib.hid hmonoP
          obtain ⟨y1, y2⟩ := hyr
          clear hy hPB hpsb hGd hmonoP
          go_wp2
          go_loopw [7, 10] (fun a7 a10 wu => ∃ e : Nat, a10 = .int .i64 e ∧ a7 = .int .i64 (T - (Mth.pre ws e - PB)) ∧ wu = wr ∧ bg ≤ e ∧ e ≤ j ∧ ∀ i, bg < i → i < e → ¬ Mth.Good ws m bg i) (fun _ a10 _ => j - (intOf a10).toNat)
          case atStart => exact ⟨e, rfl, rfl, rfl, hb2, hb3, HMIN.out⟩
          case round =>
            clear HMIN hb2 hb3
            obtain ⟨e, rfl, rfl, rfl, hb2, hb3, hmin⟩ := hrel
            have HMIN := Lib.hid hmin
            have hPe := HMP.out e hb2
            have hPT := Mth.pre_mono HNN.out hb3
            rw [HT.out] at hPT
            have hgd := HGD.out e
            obtain ⟨Pe, hPE⟩ : ∃ Pe, Mth.pre ws e = Pe := ⟨_, rfl⟩
            rw [hPE] at hPe hPT hgd ⊢
            have HPE := Lib.hid hPE
            obtain ⟨O, hO⟩ : ∃ O, T - (Pe - PB) = O := ⟨_, rfl⟩
            rw [hO] at hgd ⊢
            have hO1 : 0 ≤ O := by omega
            have hO2 : O ≤ T := by omega
            have HO := Lib.hid hO
            have HGE := Lib.hid hgd
            clear hmin hPE hO hgd hPe hPT
            have hmore : ∀ (he : e < j) (hnew : ¬ (bg < e) ∨ m < O), e + 1 ≤ j ∧ (∀ i, bg < i → i < e + 1 → ¬ Mth.Good ws m bg i) := fun he hnew => by
              refine ⟨by omega, fun i h2 h3 => ?_⟩
              rcases (show i < e ∨ i = e by omega) with h4 | rfl
              · exact HMIN.out i h2 h4
              · rw [HGE.out]; omega
            have HMORE := Lib.hid hmore
            clear hmore
            have HNX : Hid (∀ _he : e < j, (0:Nat) = 0 → T - (Mth.pre ws (e + 1) - PB) = O - ws[e]?.getD 0) := Lib.hid (fun he _ => by
              rw [Mth.pre_succ (by rw [HL.out]; exact he), HPE.out, ← HO.out]; omega)
            by_cases hcont : e < j ∧ (¬ bg < e ∨ m < O)
            · obtain ⟨he, hnew⟩ := hcont
              have he2 : (e : Int) < (j : Int) := by omega
              have hce := HC.out e (by rw [HL.out]; exact he)
              have hxr := cnt_at HNC.out (j := e) (by rw [HL.out]; exact he)
              have hmm := HMORE.out he hnew
              have hnx := HNX.out he rfl
              obtain ⟨x, hx⟩ : ∃ x, ws[e]?.getD 0 = x := ⟨_, rfl⟩
              rw [hx] at hce hxr hnx
              obtain ⟨x1, x2⟩ := hxr
              have HNX2 := Lib.hid hnx
              have HMM := Lib.hid hmm
              clear hx hnx hmm HMORE HNX
              rcases (show (e : Int) ≤ (bg : Int) ∨ ((bg : Int) < (e : Int) ∧ m < O) by omega) with g1 | ⟨g1, g2⟩
              all_goals
                clear hnew
                go_wp2
                go_roundw
                case rel => exact ⟨e + 1, by go_num, by rw [HNX2.out], by first | rfl | trivial, by omega, HMM.out.1, HMM.out.2⟩
                case measure => simp [intOf]; omega
            · by_cases hstop : m < O
              · have hej : e = j := by omega
                subst hej
                have hng : ¬ Mth.Good ws m bg ws.length := by
                  rw [HL.out, HGE.out]; omega
                have hbb := HB.out.stop HNN.out hng
                have HBB := Lib.hid hbb
                clear hcont hng hbb HNX HMORE
                go_wp2
                go_ret3
                exact ⟨f, t, HBB.out, rfl, rfl⟩
              · have hbe : bg < e := by omega
                have hgood := HGE.out.2 (by omega)
                have hbe2 : (bg : Int) < (e : Int) := by omega
                have HR7 : Hid (T - (Mth.pre ws e - Mth.pre ws (bg + 1)) = O + y) := Lib.hid (by rw [HPE.out, HPSB.out, ← HO.out]; omega)
                have HMN : Hid (∀ i, bg + 1 < i → i < e → ¬ Mth.Good ws m (bg + 1) i) := Lib.hid (fun i h2 h3 hgd => HMIN.out i (by omega) h3 (hgd.mono HNN.out (by omega) (Nat.le_refl _)))
                have hcase : ((e : Int) < (j : Int)) ∨ e = j := by omega
                by_cases hs : e - bg < t + 1 - f
                · have hbst := HB.out.better hbe (by rw [HL.out]; exact hb3) hgood HMIN.out hs
                  have HBS := Lib.hid hbst
                  have hs2 : (e : Int) - (bg : Int) < (t : Int) - (f : Int) + 1 := by omega
                  clear hbst hgood hs HNX HMORE
                  rcases hcase with hc1 | hc1
                  · clear hcont
                    go_wp2
                    go_roundw
                    case rel => exact ⟨bg + 1, bg, e - 1, e, by go_num, rfl, by rw [show ((e - 1 : Nat) : Int) = (e : Int) - 1 by omega], rfl, by rw [HR7.out], by first | rfl | trivial, by omega, by omega, by omega, by omega, HBS.out, HMN.out⟩
                    case measure => simp [intOf]; omega
                  · subst hc1
                    clear hcont
                    go_wp2
                    go_roundw
                    case rel => exact ⟨bg + 1, bg, e - 1, e, by go_num, rfl, by rw [show ((e - 1 : Nat) : Int) = (e : Int) - 1 by omega], rfl, by rw [HR7.out], by first | rfl | trivial, by omega, by omega, by omega, by omega, HBS.out, HMN.out⟩
                    case measure => simp [intOf]; omega
                · have hbst := HB.out.keep hbe HMIN.out hs hfb
                  have HBS := Lib.hid hbst
                  have hs2 : ¬ (e : Int) - (bg : Int) < (t : Int) - (f : Int) + 1 := by omega
                  clear hbst hgood hs HNX HMORE
                  rcases hcase with hc1 | hc1
                  · clear hcont
                    go_wp2
                    go_roundw
                    case rel => exact ⟨bg + 1, f, t, e, by go_num, rfl, rfl, rfl, by rw [HR7.out], by first | rfl | trivial, by omega, by omega, by omega, by omega, HBS.out, HMN.out⟩
                    case measure => simp [intOf]; omega
                  · subst hc1
                    clear hcont
                    go_wp2
                    go_roundw
                    case rel => exact ⟨bg + 1, f, t, e, by go_num, rfl, rfl, rfl, by rw [HR7.out], by first | rfl | trivial, by omega, by omega, by omega, by omega, HBS.out, HMN.out⟩
                    case measure => simp [intOf]; omega
        · obtain rfl : bg = j := by omega
          have hbst := HB.out
          have HBS : Hid (Mth.Best ws m ws.length f t) := Lib.hid (by rw [HL.out]; exact hbst)
          clear hbst hlt
          go_wp2
          go_ret3
          exact ⟨f, t, HBS.out, rfl, rfl⟩
end Go.Proofs.YtlildanamfjnmaaGreatDoor
