/-
  natDiv of the reference: the long way.
-/
import Derived.Test.YtlildanamfjnmaaGreatDoorRDiv
import Derived.Deep.DeepCutAuto
import Derived.Deep.LoopGhost
namespace Go.Proofs.YtlildanamfjnmaaGreatDoor
open Go.RowKit

theorem mem_cons_lt {Q : List Nat} {b d : Nat} (h : ∀ x ∈ Q, x < b) (hd : d < b) : ∀ x ∈ d :: Q, x < b := by
  intro x hx
  rcases List.mem_cons.1 hx with rfl | h1
  · exact hd
  · exact h x h1
/-- a slice of another row than the one that has turned -/
theorem Sl.grown {w w' : World} {v : Value} {xs : List Value} {row : Option Nat} (h : Sl w v xs) (hg : w.grownBy w' row) (hne : ∀ k, v.ownBlock = some k → row = some k → False) : Sl w' v xs := by
  obtain ⟨A, c, e, h1, h2, h3⟩ := h
  refine ⟨A, c, e, h1, h2, fun h0 => ?_⟩
  obtain ⟨b, o, rfl, h4⟩ := h3 h0
  refine ⟨b, o, rfl, fun j u hu => ?_⟩
  have h5 := h4 j u hu
  have hb : b < w.heap.size := World.block_lt_of_cell? w _ h5
  exact (World.cell?_of_block (a := ⟨b, o + j, none⟩) (hg.block b hb (fun e2 => hne b (by rw [e]; rfl) e2.symm))).trans h5

set_option maxHeartbeats 8000000 in
set_option maxRecDepth 100000 in
theorem rdiv_big (m n : Nat) (va vb : Value) (w : World) (ha : Pt w va m) (hb : Pt w vb n) (hs : (Mth.dg 10000 m).length ≤ 100000000) (ht : (Mth.dg 10000 n).length ≤ 100000000) (h : n ≤ m) (hn0 : 0 < n) :
    Calls Tryz.prog 101 #[va, vb] w (RDiv m n w) := by
  have HC := Lib.hid (rcmp_any m n va vb w ha hb (by omega) (by omega))
  have HB := Lib.hid hb
  have HLT := Lib.hid h
  have HN0 := Lib.hid hn0
  obtain ⟨A, c, rfl, h1, h2, h3⟩ := ha
  obtain ⟨A', c', rfl, -, -, -⟩ := hb
  obtain ⟨la, hla⟩ : ∃ la, Mth.dg 10000 m = la := ⟨_, rfl⟩
  obtain ⟨nb, hnb⟩ : ∃ nb, (Mth.dg 10000 n).length = nb := ⟨_, rfl⟩
  have hnb0 : 0 < nb := by rw [← hnb]; exact List.length_pos_iff.2 (Mth.dg_ne_nil (by omega) hn0)
  have hle : nb ≤ la.length := by rw [← hla, ← hnb]; exact Mth.dg_len_mono (by omega) h
  have hlow : 10000 ^ (nb - 1) ≤ n := by rw [← hnb]; exact Mth.pow_le_of_dg (by omega) hn0
  have hval : Mth.val 10000 la = m := by rw [← hla]; exact Mth.val_dg (by omega) m
  have hlad : ∀ d ∈ la, d < 10000 := by rw [← hla]; exact Mth.dg_lt (by omega) m
  have HNB := Lib.hid hnb
  rw [hla] at hs
  simp only [n64s_length] at h1 h3
  rw [hnb] at ht
  rw [hla] at h1 h3
  rw [n64s_length, hla] at HC
  rw [n64s_length, hnb] at HC HB
  rw [n64s_length, n64s_length, hla, hnb]
  obtain ⟨b, o, rfl, hc⟩ := h3 (by omega)
  obtain ⟨from_, hf⟩ : ∃ f, la.length - nb = f := ⟨_, rfl⟩
  have hR0 : Mth.val 10000 (la.drop (from_ + 1)) < n := by
    have h5 := Mth.val_lt (b := 10000) (by omega) (la.drop (from_ + 1)) (fun d hd => hlad d (List.mem_of_mem_drop hd))
    rw [List.length_drop, show la.length - (from_ + 1) = nb - 1 by omega] at h5
    omega
  have HCELL : Hid (∀ j, j < la.length → w.cell? ⟨b, o + j, none⟩ = some (.int .i64 ((la[j]?.getD 0 : Nat) : Int))) := Lib.hid fun j hj => hc j _ (n64s_at hj)
  have hbw : b < w.heap.size := World.block_lt_of_cell? w _ (HCELL.out 0 (by omega))
  have HSL : Hid (∀ W : World, (∃ k, W = w.drewN k) → ∀ A0 c0, (A0 = some ⟨b, o + (from_ + 1), none⟩ ∨ la.length = from_ + 1) → la.length - (from_ + 1) ≤ c0 → c0 ≤ maxLen → Sl W (.slice A0 (la.length - (from_ + 1)) c0) (n64s (la.drop (from_ + 1)))) := Lib.hid fun W ⟨k, hk⟩ A0 c0 hA h5 h6 => by
    subst hk
    refine ⟨A0, c0, by rw [n64s_length, List.length_drop], by rw [n64s_length, List.length_drop]; exact h5, h6, fun h7 => ?_⟩
    rw [n64s_length, List.length_drop] at h7
    rcases hA with hA | hA
    · refine ⟨b, o + (from_ + 1), hA, fun j u hu => ?_⟩
      have := hc (from_ + 1 + j) u (by rw [← hu, n64s, n64s, List.getElem?_map, List.getElem?_map, List.getElem?_drop])
      rw [Nat.add_assoc]
      exact this
    · omega
  have HVAL := Lib.hid hval
  have HLAD := Lib.hid hlad
  have HR0 := Lib.hid hR0
  have HF := Lib.hid hf
  have hfi : (la.length : Int) - (nb : Int) = (from_ : Int) := by omega
  have hf1 : (from_ : Int) + 1 ≤ (la.length : Int) := by omega
  have hf2 : from_ + 1 ≤ la.length := by omega
  have h2m := h2
  unfold maxLen at h2
  clear hval hlad hnb hR0 hf hla hc h3 h hlow hn0
  have HF2 := Lib.hid hf2
  have HHS := Lib.hid hs
  have HFI := Lib.hid hfi
  have HH1 := Lib.hid h1
  go_enter Tryz.func101, Tryz.ntmps101
  go_wp2_with fail
  refine HC.out.mono ?_
  rintro e w1 ⟨z, rfl, hz, k, rfl⟩
  have hz1 : ¬ (z < 0) := by have := HLT.out; omega
  clear hz
  go_upto_region 5 with fail
  go_cut [8] (fun a8 wx => Pt wx a8 (Mth.val 10000 (la.drop (from_ + 1))) ∧ Below w.heap.size w wx)
  case first =>
    by_cases hcap : c = from_ + 1
    · have hl : la.length = from_ + 1 := by omega
      have HSLV : Hid (Sl (w.drewN k) (.slice (some ⟨b, o, none⟩) 0 0) (n64s (la.drop (from_ + 1)))) := Lib.hid (by
        have h := HSL.out (w.drewN k) ⟨k, rfl⟩ (some ⟨b, o, none⟩) 0 (Or.inr hl) (by omega) (by unfold maxLen; omega)
        rwa [hl, Nat.sub_self] at h)
      have hl0 : la.length - (from_ + 1) = 0 := by omega
      have hc0 : c - (from_ + 1) = 0 := by omega
      go_wp2_with fail
      refine (rclone_any (la.drop (from_ + 1)) _ _ HSLV.out (by rw [List.length_drop]; have := HHS.out; omega)).mono ?_
      rintro e w2 ⟨v2, rfl, hB2, hown2⟩
      have hsl2 := Sl.of_own hown2
      have HB2 : Hid (Below w.heap.size w w2) := Lib.hid ((rbelow_drewN (Below.refl _ w) k).trans hB2)
      clear hB2 hown2 hl0 hc0 hcap hl
      go_wp2_with fail
      refine (tidy_any (la.drop (from_ + 1)) v2 w2 hsl2 (by rw [List.length_drop]; have := HHS.out; omega)).mono ?_
      rintro e w3 ⟨v3, rfl, hS3, rfl⟩
      have HP3 : Hid (Pt w2 v3 (Mth.val 10000 (la.drop (from_ + 1)))) := Lib.hid (by
        unfold Pt
        rw [← Mth.tidy_eq (by omega) _ (fun d hd => HLAD.out d (List.mem_of_mem_drop hd))]
        exact hS3)
      clear hS3 hsl2
      go_wp2_with fail
      go_meet
      exact ⟨HP3.out, HB2.out⟩
    · have HSLV : Hid (Sl (w.drewN k) (.slice (some ⟨b, o + (from_ + 1), none⟩) (la.length - (from_ + 1)) (c - (from_ + 1))) (n64s (la.drop (from_ + 1)))) := Lib.hid (by
        exact HSL.out (w.drewN k) ⟨k, rfl⟩ _ (c - (from_ + 1)) (Or.inl rfl) (by omega) (by unfold maxLen; omega))
      go_wp2_with fail
      refine (rclone_any (la.drop (from_ + 1)) _ _ HSLV.out (by rw [List.length_drop]; have := HHS.out; omega)).mono ?_
      rintro e w2 ⟨v2, rfl, hB2, hown2⟩
      have hsl2 := Sl.of_own hown2
      have HB2 : Hid (Below w.heap.size w w2) := Lib.hid ((rbelow_drewN (Below.refl _ w) k).trans hB2)
      clear hB2 hown2 hcap
      go_wp2_with fail
      refine (tidy_any (la.drop (from_ + 1)) v2 w2 hsl2 (by rw [List.length_drop]; have := HHS.out; omega)).mono ?_
      rintro e w3 ⟨v3, rfl, hS3, rfl⟩
      have HP3 : Hid (Pt w2 v3 (Mth.val 10000 (la.drop (from_ + 1)))) := Lib.hid (by
        unfold Pt
        rw [← Mth.tidy_eq (by omega) _ (fun d hd => HLAD.out d (List.mem_of_mem_drop hd))]
        exact hS3)
      clear hS3 hsl2
      go_wp2_with fail
      go_meet
      exact ⟨HP3.out, HB2.out⟩
  case rest =>
    obtain ⟨hP3, hB2⟩ := hcut
    have HP3 := Lib.hid hP3
    have HB2 := Lib.hid hB2
    clear hP3 hB2 HSL hz1 hfi hf1 hf2 hs
    go_wp2
    go_loopg [6, 8, 9] (from_ + 1) (fun k a6 a8 a9 wr => ∃ (i : Int) (r : Nat) (Q : List Nat), a9 = .int .i64 i ∧ i = (k : Int) - 1 ∧ k ≤ from_ + 1 ∧ wr.ownsRow w.heap.size 3 1 a6 Q.length (n64s Q) ∧ Pt wr a8 r ∧ r < n ∧ (∀ d ∈ Q, d < 10000) ∧ Q.length = from_ + 1 - k ∧
      Mth.val 10000 (la.drop k) = Mth.val 10000 Q * n + r ∧ Below w.heap.size w wr)
    case atStart => exact ⟨_, _, [], rfl, by omega, by omega, World.ownsRow_nil _ _ _ _, HP3.out, HR0.out, by simp, by simp, by simp [Mth.val], HB2.out⟩
    case round =>
      obtain ⟨i, r, Q, rfl, hik, hk, hown, hr, hrn, hQ, hQl, hv, hB⟩ := hrel
      have HPR := Lib.hid hr
      have HRN := Lib.hid hrn
      have HQ := Lib.hid hQ
      have HQL := Lib.hid hQl
      have HV := Lib.hid hv
      have HOWN := Lib.hid hown
      have hBs := hB.size
      have HBR := Lib.hid hB
      have hQs : Q.length ≤ 100000001 := by have := HHS.out; have := HF2.out; omega
      obtain ⟨A8, k8, c8, rfl⟩ := hr.shape
      clear hr hrn hQ hQl hv hown hB
      by_cases h0 : gk = 0
      · subst h0
        obtain rfl : i = -1 := by omega
        clear hik hk
        go_wp2_with fail
        refine (tidy_any Q _ _ (Sl.of_own HOWN.out) (by omega)).mono ?_
        rintro e w4 ⟨v4, rfl, hS4, rfl⟩
        have hv := HV.out
        rw [List.drop_zero, HVAL.out] at hv
        have hd : m / n = Mth.val 10000 Q ∧ m % n = r := by
          have hn0 := HN0.out
          have hrn := HRN.out
          subst hv
          rw [Nat.mul_comm]
          constructor
          · rw [Nat.mul_add_div hn0, Nat.div_eq_of_lt hrn, Nat.add_zero]
          · rw [Nat.mul_add_mod, Nat.mod_eq_of_lt hrn]
        have HD := Lib.hid hd
        have HS4 := Lib.hid hS4
        clear hd hS4 hv
        go_wp2
        go_ret2
        refine ⟨_, _, rfl, HBR.out, ?_, ?_⟩
        · rw [HD.out.1]
          unfold Pt
          rw [← Mth.tidy_eq (by omega) Q HQ.out]
          exact HS4.out
        · rw [HD.out.2]; exact HPR.out
      · obtain ⟨q, rfl⟩ : ∃ q : Nat, gk = q + 1 := ⟨gk - 1, by omega⟩
        obtain rfl : i = (q : Int) := by omega
        have hql : q < la.length := by have := HF2.out; omega
        have hq0 : (0 : Int) ≤ (q : Int) := by omega
        have hq2 : (q : Int) < (la.length : Int) := by omega
        have g1 := (Below.cell HBR.out (p := ⟨b, o + q, none⟩) hbw).trans (HCELL.out q hql)
        have b1 := Mth.getD_lt (by omega) HLAD.out q
        obtain ⟨x, hx⟩ : ∃ x, la[q]?.getD 0 = x := ⟨_, rfl⟩
        rw [hx] at g1 b1
        have HX := Lib.hid hx
        have HQ2 := Lib.hid hql
        have HBW : Hid (b < wr.heap.size) := Lib.hid (by omega)
        have HS : Hid (∀ w', Below wr.heap.size wr w' → w'.cell? ⟨b, o + q, none⟩ = some (.int .i64 (x : Int))) := Lib.hid fun w' hb => (hb.cell (p := ⟨b, o + q, none⟩) HBW.out).trans g1
        have HLR : Hid ((Mth.dg 10000 r).length ≤ nb) := Lib.hid (by have := Mth.dg_len_mono (b := 10000) (by omega) (Nat.le_of_lt HRN.out); rw [HNB.out] at this; exact this)
        have HKK := Lib.hid hk
        clear hx hql h0 hik hk
        go_upto_region 9 with fail
        go_cut [8] (fun a8 wx => Pt wx a8 (x + 10000 * r) ∧ Below wr.heap.size wr wx ∧ ∀ k, a8.ownBlock = some k → wr.heap.size ≤ k)
        case first =>
          go_region_held3 (fun w' => w'.cell? ⟨b, o + q, none⟩ = some (.int .i64 (x : Int)))
            (first | exact g1 | exact HS.out _ HC2.out | exact HS.out _ HC1.out | go_keep)
            (first
              | (go_at_call 127; refine (rclone_any (Mth.dg 10000 r) _ _ (by first | exact HPR.out | exact Sl.alloc HPR.out _) (by have := HLR.out; omega)).mono ?_; rintro e w4 ⟨v4, rfl, hB4, hown4⟩
                 first
                   | (have HC1 : Hid (Below wr.heap.size wr w4) := Lib.hid ((Below.refl _ wr).drew.trans hB4)
                      have HINS := Lib.hid (ins_any _ w4.heap.size x (Mth.dg 10000 r) v4 _ (hown4.alloc (.cells #[.int .i64 (x : Int)] 3)) (by have := HC1.out.size; simp; omega) (by have := HLR.out; omega) (heap_alloc_new w4 _) (fun e => absurd (hown4.lt _ e).2 (Nat.lt_irrefl _)))
                      have HTR : Hid (∀ W, Below wr.heap.size (w4.alloc (.cells #[.int .i64 (x : Int)] 3)) W → Below wr.heap.size wr W) := Lib.hid fun W hW => (HC1.out.alloc HC1.out.size _).trans hW)
                   | (have HC1 : Hid (Below wr.heap.size wr w4) := Lib.hid ((((Below.refl _ wr).drew).alloc (Nat.le_refl _) _).trans (hB4.mono (by simp)))
                      have HINS := Lib.hid (ins_any _ wr.heap.size x (Mth.dg 10000 r) v4 _ hown4 hB4.size (by have := HLR.out; omega) ((hB4.block wr.heap.size (by simp)).trans (heap_alloc_new wr.drew _)) (fun e => absurd (hown4.lt _ e).1 (by simp)))
                      have HTR : Hid (∀ W, Below (wr.drew.alloc (.cells #[.int .i64 (x : Int)] 3)).heap.size w4 W → Below wr.heap.size wr W) := Lib.hid fun W hW => HC1.out.trans (hW.mono (by simp)))
                 clear hB4 hown4)
              | (go_at_call 128; refine HINS.out.mono ?_; rintro e w5 ⟨v5, rfl, hB5, hown5, -⟩; have HC2 : Hid (Below wr.heap.size wr w5) := Lib.hid (HTR.out _ hB5); have HSL5 := Lib.hid (Sl.of_own hown5); have HLT5 := Lib.hid hown5.lt; clear hB5 hown5)
              | (go_at_call 108; refine (tidy_own (x :: Mth.dg 10000 r) v5 _ HSL5.out (by rw [List.length_cons]; have := HLR.out; omega)).mono ?_; rintro e w6 ⟨v6, rfl, hS6, hob6, rfl⟩; have HOB6 : Hid (∀ k, v6.ownBlock = some k → wr.heap.size ≤ k) := Lib.hid (fun k hk => by have h := (HLT5.out k (by rw [← hob6]; exact hk)).1; simp at h; omega); clear hob6; have HP6 : Hid (Pt w5 v6 (x + 10000 * r)) := Lib.hid (by unfold Pt; rw [← tidy_cons_dg b1]; exact hS6); clear hS6))
          all_goals
            go_wp2_with fail
            go_meet
            exact ⟨HP6.out, HC2.out, HOB6.out⟩
        case rest =>
          obtain ⟨hP6, hC2, hob6⟩ := hcut
          have HOB6 := Lib.hid hob6
          have HUL : Hid (∀ k, u6.ownBlock = some k → k < wr.heap.size) := Lib.hid fun k hk => (HOWN.out.lt k hk).2
          clear hob6
          obtain ⟨r1, hr1⟩ : ∃ r1, x + 10000 * r = r1 := ⟨_, rfl⟩
          have hr1n : r1 < 10000 * n := by have := HRN.out; omega
          obtain ⟨D, hD⟩ : ∃ D, r1 / n = D := ⟨_, rfl⟩
          have hD9 : D ≤ 9999 := by
            have : r1 / n < 10000 := Nat.div_lt_of_lt_mul (by rw [Nat.mul_comm]; exact hr1n)
            omega
          have hlr1 : (Mth.dg 10000 r1).length ≤ nb + 2 := by
            refine Nat.le_trans (Mth.dg_len_mono (by omega) (Nat.le_of_lt hr1n)) (Nat.le_trans (Mth.dg_len_mul (by omega) _ _) ?_)
            have h2 := Mth.dg_len_le (b := 10000) (by omega) 2 10000 (by omega)
            have := HNB.out
            omega
          have hstep : Mth.val 10000 (la.drop q) = Mth.val 10000 (D :: Q) * n + r1 % n := by
            rw [Mth.val_drop _ _ _ HQ2.out, HX.out, HV.out]
            simp only [Mth.val]
            have h3 := Nat.div_add_mod r1 n
            rw [hD] at h3
            rw [Nat.add_mul, Nat.mul_assoc, Nat.mul_comm D n]
            omega
          have HDM : Hid (∀ k, n * k ≤ r1 ↔ k ≤ D) := Lib.hid fun k => by rw [← hD, Nat.le_div_iff_mul_le HN0.out, Nat.mul_comm]
          have HLM : Hid (∀ k, k ≤ 9999 → (Mth.dg 10000 (n * k)).length ≤ nb + 1) := Lib.hid fun k hk => by
            refine Nat.le_trans (Mth.dg_len_mul (by omega) _ _) ?_
            have h2 := Mth.dg_len_le (b := 10000) (by omega) 1 k (by omega)
            have := HNB.out
            omega
          have HLK : Hid (∀ k, k ≤ 9999 → (Mth.dg 10000 k).length ≤ 1) := Lib.hid fun k hk => Mth.dg_len_le (b := 10000) (by omega) 1 k (by omega)
          have HSUB : Hid (r1 - n * D = r1 % n) := Lib.hid (by have := Nat.div_add_mod r1 n; rw [hD] at this; omega)
          have HD0 : Hid (D = 0 → r1 % n = r1) := Lib.hid (by intro h; have := Nat.div_add_mod r1 n; rw [hD, h] at this; omega)
          have HLR1 := Lib.hid hlr1
          have HST := Lib.hid hstep
          have HRM : Hid (r1 % n < n) := Lib.hid (Nat.mod_lt _ HN0.out)
          rw [hr1] at hP6
          have HB5 : Hid (Below w.heap.size w wc) := Lib.hid (HBR.out.trans (hC2.mono hBs))
          have HPR1 := Lib.hid hP6
          have HN5 : Hid (Pt wc (.slice A' nb c') n) := Lib.hid (HB.out.below HB5.out)
          have HOW5 : Hid (wc.ownsRow w.heap.size 3 1 u6 Q.length (n64s Q)) := Lib.hid (own_below HOWN.out hC2)
          have hw5 : w.heap.size ≤ wc.heap.size := HB5.out.size
          have HWOC : Hid (wr.heap.size ≤ wc.heap.size) := Lib.hid hC2.size
          clear hr1n hD hlr1 hstep hr1 hP6 hC2 g1 b1
          go_wp2
          obtain ⟨wo, rfl⟩ : ∃ wo : World, wo = wr := ⟨_, rfl⟩
          go_loopw [10, 11] (fun a10 a11 wi => ∃ lo hi : Nat, a10 = .int .i64 lo ∧ a11 = .int .i64 hi ∧ lo ≤ D ∧ D ≤ hi ∧ hi ≤ 9999 ∧ Below wc.heap.size wc wi) (fun a10 a11 _ => (intOf a11 - intOf a10).toNat)
          case atStart => exact ⟨0, 9999, rfl, rfl, by omega, hD9, by omega, Below.refl _ _⟩
          case round =>
            obtain ⟨lo, hi, rfl, rfl, hlo, hhi, hh9, hBi⟩ := hrel
            have HBI := Lib.hid hBi
            have hBis := hBi.size
            clear hBi
            by_cases hlt : lo < hi
            · obtain ⟨mid, hmid⟩ : ∃ mid, (lo + hi + 1) / 2 = mid := ⟨_, rfl⟩
              have hm1 : ((lo : Int) + (hi : Int) + 1) / 2 = (mid : Int) := by omega
              have hm2 : lo < mid := by omega
              have hm3 : mid ≤ hi := by omega
              have hlti : (lo : Int) < (hi : Int) := by omega
              have hwm : IntKind.u64.wrap (mid : Int) = (mid : Int) := by rw [IntKind.wrap_u64]; omega
              have HOFM := Lib.hid (fun W => rof_any mid W (by omega))
              clear hmid
              go_wp2_with fail
              refine (HOFM.out _).mono ?_
              rintro e w6 ⟨v6, rfl, hN6, hB6⟩
              have HBI6 : Hid (Below wc.heap.size wc w6) := Lib.hid (HBI.out.trans (hB6.mono hBis))
              have hmul := rmul_any n mid _ v6 w6 (HN5.out.below HBI6.out) hN6 (by rw [HNB.out]; omega) (by have := HLK.out mid (by omega); omega)
              have HMUL := Lib.hid hmul
              clear hmul hN6 hB6
              go_wp2_with fail
              refine HMUL.out.mono ?_
              rintro e w7 ⟨v7, rfl, hB7, hN7, -⟩
              have HBI7 : Hid (Below wc.heap.size wc w7) := Lib.hid (HBI6.out.trans (hB7.mono HBI6.out.size))
              have hcmp := rcmp_any (n * mid) r1 v7 u8 w7 hN7 (HPR1.out.below HBI7.out) (by have := HLM.out mid (by omega); omega) (by have := HLR1.out; omega)
              have HCMP := Lib.hid hcmp
              clear hcmp hN7 hB7
              go_wp2_with fail
              refine HCMP.out.mono ?_
              rintro e w8 ⟨z2, rfl, hz2, k2, rfl⟩
              have HBI8 : Hid (Below wc.heap.size wc (w7.drewN k2)) := Lib.hid (rbelow_drewN HBI7.out k2)
              have HZ2 := Lib.hid hz2
              clear hz2
              by_cases hz0 : z2 ≤ 0
              · have hmd : mid ≤ D := (HDM.out mid).1 (by have := HZ2.out; omega)
                go_wp2
                go_roundw
                case rel => exact ⟨mid, hi, rfl, rfl, hmd, hhi, hh9, HBI8.out⟩
                case measure => simp [intOf]; omega
              · have hmd : ¬ (mid ≤ D) := fun h => by have := (HDM.out mid).2 h; have := HZ2.out; omega
                go_wp2
                go_roundw
                case rel => exact ⟨lo, mid - 1, rfl, by go_num, hlo, by omega, by omega, HBI8.out⟩
                case measure => simp [intOf]; omega
            · obtain rfl : lo = D := by omega
              obtain rfl : hi = lo := by omega
              have HOWI : Hid (wr.ownsRow w.heap.size 3 1 u6 Q.length (n64s Q)) := Lib.hid (own_below HOW5.out HBI.out)
              have HBE : Hid (Below w.heap.size w wr) := Lib.hid (HB5.out.trans (HBI.out.mono hw5))
              have hwr : w.heap.size ≤ wr.heap.size := HBE.out.size
              by_cases hd0 : hi = 0
              · subst hd0
                have HINS := Lib.hid (ins_any w.heap.size wr.heap.size 0 Q u6 _ (HOWI.out.alloc (.cells #[.int .i64 ((0 : Nat) : Int)] 3)) (by simp; omega) (by omega) (heap_alloc_new wr _) (fun e => absurd (HOWI.out.lt _ e).2 (Nat.lt_irrefl _)))
                have HP : Hid (Pt wr u8 (r1 % n)) := Lib.hid (by rw [HD0.out rfl]; exact HPR1.out.below HBI.out)
                clear hlt hlo hhi hD9
                go_wp2_with fail
                refine HINS.out.mono ?_
                rintro e w9 ⟨v9, rfl, hB9, hown9, hgr9⟩
                have HOWN9 := Lib.hid hown9
                have HB9 : Hid (Below w.heap.size w w9) := Lib.hid ((HBE.out.alloc hwr _).trans hB9)
                have HP9 : Hid (Pt w9 u8 (r1 % n)) := Lib.hid (Sl.grown (HP.out.alloc _) hgr9 (fun k h1 h2 => absurd (HUL.out k h2) (by have := HOB6.out k h1; omega)))
                clear hown9 hB9 hgr9
                go_wp2
                go_roundg q
                case rel => exact ⟨(q : Int) - 1, r1 % n, 0 :: Q, rfl, rfl, by have := HKK.out; omega, HOWN9.out, HP9.out, HRM.out, mem_cons_lt HQ.out (by omega), by have := HQL.out; have := HKK.out; simp; omega, HST.out, HB9.out⟩
                case measure => omega
              · have hd1 : (0 : Int) < (hi : Int) := by omega
                have hwd : IntKind.u64.wrap (hi : Int) = (hi : Int) := by rw [IntKind.wrap_u64]; omega
                have HOFD := Lib.hid (fun W => rof_any hi W (by omega))
                clear hlt hlo hhi
                go_wp2_with fail
                refine (HOFD.out _).mono ?_
                rintro e w6 ⟨v6, rfl, hN6, hB6⟩
                have HBI6 : Hid (Below wc.heap.size wc w6) := Lib.hid (HBI.out.trans (hB6.mono hBis))
                have hmul := rmul_any n hi _ v6 w6 (HN5.out.below HBI6.out) hN6 (by rw [HNB.out]; omega) (by have := HLK.out hi hD9; omega)
                have HMUL := Lib.hid hmul
                clear hmul hN6 hB6
                go_wp2_with fail
                refine HMUL.out.mono ?_
                rintro e w7 ⟨v7, rfl, hB7, hN7, -⟩
                have HBI7 : Hid (Below wc.heap.size wc w7) := Lib.hid (HBI6.out.trans (hB7.mono HBI6.out.size))
                have hsub := rsub_any r1 (n * hi) u8 v7 w7 (HPR1.out.below HBI7.out) hN7 (by have := HLR1.out; omega) (by have := HLM.out hi hD9; omega) ((HDM.out hi).2 (Nat.le_refl _))
                rw [HSUB.out] at hsub
                have HSB := Lib.hid hsub
                clear hsub hN7 hB7
                go_wp2_with fail
                refine HSB.out.mono ?_
                rintro e w8 ⟨v8, rfl, hB8, hN8, hob8⟩
                have hw7 := HBI7.out.size
                have hw8 := hB8.size
                have HBI8 : Hid (Below wc.heap.size wc w8) := Lib.hid (HBI7.out.trans (hB8.mono hw7))
                have HB8 : Hid (Below w.heap.size w w8) := Lib.hid (HB5.out.trans (HBI8.out.mono hw5))
                have HOW8 : Hid (w8.ownsRow w.heap.size 3 1 u6 Q.length (n64s Q)) := Lib.hid (own_below HOW5.out HBI8.out)
                have HINS := Lib.hid (ins_any w.heap.size w8.heap.size hi Q u6 _ (HOW8.out.alloc (.cells #[.int .i64 (hi : Int)] 3)) (by simp; omega) (by omega) (heap_alloc_new w8 _) (fun e => absurd (HOW8.out.lt _ e).2 (Nat.lt_irrefl _)))
                have HN8 := Lib.hid hN8
                have HWC : Hid (wo.heap.size ≤ wc.heap.size) := Lib.hid HWOC.out
                have HOB8 := Lib.hid hob8
                clear hN8 hB8 hob8
                go_wp2_with fail
                refine HINS.out.mono ?_
                rintro e w9 ⟨v9, rfl, hB9, hown9, hgr9⟩
                have HOWN9 := Lib.hid hown9
                have HB9 : Hid (Below w.heap.size w w9) := Lib.hid ((HB8.out.alloc (by omega) _).trans hB9)
                have HP9 : Hid (Pt w9 v8 (r1 % n)) := Lib.hid (Sl.grown (HN8.out.alloc _) hgr9 (fun k h1 h2 => absurd (HUL.out k h2) (by have := HOB8.out k h1; have := HWC.out; omega)))
                clear hown9 hB9 hgr9
                go_wp2
                go_roundg q
                case rel => exact ⟨(q : Int) - 1, r1 % n, hi :: Q, rfl, rfl, by have := HKK.out; omega, HOWN9.out, HP9.out, HRM.out, mem_cons_lt HQ.out (by omega), by have := HQL.out; have := HKK.out; simp; omega, HST.out, HB9.out⟩
                case measure => omega

theorem rdiv_any (m n : Nat) (va vb : Value) (w : World) (ha : Pt w va m) (hb : Pt w vb n) (hs : (Mth.dg 10000 m).length ≤ 100000000) (ht : (Mth.dg 10000 n).length ≤ 100000000) (hn0 : 0 < n) :
    Calls Tryz.prog 101 #[va, vb] w (RDiv m n w) := by
  by_cases h : m < n
  · exact rdiv_small m n va vb w ha hb hs ht h
  · exact rdiv_big m n va vb w ha hb hs ht (by omega) hn0
end Go.Proofs.YtlildanamfjnmaaGreatDoor
