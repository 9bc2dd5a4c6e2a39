/-
  natMul of the reference: the product.
-/
import Derived.Test.YtlildanamfjnmaaGreatDoorRCarry
import Derived.Test.YtlildanamfjnmaaGreatDoorRNatOf
namespace Go.Proofs.YtlildanamfjnmaaGreatDoor
open Go.RowKit

theorem ownI_row {w : World} {base g n : Nat} {L : List Int} (h : OwnI w g L) (hg : base ≤ g) (hl : L.length = n) (hm : n ≤ maxLen) : w.ownsRow base 3 1 (.slice (some ⟨g, 0, none⟩) n n) n (i64s L) := by
  refine ⟨by rw [i64s_length, hl]; omega, Or.inr ⟨g, n, (i64s L).toArray, rfl, hg, h, Nat.le_refl _, hm, by simp [i64s_length, hl], ?_⟩⟩
  rw [List.take_of_length_le]
  simp [i64s_length, hl]

theorem getD_set_le {L : List Int} {p : Nat} {d B : Int} (h : ∀ j : Nat, L[j]?.getD 0 ≤ B) (hd : d ≤ B) : ∀ j : Nat, (L.set p d)[j]?.getD 0 ≤ B := by
  intro j
  by_cases e : j = p
  · subst e
    by_cases hl : j < L.length
    · rw [Mth.zget_set_same hl]; exact hd
    · rw [List.set_eq_of_length_le (by omega)]; exact h j
  · rw [Mth.zget_set_other e]; exact h j
theorem getD_set_ge {L : List Int} {p : Nat} {d B : Int} (h : ∀ j : Nat, B ≤ L[j]?.getD 0) (hd : B ≤ d) : ∀ j : Nat, B ≤ (L.set p d)[j]?.getD 0 := by
  intro j
  by_cases e : j = p
  · subst e
    by_cases hl : j < L.length
    · rw [Mth.zget_set_same hl]; exact hd
    · rw [List.set_eq_of_length_le (by omega)]; exact h j
  · rw [Mth.zget_set_other e]; exact h j

set_option maxHeartbeats 2000000 in
set_option maxRecDepth 100000 in
theorem rmul_list (la lb : List Nat) (hxa : ∀ d ∈ la, d < 10000) (hxb : ∀ d ∈ lb, d < 10000) (va vb : Value) (w : World) (ha : Sl w va (n64s la)) (hb : Sl w vb (n64s lb)) (_hs : la.length ≤ 1000000000) (_ht : lb.length ≤ 1000000000) :
    Calls Tryz.prog 76 #[va, vb] w (CarryPost w.heap.size w (Mth.val 10000 la * Mth.val 10000 lb)) := by
  obtain ⟨A, c, rfl, h1, h2, h3⟩ := ha
  obtain ⟨A', c', rfl, h1', h2', h3'⟩ := hb
  simp only [n64s_length] at *
  have H3 := Lib.hid h3
  have H3' := Lib.hid h3'
  have HXA := Lib.hid hxa
  have HXB := Lib.hid hxb
  clear h3 h3' hxa hxb
  have hmk := run_make_row' (P := Tryz.prog) 35 3 (.int .i64 0) 8 Tryz.underlying35 info_int rfl .i64 .i64 (la.length + lb.length) (by omega) (by omega)
  rw [show (((la.length + lb.length : Nat)) : Int) = (la.length : Int) + (lb.length : Int) by omega] at hmk
  go_enter Tryz.func76, Tryz.ntmps76
  go_wp2
  clear hmk
  go_loopw [18] (fun a18 wr => ∃ (i : Nat) (L : List Int), a18 = .int .i64 i ∧ i ≤ la.length ∧ L.length = la.length + lb.length ∧ OwnI wr w.heap.size L ∧ (∀ j : Nat, 0 ≤ L[j]?.getD 0) ∧ (∀ j : Nat, L[j]?.getD 0 ≤ 100000000 * (i : Int)) ∧
    Mth.zval 10000 L = (Mth.val 10000 (la.take i) * Mth.val 10000 lb : Nat) ∧ Below w.heap.size w wr) (fun a18 _ => la.length - (intOf a18).toNat)
  case atStart => exact ⟨0, List.replicate (la.length + lb.length) 0, rfl, by omega, by simp, OwnI.made w _, by intro j; simp [List.getElem?_replicate]; split <;> simp, by intro j; simp [List.getElem?_replicate]; split <;> simp, by rw [Mth.zval_replicate_zero]; simp [Mth.val], (Below.refl _ _).alloc (Nat.le_refl _) _⟩
  case round =>
    obtain ⟨i, L, rfl, hi, hl, hown, hp, hm, hv, hB⟩ := hrel
    have HP := Lib.hid hp
    have HM := Lib.hid hm
    have HV := Lib.hid hv
    have HL := Lib.hid hl
    have HO := Lib.hid hown
    have hBs := hB.size
    clear hp hm hv
    by_cases hlt2 : i < la.length
    · have hi2 : (i : Int) < (la.length : Int) := by omega
      obtain ⟨b, o, rfl, hc⟩ := H3.out (by omega)
      have g1 := (Below.cell hB (World.block_lt_of_cell? w _ (hc i _ (n64s_at hlt2)))).trans (hc i _ (n64s_at hlt2))
      have b1 := Mth.getD_lt (by omega) HXA.out i
      obtain ⟨x, hx⟩ : ∃ x, la[i]?.getD 0 = x := ⟨_, rfl⟩
      rw [hx] at g1 b1
      have HX := Lib.hid hx
      have HL2 := Lib.hid hlt2
      clear hx hc hlt2 hl hown
      go_wp2
      obtain ⟨wo, rfl⟩ : ∃ wo : World, wo = wr := ⟨_, rfl⟩
      go_loopw [25] (fun a25 wi => ∃ (k : Nat) (M : List Int), a25 = .int .i64 k ∧ k ≤ lb.length ∧ M.length = la.length + lb.length ∧ OwnI wi w.heap.size M ∧ (∀ j : Nat, 0 ≤ M[j]?.getD 0) ∧ (∀ j : Nat, M[j]?.getD 0 ≤ 100000000 * (i : Int) + 100000000) ∧
        (∀ j : Nat, i + k ≤ j → M[j]?.getD 0 ≤ 100000000 * (i : Int)) ∧ Mth.zval 10000 M = Mth.zval 10000 L + (10000 : Int) ^ i * ((x : Int) * (Mth.val 10000 (lb.take k) : Int)) ∧ Below w.heap.size w wi) (fun a25 _ => lb.length - (intOf a25).toNat)
      case atStart => exact ⟨0, L, rfl, by omega, HL.out, HO.out, HP.out, fun j => Int.le_trans (HM.out j) (by omega), fun j _ => HM.out j, by simp [Mth.val], hB⟩
      case round =>
        obtain ⟨k, M, rfl, hk, hl, hown, hp, hm, hz, hv, hB'⟩ := hrel
        have HP' := Lib.hid hp
        have HM' := Lib.hid hm
        have HZ' := Lib.hid hz
        have HV' := Lib.hid hv
        have HL' := Lib.hid hl
        have hBs' := hB'.size
        clear hp hm hz hv
        by_cases hlt3 : k < lb.length
        · have hk2 : (k : Int) < (lb.length : Int) := by omega
          obtain ⟨b', o', rfl, hc'⟩ := H3'.out (by omega)
          have g2 := (Below.cell hB' (World.block_lt_of_cell? w _ (hc' k _ (n64s_at hlt3)))).trans (hc' k _ (n64s_at hlt3))
          have b2 := Mth.getD_lt (by omega) HXB.out k
          have g0 := hown.cell (j := i + k) (by have := HL2.out; omega)
          have gf := hown.frozen (i + k)
          have b3 := HP'.out (i + k)
          have b4 := HZ'.out (i + k) (Nat.le_refl _)
          obtain ⟨y, hy⟩ : ∃ y, lb[k]?.getD 0 = y := ⟨_, rfl⟩
          obtain ⟨z, hz⟩ : ∃ z, M[i + k]?.getD 0 = z := ⟨_, rfl⟩
          rw [hy] at g2 b2
          rw [hz] at g0 b3 b4
          have HY := Lib.hid hy
          have HZ0 := Lib.hid hz
          have HL3 := Lib.hid hlt3
          have hp0 : 0 ≤ (x : Int) * (y : Int) := Int.mul_nonneg (by omega) (by omega)
          have hp1 : (x : Int) * (y : Int) ≤ 99980001 := by
            have h : x * y ≤ 9999 * 9999 := Nat.mul_le_mul (by omega) (by omega)
            rw [← Int.natCast_mul]; omega
          have hz9 : z ≤ 100000000000000000 := by have := HL2.out; omega
          clear hy hz hc' hlt3 hl
          go_wp2
          go_roundw
          case rel =>
            refine ⟨k + 1, M.set (i + k) (z + (x : Int) * (y : Int)), by go_num, by omega, by simp [HL'.out], hown.set _ _, getD_set_ge HP'.out (by omega), getD_set_le HM'.out (by omega), ?_, ?_, hB'.setCell (p := ⟨w.heap.size, i + k, none⟩) (Nat.le_refl _) _⟩
            · intro j hj
              rw [Mth.zget_set_other (by have := HL3.out; omega)]
              exact HZ'.out j (by omega)
            · have h := Mth.zmul_step 10000 M lb _ x i k (by have := HL2.out; have := HL3.out; have := HL'.out; omega) HL3.out HV'.out
              rwa [HZ0.out, HY.out] at h
          case measure => simp [intOf]; omega
        · obtain rfl : k = lb.length := by omega
          clear hl
          go_wp2
          go_roundw
          case rel =>
            refine ⟨i + 1, M, by go_num, by have := HL2.out; omega, HL'.out, hown, HP'.out, fun j => Int.le_trans (HM'.out j) (by omega), ?_, hB'⟩
            have h7 := HV'.out
            rw [List.take_length, HV.out] at h7
            rw [← HX.out] at h7
            exact Mth.zmul_round 10000 la lb M i HL2.out h7
          case measure => have := HL2.out; simp [intOf]; omega
    · obtain rfl : i = la.length := by omega
      have hv := HV.out
      rw [List.take_length] at hv
      have hc := carry_any w.heap.size w.heap.size (la.length + lb.length) (la.length + lb.length) L wr (ownI_row hown (Nat.le_refl _) hl (by unfold maxLen; omega)) hBs hl (by omega)
        (fun j _ => ⟨Int.le_trans (by omega) (HP.out j), Int.le_trans (HM.out j) (by omega)⟩) (by rw [hv]; omega)
      rw [hv, Int.toNat_natCast] at hc
      have HC := Lib.hid hc
      clear hv hc hl
      go_wp2_with fail
      refine HC.out.mono ?_
      rintro e w' ⟨v', rfl, hB2, hN, hob⟩
      have HB2 := Lib.hid (hB.trans hB2)
      have HN := Lib.hid hN
      have HOB := Lib.hid hob
      clear hB2 hN hob
      go_wp2
      go_ret
      exact ⟨v', rfl, HB2.out, HN.out, HOB.out⟩

theorem rmul_any (m n : Nat) (va vb : Value) (w : World) (ha : Pt w va m) (hb : Pt w vb n) (hs : (Mth.dg 10000 m).length ≤ 1000000000) (ht : (Mth.dg 10000 n).length ≤ 1000000000) :
    Calls Tryz.prog 76 #[va, vb] w (CarryPost w.heap.size w (m * n)) := by
  have h := rmul_list (Mth.dg 10000 m) (Mth.dg 10000 n) (Mth.dg_lt (by omega) m) (Mth.dg_lt (by omega) n) va vb w ha hb hs ht
  rwa [Mth.val_dg (by omega), Mth.val_dg (by omega)] at h
end Go.Proofs.YtlildanamfjnmaaGreatDoor
