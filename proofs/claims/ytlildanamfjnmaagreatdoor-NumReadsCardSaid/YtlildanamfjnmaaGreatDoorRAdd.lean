/-
  natAdd of the reference: a sum, or a difference.
-/
import Derived.Test.YtlildanamfjnmaaGreatDoorRMul
import Derived.Laws.CopyOwn
import Derived.Lib.MinMax
namespace Go.Proofs.YtlildanamfjnmaaGreatDoor
open Go.RowKit

theorem splice_copy (la : List Nat) (n : Nat) (_h : la.length ≤ n) : splice (i64s (List.replicate n 0)) 0 (n64s la) = i64s (la.map (fun d : Nat => (d : Int)) ++ List.replicate (n - la.length) 0) := by
  rw [splice, List.take_zero, List.nil_append, Nat.zero_add, i64s_append, n64s_length]
  congr 1
  · simp [n64s, i64s]
  · simp [i64s]

set_option maxHeartbeats 2000000 in
set_option maxRecDepth 100000 in
theorem radd_list (la lb : List Nat) (k : Int) (hk : k = 1 ∨ k = -1) (hxa : ∀ d ∈ la, d < 10000) (hxb : ∀ d ∈ lb, d < 10000) (va vb : Value) (w : World) (ha : Sl w va (n64s la)) (hb : Sl w vb (n64s lb)) (_hs : la.length ≤ 1000000000) (_ht : lb.length ≤ 1000000000)
    (h0 : 0 ≤ (Mth.val 10000 la : Int) + k * (Mth.val 10000 lb : Int)) :
    Calls Tryz.prog 83 #[va, vb, .int .i64 k] w (CarryPost w.heap.size w ((Mth.val 10000 la : Int) + k * (Mth.val 10000 lb : Int)).toNat) := by
  obtain ⟨A, c, rfl, h1, h2, h3⟩ := ha
  obtain ⟨A', c', rfl, h1', h2', h3'⟩ := hb
  simp only [n64s_length] at *
  obtain ⟨m, hm⟩ : ∃ m, max la.length lb.length = m := ⟨_, rfl⟩
  have hm1 : la.length ≤ m := by omega
  have hm2 : lb.length ≤ m := by omega
  have hmx : max (la.length : Int) (lb.length : Int) = (m : Int) := by omega
  have hm3 : m ≤ 1000000000 := by omega
  have hkk : ∀ j : Nat, -9999 ≤ k * ((lb[j]?.getD 0 : Nat) : Int) ∧ k * ((lb[j]?.getD 0 : Nat) : Int) ≤ 9999 := by
    intro j
    have := Mth.getD_lt (by omega) hxb j
    rcases hk with rfl | rfl <;> omega
  have hk1 : -1 ≤ k := by omega
  have hk2 : k ≤ 1 := by omega
  have H3 := Lib.hid h3
  have H3' := Lib.hid h3'
  have HXA := Lib.hid hxa
  have HXB := Lib.hid hxb
  have HKK := Lib.hid hkk
  have H0 := Lib.hid h0
  have hmk := run_make_row' (P := Tryz.prog) 35 3 (.int .i64 0) 8 Tryz.underlying35 info_int rfl .i64 .i64 m (by omega) (by omega)
  have hrow : (w.alloc (.cells (madeCells #[.int .i64 0] m) 3)).heap[w.heap.size]? = some (.cells (i64s (List.replicate m 0)).toArray 3 (0, 0)) := OwnI.made w m
  have hsrc : Hid (∀ (A0 : Option Addr), A0 = A → 0 < (n64s la).length → ∃ ad, A0 = some ad ∧ ∀ j v, (n64s la)[j]? = some v → (w.alloc (.cells (madeCells #[.int .i64 0] m) 3)).cell? (ad.add j) = some v) := Lib.hid fun A0 e hl => by
    obtain ⟨b, o, e2, hc⟩ := h3 (by rw [n64s_length] at hl; exact hl)
    refine ⟨⟨b, o, none⟩, by rw [e, e2], fun j v hj => ?_⟩
    rw [Addr.add_lit]
    have h := hc j v hj
    exact (World.cell?_alloc_lt w _ _ (World.block_lt_of_cell? w _ h)).trans h
  have HROW := Lib.hid hrow
  have HMX := Lib.hid hmx
  have hsz : (Tryz.prog.info? 3).map (·.size) = some 1 := by kernel_rfl
  have HBA := Lib.hid ((Below.refl _ w).alloc (Nat.le_refl _) (.cells (madeCells #[.int .i64 0] m) 3))
  have hsp : (splice (i64s (List.replicate m 0)) 0 (n64s la)) = _ := splice_copy la m hm1
  have HSP := Lib.hid hsp
  have hlmin : (n64s la).length = Nat.min la.length m := by rw [n64s_length]; simp only [Nat.min_def]; split <;> omega
  have HLM := Lib.hid hlmin
  have hone : ∀ v ∈ n64s la, v.oneCell' = true := by
    intro v hv
    simp only [n64s, List.mem_map] at hv
    obtain ⟨d, -, rfl⟩ := hv
    rfl
  have HONE := Lib.hid hone
  have HSZ := Lib.hid hsz
  have HFIT : Hid (0 + (n64s la).length ≤ (i64s (List.replicate m 0)).length) := Lib.hid (by rw [i64s_length, n64s_length, List.length_replicate]; omega)
  clear h3 h3' hxa hxb hkk h0 hrow hsz hsp hm hk hlmin hone
  go_enter Tryz.func83, Tryz.ntmps83
  go_wp2_with ((with_reducible refine wpList_copy_splice (o := ⟨some 18, _, _, _, _, _⟩) rfl _ _ _ _ rfl 3 Tryz.underlying35 HSZ.out _ _ _ _ _ _ rfl rfl w.heap.size 0 (i64s (List.replicate m 0)) 3 HROW.out (n64s la) HLM.out (fun h => ⟨rfl, hsrc.out _ rfl h⟩) HFIT.out HONE.out w.heap.size w HBA.out (Nat.le_refl _) ?_); intro w1 hg1 hb1; have HB1 := Lib.hid hb1; clear hb1)
  have hg2 := hg1.out
  rw [HSP.out] at hg2
  have HG2 : Hid (OwnI w1 w.heap.size (la.map (fun d : Nat => (d : Int)) ++ List.replicate (m - la.length) 0)) := Lib.hid hg2
  obtain ⟨L0, hL0⟩ : ∃ L0 : List Int, L0 = la.map (fun d : Nat => (d : Int)) ++ List.replicate (m - la.length) 0 := ⟨_, rfl⟩
  have hL0l : L0.length = m := by rw [hL0]; simp; omega
  have hL0v : Mth.zval 10000 L0 = (Mth.val 10000 la : Int) := by rw [hL0, Mth.zval_append, Mth.zval_replicate_zero, Int.mul_zero, Int.add_zero]; exact Mth.zval_cast 10000 la
  have hL0b : ∀ j : Nat, 0 ≤ L0[j]?.getD 0 ∧ L0[j]?.getD 0 ≤ 9999 := by
    intro j
    have hall : ∀ x ∈ L0, 0 ≤ x ∧ x ≤ 9999 := by
      intro x hx
      rw [hL0] at hx
      rcases List.mem_append.1 hx with h | h
      · simp only [List.mem_map] at h
        obtain ⟨d, hd, rfl⟩ := h
        have := HXA.out d hd
        omega
      · have := List.eq_of_mem_replicate h
        omega
    by_cases hj : j < L0.length
    · rw [List.getElem?_eq_getElem hj]; exact hall _ (List.getElem_mem hj)
    · rw [List.getElem?_eq_none (by omega)]; simp
  rw [← hL0] at HG2
  have HL := Lib.hid hL0l
  have HV := Lib.hid hL0v
  have HBD := Lib.hid hL0b
  have HG := Lib.hid HG2.out
  clear hL0 hL0l hL0v hL0b hg1 hg2 HG2 hmk
  go_wp2
  go_loopw [21] (fun a21 wr => ∃ (i : Nat) (L : List Int), a21 = .int .i64 i ∧ i ≤ lb.length ∧ L.length = m ∧ OwnI wr w.heap.size L ∧ (∀ j : Nat, -9999 ≤ L[j]?.getD 0 ∧ L[j]?.getD 0 ≤ 19998) ∧ (∀ j : Nat, i ≤ j → 0 ≤ L[j]?.getD 0 ∧ L[j]?.getD 0 ≤ 9999) ∧
    Mth.zval 10000 L = (Mth.val 10000 la : Int) + k * (Mth.val 10000 (lb.take i) : Int) ∧ Below w.heap.size w wr) (fun a21 _ => lb.length - (intOf a21).toNat)
  case atStart => exact ⟨0, L0, rfl, by omega, HL.out, HG.out, fun j => by have := HBD.out j; omega, fun j _ => HBD.out j, by rw [HV.out]; simp [Mth.val], HB1.out⟩
  case round =>
    obtain ⟨i, L, rfl, hi, hl, hown, hbd, hbi, hv, hB⟩ := hrel
    have HL' := Lib.hid hl
    have HBD' := Lib.hid hbd
    have HBI' := Lib.hid hbi
    have HV' := Lib.hid hv
    have hBs := hB.size
    clear hbd hbi hv
    by_cases hlt : i < lb.length
    · have hlt2 : (i : Int) < (lb.length : Int) := by omega
      have him : (i : Int) < (m : Int) := by omega
      obtain ⟨b', o', rfl, hc'⟩ := H3'.out (by omega)
      have g2 := (Below.cell hB (World.block_lt_of_cell? w _ (hc' i _ (n64s_at hlt)))).trans (hc' i _ (n64s_at hlt))
      have b2 := HKK.out i
      have g0 := hown.cell (j := i) (by omega)
      have gf := hown.frozen i
      obtain ⟨b3, b4⟩ := HBI'.out i (Nat.le_refl _)
      obtain ⟨y, hy⟩ : ∃ y, lb[i]?.getD 0 = y := ⟨_, rfl⟩
      obtain ⟨z, hz⟩ : ∃ z, L[i]?.getD 0 = z := ⟨_, rfl⟩
      rw [hy] at g2 b2
      rw [hz] at g0 b3 b4
      obtain ⟨b5, b6⟩ := b2
      have HY := Lib.hid hy
      have HZ := Lib.hid hz
      have HLT := Lib.hid hlt
      clear hy hz hc' hlt hl
      go_wp2
      go_roundw
      case rel =>
        refine ⟨i + 1, L.set i (z + k * (y : Int)), by go_num, by omega, by simp [HL'.out], hown.set _ _, ?_, ?_, ?_, hB.setCell (p := ⟨w.heap.size, i, none⟩) (Nat.le_refl _) _⟩
        · intro j
          exact ⟨getD_set_ge (fun j => (HBD'.out j).1) (by omega) j, getD_set_le (fun j => (HBD'.out j).2) (by omega) j⟩
        · intro j hj
          rw [Mth.zget_set_other (by omega)]
          exact HBI'.out j (by omega)
        · have h := Mth.zadd_step 10000 L lb _ k i (by rw [HL'.out]; omega) HLT.out HV'.out
          rwa [HZ.out, HY.out] at h
      case measure => have := HLT.out; simp [intOf]; omega
    · obtain rfl : i = lb.length := by omega
      have hv := HV'.out
      rw [List.take_length] at hv
      have hc := carry_any w.heap.size w.heap.size m m L wr (ownI_row hown (Nat.le_refl _) hl (by unfold maxLen; omega)) hBs hl (by omega)
        (fun j _ => ⟨Int.le_trans (by omega) (HBD'.out j).1, Int.le_trans (HBD'.out j).2 (by omega)⟩) (by rw [hv]; exact H0.out)
      rw [hv] at hc
      have HC := Lib.hid hc
      clear hv hc hl
      go_wp2_with fail
      refine HC.out.mono ?_
      rintro e w' ⟨v', rfl, hB2, hN, hob⟩
      have HB2 := Lib.hid (hB.trans hB2)
      have HN := Lib.hid hN
      have HOB := Lib.hid hob
      clear hB2 hN hob
      go_wp2
      go_ret
      exact ⟨v', rfl, HB2.out, HN.out, HOB.out⟩
end Go.Proofs.YtlildanamfjnmaaGreatDoor
