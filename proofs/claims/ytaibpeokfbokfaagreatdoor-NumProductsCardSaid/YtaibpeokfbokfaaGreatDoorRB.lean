/-
  The reference's naturals: carry, natMul, natAdd.
-/
import Derived.Test.YtaibpeokfbokfaaGreatDoorRA
import Derived.Laws.CopyOwn
import Derived.Lib.MinMax
namespace Go.Proofs.YtaibpeokfbokfaaGreatDoor
open Go.RowKit

theorem i64s_drop_at {L : List Int} {i : Nat} (h : i < L.length) : (i64s (L.drop i))[0]? = some (.int .i64 (L[i]?.getD 0)) := by
  rw [List.drop_eq_getElem_cons h, List.getElem?_eq_getElem h]; rfl
theorem mix_at {O : List Nat} {L : List Int} {i : Nat} (hO : O.length = i) (h : i < L.length) : (n64s O ++ i64s (L.drop i))[i]? = some (.int .i64 (L[i]?.getD 0)) := by
  rw [List.getElem?_append_right (by rw [n64s_length]; omega), n64s_length, hO, Nat.sub_self]
  exact i64s_drop_at h
theorem mix_set {O : List Nat} {L : List Int} {i d : Nat} (hO : O.length = i) (h : i < L.length) : (n64s O ++ i64s (L.drop i)).set i (.int .i64 (d : Int)) = n64s (O ++ [d]) ++ i64s (L.drop (i + 1)) := by
  rw [List.set_append_right _ _ (by rw [n64s_length]; omega), n64s_length, hO, Nat.sub_self, List.drop_eq_getElem_cons h, n64s_append, List.append_assoc]
  rfl
theorem mix_len {O : List Nat} {L : List Int} {i : Nat} (hO : O.length = i) (h : i ≤ L.length) : (n64s O ++ i64s (L.drop i)).length = L.length := by
  rw [List.length_append, n64s_length, i64s_length, List.length_drop]; omega

/-- what carry makes of a row -/
def CarryPost (base : Nat) (w : World) (m : Nat) (e : Ending) (w' : World) : Prop := ∃ v, e = .returned v ∧ Below base w w' ∧ Pt w' v m ∧ ∀ k, v.ownBlock = some k → base ≤ k

set_option maxHeartbeats 2000000 in
set_option maxRecDepth 100000 in
theorem carry_any (base g n cap : Nat) (L : List Int) (w : World) (hown : w.ownsRow base 3 1 (.slice (some ⟨g, 0, none⟩) n cap) n (i64s L)) (hbase : base ≤ w.heap.size) (hL : L.length = n) (hn : n ≤ 1000000000000)
    (hb : ∀ i, i < n → -1000000000000000000 ≤ L[i]?.getD 0 ∧ L[i]?.getD 0 ≤ 1000000000000000000) (h0 : 0 ≤ Mth.zval 10000 L) :
    Calls Tryz.prog 90 #[.slice (some ⟨g, 0, none⟩) n cap] w (CarryPost base w (Mth.zval 10000 L).toNat) := by
  obtain ⟨i0, hi, hz0, hz1, hz2⟩ := info_parts info_int
  have hg := (hown.lt g rfl).1
  have HB0 := Lib.hid hb
  have HZ := Lib.hid h0
  have HLL := Lib.hid hL
  have HO0 := Lib.hid hown
  have hnc : n ≤ cap := by
    rcases hown.2 with ⟨h, -⟩ | ⟨g', cap', cur, h, -, -, h2, -⟩
    · cases h
    · injection h with _ _ h; omega
  clear hb h0 hL hown
  go_enter Tryz.func90, Tryz.ntmps90
  go_wp2
  go_loopw [3, 7] (fun a3 a7 wr => ∃ (i : Nat) (c : Int) (O : List Nat), a7 = .int .i64 i ∧ a3 = .int .i64 c ∧ i ≤ n ∧ -1000000000000000000 ≤ c ∧ c ≤ 1000000000000000000 ∧ O.length = i ∧ (∀ d ∈ O, d < 10000) ∧
    wr.ownsRow base 3 1 (.slice (some ⟨g, 0, none⟩) n cap) n (n64s O ++ i64s (L.drop i)) ∧ Mth.zval 10000 L = (Mth.val 10000 O : Int) + (10000 : Int) ^ i * (c + Mth.zval 10000 (L.drop i)) ∧ Below base w wr) (fun _ a7 _ => n - (intOf a7).toNat)
  case atStart => exact ⟨0, 0, [], rfl, rfl, by omega, by omega, by omega, rfl, by simp, by simpa [n64s] using HO0.out, by simp [Mth.val], Below.refl _ _⟩
  case round =>
    obtain ⟨i, c, O, rfl, rfl, hi2, hc1, hc2, hO, hd, hown, hv, hB⟩ := hrel
    have HO := Lib.hid hO
    have HD := Lib.hid hd
    have HV := Lib.hid hv
    have hBs := hB.size
    clear hO hd hv
    by_cases hlt : i < n
    · have hlt2 : (i : Int) < (n : Int) := by omega
      have g1 := (hown.cellAt i (by omega)).trans (mix_at HO.out (by rw [HLL.out]; exact hlt))
      have gf := hown.frozenAt i
      obtain ⟨b1, b2⟩ := HB0.out i hlt
      obtain ⟨x, hx⟩ : ∃ x, L[i]?.getD 0 = x := ⟨_, rfl⟩
      rw [hx] at g1 b1 b2
      have HX := Lib.hid hx
      have t1 := Int.lt_tmod_of_pos (c + x) (show (0 : Int) < 10000 by omega)
      have t2 := Int.tmod_lt_of_pos (c + x) (show (0 : Int) < 10000 by omega)
      have t3 := Int.tmod_add_mul_tdiv (c + x) 10000
      have t4 : -1000000000000000 ≤ (c + x).tdiv 10000 := by omega
      have t5 : (c + x).tdiv 10000 ≤ 1000000000000000 := by omega
      clear hx t3 hlt
      have HLT : Hid (i < n) := Lib.hid (by omega)
      by_cases ht : (c + x).tmod 10000 < 0
      · obtain ⟨m1, m2⟩ := Mth.tmod_mend (s := c + x) (show (0 : Int) < 10000 by omega) ht
        have HM1 := Lib.hid m1
        have HM2 := Lib.hid m2
        clear m1 m2
        go_wp2
        go_roundw
        case rel =>
          have e0 : ((((c + x) % 10000).toNat : Nat) : Int) = (c + x) % 10000 := by omega
          refine ⟨i + 1, (c + x) / 10000, O ++ [((c + x) % 10000).toNat], by go_num, by rw [← HM2.out], by omega, by omega, by omega, by simp [HO.out], ?_, ?_, ?_, ?_⟩
          · intro d hd
            rcases List.mem_append.1 hd with h | h
            · exact HD.out d h
            · simp at h; omega
          · have h1 := (hown.stored i (.int .i64 ((c + x).tmod 10000))).1
            have h2 := (h1.stored i (.int .i64 ((c + x).tmod 10000 + 10000))).1
            rw [List.set_set, HM1.out, ← e0, mix_set HO.out (by rw [HLL.out]; exact HLT.out)] at h2
            rw [HM1.out, ← e0]
            exact h2
          · refine Mth.carry_step 10000 _ c _ _ O L i HO.out (by rw [HLL.out]; exact HLT.out) HV.out ?_
            rw [HX.out, e0]; omega
          · exact (hB.setCell (p := ⟨g, i, none⟩) hg _).setCell (p := ⟨g, i, none⟩) hg _
        case measure => have := HLT.out; simp [intOf]; omega
      · obtain ⟨m1, m2⟩ := Mth.tmod_keep (s := c + x) (show (0 : Int) < 10000 by omega) (by omega)
        have HM1 := Lib.hid m1
        have HM2 := Lib.hid m2
        clear m1 m2
        go_wp2
        go_roundw
        case rel =>
          have e0 : ((((c + x) % 10000).toNat : Nat) : Int) = (c + x) % 10000 := by omega
          refine ⟨i + 1, (c + x) / 10000, O ++ [((c + x) % 10000).toNat], by go_num, by rw [← HM2.out], by omega, by omega, by omega, by simp [HO.out], ?_, ?_, ?_, ?_⟩
          · intro d hd
            rcases List.mem_append.1 hd with h | h
            · exact HD.out d h
            · simp at h; omega
          · have h1 := (hown.stored i (.int .i64 ((c + x).tmod 10000))).1
            rw [HM1.out, ← e0, mix_set HO.out (by rw [HLL.out]; exact HLT.out)] at h1
            rw [HM1.out, ← e0]
            exact h1
          · refine Mth.carry_step 10000 _ c _ _ O L i HO.out (by rw [HLL.out]; exact HLT.out) HV.out ?_
            rw [HX.out, e0]; omega
          · exact hB.setCell (p := ⟨g, i, none⟩) hg _
        case measure => have := HLT.out; simp [intOf]; omega
    · obtain rfl : i = n := by omega
      have hv := HV.out
      rw [List.drop_of_length_le (by rw [HLL.out]; omega), Mth.zval, Int.add_zero] at hv
      have hc0 := Mth.carry_end (b := 10000) (by omega) O _ c (by rw [HO.out]; exact hv) HZ.out HD.out
      obtain ⟨C, rfl⟩ : ∃ C : Nat, c = C := ⟨c.toNat, by omega⟩
      rw [← HO.out] at hv
      have HN := Lib.hid (Mth.carry_nat O _ C hv)
      have hown' : wr.ownsRow base 3 1 (.slice (some ⟨g, 0, none⟩) i cap) O.length (n64s O) := by
        have := hown
        rw [List.drop_of_length_le (by rw [HLL.out]; omega)] at this
        rw [HO.out]
        simpa [i64s] using this
      have HOWN := Lib.hid hown'
      have HBR := Lib.hid hB
      have hOn : O.length ≤ 1000000000000 := by rw [HO.out]; omega
      clear hv hown hown' hB hlt hi2
      go_wp2
      obtain ⟨wo, rfl⟩ : ∃ wo : World, wo = wr := ⟨_, rfl⟩
      go_loopw [0, 3] (fun a0 a3 wi => ∃ (E : Nat) (D : List Nat), a3 = .int .i64 E ∧ E ≤ C ∧ wi.ownsRow base 3 1 a0 D.length (n64s D) ∧ O ++ Mth.dg 10000 C = D ++ Mth.dg 10000 E ∧ Below base w wi) (fun _ a3 _ => (intOf a3).toNat)
      case atStart => exact ⟨C, O, rfl, Nat.le_refl _, HOWN.out, rfl, HBR.out⟩
      case round =>
        obtain ⟨E, D, rfl, hE, hown, hdd, hB⟩ := hrel
        have HDD := Lib.hid hdd
        have hBs2 := hB.size
        have hdl : D.length ≤ O.length + 5 := by
          have h1 := Mth.dg_len_le (b := 10000) (by omega) 5 C (by omega)
          have h2 := congrArg List.length hdd
          simp at h2
          omega
        clear hdd
        by_cases h0 : 0 < E
        · go_wp2_with (at_builtin; go_must (refine wpList_append_own _ rfl _ _ 31 rfl base 3 i0 (.int .i64 0) 1 8 Tryz.underlying31 hi hz0 hz1 hz2 rfl (by decide) _ _ _ rfl (hown.alloc _) ⟨wr.heap.size, 0, none⟩ 1 1 [.int .i64 ((E : Int) % 10000)] rfl rfl (cell_one_new _ _ _) (by simp [Value.oneCell']) (by unfold maxLen; omega) (by omega) (by simp; omega) ?_); intro v' w1 hown' hgrow _)
          go_roundw
          case rel =>
            have hd := HDD.out
            rw [Mth.dg_pos (b := 10000) (n := E) (by omega) h0] at hd
            refine ⟨E / 10000, D ++ [E % 10000], by go_num, by omega, ?_, by rw [hd]; simp, (hB.alloc (by omega) _).grown hgrow (by simp; omega) (fun k hk => (hown.lt k hk).1)⟩
            rw [n64s_append, List.length_append]
            exact hown'
          case measure => simp [intOf]; omega
        · obtain rfl : E = 0 := by omega
          have hsl := Sl.of_own hown
          have HLTB := Lib.hid hown.lt
          go_wp2_with (go_at_call 81; refine (tidy_own D _ _ hsl (by omega)).mono ?_; rintro e w' ⟨v', rfl, hS, hob, rfl⟩)
          go_ret
          refine ⟨v', rfl, hB, ?_, fun k hk => (HLTB.out k (by rw [← hob]; exact hk)).1⟩
          unfold Pt
          have hd := HDD.out
          rw [Mth.dg_zero, List.append_nil] at hd
          rw [HN.out, ← Mth.carry_dg (by omega) O D C HD.out hd.symm]
          exact hS
end Go.Proofs.YtaibpeokfbokfaaGreatDoor

namespace Go.Proofs.YtaibpeokfbokfaaGreatDoor
open Go.RowKit

theorem ownI_row {w : World} {base g n : Nat} {L : List Int} (h : OwnI w g L) (hg : base ≤ g) (hl : L.length = n) (hm : n ≤ maxLen) : w.ownsRow base 3 1 (.slice (some ⟨g, 0, none⟩) n n) n (i64s L) := by
  refine ⟨by rw [i64s_length, hl]; omega, Or.inr ⟨g, n, (i64s L).toArray, rfl, hg, h, Nat.le_refl _, hm, by simp [i64s_length, hl], ?_⟩⟩
  rw [List.take_of_length_le]
  simp [i64s_length, hl]

theorem getD_set_le {L : List Int} {p : Nat} {d B : Int} (h : ∀ j : Nat, L[j]?.getD 0 ≤ B) (hd : d ≤ B) : ∀ j : Nat, (L.set p d)[j]?.getD 0 ≤ B := by
  intro j
  by_cases e : j = p
  · subst e
    by_cases hl : j < L.length
    · rw [Mth.zget_set_same hl]; exact hd
    · rw [List.set_eq_of_length_le (by omega)]; exact h j
  · rw [Mth.zget_set_other e]; exact h j
theorem getD_set_ge {L : List Int} {p : Nat} {d B : Int} (h : ∀ j : Nat, B ≤ L[j]?.getD 0) (hd : B ≤ d) : ∀ j : Nat, B ≤ (L.set p d)[j]?.getD 0 := by
  intro j
  by_cases e : j = p
  · subst e
    by_cases hl : j < L.length
    · rw [Mth.zget_set_same hl]; exact hd
    · rw [List.set_eq_of_length_le (by omega)]; exact h j
  · rw [Mth.zget_set_other e]; exact h j

set_option maxHeartbeats 2000000 in
set_option maxRecDepth 100000 in
theorem rmul_list (la lb : List Nat) (hxa : ∀ d ∈ la, d < 10000) (hxb : ∀ d ∈ lb, d < 10000) (va vb : Value) (w : World) (ha : Sl w va (n64s la)) (hb : Sl w vb (n64s lb)) (_hs : la.length ≤ 1000000000) (_ht : lb.length ≤ 1000000000) :
    Calls Tryz.prog 50 #[va, vb] w (CarryPost w.heap.size w (Mth.val 10000 la * Mth.val 10000 lb)) := by
  obtain ⟨A, c, rfl, h1, h2, h3⟩ := ha
  obtain ⟨A', c', rfl, h1', h2', h3'⟩ := hb
  simp only [n64s_length] at *
  have H3 := Lib.hid h3
  have H3' := Lib.hid h3'
  have HXA := Lib.hid hxa
  have HXB := Lib.hid hxb
  clear h3 h3' hxa hxb
  have hmk := run_make_row' (P := Tryz.prog) 31 3 (.int .i64 0) 8 Tryz.underlying31 info_int rfl .i64 .i64 (la.length + lb.length) (by omega) (by omega)
  rw [show (((la.length + lb.length : Nat)) : Int) = (la.length : Int) + (lb.length : Int) by omega] at hmk
  go_enter Tryz.func50, Tryz.ntmps50
  go_wp2
  clear hmk
  go_loopw [18] (fun a18 wr => ∃ (i : Nat) (L : List Int), a18 = .int .i64 i ∧ i ≤ la.length ∧ L.length = la.length + lb.length ∧ OwnI wr w.heap.size L ∧ (∀ j : Nat, 0 ≤ L[j]?.getD 0) ∧ (∀ j : Nat, L[j]?.getD 0 ≤ 100000000 * (i : Int)) ∧
    Mth.zval 10000 L = (Mth.val 10000 (la.take i) * Mth.val 10000 lb : Nat) ∧ Below w.heap.size w wr) (fun a18 _ => la.length - (intOf a18).toNat)
  case atStart => exact ⟨0, List.replicate (la.length + lb.length) 0, rfl, by omega, by simp, OwnI.made w _, by intro j; simp [List.getElem?_replicate]; split <;> simp, by intro j; simp [List.getElem?_replicate]; split <;> simp, by rw [Mth.zval_replicate_zero]; simp [Mth.val], (Below.refl _ _).alloc (Nat.le_refl _) _⟩
  case round =>
    obtain ⟨i, L, rfl, hi, hl, hown, hp, hm, hv, hB⟩ := hrel
    have HP := Lib.hid hp
    have HM := Lib.hid hm
    have HV := Lib.hid hv
    have HL := Lib.hid hl
    have HO := Lib.hid hown
    have hBs := hB.size
    clear hp hm hv
    by_cases hlt2 : i < la.length
    · have hi2 : (i : Int) < (la.length : Int) := by omega
      obtain ⟨b, o, rfl, hc⟩ := H3.out (by omega)
      have g1 := (Below.cell hB (World.block_lt_of_cell? w _ (hc i _ (n64s_at hlt2)))).trans (hc i _ (n64s_at hlt2))
      have b1 := Mth.getD_lt (by omega) HXA.out i
      obtain ⟨x, hx⟩ : ∃ x, la[i]?.getD 0 = x := ⟨_, rfl⟩
      rw [hx] at g1 b1
      have HX := Lib.hid hx
      have HL2 := Lib.hid hlt2
      clear hx hc hlt2 hl hown
      go_wp2
      obtain ⟨wo, rfl⟩ : ∃ wo : World, wo = wr := ⟨_, rfl⟩
      go_loopw [25] (fun a25 wi => ∃ (k : Nat) (M : List Int), a25 = .int .i64 k ∧ k ≤ lb.length ∧ M.length = la.length + lb.length ∧ OwnI wi w.heap.size M ∧ (∀ j : Nat, 0 ≤ M[j]?.getD 0) ∧ (∀ j : Nat, M[j]?.getD 0 ≤ 100000000 * (i : Int) + 100000000) ∧
        (∀ j : Nat, i + k ≤ j → M[j]?.getD 0 ≤ 100000000 * (i : Int)) ∧ Mth.zval 10000 M = Mth.zval 10000 L + (10000 : Int) ^ i * ((x : Int) * (Mth.val 10000 (lb.take k) : Int)) ∧ Below w.heap.size w wi) (fun a25 _ => lb.length - (intOf a25).toNat)
      case atStart => exact ⟨0, L, rfl, by omega, HL.out, HO.out, HP.out, fun j => Int.le_trans (HM.out j) (by omega), fun j _ => HM.out j, by simp [Mth.val], hB⟩
      case round =>
        obtain ⟨k, M, rfl, hk, hl, hown, hp, hm, hz, hv, hB'⟩ := hrel
        have HP' := Lib.hid hp
        have HM' := Lib.hid hm
        have HZ' := Lib.hid hz
        have HV' := Lib.hid hv
        have HL' := Lib.hid hl
        have hBs' := hB'.size
        clear hp hm hz hv
        by_cases hlt3 : k < lb.length
        · have hk2 : (k : Int) < (lb.length : Int) := by omega
          obtain ⟨b', o', rfl, hc'⟩ := H3'.out (by omega)
          have g2 := (Below.cell hB' (World.block_lt_of_cell? w _ (hc' k _ (n64s_at hlt3)))).trans (hc' k _ (n64s_at hlt3))
          have b2 := Mth.getD_lt (by omega) HXB.out k
          have g0 := hown.cell (j := i + k) (by have := HL2.out; omega)
          have gf := hown.frozen (i + k)
          have b3 := HP'.out (i + k)
          have b4 := HZ'.out (i + k) (Nat.le_refl _)
          obtain ⟨y, hy⟩ : ∃ y, lb[k]?.getD 0 = y := ⟨_, rfl⟩
          obtain ⟨z, hz⟩ : ∃ z, M[i + k]?.getD 0 = z := ⟨_, rfl⟩
          rw [hy] at g2 b2
          rw [hz] at g0 b3 b4
          have HY := Lib.hid hy
          have HZ0 := Lib.hid hz
          have HL3 := Lib.hid hlt3
          have hp0 : 0 ≤ (x : Int) * (y : Int) := Int.mul_nonneg (by omega) (by omega)
          have hp1 : (x : Int) * (y : Int) ≤ 99980001 := by
            have h : x * y ≤ 9999 * 9999 := Nat.mul_le_mul (by omega) (by omega)
            rw [← Int.natCast_mul]; omega
          have hz9 : z ≤ 100000000000000000 := by have := HL2.out; omega
          clear hy hz hc' hlt3 hl
          go_wp2
          go_roundw
          case rel =>
            refine ⟨k + 1, M.set (i + k) (z + (x : Int) * (y : Int)), by go_num, by omega, by simp [HL'.out], hown.set _ _, getD_set_ge HP'.out (by omega), getD_set_le HM'.out (by omega), ?_, ?_, hB'.setCell (p := ⟨w.heap.size, i + k, none⟩) (Nat.le_refl _) _⟩
            · intro j hj
              rw [Mth.zget_set_other (by have := HL3.out; omega)]
              exact HZ'.out j (by omega)
            · have h := Mth.zmul_step 10000 M lb _ x i k (by have := HL2.out; have := HL3.out; have := HL'.out; omega) HL3.out HV'.out
              rwa [HZ0.out, HY.out] at h
          case measure => simp [intOf]; omega
        · obtain rfl : k = lb.length := by omega
          clear hl
          go_wp2
          go_roundw
          case rel =>
            refine ⟨i + 1, M, by go_num, by have := HL2.out; omega, HL'.out, hown, HP'.out, fun j => Int.le_trans (HM'.out j) (by omega), ?_, hB'⟩
            have h7 := HV'.out
            rw [List.take_length, HV.out] at h7
            rw [← HX.out] at h7
            exact Mth.zmul_round 10000 la lb M i HL2.out h7
          case measure => have := HL2.out; simp [intOf]; omega
    · obtain rfl : i = la.length := by omega
      have hv := HV.out
      rw [List.take_length] at hv
      have hc := carry_any w.heap.size w.heap.size (la.length + lb.length) (la.length + lb.length) L wr (ownI_row hown (Nat.le_refl _) hl (by unfold maxLen; omega)) hBs hl (by omega)
        (fun j _ => ⟨Int.le_trans (by omega) (HP.out j), Int.le_trans (HM.out j) (by omega)⟩) (by rw [hv]; omega)
      rw [hv, Int.toNat_natCast] at hc
      have HC := Lib.hid hc
      clear hv hc hl
      go_wp2_with fail
      refine HC.out.mono ?_
      rintro e w' ⟨v', rfl, hB2, hN, hob⟩
      have HB2 := Lib.hid (hB.trans hB2)
      have HN := Lib.hid hN
      have HOB := Lib.hid hob
      clear hB2 hN hob
      go_wp2
      go_ret
      exact ⟨v', rfl, HB2.out, HN.out, HOB.out⟩

theorem rmul_any (m n : Nat) (va vb : Value) (w : World) (ha : Pt w va m) (hb : Pt w vb n) (hs : (Mth.dg 10000 m).length ≤ 1000000000) (ht : (Mth.dg 10000 n).length ≤ 1000000000) :
    Calls Tryz.prog 50 #[va, vb] w (CarryPost w.heap.size w (m * n)) := by
  have h := rmul_list (Mth.dg 10000 m) (Mth.dg 10000 n) (Mth.dg_lt (by omega) m) (Mth.dg_lt (by omega) n) va vb w ha hb hs ht
  rwa [Mth.val_dg (by omega), Mth.val_dg (by omega)] at h
end Go.Proofs.YtaibpeokfbokfaaGreatDoor

namespace Go.Proofs.YtaibpeokfbokfaaGreatDoor
open Go.RowKit

theorem splice_copy (la : List Nat) (n : Nat) (_h : la.length ≤ n) : splice (i64s (List.replicate n 0)) 0 (n64s la) = i64s (la.map (fun d : Nat => (d : Int)) ++ List.replicate (n - la.length) 0) := by
  rw [splice, List.take_zero, List.nil_append, Nat.zero_add, i64s_append, n64s_length]
  congr 1
  · simp [n64s, i64s]
  · simp [i64s]

set_option maxHeartbeats 2000000 in
set_option maxRecDepth 100000 in
theorem radd_list (la lb : List Nat) (k : Int) (hk : k = 1 ∨ k = -1) (hxa : ∀ d ∈ la, d < 10000) (hxb : ∀ d ∈ lb, d < 10000) (va vb : Value) (w : World) (ha : Sl w va (n64s la)) (hb : Sl w vb (n64s lb)) (_hs : la.length ≤ 1000000000) (_ht : lb.length ≤ 1000000000)
    (h0 : 0 ≤ (Mth.val 10000 la : Int) + k * (Mth.val 10000 lb : Int)) :
    Calls Tryz.prog 59 #[va, vb, .int .i64 k] w (CarryPost w.heap.size w ((Mth.val 10000 la : Int) + k * (Mth.val 10000 lb : Int)).toNat) := by
  obtain ⟨A, c, rfl, h1, h2, h3⟩ := ha
  obtain ⟨A', c', rfl, h1', h2', h3'⟩ := hb
  simp only [n64s_length] at *
  obtain ⟨m, hm⟩ : ∃ m, max la.length lb.length = m := ⟨_, rfl⟩
  have hm1 : la.length ≤ m := by omega
  have hm2 : lb.length ≤ m := by omega
  have hmx : max (la.length : Int) (lb.length : Int) = (m : Int) := by omega
  have hm3 : m ≤ 1000000000 := by omega
  have hkk : ∀ j : Nat, -9999 ≤ k * ((lb[j]?.getD 0 : Nat) : Int) ∧ k * ((lb[j]?.getD 0 : Nat) : Int) ≤ 9999 := by
    intro j
    have := Mth.getD_lt (by omega) hxb j
    rcases hk with rfl | rfl <;> omega
  have hk1 : -1 ≤ k := by omega
  have hk2 : k ≤ 1 := by omega
  have H3 := Lib.hid h3
  have H3' := Lib.hid h3'
  have HXA := Lib.hid hxa
  have HXB := Lib.hid hxb
  have HKK := Lib.hid hkk
  have H0 := Lib.hid h0
  have hmk := run_make_row' (P := Tryz.prog) 31 3 (.int .i64 0) 8 Tryz.underlying31 info_int rfl .i64 .i64 m (by omega) (by omega)
  have hrow : (w.alloc (.cells (madeCells #[.int .i64 0] m) 3)).heap[w.heap.size]? = some (.cells (i64s (List.replicate m 0)).toArray 3 (0, 0)) := OwnI.made w m
  have hsrc : Hid (∀ (A0 : Option Addr), A0 = A → 0 < (n64s la).length → ∃ ad, A0 = some ad ∧ ∀ j v, (n64s la)[j]? = some v → (w.alloc (.cells (madeCells #[.int .i64 0] m) 3)).cell? (ad.add j) = some v) := Lib.hid fun A0 e hl => by
    obtain ⟨b, o, e2, hc⟩ := h3 (by rw [n64s_length] at hl; exact hl)
    refine ⟨⟨b, o, none⟩, by rw [e, e2], fun j v hj => ?_⟩
    rw [Addr.add_lit]
    have h := hc j v hj
    exact (World.cell?_alloc_lt w _ _ (World.block_lt_of_cell? w _ h)).trans h
  have HROW := Lib.hid hrow
  have HMX := Lib.hid hmx
  have hsz : (Tryz.prog.info? 3).map (·.size) = some 1 := by kernel_rfl
  have HBA := Lib.hid ((Below.refl _ w).alloc (Nat.le_refl _) (.cells (madeCells #[.int .i64 0] m) 3))
  have hsp : (splice (i64s (List.replicate m 0)) 0 (n64s la)) = _ := splice_copy la m hm1
  have HSP := Lib.hid hsp
  have hlmin : (n64s la).length = Nat.min la.length m := by rw [n64s_length]; simp only [Nat.min_def]; split <;> omega
  have HLM := Lib.hid hlmin
  have hone : ∀ v ∈ n64s la, v.oneCell' = true := by
    intro v hv
    simp only [n64s, List.mem_map] at hv
    obtain ⟨d, -, rfl⟩ := hv
    rfl
  have HONE := Lib.hid hone
  have HSZ := Lib.hid hsz
  have HFIT : Hid (0 + (n64s la).length ≤ (i64s (List.replicate m 0)).length) := Lib.hid (by rw [i64s_length, n64s_length, List.length_replicate]; omega)
  clear h3 h3' hxa hxb hkk h0 hrow hsz hsp hm hk hlmin hone
  go_enter Tryz.func59, Tryz.ntmps59
  go_wp2_with ((with_reducible refine wpList_copy_splice (o := ⟨some 18, _, _, _, _, _⟩) rfl _ _ _ _ rfl 3 Tryz.underlying31 HSZ.out _ _ _ _ _ _ rfl rfl w.heap.size 0 (i64s (List.replicate m 0)) 3 HROW.out (n64s la) HLM.out (fun h => ⟨rfl, hsrc.out _ rfl h⟩) HFIT.out HONE.out w.heap.size w HBA.out (Nat.le_refl _) ?_); intro w1 hg1 hb1; have HB1 := Lib.hid hb1; clear hb1)
  have hg2 := hg1.out
  rw [HSP.out] at hg2
  have HG2 : Hid (OwnI w1 w.heap.size (la.map (fun d : Nat => (d : Int)) ++ List.replicate (m - la.length) 0)) := Lib.hid hg2
  obtain ⟨L0, hL0⟩ : ∃ L0 : List Int, L0 = la.map (fun d : Nat => (d : Int)) ++ List.replicate (m - la.length) 0 := ⟨_, rfl⟩
  have hL0l : L0.length = m := by rw [hL0]; simp; omega
  have hL0v : Mth.zval 10000 L0 = (Mth.val 10000 la : Int) := by rw [hL0, Mth.zval_append, Mth.zval_replicate_zero, Int.mul_zero, Int.add_zero]; exact Mth.zval_cast 10000 la
  have hL0b : ∀ j : Nat, 0 ≤ L0[j]?.getD 0 ∧ L0[j]?.getD 0 ≤ 9999 := by
    intro j
    have hall : ∀ x ∈ L0, 0 ≤ x ∧ x ≤ 9999 := by
      intro x hx
      rw [hL0] at hx
      rcases List.mem_append.1 hx with h | h
      · simp only [List.mem_map] at h
        obtain ⟨d, hd, rfl⟩ := h
        have := HXA.out d hd
        omega
      · have := List.eq_of_mem_replicate h
        omega
    by_cases hj : j < L0.length
    · rw [List.getElem?_eq_getElem hj]; exact hall _ (List.getElem_mem hj)
    · rw [List.getElem?_eq_none (by omega)]; simp
  rw [← hL0] at HG2
  have HL := Lib.hid hL0l
  have HV := Lib.hid hL0v
  have HBD := Lib.hid hL0b
  have HG := Lib.hid HG2.out
  clear hL0 hL0l hL0v hL0b hg1 hg2 HG2 hmk
  go_wp2
  go_loopw [21] (fun a21 wr => ∃ (i : Nat) (L : List Int), a21 = .int .i64 i ∧ i ≤ lb.length ∧ L.length = m ∧ OwnI wr w.heap.size L ∧ (∀ j : Nat, -9999 ≤ L[j]?.getD 0 ∧ L[j]?.getD 0 ≤ 19998) ∧ (∀ j : Nat, i ≤ j → 0 ≤ L[j]?.getD 0 ∧ L[j]?.getD 0 ≤ 9999) ∧
    Mth.zval 10000 L = (Mth.val 10000 la : Int) + k * (Mth.val 10000 (lb.take i) : Int) ∧ Below w.heap.size w wr) (fun a21 _ => lb.length - (intOf a21).toNat)
  case atStart => exact ⟨0, L0, rfl, by omega, HL.out, HG.out, fun j => by have := HBD.out j; omega, fun j _ => HBD.out j, by rw [HV.out]; simp [Mth.val], HB1.out⟩
  case round =>
    obtain ⟨i, L, rfl, hi, hl, hown, hbd, hbi, hv, hB⟩ := hrel
    have HL' := Lib.hid hl
    have HBD' := Lib.hid hbd
    have HBI' := Lib.hid hbi
    have HV' := Lib.hid hv
    have hBs := hB.size
    clear hbd hbi hv
    by_cases hlt : i < lb.length
    · have hlt2 : (i : Int) < (lb.length : Int) := by omega
      have him : (i : Int) < (m : Int) := by omega
      obtain ⟨b', o', rfl, hc'⟩ := H3'.out (by omega)
      have g2 := (Below.cell hB (World.block_lt_of_cell? w _ (hc' i _ (n64s_at hlt)))).trans (hc' i _ (n64s_at hlt))
      have b2 := HKK.out i
      have g0 := hown.cell (j := i) (by omega)
      have gf := hown.frozen i
      obtain ⟨b3, b4⟩ := HBI'.out i (Nat.le_refl _)
      obtain ⟨y, hy⟩ : ∃ y, lb[i]?.getD 0 = y := ⟨_, rfl⟩
      obtain ⟨z, hz⟩ : ∃ z, L[i]?.getD 0 = z := ⟨_, rfl⟩
      rw [hy] at g2 b2
      rw [hz] at g0 b3 b4
      obtain ⟨b5, b6⟩ := b2
      have HY := Lib.hid hy
      have HZ := Lib.hid hz
      have HLT := Lib.hid hlt
      clear hy hz hc' hlt hl
      go_wp2
      go_roundw
      case rel =>
        refine ⟨i + 1, L.set i (z + k * (y : Int)), by go_num, by omega, by simp [HL'.out], hown.set _ _, ?_, ?_, ?_, hB.setCell (p := ⟨w.heap.size, i, none⟩) (Nat.le_refl _) _⟩
        · intro j
          exact ⟨getD_set_ge (fun j => (HBD'.out j).1) (by omega) j, getD_set_le (fun j => (HBD'.out j).2) (by omega) j⟩
        · intro j hj
          rw [Mth.zget_set_other (by omega)]
          exact HBI'.out j (by omega)
        · have h := Mth.zadd_step 10000 L lb _ k i (by rw [HL'.out]; omega) HLT.out HV'.out
          rwa [HZ.out, HY.out] at h
      case measure => have := HLT.out; simp [intOf]; omega
    · obtain rfl : i = lb.length := by omega
      have hv := HV'.out
      rw [List.take_length] at hv
      have hc := carry_any w.heap.size w.heap.size m m L wr (ownI_row hown (Nat.le_refl _) hl (by unfold maxLen; omega)) hBs hl (by omega)
        (fun j _ => ⟨Int.le_trans (by omega) (HBD'.out j).1, Int.le_trans (HBD'.out j).2 (by omega)⟩) (by rw [hv]; exact H0.out)
      rw [hv] at hc
      have HC := Lib.hid hc
      clear hv hc hl
      go_wp2_with fail
      refine HC.out.mono ?_
      rintro e w' ⟨v', rfl, hB2, hN, hob⟩
      have HB2 := Lib.hid (hB.trans hB2)
      have HN := Lib.hid hN
      have HOB := Lib.hid hob
      clear hB2 hN hob
      go_wp2
      go_ret
      exact ⟨v', rfl, HB2.out, HN.out, HOB.out⟩
end Go.Proofs.YtaibpeokfbokfaaGreatDoor
