/-
  (nat).carry of the reference: all parts below 10^4, the number kept.
-/
import Derived.Test.YtlildanamfjnmaaGreatDoorRMath
import Derived.Test.YtlildanamfjnmaaGreatDoorRTidy
namespace Go.Proofs.YtlildanamfjnmaaGreatDoor
open Go.RowKit

theorem i64s_drop_at {L : List Int} {i : Nat} (h : i < L.length) : (i64s (L.drop i))[0]? = some (.int .i64 (L[i]?.getD 0)) := by
  rw [List.drop_eq_getElem_cons h, List.getElem?_eq_getElem h]; rfl
theorem mix_at {O : List Nat} {L : List Int} {i : Nat} (hO : O.length = i) (h : i < L.length) : (n64s O ++ i64s (L.drop i))[i]? = some (.int .i64 (L[i]?.getD 0)) := by
  rw [List.getElem?_append_right (by rw [n64s_length]; omega), n64s_length, hO, Nat.sub_self]
  exact i64s_drop_at h
theorem mix_set {O : List Nat} {L : List Int} {i d : Nat} (hO : O.length = i) (h : i < L.length) : (n64s O ++ i64s (L.drop i)).set i (.int .i64 (d : Int)) = n64s (O ++ [d]) ++ i64s (L.drop (i + 1)) := by
  rw [List.set_append_right _ _ (by rw [n64s_length]; omega), n64s_length, hO, Nat.sub_self, List.drop_eq_getElem_cons h, n64s_append, List.append_assoc]
  rfl
theorem mix_len {O : List Nat} {L : List Int} {i : Nat} (hO : O.length = i) (h : i ≤ L.length) : (n64s O ++ i64s (L.drop i)).length = L.length := by
  rw [List.length_append, n64s_length, i64s_length, List.length_drop]; omega

/-- what carry makes of a row -/
def CarryPost (base : Nat) (w : World) (m : Nat) (e : Ending) (w' : World) : Prop := ∃ v, e = .returned v ∧ Below base w w' ∧ Pt w' v m ∧ ∀ k, v.ownBlock = some k → base ≤ k

set_option maxHeartbeats 2000000 in
set_option maxRecDepth 100000 in
theorem carry_any (base g n cap : Nat) (L : List Int) (w : World) (hown : w.ownsRow base 3 1 (.slice (some ⟨g, 0, none⟩) n cap) n (i64s L)) (hbase : base ≤ w.heap.size) (hL : L.length = n) (hn : n ≤ 1000000000000)
    (hb : ∀ i, i < n → -1000000000000000000 ≤ L[i]?.getD 0 ∧ L[i]?.getD 0 ≤ 1000000000000000000) (h0 : 0 ≤ Mth.zval 10000 L) :
    Calls Tryz.prog 117 #[.slice (some ⟨g, 0, none⟩) n cap] w (CarryPost base w (Mth.zval 10000 L).toNat) := by
  obtain ⟨i0, hi, hz0, hz1, hz2⟩ := info_parts info_int
  have hg := (hown.lt g rfl).1
  have HB0 := Lib.hid hb
  have HZ := Lib.hid h0
  have HLL := Lib.hid hL
  have HO0 := Lib.hid hown
  have hnc : n ≤ cap := by
    rcases hown.2 with ⟨h, -⟩ | ⟨g', cap', cur, h, -, -, h2, -⟩
    · cases h
    · injection h with _ _ h; omega
  clear hb h0 hL hown
  go_enter Tryz.func117, Tryz.ntmps117
  go_wp2
  go_loopw [3, 7] (fun a3 a7 wr => ∃ (i : Nat) (c : Int) (O : List Nat), a7 = .int .i64 i ∧ a3 = .int .i64 c ∧ i ≤ n ∧ -1000000000000000000 ≤ c ∧ c ≤ 1000000000000000000 ∧ O.length = i ∧ (∀ d ∈ O, d < 10000) ∧
    wr.ownsRow base 3 1 (.slice (some ⟨g, 0, none⟩) n cap) n (n64s O ++ i64s (L.drop i)) ∧ Mth.zval 10000 L = (Mth.val 10000 O : Int) + (10000 : Int) ^ i * (c + Mth.zval 10000 (L.drop i)) ∧ Below base w wr) (fun _ a7 _ => n - (intOf a7).toNat)
  case atStart => exact ⟨0, 0, [], rfl, rfl, by omega, by omega, by omega, rfl, by simp, by simpa [n64s] using HO0.out, by simp [Mth.val], Below.refl _ _⟩
  case round =>
    obtain ⟨i, c, O, rfl, rfl, hi2, hc1, hc2, hO, hd, hown, hv, hB⟩ := hrel
    have HO := Lib.hid hO
    have HD := Lib.hid hd
    have HV := Lib.hid hv
    have hBs := hB.size
    clear hO hd hv
    by_cases hlt : i < n
    · have hlt2 : (i : Int) < (n : Int) := by omega
      have g1 := (hown.cellAt i (by omega)).trans (mix_at HO.out (by rw [HLL.out]; exact hlt))
      have gf := hown.frozenAt i
      obtain ⟨b1, b2⟩ := HB0.out i hlt
      obtain ⟨x, hx⟩ : ∃ x, L[i]?.getD 0 = x := ⟨_, rfl⟩
      rw [hx] at g1 b1 b2
      have HX := Lib.hid hx
      have t1 := Int.lt_tmod_of_pos (c + x) (show (0 : Int) < 10000 by omega)
      have t2 := Int.tmod_lt_of_pos (c + x) (show (0 : Int) < 10000 by omega)
      have t3 := Int.tmod_add_mul_tdiv (c + x) 10000
      have t4 : -1000000000000000 ≤ (c + x).tdiv 10000 := by omega
      have t5 : (c + x).tdiv 10000 ≤ 1000000000000000 := by omega
      clear hx t3 hlt
      have HLT : Hid (i < n) := Lib.hid (by omega)
      by_cases ht : (c + x).tmod 10000 < 0
      · obtain ⟨m1, m2⟩ := Mth.tmod_mend (s := c + x) (show (0 : Int) < 10000 by omega) ht
        have HM1 := Lib.hid m1
        have HM2 := Lib.hid m2
        clear m1 m2
        go_wp2
        go_roundw
        case rel =>
          have e0 : ((((c + x) % 10000).toNat : Nat) : Int) = (c + x) % 10000 := by omega
          refine ⟨i + 1, (c + x) / 10000, O ++ [((c + x) % 10000).toNat], by go_num, by rw [← HM2.out], by omega, by omega, by omega, by simp [HO.out], ?_, ?_, ?_, ?_⟩
          · intro d hd
            rcases List.mem_append.1 hd with h | h
            · exact HD.out d h
            · simp at h; omega
          · have h1 := (hown.stored i (.int .i64 ((c + x).tmod 10000))).1
            have h2 := (h1.stored i (.int .i64 ((c + x).tmod 10000 + 10000))).1
            rw [List.set_set, HM1.out, ← e0, mix_set HO.out (by rw [HLL.out]; exact HLT.out)] at h2
            rw [HM1.out, ← e0]
            exact h2
          · refine Mth.carry_step 10000 _ c _ _ O L i HO.out (by rw [HLL.out]; exact HLT.out) HV.out ?_
            rw [HX.out, e0]; omega
          · exact (hB.setCell (p := ⟨g, i, none⟩) hg _).setCell (p := ⟨g, i, none⟩) hg _
        case measure => have := HLT.out; simp [intOf]; omega
      · obtain ⟨m1, m2⟩ := Mth.tmod_keep (s := c + x) (show (0 : Int) < 10000 by omega) (by omega)
        have HM1 := Lib.hid m1
        have HM2 := Lib.hid m2
        clear m1 m2
        go_wp2
        go_roundw
        case rel =>
          have e0 : ((((c + x) % 10000).toNat : Nat) : Int) = (c + x) % 10000 := by omega
          refine ⟨i + 1, (c + x) / 10000, O ++ [((c + x) % 10000).toNat], by go_num, by rw [← HM2.out], by omega, by omega, by omega, by simp [HO.out], ?_, ?_, ?_, ?_⟩
          · intro d hd
            rcases List.mem_append.1 hd with h | h
            · exact HD.out d h
            · simp at h; omega
          · have h1 := (hown.stored i (.int .i64 ((c + x).tmod 10000))).1
            rw [HM1.out, ← e0, mix_set HO.out (by rw [HLL.out]; exact HLT.out)] at h1
            rw [HM1.out, ← e0]
            exact h1
          · refine Mth.carry_step 10000 _ c _ _ O L i HO.out (by rw [HLL.out]; exact HLT.out) HV.out ?_
            rw [HX.out, e0]; omega
          · exact hB.setCell (p := ⟨g, i, none⟩) hg _
        case measure => have := HLT.out; simp [intOf]; omega
    · obtain rfl : i = n := by omega
      have hv := HV.out
      rw [List.drop_of_length_le (by rw [HLL.out]; omega), Mth.zval, Int.add_zero] at hv
      have hc0 := Mth.carry_end (b := 10000) (by omega) O _ c (by rw [HO.out]; exact hv) HZ.out HD.out
      obtain ⟨C, rfl⟩ : ∃ C : Nat, c = C := ⟨c.toNat, by omega⟩
      rw [← HO.out] at hv
      have HN := Lib.hid (Mth.carry_nat O _ C hv)
      have hown' : wr.ownsRow base 3 1 (.slice (some ⟨g, 0, none⟩) i cap) O.length (n64s O) := by
        have := hown
        rw [List.drop_of_length_le (by rw [HLL.out]; omega)] at this
        rw [HO.out]
        simpa [i64s] using this
      have HOWN := Lib.hid hown'
      have HBR := Lib.hid hB
      have hOn : O.length ≤ 1000000000000 := by rw [HO.out]; omega
      clear hv hown hown' hB hlt hi2
      go_wp2
      obtain ⟨wo, rfl⟩ : ∃ wo : World, wo = wr := ⟨_, rfl⟩
      go_loopw [0, 3] (fun a0 a3 wi => ∃ (E : Nat) (D : List Nat), a3 = .int .i64 E ∧ E ≤ C ∧ wi.ownsRow base 3 1 a0 D.length (n64s D) ∧ O ++ Mth.dg 10000 C = D ++ Mth.dg 10000 E ∧ Below base w wi) (fun _ a3 _ => (intOf a3).toNat)
      case atStart => exact ⟨C, O, rfl, Nat.le_refl _, HOWN.out, rfl, HBR.out⟩
      case round =>
        obtain ⟨E, D, rfl, hE, hown, hdd, hB⟩ := hrel
        have HDD := Lib.hid hdd
        have hBs2 := hB.size
        have hdl : D.length ≤ O.length + 5 := by
          have h1 := Mth.dg_len_le (b := 10000) (by omega) 5 C (by omega)
          have h2 := congrArg List.length hdd
          simp at h2
          omega
        clear hdd
        by_cases h0 : 0 < E
        · go_wp2_with (at_builtin; go_must (refine wpList_append_own _ rfl _ _ 35 rfl base 3 i0 (.int .i64 0) 1 8 Tryz.underlying35 hi hz0 hz1 hz2 rfl (by decide) _ _ _ rfl (hown.alloc _) ⟨wr.heap.size, 0, none⟩ 1 1 [.int .i64 ((E : Int) % 10000)] rfl rfl (cell_one_new _ _ _) (by simp [Value.oneCell']) (by unfold maxLen; omega) (by omega) (by simp; omega) ?_); intro v' w1 hown' hgrow _)
          go_roundw
          case rel =>
            have hd := HDD.out
            rw [Mth.dg_pos (b := 10000) (n := E) (by omega) h0] at hd
            refine ⟨E / 10000, D ++ [E % 10000], by go_num, by omega, ?_, by rw [hd]; simp, (hB.alloc (by omega) _).grown hgrow (by simp; omega) (fun k hk => (hown.lt k hk).1)⟩
            rw [n64s_append, List.length_append]
            exact hown'
          case measure => simp [intOf]; omega
        · obtain rfl : E = 0 := by omega
          have hsl := Sl.of_own hown
          have HLTB := Lib.hid hown.lt
          go_wp2_with (go_at_call 108; refine (tidy_own D _ _ hsl (by omega)).mono ?_; rintro e w' ⟨v', rfl, hS, hob, rfl⟩)
          go_ret
          refine ⟨v', rfl, hB, ?_, fun k hk => (HLTB.out k (by rw [← hob]; exact hk)).1⟩
          unfold Pt
          have hd := HDD.out
          rw [Mth.dg_zero, List.append_nil] at hd
          rw [HN.out, ← Mth.carry_dg (by omega) O D C HD.out hd.symm]
          exact hS
end Go.Proofs.YtlildanamfjnmaaGreatDoor
