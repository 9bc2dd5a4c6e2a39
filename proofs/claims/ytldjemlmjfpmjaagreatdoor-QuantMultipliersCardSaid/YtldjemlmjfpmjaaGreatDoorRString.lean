/-
  (nat).String of the reference: the decimal numeral.
-/
import Derived.Test.YtldjemlmjfpmjaaGreatDoorRA
import Derived.Test.YtldjemlmjfpmjaaGreatDoorNatString
namespace Go.Proofs.YtldjemlmjfpmjaaGreatDoor
open Go.RowKit Go.Shelf Go.Sort

theorem itoa_str (u : Nat) (w : World) (hu : u ≤ 9223372036854775807) (htab : Tabs w) :
    Calls Tryz.prog 81 #[.int .i64 u] w fun e w' => ∃ S : ByteArray, e = .returned (.string S) ∧ S.data.toList = Lib.decDigits u ∧ Below w.heap.size w w' := by
  refine (Tryz.strconv_Itoa (u : Int) (by omega) (by omega) w htab.2).mono ?_
  rintro e w' ⟨rfl, k, os, rfl⟩
  refine ⟨_, rfl, ?_, Lib.below_grow _ w (Nat.le_refl _) k os⟩
  rw [bytes_toList, Lib.itoa, if_neg (by omega)]
  rfl

set_option maxHeartbeats 2000000 in
set_option maxRecDepth 100000 in
theorem rstring_pos (ds : List Nat) (v : Value) (w : World) (h : Sl w v (n64s ds)) (hd : ∀ d ∈ ds, d < 10000) (hl0 : 0 < ds.length) (hlast : ds[ds.length - 1]?.getD 0 ≠ 0) (hs : ds.length ≤ 1000000000) (htab : Tabs w) :
    Calls Tryz.prog 120 #[v] w fun e w' => ∃ S : ByteArray, e = .returned (.string S) ∧ S.data.toList = Lib.decDigits (Mth.val 10000 ds) ∧ Below w.heap.size w w' := by
  obtain ⟨A, c, rfl, h1, h2, h3⟩ := h
  simp only [n64s_length] at *
  obtain ⟨b, o, rfl, hc⟩ := h3 hl0
  obtain ⟨m, hm⟩ : ∃ m, ds.length = m + 1 := ⟨ds.length - 1, by omega⟩
  have HC : Hid (∀ j, j < ds.length → w.cell? ⟨b, o + j, none⟩ = some (.int .i64 ((ds[j]?.getD 0 : Nat) : Int))) := Lib.hid fun j hj => hc j _ (n64s_at hj)
  have HD := Lib.hid hd
  have HM := Lib.hid hm
  have HT := Lib.hid htab
  have hz : (((m : Int) + 1) == 0) = false := by simp; omega
  have c0 := HC.out m (by omega)
  have b0 := Mth.getD_lt (by omega) hd m
  rw [hm, Nat.add_sub_cancel] at hlast
  obtain ⟨x, hx⟩ : ∃ x, ds[m]?.getD 0 = x := ⟨_, rfl⟩
  rw [hx] at c0 b0 hlast
  have HX := Lib.hid hx
  have HLST := Lib.hid hlast
  have hT1 := htab.1
  have hbw : b < w.heap.size := World.block_lt_of_cell? w _ c0
  rw [hm] at h1 hs
  rw [hm]
  have HF := Lib.hid (itoa_str x w (by omega) htab)
  clear hd hc h3 hm htab hx hlast hl0
  go_enter Tryz.func120, Tryz.ntmps120
  go_wp2_with fail
  refine HF.out.mono ?_
  rintro e w1 ⟨S, rfl, hS, hB1⟩
  have HB1 := Lib.hid hB1
  have HS := Lib.hid hS
  clear hB1 hS c0
  go_wp2
  go_loopw [3, 4] (fun a3 a4 wr => ∃ (i : Int) (T : ByteArray), a3 = .string T ∧ a4 = .int .i64 i ∧ -1 ≤ i ∧ i < m ∧ 0 < Mth.val 10000 (ds.drop (i + 1).toNat) ∧
    T.data.toList = Lib.decDigits (Mth.val 10000 (ds.drop (i + 1).toNat)) ∧ (T.size : Int) ≤ 4 * (m - i) ∧ Below w.heap.size w wr) (fun _ a4 _ => (intOf a4 + 1).toNat)
  case atStart =>
    have hx1 := HX.out
    have hm1 := HM.out
    have hlx := HLST.out
    have hdr : ds.drop m = [x] := by
      rw [List.drop_eq_getElem_cons (by omega), List.drop_eq_nil_of_le (by omega)]
      rw [List.getElem?_eq_getElem (by omega)] at hx1
      simp only [Option.getD_some] at hx1
      rw [hx1]
    refine ⟨(m : Int) - 1, S, rfl, by go_num, by omega, by omega, ?_, ?_, ?_, HB1.out⟩
    · rw [show ((m : Int) - 1 + 1).toNat = m by omega, hdr]; simp [Mth.val]; omega
    · rw [show ((m : Int) - 1 + 1).toNat = m by omega, hdr]; simp [Mth.val]; exact HS.out
    · have := (Mth.pad_eq 4 x (by omega) (by omega)).2
      rw [bytes_size, HS.out]
      omega
  case round =>
    obtain ⟨i, T, rfl, rfl, hi1, hi2, hv0, hl, hll, hB⟩ := hrel
    have HV0 := Lib.hid hv0
    have HL := Lib.hid hl
    have hBs := hB.size
    clear hv0 hl
    by_cases h0 : i < 0
    · obtain rfl : i = -1 := by omega
      have hl2 := HL.out
      rw [show ((-1 : Int) + 1).toNat = 0 from rfl, List.drop_zero] at hl2
      have HL2 := Lib.hid hl2
      clear hl2 h0 hi1 hi2
      go_wp2
      go_ret
      exact ⟨_, rfl, HL2.out, hB⟩
    · obtain ⟨q, rfl⟩ : ∃ q : Nat, i = q := ⟨i.toNat, by omega⟩
      have hql : q < ds.length := by have := HM.out; omega
      have g1 := (Below.cell hB (p := ⟨b, o + q, none⟩) hbw).trans (HC.out q hql)
      have d1 := Mth.getD_lt (by omega) HD.out q
      obtain ⟨y, hy⟩ : ∃ y, ds[q]?.getD 0 = y := ⟨_, rfl⟩
      rw [hy] at g1 d1
      have HF2 := Lib.hid (itoa_str y wr (by omega) (HT.out.below hT1 hB))
      have HY := Lib.hid hy
      have HQL := Lib.hid hql
      have hTs : (T.size : Int) ≤ 8000000000 := by omega
      clear hy hql
      go_wp2_with fail
      refine HF2.out.mono ?_
      rintro e w3 ⟨S3, rfl, hS3, hB3⟩
      obtain ⟨hp1, hp2⟩ := Mth.pad_eq 4 y (by omega) (by omega)
      have hsz : S3.size = (Lib.decDigits y).length := by rw [bytes_size, hS3]
      obtain ⟨k, hk⟩ : ∃ k, 4 - S3.size = k := ⟨_, rfl⟩
      have hk4 : (4 : Int) - (S3.size : Int) = (k : Int) := by omega
      have hrp := fun W => repeat_zeros k W (by omega)
      have hpk : Mth.pad 4 y = List.replicate k 48 ++ Lib.decDigits y := by rw [hp1, ← hk, hsz]
      have hs34 : (S3.size : Int) ≤ 4 := by omega
      have HR := Lib.hid hrp
      have HPK := Lib.hid hpk
      have HS3 := Lib.hid hS3
      have HB3 := Lib.hid (hB.trans (hB3.mono hBs))
      clear hrp hpk hS3 hp1 hp2 hsz hk hB3
      go_wp2_with fail
      refine (HR.out _).mono ?_
      rintro e w4 ⟨S4, rfl, hS4, hB4⟩
      have HB4 := Lib.hid (HB3.out.trans (hB4.mono HB3.out.size))
      have hcat : (S4 ++ S3).data.toList = Mth.pad 4 y := by
        rw [HPK.out, ← hS4, ← HS3.out]; simp [ByteArray.data_append]
      have hcs : (S4 ++ S3).size = 4 := by rw [bytes_size, hcat, Mth.pad_length]
      have hs44 : S4.size ≤ 4 := by rw [ByteArray.size_append] at hcs; omega
      have hs34' : S3.size ≤ 4 := by omega
      have HCAT := Lib.hid hcat
      have HCS := Lib.hid hcs
      have hT2 : T.size ≤ 8000000000 := by omega
      clear hcat hcs hS4 hB4 hk4
      go_wp2
      go_roundw
      case rel =>
        have hv := HV0.out
        have hl := HL.out
        rw [show ((q : Int) + 1).toNat = q + 1 by omega] at hv hl
        have e1 : Mth.val 10000 (ds.drop q) = Mth.val 10000 (ds.drop (q + 1)) * 10 ^ 4 + y := by
          rw [Mth.val_drop _ _ _ HQL.out, HY.out]; omega
        refine ⟨(q : Int) - 1, T ++ (S4 ++ S3), rfl, rfl, by omega, by omega, ?_, ?_, ?_, HB4.out⟩
        · rw [show ((q : Int) - 1 + 1).toNat = q by omega, e1]; omega
        · rw [show ((q : Int) - 1 + 1).toNat = q by omega, e1, Mth.dec_pad 4 _ y hv (by omega), ← hl, ← HCAT.out]; simp [ByteArray.data_append]
        · rw [ByteArray.size_append, HCS.out]; omega
      case measure => simp [intOf]

theorem rstring_any (n : Nat) (v : Value) (w : World) (h : Pt w v n) (hs : (Mth.dg 10000 n).length ≤ 1000000000) (htab : Tabs w) :
    Calls Tryz.prog 120 #[v] w fun e w' => ∃ S : ByteArray, e = .returned (.string S) ∧ S.data.toList = Lib.decDigits n ∧ Below w.heap.size w w' := by
  rcases Nat.eq_zero_or_pos n with rfl | hn
  · unfold Pt at h
    rw [Mth.dg_zero] at h
    obtain ⟨A, c, rfl, h1, h2, h3⟩ := h
    clear h3 htab
    go_enter Tryz.func120, Tryz.ntmps120
    go_wp2
    go_ret
    exact ⟨⟨#[48]⟩, rfl, by rw [Mth.decDigits_small (by omega)]; rfl, Below.refl _ _⟩
  · have hne := Mth.dg_ne_nil (b := 10000) (by omega) hn
    have hl := List.length_pos_iff.2 hne
    have h := rstring_pos (Mth.dg 10000 n) v w h (Mth.dg_lt (by omega) n) hl (by
      have := Mth.dg_last (b := 10000) (by omega) n
      rw [List.getLast?_eq_getElem?, List.getElem?_eq_getElem (by omega)] at this
      rw [List.getElem?_eq_getElem (by omega)]
      intro e
      simp only [Option.getD_some] at e
      rw [e] at this
      exact this rfl) hs htab
    rwa [Mth.val_dg (by omega)] at h
end Go.Proofs.YtldjemlmjfpmjaaGreatDoor
