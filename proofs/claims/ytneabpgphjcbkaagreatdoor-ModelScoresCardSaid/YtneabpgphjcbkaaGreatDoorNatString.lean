/-
  (nat.Nat).String: the decimal numeral of a number.
-/
import Derived.Test.YtneabpgphjcbkaaGreatDoorDec
import Derived.Test.YtneabpgphjcbkaaGreatDoorFormat
namespace Go.Proofs.YtneabpgphjcbkaaGreatDoor
open Go.RowKit Go.Shelf

theorem builder_below {T E B b : Nat} {bs : List Value} {w w' : World} (h : Lib.IsBuilder T E B b bs w) (hb : Below w.heap.size w w') : Lib.IsBuilder T E B b bs w' := by
  have key : ∀ p, Lib.BuilderAt T E B b p bs w → Lib.BuilderAt T E B b p bs w' := by
    rintro p ⟨h1, v, h2, h3, h4⟩
    exact ⟨h1, v, (hb.block b (Array.getElem?_eq_some_iff.1 h2).1).trans h2, own_below h3 hb, h4⟩
  rcases h with h | h
  · exact .inl (key _ h)
  · exact .inr (key _ h)
theorem builder_new (w : World) : Lib.IsBuilder 165 5 w.heap.size w.heap.size [] (w.alloc (.cells #[.pointer none, .slice none 0 0] 165)) :=
  .inl ⟨Nat.le_refl _, _, heap_alloc_new w _, World.ownsRow_nil _ _ _ _, by simp [Value.ownBlock]⟩
theorem byteCells_append (l m : List UInt8) : Lib.byteCells l ++ Lib.byteCells m = Lib.byteCells (l ++ m) := by simp [Lib.byteCells]

set_option maxHeartbeats 2000000 in
set_option maxRecDepth 100000 in
theorem string_pos (ds : List Nat) (v : Value) (w : World) (h : Sl w v (u32s ds)) (hd : ∀ d ∈ ds, d < 1000000000) (hl0 : 0 < ds.length) (hlast : ds[ds.length - 1]?.getD 0 ≠ 0) (hs : ds.length ≤ 1000000000000) (htab : Tabs w) :
    Calls Tryz.prog 101 #[v] w fun e w' => ∃ S : ByteArray, e = .returned (.string S) ∧ S.data.toList = Lib.decDigits (Mth.val 1000000000 ds) ∧ Below w.heap.size w w' := by
  obtain ⟨A, c, rfl, h1, h2, h3⟩ := h
  simp only [u32s_length] at *
  obtain ⟨b, o, rfl, hc⟩ := h3 hl0
  obtain ⟨m, hm⟩ : ∃ m, ds.length = m + 1 := ⟨ds.length - 1, by omega⟩
  have HC : Hid (∀ j, j < ds.length → w.cell? ⟨b, o + j, none⟩ = some (.int .u32 ((ds[j]?.getD 0 : Nat) : Int))) := Lib.hid fun j hj => hc j _ (u32s_at hj)
  have HD := Lib.hid hd
  have HM := Lib.hid hm
  have HT := Lib.hid htab
  have hz : (((m : Int) + 1) == 0) = false := by simp; omega
  have c0 := HC.out m (by omega)
  have b0 := Mth.getD_lt (by omega) hd m
  rw [hm, Nat.add_sub_cancel] at hlast
  obtain ⟨x, hx⟩ : ∃ x, ds[m]?.getD 0 = x := ⟨_, rfl⟩
  rw [hx] at c0 b0 hlast
  have HX := Lib.hid hx
  have HLST := Lib.hid hlast
  have hT1 := htab.1
  have hbw : b < w.heap.size := World.block_lt_of_cell? w _ c0
  rw [hm] at h1 hs
  rw [hm]
  have c0' : (w.alloc (.cells #[.pointer none, .slice none 0 0] 165)).cell? ⟨b, o + m, none⟩ = some (.int .u32 (x : Int)) := (World.cell?_alloc_past _ _ _ hbw).trans c0
  have hf := fun W (hW : Tabs W) => format_str x W b0 hW
  have HF := Lib.hid hf
  have hB0 : Below w.heap.size w (w.alloc (.cells #[.pointer none, .slice none 0 0] 165)) := (Below.refl _ _).alloc (Nat.le_refl _) _
  have HB0 := Lib.hid hB0
  clear hd hc h3 hm htab hx hlast c0 hf hB0 hl0
  go_enter Tryz.func101, Tryz.ntmps101
  go_wp2_with fail
  refine (HF.out _ (HT.out.low HB0.out)).mono ?_
  rintro e w1 ⟨S, rfl, hS, hB1⟩
  have hB1' : Below w.heap.size w w1 := HB0.out.trans (hB1.mono (by simp))
  have hbu := builder_below (builder_new w) hB1
  have hsl : S.size ≤ 9 := by rw [bytes_size, hS]; exact (Mth.pad_eq 9 x (by omega) (by omega)).2
  have hwr := write_any w.heap.size w.heap.size [] S w1 hbu (by simp; omega) hB1'.size
  have HW := Lib.hid hwr
  have HB1 := Lib.hid hB1'
  have HS := Lib.hid hS
  clear hwr hB1' hB1 hS hbu c0' hsl
  go_wp2_with fail
  refine HW.out.mono ?_
  rintro e w2 ⟨rfl, hbu2, hB2⟩
  have hB2' : Below w.heap.size w w2 := HB1.out.trans hB2
  have HBU2 := Lib.hid hbu2
  have HB2 := Lib.hid hB2'
  clear hbu2 hB2 hB2'
  go_wp2
  go_loopw [4] (fun a4 wr => ∃ (i : Int) (l : List UInt8), a4 = .int .i64 i ∧ -1 ≤ i ∧ i < m ∧ Lib.IsBuilder 165 5 w.heap.size w.heap.size (Lib.byteCells l) wr ∧ 0 < Mth.val 1000000000 (ds.drop (i + 1).toNat) ∧
    l = Lib.decDigits (Mth.val 1000000000 (ds.drop (i + 1).toNat)) ∧ (l.length : Int) ≤ 9 * (m - i) ∧ Below w.heap.size w wr) (fun a4 _ => (intOf a4 + 1).toNat)
  case atStart =>
    have hx1 := HX.out
    have hm1 := HM.out
    have hlx := HLST.out
    have hdr : ds.drop m = [x] := by
      rw [List.drop_eq_getElem_cons (by omega), List.drop_eq_nil_of_le (by omega)]
      rw [List.getElem?_eq_getElem (by omega)] at hx1
      simp only [Option.getD_some] at hx1
      rw [hx1]
    refine ⟨(m : Int) - 1, Lib.decDigits x, by go_num, by omega, by omega, ?_, ?_, ?_, ?_, HB2.out⟩
    · have := HBU2.out
      rw [Lib.strCells, HS.out] at this
      exact .inr (by simpa [Lib.byteCells] using this)
    · rw [show ((m : Int) - 1 + 1).toNat = m by omega, hdr]; simp [Mth.val]; omega
    · rw [show ((m : Int) - 1 + 1).toNat = m by omega, hdr]; simp [Mth.val]
    · have := (Mth.pad_eq 9 x (by omega) (by omega)).2
      omega
  case round =>
    obtain ⟨i, l, rfl, hi1, hi2, hbu, hv0, hl, hll, hB⟩ := hrel
    have HBU := Lib.hid hbu
    have HV0 := Lib.hid hv0
    have HL := Lib.hid hl
    have hBs := hB.size
    clear hbu hv0 hl
    by_cases h0 : i < 0
    · obtain rfl : i = -1 := by omega
      have hstr := Tryz.Builder_String_any w.heap.size w.heap.size l wr HBU.out hBs
      have HSTR := Lib.hid hstr
      have hl2 := HL.out
      rw [show ((-1 : Int) + 1).toNat = 0 from rfl, List.drop_zero] at hl2
      have HL2 := Lib.hid hl2
      clear hstr hl2 h0 hi1 hi2
      go_wp2_with fail
      refine HSTR.out.mono ?_
      rintro e w3 ⟨rfl, hB3⟩
      go_wp2
      go_ret
      exact ⟨_, rfl, by rw [bytes_toList]; exact HL2.out, hB.trans hB3⟩
    · obtain ⟨q, rfl⟩ : ∃ q : Nat, i = q := ⟨i.toNat, by omega⟩
      have hql : q < ds.length := by have := HM.out; omega
      have g1 := (Below.cell hB (p := ⟨b, o + q, none⟩) hbw).trans (HC.out q hql)
      have d1 := Mth.getD_lt (by omega) HD.out q
      obtain ⟨y, hy⟩ : ∃ y, ds[q]?.getD 0 = y := ⟨_, rfl⟩
      rw [hy] at g1 d1
      have hf := format_str y wr d1 (HT.out.below hT1 hB)
      have HF2 := Lib.hid hf
      have HY := Lib.hid hy
      have HQL := Lib.hid hql
      clear hf hy hql
      go_wp2_with fail
      refine HF2.out.mono ?_
      rintro e w3 ⟨S3, rfl, hS3, hB3⟩
      obtain ⟨hp1, hp2⟩ := Mth.pad_eq 9 y (by omega) (by omega)
      have hsz : S3.size = (Lib.decDigits y).length := by rw [bytes_size, hS3]
      obtain ⟨k, hk⟩ : ∃ k, 9 - S3.size = k := ⟨_, rfl⟩
      have hk9 : (9 : Int) - (S3.size : Int) = (k : Int) := by omega
      have hrp := fun W => repeat_zeros k W (by omega)
      have hpk : Mth.pad 9 y = List.replicate k 48 ++ Lib.decDigits y := by rw [hp1, ← hk, hsz]
      have hs39 : (S3.size : Int) ≤ 9 := by omega
      have HR := Lib.hid hrp
      have HPK := Lib.hid hpk
      have HS3 := Lib.hid hS3
      have HB3 := Lib.hid (hB.trans (hB3.mono hBs))
      have HBU3 := Lib.hid (builder_below HBU.out hB3)
      clear hrp hpk hS3 hp1 hp2 hsz hk hB3
      go_wp2_with fail
      refine (HR.out _).mono ?_
      rintro e w4 ⟨S4, rfl, hS4, hB4⟩
      have HB4 := Lib.hid (HB3.out.trans (hB4.mono HB3.out.size))
      have HBU4 := Lib.hid (builder_below HBU3.out hB4)
      have hcat : (S4 ++ S3).data.toList = Mth.pad 9 y := by
        rw [HPK.out, ← hS4, ← HS3.out]; simp [ByteArray.data_append]
      have hcs : (S4 ++ S3).size = 9 := by rw [bytes_size, hcat, Mth.pad_length]
      have hwr := write_any w.heap.size w.heap.size (Lib.byteCells l) (S4 ++ S3) w4 HBU4.out (by rw [hcs, Lib.byteCells_length]; omega) HB4.out.size
      have HW4 := Lib.hid hwr
      have HCAT := Lib.hid hcat
      have HCS := Lib.hid hcs
      have hs49 : S4.size ≤ 9 := by rw [ByteArray.size_append] at hcs; omega
      have hs39' : S3.size ≤ 9 := by omega
      clear hwr hcat hcs hS4 hB4 hk9
      go_wp2_with fail
      refine HW4.out.mono ?_
      rintro e w5 ⟨rfl, hbu5, hB5⟩
      have HBU5 := Lib.hid hbu5
      have HB5 := Lib.hid (HB4.out.trans hB5)
      clear hbu5 hB5
      go_wp2
      go_roundw
      case rel =>
        have hv := HV0.out
        have hl := HL.out
        rw [show ((q : Int) + 1).toNat = q + 1 by omega] at hv hl
        have e1 : Mth.val 1000000000 (ds.drop q) = Mth.val 1000000000 (ds.drop (q + 1)) * 10 ^ 9 + y := by
          rw [Mth.val_drop _ _ _ HQL.out, HY.out]; omega
        refine ⟨(q : Int) - 1, l ++ Mth.pad 9 y, rfl, by omega, by omega, ?_, ?_, ?_, ?_, HB5.out⟩
        · have := HBU5.out
          rw [Lib.strCells, HCAT.out] at this
          rw [← byteCells_append]
          exact .inr this
        · rw [show ((q : Int) - 1 + 1).toNat = q by omega, e1]; omega
        · rw [show ((q : Int) - 1 + 1).toNat = q by omega, e1, Mth.dec_pad 9 _ y hv (by omega), ← hl]
        · rw [List.length_append, Mth.pad_length]; omega
      case measure => simp [intOf]

theorem string_any (n : Nat) (v : Value) (w : World) (h : Nt w v n) (hs : (Mth.dg 1000000000 n).length ≤ 1000000000000) (htab : Tabs w) :
    Calls Tryz.prog 101 #[v] w fun e w' => ∃ S : ByteArray, e = .returned (.string S) ∧ S.data.toList = Lib.decDigits n ∧ Below w.heap.size w w' := by
  rcases Nat.eq_zero_or_pos n with rfl | hn
  · unfold Nt at h
    rw [Mth.dg_zero] at h
    obtain ⟨A, c, rfl, h1, h2, h3⟩ := h
    clear h3 htab
    go_enter Tryz.func101, Tryz.ntmps101
    go_wp2
    go_ret
    exact ⟨⟨#[48]⟩, rfl, by rw [Mth.decDigits_small (by omega)]; rfl, Below.refl _ _⟩
  · have hne := Mth.dg_ne_nil (b := 1000000000) (by omega) hn
    have hl := List.length_pos_iff.2 hne
    have h := string_pos (Mth.dg 1000000000 n) v w h (Mth.dg_lt (by omega) n) hl (by
      have := Mth.dg_last (b := 1000000000) (by omega) n
      rw [List.getLast?_eq_getElem?, List.getElem?_eq_getElem (by omega)] at this
      rw [List.getElem?_eq_getElem (by omega)]
      intro e
      simp only [Option.getD_some] at e
      rw [e] at this
      exact this rfl) hs htab
    rwa [Mth.val_dg (by omega)] at h
end Go.Proofs.YtneabpgphjcbkaaGreatDoor
