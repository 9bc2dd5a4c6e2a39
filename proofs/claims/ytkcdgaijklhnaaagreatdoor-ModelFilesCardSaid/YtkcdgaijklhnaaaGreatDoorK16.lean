/-
  Strings: the builder, FormatUint, zeros.
  (nat.Nat).String: the decimal numeral of a number.
-/
import Derived.Test.YtkcdgaijklhnaaaGreatDoorShelf
import Derived.Test.YtkcdgaijklhnaaaGreatDoorK01
import Derived.Lib.Builder
import Derived.Lib.AppendStr
import Derived.BigCall
import Derived.Lib.ItoaMem
import Derived.Lib.AppendIntMem
import Derived.Lib.Walk
import Derived.Test.YtkcdgaijklhnaaaGreatDoorK15
namespace Go.Proofs.YtkcdgaijklhnaaaGreatDoor
open Go.RowKit Go.Shelf
set_option maxHeartbeats 1000000 in
set_option maxRecDepth 100000 in
theorem check_used (b : Nat) (w : World) (h0 : w.cell? ⟨b, 0, none⟩ = some (.pointer (some ⟨b, 0, none⟩))) :
  Calls Tryz.prog 257 #[.pointer (some ⟨b, 0, none⟩)] w fun e w' => e = .returned (.tuple #[]) ∧ w' = w := by
 obtain ⟨j, hj, _⟩ := Option.map_eq_some_iff.1 (show (Tryz.prog.info? 247).map (·.size) = some 2 by kernel_rfl)
 go_enter Tryz.func257, Tryz.ntmps257
 go_wp2
 rw [Lib.run_neq_ptr_same w _ Tryz.underlying245 hj]
 go_wp2
 go_end0
 exact ⟨rfl, rfl⟩
set_option maxHeartbeats 1000000 in
set_option maxRecDepth 100000 in
theorem check_fresh (b : Nat) (w : World) (h0 : w.cell? ⟨b, 0, none⟩ = some (.pointer none)) (hsh : w.shape? b = some (247, 2)) (hfz : w.frozen? ⟨b, 0, none⟩ = false) :
  Calls Tryz.prog 257 #[.pointer (some ⟨b, 0, none⟩)] w fun e w' => e = .returned (.tuple #[]) ∧ w' = w.setCell ⟨b, 0, none⟩ (.pointer (some ⟨b, 0, none⟩)) := by
 obtain ⟨j, hj, hjs⟩ := Option.map_eq_some_iff.1 (show (Tryz.prog.info? 247).map (·.size) = some 2 by kernel_rfl)
 go_enter Tryz.func257, Tryz.ntmps257
 go_wp2
 rw [Lib.run_to_unsafe w ⟨b, 0, none⟩ Tryz.underlying245 Tryz.underlying325 hj (by rw [hjs]; decide) hsh (Nat.zero_lt_succ 1)]
 simp only [Result.andThen]
 rw [Oper.upon_value]
 go_wp2
 rw [run_callFunc_extern Tryz.func300 (by kernel_rfl) (by kernel_rfl) (by kernel_rfl) (e := Extern.AbiNoEscape.same) (by kernel_rfl)]
 rw [Lib.run_noEscape]
 simp only [Result.andThen]
 rw [Oper.upon_value]
 go_wp2
 rw [Lib.run_from_unsafe w ⟨b, 0, none⟩ Tryz.underlying325 Tryz.underlying245 hj hsh (by kernel_rfl)]
 simp only [Result.andThen]
 rw [Oper.upon_value]
 go_wp2
 go_end0
 exact ⟨rfl, rfl⟩
theorem check_any (B b : Nat) (bs : List Value) (w : World) (h : Lib.IsBuilder 247 5 B b bs w) :
  Calls Tryz.prog 257 #[.pointer (some ⟨b, 0, none⟩)] w fun e w' => e = .returned (.tuple #[]) ∧ (Lib.BuilderAt 247 5 B b (.pointer (some ⟨b, 0, none⟩)) bs w' ∧ Below B w w') := by
 rcases h with h | h
 ·refine (check_fresh b w h.cell0 h.shape h.frozen0).mono ?_
  rintro e w' ⟨rfl, rfl⟩
  exact ⟨rfl, h.used _, (Below.refl B w).setCell (p := ⟨b, 0, none⟩) h.1 _⟩
 ·refine (check_used b w h.cell0).mono ?_
  rintro e w' ⟨rfl, rfl⟩
  exact ⟨rfl, h, Below.refl B _⟩
set_option maxHeartbeats 2000000 in
set_option maxRecDepth 100000 in
theorem write_any (B b : Nat) (bs : List Value) (s : ByteArray) (w : World) (h : Lib.IsBuilder 247 5 B b bs w) (hlen : bs.length + s.size ≤ 140737488355328) (hBw : B ≤ w.heap.size) :
  Calls Tryz.prog 216 #[.pointer (some ⟨b, 0, none⟩), .string s] w fun e w' => e = .returned (.tuple #[.int .i64 s.size, .nilIface]) ∧ (Lib.BuilderAt 247 5 B b (.pointer (some ⟨b, 0, none⟩)) (bs ++ Lib.strCells s) w' ∧ Below B w w') := by
 obtain ⟨i0, hi, hz0, hz1, hz2⟩ := info_parts (show (Tryz.prog.info? 5).map (fun i => (i.zero, i.size, i.bytes)) = some (some (.int .u8 0), 1, 1) by kernel_rfl)
 go_enter Tryz.func216, Tryz.ntmps216
 go_wp2_with (go_at_call 257; refine (check_any B b bs _ h).mono ?_)
 rintro e w1 ⟨rfl, h1, hb1⟩
 obtain ⟨hB, v, hbk, hown, hne⟩ := h1
 have c0 : w1.cell? ⟨b, 0, none⟩ = some (.pointer (some ⟨b, 0, none⟩)) := by rw [Lib.cell_of_heap hbk]; rfl
 have c1 : w1.cell? ⟨b, 1, none⟩ = some v := by rw [Lib.cell_of_heap hbk]; rfl
 go_wp2_with (at_builtin; refine Lib.wpList_append_own_string _ rfl _ _ 31 9 rfl B 5 i0 Tryz.underlying31 Tryz.underlying9 hi hz0 hz1 hz2 _ _ _ rfl hown s rfl ?c3 ?c4 ?c5 ?_)
 case c3 => unfold maxLen; omega
 case c4 => omega
 case c5 => have := hb1.size; omega
 intro v' w2 hown' hgrow _
 have hlt : b < w1.heap.size := by
  rcases Nat.lt_or_ge b w1.heap.size with h' | h'
  ·exact h'
  ·simp [Array.getElem?_eq_none h'] at hbk
 have hb2 : w2.heap[b]? = some (.cells #[.pointer (some ⟨b, 0, none⟩), v] 247 (0, 0)) := by
  rw [hgrow.block b hlt (fun e => hne e.symm)]
  exact hbk
 have d0 : w2.cell? ⟨b, 0, none⟩ = some (.pointer (some ⟨b, 0, none⟩)) := by rw [Lib.cell_of_heap hb2]; rfl
 have d1 : w2.cell? ⟨b, 1, none⟩ = some v := by rw [Lib.cell_of_heap hb2]; rfl
 have f1 : w2.frozen? ⟨b, 1, none⟩ = false := Lib.frozen_of_heap hb2 1
 obtain ⟨ao, n', cap, rfl⟩ : ∃ ao n' cap, v' = .slice ao n' cap := by
  rcases hown'.2 with ⟨hv, _⟩ | ⟨g, cap, cur, hv, _⟩
  ·exact ⟨_, _, _, hv⟩
  ·exact ⟨_, _, _, hv⟩
 go_wp2
 go_ret2
 refine ⟨rfl, ?_, ?_⟩
 ·exact Lib.BuilderAt.put (T := 247) (e := 5) hB hb2 (bs' := bs ++ Lib.strCells s) (by simpa [Lib.strCells_length] using hown') (by decide)
 ·exact (hb1.grown hgrow (by have := hb1.size; omega) (fun k hk => (hown.lt k hk).1)).setCell (p := ⟨b, 1, none⟩) hB _
end Go.Proofs.YtkcdgaijklhnaaaGreatDoor
namespace Go.Proofs.YtkcdgaijklhnaaaGreatDoor
open Go.RowKit Go.Shelf Go.Sort Go.Lib
theorem holds_zero0 (w : World) (T : TypeId) (nd : Nat) (hs : nd ≤ 24) : Holds (fun (b : UInt8) => Value.int .u8 (b.toNat : Int)) (w.alloc (.cells Lib.zeros24 T)) w.heap.size 0 (Array.replicate nd (0 : UInt8)) := fun j hj => by
 have hj' : j < nd := by simpa using hj
 refine ⟨?_, World.frozen?_alloc_new _ _ _ _⟩
 rw [World.cell?_alloc_new, Lib.zeros24_at _ (by omega), getElem!_pos _ j hj]
 simp
theorem fin_zero (w : World) (o : Obj) (dk : Array UInt8) (k : Nat) : ∃ os, (putRow (fun (b : UInt8) => Value.int .u8 (b.toNat : Int)) (w.alloc o) w.heap.size 0 dk).drewN k = grow (w.drewN k) os := by
 rw [alloc_eq_grow]
 obtain ⟨os', _, e⟩ := putRow_grow_new (fun (b : UInt8) => Value.int .u8 (b.toNat : Int)) w #[o] w.heap.size 0 dk (Nat.le_refl _)
 exact ⟨os', by rw [e]; rfl⟩
def Pow10 (w : World) : Prop := Lib.TabIs Tryz.prog w "internal/strconv.uint64pow10" .u64 Lib.pow10Tab
set_option maxHeartbeats 6400000 in
set_option maxRecDepth 100000 in
theorem formatIn_any (u : Nat) (w : World) (hu : u < 1000000000) (htab : Pow10 w) :
  Calls Tryz.prog 258 #[.int .u64 u, .int .i64 10] w fun e w' => e = .returned (.string ⟨(Lib.decDigits u).toArray⟩) ∧ Below w.heap.size w w' := by
 by_cases hs : u < 100
 ·go_enter Tryz.func258, Tryz.ntmps258
  go_wp2_with (go_at_call 193; refine (Tryz.internal_strconv_small u hs _).mono ?_; rintro e w' ⟨rfl, rfl⟩)
  go_ret
  exact ⟨rfl, Below.refl _ _⟩
 ·have hu1 : 1 ≤ u := by omega
  have hnd20 : Lib.nDigits u ≤ 20 := by have := Lib.numDigits_eq u hu1 (by omega); split at this <;> omega
  have hal : Tryz.prog.arrayLen 227 = 24 := by simp [Program.arrayLen, Tryz.underlying227]
  have hsl1 : ∀ W, (Instr.sliceAt 227 (.pointer (some ⟨w.heap.size, 0, none⟩)) none (some (.int .i64 (Lib.nDigits u : Int))) none).run Tryz.prog W = .ok (.slice (some ⟨w.heap.size, 0, none⟩) (Lib.nDigits u) 24) W := fun W => by
   rw [run_sliceAt_array_h W 227 ⟨w.heap.size, 0, none⟩ (by simp [Program.arrayLen, Program.elem, Tryz.underlying227]) .i64 (Lib.nDigits u : Int) (by omega) (by rw [hal]; omega)]
   go_simp
  have hH0 := holds_zero0 w 227 (Lib.nDigits u) (by omega)
  have hfmt := Tryz.internal_strconv_formatBase10 w.heap.size 0 24 u (Array.replicate (Lib.nDigits u) 0) (w.alloc (.cells Lib.zeros24 227)) hH0 (by rw [Array.size_replicate]; exact Lib.lt_pow_nDigits u) (by omega) (by rw [Array.size_replicate]; omega)
  rw [Array.size_replicate] at hfmt
  have HH0 := Lib.hid hH0
  have HF := Lib.hid hfmt
  have hnum := Tryz.internal_strconv_numDigits u hu1 (by omega) (w.alloc (.cells Lib.zeros24 227)) (Lib.tabIs_alloc htab _)
  have HN := Lib.hid hnum
  have hub : (99 : Int) < u := by omega
  clear hH0 hal hfmt hnum htab
  go_enter Tryz.func258, Tryz.ntmps258
  go_wp2_with fail
  refine HN.out.mono ?_
  rintro e w' ⟨rfl, rfl⟩
  go_wp2_with fail
  refine HF.out.mono ?_
  rintro e w' ⟨rfl, k, v', dk, rfl, hF⟩
  have hcv : (convert 31 9 (.slice (some ⟨w.heap.size, 0, none⟩) (Lib.nDigits u) 24)).run Tryz.prog ((putRow (fun (b : UInt8) => Value.int .u8 (b.toNat : Int)) (w.alloc (.cells Lib.zeros24 227)) w.heap.size 0 dk).drewN k) = .ok (.string ⟨(Lib.decDigits u).toArray⟩) ((putRow (fun (b : UInt8) => Value.int .u8 (b.toNat : Int)) (w.alloc (.cells Lib.zeros24 227)) w.heap.size 0 dk).drewN k) := by
   have h := run_convert_bytes_back (P := Tryz.prog) ((putRow (fun (b : UInt8) => Value.int .u8 (b.toNat : Int)) (w.alloc (.cells Lib.zeros24 227)) w.heap.size 0 dk).drewN k) 31 9 5 ⟨w.heap.size, 0, none⟩ 24 (Lib.decDigits u) Tryz.underlying31 Tryz.underlying5 Tryz.underlying9 (fun j hj => by
    rw [Lib.row_is_numeral hF j hj, Lib.add_plain, World.cell?_drewN]
    exact cell?_putRow (fun (b : UInt8) => Value.int .u8 (b.toNat : Int)) _ w.heap.size 0 _ dk HH0.out (by rw [hF.size, Array.size_replicate]) j (by rw [hF.size]; rw [Lib.decDigits_length] at hj; exact hj))
   rw [Lib.decDigits_length] at h
   exact h
  go_wp2
  go_ret
  refine ⟨rfl, ?_⟩
  obtain ⟨os, eo⟩ := fin_zero w (.cells Lib.zeros24 227) dk k
  rw [eo]
  exact below_grow _ w (Nat.le_refl _) k os
set_option maxRecDepth 100000 in
theorem format_any (u : Nat) (w : World) (hu : u < 1000000000) (htab : Pow10 w) :
  Calls Tryz.prog 217 #[.int .u64 u, .int .i64 10] w fun e w' => e = .returned (.string ⟨(Lib.decDigits u).toArray⟩) ∧ Below w.heap.size w w' := by
 have H := Lib.hid (formatIn_any u w hu htab)
 clear htab hu
 go_enter Tryz.func217, Tryz.ntmps217
 go_wp2_with (go_at_call 258; refine H.out.mono ?_; rintro e w' ⟨rfl, hB⟩)
 go_ret
 exact ⟨rfl, hB⟩
def Tabs (w : World) : Prop := 0 < w.heap.size ∧ Pow10 w
theorem Tabs.below {w w' : World} {B : Nat} (h : Tabs w) (hB : 0 < B) (hb : Below B w w') : Tabs w' :=
 ⟨Nat.lt_of_lt_of_le h.1 hb.size, var?_below hb (show Tryz.prog.globalNamed "internal/strconv.uint64pow10" = some 0 by kernel_rfl) hB h.2⟩
theorem Tabs.low {w w' : World} (h : Tabs w) (hb : Below w.heap.size w w') : Tabs w' := h.below h.1 hb
theorem bytes_toList (l : List UInt8) : (ByteArray.mk l.toArray).data.toList = l := by simp
theorem bytes_size (s : ByteArray) : s.size = s.data.toList.length := by rw [← ByteArray.size_data]; simp
theorem format_str (u : Nat) (w : World) (hu : u < 1000000000) (htab : Tabs w) :
  Calls Tryz.prog 217 #[.int .u64 u, .int .i64 10] w fun e w' => ∃ S : ByteArray, e = .returned (.string S) ∧ S.data.toList = Lib.decDigits u ∧ Below w.heap.size w w' :=
 (format_any u w hu htab.2).mono fun _ _ ⟨he, hB⟩ => ⟨_, he, bytes_toList _, hB⟩
theorem repeat_zeros (c : Nat) (w : World) (hc : c ≤ 9) :
  Calls Tryz.prog 215 #[.string ⟨#[48]⟩, .int .i64 c] w fun e w' => ∃ S : ByteArray, e = .returned (.string S) ∧ S.data.toList = List.replicate c 48 ∧ Below w.heap.size w w' := by
 refine (Tryz.strings_Repeat ⟨#[48]⟩ c w (by omega) (by show 1 * c ≤ _; omega)).mono ?_
 rintro e w' ⟨rfl, hB⟩
 refine ⟨_, rfl, ?_, hB⟩
 rw [bytes_toList]
 have : ∀ n, Lib.repeatL [(48 : UInt8)] n = List.replicate n 48 := by
  intro n
  induction n with
  | zero => rfl
  | succ n ih => rw [Lib.repeatL, ih, List.replicate_succ]; rfl
 exact this c
end Go.Proofs.YtkcdgaijklhnaaaGreatDoor
namespace Go.Proofs.YtkcdgaijklhnaaaGreatDoor
open Go.RowKit Go.Shelf
theorem builder_below {T E B b : Nat} {bs : List Value} {w w' : World} (h : Lib.IsBuilder T E B b bs w) (hb : Below w.heap.size w w') : Lib.IsBuilder T E B b bs w' := by
 have key : ∀ p, Lib.BuilderAt T E B b p bs w → Lib.BuilderAt T E B b p bs w' := by
  rintro p ⟨h1, v, h2, h3, h4⟩
  exact ⟨h1, v, (hb.block b (Array.getElem?_eq_some_iff.1 h2).1).trans h2, own_below h3 hb, h4⟩
 rcases h with h | h
 ·exact .inl (key _ h)
 ·exact .inr (key _ h)
theorem builder_new (w : World) : Lib.IsBuilder 247 5 w.heap.size w.heap.size [] (w.alloc (.cells #[.pointer none, .slice none 0 0] 247)) :=
 .inl ⟨Nat.le_refl _, _, heap_alloc_new w _, World.ownsRow_nil _ _ _ _, by simp [Value.ownBlock]⟩
theorem byteCells_append (l m : List UInt8) : Lib.byteCells l ++ Lib.byteCells m = Lib.byteCells (l ++ m) := by simp [Lib.byteCells]
set_option maxHeartbeats 2000000 in
set_option maxRecDepth 100000 in
theorem string_pos (ds : List Nat) (v : Value) (w : World) (h : Sl w v (u32s ds)) (hd : ∀ d ∈ ds, d < 1000000000) (hl0 : 0 < ds.length) (hlast : ds[ds.length - 1]?.getD 0 ≠ 0) (hs : ds.length ≤ 1000000000000) (htab : Tabs w) :
  Calls Tryz.prog 176 #[v] w fun e w' => ∃ S : ByteArray, e = .returned (.string S) ∧ S.data.toList = Lib.decDigits (Mth.val 1000000000 ds) ∧ Below w.heap.size w w' := by
 obtain ⟨A, c, rfl, h1, h2, h3⟩ := h
 simp only [u32s_length] at *
 obtain ⟨b, o, rfl, hc⟩ := h3 hl0
 obtain ⟨m, hm⟩ : ∃ m, ds.length = m + 1 := ⟨ds.length - 1, by omega⟩
 have HC : Hid (∀ j, j < ds.length → w.cell? ⟨b, o + j, none⟩ = some (.int .u32 ((ds[j]?.getD 0 : Nat) : Int))) := Lib.hid fun j hj => hc j _ (u32s_at hj)
 have HD := Lib.hid hd
 have HM := Lib.hid hm
 have HT := Lib.hid htab
 have hz : (((m : Int) + 1) == 0) = false := by simp; omega
 have c0 := HC.out m (by omega)
 have b0 := Mth.getD_lt (by omega) hd m
 rw [hm, Nat.add_sub_cancel] at hlast
 obtain ⟨x, hx⟩ : ∃ x, ds[m]?.getD 0 = x := ⟨_, rfl⟩
 rw [hx] at c0 b0 hlast
 have HX := Lib.hid hx
 have HLST := Lib.hid hlast
 have hT1 := htab.1
 have hbw : b < w.heap.size := World.block_lt_of_cell? w _ c0
 rw [hm] at h1 hs
 rw [hm]
 have c0' : (w.alloc (.cells #[.pointer none, .slice none 0 0] 247)).cell? ⟨b, o + m, none⟩ = some (.int .u32 (x : Int)) := (World.cell?_alloc_past _ _ _ hbw).trans c0
 have hf := fun W (hW : Tabs W) => format_str x W b0 hW
 have HF := Lib.hid hf
 have hB0 : Below w.heap.size w (w.alloc (.cells #[.pointer none, .slice none 0 0] 247)) := (Below.refl _ _).alloc (Nat.le_refl _) _
 have HB0 := Lib.hid hB0
 clear hd hc h3 hm htab hx hlast c0 hf hB0 hl0
 go_enter Tryz.func176, Tryz.ntmps176
 go_wp2_with fail
 refine (HF.out _ (HT.out.low HB0.out)).mono ?_
 rintro e w1 ⟨S, rfl, hS, hB1⟩
 have hB1' : Below w.heap.size w w1 := HB0.out.trans (hB1.mono (by simp))
 have hbu := builder_below (builder_new w) hB1
 have hsl : S.size ≤ 9 := by rw [bytes_size, hS]; exact (Mth.pad_eq 9 x (by omega) (by omega)).2
 have hwr := write_any w.heap.size w.heap.size [] S w1 hbu (by simp; omega) hB1'.size
 have HW := Lib.hid hwr
 have HB1 := Lib.hid hB1'
 have HS := Lib.hid hS
 clear hwr hB1' hB1 hS hbu c0' hsl
 go_wp2_with fail
 refine HW.out.mono ?_
 rintro e w2 ⟨rfl, hbu2, hB2⟩
 have hB2' : Below w.heap.size w w2 := HB1.out.trans hB2
 have HBU2 := Lib.hid hbu2
 have HB2 := Lib.hid hB2'
 clear hbu2 hB2 hB2'
 go_wp2
 go_loopw [4] (fun a4 wr => ∃ (i : Int) (l : List UInt8), a4 = .int .i64 i ∧ -1 ≤ i ∧ i < m ∧ Lib.IsBuilder 247 5 w.heap.size w.heap.size (Lib.byteCells l) wr ∧ 0 < Mth.val 1000000000 (ds.drop (i + 1).toNat) ∧
  l = Lib.decDigits (Mth.val 1000000000 (ds.drop (i + 1).toNat)) ∧ (l.length : Int) ≤ 9 * (m - i) ∧ Below w.heap.size w wr) (fun a4 _ => (intOf a4 + 1).toNat)
 case atStart =>
  have hx1 := HX.out
  have hm1 := HM.out
  have hlx := HLST.out
  have hdr : ds.drop m = [x] := by
   rw [List.drop_eq_getElem_cons (by omega), List.drop_eq_nil_of_le (by omega)]
   rw [List.getElem?_eq_getElem (by omega)] at hx1
   simp only [Option.getD_some] at hx1
   rw [hx1]
  refine ⟨(m : Int) - 1, Lib.decDigits x, by go_num, by omega, by omega, ?_, ?_, ?_, ?_, HB2.out⟩
  ·have := HBU2.out
   rw [Lib.strCells, HS.out] at this
   exact .inr (by simpa [Lib.byteCells] using this)
  ·rw [show ((m : Int) - 1 + 1).toNat = m by omega, hdr]; simp [Mth.val]; omega
  ·rw [show ((m : Int) - 1 + 1).toNat = m by omega, hdr]; simp [Mth.val]
  ·have := (Mth.pad_eq 9 x (by omega) (by omega)).2
   omega
 case round =>
  obtain ⟨i, l, rfl, hi1, hi2, hbu, hv0, hl, hll, hB⟩ := hrel
  have HBU := Lib.hid hbu
  have HV0 := Lib.hid hv0
  have HL := Lib.hid hl
  have hBs := hB.size
  clear hbu hv0 hl
  by_cases h0 : i < 0
  ·obtain rfl : i = -1 := by omega
   have hstr := Tryz.Builder_String_any w.heap.size w.heap.size l wr HBU.out hBs
   have HSTR := Lib.hid hstr
   have hl2 := HL.out
   rw [show ((-1 : Int) + 1).toNat = 0 from rfl, List.drop_zero] at hl2
   have HL2 := Lib.hid hl2
   clear hstr hl2 h0 hi1 hi2
   go_wp2_with fail
   refine HSTR.out.mono ?_
   rintro e w3 ⟨rfl, hB3⟩
   go_wp2
   go_ret
   exact ⟨_, rfl, by rw [bytes_toList]; exact HL2.out, hB.trans hB3⟩
  ·obtain ⟨q, rfl⟩ : ∃ q : Nat, i = q := ⟨i.toNat, by omega⟩
   have hql : q < ds.length := by have := HM.out; omega
   have g1 := (Below.cell hB (p := ⟨b, o + q, none⟩) hbw).trans (HC.out q hql)
   have d1 := Mth.getD_lt (by omega) HD.out q
   obtain ⟨y, hy⟩ : ∃ y, ds[q]?.getD 0 = y := ⟨_, rfl⟩
   rw [hy] at g1 d1
   have hf := format_str y wr d1 (HT.out.below hT1 hB)
   have HF2 := Lib.hid hf
   have HY := Lib.hid hy
   have HQL := Lib.hid hql
   clear hf hy hql
   go_wp2_with fail
   refine HF2.out.mono ?_
   rintro e w3 ⟨S3, rfl, hS3, hB3⟩
   obtain ⟨hp1, hp2⟩ := Mth.pad_eq 9 y (by omega) (by omega)
   have hsz : S3.size = (Lib.decDigits y).length := by rw [bytes_size, hS3]
   obtain ⟨k, hk⟩ : ∃ k, 9 - S3.size = k := ⟨_, rfl⟩
   have hk9 : (9 : Int) - (S3.size : Int) = (k : Int) := by omega
   have hrp := fun W => repeat_zeros k W (by omega)
   have hpk : Mth.pad 9 y = List.replicate k 48 ++ Lib.decDigits y := by rw [hp1, ← hk, hsz]
   have hs39 : (S3.size : Int) ≤ 9 := by omega
   have HR := Lib.hid hrp
   have HPK := Lib.hid hpk
   have HS3 := Lib.hid hS3
   have HB3 := Lib.hid (hB.trans (hB3.mono hBs))
   have HBU3 := Lib.hid (builder_below HBU.out hB3)
   clear hrp hpk hS3 hp1 hp2 hsz hk hB3
   go_wp2_with fail
   refine (HR.out _).mono ?_
   rintro e w4 ⟨S4, rfl, hS4, hB4⟩
   have HB4 := Lib.hid (HB3.out.trans (hB4.mono HB3.out.size))
   have HBU4 := Lib.hid (builder_below HBU3.out hB4)
   have hcat : (S4 ++ S3).data.toList = Mth.pad 9 y := by
    rw [HPK.out, ← hS4, ← HS3.out]; simp [ByteArray.data_append]
   have hcs : (S4 ++ S3).size = 9 := by rw [bytes_size, hcat, Mth.pad_length]
   have hwr := write_any w.heap.size w.heap.size (Lib.byteCells l) (S4 ++ S3) w4 HBU4.out (by rw [hcs, Lib.byteCells_length]; omega) HB4.out.size
   have HW4 := Lib.hid hwr
   have HCAT := Lib.hid hcat
   have HCS := Lib.hid hcs
   have hs49 : S4.size ≤ 9 := by rw [ByteArray.size_append] at hcs; omega
   have hs39' : S3.size ≤ 9 := by omega
   clear hwr hcat hcs hS4 hB4 hk9
   go_wp2_with fail
   refine HW4.out.mono ?_
   rintro e w5 ⟨rfl, hbu5, hB5⟩
   have HBU5 := Lib.hid hbu5
   have HB5 := Lib.hid (HB4.out.trans hB5)
   clear hbu5 hB5
   go_wp2
   go_roundw
   case rel =>
    have hv := HV0.out
    have hl := HL.out
    rw [show ((q : Int) + 1).toNat = q + 1 by omega] at hv hl
    have e1 : Mth.val 1000000000 (ds.drop q) = Mth.val 1000000000 (ds.drop (q + 1)) * 10 ^ 9 + y := by
     rw [Mth.val_drop _ _ _ HQL.out, HY.out]; omega
    refine ⟨(q : Int) - 1, l ++ Mth.pad 9 y, rfl, by omega, by omega, ?_, ?_, ?_, ?_, HB5.out⟩
    ·have := HBU5.out
     rw [Lib.strCells, HCAT.out] at this
     rw [← byteCells_append]
     exact .inr this
    ·rw [show ((q : Int) - 1 + 1).toNat = q by omega, e1]; omega
    ·rw [show ((q : Int) - 1 + 1).toNat = q by omega, e1, Mth.dec_pad 9 _ y hv (by omega), ← hl]
    ·rw [List.length_append, Mth.pad_length]; omega
   case measure => simp [intOf]
theorem string_any (n : Nat) (v : Value) (w : World) (h : Nt w v n) (hs : (Mth.dg 1000000000 n).length ≤ 1000000000000) (htab : Tabs w) :
  Calls Tryz.prog 176 #[v] w fun e w' => ∃ S : ByteArray, e = .returned (.string S) ∧ S.data.toList = Lib.decDigits n ∧ Below w.heap.size w w' := by
 rcases Nat.eq_zero_or_pos n with rfl | hn
 ·unfold Nt at h
  rw [Mth.dg_zero] at h
  obtain ⟨A, c, rfl, h1, h2, h3⟩ := h
  clear h3 htab
  go_enter Tryz.func176, Tryz.ntmps176
  go_wp2
  go_ret
  exact ⟨⟨#[48]⟩, rfl, by rw [Mth.decDigits_small (by omega)]; rfl, Below.refl _ _⟩
 ·have hne := Mth.dg_ne_nil (b := 1000000000) (by omega) hn
  have hl := List.length_pos_iff.2 hne
  have h := string_pos (Mth.dg 1000000000 n) v w h (Mth.dg_lt (by omega) n) hl (by
   have := Mth.dg_last (b := 1000000000) (by omega) n
   rw [List.getLast?_eq_getElem?, List.getElem?_eq_getElem (by omega)] at this
   rw [List.getElem?_eq_getElem (by omega)]
   intro e
   simp only [Option.getD_some] at e
   rw [e] at this
   exact this rfl) hs htab
  rwa [Mth.val_dg (by omega)] at h
end Go.Proofs.YtkcdgaijklhnaaaGreatDoor
