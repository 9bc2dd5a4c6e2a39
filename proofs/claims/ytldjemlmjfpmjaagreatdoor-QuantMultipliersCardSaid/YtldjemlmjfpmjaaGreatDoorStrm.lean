/-
  The stream: Reduced, Long, Rat, Loose.
-/
import Derived.Test.YtldjemlmjfpmjaaGreatDoorStra
import Derived.Test.YtldjemlmjfpmjaaGreatDoorRA
import Derived.Test.YtldjemlmjfpmjaaGreatDoorRString
import Derived.Test.YtldjemlmjfpmjaaGreatDoorFrac
import Derived.Deep.RegionHeld3
import Derived.Deep.QuietTactic
import Derived.BigQuiet
import Derived.Lib.MinMax
import Derived.Laws.IdiomStrings
namespace Go.Proofs.YtldjemlmjfpmjaaGreatDoor
open Go.RowKit
/-- a pair of short texts -/
def RatPost (w : World) (base : Nat) (e : Ending) (w' : World) : Prop := ∃ S T : ByteArray, e = .returned (.agg #[.string S, .string T]) ∧ S.size ≤ 70 ∧ T.size ≤ 70 ∧ Below base w w'

theorem itoa_short (u : Int) (w : World) (h1 : -9223372036854775808 ≤ u) (h2 : u ≤ 9223372036854775807) (htab : Tabs w) :
    Calls Tryz.prog 81 #[.int .i64 u] w fun e w' => ∃ S : ByteArray, e = .returned (.string S) ∧ S.size ≤ 20 ∧ Below w.heap.size w w' := by
  refine (Tryz.strconv_Itoa u h1 h2 w htab.2).mono ?_
  rintro e w' ⟨rfl, k, os, rfl⟩
  refine ⟨_, rfl, ?_, Lib.below_grow _ w (Nat.le_refl _) k os⟩
  rw [bytes_size, bytes_toList]
  unfold Lib.itoa
  have hlen : ∀ n : Nat, n < 10 ^ 19 → (Lib.decDigits n).length ≤ 19 := fun n hn => (Mth.pad_eq 19 n hn (by omega)).2
  split
  · have := hlen u.natAbs (by omega)
    simp; omega
  · have := hlen u.toNat (by omega)
    omega

theorem rbelow_drewN' {B : Nat} {a w : World} (h : Below B a w) (n : Nat) : Below B a (w.drewN n) := ⟨h.os, h.tape, h.output, h.size, h.block⟩

set_option maxHeartbeats 2000000 in
set_option maxRecDepth 100000 in
theorem reduced_any (n d : Int) (w : World) (h1 : -2147483648 ≤ n) (h2 : n ≤ 2147483647) (h3 : 1 ≤ d) (h4 : d ≤ 1000) (htab : Tabs w) :
    Calls Tryz.prog 32 #[.int .i64 n, .int .i64 d] w (RatPost w w.heap.size) := by
  have HT := Lib.hid htab
  obtain ⟨W, hW⟩ : ∃ W, W = w.alloc (.cells #[.string ⟨#[]⟩, .string ⟨#[]⟩] 45) := ⟨_, rfl⟩
  have hk : Blk W w.heap.size 45 #[.string ⟨#[]⟩, .string ⟨#[]⟩] := by rw [hW]; exact Blk.new w _ _
  have HK := Lib.hid hk
  have HBW : Hid (Below w.heap.size w W) := Lib.hid (by rw [hW]; exact (Below.refl _ w).alloc (Nat.le_refl _) _)
  have HTW := Lib.hid (HT.out.low HBW.out)
  have HW := Lib.hid hW
  clear htab hk hW
  go_enter Tryz.func32, Tryz.ntmps32
  go_wp2
  rw [← HW.out]
  go_loopw [5, 6] (fun a5 a6 wr => ∃ x y : Int, a5 = .int .i64 x ∧ a6 = .int .i64 y ∧ 0 ≤ x ∧ x ≤ 2147483648 ∧ 0 ≤ y ∧ y ≤ 2147483648 ∧ (1 ≤ x ∨ 1 ≤ y) ∧ ∃ k, wr = W.drewN k) (fun _ a6 _ => (intOf a6).toNat)
  case atStart => exact ⟨_, _, rfl, rfl, by omega, by omega, by omega, by omega, by omega, 0, rfl⟩
  case round =>
    obtain ⟨x, y, rfl, rfl, x1, x2, y1, y2, hxy, k, rfl⟩ := hrel
    by_cases hy : y = 0
    · subst hy
      have hx1 : 1 ≤ x := by omega
      have hx0 : (x == 0) = false := by simp; omega
      have hxm : (x == -1) = false := by simp; omega
      have n1 : (n.tdiv x).natAbs ≤ n.natAbs := by rw [Int.natAbs_tdiv]; exact Nat.div_le_self _ _
      have n2 : (d.tdiv x).natAbs ≤ d.natAbs := by rw [Int.natAbs_tdiv]; exact Nat.div_le_self _ _
      obtain ⟨q1, hq1⟩ : ∃ q, n.tdiv x = q := ⟨_, rfl⟩
      obtain ⟨q2, hq2⟩ : ∃ q, d.tdiv x = q := ⟨_, rfl⟩
      rw [hq1] at n1
      rw [hq2] at n2
      have hxz : ¬ (x = 0) := by omega
      have hxn : ¬ (x = -1) := by omega
      have w1' : IntKind.i64.wrap q1 = q1 := by rw [IntKind.wrap_i64]; omega
      have w2' : IntKind.i64.wrap q2 = q2 := by rw [IntKind.wrap_i64]; omega
      have HI1 := Lib.hid (fun W' hT => itoa_short q1 W' (by omega) (by omega) hT)
      have HI2 := Lib.hid (fun W' hT => itoa_short q2 W' (by omega) (by omega) hT)
      have tok1 : True := trivial
      have tok2 : True := trivial
      clear hxy n1 n2
      go_wp2_with fail
      go_region_held3 (fun _ => True) (trivial)
        (first
          | (go_at_call 81; have _t := tok1; refine (HI1.out _ (HTW.out.low (rbelow_drewN' (Below.refl _ W) _))).mono ?_; rintro e w1 ⟨S1, rfl, hS1, hB1⟩; have HC1 : Hid (Below W.heap.size W w1) := Lib.hid ((rbelow_drewN' (Below.refl _ W) _).trans hB1); clear hB1 tok1 _t)
          | (go_at_call 81; have _t := tok2; refine (HI2.out _ (HTW.out.low HC1.out)).mono ?_; rintro e w2 ⟨S2, rfl, hS2, hB2⟩; have HC2 : Hid (Below W.heap.size W w2) := Lib.hid (HC1.out.trans (hB2.mono HC1.out.size)); have hk := HK.out.low HC2.out; have c0 := hk.cell 0; have c1 := hk.cell 1; have f0 := hk.frozen 0; have f1 := hk.frozen 1; simp only [List.getElem?_toArray, List.getElem?_cons_zero, List.getElem?_cons_succ] at c0 c1; clear hB2 tok2 _t hk))
      go_wp2
      refine bodyPost_ret (v := .agg #[.string S1, .string S2]) (by simp [results, Tryz.results32, go_sem, c0, c1]) rfl ?_
      have hB := HBW.out.trans (HC2.out.mono HBW.out.size)
      exact ⟨S1, S2, rfl, by omega, by omega, (hB.setCell (p := ⟨w.heap.size, 0, none⟩) (Nat.le_refl _) _).setCell (p := ⟨w.heap.size, 1, none⟩) (Nat.le_refl _) _⟩
    · have hyp : 0 < y := by omega
      have hy0 : (y == 0) = false := by simp; omega
      have hym : (y == -1) = false := by simp; omega
      have t1 := Int.tmod_lt_of_pos x hyp
      have t2 := Int.tmod_nonneg y x1
      obtain ⟨r, hr⟩ : ∃ r, x.tmod y = r := ⟨_, rfl⟩
      rw [hr] at t1 t2
      have hyn : (y != 0) = true := by simp; omega
      clear hxy hy
      go_wp2_with fail
      go_quiet (fail)
      clear hr
      go_wp2
      go_roundw
      case rel => exact ⟨y, r, rfl, rfl, by omega, by omega, by omega, by omega, by omega, _, by rw [World.drewN_drewN]⟩
      case measure => simp [intOf]; omega
end Go.Proofs.YtldjemlmjfpmjaaGreatDoor

namespace Go.Proofs.YtldjemlmjfpmjaaGreatDoor
open Go.RowKit

theorem info_u8 : (Tryz.prog.info? 5).map (fun i => (i.zero, i.size, i.bytes)) = some (some (.int .u8 0), 1, 1) := by kernel_rfl

/-- a pair of short texts out of the stream -/
def LoosePost (w : World) (g c : Nat) (A : Option Addr) (xs : List Int) (a k : Int) (m : Nat) (e : Ending) (w' : World) : Prop :=
  ∃ S T : ByteArray, e = .returned (.agg #[.string S, .string T]) ∧ S.size ≤ m ∧ T.size ≤ m ∧ SP w g c A xs a k w'
theorem Strm.adv_blk {w w' : World} {g p : Nat} {t : TypeId} {cs : Array Value} (h : Adv w w' g) (hb : Blk w p t cs) (hne : p ≠ g) : Blk w' p t cs :=
  (h.1.block p hb.lt (by simpa using hne)).trans hb

theorem var?_only {w w' : World} {P : Program} {name : String} {p : Nat} {v : Array Value} {row : Option Nat} (hg : w.grownBy w' row) (hn : P.globalNamed name = some p) (hp : p < w.heap.size) (hr : row ≠ some p) (h : w.var? P name = some v) : w'.var? P name = some v := by
  unfold World.var? at h ⊢
  rw [hn] at h ⊢
  simp only [Option.bind_some] at h ⊢
  rw [hg.block p hp (fun e => hr e.symm)]
  exact h
theorem Tabs.only {w w' : World} {g : Nat} (h : Tabs w) (hg : w.grownBy w' (some g)) (hne : g ≠ 2) : Tabs w' :=
  ⟨Nat.lt_of_lt_of_le h.1 hg.size, var?_only hg (show Tryz.prog.globalNamed "internal/strconv.uint64pow10" = some 2 by kernel_rfl) h.1 (by intro e; injection e with e; exact hne e) h.2⟩
theorem conv_own {w : World} {base n : Nat} {v : Value} {l : List UInt8} (h : w.ownsRow base 5 1 v n (Lib.byteCells l)) (hl : l.length = n) (h0 : 0 < n) :
    ∃ g cap, v = .slice (some ⟨g, 0, none⟩) n cap ∧ (convert 72 9 (.slice (some ⟨g, 0, none⟩) n cap)).run Tryz.prog w = .ok (.string ⟨l.toArray⟩) w := by
  subst hl
  rcases h.2 with ⟨-, h2⟩ | ⟨g, cap, cur, rfl, -⟩
  · omega
  · refine ⟨g, cap, rfl, ?_⟩
    refine run_convert_bytes_back (P := Tryz.prog) w 72 9 5 ⟨g, 0, none⟩ cap l Tryz.underlying72 Tryz.underlying5 Tryz.underlying9 (fun j hj => ?_)
    rw [Addr.add_lit, Nat.zero_add, h.cellAt j (by omega)]
    simp [Lib.byteCells, List.getElem?_eq_getElem hj]

set_option maxHeartbeats 4000000 in
set_option maxRecDepth 100000 in
theorem long_any (w : World) (g c : Nat) (A : Option Addr) (xs : List Int) (a : Int) (hs : Strm w g A c xs a) (ha : 0 ≤ a) (ha2 : a ≤ 1000000000000) (htab : Tabs w) (hgt : g ≠ 2) :
    Calls Tryz.prog 79 #[.pointer (some ⟨g, 0, none⟩)] w (LoosePost w g c A xs a 4 65) := by
  obtain ⟨i0, hi, hz0, hz1, hz2⟩ := info_parts info_u8
  have hgl := hs.lt
  obtain ⟨W, hW⟩ : ∃ W, W = (w.alloc (.cells #[.string ⟨#[]⟩, .string ⟨#[]⟩] 45)).alloc (.cells #[.int .u8 49] 5) := ⟨_, rfl⟩
  have hBW : Below w.heap.size w W := by rw [hW]; exact ((Below.refl _ w).alloc (Nat.le_refl _) _).alloc (by simp) _
  have hk : Blk W w.heap.size 45 #[.string ⟨#[]⟩, .string ⟨#[]⟩] := by rw [hW]; exact (Blk.new w _ _).alloc _
  have hown : W.ownsRow (w.heap.size + 1) 5 1 (.slice (some ⟨w.heap.size + 1, 0, none⟩) 1 1) 1 (Lib.byteCells [49]) := by
    rw [hW]
    have h := World.ownsRow_lit (base := w.heap.size + 1) (e := 5) (size := 1) (w.alloc (.cells #[.string ⟨#[]⟩, .string ⟨#[]⟩] 45)) #[.int .u8 49] 1 (by simp) (by unfold maxLen; omega) (by simp)
    rw [World.size_alloc] at h
    exact h
  have HX := Lib.hid (range_any W g c A xs a 1 60 (hs.below hBW hgl) ha (by omega) (by omega) (by omega) (by omega))
  have HW := Lib.hid hW
  have HK := Lib.hid hk
  have HO := Lib.hid hown
  have HBW := Lib.hid hBW
  have HT := Lib.hid htab
  have HGT : Hid (g ≠ 2) := Lib.hid hgt
  have hWs : w.heap.size + 1 < W.heap.size := by rw [hW]; simp
  clear hs hW hk hown hBW htab
  go_enter Tryz.func79, Tryz.ntmps79
  go_wp2_with fail
  rw [← HW.out]
  refine HX.out.mono ?_
  rintro e w1 ⟨z, rfl, z1, z2, hs1, ha1⟩
  have hw1 : W.heap.size = w1.heap.size := ha1.2.1.symm
  have HS1 := Lib.hid hs1
  have HA1 := Lib.hid ha1
  have HK1 := Lib.hid (Strm.adv_blk ha1 HK.out (by omega))
  have HO1 : Hid (w1.ownsRow (w.heap.size + 1) 5 1 (.slice (some ⟨w.heap.size + 1, 0, none⟩) 1 1) 1 (Lib.byteCells [49])) := Lib.hid (HO.out.kept ha1.1 (Or.inr (by simp [Value.ownBlock]; omega)))
  clear hs1 ha1
  go_wp2
  go_loopw [3, 8] (fun a3 a8 wr => ∃ (k : Nat) (l : List UInt8), a8 = .int .i64 k ∧ (k : Int) ≤ z ∧ l.length = k + 1 ∧ wr.ownsRow (w.heap.size + 1) 5 1 a3 (k + 1) (Lib.byteCells l) ∧ Below (w.heap.size + 1) w1 wr) (fun _ a8 _ => 64 - (intOf a8).toNat)
  case atStart => exact ⟨0, [49], rfl, by omega, rfl, HO1.out, Below.refl _ _⟩
  case round =>
    obtain ⟨k, l, rfl, hk, hl, hown, hB⟩ := hrel
    have HL := Lib.hid hl
    have hBs := hB.size
    clear hl
    by_cases hlt : (k : Int) < z
    · go_wp2_with (at_builtin; go_must (refine wpList_append_own _ rfl _ _ 72 rfl (w.heap.size + 1) 5 i0 (.int .u8 0) 1 1 Tryz.underlying72 hi hz0 hz1 hz2 rfl (by decide) _ _ _ rfl (hown.alloc _) ⟨wr.heap.size, 0, none⟩ 1 1 [.int .u8 48] rfl rfl (cell_one_new _ _ _) (by simp [Value.oneCell']) (by unfold maxLen; omega) (by omega) (by simp; omega) ?_); intro v' w2 hown' hgrow _)
      go_roundw
      case rel =>
        refine ⟨k + 1, l ++ [48], by go_num, by omega, by simp [HL.out], ?_, (hB.alloc (by omega) _).grown hgrow (by simp; omega) (fun k hk => (hown.lt k hk).1)⟩
        have h := hown'
        rw [show Lib.byteCells l ++ [Value.int IntKind.u8 48] = Lib.byteCells (l ++ [48]) by simp [Lib.byteCells]] at h
        exact h
      case measure => simp [intOf]; omega
    · obtain rfl : z = (k : Int) := by omega
      have HLT := Lib.hid hown.lt
      have HBR := Lib.hid hB
      go_wp2_with (at_builtin; go_must (refine wpList_append_own _ rfl _ _ 72 rfl (w.heap.size + 1) 5 i0 (.int .u8 0) 1 1 Tryz.underlying72 hi hz0 hz1 hz2 rfl (by decide) _ _ _ rfl (hown.alloc _) ⟨wr.heap.size, 0, none⟩ 1 1 [.int .u8 49] rfl rfl (cell_one_new _ _ _) (by simp [Value.oneCell']) (by unfold maxLen; omega) (by omega) (by simp; omega) ?_); intro v' w2 hown' hgrow _; have hown2 : w2.ownsRow (w.heap.size + 1) 5 1 v' (k + 1 + 1) (Lib.byteCells (l ++ [49])) := (by rw [show Lib.byteCells (l ++ [49]) = Lib.byteCells l ++ [Value.int IntKind.u8 49] by simp [Lib.byteCells]]; exact hown'); obtain ⟨g2, cap2, rfl, hcv⟩ := conv_own hown2 (by simp [HL.out]) (by omega); have HB2 : Hid (Below (w.heap.size + 1) w1 w2) := Lib.hid ((HBR.out.alloc (by omega) _).grown hgrow (by simp; omega) (fun k hk => (HLT.out k hk).1)); clear hown' hown2 hgrow)
      have hw2 := HB2.out.size
      have hsz : (ByteArray.mk (l ++ [49]).toArray).size ≤ 62 := by rw [bytes_size, bytes_toList, List.length_append, HL.out]; simp; omega
      obtain ⟨S0, hS0⟩ : ∃ S0, ByteArray.mk (l ++ [49]).toArray = S0 := ⟨_, rfl⟩
      rw [hS0] at hsz ⊢
      have HKP := Lib.hid (Blk.new w2 45 #[.string S0, .string ⟨#[49]⟩])
      have HK3 : Hid (Blk (w2.alloc (.cells #[.string S0, .string ⟨#[49]⟩] 45)) w.heap.size 45 #[.string ⟨#[]⟩, .string ⟨#[]⟩]) := Lib.hid ((HK1.out.below HB2.out (by omega)).alloc _)
      have HS3 : Hid (Strm (w2.alloc (.cells #[.string S0, .string ⟨#[49]⟩] 45)) g A c xs (a + 1)) := Lib.hid (HS1.out.below (HB2.out.alloc (by omega) _) (by omega))
      have HG3 : Hid (w.grownBy (w2.alloc (.cells #[.string S0, .string ⟨#[49]⟩] 45)) (some g)) := Lib.hid (only_then_below (only_trans (only_of_low HBW.out) HA1.out.1) (HB2.out.alloc (by omega) _) (by omega))
      have HFL := Lib.hid (flip_any _ g c A xs (a + 1) 2 HS3.out (by omega) (by omega) (by omega) (by omega))
      have hp1 : ¬ (w.heap.size = w2.heap.size) := by omega
      have hp2 : ¬ (w2.heap.size = w.heap.size) := by omega
      clear hcv hS0 hown hB
      refine HFL.out.mono ?_
      rintro e w4 ⟨b1, rfl, hs4, ha4⟩
      have HKP4 := Lib.hid (Strm.adv_blk ha4 HKP.out (by omega))
      have HK4 := Lib.hid (Strm.adv_blk ha4 HK3.out (by omega))
      have HG4 := Lib.hid (only_trans HG3.out ha4.1)
      have HS4 := Lib.hid hs4
      have hw4 := ha4.1.size
      simp only [World.size_alloc] at hw4
      clear hs4 ha4
      cases b1 with
      | true =>
        have HRG := Lib.hid (range_any w4 g c A xs (a + 1 + 1) 0 20 HS4.out (by omega) (by omega) (by omega) (by omega) (by omega))
        go_wp2_with fail
        refine HRG.out.mono ?_
        rintro e w5 ⟨r, rfl, r1, r2, hs5, ha5⟩
        have HKP5 := Lib.hid (Strm.adv_blk ha5 HKP4.out (by omega))
        have HK5 := Lib.hid (Strm.adv_blk ha5 HK4.out (by omega))
        have HG5 := Lib.hid (only_trans HG4.out ha5.1)
        have HS5 := Lib.hid hs5
        have hw5 := ha5.1.size
        have HT5 : Hid (Tabs w5) := Lib.hid (HT.out.only HG5.out HGT.out)
        clear hs5 ha5
        go_wp2_with fail
        refine (itoa_short _ _ (by first | omega | (unfold wrap64; omega)) (by first | omega | (unfold wrap64; omega)) HT5.out).mono ?_
        rintro e w6 ⟨T, rfl, hT, hB6⟩
        have hk6 := HKP5.out.low hB6
        have c0 := hk6.cell 0
        have c1 := hk6.cell 1
        have f0 := hk6.frozen 0
        have f1 := hk6.frozen 1
        simp only [List.getElem?_toArray, List.getElem?_cons_zero, List.getElem?_cons_succ] at c0 c1
        have HKP6 : Hid (Blk (w6.setCell ⟨w2.heap.size, 1, none⟩ (.string T)) w2.heap.size 45 #[.string S0, .string T]) := Lib.hid (hk6.set 1 (.string T))
        have HK6 : Hid (Blk (w6.setCell ⟨w2.heap.size, 1, none⟩ (.string T)) w.heap.size 45 #[.string ⟨#[]⟩, .string ⟨#[]⟩]) := Lib.hid ((Below.heap_setCell w6 _ _ _ hp1).trans (HK5.out.low hB6))
        have HS6 : Hid (Strm (w6.setCell ⟨w2.heap.size, 1, none⟩ (.string T)) g A c xs (a + 1 + 1 + 1)) := Lib.hid ((HS5.out.below hB6 HS5.out.lt).set_far (by omega) _)
        have HG6 : Hid (w.grownBy (w6.setCell ⟨w2.heap.size, 1, none⟩ (.string T)) (some g)) := Lib.hid (grown_set (only_then_below HG5.out hB6 HG5.out.size) (by omega) _)
        have HFL2 := Lib.hid (flip_any _ g c A xs (a + 1 + 1 + 1) 2 HS6.out (by omega) (by omega) (by omega) (by omega))
        have hw6 := hB6.size
        clear hB6 hk6
        go_wp2_with fail
        refine HFL2.out.mono ?_
        rintro e w7 ⟨b2, rfl, hs7, ha7⟩
        have hkp7 := Strm.adv_blk ha7 HKP6.out (by omega)
        have hk7 := Strm.adv_blk ha7 HK6.out (by omega)
        have HG7 := Lib.hid (only_trans HG6.out ha7.1)
        have HS7 := Lib.hid hs7
        have c0 := hkp7.cell 0
        have c1 := hkp7.cell 1
        have f0 := hkp7.frozen 0
        have f1 := hkp7.frozen 1
        have d0 := hk7.cell 0
        have d1 := hk7.cell 1
        have g0 := hk7.frozen 0
        have g1 := hk7.frozen 1
        simp only [List.getElem?_toArray, List.getElem?_cons_zero, List.getElem?_cons_succ] at c0 c1 d0 d1
        have hw7 := hk7.lt
        clear hs7 ha7 hkp7 hk7
        cases b2 with
        | false =>
          go_wp2
          refine bodyPost_ret (v := .agg #[.string S0, .string T]) (by simp [results, Tryz.results79, go_sem, d0, d1]) rfl ?_
          exact ⟨_, _, rfl, by omega, by omega, ⟨_, by omega, by omega, (HS7.out.set_far (by omega) _).set_far (by omega) _⟩, grown_set (grown_set HG7.out (Nat.le_refl _) _) (Nat.le_refl _) _⟩
        | true =>
          go_wp2
          refine bodyPost_ret (v := .agg #[.string (⟨#[45]⟩ ++ S0), .string T]) (by simp [results, Tryz.results79, go_sem, d0, d1]) rfl ?_
          exact ⟨_, _, rfl, by rw [ByteArray.size_append]; show 1 + S0.size ≤ 65; omega, by omega, ⟨_, by omega, by omega, ((HS7.out.set_far (by omega) _).set_far (by omega) _).set_far (by omega) _⟩, grown_set (grown_set (grown_set HG7.out (by omega) _) (Nat.le_refl _) _) (Nat.le_refl _) _⟩

      | false =>
        have HFL2 := Lib.hid (flip_any w4 g c A xs (a + 1 + 1) 2 HS4.out (by omega) (by omega) (by omega) (by omega))
        go_wp2_with fail
        refine HFL2.out.mono ?_
        rintro e w7 ⟨b2, rfl, hs7, ha7⟩
        have hkp7 := Strm.adv_blk ha7 HKP4.out (by omega)
        have hk7 := Strm.adv_blk ha7 HK4.out (by omega)
        have HG7 := Lib.hid (only_trans HG4.out ha7.1)
        have HS7 := Lib.hid hs7
        have c0 := hkp7.cell 0
        have c1 := hkp7.cell 1
        have f0 := hkp7.frozen 0
        have f1 := hkp7.frozen 1
        have d0 := hk7.cell 0
        have d1 := hk7.cell 1
        have g0 := hk7.frozen 0
        have g1 := hk7.frozen 1
        simp only [List.getElem?_toArray, List.getElem?_cons_zero, List.getElem?_cons_succ] at c0 c1 d0 d1
        have hw7 := hk7.lt
        clear hs7 ha7 hkp7 hk7
        cases b2 with
        | false =>
          go_wp2
          refine bodyPost_ret (v := .agg #[.string S0, .string ⟨#[49]⟩]) (by simp [results, Tryz.results79, go_sem, d0, d1]) rfl ?_
          exact ⟨_, _, rfl, by omega, by decide, ⟨_, by omega, by omega, (HS7.out.set_far (by omega) _).set_far (by omega) _⟩, grown_set (grown_set HG7.out (Nat.le_refl _) _) (Nat.le_refl _) _⟩
        | true =>
          go_wp2
          refine bodyPost_ret (v := .agg #[.string (⟨#[45]⟩ ++ S0), .string ⟨#[49]⟩]) (by simp [results, Tryz.results79, go_sem, d0, d1]) rfl ?_
          exact ⟨_, _, rfl, by rw [ByteArray.size_append]; show 1 + S0.size ≤ 65; omega, by decide, ⟨_, by omega, by omega, ((HS7.out.set_far (by omega) _).set_far (by omega) _).set_far (by omega) _⟩, grown_set (grown_set (grown_set HG7.out (by omega) _) (Nat.le_refl _) _) (Nat.le_refl _) _⟩

end Go.Proofs.YtldjemlmjfpmjaaGreatDoor

namespace Go.Proofs.YtldjemlmjfpmjaaGreatDoor
open Go.RowKit

set_option maxHeartbeats 4000000 in
set_option maxRecDepth 100000 in
theorem srat_any (w : World) (g c : Nat) (A : Option Addr) (xs : List Int) (a : Int) (hs : Strm w g A c xs a) (ha : 0 ≤ a) (ha2 : a ≤ 1000000000) (htab : Tabs w) (hgt : g ≠ 2) :
    Calls Tryz.prog 28 #[.pointer (some ⟨g, 0, none⟩)] w (LoosePost w g c A xs a 10 70) := by
  have hgl := hs.lt
  obtain ⟨W, hW⟩ : ∃ W, W = w.alloc (.cells #[.string ⟨#[]⟩, .string ⟨#[]⟩] 45) := ⟨_, rfl⟩
  have hBW : Below w.heap.size w W := by rw [hW]; exact (Below.refl _ w).alloc (Nat.le_refl _) _
  have hk : Blk W w.heap.size 45 #[.string ⟨#[]⟩, .string ⟨#[]⟩] := by rw [hW]; exact Blk.new w _ _
  have HX := Lib.hid (range_any W g c A xs a (-20) 20 (hs.below hBW hgl) ha (by omega) (by omega) (by omega) (by omega))
  have HW := Lib.hid hW
  have HK := Lib.hid hk
  have HBW := Lib.hid hBW
  have HT := Lib.hid htab
  have HGT : Hid (g ≠ 2) := Lib.hid hgt
  clear hs hW hk hBW htab hgt
  go_enter Tryz.func28, Tryz.ntmps28
  go_wp2_with fail
  rw [← HW.out]
  refine HX.out.mono ?_
  rintro e w1 ⟨n, rfl, n1, n2, hs1, ha1⟩
  have HK1 := Lib.hid (Strm.adv_blk ha1 HK.out (by omega))
  have HG1 : Hid (w.grownBy w1 (some g)) := Lib.hid (only_trans (only_of_low HBW.out) ha1.1)
  have HX1 := Lib.hid (next_any w1 g c A xs (a + 1) 6 hs1 (by omega) (by omega) (by omega) (by omega))
  clear hs1 ha1
  go_wp2_with fail
  refine HX1.out.mono ?_
  rintro e w2 ⟨z, rfl, z1, z2, hs2, ha2'⟩
  have HK2 := Lib.hid (Strm.adv_blk ha2' HK1.out (by omega))
  have HG2 : Hid (w.grownBy w2 (some g)) := Lib.hid (only_trans HG1.out ha2'.1)
  have HS2 := Lib.hid hs2
  clear hs2 ha2'
  rcases (show z = 0 ∨ z = 1 ∨ z = 2 ∨ z = 3 ∨ (z ≠ 0 ∧ z ≠ 1 ∧ z ≠ 2 ∧ z ≠ 3) by omega) with rfl | rfl | rfl | rfl | ⟨m0, m1, m2, m3⟩
  · have HX2 := Lib.hid (range_any w2 g c A xs (a + 1 + 1) 1 9 HS2.out (by omega) (by omega) (by omega) (by omega) (by omega))
    go_wp2_with fail
    refine HX2.out.mono ?_
    rintro e w3 ⟨d, rfl, d1', d2', hs3, ha3⟩
    have HK3 := Lib.hid (Strm.adv_blk ha3 HK2.out (by omega))
    have HG3 : Hid (w.grownBy w3 (some g)) := Lib.hid (only_trans HG2.out ha3.1)
    have HS3 := Lib.hid hs3
    clear hs3 ha3
    have hr := reduced_any n d w3 (by omega) (by omega) (by omega) (by omega) (HT.out.only HG3.out HGT.out)
    have HR := Lib.hid hr
    clear hr
    go_wp2_with fail
    refine HR.out.mono ?_
    rintro e w9 ⟨S, T, rfl, hS, hT, hB9⟩
    have hk9 := HK3.out.low hB9
    have d0 := hk9.cell 0
    have d1 := hk9.cell 1
    have g0 := hk9.frozen 0
    have g1 := hk9.frozen 1
    simp only [List.getElem?_toArray, List.getElem?_cons_zero, List.getElem?_cons_succ] at d0 d1
    have HG9 := Lib.hid (only_then_below HG3.out hB9 HG3.out.size)
    have HS9 := Lib.hid (HS3.out.below hB9 HS3.out.lt)
    clear hB9 hk9
    go_wp2
    refine bodyPost_ret (v := .agg #[.string S, .string T]) (by simp [results, Tryz.results28, go_sem, d0, d1]) rfl ?_
    exact ⟨_, _, rfl, by omega, by omega, ⟨_, by omega, by omega, (HS9.out.set_far (by omega) _).set_far (by omega) _⟩, grown_set (grown_set HG9.out (Nat.le_refl _) _) (Nat.le_refl _) _⟩
  · have HKL : Hid ((w2.alloc (.cells (i64s [2, 4, 8, 3, 7, 1000]).toArray 3)).heap[w2.heap.size]? = some (.cells (i64s [2, 4, 8, 3, 7, 1000]).toArray 3 (0, 0))) := Lib.hid (heap_alloc_new w2 _)
    have HS2' : Hid (Strm (w2.alloc (.cells (i64s [2, 4, 8, 3, 7, 1000]).toArray 3)) g A c xs (a + 1 + 1)) := Lib.hid (HS2.out.below ((Below.refl _ w2).alloc (Nat.le_refl _) _) HS2.out.lt)
    have HKK2 : Hid (Blk (w2.alloc (.cells (i64s [2, 4, 8, 3, 7, 1000]).toArray 3)) w.heap.size 45 #[.string ⟨#[]⟩, .string ⟨#[]⟩]) := Lib.hid (HK2.out.alloc _)
    have HG2' : Hid (w.grownBy (w2.alloc (.cells (i64s [2, 4, 8, 3, 7, 1000]).toArray 3)) (some g)) := Lib.hid (only_then_below HG2.out ((Below.refl w2.heap.size w2).alloc (Nat.le_refl _) _) HG2.out.size)
    have HX2 := Lib.hid (pick_any [2, 4, 8, 3, 7, 1000] w2.heap.size _ g c A xs (a + 1 + 1) 1 1000 HS2'.out (by omega) (by omega) HKL.out (by have := HS2.out.lt; omega) (by simp) (by simp) (by decide))
    go_wp2_with fail
    refine HX2.out.mono ?_
    rintro e w3 ⟨d, rfl, d1', d2', ⟨b, b1, b2, hs3⟩, hg3⟩
    have HK3 : Hid (Blk w3 w.heap.size 45 #[.string ⟨#[]⟩, .string ⟨#[]⟩]) := Lib.hid ((hg3.block _ HKK2.out.lt (by simp; omega)).trans HKK2.out)
    have HG3 : Hid (w.grownBy w3 (some g)) := Lib.hid (only_trans HG2'.out hg3)
    have HS3 := Lib.hid hs3
    clear hs3 hg3
    have hr := reduced_any n d w3 (by omega) (by omega) (by omega) (by omega) (HT.out.only HG3.out HGT.out)
    have HR := Lib.hid hr
    clear hr
    go_wp2_with fail
    refine HR.out.mono ?_
    rintro e w9 ⟨S, T, rfl, hS, hT, hB9⟩
    have hk9 := HK3.out.low hB9
    have d0 := hk9.cell 0
    have d1 := hk9.cell 1
    have g0 := hk9.frozen 0
    have g1 := hk9.frozen 1
    simp only [List.getElem?_toArray, List.getElem?_cons_zero, List.getElem?_cons_succ] at d0 d1
    have HG9 := Lib.hid (only_then_below HG3.out hB9 HG3.out.size)
    have HS9 := Lib.hid (HS3.out.below hB9 HS3.out.lt)
    clear hB9 hk9
    go_wp2
    refine bodyPost_ret (v := .agg #[.string S, .string T]) (by simp [results, Tryz.results28, go_sem, d0, d1]) rfl ?_
    exact ⟨_, _, rfl, by omega, by omega, ⟨_, by omega, by omega, (HS9.out.set_far (by omega) _).set_far (by omega) _⟩, grown_set (grown_set HG9.out (Nat.le_refl _) _) (Nat.le_refl _) _⟩
  · have HX2 := Lib.hid (word_any w2 g c A xs (a + 1 + 1) HS2.out (by omega) (by omega))
    go_wp2_with fail
    refine HX2.out.mono ?_
    rintro e w3 ⟨m, rfl, m1', m2', ⟨b, b1, b2, hs3⟩, hg3⟩
    have HK3 : Hid (Blk w3 w.heap.size 45 #[.string ⟨#[]⟩, .string ⟨#[]⟩]) := Lib.hid ((hg3.block _ HK2.out.lt (by simp; omega)).trans HK2.out)
    have HG3 : Hid (w.grownBy w3 (some g)) := Lib.hid (only_trans HG2.out hg3)
    have HX3 := Lib.hid (range_any w3 g c A xs b 1 99 hs3 (by omega) (by omega) (by omega) (by omega) (by omega))
    clear hs3 hg3
    go_wp2_with fail
    refine HX3.out.mono ?_
    rintro e w4 ⟨d, rfl, d1', d2', hs4, ha4⟩
    have HK4 := Lib.hid (Strm.adv_blk ha4 HK3.out (by omega))
    have HG4 : Hid (w.grownBy w4 (some g)) := Lib.hid (only_trans HG3.out ha4.1)
    have HS4 := Lib.hid hs4
    clear hs4 ha4
    have hr := reduced_any m d w4 (by omega) (by omega) (by omega) (by omega) (HT.out.only HG4.out HGT.out)
    have HR := Lib.hid hr
    clear hr
    go_wp2_with fail
    refine HR.out.mono ?_
    rintro e w9 ⟨S, T, rfl, hS, hT, hB9⟩
    have hk9 := HK4.out.low hB9
    have d0 := hk9.cell 0
    have d1 := hk9.cell 1
    have g0 := hk9.frozen 0
    have g1 := hk9.frozen 1
    simp only [List.getElem?_toArray, List.getElem?_cons_zero, List.getElem?_cons_succ] at d0 d1
    have HG9 := Lib.hid (only_then_below HG4.out hB9 HG4.out.size)
    have HS9 := Lib.hid (HS4.out.below hB9 HS4.out.lt)
    clear hB9 hk9
    go_wp2
    refine bodyPost_ret (v := .agg #[.string S, .string T]) (by simp [results, Tryz.results28, go_sem, d0, d1]) rfl ?_
    exact ⟨_, _, rfl, by omega, by omega, ⟨_, by omega, by omega, (HS9.out.set_far (by omega) _).set_far (by omega) _⟩, grown_set (grown_set HG9.out (Nat.le_refl _) _) (Nat.le_refl _) _⟩
  · have HX2 := Lib.hid (long_any w2 g c A xs (a + 1 + 1) HS2.out (by omega) (by omega) (HT.out.only HG2.out HGT.out) HGT.out)
    go_wp2_with fail
    refine HX2.out.mono ?_
    rintro e w3 ⟨S, T, rfl, hS, hT, ⟨b, b1, b2, hs3⟩, hg3⟩
    have hk3 : Blk w3 w.heap.size 45 #[.string ⟨#[]⟩, .string ⟨#[]⟩] := (hg3.block _ HK2.out.lt (by simp; omega)).trans HK2.out
    have HG3 : Hid (w.grownBy w3 (some g)) := Lib.hid (only_trans HG2.out hg3)
    have d0 := hk3.cell 0
    have d1 := hk3.cell 1
    have g0 := hk3.frozen 0
    have g1 := hk3.frozen 1
    simp only [List.getElem?_toArray, List.getElem?_cons_zero, List.getElem?_cons_succ] at d0 d1
    have HS3 := Lib.hid hs3
    clear hs3 hg3 hk3
    go_wp2
    refine bodyPost_ret (v := .agg #[.string S, .string T]) (by simp [results, Tryz.results28, go_sem, d0, d1]) rfl ?_
    exact ⟨_, _, rfl, by omega, by omega, ⟨_, by omega, by omega, (HS3.out.set_far (by omega) _).set_far (by omega) _⟩, grown_set (grown_set HG3.out (Nat.le_refl _) _) (Nat.le_refl _) _⟩
  · have q0 : (z == 0) = false := by simpa using m0
    have q1 : (z == 1) = false := by simpa using m1
    have q2 : (z == 2) = false := by simpa using m2
    have q3 : (z == 3) = false := by simpa using m3
    clear m0 m1 m2 m3
    have hr := reduced_any n 1 w2 (by omega) (by omega) (by omega) (by omega) (HT.out.only HG2.out HGT.out)
    have HR := Lib.hid hr
    clear hr
    go_wp2_with fail
    refine HR.out.mono ?_
    rintro e w9 ⟨S, T, rfl, hS, hT, hB9⟩
    have hk9 := HK2.out.low hB9
    have d0 := hk9.cell 0
    have d1 := hk9.cell 1
    have g0 := hk9.frozen 0
    have g1 := hk9.frozen 1
    simp only [List.getElem?_toArray, List.getElem?_cons_zero, List.getElem?_cons_succ] at d0 d1
    have HG9 := Lib.hid (only_then_below HG2.out hB9 HG2.out.size)
    have HS9 := Lib.hid (HS2.out.below hB9 HS2.out.lt)
    clear hB9 hk9
    go_wp2
    refine bodyPost_ret (v := .agg #[.string S, .string T]) (by simp [results, Tryz.results28, go_sem, d0, d1]) rfl ?_
    exact ⟨_, _, rfl, by omega, by omega, ⟨_, by omega, by omega, (HS9.out.set_far (by omega) _).set_far (by omega) _⟩, grown_set (grown_set HG9.out (Nat.le_refl _) _) (Nat.le_refl _) _⟩
end Go.Proofs.YtldjemlmjfpmjaaGreatDoor

namespace Go.Proofs.YtldjemlmjfpmjaaGreatDoor
open Go.RowKit

set_option maxHeartbeats 4000000 in
set_option maxRecDepth 100000 in
theorem loose_any (w : World) (g c : Nat) (A : Option Addr) (xs : List Int) (a : Int) (hs : Strm w g A c xs a) (ha : 0 ≤ a) (ha2 : a ≤ 1000000000) (htab : Tabs w) (hgt : g ≠ 2) :
    Calls Tryz.prog 21 #[.pointer (some ⟨g, 0, none⟩)] w (LoosePost w g c A xs a 11 71) := by
  have hgl := hs.lt
  obtain ⟨W, hW⟩ : ∃ W, W = w.alloc (.cells #[.string ⟨#[]⟩, .string ⟨#[]⟩] 45) := ⟨_, rfl⟩
  have hBW : Below w.heap.size w W := by rw [hW]; exact (Below.refl _ w).alloc (Nat.le_refl _) _
  have hk : Blk W w.heap.size 45 #[.string ⟨#[]⟩, .string ⟨#[]⟩] := by rw [hW]; exact Blk.new w _ _
  have HX := Lib.hid (srat_any W g c A xs a (hs.below hBW hgl) ha ha2 (htab.low hBW) hgt)
  have HW := Lib.hid hW
  have HK := Lib.hid hk
  have HBW := Lib.hid hBW
  have hWs : w.heap.size < W.heap.size := hk.lt
  clear hs hW hk hBW htab hgt
  go_enter Tryz.func21, Tryz.ntmps21
  go_wp2_with fail
  rw [← HW.out]
  refine HX.out.mono ?_
  rintro e w1 ⟨S, T, rfl, hS, hT, ⟨b, b1, b2, hs1⟩, hg1⟩
  have hw1 := hg1.size
  have hk1 : Blk w1 w.heap.size 45 #[.string ⟨#[]⟩, .string ⟨#[]⟩] := (hg1.block _ HK.out.lt (by simp; omega)).trans HK.out
  have HP3 := Lib.hid (Blk.new w1 45 #[.string S, .string T])
  have HK3 : Hid (Blk (w1.alloc (.cells #[.string S, .string T] 45)) w.heap.size 45 #[.string ⟨#[]⟩, .string ⟨#[]⟩]) := Lib.hid (hk1.alloc _)
  have HG3 : Hid (w.grownBy (w1.alloc (.cells #[.string S, .string T] 45)) (some g)) := Lib.hid (only_then_below (only_trans (only_of_low HBW.out) hg1) ((Below.refl w1.heap.size w1).alloc (Nat.le_refl _) _) (by omega))
  have HS3 : Hid (Strm (w1.alloc (.cells #[.string S, .string T] 45)) g A c xs b) := Lib.hid (hs1.below ((Below.refl w1.heap.size w1).alloc (Nat.le_refl _) _) hs1.lt)
  have HX1 := Lib.hid (next_any _ g c A xs b 12 HS3.out (by omega) (by omega) (by omega) (by omega))
  clear hs1 hg1 hk1
  go_wp2_with fail
  refine HX1.out.mono ?_
  rintro e w2 ⟨z, rfl, z1, z2, hs2, ha2'⟩
  have hkp := Strm.adv_blk ha2' HP3.out (by omega)
  have hk2 := Strm.adv_blk ha2' HK3.out (by omega)
  have HG2 : Hid (w.grownBy w2 (some g)) := Lib.hid (only_trans HG3.out ha2'.1)
  have HS2 := Lib.hid hs2
  have c0 := hkp.cell 0
  have c1 := hkp.cell 1
  have f0 := hkp.frozen 0
  have f1 := hkp.frozen 1
  have d0 := hk2.cell 0
  have d1 := hk2.cell 1
  have g0 := hk2.frozen 0
  have g1 := hk2.frozen 1
  simp only [List.getElem?_toArray, List.getElem?_cons_zero, List.getElem?_cons_succ] at c0 c1 d0 d1
  have hp1 : ¬ (w.heap.size = w1.heap.size) := by omega
  have hp2 : ¬ (w1.heap.size = w.heap.size) := by omega
  have hw2 := hkp.lt
  clear hs2 ha2' hkp hk2
  rcases (show z = 0 ∨ z = 1 ∨ z = 2 ∨ z = 3 ∨ z = 4 ∨ z = 5 ∨ z = 6 ∨ (z ≠ 0 ∧ z ≠ 1 ∧ z ≠ 2 ∧ z ≠ 3 ∧ z ≠ 4 ∧ z ≠ 5 ∧ z ≠ 6) by omega) with rfl | rfl | rfl | rfl | rfl | rfl | rfl | ⟨m0, m1, m2, m3, m4, m5, m6⟩
  · go_wp2
    refine bodyPost_ret (v := .agg #[.string ⟨#[]⟩, .string ⟨#[]⟩]) (by simp [results, Tryz.results21, go_sem, d0, d1]) rfl ?_
    exact ⟨_, _, rfl, by decide, by decide, ⟨_, by omega, by omega, ((HS2.out.set_far (by omega) _).set_far (by omega) _)⟩, (grown_set (grown_set HG2.out (by omega) _) (by omega) _)⟩
  · go_wp2
    refine bodyPost_ret (v := .agg #[.string (⟨#[48]⟩ ++ S), .string T]) (by simp [results, Tryz.results21, go_sem, d0, d1]) rfl ?_
    exact ⟨_, _, rfl, by rw [ByteArray.size_append]; first | (show 1 + S.size ≤ 71; omega) | (show S.size + 1 ≤ 71; omega) | (show 1 + T.size ≤ 71; omega) | (show T.size + 1 ≤ 71; omega), by omega, ⟨_, by omega, by omega, (((HS2.out.set_far (by omega) _).set_far (by omega) _).set_far (by omega) _)⟩, (grown_set (grown_set (grown_set HG2.out (by omega) _) (by omega) _) (by omega) _)⟩
  · go_wp2
    refine bodyPost_ret (v := .agg #[.string S, .string (T ++ ⟨#[48]⟩)]) (by simp [results, Tryz.results21, go_sem, d0, d1]) rfl ?_
    exact ⟨_, _, rfl, by omega, by rw [ByteArray.size_append]; first | (show 1 + S.size ≤ 71; omega) | (show S.size + 1 ≤ 71; omega) | (show 1 + T.size ≤ 71; omega) | (show T.size + 1 ≤ 71; omega), ⟨_, by omega, by omega, (((HS2.out.set_far (by omega) _).set_far (by omega) _).set_far (by omega) _)⟩, (grown_set (grown_set (grown_set HG2.out (by omega) _) (by omega) _) (by omega) _)⟩
  · go_wp2
    refine bodyPost_ret (v := .agg #[.string (⟨#[45]⟩ ++ S), .string T]) (by simp [results, Tryz.results21, go_sem, d0, d1]) rfl ?_
    exact ⟨_, _, rfl, by rw [ByteArray.size_append]; first | (show 1 + S.size ≤ 71; omega) | (show S.size + 1 ≤ 71; omega) | (show 1 + T.size ≤ 71; omega) | (show T.size + 1 ≤ 71; omega), by omega, ⟨_, by omega, by omega, (((HS2.out.set_far (by omega) _).set_far (by omega) _).set_far (by omega) _)⟩, (grown_set (grown_set (grown_set HG2.out (by omega) _) (by omega) _) (by omega) _)⟩
  · go_wp2
    refine bodyPost_ret (v := .agg #[.string S, .string (⟨#[45]⟩ ++ T)]) (by simp [results, Tryz.results21, go_sem, d0, d1]) rfl ?_
    exact ⟨_, _, rfl, by omega, by rw [ByteArray.size_append]; first | (show 1 + S.size ≤ 71; omega) | (show S.size + 1 ≤ 71; omega) | (show 1 + T.size ≤ 71; omega) | (show T.size + 1 ≤ 71; omega), ⟨_, by omega, by omega, (((HS2.out.set_far (by omega) _).set_far (by omega) _).set_far (by omega) _)⟩, (grown_set (grown_set (grown_set HG2.out (by omega) _) (by omega) _) (by omega) _)⟩
  · go_wp2
    refine bodyPost_ret (v := .agg #[.string T, .string S]) (by simp [results, Tryz.results21, go_sem, d0, d1]) rfl ?_
    exact ⟨_, _, rfl, by omega, by omega, ⟨_, by omega, by omega, ((((HS2.out.set_far (by omega) _).set_far (by omega) _).set_far (by omega) _).set_far (by omega) _)⟩, (grown_set (grown_set (grown_set (grown_set HG2.out (by omega) _) (by omega) _) (by omega) _) (by omega) _)⟩
  · go_wp2
    refine bodyPost_ret (v := .agg #[.string (S ++ ⟨#[120]⟩), .string T]) (by simp [results, Tryz.results21, go_sem, d0, d1]) rfl ?_
    exact ⟨_, _, rfl, by rw [ByteArray.size_append]; first | (show 1 + S.size ≤ 71; omega) | (show S.size + 1 ≤ 71; omega) | (show 1 + T.size ≤ 71; omega) | (show T.size + 1 ≤ 71; omega), by omega, ⟨_, by omega, by omega, (((HS2.out.set_far (by omega) _).set_far (by omega) _).set_far (by omega) _)⟩, (grown_set (grown_set (grown_set HG2.out (by omega) _) (by omega) _) (by omega) _)⟩
  · have q0 : (z == 0) = false := by simpa using m0
    have q1 : (z == 1) = false := by simpa using m1
    have q2 : (z == 2) = false := by simpa using m2
    have q3 : (z == 3) = false := by simpa using m3
    have q4 : (z == 4) = false := by simpa using m4
    have q5 : (z == 5) = false := by simpa using m5
    have q6 : (z == 6) = false := by simpa using m6
    clear m0 m1 m2 m3 m4 m5 m6
    go_wp2
    refine bodyPost_ret (v := .agg #[.string S, .string T]) (by simp [results, Tryz.results21, go_sem, d0, d1]) rfl ?_
    exact ⟨_, _, rfl, by omega, by omega, ⟨_, by omega, by omega, ((HS2.out.set_far (by omega) _).set_far (by omega) _)⟩, (grown_set (grown_set HG2.out (by omega) _) (by omega) _)⟩
/-- the stream that a law makes of its slice -/
theorem strm_new {w : World} {A : Option Addr} {c : Nat} {ws : List Int} (hv : LI w (.slice A ws.length c) ws) : Strm (w.alloc (.cells #[.slice A ws.length c, .int .i64 0] 36)) w.heap.size A c ws 0 := by
  have hcell : ∀ j u, #[Value.slice A ws.length c, .int .i64 0][j]? = some u → (w.alloc (.cells #[.slice A ws.length c, .int .i64 0] 36)).cell? ⟨w.heap.size, j, none⟩ = some u := by
    intro j u hu
    rw [cell_of_row _ _ _ _ _ (0, 0) (heap_alloc_new w _)]
    exact hu
  refine ⟨hcell 0 _ rfl, hcell 1 _ rfl, by unfold World.frozen?; simp only [heap_alloc_new]; rfl, hv.2.1, hv.2.2, fun h0 => ?_⟩
  obtain ⟨b, o, e, hc⟩ := hv.at_ h0
  exact ⟨b, o, e, World.block_lt_of_cell? w _ (hc 0 h0), fun j hj => (World.cell?_alloc_lt w _ _ (World.block_lt_of_cell? w _ (hc j hj))).trans (hc j hj)⟩
theorem str_form (S : ByteArray) : ∃ l : List UInt8, S = ⟨l.toArray⟩ ∧ l.length = S.size := ⟨S.data.toList, by cases S; simp, by rw [bytes_size]⟩
end Go.Proofs.YtldjemlmjfpmjaaGreatDoor
