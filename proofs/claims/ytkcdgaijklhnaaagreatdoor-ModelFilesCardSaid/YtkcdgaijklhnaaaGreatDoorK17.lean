/-
  frac: numbers in lowest terms.
  The fractions: Div, Mul, Quotient, Rat.
-/
import Derived.Test.YtkcdgaijklhnaaaGreatDoorK14
import Derived.Test.YtkcdgaijklhnaaaGreatDoorK11
import Derived.Test.YtkcdgaijklhnaaaGreatDoorK16
import Derived.Deep.RegionHeld3
import Derived.Outline
namespace Go.Proofs.YtkcdgaijklhnaaaGreatDoor
open Go.RowKit
theorem fone_any (w : World) : Calls Tryz.prog 210 #[] w fun e w' => ∃ v, e = .returned v ∧ Nt w' v 1 ∧ Below w.heap.size w w' := by
 have H := Lib.hid (fun W => of_any 1 W (by omega))
 go_enter Tryz.func210, Tryz.ntmps210
 go_wp2_with fail
 refine (H.out _).mono ?_
 rintro e w' ⟨v, rfl, hN, hB⟩
 go_wp2
 go_ret
 exact ⟨_, rfl, hN, hB⟩
def Blk (w : World) (g : Nat) (t : TypeId) (cs : Array Value) : Prop := w.heap[g]? = some (.cells cs t (0, 0))
theorem Blk.lt {w : World} {g : Nat} {t : TypeId} {cs : Array Value} (h : Blk w g t cs) : g < w.heap.size := (Array.getElem?_eq_some_iff.1 h).1
theorem Blk.cell {w : World} {g : Nat} {t : TypeId} {cs : Array Value} (h : Blk w g t cs) (i : Nat) : w.cell? ⟨g, i, none⟩ = cs[i]? := cell_of_row w g i cs t (0, 0) h
theorem Blk.frozen {w : World} {g : Nat} {t : TypeId} {cs : Array Value} (h : Blk w g t cs) (i : Nat) : w.frozen? ⟨g, i, none⟩ = false := by
 unfold Blk at h
 simp [World.frozen?, h]
theorem Blk.new (w : World) (t : TypeId) (cs : Array Value) : Blk (w.alloc (.cells cs t)) w.heap.size t cs := heap_alloc_new w _
theorem Blk.below {w w' : World} {g B : Nat} {t : TypeId} {cs : Array Value} (h : Blk w g t cs) (hb : Below B w w') (hg : g < B) : Blk w' g t cs := (hb.block g hg).trans h
theorem Blk.low {w w' : World} {g : Nat} {t : TypeId} {cs : Array Value} (h : Blk w g t cs) (hb : Below w.heap.size w w') : Blk w' g t cs := h.below hb h.lt
theorem Blk.alloc {w : World} {g : Nat} {t : TypeId} {cs : Array Value} (h : Blk w g t cs) (o : Obj) : Blk (w.alloc o) g t cs := (Below.heap_alloc w o g h.lt).trans h
def NoInt (w : World) (g : Nat) : Prop := ∀ (i : Nat) (k : IntKind) (d : Int), w.cell? ⟨g, i, none⟩ ≠ some (Value.int k d)
theorem NoInt.of {w : World} {g : Nat} {t : TypeId} {cs : Array Value} (h : Blk w g t cs) (hc : ∀ (i : Nat) (k : IntKind) (d : Int), cs[i]? ≠ some (Value.int k d)) : NoInt w g := fun i k d => by
 rw [h.cell]; exact hc i k d
theorem Blk.set {w : World} {g : Nat} {t : TypeId} {cs : Array Value} (h : Blk w g t cs) (i : Nat) (u : Value) : Blk (w.setCell ⟨g, i, none⟩ u) g t (cs.setIfInBounds i u) := by
 unfold Blk at h ⊢
 simp [World.setCell, Array.getElem?_modify, h]
theorem Nt.set {w : World} {v : Value} {n g i : Nat} {x : Value} (h : Nt w v n) (hn : NoInt w g) : Nt (w.setCell ⟨g, i, none⟩ x) v n := by
 obtain ⟨A, c, e, h1, h2, h3⟩ := h
 refine ⟨A, c, e, h1, h2, fun h0 => ?_⟩
 obtain ⟨b, o, e2, h4⟩ := h3 h0
 refine ⟨b, o, e2, fun j u hu => ?_⟩
 have h5 := h4 j u hu
 rw [World.cell?_setCell_other]
 ·exact h5
 ·intro h; injection h with h _
  have hl : j < (Mth.dg 1000000000 n).length := by
   rcases Nat.lt_or_ge j (Mth.dg 1000000000 n).length with h | h
   ·exact h
   ·rw [List.getElem?_eq_none (by rw [u32s_length]; exact h)] at hu; cases hu
  rw [u32s_at hl] at hu
  injection hu with hu
  subst h
  rw [← hu] at h5
  exact hn _ _ _ h5
def NotI (v : Value) : Prop := ∀ (k : IntKind) (d : Int), v ≠ Value.int k d
theorem notI_bool (b : Bool) : NotI (.bool b) := fun _ _ e => by cases e
theorem notI_slice (A : Option Addr) (n c : Nat) : NotI (.slice A n c) := fun _ _ e => by cases e
theorem notI3 {x y z : Value} (hx : NotI x) (hy : NotI y) (hz : NotI z) : ∀ (i : Nat) k d, (#[x, y, z] : Array Value)[i]? ≠ some (.int k d) := by
 intro i k d e
 match i, e with
 | 0, e => simp at e; exact hx k d e
 | 1, e => simp at e; exact hy k d e
 | 2, e => simp at e; exact hz k d e
 | i + 3, e => simp at e
theorem nt_store3 {w : World} {v : Value} {n g : Nat} {t : TypeId} {x0 x1 x2 y0 y1 y2 : Value} (h : Nt w v n) (hb : Blk w g t #[x0, x1, x2]) (a0 : NotI x0) (a1 : NotI x1) (a2 : NotI x2) (b0 : NotI y0) (b1 : NotI y1) :
  Nt (((w.setCell ⟨g, 0, none⟩ y0).setCell ⟨g, 1, none⟩ y1).setCell ⟨g, 2, none⟩ y2) v n := by
 have h1 := h.set (i := 0) (x := y0) (NoInt.of hb (notI3 a0 a1 a2))
 have hb1 : Blk (w.setCell ⟨g, 0, none⟩ y0) g t #[y0, x1, x2] := hb.set 0 y0
 have h2 := h1.set (i := 1) (x := y1) (NoInt.of hb1 (notI3 b0 a1 a2))
 have hb2 : Blk ((w.setCell ⟨g, 0, none⟩ y0).setCell ⟨g, 1, none⟩ y1) g t #[y0, y1, x2] := hb1.set 1 y1
 exact h2.set (i := 2) (x := y2) (NoInt.of hb2 (notI3 b0 b1 a2))
set_option maxHeartbeats 1000000 in
set_option maxRecDepth 100000 in
theorem fint_any (n : Int) (w : World) (h1 : -9223372036854775808 ≤ n) (h2 : n ≤ 9223372036854775807) :
  Calls Tryz.prog 167 #[.int .i64 n] w fun e w' => ∃ v1 v2, e = .returned (.agg #[.bool (decide (n < 0)), v1, v2]) ∧ Nt w' v1 n.natAbs ∧ Nt w' v2 1 ∧ Below w.heap.size w w' := by
 have hof := fun W => of_any n.natAbs W (by omega)
 have HOF := Lib.hid hof
 have HON := Lib.hid fone_any
 by_cases h0 : n < 0
 ·have hu : IntKind.u64.wrap (-(IntKind.u64.wrap n)) = (n.natAbs : Int) := by rw [IntKind.wrap_u64, IntKind.wrap_u64]; omega
  have HU := Lib.hid hu
  have hd : decide (n < 0) = true := by simp [h0]
  rw [hd]
  clear hof h1 h2 hu hd
  go_enter Tryz.func167, Tryz.ntmps167
  go_wp2_with fail
  rw [HU.out]
  refine (HOF.out _).mono ?_
  rintro e w1 ⟨v1, rfl, hN1, hB1⟩
  go_wp2_with fail
  refine (HON.out w1).mono ?_
  rintro e w2 ⟨v2, rfl, hN2, hB2⟩
  have hblk := ((Blk.new w 161 #[.bool false, .slice none 0 0, .slice none 0 0]).low hB1).low hB2
  have c0 := hblk.cell 0
  have c1 := hblk.cell 1
  have c2 := hblk.cell 2
  have f0 := hblk.frozen 0
  have f1 := hblk.frozen 1
  have f2 := hblk.frozen 2
  have hB : Below w.heap.size w w2 := (((Below.refl _ w).alloc (Nat.le_refl _) _).trans (hB1.mono (by simp))).trans (hB2.mono (by have := hB1.size; simp at this; omega))
  simp only [List.getElem?_toArray, List.getElem?_cons_zero, List.getElem?_cons_succ] at c0 c1 c2
  have HN1 := Lib.hid (hN1.below hB2)
  have HN2 := Lib.hid hN2
  have HB := Lib.hid hB
  have HB1 := Lib.hid hB1
  have HB2 := Lib.hid hB2
  have HBLK := Lib.hid hblk
  clear hN1 hN2 hB hB1 hB2 hblk
  obtain ⟨A1, n1, k1, rfl⟩ : ∃ A n k, v1 = .slice A n k := by obtain ⟨A, c, e, _⟩ := HN1.out; exact ⟨_, _, _, e⟩
  obtain ⟨A2, n2, k2, rfl⟩ : ∃ A n k, v2 = .slice A n k := by obtain ⟨A, c, e, _⟩ := HN2.out; exact ⟨_, _, _, e⟩
  go_wp2
  refine bodyPost_ret (v := .agg #[.bool true, .slice A1 n1 k1, .slice A2 n2 k2]) (by simp [results, Tryz.results167, go_sem, c0, c1, c2]) rfl ?_
  exact ⟨_, _, rfl, nt_store3 HN1.out HBLK.out (notI_bool _) (notI_slice _ _ _) (notI_slice _ _ _) (notI_bool _) (notI_slice _ _ _), nt_store3 HN2.out HBLK.out (notI_bool _) (notI_slice _ _ _) (notI_slice _ _ _) (notI_bool _) (notI_slice _ _ _),
   ((HB.out.setCell (p := ⟨w.heap.size, 0, none⟩) (Nat.le_refl _) _).setCell (p := ⟨w.heap.size, 1, none⟩) (Nat.le_refl _) _).setCell (p := ⟨w.heap.size, 2, none⟩) (Nat.le_refl _) _⟩
 ·have hu : IntKind.u64.wrap n = (n.natAbs : Int) := by rw [IntKind.wrap_u64]; omega
  have HU := Lib.hid hu
  have hd : decide (n < 0) = false := by simp; omega
  rw [hd]
  clear hof h1 h2 hu hd
  go_enter Tryz.func167, Tryz.ntmps167
  go_wp2_with fail
  rw [HU.out]
  refine (HOF.out _).mono ?_
  rintro e w1 ⟨v1, rfl, hN1, hB1⟩
  go_wp2_with fail
  refine (HON.out w1).mono ?_
  rintro e w2 ⟨v2, rfl, hN2, hB2⟩
  have hblk := ((Blk.new w 161 #[.bool false, .slice none 0 0, .slice none 0 0]).low hB1).low hB2
  have c0 := hblk.cell 0
  have c1 := hblk.cell 1
  have c2 := hblk.cell 2
  have f0 := hblk.frozen 0
  have f1 := hblk.frozen 1
  have f2 := hblk.frozen 2
  have hB : Below w.heap.size w w2 := (((Below.refl _ w).alloc (Nat.le_refl _) _).trans (hB1.mono (by simp))).trans (hB2.mono (by have := hB1.size; simp at this; omega))
  simp only [List.getElem?_toArray, List.getElem?_cons_zero, List.getElem?_cons_succ] at c0 c1 c2
  have HN1 := Lib.hid (hN1.below hB2)
  have HN2 := Lib.hid hN2
  have HB := Lib.hid hB
  have HB1 := Lib.hid hB1
  have HB2 := Lib.hid hB2
  have HBLK := Lib.hid hblk
  clear hN1 hN2 hB hB1 hB2 hblk
  obtain ⟨A1, n1, k1, rfl⟩ : ∃ A n k, v1 = .slice A n k := by obtain ⟨A, c, e, _⟩ := HN1.out; exact ⟨_, _, _, e⟩
  obtain ⟨A2, n2, k2, rfl⟩ : ∃ A n k, v2 = .slice A n k := by obtain ⟨A, c, e, _⟩ := HN2.out; exact ⟨_, _, _, e⟩
  go_wp2
  refine bodyPost_ret (v := .agg #[.bool false, .slice A1 n1 k1, .slice A2 n2 k2]) (by simp [results, Tryz.results167, go_sem, c0, c1, c2]) rfl ?_
  exact ⟨_, _, rfl, nt_store3 HN1.out HBLK.out (notI_bool _) (notI_slice _ _ _) (notI_slice _ _ _) (notI_bool _) (notI_slice _ _ _), nt_store3 HN2.out HBLK.out (notI_bool _) (notI_slice _ _ _) (notI_slice _ _ _) (notI_bool _) (notI_slice _ _ _),
   ((HB.out.setCell (p := ⟨w.heap.size, 0, none⟩) (Nat.le_refl _) _).setCell (p := ⟨w.heap.size, 1, none⟩) (Nat.le_refl _) _).setCell (p := ⟨w.heap.size, 2, none⟩) (Nat.le_refl _) _⟩
set_option maxHeartbeats 2000000 in
set_option maxRecDepth 100000 in
theorem red_zero (neg : Bool) (m n : Nat) (va vb : Value) (w : World) (ha : Nt w va m) (hb : Nt w vb n) (hs : (Mth.dg 1000000000 m).length ≤ 100000000000) (_ht : (Mth.dg 1000000000 n).length ≤ 100000000000) (_hn0 : 0 < n) (hm : m = 0) :
  Calls Tryz.prog 205 #[.bool neg, va, vb] w fun e w' => ∃ v1 v2, e = .returned (.agg #[.bool false, v1, v2]) ∧ Nt w' v1 (0) ∧ Nt w' v2 (1) ∧ Below w.heap.size w w' := by
 have hB0 : Below w.heap.size w (w.alloc (.cells #[.bool false, .slice none 0 0, .slice none 0 0] 161)) := (Below.refl _ w).alloc (Nat.le_refl _) _
 have hA0 := ha.below hB0
 have hBb0 := hb.below hB0
 have hbl0 := Blk.new w 161 #[.bool false, .slice none 0 0, .slice none 0 0]
 generalize hW0 : w.alloc (.cells #[.bool false, .slice none 0 0, .slice none 0 0] 161) = w0 at *
 have HW0 := Lib.hid hW0
 have hz := zero_any m va w0 hA0 (by omega)
 have HZ := Lib.hid hz
 have HA := Lib.hid hA0
 have HBB := Lib.hid hBb0
 have HB0 := Lib.hid hB0
 have HBL0 := Lib.hid hbl0
 subst hm
 have HON := Lib.hid fone_any
 rw [decide_eq_true rfl] at hz
 have HZ := Lib.hid hz
 clear hz hA0 hBb0 hB0 hbl0 ha hb hs _ht hW0
 go_enter Tryz.func205, Tryz.ntmps205
 go_wp2_with fail
 rw [HW0.out]
 refine HZ.out.mono ?_
 rintro e w1 ⟨rfl, rfl⟩
 go_wp2_with fail
 refine (HON.out _).mono ?_
 rintro e w2 ⟨v2, rfl, hN2, hB2⟩
 have HBLK := Lib.hid (HBL0.out.low hB2)
 have HN1 : Hid (Nt w2 (.slice none 0 0) 0) := Lib.hid (by unfold Nt; rw [Mth.dg_zero]; exact Sl.nil_ w2)
 have HN2 := Lib.hid hN2
 have HB := Lib.hid (HB0.out.trans (hB2.mono HB0.out.size))
 clear hN2 hB2
 have c0 := HBLK.out.cell 0
 have c1 := HBLK.out.cell 1
 have c2 := HBLK.out.cell 2
 have f0 := HBLK.out.frozen 0
 have f1 := HBLK.out.frozen 1
 have f2 := HBLK.out.frozen 2
 simp only [List.getElem?_toArray, List.getElem?_cons_zero, List.getElem?_cons_succ] at c0 c1 c2
 obtain ⟨A2, n2, k2, rfl⟩ : ∃ A n k, v2 = .slice A n k := by obtain ⟨A, c, e, _⟩ := HN2.out; exact ⟨_, _, _, e⟩
 go_wp2
 refine bodyPost_ret (v := .agg #[.bool false, .slice none 0 0, .slice A2 n2 k2]) (by simp [results, Tryz.results205, go_sem, c0, c1, c2]) rfl ?_
 exact ⟨_, _, rfl, nt_store3 HN1.out HBLK.out (notI_bool _) (notI_slice _ _ _) (notI_slice _ _ _) (notI_bool _) (notI_slice _ _ _), nt_store3 HN2.out HBLK.out (notI_bool _) (notI_slice _ _ _) (notI_slice _ _ _) (notI_bool _) (notI_slice _ _ _),
  ((HB.out.setCell (p := ⟨w.heap.size, 0, none⟩) (Nat.le_refl _) _).setCell (p := ⟨w.heap.size, 1, none⟩) (Nat.le_refl _) _).setCell (p := ⟨w.heap.size, 2, none⟩) (Nat.le_refl _) _⟩
set_option maxHeartbeats 2000000 in
set_option maxRecDepth 100000 in
theorem red_one (neg : Bool) (m n : Nat) (va vb : Value) (w : World) (ha : Nt w va m) (hb : Nt w vb n) (hs : (Mth.dg 1000000000 m).length ≤ 100000000000) (ht : (Mth.dg 1000000000 n).length ≤ 100000000000) (_hn0 : 0 < n) (hm : 0 < m) (hn1 : n = 1) :
  Calls Tryz.prog 205 #[.bool neg, va, vb] w fun e w' => ∃ v1 v2, e = .returned (.agg #[.bool neg, v1, v2]) ∧ Nt w' v1 (m) ∧ Nt w' v2 (n) ∧ Below w.heap.size w w' := by
 have hB0 : Below w.heap.size w (w.alloc (.cells #[.bool false, .slice none 0 0, .slice none 0 0] 161)) := (Below.refl _ w).alloc (Nat.le_refl _) _
 have hA0 := ha.below hB0
 have hBb0 := hb.below hB0
 have hbl0 := Blk.new w 161 #[.bool false, .slice none 0 0, .slice none 0 0]
 generalize hW0 : w.alloc (.cells #[.bool false, .slice none 0 0, .slice none 0 0] 161) = w0 at *
 have HW0 := Lib.hid hW0
 have hz := zero_any m va w0 hA0 (by omega)
 rw [decide_eq_false (by omega)] at hz
 have HZ := Lib.hid hz
 have ho := one_any n vb w0 hBb0 (by omega)
 rw [decide_eq_true (by omega)] at ho
 have HO := Lib.hid ho
 have HA := Lib.hid hA0
 have HBB := Lib.hid hBb0
 have HB0 := Lib.hid hB0
 have HBL0 := Lib.hid hbl0
 clear hz ho hA0 hBb0 hB0 hbl0 ha hb hW0
 obtain ⟨A1, n1, k1, rfl⟩ : ∃ A n k, va = .slice A n k := by obtain ⟨A, c, e, _⟩ := HA.out; exact ⟨_, _, _, e⟩
 obtain ⟨A2, n2, k2, rfl⟩ : ∃ A n k, vb = .slice A n k := by obtain ⟨A, c, e, _⟩ := HBB.out; exact ⟨_, _, _, e⟩
 go_enter Tryz.func205, Tryz.ntmps205
 go_wp2_with fail
 rw [HW0.out]
 refine HZ.out.mono ?_
 rintro e w1 ⟨rfl, rfl⟩
 go_wp2_with fail
 refine HO.out.mono ?_
 rintro e w1 ⟨rfl, rfl⟩
 have HBLK := HBL0
 have HN1 := HA
 have HN2 := HBB
 have HB := HB0
 have c0 := HBLK.out.cell 0
 have c1 := HBLK.out.cell 1
 have c2 := HBLK.out.cell 2
 have f0 := HBLK.out.frozen 0
 have f1 := HBLK.out.frozen 1
 have f2 := HBLK.out.frozen 2
 simp only [List.getElem?_toArray, List.getElem?_cons_zero, List.getElem?_cons_succ] at c0 c1 c2
 go_wp2
 refine bodyPost_ret (v := .agg #[.bool neg, .slice A1 n1 k1, .slice A2 n2 k2]) (by simp [results, Tryz.results205, go_sem, c0, c1, c2]) rfl ?_
 exact ⟨_, _, rfl, nt_store3 HN1.out HBLK.out (notI_bool _) (notI_slice _ _ _) (notI_slice _ _ _) (notI_bool _) (notI_slice _ _ _), nt_store3 HN2.out HBLK.out (notI_bool _) (notI_slice _ _ _) (notI_slice _ _ _) (notI_bool _) (notI_slice _ _ _),
  ((HB.out.setCell (p := ⟨w.heap.size, 0, none⟩) (Nat.le_refl _) _).setCell (p := ⟨w.heap.size, 1, none⟩) (Nat.le_refl _) _).setCell (p := ⟨w.heap.size, 2, none⟩) (Nat.le_refl _) _⟩
set_option maxHeartbeats 2000000 in
set_option maxRecDepth 100000 in
theorem red_prime (neg : Bool) (m n : Nat) (va vb : Value) (w : World) (ha : Nt w va m) (hb : Nt w vb n) (hs : (Mth.dg 1000000000 m).length ≤ 100000000000) (ht : (Mth.dg 1000000000 n).length ≤ 100000000000) (hn0 : 0 < n) (hm : 0 < m) (hn1 : n ≠ 1) (hgcd : Nat.gcd m n = 1) :
  Calls Tryz.prog 205 #[.bool neg, va, vb] w fun e w' => ∃ v1 v2, e = .returned (.agg #[.bool neg, v1, v2]) ∧ Nt w' v1 (m) ∧ Nt w' v2 (n) ∧ Below w.heap.size w w' := by
 have hB0 : Below w.heap.size w (w.alloc (.cells #[.bool false, .slice none 0 0, .slice none 0 0] 161)) := (Below.refl _ w).alloc (Nat.le_refl _) _
 have hA0 := ha.below hB0
 have hBb0 := hb.below hB0
 have hbl0 := Blk.new w 161 #[.bool false, .slice none 0 0, .slice none 0 0]
 generalize hW0 : w.alloc (.cells #[.bool false, .slice none 0 0, .slice none 0 0] 161) = w0 at *
 have HW0 := Lib.hid hW0
 have hz := zero_any m va w0 hA0 (by omega)
 rw [decide_eq_false (by omega)] at hz
 have HZ := Lib.hid hz
 have ho := one_any n vb w0 hBb0 (by omega)
 rw [decide_eq_false (by omega)] at ho
 have HO := Lib.hid ho
 have HA := Lib.hid hA0
 have HBB := Lib.hid hBb0
 have HB0 := Lib.hid hB0
 have HBL0 := Lib.hid hbl0
 have hg := gcd_any m n va vb w0 hA0 hBb0 hs ht
 have hgl : Nat.gcd m n ≤ n := Nat.gcd_le_right _ hn0
 have hg0 : 0 < Nat.gcd m n := Nat.gcd_pos_of_pos_right _ hn0
 have hgd := Mth.dg_len_mono (b := 1000000000) (by omega) hgl
 obtain ⟨g, hgg⟩ : ∃ g, Nat.gcd m n = g := ⟨_, rfl⟩
 rw [hgg] at hg hgl hg0 hgd hgcd
 have HG := Lib.hid hg
 clear hg
 clear hz ho hA0 hBb0 hB0 hbl0 ha hb hW0
 obtain ⟨A1, n1, k1, rfl⟩ : ∃ A n k, va = .slice A n k := by obtain ⟨A, c, e, _⟩ := HA.out; exact ⟨_, _, _, e⟩
 obtain ⟨A2, n2, k2, rfl⟩ : ∃ A n k, vb = .slice A n k := by obtain ⟨A, c, e, _⟩ := HBB.out; exact ⟨_, _, _, e⟩
 go_enter Tryz.func205, Tryz.ntmps205
 go_wp2_with fail
 rw [HW0.out]
 refine HZ.out.mono ?_
 rintro e w1 ⟨rfl, rfl⟩
 go_wp2_with fail
 refine HO.out.mono ?_
 rintro e w1 ⟨rfl, rfl⟩
 go_wp2_with fail
 refine HG.out.mono ?_
 rintro e w2 ⟨vg, rfl, hB2, hN2⟩
 have ho2 := one_any g vg w2 hN2 (by omega)
 rw [decide_eq_true (by omega)] at ho2
 have HO2 := Lib.hid ho2
 have HN2g := Lib.hid hN2
 have HB2 := Lib.hid (HB0.out.trans (hB2.mono HB0.out.size))
 have HBL2 := Lib.hid (HBL0.out.low hB2)
 have HA2 := Lib.hid (HA.out.below hB2)
 have HBB2 := Lib.hid (HBB.out.below hB2)
 clear ho2 hN2 hB2
 obtain ⟨A3, n3, k3, rfl⟩ : ∃ A n k, vg = .slice A n k := by obtain ⟨A, c, e, _⟩ := HN2g.out; exact ⟨_, _, _, e⟩
 go_wp2_with fail
 refine HO2.out.mono ?_
 rintro e w2 ⟨rfl, rfl⟩
 have HBLK := HBL2
 have HN1 := HA2
 have HN2 := HBB2
 have HB := HB2
 have c0 := HBLK.out.cell 0
 have c1 := HBLK.out.cell 1
 have c2 := HBLK.out.cell 2
 have f0 := HBLK.out.frozen 0
 have f1 := HBLK.out.frozen 1
 have f2 := HBLK.out.frozen 2
 simp only [List.getElem?_toArray, List.getElem?_cons_zero, List.getElem?_cons_succ] at c0 c1 c2
 go_wp2
 refine bodyPost_ret (v := .agg #[.bool neg, .slice A1 n1 k1, .slice A2 n2 k2]) (by simp [results, Tryz.results205, go_sem, c0, c1, c2]) rfl ?_
 exact ⟨_, _, rfl, nt_store3 HN1.out HBLK.out (notI_bool _) (notI_slice _ _ _) (notI_slice _ _ _) (notI_bool _) (notI_slice _ _ _), nt_store3 HN2.out HBLK.out (notI_bool _) (notI_slice _ _ _) (notI_slice _ _ _) (notI_bool _) (notI_slice _ _ _),
  ((HB.out.setCell (p := ⟨w.heap.size, 0, none⟩) (Nat.le_refl _) _).setCell (p := ⟨w.heap.size, 1, none⟩) (Nat.le_refl _) _).setCell (p := ⟨w.heap.size, 2, none⟩) (Nat.le_refl _) _⟩
set_option maxHeartbeats 2000000 in
set_option maxRecDepth 100000 in
theorem red_div (neg : Bool) (m n : Nat) (va vb : Value) (w : World) (ha : Nt w va m) (hb : Nt w vb n) (hs : (Mth.dg 1000000000 m).length ≤ 100000000000) (ht : (Mth.dg 1000000000 n).length ≤ 100000000000) (hn0 : 0 < n) (hm : 0 < m) (hn1 : n ≠ 1) (hgcd : Nat.gcd m n ≠ 1) :
  Calls Tryz.prog 205 #[.bool neg, va, vb] w fun e w' => ∃ v1 v2, e = .returned (.agg #[.bool neg, v1, v2]) ∧ Nt w' v1 (m / Nat.gcd m n) ∧ Nt w' v2 (n / Nat.gcd m n) ∧ Below w.heap.size w w' := by
 have hB0 : Below w.heap.size w (w.alloc (.cells #[.bool false, .slice none 0 0, .slice none 0 0] 161)) := (Below.refl _ w).alloc (Nat.le_refl _) _
 have hA0 := ha.below hB0
 have hBb0 := hb.below hB0
 have hbl0 := Blk.new w 161 #[.bool false, .slice none 0 0, .slice none 0 0]
 generalize hW0 : w.alloc (.cells #[.bool false, .slice none 0 0, .slice none 0 0] 161) = w0 at *
 have HW0 := Lib.hid hW0
 have hz := zero_any m va w0 hA0 (by omega)
 rw [decide_eq_false (by omega)] at hz
 have HZ := Lib.hid hz
 have ho := one_any n vb w0 hBb0 (by omega)
 rw [decide_eq_false (by omega)] at ho
 have HO := Lib.hid ho
 have HA := Lib.hid hA0
 have HBB := Lib.hid hBb0
 have HB0 := Lib.hid hB0
 have HBL0 := Lib.hid hbl0
 have hg := gcd_any m n va vb w0 hA0 hBb0 hs ht
 have hgl : Nat.gcd m n ≤ n := Nat.gcd_le_right _ hn0
 have hg0 : 0 < Nat.gcd m n := Nat.gcd_pos_of_pos_right _ hn0
 have hgd := Mth.dg_len_mono (b := 1000000000) (by omega) hgl
 obtain ⟨g, hgg⟩ : ∃ g, Nat.gcd m n = g := ⟨_, rfl⟩
 rw [hgg] at hg hgl hg0 hgd hgcd
 have HG := Lib.hid hg
 clear hg
 rw [hgg]
 clear hz ho hA0 hBb0 hB0 hbl0 ha hb hW0
 obtain ⟨A1, n1, k1, rfl⟩ : ∃ A n k, va = .slice A n k := by obtain ⟨A, c, e, _⟩ := HA.out; exact ⟨_, _, _, e⟩
 obtain ⟨A2, n2, k2, rfl⟩ : ∃ A n k, vb = .slice A n k := by obtain ⟨A, c, e, _⟩ := HBB.out; exact ⟨_, _, _, e⟩
 go_enter Tryz.func205, Tryz.ntmps205
 go_wp2_with fail
 rw [HW0.out]
 refine HZ.out.mono ?_
 rintro e w1 ⟨rfl, rfl⟩
 go_wp2_with fail
 refine HO.out.mono ?_
 rintro e w1 ⟨rfl, rfl⟩
 go_wp2_with fail
 refine HG.out.mono ?_
 rintro e w2 ⟨vg, rfl, hB2, hN2⟩
 have ho2 := one_any g vg w2 hN2 (by omega)
 rw [decide_eq_false (by omega)] at ho2
 have HO2 := Lib.hid ho2
 have HN2g := Lib.hid hN2
 have HB2 := Lib.hid (HB0.out.trans (hB2.mono HB0.out.size))
 have HBL2 := Lib.hid (HBL0.out.low hB2)
 have HA2 := Lib.hid (HA.out.below hB2)
 have HBB2 := Lib.hid (HBB.out.below hB2)
 clear ho2 hN2 hB2
 obtain ⟨A3, n3, k3, rfl⟩ : ∃ A n k, vg = .slice A n k := by obtain ⟨A, c, e, _⟩ := HN2g.out; exact ⟨_, _, _, e⟩
 go_wp2_with fail
 refine HO2.out.mono ?_
 rintro e w2 ⟨rfl, rfl⟩
 have hd1 := div_any m g _ _ w2 HA2.out HN2g.out hs (by omega) hg0
 have HD1 := Lib.hid hd1
 clear hd1
 go_wp2_with fail
 refine HD1.out.mono ?_
 rintro e w3 ⟨vq, vr, rfl, hB3, hq3, hr3⟩
 have HN13 := Lib.hid hq3
 have HB3 := Lib.hid (HB2.out.trans (hB3.mono HB2.out.size))
 have HBL3 := Lib.hid (HBL2.out.low hB3)
 have hd2 := div_any n g _ _ w3 (HBB2.out.below hB3) (HN2g.out.below hB3) ht (by omega) hg0
 have HD2 := Lib.hid hd2
 clear hd2 hB3 hq3 hr3
 go_wp2_with fail
 refine HD2.out.mono ?_
 rintro e w4 ⟨vq2, vr2, rfl, hB4, hq4, hr4⟩
 have HN1 := Lib.hid (HN13.out.below hB4)
 have HN2 := Lib.hid hq4
 have HB := Lib.hid (HB3.out.trans (hB4.mono HB3.out.size))
 have HBLK := Lib.hid (HBL3.out.low hB4)
 clear hB4 hq4 hr4
 have c0 := HBLK.out.cell 0
 have c1 := HBLK.out.cell 1
 have c2 := HBLK.out.cell 2
 have f0 := HBLK.out.frozen 0
 have f1 := HBLK.out.frozen 1
 have f2 := HBLK.out.frozen 2
 simp only [List.getElem?_toArray, List.getElem?_cons_zero, List.getElem?_cons_succ] at c0 c1 c2
 obtain ⟨A5, n5, k5, rfl⟩ : ∃ A n k, vq = .slice A n k := by obtain ⟨A, c, e, _⟩ := HN1.out; exact ⟨_, _, _, e⟩
 obtain ⟨A6, n6, k6, rfl⟩ : ∃ A n k, vq2 = .slice A n k := by obtain ⟨A, c, e, _⟩ := HN2.out; exact ⟨_, _, _, e⟩
 go_wp2
 refine bodyPost_ret (v := .agg #[.bool neg, .slice A5 n5 k5, .slice A6 n6 k6]) (by simp [results, Tryz.results205, go_sem, c0, c1, c2]) rfl ?_
 exact ⟨_, _, rfl, nt_store3 HN1.out HBLK.out (notI_bool _) (notI_slice _ _ _) (notI_slice _ _ _) (notI_bool _) (notI_slice _ _ _), nt_store3 HN2.out HBLK.out (notI_bool _) (notI_slice _ _ _) (notI_slice _ _ _) (notI_bool _) (notI_slice _ _ _),
  ((HB.out.setCell (p := ⟨w.heap.size, 0, none⟩) (Nat.le_refl _) _).setCell (p := ⟨w.heap.size, 1, none⟩) (Nat.le_refl _) _).setCell (p := ⟨w.heap.size, 2, none⟩) (Nat.le_refl _) _⟩
def rneg (neg : Bool) (m : Nat) : Bool := if m = 0 then false else neg
def rnum (m n : Nat) : Nat := if m = 0 then 0 else m / Nat.gcd m n
def rden (m n : Nat) : Nat := if m = 0 then 1 else n / Nat.gcd m n
theorem red_any (neg : Bool) (m n : Nat) (va vb : Value) (w : World) (ha : Nt w va m) (hb : Nt w vb n) (hs : (Mth.dg 1000000000 m).length ≤ 100000000000) (ht : (Mth.dg 1000000000 n).length ≤ 100000000000) (hn0 : 0 < n) :
  Calls Tryz.prog 205 #[.bool neg, va, vb] w fun e w' => ∃ v1 v2, e = .returned (.agg #[.bool (rneg neg m), v1, v2]) ∧ Nt w' v1 (rnum m n) ∧ Nt w' v2 (rden m n) ∧ Below w.heap.size w w' := by
 unfold rneg rnum rden
 by_cases hm : m = 0
 ·rw [if_pos hm, if_pos hm, if_pos hm]; exact red_zero neg m n va vb w ha hb hs ht hn0 hm
 ·rw [if_neg hm, if_neg hm, if_neg hm]
  by_cases hn1 : n = 1
  ·have h := red_one neg m n va vb w ha hb hs ht hn0 (by omega) hn1
   rw [hn1, Nat.gcd_one_right, Nat.div_one, Nat.div_one]
   rwa [hn1] at h
  ·by_cases hg : Nat.gcd m n = 1
   ·have h := red_prime neg m n va vb w ha hb hs ht hn0 (by omega) hn1 hg
    rwa [hg, Nat.div_one, Nat.div_one]
   ·exact red_div neg m n va vb w ha hb hs ht hn0 (by omega) hn1 hg
end Go.Proofs.YtkcdgaijklhnaaaGreatDoor
namespace Go.Proofs.YtkcdgaijklhnaaaGreatDoor
open Go.RowKit
set_option maxHeartbeats 4000000 in
set_option maxRecDepth 100000 in
theorem fdiv_any (na nb : Bool) (m1 d1 m2 d2 : Nat) (x1 y1 x2 y2 : Value) (w : World) (h1 : Nt w x1 m1) (h2 : Nt w y1 d1) (h3 : Nt w x2 m2) (h4 : Nt w y2 d2)
    (l1 : (Mth.dg 1000000000 m1).length ≤ 10000000000) (l2 : (Mth.dg 1000000000 d1).length ≤ 10000000000) (l3 : (Mth.dg 1000000000 m2).length ≤ 10000000000) (l4 : (Mth.dg 1000000000 d2).length ≤ 10000000000) (hpos : 0 < d1 * m2) :
    Calls Tryz.prog 166 #[.agg #[.bool na, x1, y1], .agg #[.bool nb, x2, y2]] w fun e w' => ∃ v1 v2, e = .returned (.agg #[.bool (rneg (!(na == nb)) (m1 * d2)), v1, v2]) ∧ Nt w' v1 (rnum (m1 * d2) (d1 * m2)) ∧ Nt w' v2 (rden (m1 * d2) (d1 * m2)) ∧ Below w.heap.size w w' := by
  obtain ⟨W, hW⟩ : ∃ W, W = ((w.alloc (.cells #[.bool na, x1, y1] 161)).alloc (.cells #[.bool nb, x2, y2] 161)).alloc (.cells #[.bool false, .slice none 0 0, .slice none 0 0] 161) := ⟨_, rfl⟩
  have HW := Lib.hid hW
  clear hW
  obtain ⟨A1, n1, k1, rfl⟩ : ∃ A n k, x1 = .slice A n k := by obtain ⟨A, c, e, _⟩ := h1; exact ⟨_, _, _, e⟩
  obtain ⟨A2, n2, k2, rfl⟩ : ∃ A n k, y1 = .slice A n k := by obtain ⟨A, c, e, _⟩ := h2; exact ⟨_, _, _, e⟩
  obtain ⟨A3, n3, k3, rfl⟩ : ∃ A n k, x2 = .slice A n k := by obtain ⟨A, c, e, _⟩ := h3; exact ⟨_, _, _, e⟩
  obtain ⟨A4, n4, k4, rfl⟩ : ∃ A n k, y2 = .slice A n k := by obtain ⟨A, c, e, _⟩ := h4; exact ⟨_, _, _, e⟩
  go_enter Tryz.func166, Tryz.ntmps166
  go_wp2_with fail
  rw [← HW.out]
  have hBW : Below w.heap.size w W := by
    rw [HW.out]
    exact (((Below.refl _ w).alloc (Nat.le_refl _) _).alloc (by simp) _).alloc (by simp; omega) _
  have hk0 : Blk W w.heap.size 161 #[.bool na, .slice A1 n1 k1, .slice A2 n2 k2] := by
    rw [HW.out]; exact ((Blk.new w _ _).alloc _).alloc _
  have hk1 : Blk W (w.heap.size + 1) 161 #[.bool nb, .slice A3 n3 k3, .slice A4 n4 k4] := by
    rw [HW.out]
    have := (Blk.new (w.alloc (.cells #[.bool na, .slice A1 n1 k1, .slice A2 n2 k2] 161)) 161 #[.bool nb, .slice A3 n3 k3, .slice A4 n4 k4]).alloc (.cells #[.bool false, .slice none 0 0, .slice none 0 0] 161)
    rwa [World.size_alloc] at this
  have hk2 : Blk W (w.heap.size + 1 + 1) 161 #[.bool false, .slice none 0 0, .slice none 0 0] := by
    rw [HW.out]
    have := Blk.new ((w.alloc (.cells #[.bool na, .slice A1 n1 k1, .slice A2 n2 k2] 161)).alloc (.cells #[.bool nb, .slice A3 n3 k3, .slice A4 n4 k4] 161)) 161 #[.bool false, .slice none 0 0, .slice none 0 0]
    rwa [World.size_alloc, World.size_alloc] at this
  have e0 := hk0.cell 0
  have e1 := hk0.cell 1
  have e2 := hk0.cell 2
  have e3 := hk1.cell 0
  have e4 := hk1.cell 1
  have e5 := hk1.cell 2
  simp only [List.getElem?_toArray, List.getElem?_cons_zero, List.getElem?_cons_succ] at e0 e1 e2 e3 e4 e5
  have z0 := hk2.lt
  have H1 := Lib.hid (h1.below hBW)
  have H2 := Lib.hid (h2.below hBW)
  have H3 := Lib.hid (h3.below hBW)
  have H4 := Lib.hid (h4.below hBW)
  have HB := Lib.hid hBW
  have HK2 := Lib.hid hk2
  clear h1 h2 h3 h4 hk0 hk1 hk2 hBW
  have tok1 : True := trivial
  have tok2 : True := trivial
  have ll1 : (Mth.dg 1000000000 (m1 * d2)).length ≤ 100000000000 := Nat.le_trans (Mth.dg_len_mul (by omega) m1 d2) (by omega)
  have ll2 : (Mth.dg 1000000000 (d1 * m2)).length ≤ 100000000000 := Nat.le_trans (Mth.dg_len_mul (by omega) d1 m2) (by omega)
  have HS : Hid (∀ w', Below W.heap.size W w' → w'.cell? ⟨w.heap.size, 0, none⟩ = some (.bool na) ∧ w'.cell? ⟨w.heap.size, 1, none⟩ = some (.slice A1 n1 k1) ∧ w'.cell? ⟨w.heap.size, 2, none⟩ = some (.slice A2 n2 k2) ∧
      w'.cell? ⟨w.heap.size + 1, 0, none⟩ = some (.bool nb) ∧ w'.cell? ⟨w.heap.size + 1, 1, none⟩ = some (.slice A3 n3 k3) ∧ w'.cell? ⟨w.heap.size + 1, 2, none⟩ = some (.slice A4 n4 k4)) := Lib.hid fun w' hb =>
    ⟨(hb.cell (p := ⟨w.heap.size, 0, none⟩) (by show w.heap.size < _; omega)).trans e0, (hb.cell (p := ⟨w.heap.size, 1, none⟩) (by show w.heap.size < _; omega)).trans e1, (hb.cell (p := ⟨w.heap.size, 2, none⟩) (by show w.heap.size < _; omega)).trans e2,
      (hb.cell (p := ⟨w.heap.size + 1, 0, none⟩) (by show w.heap.size + 1 < _; omega)).trans e3, (hb.cell (p := ⟨w.heap.size + 1, 1, none⟩) (by show w.heap.size + 1 < _; omega)).trans e4, (hb.cell (p := ⟨w.heap.size + 1, 2, none⟩) (by show w.heap.size + 1 < _; omega)).trans e5⟩
  have HST : Hid (∀ w' y0 y1 y2, Below W.heap.size W w' → (((w'.setCell ⟨w.heap.size + 1 + 1, 0, none⟩ y0).setCell ⟨w.heap.size + 1 + 1, 1, none⟩ y1).setCell ⟨w.heap.size + 1 + 1, 2, none⟩ y2).cell? ⟨w.heap.size, 0, none⟩ = some (.bool na) ∧ (((w'.setCell ⟨w.heap.size + 1 + 1, 0, none⟩ y0).setCell ⟨w.heap.size + 1 + 1, 1, none⟩ y1).setCell ⟨w.heap.size + 1 + 1, 2, none⟩ y2).cell? ⟨w.heap.size, 1, none⟩ = some (.slice A1 n1 k1) ∧ (((w'.setCell ⟨w.heap.size + 1 + 1, 0, none⟩ y0).setCell ⟨w.heap.size + 1 + 1, 1, none⟩ y1).setCell ⟨w.heap.size + 1 + 1, 2, none⟩ y2).cell? ⟨w.heap.size, 2, none⟩ = some (.slice A2 n2 k2) ∧
      (((w'.setCell ⟨w.heap.size + 1 + 1, 0, none⟩ y0).setCell ⟨w.heap.size + 1 + 1, 1, none⟩ y1).setCell ⟨w.heap.size + 1 + 1, 2, none⟩ y2).cell? ⟨w.heap.size + 1, 0, none⟩ = some (.bool nb) ∧ (((w'.setCell ⟨w.heap.size + 1 + 1, 0, none⟩ y0).setCell ⟨w.heap.size + 1 + 1, 1, none⟩ y1).setCell ⟨w.heap.size + 1 + 1, 2, none⟩ y2).cell? ⟨w.heap.size + 1, 1, none⟩ = some (.slice A3 n3 k3) ∧ (((w'.setCell ⟨w.heap.size + 1 + 1, 0, none⟩ y0).setCell ⟨w.heap.size + 1 + 1, 1, none⟩ y1).setCell ⟨w.heap.size + 1 + 1, 2, none⟩ y2).cell? ⟨w.heap.size + 1, 2, none⟩ = some (.slice A4 n4 k4)) := Lib.hid fun w' y0 y1 y2 hb => by
    obtain ⟨q0, q1, q2, q3, q4, q5⟩ := HS.out w' hb
    refine ⟨?_, ?_, ?_, ?_, ?_, ?_⟩ <;> (rw [World.cell?_setCell_other _ _ _ _ (by intro h; injection h with h _; omega), World.cell?_setCell_other _ _ _ _ (by intro h; injection h with h _; omega), World.cell?_setCell_other _ _ _ _ (by intro h; injection h with h _; omega)]; assumption)
  go_region_held3 (fun w' => w'.cell? ⟨w.heap.size, 0, none⟩ = some (.bool na) ∧ w'.cell? ⟨w.heap.size, 1, none⟩ = some (.slice A1 n1 k1) ∧ w'.cell? ⟨w.heap.size, 2, none⟩ = some (.slice A2 n2 k2) ∧
      w'.cell? ⟨w.heap.size + 1, 0, none⟩ = some (.bool nb) ∧ w'.cell? ⟨w.heap.size + 1, 1, none⟩ = some (.slice A3 n3 k3) ∧ w'.cell? ⟨w.heap.size + 1, 2, none⟩ = some (.slice A4 n4 k4))
    (first | exact ⟨e0, e1, e2, e3, e4, e5⟩ | exact HST.out w3 _ _ _ HC3.out | exact HS.out _ HC3.out | exact HS.out _ HC2.out | exact HS.out _ HC1.out | go_keep)
    (first
      | (go_at_call 204; have _t := tok1; refine (mul_any m1 d2 _ _ _ (Sl.drew H1.out) (Sl.drew H4.out) (by omega) (by omega)).mono ?_; rintro e w1 ⟨v1, rfl, hB1, hN1⟩; have HN1 := Lib.hid hN1; have HC1 : Hid (Below W.heap.size W w1) := Lib.hid ((Below.refl _ W).drew.trans hB1); clear hN1 hB1 tok1 _t)
      | (go_at_call 204; have _t := tok2; refine (mul_any d1 m2 _ _ _ (Sl.below H2.out HC1.out) (Sl.below H3.out HC1.out) (by omega) (by omega)).mono ?_; rintro e w2 ⟨v2, rfl, hB2, hN2⟩; have HN2 := Lib.hid hN2; have HN12 := Lib.hid (HN1.out.below hB2); have HC2 : Hid (Below W.heap.size W w2) := Lib.hid (HC1.out.trans (hB2.mono HC1.out.size)); clear hN2 hB2 tok2 _t)
      | (go_at_call 205; refine (red_any _ (m1 * d2) (d1 * m2) _ _ _ HN12.out HN2.out ll1 ll2 hpos).mono ?_; rintro e w3 ⟨r1, r2, rfl, hR1, hR2, hB3⟩; have HR1 := Lib.hid hR1; have HR2 := Lib.hid hR2; have HC3 : Hid (Below W.heap.size W w3) := Lib.hid (HC2.out.trans (hB3.mono HC2.out.size)); clear hR1 hR2 hB3; obtain ⟨A5, n5, k5, rfl⟩ := HR1.out.shape; obtain ⟨A6, n6, k6, rfl⟩ := HR2.out.shape; have hk := HK2.out.low HC3.out; have c0 := hk.cell 0; have c1 := hk.cell 1; have c2 := hk.cell 2; have f0 := hk.frozen 0; have f1 := hk.frozen 1; have f2 := hk.frozen 2; simp only [List.getElem?_toArray, List.getElem?_cons_zero, List.getElem?_cons_succ] at c0 c1 c2; have HK3 := Lib.hid hk; clear hk))
  go_wp2
  refine bodyPost_ret (v := .agg #[.bool (rneg (!(na == nb)) (m1 * d2)), .slice A5 n5 k5, .slice A6 n6 k6]) (by simp [results, Tryz.results166, go_sem, c0, c1, c2]) rfl ?_
  refine ⟨_, _, rfl, nt_store3 HR1.out HK3.out (notI_bool _) (notI_slice _ _ _) (notI_slice _ _ _) (notI_bool _) (notI_slice _ _ _), nt_store3 HR2.out HK3.out (notI_bool _) (notI_slice _ _ _) (notI_slice _ _ _) (notI_bool _) (notI_slice _ _ _), ?_⟩
  have hb3 := HB.out.trans (HC3.out.mono HB.out.size)
  exact ((hb3.setCell (p := ⟨w.heap.size + 1 + 1, 0, none⟩) (by show w.heap.size ≤ w.heap.size + 1 + 1; omega) _).setCell (p := ⟨w.heap.size + 1 + 1, 1, none⟩) (by show w.heap.size ≤ w.heap.size + 1 + 1; omega) _).setCell (p := ⟨w.heap.size + 1 + 1, 2, none⟩) (by show w.heap.size ≤ w.heap.size + 1 + 1; omega) _
end Go.Proofs.YtkcdgaijklhnaaaGreatDoor
namespace Go.Proofs.YtkcdgaijklhnaaaGreatDoor
open Go.RowKit
theorem natAbs_len {n : Int} (h1 : -9223372036854775808 ≤ n) (h2 : n ≤ 9223372036854775807) : (Mth.dg 1000000000 n.natAbs).length ≤ 3 :=
 Mth.dg_len_le (by omega) 3 _ (by omega)
def qneg (a b : Int) : Bool := rneg (!(decide (a < 0) == decide (b < 0))) (a.natAbs * 1)
def qnum (a b : Int) : Nat := rnum (a.natAbs * 1) (1 * b.natAbs)
def qden (a b : Int) : Nat := rden (a.natAbs * 1) (1 * b.natAbs)
set_option maxHeartbeats 2000000 in
set_option maxRecDepth 100000 in
theorem quot_any (a b : Int) (w : World) (h1 : -9223372036854775808 ≤ a) (h2 : a ≤ 9223372036854775807) (h3 : -9223372036854775808 ≤ b) (h4 : b ≤ 9223372036854775807) (hb0 : b ≠ 0) :
  Calls Tryz.prog 143 #[.int .i64 a, .int .i64 b] w fun e w' => ∃ v1 v2, e = .returned (.agg #[.bool (qneg a b), v1, v2]) ∧ Nt w' v1 (qnum a b) ∧ Nt w' v2 (qden a b) ∧ Below w.heap.size w w' := by
 have hi1 := fun W => fint_any a W h1 h2
 have hi2 := fun W => fint_any b W h3 h4
 have HI1 := Lib.hid hi1
 have HI2 := Lib.hid hi2
 have HL1 := Lib.hid (natAbs_len h1 h2)
 have HL2 := Lib.hid (natAbs_len h3 h4)
 have HB0 := Lib.hid hb0
 have hone : (Mth.dg 1000000000 1).length = 1 := by rw [Mth.dg_one (by omega) (by omega) (by omega)]; rfl
 have HO := Lib.hid hone
 have hBW : Below w.heap.size w (w.alloc (.cells #[.bool false, .slice none 0 0, .slice none 0 0] 161)) := (Below.refl _ w).alloc (Nat.le_refl _) _
 have hbl := Blk.new w 161 #[.bool false, .slice none 0 0, .slice none 0 0]
 have HBW := Lib.hid hBW
 have HBL := Lib.hid hbl
 clear hi1 hi2 h1 h2 h3 h4 hb0 hone hBW hbl
 go_enter Tryz.func143, Tryz.ntmps143
 go_wp2_with fail
 refine (HI1.out _).mono ?_
 rintro e w1 ⟨x1, y1, rfl, hn1, hd1, hB1⟩
 have HN1 := Lib.hid hn1
 have HD1 := Lib.hid hd1
 have HB1 := Lib.hid (HBW.out.trans (hB1.mono HBW.out.size))
 have HBL1 := Lib.hid (HBL.out.low hB1)
 clear hn1 hd1 hB1
 obtain ⟨A1, n1, k1, rfl⟩ := HN1.out.shape
 obtain ⟨A2, n2, k2, rfl⟩ := HD1.out.shape
 go_wp2_with fail
 refine (HI2.out _).mono ?_
 rintro e w2 ⟨x2, y2, rfl, hn2, hd2, hB2⟩
 have HN2 := Lib.hid hn2
 have HD2 := Lib.hid hd2
 have HN12 := Lib.hid (HN1.out.below hB2)
 have HD12 := Lib.hid (HD1.out.below hB2)
 have HB2 := Lib.hid (HB1.out.trans (hB2.mono HB1.out.size))
 have HBL2 := Lib.hid (HBL1.out.low hB2)
 clear hn2 hd2 hB2
 obtain ⟨A3, n3, k3, rfl⟩ := HN2.out.shape
 obtain ⟨A4, n4, k4, rfl⟩ := HD2.out.shape
 have hdiv := fdiv_any (decide (a < 0)) (decide (b < 0)) a.natAbs 1 b.natAbs 1 _ _ _ _ w2 HN12.out HD12.out HN2.out HD2.out (by have := HL1.out; omega) (by rw [HO.out]; omega) (by have := HL2.out; omega) (by rw [HO.out]; omega) (by have := HB0.out; omega)
 have HDIV := Lib.hid hdiv
 clear hdiv
 go_wp2_with fail
 refine HDIV.out.mono ?_
 rintro e w3 ⟨x5, y5, rfl, hn5, hd5, hB5⟩
 have HN5 := Lib.hid hn5
 have HD5 := Lib.hid hd5
 have HB5 := Lib.hid (HB2.out.trans (hB5.mono HB2.out.size))
 have hk := HBL2.out.low hB5
 have HK := Lib.hid hk
 have c0 := hk.cell 0
 have c1 := hk.cell 1
 have c2 := hk.cell 2
 have f0 := hk.frozen 0
 have f1 := hk.frozen 1
 have f2 := hk.frozen 2
 simp only [List.getElem?_toArray, List.getElem?_cons_zero, List.getElem?_cons_succ] at c0 c1 c2
 clear hn5 hd5 hB5 hk
 obtain ⟨A5, n5, k5, rfl⟩ := HN5.out.shape
 obtain ⟨A6, n6, k6, rfl⟩ := HD5.out.shape
 go_wp2
 refine bodyPost_ret (v := .agg #[.bool (qneg a b), .slice A5 n5 k5, .slice A6 n6 k6]) (by simp [results, Tryz.results143, go_sem, c0, c1, c2, qneg]) rfl ?_
 exact ⟨_, _, rfl, nt_store3 HN5.out HK.out (notI_bool _) (notI_slice _ _ _) (notI_slice _ _ _) (notI_bool _) (notI_slice _ _ _), nt_store3 HD5.out HK.out (notI_bool _) (notI_slice _ _ _) (notI_slice _ _ _) (notI_bool _) (notI_slice _ _ _),
  ((HB5.out.setCell (p := ⟨w.heap.size, 0, none⟩) (Nat.le_refl _) _).setCell (p := ⟨w.heap.size, 1, none⟩) (Nat.le_refl _) _).setCell (p := ⟨w.heap.size, 2, none⟩) (Nat.le_refl _) _⟩
def numBytes (neg : Bool) (n : Nat) : List UInt8 := if neg then 45 :: Lib.decDigits n else Lib.decDigits n
set_option maxHeartbeats 2000000 in
set_option maxRecDepth 100000 in
theorem rat_any (neg : Bool) (m n : Nat) (va vb : Value) (w : World) (ha : Nt w va m) (hb : Nt w vb n) (hs : (Mth.dg 1000000000 m).length ≤ 1000000000000) (ht : (Mth.dg 1000000000 n).length ≤ 1000000000000) (htab : Tabs w) :
  Calls Tryz.prog 129 #[.agg #[.bool neg, va, vb]] w fun e w' => ∃ S T : ByteArray, e = .returned (.agg #[.string S, .string T]) ∧ S.data.toList = numBytes neg m ∧ T.data.toList = Lib.decDigits n ∧ Below w.heap.size w w' := by
 obtain ⟨A1, n1, k1, rfl⟩ := ha.shape
 obtain ⟨A2, n2, k2, rfl⟩ := hb.shape
 obtain ⟨W, hW⟩ : ∃ W, W = (w.alloc (.cells #[.bool neg, .slice A1 n1 k1, .slice A2 n2 k2] 161)).alloc (.cells #[.string ⟨#[]⟩, .string ⟨#[]⟩] 50) := ⟨_, rfl⟩
 have hBW : Below w.heap.size w W := by
  rw [hW]
  exact ((Below.refl _ w).alloc (Nat.le_refl _) _).alloc (by simp) _
 have hk0 : Blk W w.heap.size 161 #[.bool neg, .slice A1 n1 k1, .slice A2 n2 k2] := by
  rw [hW]; exact (Blk.new w _ _).alloc _
 have hk1 : Blk W (w.heap.size + 1) 50 #[.string ⟨#[]⟩, .string ⟨#[]⟩] := by
  rw [hW]
  have := Blk.new (w.alloc (.cells #[.bool neg, .slice A1 n1 k1, .slice A2 n2 k2] 161)) 50 #[.string ⟨#[]⟩, .string ⟨#[]⟩]
  rwa [World.size_alloc] at this
 have HW := Lib.hid hW
 have e1 := hk0.cell 1
 simp only [List.getElem?_toArray, List.getElem?_cons_zero, List.getElem?_cons_succ] at e1
 have hs1 := string_any m _ W (ha.below hBW) hs (htab.low hBW)
 have HS1 := Lib.hid hs1
 have HB := Lib.hid hBW
 have HBb := Lib.hid (hb.below hBW)
 have HT := Lib.hid (htab.low hBW)
 have HK0 := Lib.hid hk0
 have HK1 := Lib.hid hk1
 have hdl := Mth.dec_len_le m
 clear hs1 hBW hk0 hk1 hW ha hb htab
 go_enter Tryz.func129, Tryz.ntmps129
 go_wp2_with fail
 rw [← HW.out]
 refine HS1.out.mono ?_
 rintro e w1 ⟨S, rfl, hS, hB1⟩
 have hk1 := HK0.out.low hB1
 have g0 := hk1.cell 0
 have g2 := hk1.cell 2
 simp only [List.getElem?_toArray, List.getElem?_cons_zero, List.getElem?_cons_succ] at g0 g2
 have hss : S.size ≤ 9000000000001 := by rw [bytes_size, hS]; omega
 have HS := Lib.hid hS
 have HB1 := Lib.hid (HB.out.trans (hB1.mono HB.out.size))
 have hs2 := string_any n _ w1 (HBb.out.below hB1) ht (HT.out.low hB1)
 have HS2 := Lib.hid hs2
 have HK11 := Lib.hid (HK1.out.low hB1)
 clear hS hB1 hs2 hk1 e1 hdl
 cases neg with
 | false =>
  go_wp2_with fail
  refine HS2.out.mono ?_
  rintro e w2 ⟨T, rfl, hT, hB2⟩
  have hk := HK11.out.low hB2
  have c0 := hk.cell 0
  have c1 := hk.cell 1
  have f0 := hk.frozen 0
  have f1 := hk.frozen 1
  simp only [List.getElem?_toArray, List.getElem?_cons_zero, List.getElem?_cons_succ] at c0 c1
  have HB2 := Lib.hid (HB1.out.trans (hB2.mono HB1.out.size))
  have HT2 := Lib.hid hT
  clear hk hT hB2 g0 g2
  go_wp2
  refine bodyPost_ret (v := .agg #[.string S, .string T]) (by simp [results, Tryz.results129, go_sem, c0, c1]) rfl ?_
  exact ⟨S, T, rfl, HS.out, HT2.out, (HB2.out.setCell (p := ⟨w.heap.size + 1, 0, none⟩) (by show w.heap.size ≤ w.heap.size + 1; omega) _).setCell (p := ⟨w.heap.size + 1, 1, none⟩) (by show w.heap.size ≤ w.heap.size + 1; omega) _⟩
 | true =>
  go_wp2_with fail
  refine HS2.out.mono ?_
  rintro e w2 ⟨T, rfl, hT, hB2⟩
  have hk := HK11.out.low hB2
  have c0 := hk.cell 0
  have c1 := hk.cell 1
  have f0 := hk.frozen 0
  have f1 := hk.frozen 1
  simp only [List.getElem?_toArray, List.getElem?_cons_zero, List.getElem?_cons_succ] at c0 c1
  have HB2 := Lib.hid (HB1.out.trans (hB2.mono HB1.out.size))
  have HT2 := Lib.hid hT
  clear hk hT hB2 g0 g2
  go_wp2
  refine bodyPost_ret (v := .agg #[.string (⟨#[45]⟩ ++ S), .string T]) (by simp [results, Tryz.results129, go_sem, c0, c1]) rfl ?_
  refine ⟨⟨#[45]⟩ ++ S, T, rfl, ?_, HT2.out, (HB2.out.setCell (p := ⟨w.heap.size + 1, 0, none⟩) (by show w.heap.size ≤ w.heap.size + 1; omega) _).setCell (p := ⟨w.heap.size + 1, 1, none⟩) (by show w.heap.size ≤ w.heap.size + 1; omega) _⟩
  rw [numBytes, if_pos rfl, ← HS.out]
  simp [ByteArray.data_append]
end Go.Proofs.YtkcdgaijklhnaaaGreatDoor
