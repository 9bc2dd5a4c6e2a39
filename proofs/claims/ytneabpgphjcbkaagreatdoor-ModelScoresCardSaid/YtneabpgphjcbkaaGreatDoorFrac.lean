/-
  frac: numbers in lowest terms.
-/
import Derived.Test.YtneabpgphjcbkaaGreatDoorNatGcd
import Derived.Test.YtneabpgphjcbkaaGreatDoorNatMul
import Derived.Test.YtneabpgphjcbkaaGreatDoorNatString
import Derived.Deep.RegionHeld3
namespace Go.Proofs.YtneabpgphjcbkaaGreatDoor
open Go.RowKit

theorem fone_any (w : World) : Calls Tryz.prog 120 #[] w fun e w' => ∃ v, e = .returned v ∧ Nt w' v 1 ∧ Below w.heap.size w w' := by
  have H := Lib.hid (fun W => of_any 1 W (by omega))
  go_enter Tryz.func120, Tryz.ntmps120
  go_wp2_with fail
  refine (H.out _).mono ?_
  rintro e w' ⟨v, rfl, hN, hB⟩
  go_wp2
  go_ret
  exact ⟨_, rfl, hN, hB⟩

/-- block g is just these cells -/
def Blk (w : World) (g : Nat) (t : TypeId) (cs : Array Value) : Prop := w.heap[g]? = some (.cells cs t (0, 0))
theorem Blk.lt {w : World} {g : Nat} {t : TypeId} {cs : Array Value} (h : Blk w g t cs) : g < w.heap.size := (Array.getElem?_eq_some_iff.1 h).1
theorem Blk.cell {w : World} {g : Nat} {t : TypeId} {cs : Array Value} (h : Blk w g t cs) (i : Nat) : w.cell? ⟨g, i, none⟩ = cs[i]? := cell_of_row w g i cs t (0, 0) h
theorem Blk.frozen {w : World} {g : Nat} {t : TypeId} {cs : Array Value} (h : Blk w g t cs) (i : Nat) : w.frozen? ⟨g, i, none⟩ = false := by
  unfold Blk at h
  simp [World.frozen?, h]
theorem Blk.new (w : World) (t : TypeId) (cs : Array Value) : Blk (w.alloc (.cells cs t)) w.heap.size t cs := heap_alloc_new w _
theorem Blk.below {w w' : World} {g B : Nat} {t : TypeId} {cs : Array Value} (h : Blk w g t cs) (hb : Below B w w') (hg : g < B) : Blk w' g t cs := (hb.block g hg).trans h
theorem Blk.low {w w' : World} {g : Nat} {t : TypeId} {cs : Array Value} (h : Blk w g t cs) (hb : Below w.heap.size w w') : Blk w' g t cs := h.below hb h.lt
theorem Blk.alloc {w : World} {g : Nat} {t : TypeId} {cs : Array Value} (h : Blk w g t cs) (o : Obj) : Blk (w.alloc o) g t cs := (Below.heap_alloc w o g h.lt).trans h

/-- block g holds no integers -/
def NoInt (w : World) (g : Nat) : Prop := ∀ (i : Nat) (k : IntKind) (d : Int), w.cell? ⟨g, i, none⟩ ≠ some (Value.int k d)
theorem NoInt.of {w : World} {g : Nat} {t : TypeId} {cs : Array Value} (h : Blk w g t cs) (hc : ∀ (i : Nat) (k : IntKind) (d : Int), cs[i]? ≠ some (Value.int k d)) : NoInt w g := fun i k d => by
  rw [h.cell]; exact hc i k d
theorem Blk.set {w : World} {g : Nat} {t : TypeId} {cs : Array Value} (h : Blk w g t cs) (i : Nat) (u : Value) : Blk (w.setCell ⟨g, i, none⟩ u) g t (cs.setIfInBounds i u) := by
  unfold Blk at h ⊢
  simp [World.setCell, Array.getElem?_modify, h]
theorem Nt.set {w : World} {v : Value} {n g i : Nat} {x : Value} (h : Nt w v n) (hn : NoInt w g) : Nt (w.setCell ⟨g, i, none⟩ x) v n := by
  obtain ⟨A, c, e, h1, h2, h3⟩ := h
  refine ⟨A, c, e, h1, h2, fun h0 => ?_⟩
  obtain ⟨b, o, e2, h4⟩ := h3 h0
  refine ⟨b, o, e2, fun j u hu => ?_⟩
  have h5 := h4 j u hu
  rw [World.cell?_setCell_other]
  · exact h5
  · intro h; injection h with h _
    have hl : j < (Mth.dg 1000000000 n).length := by
      rcases Nat.lt_or_ge j (Mth.dg 1000000000 n).length with h | h
      · exact h
      · rw [List.getElem?_eq_none (by rw [u32s_length]; exact h)] at hu; cases hu
    rw [u32s_at hl] at hu
    injection hu with hu
    subst h
    rw [← hu] at h5
    exact hn _ _ _ h5

def NotI (v : Value) : Prop := ∀ (k : IntKind) (d : Int), v ≠ Value.int k d
theorem notI_bool (b : Bool) : NotI (.bool b) := fun _ _ e => by cases e
theorem notI_slice (A : Option Addr) (n c : Nat) : NotI (.slice A n c) := fun _ _ e => by cases e
theorem notI3 {x y z : Value} (hx : NotI x) (hy : NotI y) (hz : NotI z) : ∀ (i : Nat) k d, (#[x, y, z] : Array Value)[i]? ≠ some (.int k d) := by
  intro i k d e
  match i, e with
  | 0, e => simp at e; exact hx k d e
  | 1, e => simp at e; exact hy k d e
  | 2, e => simp at e; exact hz k d e
  | i + 3, e => simp at e
theorem nt_store3 {w : World} {v : Value} {n g : Nat} {t : TypeId} {x0 x1 x2 y0 y1 y2 : Value} (h : Nt w v n) (hb : Blk w g t #[x0, x1, x2]) (a0 : NotI x0) (a1 : NotI x1) (a2 : NotI x2) (b0 : NotI y0) (b1 : NotI y1) :
    Nt (((w.setCell ⟨g, 0, none⟩ y0).setCell ⟨g, 1, none⟩ y1).setCell ⟨g, 2, none⟩ y2) v n := by
  have h1 := h.set (i := 0) (x := y0) (NoInt.of hb (notI3 a0 a1 a2))
  have hb1 : Blk (w.setCell ⟨g, 0, none⟩ y0) g t #[y0, x1, x2] := hb.set 0 y0
  have h2 := h1.set (i := 1) (x := y1) (NoInt.of hb1 (notI3 b0 a1 a2))
  have hb2 : Blk ((w.setCell ⟨g, 0, none⟩ y0).setCell ⟨g, 1, none⟩ y1) g t #[y0, y1, x2] := hb1.set 1 y1
  exact h2.set (i := 2) (x := y2) (NoInt.of hb2 (notI3 b0 b1 a2))

set_option maxHeartbeats 1000000 in
set_option maxRecDepth 100000 in
theorem fint_any (n : Int) (w : World) (h1 : -9223372036854775808 ≤ n) (h2 : n ≤ 9223372036854775807) :
    Calls Tryz.prog 100 #[.int .i64 n] w fun e w' => ∃ v1 v2, e = .returned (.agg #[.bool (decide (n < 0)), v1, v2]) ∧ Nt w' v1 n.natAbs ∧ Nt w' v2 1 ∧ Below w.heap.size w w' := by
  have hof := fun W => of_any n.natAbs W (by omega)
  have HOF := Lib.hid hof
  have HON := Lib.hid fone_any
  by_cases h0 : n < 0
  · have hu : IntKind.u64.wrap (-(IntKind.u64.wrap n)) = (n.natAbs : Int) := by rw [IntKind.wrap_u64, IntKind.wrap_u64]; omega
    have HU := Lib.hid hu
    have hd : decide (n < 0) = true := by simp [h0]
    rw [hd]
    clear hof h1 h2 hu hd
    go_enter Tryz.func100, Tryz.ntmps100
    go_wp2_with fail
    rw [HU.out]
    refine (HOF.out _).mono ?_
    rintro e w1 ⟨v1, rfl, hN1, hB1⟩
    go_wp2_with fail
    refine (HON.out w1).mono ?_
    rintro e w2 ⟨v2, rfl, hN2, hB2⟩
    have hblk := ((Blk.new w 109 #[.bool false, .slice none 0 0, .slice none 0 0]).low hB1).low hB2
    have c0 := hblk.cell 0
    have c1 := hblk.cell 1
    have c2 := hblk.cell 2
    have f0 := hblk.frozen 0
    have f1 := hblk.frozen 1
    have f2 := hblk.frozen 2
    have hB : Below w.heap.size w w2 := (((Below.refl _ w).alloc (Nat.le_refl _) _).trans (hB1.mono (by simp))).trans (hB2.mono (by have := hB1.size; simp at this; omega))
    simp only [List.getElem?_toArray, List.getElem?_cons_zero, List.getElem?_cons_succ] at c0 c1 c2
    have HN1 := Lib.hid (hN1.below hB2)
    have HN2 := Lib.hid hN2
    have HB := Lib.hid hB
    have HB1 := Lib.hid hB1
    have HB2 := Lib.hid hB2
    have HBLK := Lib.hid hblk
    clear hN1 hN2 hB hB1 hB2 hblk
    obtain ⟨A1, n1, k1, rfl⟩ : ∃ A n k, v1 = .slice A n k := by obtain ⟨A, c, e, _⟩ := HN1.out; exact ⟨_, _, _, e⟩
    obtain ⟨A2, n2, k2, rfl⟩ : ∃ A n k, v2 = .slice A n k := by obtain ⟨A, c, e, _⟩ := HN2.out; exact ⟨_, _, _, e⟩
    go_wp2
    refine bodyPost_ret (v := .agg #[.bool true, .slice A1 n1 k1, .slice A2 n2 k2]) (by simp [results, Tryz.results100, go_sem, c0, c1, c2]) rfl ?_
    exact ⟨_, _, rfl, nt_store3 HN1.out HBLK.out (notI_bool _) (notI_slice _ _ _) (notI_slice _ _ _) (notI_bool _) (notI_slice _ _ _), nt_store3 HN2.out HBLK.out (notI_bool _) (notI_slice _ _ _) (notI_slice _ _ _) (notI_bool _) (notI_slice _ _ _),
      ((HB.out.setCell (p := ⟨w.heap.size, 0, none⟩) (Nat.le_refl _) _).setCell (p := ⟨w.heap.size, 1, none⟩) (Nat.le_refl _) _).setCell (p := ⟨w.heap.size, 2, none⟩) (Nat.le_refl _) _⟩
  · have hu : IntKind.u64.wrap n = (n.natAbs : Int) := by rw [IntKind.wrap_u64]; omega
    have HU := Lib.hid hu
    have hd : decide (n < 0) = false := by simp; omega
    rw [hd]
    clear hof h1 h2 hu hd
    go_enter Tryz.func100, Tryz.ntmps100
    go_wp2_with fail
    rw [HU.out]
    refine (HOF.out _).mono ?_
    rintro e w1 ⟨v1, rfl, hN1, hB1⟩
    go_wp2_with fail
    refine (HON.out w1).mono ?_
    rintro e w2 ⟨v2, rfl, hN2, hB2⟩
    have hblk := ((Blk.new w 109 #[.bool false, .slice none 0 0, .slice none 0 0]).low hB1).low hB2
    have c0 := hblk.cell 0
    have c1 := hblk.cell 1
    have c2 := hblk.cell 2
    have f0 := hblk.frozen 0
    have f1 := hblk.frozen 1
    have f2 := hblk.frozen 2
    have hB : Below w.heap.size w w2 := (((Below.refl _ w).alloc (Nat.le_refl _) _).trans (hB1.mono (by simp))).trans (hB2.mono (by have := hB1.size; simp at this; omega))
    simp only [List.getElem?_toArray, List.getElem?_cons_zero, List.getElem?_cons_succ] at c0 c1 c2
    have HN1 := Lib.hid (hN1.below hB2)
    have HN2 := Lib.hid hN2
    have HB := Lib.hid hB
    have HB1 := Lib.hid hB1
    have HB2 := Lib.hid hB2
    have HBLK := Lib.hid hblk
    clear hN1 hN2 hB hB1 hB2 hblk
    obtain ⟨A1, n1, k1, rfl⟩ : ∃ A n k, v1 = .slice A n k := by obtain ⟨A, c, e, _⟩ := HN1.out; exact ⟨_, _, _, e⟩
    obtain ⟨A2, n2, k2, rfl⟩ : ∃ A n k, v2 = .slice A n k := by obtain ⟨A, c, e, _⟩ := HN2.out; exact ⟨_, _, _, e⟩
    go_wp2
    refine bodyPost_ret (v := .agg #[.bool false, .slice A1 n1 k1, .slice A2 n2 k2]) (by simp [results, Tryz.results100, go_sem, c0, c1, c2]) rfl ?_
    exact ⟨_, _, rfl, nt_store3 HN1.out HBLK.out (notI_bool _) (notI_slice _ _ _) (notI_slice _ _ _) (notI_bool _) (notI_slice _ _ _), nt_store3 HN2.out HBLK.out (notI_bool _) (notI_slice _ _ _) (notI_slice _ _ _) (notI_bool _) (notI_slice _ _ _),
      ((HB.out.setCell (p := ⟨w.heap.size, 0, none⟩) (Nat.le_refl _) _).setCell (p := ⟨w.heap.size, 1, none⟩) (Nat.le_refl _) _).setCell (p := ⟨w.heap.size, 2, none⟩) (Nat.le_refl _) _⟩

set_option maxHeartbeats 2000000 in
set_option maxRecDepth 100000 in
theorem red_zero (neg : Bool) (m n : Nat) (va vb : Value) (w : World) (ha : Nt w va m) (hb : Nt w vb n) (hs : (Mth.dg 1000000000 m).length ≤ 100000000000) (_ht : (Mth.dg 1000000000 n).length ≤ 100000000000) (_hn0 : 0 < n) (hm : m = 0) :
    Calls Tryz.prog 118 #[.bool neg, va, vb] w fun e w' => ∃ v1 v2, e = .returned (.agg #[.bool false, v1, v2]) ∧ Nt w' v1 (0) ∧ Nt w' v2 (1) ∧ Below w.heap.size w w' := by
  have hB0 : Below w.heap.size w (w.alloc (.cells #[.bool false, .slice none 0 0, .slice none 0 0] 109)) := (Below.refl _ w).alloc (Nat.le_refl _) _
  have hA0 := ha.below hB0
  have hBb0 := hb.below hB0
  have hbl0 := Blk.new w 109 #[.bool false, .slice none 0 0, .slice none 0 0]
  generalize hW0 : w.alloc (.cells #[.bool false, .slice none 0 0, .slice none 0 0] 109) = w0 at *
  have HW0 := Lib.hid hW0
  have hz := zero_any m va w0 hA0 (by omega)
  have HZ := Lib.hid hz
  have HA := Lib.hid hA0
  have HBB := Lib.hid hBb0
  have HB0 := Lib.hid hB0
  have HBL0 := Lib.hid hbl0
  subst hm
  have HON := Lib.hid fone_any
  rw [decide_eq_true rfl] at hz
  have HZ := Lib.hid hz
  clear hz hA0 hBb0 hB0 hbl0 ha hb hs _ht hW0
  go_enter Tryz.func118, Tryz.ntmps118
  go_wp2_with fail
  rw [HW0.out]
  refine HZ.out.mono ?_
  rintro e w1 ⟨rfl, rfl⟩
  go_wp2_with fail
  refine (HON.out _).mono ?_
  rintro e w2 ⟨v2, rfl, hN2, hB2⟩
  have HBLK := Lib.hid (HBL0.out.low hB2)
  have HN1 : Hid (Nt w2 (.slice none 0 0) 0) := Lib.hid (by unfold Nt; rw [Mth.dg_zero]; exact Sl.nil_ w2)
  have HN2 := Lib.hid hN2
  have HB := Lib.hid (HB0.out.trans (hB2.mono HB0.out.size))
  clear hN2 hB2
  have c0 := HBLK.out.cell 0
  have c1 := HBLK.out.cell 1
  have c2 := HBLK.out.cell 2
  have f0 := HBLK.out.frozen 0
  have f1 := HBLK.out.frozen 1
  have f2 := HBLK.out.frozen 2
  simp only [List.getElem?_toArray, List.getElem?_cons_zero, List.getElem?_cons_succ] at c0 c1 c2
  obtain ⟨A2, n2, k2, rfl⟩ : ∃ A n k, v2 = .slice A n k := by obtain ⟨A, c, e, _⟩ := HN2.out; exact ⟨_, _, _, e⟩
  go_wp2
  refine bodyPost_ret (v := .agg #[.bool false, .slice none 0 0, .slice A2 n2 k2]) (by simp [results, Tryz.results118, go_sem, c0, c1, c2]) rfl ?_
  exact ⟨_, _, rfl, nt_store3 HN1.out HBLK.out (notI_bool _) (notI_slice _ _ _) (notI_slice _ _ _) (notI_bool _) (notI_slice _ _ _), nt_store3 HN2.out HBLK.out (notI_bool _) (notI_slice _ _ _) (notI_slice _ _ _) (notI_bool _) (notI_slice _ _ _),
    ((HB.out.setCell (p := ⟨w.heap.size, 0, none⟩) (Nat.le_refl _) _).setCell (p := ⟨w.heap.size, 1, none⟩) (Nat.le_refl _) _).setCell (p := ⟨w.heap.size, 2, none⟩) (Nat.le_refl _) _⟩

set_option maxHeartbeats 2000000 in
set_option maxRecDepth 100000 in
theorem red_one (neg : Bool) (m n : Nat) (va vb : Value) (w : World) (ha : Nt w va m) (hb : Nt w vb n) (hs : (Mth.dg 1000000000 m).length ≤ 100000000000) (ht : (Mth.dg 1000000000 n).length ≤ 100000000000) (_hn0 : 0 < n) (hm : 0 < m) (hn1 : n = 1) :
    Calls Tryz.prog 118 #[.bool neg, va, vb] w fun e w' => ∃ v1 v2, e = .returned (.agg #[.bool neg, v1, v2]) ∧ Nt w' v1 (m) ∧ Nt w' v2 (n) ∧ Below w.heap.size w w' := by
  have hB0 : Below w.heap.size w (w.alloc (.cells #[.bool false, .slice none 0 0, .slice none 0 0] 109)) := (Below.refl _ w).alloc (Nat.le_refl _) _
  have hA0 := ha.below hB0
  have hBb0 := hb.below hB0
  have hbl0 := Blk.new w 109 #[.bool false, .slice none 0 0, .slice none 0 0]
  generalize hW0 : w.alloc (.cells #[.bool false, .slice none 0 0, .slice none 0 0] 109) = w0 at *
  have HW0 := Lib.hid hW0
  have hz := zero_any m va w0 hA0 (by omega)
  rw [decide_eq_false (by omega)] at hz
  have HZ := Lib.hid hz
  have ho := one_any n vb w0 hBb0 (by omega)
  rw [decide_eq_true (by omega)] at ho
  have HO := Lib.hid ho
  have HA := Lib.hid hA0
  have HBB := Lib.hid hBb0
  have HB0 := Lib.hid hB0
  have HBL0 := Lib.hid hbl0
  clear hz ho hA0 hBb0 hB0 hbl0 ha hb hW0
  obtain ⟨A1, n1, k1, rfl⟩ : ∃ A n k, va = .slice A n k := by obtain ⟨A, c, e, _⟩ := HA.out; exact ⟨_, _, _, e⟩
  obtain ⟨A2, n2, k2, rfl⟩ : ∃ A n k, vb = .slice A n k := by obtain ⟨A, c, e, _⟩ := HBB.out; exact ⟨_, _, _, e⟩
  go_enter Tryz.func118, Tryz.ntmps118
  go_wp2_with fail
  rw [HW0.out]
  refine HZ.out.mono ?_
  rintro e w1 ⟨rfl, rfl⟩
  go_wp2_with fail
  refine HO.out.mono ?_
  rintro e w1 ⟨rfl, rfl⟩
  have HBLK := HBL0
  have HN1 := HA
  have HN2 := HBB
  have HB := HB0
  have c0 := HBLK.out.cell 0
  have c1 := HBLK.out.cell 1
  have c2 := HBLK.out.cell 2
  have f0 := HBLK.out.frozen 0
  have f1 := HBLK.out.frozen 1
  have f2 := HBLK.out.frozen 2
  simp only [List.getElem?_toArray, List.getElem?_cons_zero, List.getElem?_cons_succ] at c0 c1 c2
  go_wp2
  refine bodyPost_ret (v := .agg #[.bool neg, .slice A1 n1 k1, .slice A2 n2 k2]) (by simp [results, Tryz.results118, go_sem, c0, c1, c2]) rfl ?_
  exact ⟨_, _, rfl, nt_store3 HN1.out HBLK.out (notI_bool _) (notI_slice _ _ _) (notI_slice _ _ _) (notI_bool _) (notI_slice _ _ _), nt_store3 HN2.out HBLK.out (notI_bool _) (notI_slice _ _ _) (notI_slice _ _ _) (notI_bool _) (notI_slice _ _ _),
    ((HB.out.setCell (p := ⟨w.heap.size, 0, none⟩) (Nat.le_refl _) _).setCell (p := ⟨w.heap.size, 1, none⟩) (Nat.le_refl _) _).setCell (p := ⟨w.heap.size, 2, none⟩) (Nat.le_refl _) _⟩

set_option maxHeartbeats 2000000 in
set_option maxRecDepth 100000 in
theorem red_prime (neg : Bool) (m n : Nat) (va vb : Value) (w : World) (ha : Nt w va m) (hb : Nt w vb n) (hs : (Mth.dg 1000000000 m).length ≤ 100000000000) (ht : (Mth.dg 1000000000 n).length ≤ 100000000000) (hn0 : 0 < n) (hm : 0 < m) (hn1 : n ≠ 1) (hgcd : Nat.gcd m n = 1) :
    Calls Tryz.prog 118 #[.bool neg, va, vb] w fun e w' => ∃ v1 v2, e = .returned (.agg #[.bool neg, v1, v2]) ∧ Nt w' v1 (m) ∧ Nt w' v2 (n) ∧ Below w.heap.size w w' := by
  have hB0 : Below w.heap.size w (w.alloc (.cells #[.bool false, .slice none 0 0, .slice none 0 0] 109)) := (Below.refl _ w).alloc (Nat.le_refl _) _
  have hA0 := ha.below hB0
  have hBb0 := hb.below hB0
  have hbl0 := Blk.new w 109 #[.bool false, .slice none 0 0, .slice none 0 0]
  generalize hW0 : w.alloc (.cells #[.bool false, .slice none 0 0, .slice none 0 0] 109) = w0 at *
  have HW0 := Lib.hid hW0
  have hz := zero_any m va w0 hA0 (by omega)
  rw [decide_eq_false (by omega)] at hz
  have HZ := Lib.hid hz
  have ho := one_any n vb w0 hBb0 (by omega)
  rw [decide_eq_false (by omega)] at ho
  have HO := Lib.hid ho
  have HA := Lib.hid hA0
  have HBB := Lib.hid hBb0
  have HB0 := Lib.hid hB0
  have HBL0 := Lib.hid hbl0
  have hg := gcd_any m n va vb w0 hA0 hBb0 hs ht
  have hgl : Nat.gcd m n ≤ n := Nat.gcd_le_right _ hn0
  have hg0 : 0 < Nat.gcd m n := Nat.gcd_pos_of_pos_right _ hn0
  have hgd := Mth.dg_len_mono (b := 1000000000) (by omega) hgl
  obtain ⟨g, hgg⟩ : ∃ g, Nat.gcd m n = g := ⟨_, rfl⟩
  rw [hgg] at hg hgl hg0 hgd hgcd
  have HG := Lib.hid hg
  clear hg
  clear hz ho hA0 hBb0 hB0 hbl0 ha hb hW0
  obtain ⟨A1, n1, k1, rfl⟩ : ∃ A n k, va = .slice A n k := by obtain ⟨A, c, e, _⟩ := HA.out; exact ⟨_, _, _, e⟩
  obtain ⟨A2, n2, k2, rfl⟩ : ∃ A n k, vb = .slice A n k := by obtain ⟨A, c, e, _⟩ := HBB.out; exact ⟨_, _, _, e⟩
  go_enter Tryz.func118, Tryz.ntmps118
  go_wp2_with fail
  rw [HW0.out]
  refine HZ.out.mono ?_
  rintro e w1 ⟨rfl, rfl⟩
  go_wp2_with fail
  refine HO.out.mono ?_
  rintro e w1 ⟨rfl, rfl⟩
  go_wp2_with fail
  refine HG.out.mono ?_
  rintro e w2 ⟨vg, rfl, hB2, hN2⟩
  have ho2 := one_any g vg w2 hN2 (by omega)
  rw [decide_eq_true (by omega)] at ho2
  have HO2 := Lib.hid ho2
  have HN2g := Lib.hid hN2
  have HB2 := Lib.hid (HB0.out.trans (hB2.mono HB0.out.size))
  have HBL2 := Lib.hid (HBL0.out.low hB2)
  have HA2 := Lib.hid (HA.out.below hB2)
  have HBB2 := Lib.hid (HBB.out.below hB2)
  clear ho2 hN2 hB2
  obtain ⟨A3, n3, k3, rfl⟩ : ∃ A n k, vg = .slice A n k := by obtain ⟨A, c, e, _⟩ := HN2g.out; exact ⟨_, _, _, e⟩
  go_wp2_with fail
  refine HO2.out.mono ?_
  rintro e w2 ⟨rfl, rfl⟩
  have HBLK := HBL2
  have HN1 := HA2
  have HN2 := HBB2
  have HB := HB2
  have c0 := HBLK.out.cell 0
  have c1 := HBLK.out.cell 1
  have c2 := HBLK.out.cell 2
  have f0 := HBLK.out.frozen 0
  have f1 := HBLK.out.frozen 1
  have f2 := HBLK.out.frozen 2
  simp only [List.getElem?_toArray, List.getElem?_cons_zero, List.getElem?_cons_succ] at c0 c1 c2
  go_wp2
  refine bodyPost_ret (v := .agg #[.bool neg, .slice A1 n1 k1, .slice A2 n2 k2]) (by simp [results, Tryz.results118, go_sem, c0, c1, c2]) rfl ?_
  exact ⟨_, _, rfl, nt_store3 HN1.out HBLK.out (notI_bool _) (notI_slice _ _ _) (notI_slice _ _ _) (notI_bool _) (notI_slice _ _ _), nt_store3 HN2.out HBLK.out (notI_bool _) (notI_slice _ _ _) (notI_slice _ _ _) (notI_bool _) (notI_slice _ _ _),
    ((HB.out.setCell (p := ⟨w.heap.size, 0, none⟩) (Nat.le_refl _) _).setCell (p := ⟨w.heap.size, 1, none⟩) (Nat.le_refl _) _).setCell (p := ⟨w.heap.size, 2, none⟩) (Nat.le_refl _) _⟩

set_option maxHeartbeats 2000000 in
set_option maxRecDepth 100000 in
theorem red_div (neg : Bool) (m n : Nat) (va vb : Value) (w : World) (ha : Nt w va m) (hb : Nt w vb n) (hs : (Mth.dg 1000000000 m).length ≤ 100000000000) (ht : (Mth.dg 1000000000 n).length ≤ 100000000000) (hn0 : 0 < n) (hm : 0 < m) (hn1 : n ≠ 1) (hgcd : Nat.gcd m n ≠ 1) :
    Calls Tryz.prog 118 #[.bool neg, va, vb] w fun e w' => ∃ v1 v2, e = .returned (.agg #[.bool neg, v1, v2]) ∧ Nt w' v1 (m / Nat.gcd m n) ∧ Nt w' v2 (n / Nat.gcd m n) ∧ Below w.heap.size w w' := by
  have hB0 : Below w.heap.size w (w.alloc (.cells #[.bool false, .slice none 0 0, .slice none 0 0] 109)) := (Below.refl _ w).alloc (Nat.le_refl _) _
  have hA0 := ha.below hB0
  have hBb0 := hb.below hB0
  have hbl0 := Blk.new w 109 #[.bool false, .slice none 0 0, .slice none 0 0]
  generalize hW0 : w.alloc (.cells #[.bool false, .slice none 0 0, .slice none 0 0] 109) = w0 at *
  have HW0 := Lib.hid hW0
  have hz := zero_any m va w0 hA0 (by omega)
  rw [decide_eq_false (by omega)] at hz
  have HZ := Lib.hid hz
  have ho := one_any n vb w0 hBb0 (by omega)
  rw [decide_eq_false (by omega)] at ho
  have HO := Lib.hid ho
  have HA := Lib.hid hA0
  have HBB := Lib.hid hBb0
  have HB0 := Lib.hid hB0
  have HBL0 := Lib.hid hbl0
  have hg := gcd_any m n va vb w0 hA0 hBb0 hs ht
  have hgl : Nat.gcd m n ≤ n := Nat.gcd_le_right _ hn0
  have hg0 : 0 < Nat.gcd m n := Nat.gcd_pos_of_pos_right _ hn0
  have hgd := Mth.dg_len_mono (b := 1000000000) (by omega) hgl
  obtain ⟨g, hgg⟩ : ∃ g, Nat.gcd m n = g := ⟨_, rfl⟩
  rw [hgg] at hg hgl hg0 hgd hgcd
  have HG := Lib.hid hg
  clear hg
  rw [hgg]
  clear hz ho hA0 hBb0 hB0 hbl0 ha hb hW0
  obtain ⟨A1, n1, k1, rfl⟩ : ∃ A n k, va = .slice A n k := by obtain ⟨A, c, e, _⟩ := HA.out; exact ⟨_, _, _, e⟩
  obtain ⟨A2, n2, k2, rfl⟩ : ∃ A n k, vb = .slice A n k := by obtain ⟨A, c, e, _⟩ := HBB.out; exact ⟨_, _, _, e⟩
  go_enter Tryz.func118, Tryz.ntmps118
  go_wp2_with fail
  rw [HW0.out]
  refine HZ.out.mono ?_
  rintro e w1 ⟨rfl, rfl⟩
  go_wp2_with fail
  refine HO.out.mono ?_
  rintro e w1 ⟨rfl, rfl⟩
  go_wp2_with fail
  refine HG.out.mono ?_
  rintro e w2 ⟨vg, rfl, hB2, hN2⟩
  have ho2 := one_any g vg w2 hN2 (by omega)
  rw [decide_eq_false (by omega)] at ho2
  have HO2 := Lib.hid ho2
  have HN2g := Lib.hid hN2
  have HB2 := Lib.hid (HB0.out.trans (hB2.mono HB0.out.size))
  have HBL2 := Lib.hid (HBL0.out.low hB2)
  have HA2 := Lib.hid (HA.out.below hB2)
  have HBB2 := Lib.hid (HBB.out.below hB2)
  clear ho2 hN2 hB2
  obtain ⟨A3, n3, k3, rfl⟩ : ∃ A n k, vg = .slice A n k := by obtain ⟨A, c, e, _⟩ := HN2g.out; exact ⟨_, _, _, e⟩
  go_wp2_with fail
  refine HO2.out.mono ?_
  rintro e w2 ⟨rfl, rfl⟩
  have hd1 := div_any m g _ _ w2 HA2.out HN2g.out hs (by omega) hg0
  have HD1 := Lib.hid hd1
  clear hd1
  go_wp2_with fail
  refine HD1.out.mono ?_
  rintro e w3 ⟨vq, vr, rfl, hB3, hq3, hr3⟩
  have HN13 := Lib.hid hq3
  have HB3 := Lib.hid (HB2.out.trans (hB3.mono HB2.out.size))
  have HBL3 := Lib.hid (HBL2.out.low hB3)
  have hd2 := div_any n g _ _ w3 (HBB2.out.below hB3) (HN2g.out.below hB3) ht (by omega) hg0
  have HD2 := Lib.hid hd2
  clear hd2 hB3 hq3 hr3
  go_wp2_with fail
  refine HD2.out.mono ?_
  rintro e w4 ⟨vq2, vr2, rfl, hB4, hq4, hr4⟩
  have HN1 := Lib.hid (HN13.out.below hB4)
  have HN2 := Lib.hid hq4
  have HB := Lib.hid (HB3.out.trans (hB4.mono HB3.out.size))
  have HBLK := Lib.hid (HBL3.out.low hB4)
  clear hB4 hq4 hr4
  have c0 := HBLK.out.cell 0
  have c1 := HBLK.out.cell 1
  have c2 := HBLK.out.cell 2
  have f0 := HBLK.out.frozen 0
  have f1 := HBLK.out.frozen 1
  have f2 := HBLK.out.frozen 2
  simp only [List.getElem?_toArray, List.getElem?_cons_zero, List.getElem?_cons_succ] at c0 c1 c2
  obtain ⟨A5, n5, k5, rfl⟩ : ∃ A n k, vq = .slice A n k := by obtain ⟨A, c, e, _⟩ := HN1.out; exact ⟨_, _, _, e⟩
  obtain ⟨A6, n6, k6, rfl⟩ : ∃ A n k, vq2 = .slice A n k := by obtain ⟨A, c, e, _⟩ := HN2.out; exact ⟨_, _, _, e⟩
  go_wp2
  refine bodyPost_ret (v := .agg #[.bool neg, .slice A5 n5 k5, .slice A6 n6 k6]) (by simp [results, Tryz.results118, go_sem, c0, c1, c2]) rfl ?_
  exact ⟨_, _, rfl, nt_store3 HN1.out HBLK.out (notI_bool _) (notI_slice _ _ _) (notI_slice _ _ _) (notI_bool _) (notI_slice _ _ _), nt_store3 HN2.out HBLK.out (notI_bool _) (notI_slice _ _ _) (notI_slice _ _ _) (notI_bool _) (notI_slice _ _ _),
    ((HB.out.setCell (p := ⟨w.heap.size, 0, none⟩) (Nat.le_refl _) _).setCell (p := ⟨w.heap.size, 1, none⟩) (Nat.le_refl _) _).setCell (p := ⟨w.heap.size, 2, none⟩) (Nat.le_refl _) _⟩

/-- what frac.Reduced makes of a fraction -/
def rneg (neg : Bool) (m : Nat) : Bool := if m = 0 then false else neg
def rnum (m n : Nat) : Nat := if m = 0 then 0 else m / Nat.gcd m n
def rden (m n : Nat) : Nat := if m = 0 then 1 else n / Nat.gcd m n
theorem red_any (neg : Bool) (m n : Nat) (va vb : Value) (w : World) (ha : Nt w va m) (hb : Nt w vb n) (hs : (Mth.dg 1000000000 m).length ≤ 100000000000) (ht : (Mth.dg 1000000000 n).length ≤ 100000000000) (hn0 : 0 < n) :
    Calls Tryz.prog 118 #[.bool neg, va, vb] w fun e w' => ∃ v1 v2, e = .returned (.agg #[.bool (rneg neg m), v1, v2]) ∧ Nt w' v1 (rnum m n) ∧ Nt w' v2 (rden m n) ∧ Below w.heap.size w w' := by
  unfold rneg rnum rden
  by_cases hm : m = 0
  · rw [if_pos hm, if_pos hm, if_pos hm]; exact red_zero neg m n va vb w ha hb hs ht hn0 hm
  · rw [if_neg hm, if_neg hm, if_neg hm]
    by_cases hn1 : n = 1
    · have h := red_one neg m n va vb w ha hb hs ht hn0 (by omega) hn1
      rw [hn1, Nat.gcd_one_right, Nat.div_one, Nat.div_one]
      rwa [hn1] at h
    · by_cases hg : Nat.gcd m n = 1
      · have h := red_prime neg m n va vb w ha hb hs ht hn0 (by omega) hn1 hg
        rwa [hg, Nat.div_one, Nat.div_one]
      · exact red_div neg m n va vb w ha hb hs ht hn0 (by omega) hn1 hg
end Go.Proofs.YtneabpgphjcbkaaGreatDoor
