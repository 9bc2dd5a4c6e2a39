/-
  num.Floor, num.Near, num.Cmp and num.Word over all texts.
-/
import Derived.Test.YtaibpeokfbokfaaGreatDoorTwo
import Derived.Test.YtaibpeokfbokfaaGreatDoorVal
import Derived.Test.YtaibpeokfbokfaaGreatDoorNear
import Derived.Test.YtaibpeokfbokfaaGreatDoorCmp
import Derived.Test.YtaibpeokfbokfaaGreatDoorSmall
import Derived.Test.YtaibpeokfbokfaaGreatDoorRSame
import Derived.Deep.RegionHeld3
namespace Go.Proofs.YtaibpeokfbokfaaGreatDoor
open Go.RowKit Go.Shelf

theorem flM_len {b k : Nat} (hb : 10 ≤ b) (g : Bool) {m d : Nat} (h1 : (Mth.dg b m).length ≤ k) (hk : 1 ≤ k) : (Mth.dg b (flM g m d)).length ≤ k + 1 := by
  have l1 : (Mth.dg b 1).length ≤ k := Nat.le_trans (Mth.dg_len_le (by omega) 1 _ (by rw [Nat.pow_one]; omega)) hk
  have hq : (Mth.dg b (m / d)).length ≤ k := Nat.le_trans (Mth.dg_len_mono (by omega) (Nat.div_le_self _ _)) h1
  unfold flM
  split
  · exact Mth.dg_len_sum (by omega) hq l1
  · omega
set_option maxHeartbeats 4000000 in
set_option maxRecDepth 100000 in
theorem numFloor_walk (N1 D1 RS RT : ByteArray) (K : Int) (w : World) (htab : Tabs w)
    (H : ∀ W, Tabs W → Calls Tryz.prog 54 #[.agg #[.string N1, .string D1], .func (.func 68) #[] #[]] W fun e w' => e = .returned (.tuple #[.agg #[.string RS, .string RT], .int .i64 K]) ∧ Below W.heap.size W w') :
    Calls Tryz.prog 32 #[.agg #[.string N1, .string D1]] w fun e w' => e = .returned (.tuple #[.agg #[.string RS, .string RT], .int .i64 K]) ∧ Below w.heap.size w w' := by
  obtain ⟨W, hW⟩ : ∃ W, W = (w.alloc (.cells #[.string N1, .string D1] 27)).alloc (.cells #[.string ⟨#[]⟩, .string ⟨#[]⟩] 27) := ⟨_, rfl⟩
  have hBW : Below w.heap.size w W := by rw [hW]; exact ((Below.refl _ w).alloc (Nat.le_refl _) _).alloc (by simp) _
  have hk0 : Blk W w.heap.size 27 #[.string N1, .string D1] := by rw [hW]; exact (Blk.new w _ _).alloc _
  have hk2 : Blk W (w.heap.size + 1) 27 #[.string ⟨#[]⟩, .string ⟨#[]⟩] := by
    rw [hW]
    have := Blk.new (w.alloc (.cells #[.string N1, .string D1] 27)) 27 #[.string ⟨#[]⟩, .string ⟨#[]⟩]
    rwa [World.size_alloc] at this
  have e0 := hk0.cell 0
  have e1 := hk0.cell 1
  simp only [List.getElem?_toArray, List.getElem?_cons_zero, List.getElem?_cons_succ] at e0 e1
  have z0 := hk2.lt
  have HW := Lib.hid hW
  have HBW := Lib.hid hBW
  have HK2 := Lib.hid hk2
  have HS : Hid (∀ w', Below W.heap.size W w' → w'.cell? ⟨w.heap.size, 0, none⟩ = some (.string N1) ∧ w'.cell? ⟨w.heap.size, 1, none⟩ = some (.string D1)) := Lib.hid fun w' hb =>
    ⟨(hb.cell (p := ⟨w.heap.size, 0, none⟩) (by show w.heap.size < _; omega)).trans e0, (hb.cell (p := ⟨w.heap.size, 1, none⟩) (by show w.heap.size < _; omega)).trans e1⟩
  have HT := Lib.hid (H W (htab.low hBW))
  clear hW hBW hk0 hk2 htab H
  go_enter Tryz.func32, Tryz.ntmps32
  go_wp2_with fail
  rw [← HW.out]
  refine HT.out.mono ?_
  rintro e w1 ⟨rfl, hB1⟩
  have HBL := Lib.hid hB1
  have hk := HK2.out.low hB1
  clear hB1
  have c0 := hk.cell 0
  have c1 := hk.cell 1
  have f0 := hk.frozen 0
  have f1 := hk.frozen 1
  simp only [List.getElem?_toArray, List.getElem?_cons_zero, List.getElem?_cons_succ] at c0 c1
  clear hk
  go_wp2
  refine bodyPost_ret (v := .tuple #[.agg #[.string RS, .string RT], .int .i64 K]) (by simp [results, Tryz.results32, go_sem, c0, c1]) rfl ?_
  exact ⟨rfl, ((HBW.out.trans (HBL.out.mono HBW.out.size)).setCell (p := ⟨w.heap.size + 1, 0, none⟩) (by show w.heap.size ≤ w.heap.size + 1; omega) _).setCell (p := ⟨w.heap.size + 1, 1, none⟩) (by show w.heap.size ≤ w.heap.size + 1; omega) _⟩
theorem numFloor_ok (N1 D1 : List UInt8) (w : World) (htab : Tabs w) (l1 : N1.length ≤ 100000) (l2 : D1.length ≤ 100000) (v1 : chkOf N1 D1 = 0) :
    Calls Tryz.prog 32 #[.agg #[.string ⟨N1.toArray⟩, .string ⟨D1.toArray⟩]] w fun e w' => e = .returned (.tuple #[.agg #[.string ⟨(numBytes (rneg (negNum N1) (flM (negNum N1) (pN N1) (Mth.dv D1))) (flM (negNum N1) (pN N1) (Mth.dv D1))).toArray⟩, .string ⟨(Lib.decDigits 1).toArray⟩], .int .i64 0]) ∧ Below w.heap.size w w' := by
  obtain ⟨a1, a2, a3⟩ := valid_of v1
  have c1 : (Mth.dg 1000000000 (pN N1)).length ≤ 100000 := dv_len (b := 1000000000) (by omega) a1 (Nat.le_trans (cut_len N1) l1)
  have c2 := dv_len (b := 1000000000) (k := 100000) (by omega) a2 l2
  refine numFloor_walk _ _ _ _ 0 w htab fun W hW => one_ok 68 (fun _ _ => by kernel_rfl) _ _ _ _ (negNum N1) (rneg (negNum N1) (flM (negNum N1) (pN N1) (Mth.dv D1))) (pN N1) (Mth.dv D1) (flM (negNum N1) (pN N1) (Mth.dv D1)) 1 W hW (Lib.hid fun W => ?_) (Lib.hid ⟨fun W => ?_, fun W x1 y1 h1 h2 => ?_, fun W x y h1 h2 h3 => ?_⟩)
  · rw [← v1]; exact numCheck_any N1 D1 W (by omega) (by omega)
  · exact fof_any N1 D1 W (by omega) (by omega) a1 a2
  · exact ffloor_any (negNum N1) (pN N1) (Mth.dv D1) x1 y1 W h1 h2 (Nat.le_trans c1 (by omega)) (Nat.le_trans c2 (by omega)) a3
  · exact rat_str _ _ _ x y W h1 h2 (Nat.le_trans (flM_len (b := 1000000000) (k := 100000) (by omega) _ c1 (by omega)) (by omega)) (Nat.le_trans (Mth.dg_len_le (b := 1000000000) (by omega) 1 _ (by omega)) (by omega)) h3
theorem numFloor_bad (N1 D1 : List UInt8) (K : Int) (w : World) (htab : Tabs w) (l1 : N1.length ≤ 100000) (l2 : D1.length ≤ 100000) (hK : chkOf N1 D1 = K) (h0 : K ≠ 0) :
    Calls Tryz.prog 32 #[.agg #[.string ⟨N1.toArray⟩, .string ⟨D1.toArray⟩]] w fun e w' => e = .returned (.tuple #[.agg #[.string ⟨#[]⟩, .string ⟨#[]⟩], .int .i64 K]) ∧ Below w.heap.size w w' := by
  refine numFloor_walk _ _ _ _ K w htab fun W hW => one_fault 68 _ _ K W h0 (Lib.hid fun W => ?_)
  rw [← hK]; exact numCheck_any N1 D1 W (by omega) (by omega)
/-- the answer and the comparison that follows -/
theorem numFloor_pair {N1 D1 : List UInt8} {f : Int} {g : Bool} {m d : Nat} (l1 : N1.length ≤ 100000) (l2 : D1.length ≤ 100000) (hf : chkOf N1 D1 = f) (hv : f = 0 → g = negNum N1 ∧ m = pN N1 ∧ d = Mth.dv D1) :
    ∃ P Q : ByteArray, (∀ W, Tabs W → Calls Tryz.prog 32 #[.agg #[.string ⟨N1.toArray⟩, .string ⟨D1.toArray⟩]] W fun e w' => e = .returned (.tuple #[.agg #[.string P, .string Q], .int .i64 f]) ∧ Below W.heap.size W w') ∧
      (∀ W va vb, Pt W va (flM g m d) → Pt W vb 1 → Tabs W → Calls Tryz.prog 13 #[.agg #[.string P, .string Q], .int .i64 f, .agg #[.bool (rneg g (flM g m d)), va, vb], .int .i64 f] W fun e w' => e = .returned (.bool true) ∧ Below W.heap.size W w') := by
  by_cases h0 : f = 0
  · obtain ⟨rfl, rfl, rfl⟩ := hv h0
    subst h0
    refine ⟨_, _, fun W hW => numFloor_ok N1 D1 W hW l1 l2 hf, fun W va vb ha hb hW => ?_⟩
    obtain ⟨a1, a2, a3⟩ := valid_of hf
    have c1 : (Mth.dg 10000 (pN N1)).length ≤ 100000 := dv_len (b := 10000) (by omega) a1 (Nat.le_trans (cut_len N1) l1)
    have c2 := dv_len (b := 10000) (k := 100000) (by omega) a2 l2
    exact same_ok _ _ _ va vb W ha hb (Nat.le_trans (flM_len (b := 10000) (k := 100000) (by omega) _ c1 (by omega)) (by omega)) (Nat.le_trans (Mth.dg_len_le (b := 10000) (by omega) 1 _ (by omega)) (by omega)) hW
  · exact ⟨_, _, fun W hW => numFloor_bad N1 D1 f W hW l1 l2 hf h0, fun W va vb ha hb _ => same_fault f _ va vb W _ _ ha hb h0⟩
set_option maxHeartbeats 4000000 in
set_option maxRecDepth 100000 in
theorem numNear_walk (N1 D1 RS RT : ByteArray) (K : Int) (w : World) (htab : Tabs w)
    (H : ∀ W, Tabs W → Calls Tryz.prog 54 #[.agg #[.string N1, .string D1], .func (.func 64) #[] #[]] W fun e w' => e = .returned (.tuple #[.agg #[.string RS, .string RT], .int .i64 K]) ∧ Below W.heap.size W w') :
    Calls Tryz.prog 33 #[.agg #[.string N1, .string D1]] w fun e w' => e = .returned (.tuple #[.agg #[.string RS, .string RT], .int .i64 K]) ∧ Below w.heap.size w w' := by
  obtain ⟨W, hW⟩ : ∃ W, W = (w.alloc (.cells #[.string N1, .string D1] 27)).alloc (.cells #[.string ⟨#[]⟩, .string ⟨#[]⟩] 27) := ⟨_, rfl⟩
  have hBW : Below w.heap.size w W := by rw [hW]; exact ((Below.refl _ w).alloc (Nat.le_refl _) _).alloc (by simp) _
  have hk0 : Blk W w.heap.size 27 #[.string N1, .string D1] := by rw [hW]; exact (Blk.new w _ _).alloc _
  have hk2 : Blk W (w.heap.size + 1) 27 #[.string ⟨#[]⟩, .string ⟨#[]⟩] := by
    rw [hW]
    have := Blk.new (w.alloc (.cells #[.string N1, .string D1] 27)) 27 #[.string ⟨#[]⟩, .string ⟨#[]⟩]
    rwa [World.size_alloc] at this
  have e0 := hk0.cell 0
  have e1 := hk0.cell 1
  simp only [List.getElem?_toArray, List.getElem?_cons_zero, List.getElem?_cons_succ] at e0 e1
  have z0 := hk2.lt
  have HW := Lib.hid hW
  have HBW := Lib.hid hBW
  have HK2 := Lib.hid hk2
  have HS : Hid (∀ w', Below W.heap.size W w' → w'.cell? ⟨w.heap.size, 0, none⟩ = some (.string N1) ∧ w'.cell? ⟨w.heap.size, 1, none⟩ = some (.string D1)) := Lib.hid fun w' hb =>
    ⟨(hb.cell (p := ⟨w.heap.size, 0, none⟩) (by show w.heap.size < _; omega)).trans e0, (hb.cell (p := ⟨w.heap.size, 1, none⟩) (by show w.heap.size < _; omega)).trans e1⟩
  have HT := Lib.hid (H W (htab.low hBW))
  clear hW hBW hk0 hk2 htab H
  go_enter Tryz.func33, Tryz.ntmps33
  go_wp2_with fail
  rw [← HW.out]
  refine HT.out.mono ?_
  rintro e w1 ⟨rfl, hB1⟩
  have HBL := Lib.hid hB1
  have hk := HK2.out.low hB1
  clear hB1
  have c0 := hk.cell 0
  have c1 := hk.cell 1
  have f0 := hk.frozen 0
  have f1 := hk.frozen 1
  simp only [List.getElem?_toArray, List.getElem?_cons_zero, List.getElem?_cons_succ] at c0 c1
  clear hk
  go_wp2
  refine bodyPost_ret (v := .tuple #[.agg #[.string RS, .string RT], .int .i64 K]) (by simp [results, Tryz.results33, go_sem, c0, c1]) rfl ?_
  exact ⟨rfl, ((HBW.out.trans (HBL.out.mono HBW.out.size)).setCell (p := ⟨w.heap.size + 1, 0, none⟩) (by show w.heap.size ≤ w.heap.size + 1; omega) _).setCell (p := ⟨w.heap.size + 1, 1, none⟩) (by show w.heap.size ≤ w.heap.size + 1; omega) _⟩
theorem numNear_ok (N1 D1 : List UInt8) (w : World) (htab : Tabs w) (l1 : N1.length ≤ 100000) (l2 : D1.length ≤ 100000) (v1 : chkOf N1 D1 = 0) :
    Calls Tryz.prog 33 #[.agg #[.string ⟨N1.toArray⟩, .string ⟨D1.toArray⟩]] w fun e w' => e = .returned (.tuple #[.agg #[.string ⟨(numBytes (neS (negNum N1) (pN N1) (Mth.dv D1)) (neM (negNum N1) (pN N1) (Mth.dv D1))).toArray⟩, .string ⟨(Lib.decDigits 1).toArray⟩], .int .i64 0]) ∧ Below w.heap.size w w' := by
  obtain ⟨a1, a2, a3⟩ := valid_of v1
  have c1 : (Mth.dg 1000000000 (pN N1)).length ≤ 100000 := dv_len (b := 1000000000) (by omega) a1 (Nat.le_trans (cut_len N1) l1)
  have c2 := dv_len (b := 1000000000) (k := 100000) (by omega) a2 l2
  refine numNear_walk _ _ _ _ 0 w htab fun W hW => one_ok 64 (fun _ _ => by kernel_rfl) _ _ _ _ (negNum N1) (neS (negNum N1) (pN N1) (Mth.dv D1)) (pN N1) (Mth.dv D1) (neM (negNum N1) (pN N1) (Mth.dv D1)) 1 W hW (Lib.hid fun W => ?_) (Lib.hid ⟨fun W => ?_, fun W x1 y1 h1 h2 => ?_, fun W x y h1 h2 h3 => ?_⟩)
  · rw [← v1]; exact numCheck_any N1 D1 W (by omega) (by omega)
  · exact fof_any N1 D1 W (by omega) (by omega) a1 a2
  · exact fnear_any (negNum N1) (pN N1) (Mth.dv D1) x1 y1 W h1 h2 (Nat.le_trans c1 (by omega)) (Nat.le_trans c2 (by omega)) a3
  · exact rat_str _ _ _ x y W h1 h2 (Nat.le_trans (neM_len (b := 1000000000) (k := 100000) (by omega) _ c1 c2) (by omega)) (Nat.le_trans (Mth.dg_len_le (b := 1000000000) (by omega) 1 _ (by omega)) (by omega)) h3
theorem numNear_bad (N1 D1 : List UInt8) (K : Int) (w : World) (htab : Tabs w) (l1 : N1.length ≤ 100000) (l2 : D1.length ≤ 100000) (hK : chkOf N1 D1 = K) (h0 : K ≠ 0) :
    Calls Tryz.prog 33 #[.agg #[.string ⟨N1.toArray⟩, .string ⟨D1.toArray⟩]] w fun e w' => e = .returned (.tuple #[.agg #[.string ⟨#[]⟩, .string ⟨#[]⟩], .int .i64 K]) ∧ Below w.heap.size w w' := by
  refine numNear_walk _ _ _ _ K w htab fun W hW => one_fault 64 _ _ K W h0 (Lib.hid fun W => ?_)
  rw [← hK]; exact numCheck_any N1 D1 W (by omega) (by omega)
/-- the answer and the comparison that follows -/
theorem numNear_pair {N1 D1 : List UInt8} {f : Int} {g : Bool} {m d : Nat} (l1 : N1.length ≤ 100000) (l2 : D1.length ≤ 100000) (hf : chkOf N1 D1 = f) (hv : f = 0 → g = negNum N1 ∧ m = pN N1 ∧ d = Mth.dv D1) :
    ∃ P Q : ByteArray, (∀ W, Tabs W → Calls Tryz.prog 33 #[.agg #[.string ⟨N1.toArray⟩, .string ⟨D1.toArray⟩]] W fun e w' => e = .returned (.tuple #[.agg #[.string P, .string Q], .int .i64 f]) ∧ Below W.heap.size W w') ∧
      (∀ W va vb, Pt W va (neM g m d) → Pt W vb 1 → Tabs W → Calls Tryz.prog 13 #[.agg #[.string P, .string Q], .int .i64 f, .agg #[.bool (neS g m d), va, vb], .int .i64 f] W fun e w' => e = .returned (.bool true) ∧ Below W.heap.size W w') := by
  by_cases h0 : f = 0
  · obtain ⟨rfl, rfl, rfl⟩ := hv h0
    subst h0
    refine ⟨_, _, fun W hW => numNear_ok N1 D1 W hW l1 l2 hf, fun W va vb ha hb hW => ?_⟩
    obtain ⟨a1, a2, a3⟩ := valid_of hf
    have c1 : (Mth.dg 10000 (pN N1)).length ≤ 100000 := dv_len (b := 10000) (by omega) a1 (Nat.le_trans (cut_len N1) l1)
    have c2 := dv_len (b := 10000) (k := 100000) (by omega) a2 l2
    exact same_ok _ _ _ va vb W ha hb (Nat.le_trans (neM_len (b := 10000) (k := 100000) (by omega) _ c1 c2) (by omega)) (Nat.le_trans (Mth.dg_len_le (b := 10000) (by omega) 1 _ (by omega)) (by omega)) hW
  · exact ⟨_, _, fun W hW => numNear_bad N1 D1 f W hW l1 l2 hf h0, fun W va vb ha hb _ => same_fault f _ va vb W _ _ ha hb h0⟩

set_option maxHeartbeats 4000000 in
set_option maxRecDepth 100000 in
theorem numCmp_walk (N1 D1 N2 D2 : ByteArray) (g1 g2 : Bool) (m1 d1 m2 d2 : Nat) (R : Int) (w : World)
    (HC1 : Hid (∀ W, Calls Tryz.prog 47 #[.agg #[.string N1, .string D1]] W fun e w' => e = .returned (.int .i64 0) ∧ Below W.heap.size W w'))
    (HC2 : Hid (∀ W, Calls Tryz.prog 47 #[.agg #[.string N2, .string D2]] W fun e w' => e = .returned (.int .i64 0) ∧ Below W.heap.size W w'))
    (HO1 : Hid (∀ W, Calls Tryz.prog 62 #[.agg #[.string N1, .string D1]] W (FNum g1 m1 d1 W))) (HO2 : Hid (∀ W, Calls Tryz.prog 62 #[.agg #[.string N2, .string D2]] W (FNum g2 m2 d2 W)))
    (HR : Hid (∀ W x1 y1 x2 y2, Nt W x1 m1 → Nt W y1 d1 → Nt W x2 m2 → Nt W y2 d2 → Calls Tryz.prog 67 #[.agg #[.bool g1, x1, y1], .agg #[.bool g2, x2, y2]] W fun e w' => e = .returned (.int .i64 R) ∧ Below W.heap.size W w')) :
    Calls Tryz.prog 30 #[.agg #[.string N1, .string D1], .agg #[.string N2, .string D2]] w fun e w' => e = .returned (.tuple #[.int .i64 R, .int .i64 0]) ∧ Below w.heap.size w w' := by
  obtain ⟨W, hW⟩ : ∃ W, W = (w.alloc (.cells #[.string N1, .string D1] 27)).alloc (.cells #[.string N2, .string D2] 27) := ⟨_, rfl⟩
  have hBW : Below w.heap.size w W := by rw [hW]; exact ((Below.refl _ w).alloc (Nat.le_refl _) _).alloc (by simp) _
  have hk0 : Blk W w.heap.size 27 #[.string N1, .string D1] := by rw [hW]; exact (Blk.new w _ _).alloc _
  have hk1 : Blk W (w.heap.size + 1) 27 #[.string N2, .string D2] := by
    rw [hW]
    have := Blk.new (w.alloc (.cells #[.string N1, .string D1] 27)) 27 #[.string N2, .string D2]
    rwa [World.size_alloc] at this
  have HS : Hid (∀ w', Below W.heap.size W w' → w'.cell? ⟨w.heap.size, 0, none⟩ = some (.string N1) ∧ w'.cell? ⟨w.heap.size, 1, none⟩ = some (.string D1) ∧ w'.cell? ⟨w.heap.size + 1, 0, none⟩ = some (.string N2) ∧ w'.cell? ⟨w.heap.size + 1, 1, none⟩ = some (.string D2)) := Lib.hid fun w' hb =>
    ⟨(hk0.low hb).cell 0, (hk0.low hb).cell 1, (hk1.low hb).cell 0, (hk1.low hb).cell 1⟩
  obtain ⟨e0, e1, e2, e3⟩ := HS.out W (Below.refl _ W)
  have HBW := Lib.hid hBW
  have HW := Lib.hid hW
  have tok : True := trivial
  clear hBW hW hk0 hk1
  go_enter Tryz.func30, Tryz.ntmps30
  go_wp2_with fail
  rw [← HW.out]
  refine (HC1.out _).mono ?_
  rintro e w1 ⟨rfl, hB1⟩
  have HB1 := Lib.hid hB1
  clear hB1 e0 e1 e2 e3
  obtain ⟨e0, e1, e2, e3⟩ := HS.out w1 HB1.out
  go_wp2_with fail
  refine (HC2.out _).mono ?_
  rintro e w2 ⟨rfl, hB2⟩
  have HB2 := Lib.hid (HB1.out.trans (hB2.mono HB1.out.size))
  clear hB2 e0 e1 e2 e3
  obtain ⟨e0, e1, e2, e3⟩ := HS.out w2 HB2.out
  go_wp2_with fail
  go_region_held3 (fun w' => w'.cell? ⟨w.heap.size, 0, none⟩ = some (.string N1) ∧ w'.cell? ⟨w.heap.size, 1, none⟩ = some (.string D1) ∧ w'.cell? ⟨w.heap.size + 1, 0, none⟩ = some (.string N2) ∧ w'.cell? ⟨w.heap.size + 1, 1, none⟩ = some (.string D2))
    (first | exact ⟨e0, e1, e2, e3⟩ | go_keep)
    (first
      | (go_at_call 62; have _t := tok; refine (HO1.out _).mono ?_; rintro e w3 ⟨v1, v2, rfl, hN1, hN2, hB3⟩; have HN1 := Lib.hid hN1; have HN2 := Lib.hid hN2; have HB3 : Hid (Below W.heap.size W w3) := Lib.hid (HB2.out.drew.trans (hB3.mono HB2.out.drew.size)); clear hN1 hN2 hB3 tok _t e0 e1 e2 e3; obtain ⟨e0, e1, e2, e3⟩ := HS.out w3 HB3.out)
      | (go_at_call 62; refine (HO2.out _).mono ?_; rintro e w4 ⟨v3, v4, rfl, hN3, hN4, hB4⟩; have HN3 := Lib.hid hN3; have HN4 := Lib.hid hN4; have HN5 := Lib.hid (HN1.out.below hB4); have HN6 := Lib.hid (HN2.out.below hB4); have HB4 : Hid (Below W.heap.size W w4) := Lib.hid (HB3.out.trans (hB4.mono HB3.out.size)); clear hN3 hN4 hB4 e0 e1 e2 e3; obtain ⟨e0, e1, e2, e3⟩ := HS.out w4 HB4.out)
      | (go_at_call 67; refine (HR.out _ _ _ _ _ HN5.out HN6.out HN3.out HN4.out).mono ?_; rintro e w5 ⟨rfl, hB5⟩; have HB5 : Hid (Below W.heap.size W w5) := Lib.hid (HB4.out.trans (hB5.mono HB4.out.size)); clear hB5 e0 e1 e2 e3; obtain ⟨e0, e1, e2, e3⟩ := HS.out w5 HB5.out))
  go_wp2
  go_ret2
  exact ⟨rfl, HBW.out.trans (HB5.out.mono HBW.out.size)⟩

set_option maxHeartbeats 4000000 in
set_option maxRecDepth 100000 in
theorem numCmp_bad1 (N1 D1 N2 D2 : ByteArray) (K : Int) (w : World) (hK : K ≠ 0)
    (HC1 : Hid (∀ W, Calls Tryz.prog 47 #[.agg #[.string N1, .string D1]] W fun e w' => e = .returned (.int .i64 K) ∧ Below W.heap.size W w')) :
    Calls Tryz.prog 30 #[.agg #[.string N1, .string D1], .agg #[.string N2, .string D2]] w fun e w' => e = .returned (.tuple #[.int .i64 0, .int .i64 K]) ∧ Below w.heap.size w w' := by
  obtain ⟨W, hW⟩ : ∃ W, W = (w.alloc (.cells #[.string N1, .string D1] 27)).alloc (.cells #[.string N2, .string D2] 27) := ⟨_, rfl⟩
  have hBW : Below w.heap.size w W := by rw [hW]; exact ((Below.refl _ w).alloc (Nat.le_refl _) _).alloc (by simp) _
  have hk1 : Blk W (w.heap.size + 1) 27 #[.string N2, .string D2] := by
    rw [hW]
    have := Blk.new (w.alloc (.cells #[.string N1, .string D1] 27)) 27 #[.string N2, .string D2]
    rwa [World.size_alloc] at this
  have HK1 := Lib.hid hk1
  have HBW := Lib.hid hBW
  have HW := Lib.hid hW
  have hK0 : (K != 0) = true := by simpa using hK
  clear hBW hW hk1 hK
  go_enter Tryz.func30, Tryz.ntmps30
  go_wp2_with fail
  rw [← HW.out]
  refine (HC1.out _).mono ?_
  rintro e w1 ⟨rfl, hB1⟩
  have HB1 := Lib.hid hB1
  clear hB1
  go_wp2
  go_ret2
  exact ⟨rfl, HBW.out.trans (HB1.out.mono HBW.out.size)⟩

set_option maxHeartbeats 4000000 in
set_option maxRecDepth 100000 in
theorem numCmp_bad2 (N1 D1 N2 D2 : ByteArray) (K : Int) (w : World) (hK : K ≠ 0)
    (HC1 : Hid (∀ W, Calls Tryz.prog 47 #[.agg #[.string N1, .string D1]] W fun e w' => e = .returned (.int .i64 0) ∧ Below W.heap.size W w'))
    (HC2 : Hid (∀ W, Calls Tryz.prog 47 #[.agg #[.string N2, .string D2]] W fun e w' => e = .returned (.int .i64 K) ∧ Below W.heap.size W w')) :
    Calls Tryz.prog 30 #[.agg #[.string N1, .string D1], .agg #[.string N2, .string D2]] w fun e w' => e = .returned (.tuple #[.int .i64 0, .int .i64 K]) ∧ Below w.heap.size w w' := by
  obtain ⟨W, hW⟩ : ∃ W, W = (w.alloc (.cells #[.string N1, .string D1] 27)).alloc (.cells #[.string N2, .string D2] 27) := ⟨_, rfl⟩
  have hBW : Below w.heap.size w W := by rw [hW]; exact ((Below.refl _ w).alloc (Nat.le_refl _) _).alloc (by simp) _
  have hk1 : Blk W (w.heap.size + 1) 27 #[.string N2, .string D2] := by
    rw [hW]
    have := Blk.new (w.alloc (.cells #[.string N1, .string D1] 27)) 27 #[.string N2, .string D2]
    rwa [World.size_alloc] at this
  have HK1 := Lib.hid hk1
  have HBW := Lib.hid hBW
  have HW := Lib.hid hW
  have hK0 : (K != 0) = true := by simpa using hK
  clear hBW hW hk1 hK
  go_enter Tryz.func30, Tryz.ntmps30
  go_wp2_with fail
  rw [← HW.out]
  refine (HC1.out _).mono ?_
  rintro e w1 ⟨rfl, hB1⟩
  have HB1 := Lib.hid hB1
  clear hB1
  have e2 := (HK1.out.low HB1.out).cell 0
  have e3 := (HK1.out.low HB1.out).cell 1
  simp only [List.getElem?_toArray, List.getElem?_cons_zero, List.getElem?_cons_succ] at e2 e3
  go_wp2_with fail
  refine (HC2.out _).mono ?_
  rintro e w2 ⟨rfl, hB2⟩
  have HB2 := Lib.hid (HB1.out.trans (hB2.mono HB1.out.size))
  clear hB2
  go_wp2
  go_ret2
  exact ⟨rfl, HBW.out.trans (HB2.out.mono HBW.out.size)⟩

/-- num.Cmp: what it answers -/
def cmpN (N1 D1 N2 D2 : List UInt8) : Int := if chk2 (chkOf N1 D1) (chkOf N2 D2) = 0 then cmpQ (negNum N1) (pN N1) (Mth.dv D1) (negNum N2) (pN N2) (Mth.dv D2) else 0
theorem numCmp_any (N1 D1 N2 D2 : List UInt8) (w : World) (l1 : N1.length ≤ 1000000) (l2 : D1.length ≤ 1000000) (l3 : N2.length ≤ 1000000) (l4 : D2.length ≤ 1000000) :
    Calls Tryz.prog 30 #[.agg #[.string ⟨N1.toArray⟩, .string ⟨D1.toArray⟩], .agg #[.string ⟨N2.toArray⟩, .string ⟨D2.toArray⟩]] w fun e w' => e = .returned (.tuple #[.int .i64 (cmpN N1 D1 N2 D2), .int .i64 (chk2 (chkOf N1 D1) (chkOf N2 D2))]) ∧ Below w.heap.size w w' := by
  have hc1 := fun W => numCheck_any N1 D1 W (by omega) (by omega)
  have hc2 := fun W => numCheck_any N2 D2 W (by omega) (by omega)
  unfold cmpN
  by_cases v1 : chkOf N1 D1 = 0
  · have e : chk2 (chkOf N1 D1) (chkOf N2 D2) = chkOf N2 D2 := if_pos v1
    rw [e]
    rw [v1] at hc1
    by_cases v2 : chkOf N2 D2 = 0
    · rw [v2] at hc2
      rw [if_pos v2, v2]
      obtain ⟨a1, a2, a3⟩ := valid_of v1
      obtain ⟨b1, b2, b3⟩ := valid_of v2
      have c1 := dv_len (b := 1000000000) (k := 1000000) (by omega) a1 (Nat.le_trans (cut_len N1) l1)
      have c2 := dv_len (b := 1000000000) (k := 1000000) (by omega) a2 l2
      have c3 := dv_len (b := 1000000000) (k := 1000000) (by omega) b1 (Nat.le_trans (cut_len N2) l3)
      have c4 := dv_len (b := 1000000000) (k := 1000000) (by omega) b2 l4
      exact numCmp_walk _ _ _ _ (negNum N1) (negNum N2) (pN N1) (Mth.dv D1) (pN N2) (Mth.dv D2) _ w (Lib.hid hc1) (Lib.hid hc2) (Lib.hid fun W => fof_any N1 D1 W (by omega) (by omega) a1 a2) (Lib.hid fun W => fof_any N2 D2 W (by omega) (by omega) b1 b2)
        (Lib.hid fun W x1 y1 x2 y2 h1 h2 h3 h4 => fcmp_any _ _ _ _ _ _ x1 y1 x2 y2 W h1 h2 h3 h4 c1 c2 c3 c4)
    · rw [if_neg v2]
      exact numCmp_bad2 _ _ _ _ _ w v2 (Lib.hid hc1) (Lib.hid hc2)
  · have e : chk2 (chkOf N1 D1) (chkOf N2 D2) = chkOf N1 D1 := if_neg v1
    rw [e, if_neg v1]
    exact numCmp_bad1 _ _ _ _ _ w v1 (Lib.hid hc1)

/-- num.Word: what it answers -/
def wdB (g : Bool) (m d : Nat) : Bool := fsB m d && isW (fsV g m d)
def wdV (g : Bool) (m d : Nat) : Int := if wdB g m d = true then fsV g m d else 0
set_option maxHeartbeats 4000000 in
set_option maxRecDepth 100000 in
theorem numWord_walk (N1 D1 : ByteArray) (g : Bool) (m d : Nat) (w : World)
    (HC1 : Hid (∀ W, Calls Tryz.prog 47 #[.agg #[.string N1, .string D1]] W fun e w' => e = .returned (.int .i64 0) ∧ Below W.heap.size W w'))
    (HO1 : Hid (∀ W, Calls Tryz.prog 62 #[.agg #[.string N1, .string D1]] W (FNum g m d W)))
    (HR : Hid (∀ W x1 y1, Nt W x1 m → Nt W y1 d → Calls Tryz.prog 66 #[.agg #[.bool g, x1, y1]] W fun e w' => e = .returned (.tuple #[.int .i64 (fsV g m d), .bool (fsB m d)]) ∧ Below W.heap.size W w')) :
    Calls Tryz.prog 34 #[.agg #[.string N1, .string D1]] w fun e w' => e = .returned (.tuple #[.int .i64 (wdV g m d), .bool (wdB g m d), .int .i64 0]) ∧ Below w.heap.size w w' := by
  obtain ⟨W, hW⟩ : ∃ W, W = w.alloc (.cells #[.string N1, .string D1] 27) := ⟨_, rfl⟩
  have hBW : Below w.heap.size w W := by rw [hW]; exact (Below.refl _ w).alloc (Nat.le_refl _) _
  have hk0 : Blk W w.heap.size 27 #[.string N1, .string D1] := by rw [hW]; exact Blk.new w _ _
  have HK0 := Lib.hid hk0
  obtain ⟨V, hV⟩ : ∃ V, wdV g m d = V := ⟨_, rfl⟩
  obtain ⟨B, hB⟩ : ∃ B, wdB g m d = B := ⟨_, rfl⟩
  obtain ⟨sv, hsv⟩ : ∃ sv, fsV g m d = sv := ⟨_, rfl⟩
  obtain ⟨sb, hsb⟩ : ∃ sb, fsB m d = sb := ⟨_, rfl⟩
  have hB2 : B = (sb && isW sv) := by rw [← hB, ← hsb, ← hsv]; rfl
  have hV2 : V = if B = true then sv else 0 := by rw [← hV, ← hB, ← hsv]; rfl
  have HBB := Lib.hid hB2
  have HVV := Lib.hid hV2
  have HBW := Lib.hid hBW
  have HW := Lib.hid hW
  rw [hV, hB]
  rw [hsv, hsb] at HR
  clear hBW hW hk0 hV hB hsv hsb hB2 hV2
  go_enter Tryz.func34, Tryz.ntmps34
  go_wp2_with fail
  rw [← HW.out]
  refine (HC1.out _).mono ?_
  rintro e w1 ⟨rfl, hB1⟩
  have HB1 := Lib.hid hB1
  have e0 := (HK0.out.low hB1).cell 0
  have e1 := (HK0.out.low hB1).cell 1
  simp only [List.getElem?_toArray, List.getElem?_cons_zero, List.getElem?_cons_succ] at e0 e1
  clear hB1
  go_wp2_with fail
  refine (HO1.out _).mono ?_
  rintro e w3 ⟨v1, v2, rfl, hN1, hN2, hB3⟩
  have HN1 := Lib.hid hN1
  have HN2 := Lib.hid hN2
  have HB3 := Lib.hid (HB1.out.trans (hB3.mono HB1.out.size))
  clear hN1 hN2 hB3 e0 e1
  go_wp2_with fail
  refine (HR.out _ _ _ HN1.out HN2.out).mono ?_
  rintro e w4 ⟨rfl, hB4⟩
  have HB4 := Lib.hid (HB3.out.trans (hB4.mono HB3.out.size))
  clear hB4
  cases sb with
  | false =>
    have hBf : B = false := HBB.out
    have hVf : V = 0 := by rw [HVV.out, hBf]; rfl
    subst hBf
    subst hVf
    go_wp2
    refine bodyPost_ret (v := .tuple #[.int .i64 0, .bool false, .int .i64 0]) (by simp [results, Tryz.results34, go_sem]) rfl ?_
    exact ⟨rfl, HBW.out.trans (HB4.out.mono HBW.out.size)⟩
  | true =>
    have hBw : B = isW sv := by rw [HBB.out]; rfl
    have HBw := Lib.hid hBw
    clear hBw
    go_wp2_with fail
    refine (isword_any sv _).mono ?_
    rintro e w5 ⟨rfl, rfl⟩
    obtain ⟨ib, hib⟩ : ∃ ib, isW sv = ib := ⟨_, rfl⟩
    have hBi : B = ib := HBw.out.trans hib
    rw [hib]
    clear hib
    subst hBi
    cases B with
    | false =>
      have hVf : V = 0 := HVV.out
      subst hVf
      go_wp2
      refine bodyPost_ret (v := .tuple #[.int .i64 0, .bool false, .int .i64 0]) (by simp [results, Tryz.results34, go_sem]) rfl ?_
      exact ⟨rfl, HBW.out.trans (HB4.out.mono HBW.out.size)⟩
    | true =>
      have hVf : V = sv := HVV.out
      subst hVf
      go_wp2
      refine bodyPost_ret (v := .tuple #[.int .i64 V, .bool true, .int .i64 0]) (by simp [results, Tryz.results34, go_sem]) rfl ?_
      exact ⟨rfl, HBW.out.trans (HB4.out.mono HBW.out.size)⟩
set_option maxHeartbeats 4000000 in
set_option maxRecDepth 100000 in
theorem numWord_bad (N1 D1 : ByteArray) (K : Int) (w : World) (hK : K ≠ 0)
    (HC1 : Hid (∀ W, Calls Tryz.prog 47 #[.agg #[.string N1, .string D1]] W fun e w' => e = .returned (.int .i64 K) ∧ Below W.heap.size W w')) :
    Calls Tryz.prog 34 #[.agg #[.string N1, .string D1]] w fun e w' => e = .returned (.tuple #[.int .i64 0, .bool false, .int .i64 K]) ∧ Below w.heap.size w w' := by
  obtain ⟨W, hW⟩ : ∃ W, W = w.alloc (.cells #[.string N1, .string D1] 27) := ⟨_, rfl⟩
  have hBW : Below w.heap.size w W := by rw [hW]; exact (Below.refl _ w).alloc (Nat.le_refl _) _
  have HBW := Lib.hid hBW
  have HW := Lib.hid hW
  have hK0 : (K != 0) = true := by simpa using hK
  clear hBW hW hK
  go_enter Tryz.func34, Tryz.ntmps34
  go_wp2_with fail
  rw [← HW.out]
  refine (HC1.out _).mono ?_
  rintro e w1 ⟨rfl, hB1⟩
  have HB1 := Lib.hid hB1
  clear hB1
  go_wp2
  refine bodyPost_ret (v := .tuple #[.int .i64 0, .bool false, .int .i64 K]) (by simp [results, Tryz.results34, go_sem]) rfl ?_
  exact ⟨rfl, HBW.out.trans (HB1.out.mono HBW.out.size)⟩
/-- num.Word over all texts -/
theorem numWord_any (N1 D1 : List UInt8) (w : World) (l1 : N1.length ≤ 1000000) (l2 : D1.length ≤ 1000000) :
    Calls Tryz.prog 34 #[.agg #[.string ⟨N1.toArray⟩, .string ⟨D1.toArray⟩]] w fun e w' => e = .returned (.tuple #[.int .i64 (if chkOf N1 D1 = 0 then wdV (negNum N1) (pN N1) (Mth.dv D1) else 0), .bool (if chkOf N1 D1 = 0 then wdB (negNum N1) (pN N1) (Mth.dv D1) else false), .int .i64 (chkOf N1 D1)]) ∧ Below w.heap.size w w' := by
  have hc1 := fun W => numCheck_any N1 D1 W (by omega) (by omega)
  by_cases v1 : chkOf N1 D1 = 0
  · rw [v1] at hc1
    rw [if_pos v1, if_pos v1, v1]
    obtain ⟨a1, a2, a3⟩ := valid_of v1
    have c2 := dv_len (b := 1000000000) (k := 1000000) (by omega) a2 l2
    exact numWord_walk _ _ (negNum N1) (pN N1) (Mth.dv D1) w (Lib.hid hc1) (Lib.hid fun W => fof_any N1 D1 W (by omega) (by omega) a1 a2) (Lib.hid fun W x1 y1 h1 h2 => fsmall_any _ _ _ x1 y1 W h1 h2 (Nat.le_trans c2 (by omega)))
  · rw [if_neg v1, if_neg v1]
    exact numWord_bad _ _ _ w v1 (Lib.hid hc1)
end Go.Proofs.YtaibpeokfbokfaaGreatDoor
