/-
  num.Mul over all texts, and the comparison with the reference.
-/
import Derived.Test.YtaibpeokfbokfaaGreatDoorTwo
import Derived.Test.YtaibpeokfbokfaaGreatDoorVal
import Derived.Test.YtaibpeokfbokfaaGreatDoorMake
import Derived.Test.YtaibpeokfbokfaaGreatDoorRD
import Derived.Test.YtaibpeokfbokfaaGreatDoorRSame
namespace Go.Proofs.YtaibpeokfbokfaaGreatDoor
open Go.RowKit Go.Shelf

theorem prod_len {b : Nat} (hb : 10 ≤ b) {N1 D1 N2 D2 : List UInt8} (v1 : chkOf N1 D1 = 0) (v2 : chkOf N2 D2 = 0) (l1 : N1.length ≤ 1000000) (l2 : D1.length ≤ 1000000) (l3 : N2.length ≤ 1000000) (l4 : D2.length ≤ 1000000) :
    (Mth.dg b (rnum (pN N1 * pN N2) (Mth.dv D1 * Mth.dv D2))).length ≤ 100000000 ∧ (Mth.dg b (rden (pN N1 * pN N2) (Mth.dv D1 * Mth.dv D2))).length ≤ 100000000 := by
  obtain ⟨a1, a2, a3⟩ := valid_of v1
  obtain ⟨b1, b2, b3⟩ := valid_of v2
  have c1 := dv_len (k := 1000000) hb a1 (Nat.le_trans (cut_len N1) l1)
  have c2 := dv_len (k := 1000000) hb a2 l2
  have c3 := dv_len (k := 1000000) hb b1 (Nat.le_trans (cut_len N2) l3)
  have c4 := dv_len (k := 1000000) hb b2 l4
  have hx : (Mth.dg b (pN N1 * pN N2)).length ≤ 2000000 := Nat.le_trans (Mth.dg_len_mul (by omega) _ _) (by unfold pN; omega)
  have hd : (Mth.dg b (Mth.dv D1 * Mth.dv D2)).length ≤ 2000000 := Nat.le_trans (Mth.dg_len_mul (by omega) _ _) (by omega)
  exact ⟨Nat.le_trans (Mth.dg_len_mono (by omega) (rnum_le _ _)) (by omega), Nat.le_trans (Mth.dg_len_mono (by omega) (rden_le (Nat.mul_pos a3 b3))) (by omega)⟩
set_option maxHeartbeats 4000000 in
set_option maxRecDepth 100000 in
theorem numMul_walk (N1 D1 N2 D2 RS RT : ByteArray) (K : Int) (w : World) (htab : Tabs w)
    (H : ∀ W, Tabs W → Calls Tryz.prog 44 #[.agg #[.string N1, .string D1], .agg #[.string N2, .string D2], .func (.func 45) #[] #[]] W fun e w' => e = .returned (.tuple #[.agg #[.string RS, .string RT], .int .i64 K]) ∧ Below W.heap.size W w') :
    Calls Tryz.prog 11 #[.agg #[.string N1, .string D1], .agg #[.string N2, .string D2]] w fun e w' => e = .returned (.tuple #[.agg #[.string RS, .string RT], .int .i64 K]) ∧ Below w.heap.size w w' := by
  obtain ⟨W, hW⟩ : ∃ W, W = ((w.alloc (.cells #[.string N1, .string D1] 27)).alloc (.cells #[.string N2, .string D2] 27)).alloc (.cells #[.string ⟨#[]⟩, .string ⟨#[]⟩] 27) := ⟨_, rfl⟩
  have hBW : Below w.heap.size w W := by rw [hW]; exact (((Below.refl _ w).alloc (Nat.le_refl _) _).alloc (by simp) _).alloc (by simp; omega) _
  have hk2 : Blk W (w.heap.size + 1 + 1) 27 #[.string ⟨#[]⟩, .string ⟨#[]⟩] := by
    rw [hW]
    have := Blk.new ((w.alloc (.cells #[.string N1, .string D1] 27)).alloc (.cells #[.string N2, .string D2] 27)) 27 #[.string ⟨#[]⟩, .string ⟨#[]⟩]
    rwa [World.size_alloc, World.size_alloc] at this
  have HT := Lib.hid (H W (htab.low hBW))
  have HW := Lib.hid hW
  have HBW := Lib.hid hBW
  have HK2 := Lib.hid hk2
  have z0 := hk2.lt
  clear hW hBW hk2 htab H
  go_enter Tryz.func11, Tryz.ntmps11
  go_wp2_with fail
  rw [← HW.out]
  refine HT.out.mono ?_
  rintro e w1 ⟨rfl, hB1⟩
  have HB1 := Lib.hid hB1
  have hk := HK2.out.low hB1
  have c0 := hk.cell 0
  have c1 := hk.cell 1
  have f0 := hk.frozen 0
  have f1 := hk.frozen 1
  simp only [List.getElem?_toArray, List.getElem?_cons_zero, List.getElem?_cons_succ] at c0 c1
  clear hk hB1
  go_wp2
  refine bodyPost_ret (v := .tuple #[.agg #[.string RS, .string RT], .int .i64 K]) (by simp [results, Tryz.results11, go_sem, c0, c1]) rfl ?_
  exact ⟨rfl, ((HBW.out.trans (HB1.out.mono HBW.out.size)).setCell (p := ⟨w.heap.size + 1 + 1, 0, none⟩) (by show w.heap.size ≤ w.heap.size + 1 + 1; omega) _).setCell (p := ⟨w.heap.size + 1 + 1, 1, none⟩) (by show w.heap.size ≤ w.heap.size + 1 + 1; omega) _⟩
theorem enter_mul : ∀ args w, (callFunc 45 args).run Tryz.prog w = .ok (.enter 45 args) w := fun _ _ => by kernel_rfl
theorem numMul_ok (N1 D1 N2 D2 : List UInt8) (w : World) (htab : Tabs w) (l1 : N1.length ≤ 1000000) (l2 : D1.length ≤ 1000000) (l3 : N2.length ≤ 1000000) (l4 : D2.length ≤ 1000000) (v1 : chkOf N1 D1 = 0) (v2 : chkOf N2 D2 = 0) :
    Calls Tryz.prog 11 #[.agg #[.string ⟨N1.toArray⟩, .string ⟨D1.toArray⟩], .agg #[.string ⟨N2.toArray⟩, .string ⟨D2.toArray⟩]] w fun e w' => e = .returned (.tuple #[.agg #[.string ⟨(numBytes (rneg (!(negNum N1 == negNum N2)) (pN N1 * pN N2)) (rnum (pN N1 * pN N2) (Mth.dv D1 * Mth.dv D2))).toArray⟩, .string ⟨(Lib.decDigits (rden (pN N1 * pN N2) (Mth.dv D1 * Mth.dv D2))).toArray⟩], .int .i64 0]) ∧ Below w.heap.size w w' := by
  obtain ⟨a1, a2, a3⟩ := valid_of v1
  obtain ⟨b1, b2, b3⟩ := valid_of v2
  have hl := prod_len (b := 1000000000) (by omega) v1 v2 l1 l2 l3 l4
  have c1 := dv_len (b := 1000000000) (k := 1000000) (by omega) a1 (Nat.le_trans (cut_len N1) l1)
  have c2 := dv_len (b := 1000000000) (k := 1000000) (by omega) a2 l2
  have c3 := dv_len (b := 1000000000) (k := 1000000) (by omega) b1 (Nat.le_trans (cut_len N2) l3)
  have c4 := dv_len (b := 1000000000) (k := 1000000) (by omega) b2 l4
  refine numMul_walk _ _ _ _ _ _ 0 w htab fun W hW => two_ok 45 enter_mul _ _ _ _ _ _ (negNum N1) (negNum N2) (rneg (!(negNum N1 == negNum N2)) (pN N1 * pN N2)) (pN N1) (Mth.dv D1) (pN N2) (Mth.dv D2) (rnum (pN N1 * pN N2) (Mth.dv D1 * Mth.dv D2)) (rden (pN N1 * pN N2) (Mth.dv D1 * Mth.dv D2)) W hW (Lib.hid fun W => ?_) (Lib.hid fun W => ?_) (Lib.hid ⟨fun W => ?_, fun W => ?_, fun W x1 y1 x2 y2 h1 h2 h3 h4 => ?_, fun W x y h1 h2 h3 => ?_⟩)
  · rw [← v1]; exact numCheck_any N1 D1 W (by omega) (by omega)
  · rw [← v2]; exact numCheck_any N2 D2 W (by omega) (by omega)
  · exact fof_any N1 D1 W (by omega) (by omega) a1 a2
  · exact fof_any N2 D2 W (by omega) (by omega) b1 b2
  · exact fmul_any (negNum N1) (negNum N2) (pN N1) (Mth.dv D1) (pN N2) (Mth.dv D2) x1 y1 x2 y2 W h1 h2 h3 h4 (Nat.le_trans c1 (by omega)) (Nat.le_trans c2 (by omega)) (Nat.le_trans c3 (by omega)) (Nat.le_trans c4 (by omega)) (Nat.mul_pos a3 b3)
  · exact rat_str _ _ _ x y W h1 h2 (by omega) (by omega) h3
theorem numMul_bad (N1 D1 N2 D2 : List UInt8) (K : Int) (w : World) (htab : Tabs w) (l1 : N1.length ≤ 1000000) (l2 : D1.length ≤ 1000000) (l3 : N2.length ≤ 1000000) (l4 : D2.length ≤ 1000000) (hK : chk2 (chkOf N1 D1) (chkOf N2 D2) = K) (h0 : K ≠ 0) :
    Calls Tryz.prog 11 #[.agg #[.string ⟨N1.toArray⟩, .string ⟨D1.toArray⟩], .agg #[.string ⟨N2.toArray⟩, .string ⟨D2.toArray⟩]] w fun e w' => e = .returned (.tuple #[.agg #[.string ⟨#[]⟩, .string ⟨#[]⟩], .int .i64 K]) ∧ Below w.heap.size w w' := by
  unfold chk2 at hK
  by_cases h1 : chkOf N1 D1 = 0
  · rw [if_pos h1] at hK
    refine numMul_walk _ _ _ _ _ _ K w htab fun W hW => two_fault2 45 _ _ _ _ K W h0 (Lib.hid fun W => ?_) (Lib.hid fun W => ?_)
    · rw [← h1]; exact numCheck_any N1 D1 W (by omega) (by omega)
    · rw [← hK]; exact numCheck_any N2 D2 W (by omega) (by omega)
  · rw [if_neg h1] at hK
    refine numMul_walk _ _ _ _ _ _ K w htab fun W hW => two_fault1 45 _ _ _ _ K W h0 (Lib.hid fun W => ?_)
    rw [← hK]; exact numCheck_any N1 D1 W (by omega) (by omega)
theorem numMul_pair {N1 D1 N2 D2 : List UInt8} {f : Int} {g1 g2 : Bool} {m1 d1 m2 d2 : Nat} (l1 : N1.length ≤ 1000000) (l2 : D1.length ≤ 1000000) (l3 : N2.length ≤ 1000000) (l4 : D2.length ≤ 1000000) (hf : chk2 (chkOf N1 D1) (chkOf N2 D2) = f)
    (hv : f = 0 → g1 = negNum N1 ∧ m1 = pN N1 ∧ d1 = Mth.dv D1 ∧ g2 = negNum N2 ∧ m2 = pN N2 ∧ d2 = Mth.dv D2) :
    ∃ P Q : ByteArray, (∀ W, Tabs W → Calls Tryz.prog 11 #[.agg #[.string ⟨N1.toArray⟩, .string ⟨D1.toArray⟩], .agg #[.string ⟨N2.toArray⟩, .string ⟨D2.toArray⟩]] W fun e w' => e = .returned (.tuple #[.agg #[.string P, .string Q], .int .i64 f]) ∧ Below W.heap.size W w') ∧
      (∀ W va vb, Pt W va (rnum (m1 * m2) (d1 * d2)) → Pt W vb (rden (m1 * m2) (d1 * d2)) → Tabs W →
        Calls Tryz.prog 13 #[.agg #[.string P, .string Q], .int .i64 f, .agg #[.bool (rneg (!(g1 == g2)) (m1 * m2)), va, vb], .int .i64 f] W fun e w' => e = .returned (.bool true) ∧ Below W.heap.size W w') := by
  by_cases h0 : f = 0
  · obtain ⟨rfl, rfl, rfl, rfl, rfl, rfl⟩ := hv h0
    obtain ⟨v1, v2⟩ := chk2_zero (hf.trans h0)
    subst h0
    have hl := prod_len (b := 10000) (by omega) v1 v2 l1 l2 l3 l4
    refine ⟨_, _, fun W hW => numMul_ok N1 D1 N2 D2 W hW l1 l2 l3 l4 v1 v2, fun W va vb ha hb hW => ?_⟩
    exact same_ok _ _ _ va vb W ha hb (Nat.le_trans hl.1 (by omega)) (Nat.le_trans hl.2 (by omega)) hW
  · exact ⟨_, _, fun W hW => numMul_bad N1 D1 N2 D2 f W hW l1 l2 l3 l4 hf h0, fun W va vb ha hb _ => same_fault f _ va vb W _ _ ha hb h0⟩
end Go.Proofs.YtaibpeokfbokfaaGreatDoor
