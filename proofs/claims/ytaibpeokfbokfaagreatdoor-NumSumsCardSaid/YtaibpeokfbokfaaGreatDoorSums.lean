/-
  num.Add, num.Sub, num.Neg and the comparison with the reference.
-/
import Derived.Test.YtaibpeokfbokfaaGreatDoorTwo
import Derived.Test.YtaibpeokfbokfaaGreatDoorVal
import Derived.Test.YtaibpeokfbokfaaGreatDoorSub
import Derived.Test.YtaibpeokfbokfaaGreatDoorMake
import Derived.Test.YtaibpeokfbokfaaGreatDoorRD
import Derived.Test.YtaibpeokfbokfaaGreatDoorRSame
namespace Go.Proofs.YtaibpeokfbokfaaGreatDoor
open Go.RowKit Go.Shelf

theorem addM_len {b k : Nat} (hb : 2 ≤ b) (na nb : Bool) {x y : Nat} (hx : (Mth.dg b x).length ≤ k) (hy : (Mth.dg b y).length ≤ k) : (Mth.dg b (addM na nb x y)).length ≤ k + 1 := by
  unfold addM
  split
  · exact Mth.dg_len_sum hb hx hy
  · split
    · exact Nat.le_trans (Mth.dg_len_mono hb (Nat.sub_le _ _)) (by omega)
    · exact Nat.le_trans (Mth.dg_len_mono hb (Nat.sub_le _ _)) (by omega)
/-- the sum's three parts; g is the second sign -/
def sumS (N1 D1 N2 D2 : List UInt8) (g : Bool) : Bool := rneg (addS (negNum N1) g (pN N1 * Mth.dv D2) (pN N2 * Mth.dv D1)) (addM (negNum N1) g (pN N1 * Mth.dv D2) (pN N2 * Mth.dv D1))
def sumM (N1 D1 N2 D2 : List UInt8) (g : Bool) : Nat := rnum (addM (negNum N1) g (pN N1 * Mth.dv D2) (pN N2 * Mth.dv D1)) (Mth.dv D1 * Mth.dv D2)
def sumD (N1 D1 N2 D2 : List UInt8) (g : Bool) : Nat := rden (addM (negNum N1) g (pN N1 * Mth.dv D2) (pN N2 * Mth.dv D1)) (Mth.dv D1 * Mth.dv D2)
theorem sum_len {b : Nat} (hb : 10 ≤ b) {N1 D1 N2 D2 : List UInt8} (g : Bool) (v1 : chkOf N1 D1 = 0) (v2 : chkOf N2 D2 = 0) (l1 : N1.length ≤ 1000000) (l2 : D1.length ≤ 1000000) (l3 : N2.length ≤ 1000000) (l4 : D2.length ≤ 1000000) :
    (Mth.dg b (sumM N1 D1 N2 D2 g)).length ≤ 100000000 ∧ (Mth.dg b (sumD N1 D1 N2 D2 g)).length ≤ 100000000 := by
  obtain ⟨a1, a2, a3⟩ := valid_of v1
  obtain ⟨b1, b2, b3⟩ := valid_of v2
  have c1 := dv_len (k := 1000000) hb a1 (Nat.le_trans (cut_len N1) l1)
  have c2 := dv_len (k := 1000000) hb a2 l2
  have c3 := dv_len (k := 1000000) hb b1 (Nat.le_trans (cut_len N2) l3)
  have c4 := dv_len (k := 1000000) hb b2 l4
  have hx : (Mth.dg b (pN N1 * Mth.dv D2)).length ≤ 2000000 := Nat.le_trans (Mth.dg_len_mul (by omega) _ _) (by unfold pN; omega)
  have hy : (Mth.dg b (pN N2 * Mth.dv D1)).length ≤ 2000000 := Nat.le_trans (Mth.dg_len_mul (by omega) _ _) (by unfold pN; omega)
  have hd : (Mth.dg b (Mth.dv D1 * Mth.dv D2)).length ≤ 2000000 := Nat.le_trans (Mth.dg_len_mul (by omega) _ _) (by omega)
  exact ⟨Nat.le_trans (Mth.dg_len_mono (by omega) (rnum_le _ _)) (Nat.le_trans (addM_len (by omega) _ _ hx hy) (by omega)), Nat.le_trans (Mth.dg_len_mono (by omega) (rden_le (Nat.mul_pos a3 b3))) (by omega)⟩
theorem enter_add : ∀ args w, (callFunc 57 args).run Tryz.prog w = .ok (.enter 57 args) w := fun _ _ => by kernel_rfl
theorem numAdd_ok (N1 D1 N2 D2 : List UInt8) (w : World) (htab : Tabs w) (l1 : N1.length ≤ 1000000) (l2 : D1.length ≤ 1000000) (l3 : N2.length ≤ 1000000) (l4 : D2.length ≤ 1000000) (v1 : chkOf N1 D1 = 0) (v2 : chkOf N2 D2 = 0) :
    Calls Tryz.prog 21 #[.agg #[.string ⟨N1.toArray⟩, .string ⟨D1.toArray⟩], .agg #[.string ⟨N2.toArray⟩, .string ⟨D2.toArray⟩]] w fun e w' => e = .returned (.tuple #[.agg #[.string ⟨(numBytes (sumS N1 D1 N2 D2 (negNum N2)) (sumM N1 D1 N2 D2 (negNum N2))).toArray⟩, .string ⟨(Lib.decDigits (sumD N1 D1 N2 D2 (negNum N2))).toArray⟩], .int .i64 0]) ∧ Below w.heap.size w w' := by
  obtain ⟨a1, a2, a3⟩ := valid_of v1
  obtain ⟨b1, b2, b3⟩ := valid_of v2
  have hl := sum_len (b := 1000000000) (by omega) (negNum N2) v1 v2 l1 l2 l3 l4
  have c1 := dv_len (b := 1000000000) (k := 1000000) (by omega) a1 (Nat.le_trans (cut_len N1) l1)
  have c2 := dv_len (b := 1000000000) (k := 1000000) (by omega) a2 l2
  have c3 := dv_len (b := 1000000000) (k := 1000000) (by omega) b1 (Nat.le_trans (cut_len N2) l3)
  have c4 := dv_len (b := 1000000000) (k := 1000000) (by omega) b2 l4
  refine numAdd_walk _ _ _ _ _ _ 0 w htab fun W hW => two_ok 57 enter_add _ _ _ _ _ _ (negNum N1) (negNum N2) (sumS N1 D1 N2 D2 (negNum N2)) (pN N1) (Mth.dv D1) (pN N2) (Mth.dv D2) (sumM N1 D1 N2 D2 (negNum N2)) (sumD N1 D1 N2 D2 (negNum N2)) W hW (Lib.hid fun W => ?_) (Lib.hid fun W => ?_) (Lib.hid ⟨fun W => ?_, fun W => ?_, fun W x1 y1 x2 y2 h1 h2 h3 h4 => ?_, fun W x y h1 h2 h3 => ?_⟩)
  · rw [← v1]; exact numCheck_any N1 D1 W (by omega) (by omega)
  · rw [← v2]; exact numCheck_any N2 D2 W (by omega) (by omega)
  · exact fof_any N1 D1 W (by omega) (by omega) a1 a2
  · exact fof_any N2 D2 W (by omega) (by omega) b1 b2
  · exact fadd_any (negNum N1) (negNum N2) (pN N1) (Mth.dv D1) (pN N2) (Mth.dv D2) x1 y1 x2 y2 W h1 h2 h3 h4 c1 c2 c3 c4 (Nat.mul_pos a3 b3)
  · exact rat_str _ _ _ x y W h1 h2 (by omega) (by omega) h3
theorem numAdd_bad (N1 D1 N2 D2 : List UInt8) (K : Int) (w : World) (htab : Tabs w) (l1 : N1.length ≤ 1000000) (l2 : D1.length ≤ 1000000) (l3 : N2.length ≤ 1000000) (l4 : D2.length ≤ 1000000) (hK : chk2 (chkOf N1 D1) (chkOf N2 D2) = K) (h0 : K ≠ 0) :
    Calls Tryz.prog 21 #[.agg #[.string ⟨N1.toArray⟩, .string ⟨D1.toArray⟩], .agg #[.string ⟨N2.toArray⟩, .string ⟨D2.toArray⟩]] w fun e w' => e = .returned (.tuple #[.agg #[.string ⟨#[]⟩, .string ⟨#[]⟩], .int .i64 K]) ∧ Below w.heap.size w w' := by
  unfold chk2 at hK
  by_cases h1 : chkOf N1 D1 = 0
  · rw [if_pos h1] at hK
    refine numAdd_walk _ _ _ _ _ _ K w htab fun W hW => two_fault2 57 _ _ _ _ K W h0 (Lib.hid fun W => ?_) (Lib.hid fun W => ?_)
    · rw [← h1]; exact numCheck_any N1 D1 W (by omega) (by omega)
    · rw [← hK]; exact numCheck_any N2 D2 W (by omega) (by omega)
  · rw [if_neg h1] at hK
    refine numAdd_walk _ _ _ _ _ _ K w htab fun W hW => two_fault1 57 _ _ _ _ K W h0 (Lib.hid fun W => ?_)
    rw [← hK]; exact numCheck_any N1 D1 W (by omega) (by omega)
theorem enter_sub : ∀ args w, (callFunc 58 args).run Tryz.prog w = .ok (.enter 58 args) w := fun _ _ => by kernel_rfl
theorem numSub_ok (N1 D1 N2 D2 : List UInt8) (w : World) (htab : Tabs w) (l1 : N1.length ≤ 1000000) (l2 : D1.length ≤ 1000000) (l3 : N2.length ≤ 1000000) (l4 : D2.length ≤ 1000000) (v1 : chkOf N1 D1 = 0) (v2 : chkOf N2 D2 = 0) :
    Calls Tryz.prog 22 #[.agg #[.string ⟨N1.toArray⟩, .string ⟨D1.toArray⟩], .agg #[.string ⟨N2.toArray⟩, .string ⟨D2.toArray⟩]] w fun e w' => e = .returned (.tuple #[.agg #[.string ⟨(numBytes (sumS N1 D1 N2 D2 (rneg (!negNum N2) (pN N2))) (sumM N1 D1 N2 D2 (rneg (!negNum N2) (pN N2)))).toArray⟩, .string ⟨(Lib.decDigits (sumD N1 D1 N2 D2 (rneg (!negNum N2) (pN N2)))).toArray⟩], .int .i64 0]) ∧ Below w.heap.size w w' := by
  obtain ⟨a1, a2, a3⟩ := valid_of v1
  obtain ⟨b1, b2, b3⟩ := valid_of v2
  have hl := sum_len (b := 1000000000) (by omega) (rneg (!negNum N2) (pN N2)) v1 v2 l1 l2 l3 l4
  have c1 := dv_len (b := 1000000000) (k := 1000000) (by omega) a1 (Nat.le_trans (cut_len N1) l1)
  have c2 := dv_len (b := 1000000000) (k := 1000000) (by omega) a2 l2
  have c3 := dv_len (b := 1000000000) (k := 1000000) (by omega) b1 (Nat.le_trans (cut_len N2) l3)
  have c4 := dv_len (b := 1000000000) (k := 1000000) (by omega) b2 l4
  refine numSub_walk _ _ _ _ _ _ 0 w htab fun W hW => two_ok 58 enter_sub _ _ _ _ _ _ (negNum N1) (negNum N2) (sumS N1 D1 N2 D2 (rneg (!negNum N2) (pN N2))) (pN N1) (Mth.dv D1) (pN N2) (Mth.dv D2) (sumM N1 D1 N2 D2 (rneg (!negNum N2) (pN N2))) (sumD N1 D1 N2 D2 (rneg (!negNum N2) (pN N2))) W hW (Lib.hid fun W => ?_) (Lib.hid fun W => ?_) (Lib.hid ⟨fun W => ?_, fun W => ?_, fun W x1 y1 x2 y2 h1 h2 h3 h4 => ?_, fun W x y h1 h2 h3 => ?_⟩)
  · rw [← v1]; exact numCheck_any N1 D1 W (by omega) (by omega)
  · rw [← v2]; exact numCheck_any N2 D2 W (by omega) (by omega)
  · exact fof_any N1 D1 W (by omega) (by omega) a1 a2
  · exact fof_any N2 D2 W (by omega) (by omega) b1 b2
  · exact fsub_any (negNum N1) (negNum N2) (pN N1) (Mth.dv D1) (pN N2) (Mth.dv D2) x1 y1 x2 y2 W h1 h2 h3 h4 c1 c2 c3 c4 (Nat.mul_pos a3 b3)
  · exact rat_str _ _ _ x y W h1 h2 (by omega) (by omega) h3
theorem numSub_bad (N1 D1 N2 D2 : List UInt8) (K : Int) (w : World) (htab : Tabs w) (l1 : N1.length ≤ 1000000) (l2 : D1.length ≤ 1000000) (l3 : N2.length ≤ 1000000) (l4 : D2.length ≤ 1000000) (hK : chk2 (chkOf N1 D1) (chkOf N2 D2) = K) (h0 : K ≠ 0) :
    Calls Tryz.prog 22 #[.agg #[.string ⟨N1.toArray⟩, .string ⟨D1.toArray⟩], .agg #[.string ⟨N2.toArray⟩, .string ⟨D2.toArray⟩]] w fun e w' => e = .returned (.tuple #[.agg #[.string ⟨#[]⟩, .string ⟨#[]⟩], .int .i64 K]) ∧ Below w.heap.size w w' := by
  unfold chk2 at hK
  by_cases h1 : chkOf N1 D1 = 0
  · rw [if_pos h1] at hK
    refine numSub_walk _ _ _ _ _ _ K w htab fun W hW => two_fault2 58 _ _ _ _ K W h0 (Lib.hid fun W => ?_) (Lib.hid fun W => ?_)
    · rw [← h1]; exact numCheck_any N1 D1 W (by omega) (by omega)
    · rw [← hK]; exact numCheck_any N2 D2 W (by omega) (by omega)
  · rw [if_neg h1] at hK
    refine numSub_walk _ _ _ _ _ _ K w htab fun W hW => two_fault1 58 _ _ _ _ K W h0 (Lib.hid fun W => ?_)
    rw [← hK]; exact numCheck_any N1 D1 W (by omega) (by omega)
theorem enter_neg : ∀ args w, (callFunc 61 args).run Tryz.prog w = .ok (.enter 61 args) w := fun _ _ => by kernel_rfl
theorem numNeg_ok (N1 D1 : List UInt8) (w : World) (htab : Tabs w) (l1 : N1.length ≤ 1000000) (l2 : D1.length ≤ 1000000) (v1 : chkOf N1 D1 = 0) :
    Calls Tryz.prog 25 #[.agg #[.string ⟨N1.toArray⟩, .string ⟨D1.toArray⟩]] w fun e w' => e = .returned (.tuple #[.agg #[.string ⟨(numBytes (rneg (!negNum N1) (pN N1)) (pN N1)).toArray⟩, .string ⟨(Lib.decDigits (Mth.dv D1)).toArray⟩], .int .i64 0]) ∧ Below w.heap.size w w' := by
  obtain ⟨a1, a2, a3⟩ := valid_of v1
  have c1 : (Mth.dg 1000000000 (pN N1)).length ≤ 1000000 := dv_len (b := 1000000000) (k := 1000000) (by omega) a1 (Nat.le_trans (cut_len N1) l1)
  have c2 := dv_len (b := 1000000000) (k := 1000000) (by omega) a2 l2
  refine numNeg_walk _ _ _ _ 0 w htab fun W hW => one_ok 61 enter_neg _ _ _ _ (negNum N1) (rneg (!negNum N1) (pN N1)) (pN N1) (Mth.dv D1) (pN N1) (Mth.dv D1) W hW (Lib.hid fun W => ?_) (Lib.hid ⟨fun W => ?_, fun W x1 y1 h1 h2 => ?_, fun W x y h1 h2 h3 => ?_⟩)
  · rw [← v1]; exact numCheck_any N1 D1 W (by omega) (by omega)
  · exact fof_any N1 D1 W (by omega) (by omega) a1 a2
  · exact fneg_any (negNum N1) (pN N1) (Mth.dv D1) x1 y1 W h1 h2 (by omega)
  · exact rat_str _ _ _ x y W h1 h2 (by omega) (by omega) h3
theorem numNeg_bad (N1 D1 : List UInt8) (K : Int) (w : World) (htab : Tabs w) (l1 : N1.length ≤ 1000000) (l2 : D1.length ≤ 1000000) (hK : chkOf N1 D1 = K) (h0 : K ≠ 0) :
    Calls Tryz.prog 25 #[.agg #[.string ⟨N1.toArray⟩, .string ⟨D1.toArray⟩]] w fun e w' => e = .returned (.tuple #[.agg #[.string ⟨#[]⟩, .string ⟨#[]⟩], .int .i64 K]) ∧ Below w.heap.size w w' := by
  refine numNeg_walk _ _ _ _ K w htab fun W hW => one_fault 61 _ _ K W h0 (Lib.hid fun W => ?_)
  rw [← hK]; exact numCheck_any N1 D1 W (by omega) (by omega)
end Go.Proofs.YtaibpeokfbokfaaGreatDoor

namespace Go.Proofs.YtaibpeokfbokfaaGreatDoor
open Go.RowKit Go.Shelf

theorem numAdd_pair {N1 D1 N2 D2 : List UInt8} {f : Int} {g1 g2 : Bool} {m1 d1 m2 d2 : Nat} (l1 : N1.length ≤ 1000000) (l2 : D1.length ≤ 1000000) (l3 : N2.length ≤ 1000000) (l4 : D2.length ≤ 1000000) (hf : chk2 (chkOf N1 D1) (chkOf N2 D2) = f)
    (hv : f = 0 → g1 = negNum N1 ∧ m1 = pN N1 ∧ d1 = Mth.dv D1 ∧ g2 = negNum N2 ∧ m2 = pN N2 ∧ d2 = Mth.dv D2) :
    ∃ P Q : ByteArray, (∀ W, Tabs W → Calls Tryz.prog 21 #[.agg #[.string ⟨N1.toArray⟩, .string ⟨D1.toArray⟩], .agg #[.string ⟨N2.toArray⟩, .string ⟨D2.toArray⟩]] W fun e w' => e = .returned (.tuple #[.agg #[.string P, .string Q], .int .i64 f]) ∧ Below W.heap.size W w') ∧
      (∀ W va vb, Pt W va (rnum (addM g1 g2 (m1 * d2) (m2 * d1)) (d1 * d2)) → Pt W vb (rden (addM g1 g2 (m1 * d2) (m2 * d1)) (d1 * d2)) → Tabs W →
        Calls Tryz.prog 13 #[.agg #[.string P, .string Q], .int .i64 f, .agg #[.bool (rneg (addS g1 g2 (m1 * d2) (m2 * d1)) (addM g1 g2 (m1 * d2) (m2 * d1))), va, vb], .int .i64 f] W fun e w' => e = .returned (.bool true) ∧ Below W.heap.size W w') := by
  by_cases h0 : f = 0
  · obtain ⟨rfl, rfl, rfl, rfl, rfl, rfl⟩ := hv h0
    obtain ⟨v1, v2⟩ := chk2_zero (hf.trans h0)
    subst h0
    have hl := sum_len (b := 10000) (by omega) (negNum N2) v1 v2 l1 l2 l3 l4
    refine ⟨_, _, fun W hW => numAdd_ok N1 D1 N2 D2 W hW l1 l2 l3 l4 v1 v2, fun W va vb ha hb hW => ?_⟩
    exact same_ok _ _ _ va vb W ha hb (Nat.le_trans hl.1 (by omega)) (Nat.le_trans hl.2 (by omega)) hW
  · exact ⟨_, _, fun W hW => numAdd_bad N1 D1 N2 D2 f W hW l1 l2 l3 l4 hf h0, fun W va vb ha hb _ => same_fault f _ va vb W _ _ ha hb h0⟩
theorem numSub_pair {N1 D1 N2 D2 : List UInt8} {f : Int} {g1 g2 : Bool} {m1 d1 m2 d2 : Nat} (l1 : N1.length ≤ 1000000) (l2 : D1.length ≤ 1000000) (l3 : N2.length ≤ 1000000) (l4 : D2.length ≤ 1000000) (hf : chk2 (chkOf N1 D1) (chkOf N2 D2) = f)
    (hv : f = 0 → g1 = negNum N1 ∧ m1 = pN N1 ∧ d1 = Mth.dv D1 ∧ g2 = negNum N2 ∧ m2 = pN N2 ∧ d2 = Mth.dv D2) :
    ∃ P Q : ByteArray, (∀ W, Tabs W → Calls Tryz.prog 22 #[.agg #[.string ⟨N1.toArray⟩, .string ⟨D1.toArray⟩], .agg #[.string ⟨N2.toArray⟩, .string ⟨D2.toArray⟩]] W fun e w' => e = .returned (.tuple #[.agg #[.string P, .string Q], .int .i64 f]) ∧ Below W.heap.size W w') ∧
      (∀ W va vb, Pt W va (rnum (addM g1 (rneg (!g2) m2) (m1 * d2) (m2 * d1)) (d1 * d2)) → Pt W vb (rden (addM g1 (rneg (!g2) m2) (m1 * d2) (m2 * d1)) (d1 * d2)) → Tabs W →
        Calls Tryz.prog 13 #[.agg #[.string P, .string Q], .int .i64 f, .agg #[.bool (rneg (addS g1 (rneg (!g2) m2) (m1 * d2) (m2 * d1)) (addM g1 (rneg (!g2) m2) (m1 * d2) (m2 * d1))), va, vb], .int .i64 f] W fun e w' => e = .returned (.bool true) ∧ Below W.heap.size W w') := by
  by_cases h0 : f = 0
  · obtain ⟨rfl, rfl, rfl, rfl, rfl, rfl⟩ := hv h0
    obtain ⟨v1, v2⟩ := chk2_zero (hf.trans h0)
    subst h0
    have hl := sum_len (b := 10000) (by omega) (rneg (!negNum N2) (pN N2)) v1 v2 l1 l2 l3 l4
    refine ⟨_, _, fun W hW => numSub_ok N1 D1 N2 D2 W hW l1 l2 l3 l4 v1 v2, fun W va vb ha hb hW => ?_⟩
    exact same_ok _ _ _ va vb W ha hb (Nat.le_trans hl.1 (by omega)) (Nat.le_trans hl.2 (by omega)) hW
  · exact ⟨_, _, fun W hW => numSub_bad N1 D1 N2 D2 f W hW l1 l2 l3 l4 hf h0, fun W va vb ha hb _ => same_fault f _ va vb W _ _ ha hb h0⟩
/-- the answer of num.Neg and the comparison that follows, where the number is valid -/
theorem numNeg_same {N1 D1 : List UInt8} (l1 : N1.length ≤ 1000000) (l2 : D1.length ≤ 1000000) (v1 : chkOf N1 D1 = 0) (W : World) (va vb : Value) (ha : Pt W va (pN N1)) (hb : Pt W vb (Mth.dv D1)) (hW : Tabs W) :
    Calls Tryz.prog 13 #[.agg #[.string ⟨(numBytes (rneg (!negNum N1) (pN N1)) (pN N1)).toArray⟩, .string ⟨(Lib.decDigits (Mth.dv D1)).toArray⟩], .int .i64 0, .agg #[.bool (rneg (!negNum N1) (pN N1)), va, vb], .int .i64 0] W fun e w' => e = .returned (.bool true) ∧ Below W.heap.size W w' := by
  obtain ⟨a1, a2, a3⟩ := valid_of v1
  have c1 : (Mth.dg 10000 (pN N1)).length ≤ 1000000 := dv_len (by omega) a1 (Nat.le_trans (cut_len N1) l1)
  have c2 := dv_len (b := 10000) (k := 1000000) (by omega) a2 l2
  exact same_ok _ _ _ va vb W ha hb (by omega) (by omega) hW
theorem numNeg_pair {N1 D1 : List UInt8} (l1 : N1.length ≤ 1000000) (l2 : D1.length ≤ 1000000) (v1 : chkOf N1 D1 = 0) :
    ∃ P Q : ByteArray, (∀ W, Tabs W → Calls Tryz.prog 25 #[.agg #[.string ⟨N1.toArray⟩, .string ⟨D1.toArray⟩]] W fun e w' => e = .returned (.tuple #[.agg #[.string P, .string Q], .int .i64 0]) ∧ Below W.heap.size W w') ∧
      (∀ W va vb, Pt W va (pN N1) → Pt W vb (Mth.dv D1) → Tabs W → Calls Tryz.prog 13 #[.agg #[.string P, .string Q], .int .i64 0, .agg #[.bool (rneg (!negNum N1) (pN N1)), va, vb], .int .i64 0] W fun e w' => e = .returned (.bool true) ∧ Below W.heap.size W w') :=
  ⟨_, _, fun W hW => numNeg_ok N1 D1 W hW l1 l2 v1, fun W va vb ha hb hW => numNeg_same l1 l2 v1 W va vb ha hb hW⟩
end Go.Proofs.YtaibpeokfbokfaaGreatDoor
