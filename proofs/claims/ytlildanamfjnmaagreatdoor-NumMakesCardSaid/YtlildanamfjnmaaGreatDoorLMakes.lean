/-
  The law NumMakes: the walk.
-/
import Derived.Test.YtlildanamfjnmaaGreatDoorNums
import Derived.Test.YtlildanamfjnmaaGreatDoorRSame
namespace Go.Proofs.YtlildanamfjnmaaGreatDoor
open Go.RowKit

set_option maxHeartbeats 4000000 in
set_option maxRecDepth 100000 in
theorem makes_zero (a : Int) (w : World) (h1 : -9223372036854775808 ≤ a) (h2 : a ≤ 9223372036854775807) (htab : Tabs w) :
    Calls Tryz.prog 4 #[.int .i64 a, .int .i64 0] w fun e w' => e = .returned (.bool true) ∧ Below w.heap.size w w' := by
  have HN := Lib.hid (fun W (h : Tabs W) => nums_any W h)
  have HT := Lib.hid htab
  have HM := Lib.hid (make_zero a w)
  obtain ⟨nl, hnl⟩ : ∃ nl, numBytes (decide (a < 0)) a.natAbs = nl := ⟨_, rfl⟩
  obtain ⟨dl, hdl⟩ : ∃ dl, Lib.decDigits 1 = dl := ⟨_, rfl⟩
  have hw := fun W hT => whole_any a W h1 h2 hT
  have hr := fun va vb W hA hB hT => rrat_str (decide (a < 0)) a.natAbs 1 va vb W hA hB (by have := rnatAbs_len h1 h2; omega) (by rw [Mth.dg_one (by omega) (by omega) (by omega)]; simp) hT
  rw [hnl, hdl] at hw hr
  have HWH := Lib.hid hw
  have HR := Lib.hid hr
  have HI := Lib.hid (fun W => rint_any a W h1 h2)
  clear hw hr hnl hdl h1 h2 htab
  go_enter Tryz.func4, Tryz.ntmps4
  go_wp2_with fail
  refine HM.out.mono ?_
  rintro e w1 ⟨rfl, hB1⟩
  have hk := Blk.new w1 31 #[.string ⟨#[]⟩, .string ⟨#[]⟩]
  have HK := Lib.hid hk
  have HB1 : Hid (Below w.heap.size w (w1.alloc (.cells #[.string ⟨#[]⟩, .string ⟨#[]⟩] 31))) := Lib.hid (hB1.alloc hB1.size _)
  have HT1 := Lib.hid (HT.out.low HB1.out)
  clear hB1 hk
  go_wp2_with fail
  refine (HN.out _ HT1.out).mono ?_
  rintro e w2 ⟨rfl, hB2⟩
  have hk := HK.out.low hB2
  have c0 := hk.cell 0
  have c1 := hk.cell 1
  simp only [List.getElem?_toArray, List.getElem?_cons_zero, List.getElem?_cons_succ] at c0 c1
  have HB2 : Hid (Below w.heap.size w w2) := Lib.hid (HB1.out.trans (hB2.mono HB1.out.size))
  have HT2 := Lib.hid (HT1.out.low hB2)
  clear hB2 hk
  go_wp2_with fail
  refine (HWH.out _ HT2.out).mono ?_
  rintro e w3 ⟨rfl, hB3⟩
  have HB3 : Hid (Below w.heap.size w w3) := Lib.hid (HB2.out.trans (hB3.mono HB2.out.size))
  have HT3 := Lib.hid (HT2.out.low hB3)
  clear hB3
  go_wp2_with fail
  refine (HI.out _).mono ?_
  rintro e w4 ⟨v1, v2, rfl, hN1, hN2, hB4⟩
  have HB4 : Hid (Below w.heap.size w w4) := Lib.hid (HB3.out.trans (hB4.mono HB3.out.size))
  have HRR := Lib.hid (HR.out v1 v2 w4 hN1 hN2 (HT3.out.low hB4))
  clear hB4 hN1 hN2
  go_wp2_with fail
  refine HRR.out.mono ?_
  rintro e w5 ⟨rfl, hB5⟩
  have HB5 : Hid (Below w.heap.size w w5) := Lib.hid (HB4.out.trans (hB5.mono HB4.out.size))
  clear hB5
  go_wp2
  go_ret
  exact ⟨ret_bool (by simp), HB5.out⟩

set_option maxHeartbeats 8000000 in
set_option maxRecDepth 100000 in
theorem makes_any (a b : Int) (w : World) (h1 : -9223372036854775808 ≤ a) (h2 : a ≤ 9223372036854775807) (h3 : -9223372036854775808 ≤ b) (h4 : b ≤ 9223372036854775807) (hb0 : b ≠ 0) (htab : Tabs w) :
    Calls Tryz.prog 4 #[.int .i64 a, .int .i64 b] w fun e w' => e = .returned (.bool true) ∧ Below w.heap.size w w' := by
  have HN := Lib.hid (fun W (h : Tabs W) => nums_any W h)
  have HT := Lib.hid htab
  have hm := make_any a b w h1 h2 h3 h4 hb0 htab
  obtain ⟨nl, hnl⟩ : ∃ nl, numBytes (decide (a < 0)) a.natAbs = nl := ⟨_, rfl⟩
  obtain ⟨dl, hdl⟩ : ∃ dl, Lib.decDigits 1 = dl := ⟨_, rfl⟩
  obtain ⟨ql, hql⟩ : ∃ ql, numBytes (qneg a b) (qnum a b) = ql := ⟨_, rfl⟩
  obtain ⟨el, hel⟩ : ∃ el, Lib.decDigits (qden a b) = el := ⟨_, rfl⟩
  have hw := fun W hT => whole_any a W h1 h2 hT
  have hr := fun va vb W hA hB hT => rrat_str (decide (a < 0)) a.natAbs 1 va vb W hA hB (by have := rnatAbs_len h1 h2; omega) (by rw [Mth.dg_one (by omega) (by omega) (by omega)]; simp) hT
  rw [hnl, hdl] at hw hr
  have l1 : (Mth.dg 10000 (qnum a b)).length ≤ 1000000000 := by
    refine Nat.le_trans (Mth.dg_len_mono (by omega) (show qnum a b ≤ a.natAbs from ?_)) (by have := rnatAbs_len h1 h2; omega)
    unfold qnum rnum
    split
    · omega
    · exact Nat.le_trans (Nat.div_le_self _ _) (by omega)
  have l2 : (Mth.dg 10000 (qden a b)).length ≤ 1000000000 := by
    refine Nat.le_trans (Mth.dg_len_mono (by omega) (show qden a b ≤ b.natAbs from ?_)) (by have := rnatAbs_len h3 h4; omega)
    unfold qden rden
    split
    · omega
    · exact Nat.le_trans (Nat.div_le_self _ _) (by omega)
  have hs := fun va vb W hA hB hT => same_ok (qneg a b) (qnum a b) (qden a b) va vb W hA hB l1 l2 hT
  rw [hql, hel] at hs hm
  have HM := Lib.hid hm
  have HSM := Lib.hid hs
  have HWH := Lib.hid hw
  have HR := Lib.hid hr
  have HI := Lib.hid (fun W => rint_any a W h1 h2)
  have HQ := Lib.hid (fun W => rquo_any a b W h1 h2 h3 h4 hb0)
  have hb1 : (b == 0) = false := by simpa using hb0
  clear hw hr hnl hdl h1 h2 h3 h4 htab hm hs hql hel l1 l2 hb0
  go_enter Tryz.func4, Tryz.ntmps4
  go_wp2_with fail
  refine HM.out.mono ?_
  rintro e w1 ⟨rfl, hB1⟩
  obtain ⟨W, hW⟩ : ∃ W, W = w1.alloc (.cells #[.string ⟨ql.toArray⟩, .string ⟨el.toArray⟩] 31) := ⟨_, rfl⟩
  have hk : Blk W w1.heap.size 31 #[.string ⟨ql.toArray⟩, .string ⟨el.toArray⟩] := by rw [hW]; exact Blk.new w1 _ _
  have HBW : Hid (Below w.heap.size w W) := Lib.hid (by rw [hW]; exact hB1.alloc hB1.size _)
  have HT1 := Lib.hid (HT.out.low HBW.out)
  have e0 := hk.cell 0
  have e1 := hk.cell 1
  simp only [List.getElem?_toArray, List.getElem?_cons_zero, List.getElem?_cons_succ] at e0 e1
  have z1 := hk.lt
  have HW := Lib.hid hW
  have HS : Hid (∀ w', Below W.heap.size W w' → w'.cell? ⟨w1.heap.size, 0, none⟩ = some (.string ⟨ql.toArray⟩) ∧ w'.cell? ⟨w1.heap.size, 1, none⟩ = some (.string ⟨el.toArray⟩)) := Lib.hid fun w' hb =>
    ⟨(hb.cell (p := ⟨w1.heap.size, 0, none⟩) z1).trans e0, (hb.cell (p := ⟨w1.heap.size, 1, none⟩) z1).trans e1⟩
  have HC : Hid (Below W.heap.size W W.drew) := Lib.hid (Below.refl _ W).drew
  clear hB1 hk hW
  go_wp2_with fail
  rw [← HW.out]
  go_region_held3 (fun w' => w'.cell? ⟨w1.heap.size, 0, none⟩ = some (.string ⟨ql.toArray⟩) ∧ w'.cell? ⟨w1.heap.size, 1, none⟩ = some (.string ⟨el.toArray⟩))
    (first | exact ⟨e0, e1⟩ | exact HS.out _ HC.out | go_keep)
    (first
      | (go_at_call 12; refine (HN.out _ (HT1.out.low HC.out)).mono ?_; rintro e w2 ⟨rfl, hB2⟩; have HC' : Hid (Below W.heap.size W w2) := Lib.hid (HC.out.trans (hB2.mono HC.out.size)); clear hB2 HC; have HC := Lib.hid HC'.out; clear HC')
      | (go_at_call 20; refine (HQ.out _).mono ?_; rintro e w3 ⟨q1, q2, rfl, hN1, hN2, hB3⟩; have HC' : Hid (Below W.heap.size W w3) := Lib.hid (HC.out.trans (hB3.mono HC.out.size)); have HQ1 := Lib.hid hN1; have HQ2 := Lib.hid hN2; clear hB3 hN1 hN2 HC; have HC := Lib.hid HC'.out; clear HC')
      | (go_at_call 19; refine (HSM.out q1 q2 _ HQ1.out HQ2.out (HT1.out.low HC.out)).mono ?_; rintro e w4 ⟨rfl, hB4⟩; have HC' : Hid (Below W.heap.size W w4) := Lib.hid (HC.out.trans (hB4.mono HC.out.size)); clear hB4 HC; have HC := Lib.hid HC'.out; clear HC')
      | (go_at_call 16; refine (HWH.out _ (HT1.out.low HC.out)).mono ?_; rintro e w5 ⟨rfl, hB5⟩; have HC' : Hid (Below W.heap.size W w5) := Lib.hid (HC.out.trans (hB5.mono HC.out.size)); (try (have HJ := Lib.hid (HI1.out.below hB5); have HJ2 := Lib.hid (HI2.out.below hB5); clear HI1 HI2; have HI1 := Lib.hid HJ.out; have HI2 := Lib.hid HJ2.out; clear HJ HJ2)); clear hB5 HC; have HC := Lib.hid HC'.out; clear HC')
      | (go_at_call 17; refine (HI.out _).mono ?_; rintro e w6 ⟨i1, i2, rfl, hN1, hN2, hB6⟩; have HC' : Hid (Below W.heap.size W w6) := Lib.hid (HC.out.trans (hB6.mono HC.out.size)); have HI1 := Lib.hid hN1; have HI2 := Lib.hid hN2; clear hB6 hN1 hN2 HC; have HC := Lib.hid HC'.out; clear HC')
      | (go_at_call 18; refine (HR.out i1 i2 _ HI1.out HI2.out (HT1.out.low HC.out)).mono ?_; rintro e w7 ⟨rfl, hB7⟩; have HC' : Hid (Below W.heap.size W w7) := Lib.hid (HC.out.trans (hB7.mono HC.out.size)); clear hB7 HC; have HC := Lib.hid HC'.out; clear HC'))
  all_goals
    go_wp2
    go_ret
    exact ⟨ret_bool (by simp), HBW.out.trans (HC.out.mono HBW.out.size)⟩

theorem makes_law (a b : Int) (w : World) (h : -9223372036854775808 ≤ a ∧ a ≤ 9223372036854775807) (h' : -9223372036854775808 ≤ b ∧ b ≤ 9223372036854775807) (htab : Tabs w) :
    Calls Tryz.prog 4 #[.int .i64 a, .int .i64 b] w fun e w' => e = .returned (.bool true) ∧ Below w.heap.size w w' := by
  by_cases hb0 : b = 0
  · subst hb0; exact makes_zero a w h.1 h.2 htab
  · exact makes_any a b w h.1 h.2 h'.1 h'.2 hb0 htab
end Go.Proofs.YtlildanamfjnmaaGreatDoor
