/-
  weftlaw1.same: a number is that of the reference.
-/
import Derived.Test.YtaibpeokfbokfaaGreatDoorRQuo
import Derived.Test.YtaibpeokfbokfaaGreatDoorMake
namespace Go.Proofs.YtaibpeokfbokfaaGreatDoor
open Go.RowKit

theorem rrat_str (neg : Bool) (m n : Nat) (va vb : Value) (w : World) (ha : Pt w va m) (hb : Pt w vb n) (hs : (Mth.dg 10000 m).length ≤ 1000000000) (ht : (Mth.dg 10000 n).length ≤ 1000000000) (htab : Tabs w) :
    Calls Tryz.prog 48 #[.agg #[.bool neg, va, vb]] w fun e w' => e = .returned (.agg #[.string ⟨(numBytes neg m).toArray⟩, .string ⟨(Lib.decDigits n).toArray⟩]) ∧ Below w.heap.size w w' := by
  refine (rrat_any neg m n va vb w ha hb hs ht htab).mono ?_
  rintro e w' ⟨S, T, rfl, hS, hT, hB⟩
  rw [str_eq hS, str_eq hT]
  exact ⟨rfl, hB⟩

set_option maxHeartbeats 2000000 in
set_option maxRecDepth 100000 in
theorem same_ok (neg : Bool) (m n : Nat) (va vb : Value) (w : World) (ha : Pt w va m) (hb : Pt w vb n) (hs : (Mth.dg 10000 m).length ≤ 1000000000) (ht : (Mth.dg 10000 n).length ≤ 1000000000) (htab : Tabs w) :
    Calls Tryz.prog 13 #[.agg #[.string ⟨(numBytes neg m).toArray⟩, .string ⟨(Lib.decDigits n).toArray⟩], .int .i64 0, .agg #[.bool neg, va, vb], .int .i64 0] w fun e w' => e = .returned (.bool true) ∧ Below w.heap.size w w' := by
  obtain ⟨nl, hnl⟩ : ∃ nl, numBytes neg m = nl := ⟨_, rfl⟩
  obtain ⟨dl, hdl⟩ : ∃ dl, Lib.decDigits n = dl := ⟨_, rfl⟩
  have hr := fun W hA hB hT => rrat_str neg m n va vb W hA hB hs ht hT
  rw [hnl, hdl] at hr
  rw [hnl, hdl]
  have HR := Lib.hid hr
  have HT := Lib.hid htab
  have HA := Lib.hid ha
  have HB := Lib.hid hb
  obtain ⟨A1, n1, k1, rfl⟩ := ha.shape
  obtain ⟨A2, n2, k2, rfl⟩ := hb.shape
  obtain ⟨W, hW⟩ : ∃ W, W = (w.alloc (.cells #[.string ⟨nl.toArray⟩, .string ⟨dl.toArray⟩] 27)).alloc (.cells #[.bool neg, .slice A1 n1 k1, .slice A2 n2 k2] 33) := ⟨_, rfl⟩
  have hBW : Below w.heap.size w W := by
    rw [hW]; exact ((Below.refl _ w).alloc (Nat.le_refl _) _).alloc (by simp) _
  have hk0 : Blk W w.heap.size 27 #[.string ⟨nl.toArray⟩, .string ⟨dl.toArray⟩] := by
    rw [hW]; exact (Blk.new w _ _).alloc _
  have hk1 : Blk W (w.heap.size + 1) 33 #[.bool neg, .slice A1 n1 k1, .slice A2 n2 k2] := by
    rw [hW]
    have := Blk.new (w.alloc (.cells #[.string ⟨nl.toArray⟩, .string ⟨dl.toArray⟩] 27)) 33 #[.bool neg, .slice A1 n1 k1, .slice A2 n2 k2]
    rwa [World.size_alloc] at this
  have e0 := hk0.cell 0
  have e1 := hk0.cell 1
  have e2 := hk1.cell 0
  have e3 := hk1.cell 1
  have e4 := hk1.cell 2
  simp only [List.getElem?_toArray, List.getElem?_cons_zero, List.getElem?_cons_succ] at e0 e1 e2 e3 e4
  have z1 := hk1.lt
  have HW := Lib.hid hW
  have HBW := Lib.hid hBW
  have HAW := Lib.hid (HA.out.below hBW)
  have HBBW := Lib.hid (HB.out.below hBW)
  have HTW := Lib.hid (HT.out.low hBW)
  have HS : Hid (∀ w', Below W.heap.size W w' → w'.cell? ⟨w.heap.size, 0, none⟩ = some (.string ⟨nl.toArray⟩) ∧ w'.cell? ⟨w.heap.size, 1, none⟩ = some (.string ⟨dl.toArray⟩) ∧ w'.cell? ⟨w.heap.size + 1, 0, none⟩ = some (.bool neg) ∧ w'.cell? ⟨w.heap.size + 1, 1, none⟩ = some (.slice A1 n1 k1) ∧ w'.cell? ⟨w.heap.size + 1, 2, none⟩ = some (.slice A2 n2 k2)) := Lib.hid fun w' hb =>
    ⟨(hb.cell (p := ⟨w.heap.size, 0, none⟩) (by show w.heap.size < _; omega)).trans e0, (hb.cell (p := ⟨w.heap.size, 1, none⟩) (by show w.heap.size < _; omega)).trans e1, (hb.cell (p := ⟨w.heap.size + 1, 0, none⟩) z1).trans e2, (hb.cell (p := ⟨w.heap.size + 1, 1, none⟩) z1).trans e3, (hb.cell (p := ⟨w.heap.size + 1, 2, none⟩) z1).trans e4⟩
  clear hr hnl hdl ha hb hs ht htab hW hBW hk0 hk1
  go_enter Tryz.func13, Tryz.ntmps13
  go_wp2_with fail
  rw [← HW.out]
  go_region_held3 (fun w' => w'.cell? ⟨w.heap.size, 0, none⟩ = some (.string ⟨nl.toArray⟩) ∧ w'.cell? ⟨w.heap.size, 1, none⟩ = some (.string ⟨dl.toArray⟩) ∧ w'.cell? ⟨w.heap.size + 1, 0, none⟩ = some (.bool neg) ∧ w'.cell? ⟨w.heap.size + 1, 1, none⟩ = some (.slice A1 n1 k1) ∧ w'.cell? ⟨w.heap.size + 1, 2, none⟩ = some (.slice A2 n2 k2))
    (first | exact ⟨e0, e1, e2, e3, e4⟩ | exact HS.out _ HC1.out | go_keep)
    ((go_at_call 48; refine (HR.out _ (Pt.drew HAW.out) (Pt.drew HBBW.out) HTW.out).mono ?_; rintro e w1 ⟨rfl, hB1⟩; have HC1 : Hid (Below W.heap.size W w1) := Lib.hid ((Below.refl _ W).drew.trans hB1); clear hB1))
  go_wp2
  go_ret
  exact ⟨ret_bool (by simp), HBW.out.trans (HC1.out.mono HBW.out.size)⟩

set_option maxHeartbeats 2000000 in
set_option maxRecDepth 100000 in
theorem same_fault (f : Int) (neg : Bool) (va vb : Value) (w : World) (m n : Nat) (ha : Pt w va m) (hb : Pt w vb n) (hf : f ≠ 0) :
    Calls Tryz.prog 13 #[.agg #[.string ⟨#[]⟩, .string ⟨#[]⟩], .int .i64 f, .agg #[.bool neg, va, vb], .int .i64 f] w fun e w' => e = .returned (.bool true) ∧ Below w.heap.size w w' := by
  obtain ⟨A1, n1, k1, rfl⟩ := ha.shape
  obtain ⟨A2, n2, k2, rfl⟩ := hb.shape
  have hf1 : (f != 0) = true := by simpa using hf
  clear ha hb hf
  go_enter Tryz.func13, Tryz.ntmps13
  go_wp2
  go_ret
  exact ⟨ret_bool (by simp), ((Below.refl _ w).alloc (Nat.le_refl _) _).alloc (by simp) _⟩
end Go.Proofs.YtaibpeokfbokfaaGreatDoor
