/-
  num.two and num.one over a given function.
-/
import Derived.Test.YtaibpeokfbokfaaGreatDoorRD
import Derived.Test.YtaibpeokfbokfaaGreatDoorFrac2
namespace Go.Proofs.YtaibpeokfbokfaaGreatDoor
open Go.RowKit Go.Shelf

/-- what num.two needs where both numbers are valid -/
structure TwoOk (F : Nat) (N1 D1 N2 D2 RS RT : ByteArray) (g1 g2 s : Bool) (m1 d1 m2 d2 M D : Nat) : Prop where
  of1 : ∀ W, Calls Tryz.prog 62 #[.agg #[.string N1, .string D1]] W (FNum g1 m1 d1 W)
  of2 : ∀ W, Calls Tryz.prog 62 #[.agg #[.string N2, .string D2]] W (FNum g2 m2 d2 W)
  op : ∀ W x1 y1 x2 y2, Nt W x1 m1 → Nt W y1 d1 → Nt W x2 m2 → Nt W y2 d2 → Calls Tryz.prog F #[.agg #[.bool g1, x1, y1], .agg #[.bool g2, x2, y2]] W (FNum s M D W)
  rat : ∀ W v1 v2, Nt W v1 M → Nt W v2 D → Tabs W → Calls Tryz.prog 82 #[.agg #[.bool s, v1, v2]] W fun e w' => e = .returned (.agg #[.string RS, .string RT]) ∧ Below W.heap.size W w'

set_option maxHeartbeats 8000000 in
set_option maxRecDepth 100000 in
theorem two_ok (F : Nat) (eF : ∀ args w, (callFunc F args).run Tryz.prog w = .ok (.enter F args) w) (N1 D1 N2 D2 RS RT : ByteArray) (g1 g2 s : Bool) (m1 d1 m2 d2 M D : Nat) (w : World) (htab : Tabs w)
    (HC1 : Hid (∀ W, Calls Tryz.prog 47 #[.agg #[.string N1, .string D1]] W fun e w' => e = .returned (.int .i64 0) ∧ Below W.heap.size W w'))
    (HC2 : Hid (∀ W, Calls Tryz.prog 47 #[.agg #[.string N2, .string D2]] W fun e w' => e = .returned (.int .i64 0) ∧ Below W.heap.size W w'))
    (HOK : Hid (TwoOk F N1 D1 N2 D2 RS RT g1 g2 s m1 d1 m2 d2 M D)) :
    Calls Tryz.prog 44 #[.agg #[.string N1, .string D1], .agg #[.string N2, .string D2], .func (.func F) #[] #[]] w fun e w' => e = .returned (.tuple #[.agg #[.string RS, .string RT], .int .i64 0]) ∧ Below w.heap.size w w' := by
  obtain ⟨W, hW⟩ : ∃ W, W = ((w.alloc (.cells #[.string N1, .string D1] 27)).alloc (.cells #[.string N2, .string D2] 27)).alloc (.cells #[.string ⟨#[]⟩, .string ⟨#[]⟩] 27) := ⟨_, rfl⟩
  have hBW : Below w.heap.size w W := by rw [hW]; exact (((Below.refl _ w).alloc (Nat.le_refl _) _).alloc (by simp) _).alloc (by simp; omega) _
  have hk0 : Blk W w.heap.size 27 #[.string N1, .string D1] := by rw [hW]; exact ((Blk.new w _ _).alloc _).alloc _
  have hk1 : Blk W (w.heap.size + 1) 27 #[.string N2, .string D2] := by
    rw [hW]
    have := (Blk.new (w.alloc (.cells #[.string N1, .string D1] 27)) 27 #[.string N2, .string D2]).alloc (.cells #[.string ⟨#[]⟩, .string ⟨#[]⟩] 27)
    rwa [World.size_alloc] at this
  have hk2 : Blk W (w.heap.size + 1 + 1) 27 #[.string ⟨#[]⟩, .string ⟨#[]⟩] := by
    rw [hW]
    have := Blk.new ((w.alloc (.cells #[.string N1, .string D1] 27)).alloc (.cells #[.string N2, .string D2] 27)) 27 #[.string ⟨#[]⟩, .string ⟨#[]⟩]
    rwa [World.size_alloc, World.size_alloc] at this
  have e0 := hk0.cell 0
  have e1 := hk0.cell 1
  have e2 := hk1.cell 0
  have e3 := hk1.cell 1
  simp only [List.getElem?_toArray, List.getElem?_cons_zero, List.getElem?_cons_succ] at e0 e1 e2 e3
  have z0 := hk2.lt
  have HW := Lib.hid hW
  have HBW := Lib.hid hBW
  have HK2 := Lib.hid hk2
  have HTAB := Lib.hid (htab.low hBW)
  have HS : Hid (∀ w', Below W.heap.size W w' → w'.cell? ⟨w.heap.size, 0, none⟩ = some (.string N1) ∧ w'.cell? ⟨w.heap.size, 1, none⟩ = some (.string D1) ∧ w'.cell? ⟨w.heap.size + 1, 0, none⟩ = some (.string N2) ∧ w'.cell? ⟨w.heap.size + 1, 1, none⟩ = some (.string D2)) := Lib.hid fun w' hb =>
    ⟨(hb.cell (p := ⟨w.heap.size, 0, none⟩) (by show w.heap.size < _; omega)).trans e0, (hb.cell (p := ⟨w.heap.size, 1, none⟩) (by show w.heap.size < _; omega)).trans e1,
      (hb.cell (p := ⟨w.heap.size + 1, 0, none⟩) (by show w.heap.size + 1 < _; omega)).trans e2, (hb.cell (p := ⟨w.heap.size + 1, 1, none⟩) (by show w.heap.size + 1 < _; omega)).trans e3⟩
  have HST : Hid (∀ w' y0 y1, Below W.heap.size W w' → ((w'.setCell ⟨w.heap.size + 1 + 1, 0, none⟩ y0).setCell ⟨w.heap.size + 1 + 1, 1, none⟩ y1).cell? ⟨w.heap.size, 0, none⟩ = some (.string N1) ∧ ((w'.setCell ⟨w.heap.size + 1 + 1, 0, none⟩ y0).setCell ⟨w.heap.size + 1 + 1, 1, none⟩ y1).cell? ⟨w.heap.size, 1, none⟩ = some (.string D1) ∧ ((w'.setCell ⟨w.heap.size + 1 + 1, 0, none⟩ y0).setCell ⟨w.heap.size + 1 + 1, 1, none⟩ y1).cell? ⟨w.heap.size + 1, 0, none⟩ = some (.string N2) ∧ ((w'.setCell ⟨w.heap.size + 1 + 1, 0, none⟩ y0).setCell ⟨w.heap.size + 1 + 1, 1, none⟩ y1).cell? ⟨w.heap.size + 1, 1, none⟩ = some (.string D2)) := Lib.hid fun w' y0 y1 hb => by
    obtain ⟨q0, q1, q2, q3⟩ := HS.out w' hb
    refine ⟨?_, ?_, ?_, ?_⟩ <;> (rw [World.cell?_setCell_other _ _ _ _ (by intro h; injection h with h _; omega), World.cell?_setCell_other _ _ _ _ (by intro h; injection h with h _; omega)]; assumption)
  clear hW hBW hk0 hk1 hk2 htab
  have tok : True := trivial
  go_enter Tryz.func44, Tryz.ntmps44
  go_wp2_with fail
  rw [← HW.out]
  refine (HC1.out _).mono ?_
  rintro e w1 ⟨rfl, hB1⟩
  obtain ⟨p0, p1, p2, p3⟩ := HS.out w1 hB1
  have HB1 := Lib.hid hB1
  clear hB1
  go_wp2_with fail
  refine (HC2.out _).mono ?_
  rintro e w2 ⟨rfl, hB2⟩
  have hB2' : Below W.heap.size W w2 := HB1.out.trans (hB2.mono HB1.out.size)
  have HB2 := Lib.hid hB2'
  obtain ⟨q0, q1, q2, q3⟩ := HS.out w2 hB2'
  clear hB2 hB2' p0 p1 p2 p3 e0 e1 e2 e3
  go_wp2_with fail
  go_region_held3 (fun w' => w'.cell? ⟨w.heap.size, 0, none⟩ = some (.string N1) ∧ w'.cell? ⟨w.heap.size, 1, none⟩ = some (.string D1) ∧ w'.cell? ⟨w.heap.size + 1, 0, none⟩ = some (.string N2) ∧ w'.cell? ⟨w.heap.size + 1, 1, none⟩ = some (.string D2))
    (first | exact ⟨q0, q1, q2, q3⟩ | exact HST.out w6 _ _ HC6.out | exact HS.out _ HC6.out | exact HS.out _ HC5.out | exact HS.out _ HC4.out | exact HS.out _ HC3.out | go_keep)
    (first
      | (go_at_call 62; have _t := tok; refine (HOK.out.of1 _).mono ?_; rintro e w3 ⟨v1, v2, rfl, hN1, hN2, hB3⟩; have HN1 := Lib.hid hN1; have HN2 := Lib.hid hN2; have HC3 : Hid (Below W.heap.size W w3) := Lib.hid (HB2.out.drew.trans (hB3.mono HB2.out.size)); clear hN1 hN2 hB3 tok _t)
      | (go_at_call 62; refine (HOK.out.of2 _).mono ?_; rintro e w4 ⟨v3, v4, rfl, hN3, hN4, hB4⟩; have HN3 := Lib.hid hN3; have HN4 := Lib.hid hN4; have HN5 := Lib.hid (HN1.out.below hB4); have HN6 := Lib.hid (HN2.out.below hB4); have HC4 : Hid (Below W.heap.size W w4) := Lib.hid (HC3.out.trans (hB4.mono HC3.out.size)); clear hN3 hN4 hB4)
      | (go_at_call 82; refine (HOK.out.rat _ _ _ HR1.out HR2.out (HTAB.out.low HC5.out)).mono ?_; rintro e w6 ⟨rfl, hB6⟩; have HC6 : Hid (Below W.heap.size W w6) := Lib.hid (HC5.out.trans (hB6.mono HC5.out.size)); clear hB6; have hk := HK2.out.low HC6.out; have c0 := hk.cell 0; have c1 := hk.cell 1; have f0 := hk.frozen 0; have f1 := hk.frozen 1; simp only [List.getElem?_toArray, List.getElem?_cons_zero, List.getElem?_cons_succ] at c0 c1; have HK3 := Lib.hid hk; clear hk)
      | (refine (HOK.out.op _ _ _ _ _ HN5.out HN6.out HN3.out HN4.out).mono ?_; rintro e w5 ⟨v5, v6, rfl, hR1, hR2, hB5⟩; have HR1 := Lib.hid hR1; have HR2 := Lib.hid hR2; have HC5 : Hid (Below W.heap.size W w5) := Lib.hid (HC4.out.trans (hB5.mono HC4.out.size)); clear hR1 hR2 hB5))
  go_wp2
  refine bodyPost_ret (v := .tuple #[.agg #[.string RS, .string RT], .int .i64 0]) (by simp [results, Tryz.results44, go_sem, c0, c1]) rfl ?_
  exact ⟨rfl, ((HBW.out.trans (HC6.out.mono HBW.out.size)).setCell (p := ⟨w.heap.size + 1 + 1, 0, none⟩) (by show w.heap.size ≤ w.heap.size + 1 + 1; omega) _).setCell (p := ⟨w.heap.size + 1 + 1, 1, none⟩) (by show w.heap.size ≤ w.heap.size + 1 + 1; omega) _⟩
end Go.Proofs.YtaibpeokfbokfaaGreatDoor

namespace Go.Proofs.YtaibpeokfbokfaaGreatDoor
open Go.RowKit Go.Shelf

set_option maxHeartbeats 4000000 in
set_option maxRecDepth 100000 in
theorem two_fault1 (F : Nat) (N1 D1 N2 D2 : ByteArray) (K : Int) (w : World) (hK : K ≠ 0)
    (HC1 : Hid (∀ W, Calls Tryz.prog 47 #[.agg #[.string N1, .string D1]] W fun e w' => e = .returned (.int .i64 K) ∧ Below W.heap.size W w')) :
    Calls Tryz.prog 44 #[.agg #[.string N1, .string D1], .agg #[.string N2, .string D2], .func (.func F) #[] #[]] w fun e w' => e = .returned (.tuple #[.agg #[.string ⟨#[]⟩, .string ⟨#[]⟩], .int .i64 K]) ∧ Below w.heap.size w w' := by
  obtain ⟨W, hW⟩ : ∃ W, W = ((w.alloc (.cells #[.string N1, .string D1] 27)).alloc (.cells #[.string N2, .string D2] 27)).alloc (.cells #[.string ⟨#[]⟩, .string ⟨#[]⟩] 27) := ⟨_, rfl⟩
  have hBW : Below w.heap.size w W := by rw [hW]; exact (((Below.refl _ w).alloc (Nat.le_refl _) _).alloc (by simp) _).alloc (by simp; omega) _
  have hk0 : Blk W w.heap.size 27 #[.string N1, .string D1] := by rw [hW]; exact ((Blk.new w _ _).alloc _).alloc _
  have hk1 : Blk W (w.heap.size + 1) 27 #[.string N2, .string D2] := by
    rw [hW]
    have := (Blk.new (w.alloc (.cells #[.string N1, .string D1] 27)) 27 #[.string N2, .string D2]).alloc (.cells #[.string ⟨#[]⟩, .string ⟨#[]⟩] 27)
    rwa [World.size_alloc] at this
  have hk2 : Blk W (w.heap.size + 1 + 1) 27 #[.string ⟨#[]⟩, .string ⟨#[]⟩] := by
    rw [hW]
    have := Blk.new ((w.alloc (.cells #[.string N1, .string D1] 27)).alloc (.cells #[.string N2, .string D2] 27)) 27 #[.string ⟨#[]⟩, .string ⟨#[]⟩]
    rwa [World.size_alloc, World.size_alloc] at this
  have e0 := hk0.cell 0
  have e1 := hk0.cell 1
  have e2 := hk1.cell 0
  have e3 := hk1.cell 1
  simp only [List.getElem?_toArray, List.getElem?_cons_zero, List.getElem?_cons_succ] at e0 e1 e2 e3
  have z0 := hk2.lt
  have HW := Lib.hid hW
  have HBW := Lib.hid hBW
  have HK2 := Lib.hid hk2
  have HS : Hid (∀ w', Below W.heap.size W w' → w'.cell? ⟨w.heap.size, 0, none⟩ = some (.string N1) ∧ w'.cell? ⟨w.heap.size, 1, none⟩ = some (.string D1) ∧ w'.cell? ⟨w.heap.size + 1, 0, none⟩ = some (.string N2) ∧ w'.cell? ⟨w.heap.size + 1, 1, none⟩ = some (.string D2)) := Lib.hid fun w' hb =>
    ⟨(hb.cell (p := ⟨w.heap.size, 0, none⟩) (by show w.heap.size < _; omega)).trans e0, (hb.cell (p := ⟨w.heap.size, 1, none⟩) (by show w.heap.size < _; omega)).trans e1,
      (hb.cell (p := ⟨w.heap.size + 1, 0, none⟩) (by show w.heap.size + 1 < _; omega)).trans e2, (hb.cell (p := ⟨w.heap.size + 1, 1, none⟩) (by show w.heap.size + 1 < _; omega)).trans e3⟩
  clear hW hBW hk0 hk1 hk2
  go_enter Tryz.func44, Tryz.ntmps44
  go_wp2_with fail
  rw [← HW.out]
  refine (HC1.out _).mono ?_
  rintro e w1 ⟨rfl, hB1⟩
  have HB2 := Lib.hid hB1
  have hk := HK2.out.low HB2.out
  have c0 := hk.cell 0
  have c1 := hk.cell 1
  have f0 := hk.frozen 0
  have f1 := hk.frozen 1
  simp only [List.getElem?_toArray, List.getElem?_cons_zero, List.getElem?_cons_succ] at c0 c1
  clear hk
  go_wp2
  refine bodyPost_ret (v := .tuple #[.agg #[.string ⟨#[]⟩, .string ⟨#[]⟩], .int .i64 K]) (by simp [results, Tryz.results44, go_sem, c0, c1]) rfl ?_
  exact ⟨rfl, ((HBW.out.trans (HB2.out.mono HBW.out.size)).setCell (p := ⟨w.heap.size + 1 + 1, 0, none⟩) (by show w.heap.size ≤ w.heap.size + 1 + 1; omega) _).setCell (p := ⟨w.heap.size + 1 + 1, 1, none⟩) (by show w.heap.size ≤ w.heap.size + 1 + 1; omega) _⟩
set_option maxHeartbeats 4000000 in
set_option maxRecDepth 100000 in
theorem two_fault2 (F : Nat) (N1 D1 N2 D2 : ByteArray) (K : Int) (w : World) (hK : K ≠ 0)
    (HC1 : Hid (∀ W, Calls Tryz.prog 47 #[.agg #[.string N1, .string D1]] W fun e w' => e = .returned (.int .i64 0) ∧ Below W.heap.size W w'))
    (HC2 : Hid (∀ W, Calls Tryz.prog 47 #[.agg #[.string N2, .string D2]] W fun e w' => e = .returned (.int .i64 K) ∧ Below W.heap.size W w')) :
    Calls Tryz.prog 44 #[.agg #[.string N1, .string D1], .agg #[.string N2, .string D2], .func (.func F) #[] #[]] w fun e w' => e = .returned (.tuple #[.agg #[.string ⟨#[]⟩, .string ⟨#[]⟩], .int .i64 K]) ∧ Below w.heap.size w w' := by
  obtain ⟨W, hW⟩ : ∃ W, W = ((w.alloc (.cells #[.string N1, .string D1] 27)).alloc (.cells #[.string N2, .string D2] 27)).alloc (.cells #[.string ⟨#[]⟩, .string ⟨#[]⟩] 27) := ⟨_, rfl⟩
  have hBW : Below w.heap.size w W := by rw [hW]; exact (((Below.refl _ w).alloc (Nat.le_refl _) _).alloc (by simp) _).alloc (by simp; omega) _
  have hk0 : Blk W w.heap.size 27 #[.string N1, .string D1] := by rw [hW]; exact ((Blk.new w _ _).alloc _).alloc _
  have hk1 : Blk W (w.heap.size + 1) 27 #[.string N2, .string D2] := by
    rw [hW]
    have := (Blk.new (w.alloc (.cells #[.string N1, .string D1] 27)) 27 #[.string N2, .string D2]).alloc (.cells #[.string ⟨#[]⟩, .string ⟨#[]⟩] 27)
    rwa [World.size_alloc] at this
  have hk2 : Blk W (w.heap.size + 1 + 1) 27 #[.string ⟨#[]⟩, .string ⟨#[]⟩] := by
    rw [hW]
    have := Blk.new ((w.alloc (.cells #[.string N1, .string D1] 27)).alloc (.cells #[.string N2, .string D2] 27)) 27 #[.string ⟨#[]⟩, .string ⟨#[]⟩]
    rwa [World.size_alloc, World.size_alloc] at this
  have e0 := hk0.cell 0
  have e1 := hk0.cell 1
  have e2 := hk1.cell 0
  have e3 := hk1.cell 1
  simp only [List.getElem?_toArray, List.getElem?_cons_zero, List.getElem?_cons_succ] at e0 e1 e2 e3
  have z0 := hk2.lt
  have HW := Lib.hid hW
  have HBW := Lib.hid hBW
  have HK2 := Lib.hid hk2
  have HS : Hid (∀ w', Below W.heap.size W w' → w'.cell? ⟨w.heap.size, 0, none⟩ = some (.string N1) ∧ w'.cell? ⟨w.heap.size, 1, none⟩ = some (.string D1) ∧ w'.cell? ⟨w.heap.size + 1, 0, none⟩ = some (.string N2) ∧ w'.cell? ⟨w.heap.size + 1, 1, none⟩ = some (.string D2)) := Lib.hid fun w' hb =>
    ⟨(hb.cell (p := ⟨w.heap.size, 0, none⟩) (by show w.heap.size < _; omega)).trans e0, (hb.cell (p := ⟨w.heap.size, 1, none⟩) (by show w.heap.size < _; omega)).trans e1,
      (hb.cell (p := ⟨w.heap.size + 1, 0, none⟩) (by show w.heap.size + 1 < _; omega)).trans e2, (hb.cell (p := ⟨w.heap.size + 1, 1, none⟩) (by show w.heap.size + 1 < _; omega)).trans e3⟩
  clear hW hBW hk0 hk1 hk2
  go_enter Tryz.func44, Tryz.ntmps44
  go_wp2_with fail
  rw [← HW.out]
  refine (HC1.out _).mono ?_
  rintro e w1 ⟨rfl, hB1⟩
  have HB2 := Lib.hid hB1
  have HB1 := Lib.hid hB1
  obtain ⟨p0, p1, p2, p3⟩ := HS.out w1 hB1
  clear hB1 HB2
  go_wp2_with fail
  refine (HC2.out _).mono ?_
  rintro e w2 ⟨rfl, hB2⟩
  have HB2 : Hid (Below W.heap.size W w2) := Lib.hid (HB1.out.trans (hB2.mono HB1.out.size))
  clear hB2
  have hk := HK2.out.low HB2.out
  have c0 := hk.cell 0
  have c1 := hk.cell 1
  have f0 := hk.frozen 0
  have f1 := hk.frozen 1
  simp only [List.getElem?_toArray, List.getElem?_cons_zero, List.getElem?_cons_succ] at c0 c1
  clear hk
  go_wp2
  refine bodyPost_ret (v := .tuple #[.agg #[.string ⟨#[]⟩, .string ⟨#[]⟩], .int .i64 K]) (by simp [results, Tryz.results44, go_sem, c0, c1]) rfl ?_
  exact ⟨rfl, ((HBW.out.trans (HB2.out.mono HBW.out.size)).setCell (p := ⟨w.heap.size + 1 + 1, 0, none⟩) (by show w.heap.size ≤ w.heap.size + 1 + 1; omega) _).setCell (p := ⟨w.heap.size + 1 + 1, 1, none⟩) (by show w.heap.size ≤ w.heap.size + 1 + 1; omega) _⟩
set_option maxHeartbeats 4000000 in
set_option maxRecDepth 100000 in
theorem numAdd_walk (N1 D1 N2 D2 RS RT : ByteArray) (K : Int) (w : World) (htab : Tabs w)
    (H : ∀ W, Tabs W → Calls Tryz.prog 44 #[.agg #[.string N1, .string D1], .agg #[.string N2, .string D2], .func (.func 57) #[] #[]] W fun e w' => e = .returned (.tuple #[.agg #[.string RS, .string RT], .int .i64 K]) ∧ Below W.heap.size W w') :
    Calls Tryz.prog 21 #[.agg #[.string N1, .string D1], .agg #[.string N2, .string D2]] w fun e w' => e = .returned (.tuple #[.agg #[.string RS, .string RT], .int .i64 K]) ∧ Below w.heap.size w w' := by
  obtain ⟨W, hW⟩ : ∃ W, W = ((w.alloc (.cells #[.string N1, .string D1] 27)).alloc (.cells #[.string N2, .string D2] 27)).alloc (.cells #[.string ⟨#[]⟩, .string ⟨#[]⟩] 27) := ⟨_, rfl⟩
  have hBW : Below w.heap.size w W := by rw [hW]; exact (((Below.refl _ w).alloc (Nat.le_refl _) _).alloc (by simp) _).alloc (by simp; omega) _
  have hk2 : Blk W (w.heap.size + 1 + 1) 27 #[.string ⟨#[]⟩, .string ⟨#[]⟩] := by
    rw [hW]
    have := Blk.new ((w.alloc (.cells #[.string N1, .string D1] 27)).alloc (.cells #[.string N2, .string D2] 27)) 27 #[.string ⟨#[]⟩, .string ⟨#[]⟩]
    rwa [World.size_alloc, World.size_alloc] at this
  have HT := Lib.hid (H W (htab.low hBW))
  have HW := Lib.hid hW
  have HBW := Lib.hid hBW
  have HK2 := Lib.hid hk2
  have z0 := hk2.lt
  clear hW hBW hk2 htab H
  go_enter Tryz.func21, Tryz.ntmps21
  go_wp2_with fail
  rw [← HW.out]
  refine HT.out.mono ?_
  rintro e w1 ⟨rfl, hB1⟩
  have HB1 := Lib.hid hB1
  have hk := HK2.out.low hB1
  have c0 := hk.cell 0
  have c1 := hk.cell 1
  have f0 := hk.frozen 0
  have f1 := hk.frozen 1
  simp only [List.getElem?_toArray, List.getElem?_cons_zero, List.getElem?_cons_succ] at c0 c1
  clear hk hB1
  go_wp2
  refine bodyPost_ret (v := .tuple #[.agg #[.string RS, .string RT], .int .i64 K]) (by simp [results, Tryz.results21, go_sem, c0, c1]) rfl ?_
  exact ⟨rfl, ((HBW.out.trans (HB1.out.mono HBW.out.size)).setCell (p := ⟨w.heap.size + 1 + 1, 0, none⟩) (by show w.heap.size ≤ w.heap.size + 1 + 1; omega) _).setCell (p := ⟨w.heap.size + 1 + 1, 1, none⟩) (by show w.heap.size ≤ w.heap.size + 1 + 1; omega) _⟩
set_option maxHeartbeats 4000000 in
set_option maxRecDepth 100000 in
theorem numSub_walk (N1 D1 N2 D2 RS RT : ByteArray) (K : Int) (w : World) (htab : Tabs w)
    (H : ∀ W, Tabs W → Calls Tryz.prog 44 #[.agg #[.string N1, .string D1], .agg #[.string N2, .string D2], .func (.func 58) #[] #[]] W fun e w' => e = .returned (.tuple #[.agg #[.string RS, .string RT], .int .i64 K]) ∧ Below W.heap.size W w') :
    Calls Tryz.prog 22 #[.agg #[.string N1, .string D1], .agg #[.string N2, .string D2]] w fun e w' => e = .returned (.tuple #[.agg #[.string RS, .string RT], .int .i64 K]) ∧ Below w.heap.size w w' := by
  obtain ⟨W, hW⟩ : ∃ W, W = ((w.alloc (.cells #[.string N1, .string D1] 27)).alloc (.cells #[.string N2, .string D2] 27)).alloc (.cells #[.string ⟨#[]⟩, .string ⟨#[]⟩] 27) := ⟨_, rfl⟩
  have hBW : Below w.heap.size w W := by rw [hW]; exact (((Below.refl _ w).alloc (Nat.le_refl _) _).alloc (by simp) _).alloc (by simp; omega) _
  have hk2 : Blk W (w.heap.size + 1 + 1) 27 #[.string ⟨#[]⟩, .string ⟨#[]⟩] := by
    rw [hW]
    have := Blk.new ((w.alloc (.cells #[.string N1, .string D1] 27)).alloc (.cells #[.string N2, .string D2] 27)) 27 #[.string ⟨#[]⟩, .string ⟨#[]⟩]
    rwa [World.size_alloc, World.size_alloc] at this
  have HT := Lib.hid (H W (htab.low hBW))
  have HW := Lib.hid hW
  have HBW := Lib.hid hBW
  have HK2 := Lib.hid hk2
  have z0 := hk2.lt
  clear hW hBW hk2 htab H
  go_enter Tryz.func22, Tryz.ntmps22
  go_wp2_with fail
  rw [← HW.out]
  refine HT.out.mono ?_
  rintro e w1 ⟨rfl, hB1⟩
  have HB1 := Lib.hid hB1
  have hk := HK2.out.low hB1
  have c0 := hk.cell 0
  have c1 := hk.cell 1
  have f0 := hk.frozen 0
  have f1 := hk.frozen 1
  simp only [List.getElem?_toArray, List.getElem?_cons_zero, List.getElem?_cons_succ] at c0 c1
  clear hk hB1
  go_wp2
  refine bodyPost_ret (v := .tuple #[.agg #[.string RS, .string RT], .int .i64 K]) (by simp [results, Tryz.results22, go_sem, c0, c1]) rfl ?_
  exact ⟨rfl, ((HBW.out.trans (HB1.out.mono HBW.out.size)).setCell (p := ⟨w.heap.size + 1 + 1, 0, none⟩) (by show w.heap.size ≤ w.heap.size + 1 + 1; omega) _).setCell (p := ⟨w.heap.size + 1 + 1, 1, none⟩) (by show w.heap.size ≤ w.heap.size + 1 + 1; omega) _⟩
end Go.Proofs.YtaibpeokfbokfaaGreatDoor

namespace Go.Proofs.YtaibpeokfbokfaaGreatDoor
open Go.RowKit Go.Shelf

/-- what num.one needs where the number is valid -/
structure OneOk (F : Nat) (N1 D1 RS RT : ByteArray) (g1 s : Bool) (m1 d1 M D : Nat) : Prop where
  of1 : ∀ W, Calls Tryz.prog 62 #[.agg #[.string N1, .string D1]] W (FNum g1 m1 d1 W)
  op : ∀ W x1 y1, Nt W x1 m1 → Nt W y1 d1 → Calls Tryz.prog F #[.agg #[.bool g1, x1, y1]] W (FNum s M D W)
  rat : ∀ W v1 v2, Nt W v1 M → Nt W v2 D → Tabs W → Calls Tryz.prog 82 #[.agg #[.bool s, v1, v2]] W fun e w' => e = .returned (.agg #[.string RS, .string RT]) ∧ Below W.heap.size W w'

set_option maxHeartbeats 4000000 in
set_option maxRecDepth 100000 in
theorem one_ok (F : Nat) (eF : ∀ args w, (callFunc F args).run Tryz.prog w = .ok (.enter F args) w) (N1 D1 RS RT : ByteArray) (g1 s : Bool) (m1 d1 M D : Nat) (w : World) (htab : Tabs w)
    (HC1 : Hid (∀ W, Calls Tryz.prog 47 #[.agg #[.string N1, .string D1]] W fun e w' => e = .returned (.int .i64 0) ∧ Below W.heap.size W w'))
    (HOK : Hid (OneOk F N1 D1 RS RT g1 s m1 d1 M D)) :
    Calls Tryz.prog 54 #[.agg #[.string N1, .string D1], .func (.func F) #[] #[]] w fun e w' => e = .returned (.tuple #[.agg #[.string RS, .string RT], .int .i64 0]) ∧ Below w.heap.size w w' := by
  obtain ⟨W, hW⟩ : ∃ W, W = (w.alloc (.cells #[.string N1, .string D1] 27)).alloc (.cells #[.string ⟨#[]⟩, .string ⟨#[]⟩] 27) := ⟨_, rfl⟩
  have hBW : Below w.heap.size w W := by rw [hW]; exact ((Below.refl _ w).alloc (Nat.le_refl _) _).alloc (by simp) _
  have hk0 : Blk W w.heap.size 27 #[.string N1, .string D1] := by rw [hW]; exact (Blk.new w _ _).alloc _
  have hk2 : Blk W (w.heap.size + 1) 27 #[.string ⟨#[]⟩, .string ⟨#[]⟩] := by
    rw [hW]
    have := Blk.new (w.alloc (.cells #[.string N1, .string D1] 27)) 27 #[.string ⟨#[]⟩, .string ⟨#[]⟩]
    rwa [World.size_alloc] at this
  have e0 := hk0.cell 0
  have e1 := hk0.cell 1
  simp only [List.getElem?_toArray, List.getElem?_cons_zero, List.getElem?_cons_succ] at e0 e1
  have z0 := hk2.lt
  have HW := Lib.hid hW
  have HBW := Lib.hid hBW
  have HK2 := Lib.hid hk2
  have HS : Hid (∀ w', Below W.heap.size W w' → w'.cell? ⟨w.heap.size, 0, none⟩ = some (.string N1) ∧ w'.cell? ⟨w.heap.size, 1, none⟩ = some (.string D1)) := Lib.hid fun w' hb =>
    ⟨(hb.cell (p := ⟨w.heap.size, 0, none⟩) (by show w.heap.size < _; omega)).trans e0, (hb.cell (p := ⟨w.heap.size, 1, none⟩) (by show w.heap.size < _; omega)).trans e1⟩
  have HTAB := Lib.hid (htab.low hBW)
  clear hW hBW hk0 hk2 htab
  go_enter Tryz.func54, Tryz.ntmps54
  go_wp2_with fail
  rw [← HW.out]
  refine (HC1.out _).mono ?_
  rintro e w1 ⟨rfl, hB1⟩
  obtain ⟨p0, p1⟩ := HS.out w1 hB1
  have HB1 := Lib.hid hB1
  clear hB1 e0 e1
  go_wp2_with fail
  refine (HOK.out.of1 _).mono ?_
  rintro e w3 ⟨v1, v2, rfl, hN1, hN2, hB3⟩
  have HN1 := Lib.hid hN1
  have HN2 := Lib.hid hN2
  have HC3 : Hid (Below W.heap.size W w3) := Lib.hid (HB1.out.trans (hB3.mono HB1.out.size))
  clear hN1 hN2 hB3 p0 p1
  go_wp2_with fail
  refine (HOK.out.op _ _ _ HN1.out HN2.out).mono ?_
  rintro e w5 ⟨v5, v6, rfl, hR1, hR2, hB5⟩
  have HC5 : Hid (Below W.heap.size W w5) := Lib.hid (HC3.out.trans (hB5.mono HC3.out.size))
  have HR := Lib.hid (HOK.out.rat _ _ _ hR1 hR2 (HTAB.out.low HC5.out))
  clear hR1 hR2 hB5
  go_wp2_with fail
  refine HR.out.mono ?_
  rintro e w6 ⟨rfl, hB6⟩
  have HBL : Hid (Below W.heap.size W w6) := Lib.hid (HC5.out.trans (hB6.mono HC5.out.size))
  clear hB6
  have hk := HK2.out.low HBL.out
  have c0 := hk.cell 0
  have c1 := hk.cell 1
  have f0 := hk.frozen 0
  have f1 := hk.frozen 1
  simp only [List.getElem?_toArray, List.getElem?_cons_zero, List.getElem?_cons_succ] at c0 c1
  clear hk
  go_wp2
  refine bodyPost_ret (v := .tuple #[.agg #[.string RS, .string RT], .int .i64 0]) (by simp [results, Tryz.results54, go_sem, c0, c1]) rfl ?_
  exact ⟨rfl, ((HBW.out.trans (HBL.out.mono HBW.out.size)).setCell (p := ⟨w.heap.size + 1, 0, none⟩) (by show w.heap.size ≤ w.heap.size + 1; omega) _).setCell (p := ⟨w.heap.size + 1, 1, none⟩) (by show w.heap.size ≤ w.heap.size + 1; omega) _⟩
set_option maxHeartbeats 4000000 in
set_option maxRecDepth 100000 in
theorem one_fault (F : Nat) (N1 D1 : ByteArray) (K : Int) (w : World) (hK : K ≠ 0)
    (HC1 : Hid (∀ W, Calls Tryz.prog 47 #[.agg #[.string N1, .string D1]] W fun e w' => e = .returned (.int .i64 K) ∧ Below W.heap.size W w')) :
    Calls Tryz.prog 54 #[.agg #[.string N1, .string D1], .func (.func F) #[] #[]] w fun e w' => e = .returned (.tuple #[.agg #[.string ⟨#[]⟩, .string ⟨#[]⟩], .int .i64 K]) ∧ Below w.heap.size w w' := by
  obtain ⟨W, hW⟩ : ∃ W, W = (w.alloc (.cells #[.string N1, .string D1] 27)).alloc (.cells #[.string ⟨#[]⟩, .string ⟨#[]⟩] 27) := ⟨_, rfl⟩
  have hBW : Below w.heap.size w W := by rw [hW]; exact ((Below.refl _ w).alloc (Nat.le_refl _) _).alloc (by simp) _
  have hk0 : Blk W w.heap.size 27 #[.string N1, .string D1] := by rw [hW]; exact (Blk.new w _ _).alloc _
  have hk2 : Blk W (w.heap.size + 1) 27 #[.string ⟨#[]⟩, .string ⟨#[]⟩] := by
    rw [hW]
    have := Blk.new (w.alloc (.cells #[.string N1, .string D1] 27)) 27 #[.string ⟨#[]⟩, .string ⟨#[]⟩]
    rwa [World.size_alloc] at this
  have e0 := hk0.cell 0
  have e1 := hk0.cell 1
  simp only [List.getElem?_toArray, List.getElem?_cons_zero, List.getElem?_cons_succ] at e0 e1
  have z0 := hk2.lt
  have HW := Lib.hid hW
  have HBW := Lib.hid hBW
  have HK2 := Lib.hid hk2
  have HS : Hid (∀ w', Below W.heap.size W w' → w'.cell? ⟨w.heap.size, 0, none⟩ = some (.string N1) ∧ w'.cell? ⟨w.heap.size, 1, none⟩ = some (.string D1)) := Lib.hid fun w' hb =>
    ⟨(hb.cell (p := ⟨w.heap.size, 0, none⟩) (by show w.heap.size < _; omega)).trans e0, (hb.cell (p := ⟨w.heap.size, 1, none⟩) (by show w.heap.size < _; omega)).trans e1⟩
  clear hW hBW hk0 hk2
  go_enter Tryz.func54, Tryz.ntmps54
  go_wp2_with fail
  rw [← HW.out]
  refine (HC1.out _).mono ?_
  rintro e w1 ⟨rfl, hB1⟩
  have HBL := Lib.hid hB1
  have hk := HK2.out.low hB1
  clear hB1
  have c0 := hk.cell 0
  have c1 := hk.cell 1
  have f0 := hk.frozen 0
  have f1 := hk.frozen 1
  simp only [List.getElem?_toArray, List.getElem?_cons_zero, List.getElem?_cons_succ] at c0 c1
  clear hk
  go_wp2
  refine bodyPost_ret (v := .tuple #[.agg #[.string ⟨#[]⟩, .string ⟨#[]⟩], .int .i64 K]) (by simp [results, Tryz.results54, go_sem, c0, c1]) rfl ?_
  exact ⟨rfl, ((HBW.out.trans (HBL.out.mono HBW.out.size)).setCell (p := ⟨w.heap.size + 1, 0, none⟩) (by show w.heap.size ≤ w.heap.size + 1; omega) _).setCell (p := ⟨w.heap.size + 1, 1, none⟩) (by show w.heap.size ≤ w.heap.size + 1; omega) _⟩
set_option maxHeartbeats 4000000 in
set_option maxRecDepth 100000 in
theorem numNeg_walk (N1 D1 RS RT : ByteArray) (K : Int) (w : World) (htab : Tabs w)
    (H : ∀ W, Tabs W → Calls Tryz.prog 54 #[.agg #[.string N1, .string D1], .func (.func 61) #[] #[]] W fun e w' => e = .returned (.tuple #[.agg #[.string RS, .string RT], .int .i64 K]) ∧ Below W.heap.size W w') :
    Calls Tryz.prog 25 #[.agg #[.string N1, .string D1]] w fun e w' => e = .returned (.tuple #[.agg #[.string RS, .string RT], .int .i64 K]) ∧ Below w.heap.size w w' := by
  obtain ⟨W, hW⟩ : ∃ W, W = (w.alloc (.cells #[.string N1, .string D1] 27)).alloc (.cells #[.string ⟨#[]⟩, .string ⟨#[]⟩] 27) := ⟨_, rfl⟩
  have hBW : Below w.heap.size w W := by rw [hW]; exact ((Below.refl _ w).alloc (Nat.le_refl _) _).alloc (by simp) _
  have hk0 : Blk W w.heap.size 27 #[.string N1, .string D1] := by rw [hW]; exact (Blk.new w _ _).alloc _
  have hk2 : Blk W (w.heap.size + 1) 27 #[.string ⟨#[]⟩, .string ⟨#[]⟩] := by
    rw [hW]
    have := Blk.new (w.alloc (.cells #[.string N1, .string D1] 27)) 27 #[.string ⟨#[]⟩, .string ⟨#[]⟩]
    rwa [World.size_alloc] at this
  have e0 := hk0.cell 0
  have e1 := hk0.cell 1
  simp only [List.getElem?_toArray, List.getElem?_cons_zero, List.getElem?_cons_succ] at e0 e1
  have z0 := hk2.lt
  have HW := Lib.hid hW
  have HBW := Lib.hid hBW
  have HK2 := Lib.hid hk2
  have HS : Hid (∀ w', Below W.heap.size W w' → w'.cell? ⟨w.heap.size, 0, none⟩ = some (.string N1) ∧ w'.cell? ⟨w.heap.size, 1, none⟩ = some (.string D1)) := Lib.hid fun w' hb =>
    ⟨(hb.cell (p := ⟨w.heap.size, 0, none⟩) (by show w.heap.size < _; omega)).trans e0, (hb.cell (p := ⟨w.heap.size, 1, none⟩) (by show w.heap.size < _; omega)).trans e1⟩
  have HT := Lib.hid (H W (htab.low hBW))
  clear hW hBW hk0 hk2 htab H
  go_enter Tryz.func25, Tryz.ntmps25
  go_wp2_with fail
  rw [← HW.out]
  refine HT.out.mono ?_
  rintro e w1 ⟨rfl, hB1⟩
  have HBL := Lib.hid hB1
  have hk := HK2.out.low hB1
  clear hB1
  have c0 := hk.cell 0
  have c1 := hk.cell 1
  have f0 := hk.frozen 0
  have f1 := hk.frozen 1
  simp only [List.getElem?_toArray, List.getElem?_cons_zero, List.getElem?_cons_succ] at c0 c1
  clear hk
  go_wp2
  refine bodyPost_ret (v := .tuple #[.agg #[.string RS, .string RT], .int .i64 K]) (by simp [results, Tryz.results25, go_sem, c0, c1]) rfl ?_
  exact ⟨rfl, ((HBW.out.trans (HBL.out.mono HBW.out.size)).setCell (p := ⟨w.heap.size + 1, 0, none⟩) (by show w.heap.size ≤ w.heap.size + 1; omega) _).setCell (p := ⟨w.heap.size + 1, 1, none⟩) (by show w.heap.size ≤ w.heap.size + 1; omega) _⟩
end Go.Proofs.YtaibpeokfbokfaaGreatDoor
