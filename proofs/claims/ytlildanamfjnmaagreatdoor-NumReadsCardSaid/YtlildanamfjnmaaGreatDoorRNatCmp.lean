/-
  natCmp of the reference.
-/
import Derived.Test.YtlildanamfjnmaaGreatDoorRBase
import Derived.Deep.QuietTactic
import Derived.BigQuiet
namespace Go.Proofs.YtlildanamfjnmaaGreatDoor
open Go.RowKit

/-- the sign of a comparison -/
def RCmp (m n : Nat) (w : World) (e : Ending) (w' : World) : Prop :=
  ∃ z : Int, e = .returned (.int .i64 z) ∧ ((z < 0 ∧ m < n) ∨ (z = 0 ∧ m = n) ∨ (0 < z ∧ n < m)) ∧ ∃ k, w' = w.drewN k

set_option maxHeartbeats 1000000 in
set_option maxRecDepth 100000 in
theorem rcmp_list (la lb : List Nat) (m n : Nat) (hab : la = lb → m = n) (hlt : la.length < lb.length → m < n) (hgt : lb.length < la.length → n < m)
    (hld : ∀ q, q < la.length → q < lb.length → la.drop (q + 1) = lb.drop (q + 1) → la[q]?.getD 0 < lb[q]?.getD 0 → m < n)
    (hgd : ∀ q, q < la.length → q < lb.length → la.drop (q + 1) = lb.drop (q + 1) → lb[q]?.getD 0 < la[q]?.getD 0 → n < m)
    (hxa : ∀ d ∈ la, d < 10000) (hxb : ∀ d ∈ lb, d < 10000) (va vb : Value) (w : World) (ha : Sl w va (n64s la)) (hb : Sl w vb (n64s lb)) (_hs : la.length ≤ 1000000000000) (_ht : lb.length ≤ 1000000000000) :
    Calls Tryz.prog 84 #[va, vb] w (RCmp m n w) := by
  obtain ⟨A, c, rfl, h1, h2, h3⟩ := ha
  obtain ⟨A', c', rfl, h1', h2', h3'⟩ := hb
  simp only [n64s_length] at *
  have HXA := Lib.hid hxa
  have HXB := Lib.hid hxb
  clear hxa hxb
  have HAB := Lib.hid hab
  have HLT := Lib.hid hlt
  have HGT := Lib.hid hgt
  have HLD := Lib.hid hld
  have HGD := Lib.hid hgd
  clear hab hlt hgt hld hgd
  have H3 := Lib.hid h3
  have H3' := Lib.hid h3'
  clear h3 h3'
  by_cases hl : la.length = lb.length
  · have hl0 : ((la.length : Int) != lb.length) = false := by rw [hl]; simp
    have HL := Lib.hid hl
    clear hl
    go_enter Tryz.func84, Tryz.ntmps84
    go_wp2
    go_loopw [5] (fun a5 wr => ∃ (i : Int) (nd : Nat), a5 = .int .i64 i ∧ -1 ≤ i ∧ i < la.length ∧ la.drop (i + 1).toNat = lb.drop (i + 1).toNat ∧ wr = w.drewN nd) (fun a5 _ => (intOf a5 + 1).toNat)
    case atStart => exact ⟨(la.length : Int) - 1, 0, rfl, by omega, by omega, by rw [show ((la.length : Int) - 1 + 1).toNat = la.length by omega, List.drop_length, HL.out, List.drop_length], rfl⟩
    case round =>
      obtain ⟨i, nd, rfl, hk1, hk2, hd, rfl⟩ := hrel
      have HD := Lib.hid hd
      clear hd
      by_cases h0 : i < 0
      · go_wp2
        go_ret
        exact ⟨0, rfl, Or.inr (Or.inl ⟨rfl, HAB.out (by have := HD.out; rw [show (i + 1).toNat = 0 by omega] at this; exact this)⟩), nd, rfl⟩
      · obtain ⟨q, rfl⟩ : ∃ q : Nat, i = q := ⟨i.toNat, by omega⟩
        have b1 := Mth.getD_lt (by omega) HXA.out q
        have b2 := Mth.getD_lt (by omega) HXB.out q
        have hq' : q < lb.length := by have := HL.out; omega
        obtain ⟨b, o, rfl, hc⟩ := H3.out (by omega)
        obtain ⟨b', o', rfl, hc'⟩ := H3'.out (by omega)
        have g1 := hc q _ (n64s_at (by omega))
        have g2 := hc' q _ (n64s_at hq')
        clear hc hc'
        have hq2 : (q : Int) < (lb.length : Int) := by omega
        have HQ := Lib.hid hq'
        clear hq'
        obtain ⟨x, hx⟩ : ∃ x, la[q]?.getD 0 = x := ⟨_, rfl⟩
        obtain ⟨y, hy⟩ : ∃ y, lb[q]?.getD 0 = y := ⟨_, rfl⟩
        rw [hx] at g1 b1
        rw [hy] at g2 b2
        have HX := Lib.hid hx
        have HY := Lib.hid hy
        clear hx hy
        by_cases hz : x = y
        · subst hz
          go_wp2
          go_quiet (fail)
          go_wp2
          go_roundw
          case rel =>
            refine ⟨(q : Int) - 1, _, rfl, by omega, by omega, ?_, rfl⟩
            rw [show ((q : Int) - 1 + 1).toNat = q by omega]
            have h6 := HD.out
            have h7 := HQ.out
            rw [show ((q : Int) + 1).toNat = q + 1 by omega] at h6
            rw [List.drop_eq_getElem_cons (show q < la.length by omega), List.drop_eq_getElem_cons h7, h6]
            have h8 := HX.out
            have h9 := HY.out
            rw [List.getElem?_eq_getElem (by omega)] at h8
            rw [List.getElem?_eq_getElem h7] at h9
            simp only [Option.getD_some] at h8 h9
            rw [h8, h9]
          case measure => simp [intOf]
        · have hne : ((x : Int) != (y : Int)) = true := by simp; omega
          go_wp2
          go_quiet (fail)
          go_wp2
          go_quiet (fail)
          go_wp2
          go_ret
          refine ⟨(x : Int) - y, rfl, ?_, _, by rw [World.drewN_drewN, World.drewN_drewN]⟩
          have h6 := HD.out
          rw [show ((q : Int) + 1).toNat = q + 1 by omega] at h6
          rcases Nat.lt_or_ge x y with h5 | h5
          · exact Or.inl ⟨by omega, HLD.out q (by omega) HQ.out h6 (by rw [HX.out, HY.out]; exact h5)⟩
          · exact Or.inr (Or.inr ⟨by omega, HGD.out q (by omega) HQ.out h6 (by rw [HX.out, HY.out]; omega)⟩)
  · have hl0 : ((la.length : Int) != lb.length) = true := by simp; omega
    go_enter Tryz.func84, Tryz.ntmps84
    go_wp2
    go_ret
    refine ⟨(la.length : Int) - lb.length, rfl, ?_, 0, rfl⟩
    rcases Nat.lt_or_ge la.length lb.length with h5 | h5
    · exact Or.inl ⟨by omega, HLT.out h5⟩
    · exact Or.inr (Or.inr ⟨by omega, HGT.out (by omega)⟩)

/-- natCmp compares the numbers. -/
theorem rcmp_any (m n : Nat) (va vb : Value) (w : World) (ha : Pt w va m) (hb : Pt w vb n) (hs : (Mth.dg 10000 m).length ≤ 1000000000000) (ht : (Mth.dg 10000 n).length ≤ 1000000000000) :
    Calls Tryz.prog 84 #[va, vb] w (RCmp m n w) :=
  rcmp_list (Mth.dg 10000 m) (Mth.dg 10000 n) m n (Mth.dg_inj (by omega)) (Mth.lt_of_len (by omega)) (Mth.lt_of_len (by omega))
    (fun q h1 h2 h3 h4 => by
      have := Mth.val_lt_of (b := 10000) (by omega) h1 h2 h3 (Mth.dg_lt (by omega) m) h4
      rwa [Mth.val_dg (by omega), Mth.val_dg (by omega)] at this)
    (fun q h1 h2 h3 h4 => by
      have := Mth.val_lt_of (b := 10000) (by omega) h2 h1 h3.symm (Mth.dg_lt (by omega) n) h4
      rwa [Mth.val_dg (by omega), Mth.val_dg (by omega)] at this) (Mth.dg_lt (by omega) m) (Mth.dg_lt (by omega) n) va vb w ha hb hs ht
end Go.Proofs.YtlildanamfjnmaaGreatDoor
