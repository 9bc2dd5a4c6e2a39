/-
  natGCD of the reference.
-/
import Derived.Test.YtlildanamfjnmaaGreatDoorRDivB
import Derived.Deep.LoopGhost
namespace Go.Proofs.YtlildanamfjnmaaGreatDoor
open Go.RowKit

/-- a number, and nothing below the call's own has turned -/
def RNat (m : Nat) (w : World) (e : Ending) (w' : World) : Prop := ∃ v, e = .returned v ∧ Below w.heap.size w w' ∧ Pt w' v m

set_option maxHeartbeats 2000000 in
set_option maxRecDepth 100000 in
theorem rgcd_any (m n : Nat) (va vb : Value) (w : World) (ha : Pt w va m) (hb : Pt w vb n) (hs : (Mth.dg 10000 m).length ≤ 100000000) (ht : (Mth.dg 10000 n).length ≤ 100000000) :
    Calls Tryz.prog 68 #[va, vb] w (RNat (Nat.gcd m n) w) := by
  have HA := Lib.hid ha
  have HB := Lib.hid hb
  clear ha hb
  go_enter Tryz.func68, Tryz.ntmps68
  go_wp2
  go_loopg [0, 1] n (fun k a0 a1 wr => ∃ x : Nat, Pt wr a0 x ∧ Pt wr a1 k ∧ Nat.gcd x k = Nat.gcd m n ∧ (Mth.dg 10000 x).length ≤ 100000000 ∧ (Mth.dg 10000 k).length ≤ 100000000 ∧ Below w.heap.size w wr)
  case atStart => exact ⟨m, HA.out, HB.out, rfl, hs, ht, Below.refl _ _⟩
  case round =>
    obtain ⟨x, hx, hy, hg, hlx, hly, hB⟩ := hrel
    have HX := Lib.hid hx
    have HY := Lib.hid hy
    have HG := Lib.hid hg
    have hBs := hB.size
    obtain ⟨A, c, rfl, h1, h2, h3⟩ := hx
    obtain ⟨A', c', rfl, h1', h2', h3'⟩ := hy
    have HX2 : Hid (Pt wr (.slice A (Mth.dg 10000 x).length c) x) := Lib.hid (by have := HX.out; rwa [n64s_length] at this)
    have HY2 : Hid (Pt wr (.slice A' (Mth.dg 10000 gk).length c') gk) := Lib.hid (by have := HY.out; rwa [n64s_length] at this)
    rw [n64s_length, n64s_length]
    clear h3 h3' hg HX HY h1 h2 h1' h2'
    obtain ⟨ly, hly'⟩ : ∃ ly, (Mth.dg 10000 gk).length = ly := ⟨_, rfl⟩
    obtain ⟨lx, hlx'⟩ : ∃ lx, (Mth.dg 10000 x).length = lx := ⟨_, rfl⟩
    by_cases hk0 : gk = 0
    · have hl0 : ly = 0 := by rw [← hly', hk0, Mth.dg_zero]; rfl
      have HGX : Hid (Nat.gcd m n = x) := Lib.hid (by rw [← HG.out, hk0, Nat.gcd_zero_right])
      rw [hly', hl0]
      clear hly' hl0 hlx' hk0 HY2
      go_wp2
      go_ret
      exact ⟨_, rfl, hB, by rw [HGX.out]; exact HX2.out⟩
    · have hl1 : 0 < ly := by rw [← hly']; exact List.length_pos_iff.2 (Mth.dg_ne_nil (b := 10000) (n := gk) (by omega) (by omega))
      have hl2 : (0 : Int) < (ly : Int) := by omega
      have hdiv := rdiv_any x gk _ _ wr HX2.out HY2.out hlx hly (by omega)
      have HM1 := Lib.hid (Mth.dg_len_mono (b := 10000) (by omega) (Nat.le_of_lt (Nat.mod_lt x (by omega : 0 < gk))))
      have HSTEP : Hid (Nat.gcd gk (x % gk) = Nat.gcd m n) := Lib.hid (by rw [← HG.out, Nat.gcd_comm gk, ← Nat.gcd_rec, Nat.gcd_comm])
      have HLY := Lib.hid hly
      have HK0 := Lib.hid hk0
      rw [hly', hlx'] at hdiv
      have HY3 := HY2.out
      rw [hly'] at HY3
      rw [hly', hlx']
      have HY4 := Lib.hid HY3
      have HDIV := Lib.hid hdiv
      have HLYE := Lib.hid hly'
      clear hdiv HY3 hly' hlx' hk0 hly hlx HY2 HX2
      go_wp2_with fail
      refine HDIV.out.mono ?_
      rintro e w2 ⟨q, r, rfl, hB2, hq, hr⟩
      have HR := Lib.hid hr
      have HY5 := Lib.hid (HY4.out.below hB2)
      have HB2 := Lib.hid (hB.trans (hB2.mono hBs))
      obtain ⟨A2, k2, c2, rfl⟩ := hq.shape
      obtain ⟨A3, k3, c3, rfl⟩ := hr.shape
      clear hq hr hB2
      go_wp2
      go_roundg (x % gk)
      case rel => exact ⟨gk, HY5.out, HR.out, HSTEP.out, HLY.out, by have := HM1.out; have := HLY.out; omega, HB2.out⟩
      case measure => exact Nat.mod_lt x (by have := HK0.out; omega)
end Go.Proofs.YtlildanamfjnmaaGreatDoor
