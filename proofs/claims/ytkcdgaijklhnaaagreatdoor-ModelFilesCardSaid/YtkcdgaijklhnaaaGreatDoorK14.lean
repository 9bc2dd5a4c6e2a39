/-
  nat.Gcd: the greatest common divisor.
-/
import Derived.Test.YtkcdgaijklhnaaaGreatDoorK12
import Derived.Test.YtkcdgaijklhnaaaGreatDoorK13
import Derived.Deep.LoopGhost
namespace Go.Proofs.YtkcdgaijklhnaaaGreatDoor
open Go.RowKit
set_option maxHeartbeats 4000000 in
set_option maxRecDepth 100000 in
theorem gcd_any (m n : Nat) (va vb : Value) (w : World) (ha : Nt w va m) (hb : Nt w vb n) (hs : (Mth.dg 1000000000 m).length ≤ 100000000000) (ht : (Mth.dg 1000000000 n).length ≤ 100000000000) :
  Calls Tryz.prog 145 #[va, vb] w fun e w' => ∃ v, e = .returned v ∧ Below w.heap.size w w' ∧ Nt w' v (Nat.gcd m n) := by
 have HA := Lib.hid ha
 have HB := Lib.hid hb
 clear ha hb
 go_enter Tryz.func145, Tryz.ntmps145
 go_wp2
 go_loopg [0, 1] n (fun k a0 a1 wr => ∃ x : Nat, Nt wr a0 x ∧ Nt wr a1 k ∧ Nat.gcd x k = Nat.gcd m n ∧ (Mth.dg 1000000000 x).length ≤ 100000000000 ∧ (Mth.dg 1000000000 k).length ≤ 100000000000 ∧ Below w.heap.size w wr)
 case atStart => exact ⟨m, HA.out, HB.out, rfl, hs, ht, Below.refl _ _⟩
 case round =>
  obtain ⟨x, hx, hy, hg, hlx, hly, hB⟩ := hrel
  have HX := Lib.hid hx
  have HY := Lib.hid hy
  have HG := Lib.hid hg
  have hBs := hB.size
  obtain ⟨A, c, rfl, h1, h2, h3⟩ := hx
  obtain ⟨A', c', rfl, h1', h2', h3'⟩ := hy
  simp only [u32s_length] at h1 h1'
  have HX2 : Hid (Nt wr (.slice A (Mth.dg 1000000000 x).length c) x) := Lib.hid (by have := HX.out; rwa [u32s_length] at this)
  have HY2 : Hid (Nt wr (.slice A' (Mth.dg 1000000000 gk).length c') gk) := Lib.hid (by have := HY.out; rwa [u32s_length] at this)
  rw [u32s_length, u32s_length]
  clear h3 h3' hg HX HY
  by_cases hbig : 2 < (Mth.dg 1000000000 x).length ∨ 2 < (Mth.dg 1000000000 gk).length
  ·by_cases hk0 : gk = 0
   ·have hl0 : (Mth.dg 1000000000 gk).length = 0 := by rw [hk0, Mth.dg_zero]; rfl
    have hb1 : 2 < (Mth.dg 1000000000 x).length := by omega
    have hgx : Nat.gcd m n = x := by rw [← HG.out, hk0, Nat.gcd_zero_right]
    rw [hl0]
    obtain ⟨lx, hlx'⟩ : ∃ lx, (Mth.dg 1000000000 x).length = lx := ⟨_, rfl⟩
    have HX3 := HX2.out
    rw [hlx'] at HX3 hb1 hlx h1
    rw [hlx']
    have HX4 := Lib.hid HX3
    have hb2 : (2 : Int) < (lx : Int) := by omega
    have hb3 : decide ((2 : Int) < (lx : Int)) = true := by simp; omega
    have HLX := Lib.hid hlx'
    have HGX := Lib.hid hgx
    clear hbig hk0 hl0 HX3 HX2 HY2 hlx' hgx
    go_wp2_with (go_at_call 179; refine (clone_any (Mth.dg 1000000000 x) _ _ HX4.out (by rw [HLX.out]; omega)).mono ?_; rintro e w2 ⟨v', rfl, hB2, hS⟩)
    go_ret
    exact ⟨_, rfl, hB.trans (hB2.mono hBs), by rw [HGX.out]; exact hS⟩
   ·have hne := Mth.dg_ne_nil (b := 1000000000) (n := gk) (by omega) (by omega)
    have hl1 : 0 < (Mth.dg 1000000000 gk).length := List.length_pos_iff.2 hne
    have hdiv := div_any x gk _ _ wr HX2.out HY2.out hlx hly (by omega)
    have hm1 := Mth.dg_len_mono (b := 1000000000) (by omega) (Nat.le_of_lt (Nat.mod_lt x (by omega : 0 < gk)))
    have hstep : Nat.gcd gk (x % gk) = Nat.gcd m n := by rw [← HG.out, Nat.gcd_comm gk, ← Nat.gcd_rec, Nat.gcd_comm]
    obtain ⟨lx, hlx'⟩ : ∃ lx, (Mth.dg 1000000000 x).length = lx := ⟨_, rfl⟩
    obtain ⟨ly, hly'⟩ : ∃ ly, (Mth.dg 1000000000 gk).length = ly := ⟨_, rfl⟩
    have HY3 := HY2.out
    rw [hlx'] at hdiv hbig hlx h1
    rw [hly'] at hdiv hbig hly h1' hl1 HY3 hm1
    rw [hlx', hly']
    have hz : ((ly : Int) == 0) = false := by simpa using (by omega : ¬ (ly : Int) = 0)
    have HD := Lib.hid hdiv
    have HM1 := Lib.hid hm1
    have HST := Lib.hid hstep
    have HY4 := Lib.hid HY3
    have hgk : x % gk < gk := Nat.mod_lt _ (by omega)
    have HGK := Lib.hid hgk
    have HLY := Lib.hid hly'
    clear hne hdiv hm1 hstep HY3 HX2 HY2 hlx' hly' hgk hk0
    have hcase : (2 < lx) ∨ (lx ≤ 2 ∧ 2 < ly) := by omega
    clear hbig
    rcases hcase with hc | ⟨hc, hc'⟩
    ·have hb3 : decide ((2 : Int) < (lx : Int)) = true := by simp; omega
     go_wp2_with (go_at_call 180; refine HD.out.mono ?_; rintro e w2 ⟨vq, vr, rfl, hB2, hN1, hN2⟩; have HN2 := Lib.hid hN2; have HB2 := Lib.hid hB2; clear hN1 hN2 hB2)
     go_roundg (x % gk)
     case measure => exact HGK.out
     case rel => exact ⟨gk, HY4.out.below HB2.out, HN2.out, HST.out, by rw [HLY.out]; exact hly, by have := HM1.out; omega, hB.trans (HB2.out.mono hBs)⟩
    ·have hb3 : decide ((2 : Int) < (lx : Int)) = false := by simp; omega
     have hb4 : decide ((2 : Int) < (ly : Int)) = true := by simp; omega
     go_wp2_with (go_at_call 180; refine HD.out.mono ?_; rintro e w2 ⟨vq, vr, rfl, hB2, hN1, hN2⟩; have HN2 := Lib.hid hN2; have HB2 := Lib.hid hB2; clear hN1 hN2 hB2)
     go_roundg (x % gk)
     case measure => exact HGK.out
     case rel => exact ⟨gk, HY4.out.below HB2.out, HN2.out, HST.out, by rw [HLY.out]; exact hly, by have := HM1.out; omega, hB.trans (HB2.out.mono hBs)⟩
  ·have hl1 : (Mth.dg 1000000000 x).length ≤ 2 := by omega
   have hl2 : (Mth.dg 1000000000 gk).length ≤ 2 := by omega
   have hx9 : x < 1000000000000000000 := by
    have := Mth.lt_pow_dg (b := 1000000000) (by omega) x
    have h2 : (1000000000 : Nat) ^ (Mth.dg 1000000000 x).length ≤ 1000000000 ^ 2 := Nat.pow_le_pow_right (by omega) hl1
    omega
   have hy9 : gk < 1000000000000000000 := by
    have := Mth.lt_pow_dg (b := 1000000000) (by omega) gk
    have h2 : (1000000000 : Nat) ^ (Mth.dg 1000000000 gk).length ≤ 1000000000 ^ 2 := Nat.pow_le_pow_right (by omega) hl2
    omega
   have hw1 := wide_any x _ wr HX2.out hl1
   have HW1 := Lib.hid hw1
   have HX9 := Lib.hid hx9
   have HY9 := Lib.hid hy9
   have hb3 : decide ((2 : Int) < ((Mth.dg 1000000000 x).length : Int)) = false := by simp; omega
   have hb4 : decide ((2 : Int) < ((Mth.dg 1000000000 gk).length : Int)) = false := by simp; omega
   have HL2 := Lib.hid hl2
   clear hbig hx9 hy9 hw1 hl1 hl2 hlx hly HX2
   go_wp2_with fail
   refine HW1.out.mono ?_
   rintro e w1 ⟨rfl, hB1⟩
   have hw2 := wide_any gk _ w1 (HY2.out.below hB1) HL2.out
   have HW2 := Lib.hid hw2
   clear hw2
   go_wp2_with fail
   refine HW2.out.mono ?_
   rintro e w2 ⟨rfl, hB2⟩
   have hB3 : Below w.heap.size w w2 := (hB.trans (hB1.mono hBs)).trans (hB2.mono (Nat.le_trans hBs hB1.size))
   clear hb3 hb4 h1 h1' h2 h2'
   go_wp2
   go_loopw [7, 8] (fun a7 a8 wi => ∃ (p q : Nat), a7 = .int .u64 p ∧ a8 = .int .u64 q ∧ p < 1000000000000000000 ∧ q < 1000000000000000000 ∧ Nat.gcd p q = Nat.gcd m n ∧ Below w.heap.size w wi) (fun _ a8 _ => (intOf a8).toNat)
   case atStart => exact ⟨x, gk, rfl, rfl, HX9.out, HY9.out, HG.out, hB3⟩
   case round =>
    obtain ⟨p, q, rfl, rfl, hp, hq, hpq, hBi⟩ := hrel
    have HP := Lib.hid hp
    have HQ := Lib.hid hq
    have HPQ := Lib.hid hpq
    clear hpq
    have hp9 : (p : Int) < 1000000000000000000 := by omega
    have hq9 : (q : Int) < 1000000000000000000 := by omega
    clear hp hq
    by_cases h0 : q = 0
    ·subst h0
     have hof := of_any p wr (by have := HP.out; omega)
     have HOF := Lib.hid hof
     clear hof
     go_wp2_with (go_at_call 182; refine HOF.out.mono ?_; rintro e w3 ⟨v3, rfl, hN, hB4⟩)
     go_ret
     have := HPQ.out
     rw [Nat.gcd_zero_right] at this
     exact ⟨_, rfl, hBi.trans (hB4.mono hBi.size), by rw [← this]; exact hN⟩
    ·have hz : ((q : Int) == 0) = false := by simpa using (by omega : ¬ (q : Int) = 0)
     have hz2 : ((q : Int) != 0) = true := by simpa using (by omega : ¬ (q : Int) = 0)
     have hml : p % q < q := Nat.mod_lt _ (by omega)
     have em : (p : Int) % (q : Int) = ((p % q : Nat) : Int) := by rw [Int.natCast_emod]
     have EM := Lib.hid em
     have HML := Lib.hid hml
     clear em hml
     go_wp2
     go_quiet (fail)
     go_wp2
     go_roundw
     case rel => exact ⟨q, p % q, rfl, by rw [EM.out], HQ.out, by have := HML.out; have := HQ.out; omega, by rw [← HPQ.out, Nat.gcd_comm q, ← Nat.gcd_rec, Nat.gcd_comm], below_drewN hBi _⟩
     case measure => rw [EM.out]; simp [intOf]; exact HML.out
end Go.Proofs.YtkcdgaijklhnaaaGreatDoor
