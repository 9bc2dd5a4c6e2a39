/-
  slices.Grow (of nil) and slices.Concat, for whole numbers.
-/
import Derived.Test.YtneabpgphjcbkaaGreatDoorCat
import Derived.Test.YtneabpgphjcbkaaGreatDoorClone
namespace Go.Proofs.YtneabpgphjcbkaaGreatDoor
open Go.RowKit


set_option maxHeartbeats 1000000 in
set_option maxRecDepth 100000 in
theorem grow_int (n : Nat) (w : World) (hn : n ≤ 1000000) :
    Calls Tryz.prog 59 #[.slice none 0 0, .int .i64 (n : Int)] w fun e w' => ∃ v', e = .returned v' ∧ Below w.heap.size w w' ∧ ∀ C, Ow 1 EInt 3 w' C w.heap.size v' [] := by
  obtain ⟨i, z, hi, hz, h1, h2, h3, h4⟩ := inf_int
  rcases Nat.eq_zero_or_pos n with rfl | h0
  · go_enter Tryz.func59, Tryz.ntmps59
    go_wp2
    go_ret
    exact ⟨_, rfl, Below.refl _ _, fun C => Ow.nil _ _ _ _ _ _⟩
  · have hn2 : (n : Int) ≤ 1000000 := by omega
    have hn3 : (0 : Int) < (n : Int) := by omega
    have hrun := fun ty => Lib.run_append_nil_zeros (P := Tryz.prog) w 22 3 ty 3 i z .i64 .i64 Tryz.underlying22 Tryz.underlying3 hi hz n h0 (by rw [h1]; decide) (by omega) (Nat.le_trans (Nat.mul_le_mul hn (by rw [h2]; exact h4)) (by decide))
    obtain ⟨G, hG⟩ : ∃ G, G = grownCap w n 0 3 := ⟨_, rfl⟩
    have hGn : n ≤ G := by rw [hG]; exact grownCap_ge w _ _ _
    have hG63 : G ≤ maxLen := by rw [hG]; exact grownCap_le_maxLen w n 0 3 (by unfold maxLen; omega)
    rw [← hG] at hrun
    obtain ⟨Z, hZ⟩ : ∃ Z, Z = Builtin.zeroCells z.cells n ++ Builtin.zeroCells z.cells (G - n) := ⟨_, rfl⟩
    have hZl : Z.size = G * 1 := by rw [hZ, Array.size_append, size_zeroCells, size_zeroCells, h3, ← Nat.add_mul]; congr 1; omega
    rw [← hZ] at hrun
    have HR := Lib.hid hrun
    have HZL := Lib.hid hZl
    have HG := Lib.hid hG63
    have HGN := Lib.hid hGn
    clear hrun hZ hG hZl hi hz h1 h2 h3 hG63
    go_enter Tryz.func59, Tryz.ntmps59
    go_wp2_with (at_builtin; refine Lib.wpList_append_run _ rfl _ _ _ _ rfl _ _ rfl rfl _ _ (HR.out _) ?_)
    go_ret
    refine ⟨_, rfl, (Below.refl _ w).drew.alloc (Nat.le_refl _) _, fun C => Ow.of_row (cur := Z) (cs := []) (Nat.le_refl _) (by show Bk _ _ _ _; exact Bk.new w.drew _ _) (Nat.zero_le _) HG.out HZL.out (by simp) (Enc.nil _ _ _) rfl (Nat.zero_le _)⟩

set_option maxHeartbeats 4000000 in
set_option maxRecDepth 100000 in
theorem concat_int (xss : List (List (Int))) (v : Value) (w : World) (C : Cl) (hC : Keeps C w.cell?) (hv : Out RInts C w.cell? v xss) (hs : sumLen xss ≤ 1000000) :
    Calls Tryz.prog 34 #[v] w fun e w' => ∃ v', e = .returned v' ∧ Below w.heap.size w w' ∧ Ow 1 EInt 3 w' C w.heap.size v' xss.flatten := by
  obtain ⟨A, c, rfl, -, -, hmx⟩ := Rws.shape hv
  have HV := Lib.hid hv
  have HCC := Lib.hid hC
  obtain ⟨n, hn⟩ : ∃ n, xss.length = n := ⟨_, rfl⟩
  rw [hn] at hmx HV ⊢
  have HL := Lib.hid hn
  have hn2 : (n : Int) ≤ 1000000 := by omega
  obtain ⟨m, hm⟩ : ∃ m, sumLen xss = m := ⟨_, rfl⟩
  have HS : Hid (∀ j, sumLen (xss.take j) ≤ m) := Lib.hid (by intro j; rw [← hm]; exact sumLen_le _ _)
  have HM := Lib.hid hm
  rw [hm] at hs
  have hm2 : (m : Int) ≤ 1000000 := by omega
  obtain ⟨i0, z0, hi, hz, h1, h2, h3, h4⟩ := inf_int
  clear hv hn hm hz hC h1 h2 h3 h4
  go_enter Tryz.func34, Tryz.ntmps34
  go_wp2
  go_loopw [3, 11] (fun a3 a11 wr => ∃ j : Nat, a11 = .int .i64 j ∧ a3 = .int .i64 (sumLen (xss.take j) : Nat) ∧ Below w.heap.size w wr ∧ j ≤ n) (fun _ a11 _ => n - (intOf a11).toNat)
  case atStart => exact ⟨0, rfl, rfl, Below.refl _ _, by omega⟩
  case round =>
    obtain ⟨j, rfl, rfl, hB, hj⟩ := hrel
    have HB := Lib.hid hB
    have hsj := HS.out j
    by_cases hlt : j < n
    · have hlt2 : (j : Int) < (n : Int) := by omega
      have hjl : j < xss.length := by rw [HL.out]; exact hlt
      obtain ⟨b, o, rfl, hc⟩ := Rws.at_ (Out.keep HV.out (Keeps.of_below hB)) (by rw [HL.out]; omega)
      obtain ⟨x, hx⟩ : ∃ x, xss[j]? = some x := ⟨_, List.getElem?_eq_getElem hjl⟩
      obtain ⟨xv, e0, ht⟩ := hc j x hx
      rw [Nat.mul_one] at e0
      obtain ⟨A2, c2, rfl, -⟩ := Rws.shape ht
      have HX := Lib.hid (sumLen_take hx)
      have hsj1 := HS.out (j + 1)
      rw [HX.out] at hsj1
      obtain ⟨p, hp⟩ : ∃ p, sumLen (xss.take j) = p := ⟨_, rfl⟩
      obtain ⟨q, hq⟩ : ∃ q, x.length = q := ⟨_, rfl⟩
      rw [hp] at hsj hsj1 HX ⊢
      rw [hq] at hsj1 HX e0
      have hpq : (p : Int) + (q : Int) ≤ 1000000 := by omega
      clear hB hc hx ht hp hq
      go_wp2
      go_roundw
      case rel => exact ⟨j + 1, by go_num, by rw [HX.out, Int.natCast_add], HB.out, by omega⟩
      case measure => simp [intOf]; omega
    · obtain rfl : j = n := by omega
      have hz : sumLen (xss.take j) = m := by rw [List.take_of_length_le (by rw [HL.out]; omega)]; exact HM.out
      rw [hz] at hsj ⊢
      clear hB hz
      go_wp2_with (go_at_call 59; refine (grow_int m _ hs).mono ?_; rintro e w1 ⟨v1, rfl, hB1, hO1⟩; have HB1 : Hid (Below w.heap.size w w1) := Lib.hid (behind HB.out hB1); have HO1 : Hid (Ow 1 EInt 3 w1 C w.heap.size v1 []) := Lib.hid ((hO1 _).base HB.out.size); clear hB1 hO1)
      go_loopw [6, 27] (fun a6 a27 wr => ∃ i : Nat, a27 = .int .i64 i ∧ Ow 1 EInt 3 wr C w.heap.size a6 (xss.take i).flatten ∧ Below w.heap.size w wr ∧ i ≤ j) (fun _ a27 _ => j - (intOf a27).toNat)
      case atStart => exact ⟨0, rfl, HO1.out, HB1.out, by omega⟩
      case round =>
        obtain ⟨i, rfl, hO, hB2, hi2⟩ := hrel
        have HB2 := Lib.hid hB2
        have HO := Lib.hid hO
        obtain ⟨A6, c6, rfl, -⟩ := hO.shape
        have HLE : Hid ((xss.take i).flatten.length ≤ c6) := Lib.hid (by
          obtain ⟨cs, ho, -, -⟩ := hO
          rcases ho.2 with ⟨e, h0⟩ | ⟨g, cap, cur, e, -, -, h2, -⟩
          · omega
          · injection e with _ _ e3
            subst e3; exact h2)
        obtain ⟨pl, hpl⟩ : ∃ pl, (xss.take i).flatten.length = pl := ⟨_, rfl⟩
        rw [hpl] at HO HLE ⊢
        have HPL := Lib.hid hpl
        clear hpl
        by_cases hlt3 : i < j
        · have hlt4 : (i : Int) < (j : Int) := by omega
          have hil : i < xss.length := by rw [HL.out]; exact hlt3
          obtain ⟨b, o, rfl, hc⟩ := Rws.at_ (Out.keep HV.out (Keeps.of_below hB2)) (by rw [HL.out]; omega)
          obtain ⟨x, hx⟩ : ∃ x, xss[i]? = some x := ⟨_, List.getElem?_eq_getElem hil⟩
          obtain ⟨xv, e0, ht⟩ := hc i x hx
          rw [Nat.mul_one] at e0
          obtain ⟨b0, o0, e9, hc0⟩ := Rws.at_ HV.out (by rw [HL.out]; omega)
          injection e9 with e9
          injection e9 with e9 e10
          subst e9 e10
          obtain ⟨xv', e0', ht'⟩ := hc0 i x hx
          rw [Nat.mul_one] at e0'
          obtain rfl : xv = xv' := by
            have := Keeps.of_below hB2 _ _ e0'
            rw [this] at e0
            injection e0 with e0
            exact e0.symm
          obtain ⟨cs, hen, A2, c2, rfl, -, -, -, hcs⟩ := Rws.cells cellsInt ht'
          have HFL := Lib.hid (flatten_take hx)
          have hf1 : (xss.take i).flatten.length + x.length ≤ m := by
            have h := HS.out (i + 1)
            rw [← sumLen_flat, flatten_take hx, List.length_append] at h
            exact h
          obtain ⟨q, hq⟩ : ∃ q, x.length = q := ⟨_, rfl⟩
          rw [hq] at e0 hf1 hcs
          rw [HPL.out] at hf1
          have HQ := Lib.hid hq
          have HEN := Lib.hid hen
          have HCS := Lib.hid hcs
          have HI := Lib.hid hi
          have HF1 := Lib.hid hf1
          clear hB2 hO hc hc0 hx ht ht' e0' hq hen hcs hi hf1
          rcases Nat.eq_zero_or_pos q with h0 | h0
          · subst h0
            have hx0 : x = [] := List.length_eq_zero_iff.1 HQ.out
            have HR : Hid (∀ ty, (Builtin.append_ #[22, 22] ty #[.slice A6 pl c6, .slice A2 0 c2]).run Tryz.prog wr = .ok (.slice A6 pl c6) wr) := Lib.hid fun ty => run_append_empty Tryz.underlying22 HI.out _ _ _ _ _ HLE.out
            have HE0 := Lib.hid hx0
            clear hx0
            go_wp2_with (at_builtin; refine Lib.wpList_append_run _ rfl _ _ _ _ rfl _ _ rfl rfl _ _ (HR.out _) ?_)
            go_roundw
            case rel => exact ⟨i + 1, by go_num, by rw [HFL.out, HE0.out, List.append_nil]; exact HO.out, HB2.out, by omega⟩
            case measure => simp [intOf]; omega
          · obtain ⟨b2, o2, rfl, hcc⟩ := HCS.out h0
            have HN : Hid (∀ j u, cs[j]? = some u → wr.cell? ((⟨b2, o2, none⟩ : Addr).add j) = some u) := Lib.hid fun j u hu => by rw [Addr.add_lit]; exact Keeps.of_below HB2.out _ _ (HCC.out _ _ (hcc j u hu))
            clear hcc
            go_wp2_with (at_builtin; refine wpList_append_Ow cellsInt inf_int _ rfl _ _ 22 rfl w.heap.size Tryz.underlying22 _ (xss.take i).flatten C rfl HO.out ⟨b2, o2, none⟩ q c2 cs x rfl HQ.out HEN.out HN.out (by have := HF1.out; have := HPL.out; omega) HB2.out.size ?_; intro v' w2 hown' hB3 _; obtain ⟨A7, n7, c7, rfl⟩ := hown'.form; have HO2 := Lib.hid hown'; have HB3 := Lib.hid hB3; clear hown' hB3)
            go_roundw
            case rel => exact ⟨i + 1, by go_num, by rw [HFL.out]; exact HO2.out, HB2.out.trans HB3.out, by omega⟩
            case measure => simp [intOf]; omega
        · obtain rfl : i = j := by omega
          have HFL : Hid ((xss.take i).flatten = xss.flatten) := Lib.hid (by rw [List.take_of_length_le (by rw [HL.out]; omega)])
          clear hB2 hO
          go_wp2
          go_ret
          exact ⟨_, rfl, HB2.out, by rw [← HFL.out]; exact HO.out⟩

end Go.Proofs.YtneabpgphjcbkaaGreatDoor
