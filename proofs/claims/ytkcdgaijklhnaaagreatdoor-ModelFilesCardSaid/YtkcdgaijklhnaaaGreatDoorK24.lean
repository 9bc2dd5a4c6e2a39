/-
  The reference: ModelFault for every model.
-/
import Derived.Test.YtkcdgaijklhnaaaGreatDoorK06
import Derived.Laws.EntriesVeiled
namespace Go.Proofs.YtkcdgaijklhnaaaGreatDoor
open Go.RowKit
def inF : Value := .func (.func 40) #[] #[]
theorem fin_any (n lo hi : Int) (w : World) : Calls Tryz.prog 40 #[.int .i64 n, .int .i64 lo, .int .i64 hi] w fun e w' => e = .returned (.bool (inB lo hi n)) ∧ w' = w := by
 go_enter Tryz.func40, Tryz.ntmps40
 by_cases h : lo ≤ n
 ·go_wp2
  go_ret
  exact ⟨by simp [inB, h], rfl⟩
 ·go_wp2
  go_ret
  exact ⟨by simp [inB, show ¬ lo ≤ n by omega], rfl⟩
theorem enter_fout : ∀ args w, (callFunc 43 args).run Tryz.prog w = .ok (.enter 43 args) w := fun _ _ => by kernel_rfl
theorem fout1_any (n lo hi : Int) (f p q : Nat) (w : World) (hf : w.cell? ⟨f, 0, none⟩ = some inF) (hp : w.cell? ⟨p, 0, none⟩ = some (.int .i64 lo)) (hq : w.cell? ⟨q, 0, none⟩ = some (.int .i64 hi)) :
  Calls Tryz.prog 43 #[.int .i64 n, .pointer (some ⟨f, 0, none⟩), .pointer (some ⟨p, 0, none⟩), .pointer (some ⟨q, 0, none⟩)] w fun e w' => e = .returned (.bool (!inB lo hi n)) ∧ Below w.heap.size w w' := by
 have HW := Lib.hid (fin_any n lo hi)
 unfold inF at hf
 go_enter Tryz.func43, Tryz.ntmps43
 go_wp2_with (go_at_call 40; refine (HW.out _).mono ?_; rintro e w1 ⟨rfl, rfl⟩)
 go_ret
 exact ⟨rfl, Below.refl _ _⟩
set_option maxHeartbeats 1000000 in
set_option maxRecDepth 100000 in
theorem fout_any (l : List Int) (lo hi : Int) (f : Nat) (v : Value) (w : World) (hv : RInts w.cell? v l) (hf : w.cell? ⟨f, 0, none⟩ = some inF) :
  Calls Tryz.prog 41 #[v, .int .i64 lo, .int .i64 hi, .pointer (some ⟨f, 0, none⟩)] w fun e w' => e = .returned (.bool (!l.all (inB lo hi))) ∧ Below w.heap.size w w' := by
 obtain ⟨A, n, c, rfl⟩ := hv.sl
 obtain ⟨W, hW⟩ : ∃ W, W = (w.alloc (.cells #[.int .i64 lo] 3)).alloc (.cells #[.int .i64 hi] 3) := ⟨_, rfl⟩
 have hz1 : (w.alloc (.cells #[.int .i64 lo] 3)).heap.size = w.heap.size + 1 := World.size_alloc _ _
 have hb0 : Bk W w.heap.size 3 #[.int .i64 lo] := by rw [hW]; exact (Bk.new _ _ _).alloc _
 have hb1 : Bk W (w.heap.size + 1) 3 #[.int .i64 hi] := by rw [hW, ← hz1]; exact Bk.new _ _ _
 have HBW : Hid (Below w.heap.size w W) := Lib.hid (by rw [hW]; exact laid (laid (Below.refl _ _) _) _)
 have hfW : W.cell? ⟨f, 0, none⟩ = some inF := Keeps.of_below HBW.out _ _ hf
 have HC : Hid (Calls Tryz.prog 42 #[.slice A n c, .func (.func 43) #[] #[.pointer (some ⟨f, 0, none⟩), .pointer (some ⟨w.heap.size, 0, none⟩), .pointer (some ⟨w.heap.size + 1, 0, none⟩)]] W fun e w' => e = .returned (.bool (l.any fun n => !inB lo hi n)) ∧ Below W.heap.size W w') :=
  Lib.hid (has_int 43 #[.pointer (some ⟨f, 0, none⟩), .pointer (some ⟨w.heap.size, 0, none⟩), .pointer (some ⟨w.heap.size + 1, 0, none⟩)] (fun n => !inB lo hi n) enter_fout l (.slice A n c) W (Rws.mono hv fun b o x h => Keeps.of_below HBW.out _ _ h) (fun n _ u W' hB hu => by subst hu; exact fout1_any n lo hi f _ _ W' (Keeps.of_below hB _ _ hfW) ((hb0.low hB).cell 0) ((hb1.low hB).cell 0)))
 have HW := Lib.hid hW
 clear hW hb0 hb1 hz1 hv hfW hf
 go_enter Tryz.func41, Tryz.ntmps41
 go_wp2_with (go_at_call 42; rw [← HW.out]; refine HC.out.mono ?_; rintro e w1 ⟨rfl, hB⟩; have HB := Lib.hid (behind HBW.out hB); clear hB)
 go_ret
 exact ⟨by simp [List.any_eq_not_all_not], HB.out⟩
def matZ (K D : Int) (n : Nat) : Int := if mixM K D n then ((n / (D * D).toNat : Nat) : Int) else -1
theorem matZ_neg (K D : Int) (n : Nat) : decide (matZ K D n < 0) = !mixM K D n := by
 unfold matZ
 obtain ⟨q, hq⟩ : ∃ q, n / (D * D).toNat = q := ⟨_, rfl⟩
 rw [hq]
 cases mixM K D n
 ·rfl
 ·rw [if_pos rfl]
  exact decide_eq_false (by omega)
theorem eq_iff_div {n Q k : Nat} (hQ : 1 ≤ Q) : n = k * Q ↔ n % Q = 0 ∧ n / Q = k := by
 constructor
 ·rintro rfl
  exact ⟨Nat.mul_mod_left _ _, Nat.mul_div_cancel _ (by omega)⟩
 ·rintro ⟨h1, h2⟩
  have := Nat.div_add_mod n Q
  rw [h1, h2, Nat.mul_comm] at this
  omega
theorem mixM_div {K D : Int} {n Q : Nat} (hQ : D * D = (Q : Int)) (h1 : 1 ≤ Q) (hK : K = 1 ∨ K = 2 ∨ K = 3) :
  mixM K D n = (((n % Q : Nat) == 0) && (if K = 1 then (((n / Q : Nat) : Int) == 3) else if K = 2 then (((n / Q : Nat) : Int) == 2) else inB 1 4 ((n / Q : Nat) : Int))) := by
 have e3 : 3 * D * D = ((3 * Q : Nat) : Int) := by rw [Int.mul_assoc, hQ]; push_cast; rfl
 have e2 : 2 * D * D = ((2 * Q : Nat) : Int) := by rw [Int.mul_assoc, hQ]; push_cast; rfl
 have eQ : (D * D).toNat = Q := by rw [hQ]; exact Int.toNat_natCast Q
 rw [Bool.eq_iff_iff]
 rcases hK with rfl | rfl | rfl
 ·simp only [mixM, if_true, e3, Bool.and_eq_true, beq_iff_eq]
  have := @eq_iff_div n Q 3 h1
  omega
 ·simp only [mixM, e2, Bool.and_eq_true, beq_iff_eq]
  have := @eq_iff_div n Q 2 h1
  simp only [show ¬ ((2 : Int) = 1) by decide, if_false, if_true, beq_iff_eq]
  omega
 ·simp only [mixM, eQ, show ¬ ((3 : Int) = 1) by decide, show ¬ ((3 : Int) = 2) by decide, if_false, Bool.and_eq_true, beq_iff_eq, inB, decide_eq_true_eq, rowsM]
  by_cases h : n % Q = 0
  ·simp [h]
  ·simp [h]
set_option maxHeartbeats 8000000 in
set_option maxRecDepth 100000 in
theorem matrices_any (m : LModel) (v : Value) (w : World) (hv : VModel w.cell? v m) (hK : m.kind = 1 ∨ m.kind = 2 ∨ m.kind = 3) (hD : 1 ≤ m.width ∧ m.width ≤ 5) : Calls Tryz.prog 44 #[v] w fun e w' => e = .returned (.int .i64 (matZ m.kind m.width m.mix.length)) ∧ Below w.heap.size w w' := by
 obtain ⟨a1, a2, a3, a4, a5, a6, a7, rfl, h1, h2, h3, h4, h5, h6, h7⟩ := hv
 obtain ⟨A1, c1, rfl, -, -, q1⟩ := h1.shape
 obtain ⟨n1, e1⟩ : ∃ n, m.cuts.length = n := ⟨_, rfl⟩
 rw [e1] at q1 h1 ⊢
 obtain ⟨A2, c2, rfl, -, -, q2⟩ := h2.shape
 obtain ⟨n2, e2⟩ : ∃ n, m.embed.length = n := ⟨_, rfl⟩
 rw [e2] at q2 h2 ⊢
 obtain ⟨A3, c3, rfl, -, -, q3⟩ := h3.shape
 obtain ⟨n3, e3⟩ : ∃ n, m.place.length = n := ⟨_, rfl⟩
 rw [e3] at q3 h3 ⊢
 obtain ⟨A4, c4, rfl, -, -, q4⟩ := h4.shape
 obtain ⟨n4, e4⟩ : ∃ n, m.mix.length = n := ⟨_, rfl⟩
 rw [e4] at q4 h4 ⊢
 obtain ⟨A5, c5, rfl, -, -, q5⟩ := h5.shape
 obtain ⟨n5, e5⟩ : ∃ n, m.out.length = n := ⟨_, rfl⟩
 rw [e5] at q5 h5 ⊢
 obtain ⟨A6, c6, rfl, -, -, q6⟩ := h6.shape
 obtain ⟨n6, e6⟩ : ∃ n, m.soft.length = n := ⟨_, rfl⟩
 rw [e6] at q6 h6 ⊢
 obtain ⟨A7, c7, rfl, -, -, q7⟩ := h7.shape
 obtain ⟨n7, e7⟩ : ∃ n, m.odds.length = n := ⟨_, rfl⟩
 rw [e7] at q7 h7 ⊢
 obtain ⟨K, eK⟩ : ∃ x, m.kind = x := ⟨_, rfl⟩
 obtain ⟨V, eV⟩ : ∃ x, m.vocab = x := ⟨_, rfl⟩
 obtain ⟨D, eD⟩ : ∃ x, m.width = x := ⟨_, rfl⟩
 obtain ⟨T, eT⟩ : ∃ x, m.top = x := ⟨_, rfl⟩
 rw [eK, eV, eD, eT]
 rw [eK] at hK
 rw [eD] at hD
 have hdd := dd_small hD
 obtain ⟨Q, hQ⟩ : ∃ Q : Nat, D * D = (Q : Int) := ⟨(D * D).toNat, by omega⟩
 rw [hQ] at hdd
 obtain ⟨hQ1, hQ2⟩ := hdd
 have hmix := mixM_div (n := n4) hQ (by omega) hK
 have hZ : matZ K D n4 = if mixM K D n4 then ((n4 / Q : Nat) : Int) else -1 := by unfold matZ; rw [hQ]; rfl
 have hq4 : (n4 : Int) ≤ 1000000 := by omega
 have t1 : IntKind.i64.wrap (D * D) = (Q : Int) := by rw [hQ]; exact i64_wrap_id (by omega) (by omega)
 have hdl : n4 / Q ≤ n4 := Nat.div_le_self _ _
 have t2 : wrap64 ((n4 : Int) / (Q : Int)) = ((n4 / Q : Nat) : Int) := by
  rw [(Int.natCast_ediv n4 Q).symm]
  obtain ⟨q, hq⟩ : ∃ q, n4 / Q = q := ⟨_, rfl⟩
  rw [hq] at hdl ⊢
  unfold wrap64; omega
 have hrem : ((n4 : Int) % (Q : Int)) = ((n4 % Q : Nat) : Int) := (Int.natCast_emod n4 Q).symm
 have hre2 : ((n4 : Int).tmod (Q : Int)) = ((n4 % Q : Nat) : Int) := (Int.ofNat_tmod n4 Q).symm
 obtain ⟨b, gb⟩ : ∃ b, ((n4 % Q : Nat) == 0) = b := ⟨_, rfl⟩
 obtain ⟨r, gr⟩ : ∃ r, n4 / Q = r := ⟨_, rfl⟩
 have hb1 : (((n4 % Q : Nat) : Int) == 0) = b := by rw [← gb]; rw [Bool.eq_iff_iff]; simp only [beq_iff_eq]; omega
 rw [gb, gr] at hmix
 rw [gr] at t2 hZ
 rw [hZ, hmix]
 have r1 : ((n4 : Int) % (Q : Int) == 0) = b := by rw [hrem]; exact hb1
 have r2 : ((n4 : Int).tmod (Q : Int) == 0) = b := by rw [hre2]; exact hb1
 obtain ⟨W, hW⟩ : ∃ W, W = w.alloc (.cells #[.int .i64 K, .int .i64 V, .int .i64 D, .int .i64 T, .slice A1 n1 c1, .slice A2 n2 c2, .slice A3 n3 c3, .slice A4 n4 c4, .slice A5 n5 c5, .slice A6 n6 c6, .slice A7 n7 c7] 27) := ⟨_, rfl⟩
 have hb : Bk W w.heap.size 27 #[.int .i64 K, .int .i64 V, .int .i64 D, .int .i64 T, .slice A1 n1 c1, .slice A2 n2 c2, .slice A3 n3 c3, .slice A4 n4 c4, .slice A5 n5 c5, .slice A6 n6 c6, .slice A7 n7 c7] := by rw [hW]; exact Bk.new _ _ _
 have HBW : Hid (Below w.heap.size w W) := Lib.hid (by rw [hW]; exact laid (Below.refl _ _) _)
 obtain ⟨p0, p1, p2, p3, p4, p5, p6, p7, p8, p9, p10⟩ : W.cell? ⟨w.heap.size, 0, none⟩ = some (.int .i64 K) ∧ W.cell? ⟨w.heap.size, 1, none⟩ = some (.int .i64 V) ∧ W.cell? ⟨w.heap.size, 2, none⟩ = some (.int .i64 D) ∧ W.cell? ⟨w.heap.size, 3, none⟩ = some (.int .i64 T) ∧ W.cell? ⟨w.heap.size, 4, none⟩ = some (.slice A1 n1 c1) ∧ W.cell? ⟨w.heap.size, 5, none⟩ = some (.slice A2 n2 c2) ∧ W.cell? ⟨w.heap.size, 6, none⟩ = some (.slice A3 n3 c3) ∧ W.cell? ⟨w.heap.size, 7, none⟩ = some (.slice A4 n4 c4) ∧ W.cell? ⟨w.heap.size, 8, none⟩ = some (.slice A5 n5 c5) ∧ W.cell? ⟨w.heap.size, 9, none⟩ = some (.slice A6 n6 c6) ∧ W.cell? ⟨w.heap.size, 10, none⟩ = some (.slice A7 n7 c7) := ⟨hb.cell 0, hb.cell 1, hb.cell 2, hb.cell 3, hb.cell 4, hb.cell 5, hb.cell 6, hb.cell 7, hb.cell 8, hb.cell 9, hb.cell 10⟩
 have HW := Lib.hid hW
 have hQi : (1 : Int) ≤ (Q : Int) := by omega
 clear hW hb h1 h2 h3 h4 h5 h6 h7 e1 e2 e3 e4 e5 e6 e7 eK eV eD eT hmix hZ gb gr hb1 hrem hre2 hdl hD q1 q2 q3 q5 q6 q7 hQ
 obtain rfl | rfl : b = false ∨ b = true := by cases b <;> simp
 ·rcases hK with rfl | rfl | rfl <;>
  ·go_enter Tryz.func44, Tryz.ntmps44
   go_wp2_with fail
   all_goals rw [← HW.out]
   all_goals go_wp2
   all_goals go_ret
   all_goals exact ⟨by simp, HBW.out⟩
 ·rcases hK with rfl | rfl | rfl
  ·obtain ⟨c, gc⟩ : ∃ c, ((r : Int) == 3) = c := ⟨_, rfl⟩
   rw [gc]
   cases c <;>
   ·go_enter Tryz.func44, Tryz.ntmps44
    go_wp2_with fail
    rw [← HW.out]
    go_wp2
    go_ret
    exact ⟨by simp, HBW.out⟩
  ·obtain ⟨c, gc⟩ : ∃ c, ((r : Int) == 2) = c := ⟨_, rfl⟩
   rw [gc]
   cases c <;>
   ·go_enter Tryz.func44, Tryz.ntmps44
    go_wp2_with fail
    rw [← HW.out]
    go_wp2
    go_ret
    exact ⟨by simp, HBW.out⟩
  ·by_cases c1 : (1 : Int) ≤ (r : Int)
   ·by_cases c2 : (r : Int) ≤ 4
    ·have hin : inB 1 4 (r : Int) = true := by simp only [inB, Bool.and_eq_true, decide_eq_true_eq]; omega
     rw [hin]
     go_enter Tryz.func44, Tryz.ntmps44
     go_wp2_with fail
     rw [← HW.out]
     go_wp2
     go_ret
     exact ⟨by simp, HBW.out⟩
    ·have hin : inB 1 4 (r : Int) = false := by simp only [inB, Bool.and_eq_false_iff, decide_eq_false_iff_not]; omega
     rw [hin]
     go_enter Tryz.func44, Tryz.ntmps44
     go_wp2_with fail
     rw [← HW.out]
     go_wp2
     go_ret
     exact ⟨by simp, HBW.out⟩
   ·have hin : inB 1 4 (r : Int) = false := by simp only [inB, Bool.and_eq_false_iff, decide_eq_false_iff_not]; omega
    rw [hin]
    go_enter Tryz.func44, Tryz.ntmps44
    go_wp2_with fail
    rw [← HW.out]
    go_wp2
    go_ret
    exact ⟨by simp, HBW.out⟩
end Go.Proofs.YtkcdgaijklhnaaaGreatDoor
namespace Go.Proofs.YtkcdgaijklhnaaaGreatDoor
open Go.RowKit
theorem rowsM_in {n d : Nat} : inB 1 16 (rowsM n d : Nat) = (((n % d : Nat) == 0) && inB 1 16 ((n / d : Nat) : Int)) := by
 unfold rowsM
 by_cases h : n % d = 0
 ·simp [h]
 ·simp [h, inB]
def chkB (bk bv bd bt c1 c2 c3 b4 c5 c6 b7 b8 bc bw bs bx : Bool) : Int :=
 if bk then (if bv && bd then (if bt then (if !c1 && !c2 && !c3 && b4 && !c5 && !c6 && b7 && b8 then (if bc && bw && bs && !bx then 0 else 9) else 3) else 9) else 9) else 4
set_option maxHeartbeats 8000000 in
set_option maxRecDepth 100000 in
theorem fault_walk (K V D T : Int) (A1 A2 A3 A4 A5 A6 A7 : Option Addr) (n1 n2 n3 n4 n5 n6 n7 c1' c2' c3' c4' c5' c6' c7' : Nat) (zM X : Int) (bk bv bd bt c1 c2 c3 b4 c5 c6 b7 b8 bc bw bs bx : Bool) (w : World)
  (Y Z : List Int)
  (gk : inB 1 3 K = bk) (gv : inB 2 16 V = bv) (gd : inB 1 5 D = bd) (gt : inB 1 V T = bt)
  (q3 : n3 ≤ 1000000)
  (g1 : ((n1 : Int) != 4) = c1) (g2 : ((n2 : Int) != V * D) = c2) (g3 : ((n3 % D.toNat : Nat) != 0) = c3) (g4 : inB 1 16 ((n3 / D.toNat : Nat) : Int) = b4) (g5 : decide (zM < 0) = c5) (g6 : ((n5 : Int) != V * D) = c6)
  (g7 : inB 1 64 (n6 : Int) = b7) (g8 : inB 1 64 (n7 : Int) = b8) (gx : (X == 0) = bx)
  (HM : Hid (∀ W, bk = true → bd = true → Below w.heap.size w W → Calls Tryz.prog 44 #[.agg #[.int .i64 K, .int .i64 V, .int .i64 D, .int .i64 T, .slice A1 n1 c1', .slice A2 n2 c2', .slice A3 n3 c3', .slice A4 n4 c4', .slice A5 n5 c5', .slice A6 n6 c6', .slice A7 n7 c7']] W fun e w' => e = .returned (.int .i64 zM) ∧ Below W.heap.size W w'))
  (H1 : Hid (∀ W f, W.cell? ⟨f, 0, none⟩ = some inF → Below w.heap.size w W → Calls Tryz.prog 41 #[.slice A1 n1 c1', .int .i64 1, .int .i64 15, .pointer (some ⟨f, 0, none⟩)] W fun e w' => e = .returned (.bool (!bc)) ∧ Below W.heap.size W w'))
  (H2 : Hid (∀ W f v', W.cell? ⟨f, 0, none⟩ = some inF → RInts W.cell? v' Y → Calls Tryz.prog 41 #[v', .int .i64 (-128), .int .i64 127, .pointer (some ⟨f, 0, none⟩)] W fun e w' => e = .returned (.bool (!bw)) ∧ Below W.heap.size W w'))
  (H3 : Hid (∀ W f v', W.cell? ⟨f, 0, none⟩ = some inF → RInts W.cell? v' Z → Calls Tryz.prog 41 #[v', .int .i64 0, .int .i64 1000, .pointer (some ⟨f, 0, none⟩)] W fun e w' => e = .returned (.bool (!bs)) ∧ Below W.heap.size W w'))
  (HC : Hid (∀ W, Below w.heap.size w W → ∀ b, (∀ i u, ([.slice A2 n2 c2', .slice A3 n3 c3', .slice A4 n4 c4', .slice A5 n5 c5'] : List Value)[i]? = some u → W.cell? ⟨b, i, none⟩ = some u) → Calls Tryz.prog 45 #[.slice (some ⟨b, 0, none⟩) 4 4] W fun e w' => ∃ v', e = .returned v' ∧ Below W.heap.size W w' ∧ RInts w'.cell? v' Y))
  (HC2 : Hid (∀ W, Below w.heap.size w W → ∀ b, (∀ i u, ([.slice A6 n6 c6', .slice A7 n7 c7'] : List Value)[i]? = some u → W.cell? ⟨b, i, none⟩ = some u) → Calls Tryz.prog 45 #[.slice (some ⟨b, 0, none⟩) 2 2] W fun e w' => ∃ v', e = .returned v' ∧ Below W.heap.size W w' ∧ RInts w'.cell? v' Z))
  (HX : Hid (1 ≤ n7 → ∃ ob oo, A7 = some ⟨ob, oo, none⟩ ∧ w.cell? ⟨ob, oo, none⟩ = some (.int .i64 X))) :
  Calls Tryz.prog 7 #[.agg #[.int .i64 K, .int .i64 V, .int .i64 D, .int .i64 T, .slice A1 n1 c1', .slice A2 n2 c2', .slice A3 n3 c3', .slice A4 n4 c4', .slice A5 n5 c5', .slice A6 n6 c6', .slice A7 n7 c7']] w fun e w' => e = .returned (.int .i64 (chkB bk bv bd bt c1 c2 c3 b4 c5 c6 b7 b8 bc bw bs bx)) ∧ Below w.heap.size w w' := by
 obtain ⟨W0, hW0⟩ : ∃ W, W = w.alloc (.cells #[.int .i64 K, .int .i64 V, .int .i64 D, .int .i64 T, .slice A1 n1 c1', .slice A2 n2 c2', .slice A3 n3 c3', .slice A4 n4 c4', .slice A5 n5 c5', .slice A6 n6 c6', .slice A7 n7 c7'] 27) := ⟨_, rfl⟩
 have hz0 : W0.heap.size = w.heap.size + 1 := by rw [hW0, World.size_alloc]
 have hb0 : Bk W0 w.heap.size 27 #[.int .i64 K, .int .i64 V, .int .i64 D, .int .i64 T, .slice A1 n1 c1', .slice A2 n2 c2', .slice A3 n3 c3', .slice A4 n4 c4', .slice A5 n5 c5', .slice A6 n6 c6', .slice A7 n7 c7'] := by rw [hW0]; exact Bk.new _ _ _
 obtain ⟨W, hW⟩ : ∃ W, W = W0.alloc (.cells #[inF] 71) := ⟨_, rfl⟩
 have hb : Bk W w.heap.size 27 #[.int .i64 K, .int .i64 V, .int .i64 D, .int .i64 T, .slice A1 n1 c1', .slice A2 n2 c2', .slice A3 n3 c3', .slice A4 n4 c4', .slice A5 n5 c5', .slice A6 n6 c6', .slice A7 n7 c7'] := by rw [hW]; exact hb0.alloc _
 have hbf : Bk W (w.heap.size + 1) 71 #[inF] := by rw [hW, ← hz0]; exact Bk.new _ _ _
 have HBW : Hid (Below w.heap.size w W) := Lib.hid (by rw [hW, hW0]; exact laid (laid (Below.refl _ _) _) _)
 have HB : Hid (Below W.heap.size W W) := Lib.hid (Below.refl _ _)
 have HK : Hid (∀ w', Below W.heap.size W w' → (w'.cell? ⟨w.heap.size, 0, none⟩ = some (.int .i64 K) ∧ w'.cell? ⟨w.heap.size, 1, none⟩ = some (.int .i64 V) ∧ w'.cell? ⟨w.heap.size, 2, none⟩ = some (.int .i64 D) ∧ w'.cell? ⟨w.heap.size, 3, none⟩ = some (.int .i64 T) ∧ w'.cell? ⟨w.heap.size, 4, none⟩ = some (.slice A1 n1 c1') ∧ w'.cell? ⟨w.heap.size, 5, none⟩ = some (.slice A2 n2 c2') ∧ w'.cell? ⟨w.heap.size, 6, none⟩ = some (.slice A3 n3 c3') ∧ w'.cell? ⟨w.heap.size, 7, none⟩ = some (.slice A4 n4 c4') ∧ w'.cell? ⟨w.heap.size, 8, none⟩ = some (.slice A5 n5 c5') ∧ w'.cell? ⟨w.heap.size, 9, none⟩ = some (.slice A6 n6 c6') ∧ w'.cell? ⟨w.heap.size, 10, none⟩ = some (.slice A7 n7 c7')) ∧ w'.cell? ⟨w.heap.size + 1, 0, none⟩ = some (.func (.func 40) #[] #[])) := Lib.hid fun w' h => ⟨⟨(hb.low h).cell 0, (hb.low h).cell 1, (hb.low h).cell 2, (hb.low h).cell 3, (hb.low h).cell 4, (hb.low h).cell 5, (hb.low h).cell 6, (hb.low h).cell 7, (hb.low h).cell 8, (hb.low h).cell 9, (hb.low h).cell 10⟩, (hbf.low h).cell 0⟩
 obtain ⟨⟨p0, p1, p2, p3, p4, p5, p6, p7, p8, p9, p10⟩, pf⟩ := HK.out W HB.out
 have HXY : Hid (1 ≤ n7 → ∃ ob oo, A7 = some ⟨ob, oo, none⟩ ∧ ∀ w', Below W.heap.size W w' → w'.cell? ⟨ob, oo, none⟩ = some (.int .i64 X)) := Lib.hid fun h => by
  obtain ⟨ob, oo, hA, hx0⟩ := HX.out h
  exact ⟨ob, oo, hA, fun w' h => Keeps.of_below (behind HBW.out h) _ _ hx0⟩
 have HI := Lib.hid fin_any
 have HW0 := Lib.hid hW0
 have HW := Lib.hid hW
 have GK := Lib.hid gk
 have GV := Lib.hid gv
 have GD := Lib.hid gd
 have GT := Lib.hid gt
 have G4 := Lib.hid g4
 have G7 := Lib.hid g7
 have G8 := Lib.hid g8
 clear hW hW0 hb hbf hb0 hz0 gk gv gd gt g4 g7 g8
 unfold inF at HW
 go_enter Tryz.func7, Tryz.ntmps7
 go_upto_region 3 with fail
 rw [← HW0.out, ← HW.out]
 obtain rfl | rfl : bk = false ∨ bk = true := by cases bk <;> simp
 ·go_wp2_with (go_at_call 40; refine (HI.out _ _ _ _).mono ?_; rintro e w1 ⟨rfl, rfl⟩; (first | rw [GK.out] | rw [GV.out] | rw [GD.out] | rw [GT.out]))
  go_ret
  exact ⟨rfl, HBW.out⟩
 obtain rfl | rfl : bv = false ∨ bv = true := by cases bv <;> simp
 ·go_wp2_with (go_at_call 40; refine (HI.out _ _ _ _).mono ?_; rintro e w1 ⟨rfl, rfl⟩; (first | rw [GK.out] | rw [GV.out] | rw [GD.out] | rw [GT.out]))
  go_ret
  exact ⟨rfl, HBW.out⟩
 obtain rfl | rfl : bd = false ∨ bd = true := by cases bd <;> simp
 ·go_wp2_with (go_at_call 40; refine (HI.out _ _ _ _).mono ?_; rintro e w1 ⟨rfl, rfl⟩; (first | rw [GK.out] | rw [GV.out] | rw [GD.out] | rw [GT.out]))
  go_ret
  exact ⟨rfl, HBW.out⟩
 obtain rfl | rfl : bt = false ∨ bt = true := by cases bt <;> simp
 ·go_wp2_with (go_at_call 40; refine (HI.out _ _ _ _).mono ?_; rintro e w1 ⟨rfl, rfl⟩; (first | rw [GK.out] | rw [GV.out] | rw [GD.out] | rw [GT.out]))
  go_ret
  exact ⟨rfl, HBW.out⟩
 have hV : 2 ≤ V ∧ V ≤ 16 := by simpa [inB] using GV.out
 have hD : 1 ≤ D ∧ D ≤ 5 := by simpa [inB] using GD.out
 obtain ⟨d, rfl⟩ : ∃ d : Nat, D = d := ⟨D.toNat, by omega⟩
 have hd1 : (1 : Int) ≤ (d : Int) := hD.1
 have hd2 : (d : Int) ≤ 5 := hD.2
 have hvd := vd_small hV hD
 obtain ⟨P, hP⟩ : ∃ P, V * (d : Int) = P := ⟨_, rfl⟩
 have t1 : IntKind.i64.wrap (V * (d : Int)) = P := by rw [← hP]; exact i64_wrap_id (by omega) (by omega)
 have t1b : wrap64 (V * (d : Int)) = P := by rw [← hP]; exact wrap64_id (by omega) (by omega)
 rw [hP] at g2 g6
 have g4 := G4.out
 have hdd : (d : Int).toNat = d := Int.toNat_natCast d
 rw [hdd] at g3 g4
 have hdl : n3 / d ≤ n3 := Nat.div_le_self _ _
 have hq3 : (n3 : Int) ≤ 1000000 := by omega
 have t2 : wrap64 ((n3 : Int) / (d : Int)) = ((n3 / d : Nat) : Int) := by
  rw [(Int.natCast_ediv n3 d).symm]
  obtain ⟨q, hq⟩ : ∃ q, n3 / d = q := ⟨_, rfl⟩
  rw [hq] at hdl ⊢
  unfold wrap64; omega
 have hr0 : (((n3 % d : Nat) : Int) != 0) = c3 := by rw [← g3]; rw [Bool.eq_iff_iff]; simp only [bne_iff_ne, ne_eq]; omega
 have hr1 : ((n3 : Int) % (d : Int) != 0) = c3 := by rw [(Int.natCast_emod n3 d).symm]; exact hr0
 have hr2 : ((n3 : Int).tmod (d : Int) != 0) = c3 := by rw [(Int.ofNat_tmod n3 d).symm]; exact hr0
 obtain ⟨q, hq⟩ : ∃ q, n3 / d = q := ⟨_, rfl⟩
 rw [hq] at t2 g4
 have G4b := Lib.hid g4
 have GT8 : Hid (b8 = true → 1 ≤ n7) := Lib.hid fun h => by have := G8.out; rw [h] at this; simp only [inB, Bool.and_eq_true, decide_eq_true_eq] at this; omega
 clear hV hD hvd hP hdd hdl hr0 hq g4 g3 G4 q3
 go_upto_region 9 with (go_at_call 40; refine (HI.out _ _ _ _).mono ?_; rintro e w1 ⟨rfl, rfl⟩; (first | rw [GK.out] | rw [GV.out] | rw [GD.out] | rw [GT.out]))
 obtain rfl | rfl : c1 = true ∨ c1 = false := by cases c1 <;> simp
 ·go_wp2_with (first
   | (go_at_call 40; refine (HI.out _ _ _ _).mono ?_; rintro e w1 ⟨rfl, rfl⟩; (first | rw [G4b.out] | rw [G7.out] | rw [G8.out]))
   | (go_at_call 44; refine (HM.out _ (by simp) (by simp) (behind HBW.out HB.out)).mono ?_; rintro e w1 ⟨rfl, hB⟩; replace HB := Lib.hid (behind HB.out hB); clear hB p0 p1 p2 p3 p4 p5 p6 p7 p8 p9 p10 pf; obtain ⟨⟨p0, p1, p2, p3, p4, p5, p6, p7, p8, p9, p10⟩, pf⟩ := HK.out _ HB.out))
  go_ret
  exact ⟨rfl, behind HBW.out HB.out⟩
 obtain rfl | rfl : c2 = true ∨ c2 = false := by cases c2 <;> simp
 ·go_wp2_with (first
   | (go_at_call 40; refine (HI.out _ _ _ _).mono ?_; rintro e w1 ⟨rfl, rfl⟩; (first | rw [G4b.out] | rw [G7.out] | rw [G8.out]))
   | (go_at_call 44; refine (HM.out _ (by simp) (by simp) (behind HBW.out HB.out)).mono ?_; rintro e w1 ⟨rfl, hB⟩; replace HB := Lib.hid (behind HB.out hB); clear hB p0 p1 p2 p3 p4 p5 p6 p7 p8 p9 p10 pf; obtain ⟨⟨p0, p1, p2, p3, p4, p5, p6, p7, p8, p9, p10⟩, pf⟩ := HK.out _ HB.out))
  go_ret
  exact ⟨rfl, behind HBW.out HB.out⟩
 obtain rfl | rfl : c3 = true ∨ c3 = false := by cases c3 <;> simp
 ·go_wp2_with (first
   | (go_at_call 40; refine (HI.out _ _ _ _).mono ?_; rintro e w1 ⟨rfl, rfl⟩; (first | rw [G4b.out] | rw [G7.out] | rw [G8.out]))
   | (go_at_call 44; refine (HM.out _ (by simp) (by simp) (behind HBW.out HB.out)).mono ?_; rintro e w1 ⟨rfl, hB⟩; replace HB := Lib.hid (behind HB.out hB); clear hB p0 p1 p2 p3 p4 p5 p6 p7 p8 p9 p10 pf; obtain ⟨⟨p0, p1, p2, p3, p4, p5, p6, p7, p8, p9, p10⟩, pf⟩ := HK.out _ HB.out))
  go_ret
  exact ⟨rfl, behind HBW.out HB.out⟩
 obtain rfl | rfl : b4 = false ∨ b4 = true := by cases b4 <;> simp
 ·go_wp2_with (first
   | (go_at_call 40; refine (HI.out _ _ _ _).mono ?_; rintro e w1 ⟨rfl, rfl⟩; (first | rw [G4b.out] | rw [G7.out] | rw [G8.out]))
   | (go_at_call 44; refine (HM.out _ (by simp) (by simp) (behind HBW.out HB.out)).mono ?_; rintro e w1 ⟨rfl, hB⟩; replace HB := Lib.hid (behind HB.out hB); clear hB p0 p1 p2 p3 p4 p5 p6 p7 p8 p9 p10 pf; obtain ⟨⟨p0, p1, p2, p3, p4, p5, p6, p7, p8, p9, p10⟩, pf⟩ := HK.out _ HB.out))
  go_ret
  exact ⟨rfl, behind HBW.out HB.out⟩
 obtain rfl | rfl : c5 = true ∨ c5 = false := by cases c5 <;> simp
 ·go_wp2_with (first
   | (go_at_call 40; refine (HI.out _ _ _ _).mono ?_; rintro e w1 ⟨rfl, rfl⟩; (first | rw [G4b.out] | rw [G7.out] | rw [G8.out]))
   | (go_at_call 44; refine (HM.out _ (by simp) (by simp) (behind HBW.out HB.out)).mono ?_; rintro e w1 ⟨rfl, hB⟩; replace HB := Lib.hid (behind HB.out hB); clear hB p0 p1 p2 p3 p4 p5 p6 p7 p8 p9 p10 pf; obtain ⟨⟨p0, p1, p2, p3, p4, p5, p6, p7, p8, p9, p10⟩, pf⟩ := HK.out _ HB.out))
  go_ret
  exact ⟨rfl, behind HBW.out HB.out⟩
 obtain rfl | rfl : c6 = true ∨ c6 = false := by cases c6 <;> simp
 ·go_wp2_with (first
   | (go_at_call 40; refine (HI.out _ _ _ _).mono ?_; rintro e w1 ⟨rfl, rfl⟩; (first | rw [G4b.out] | rw [G7.out] | rw [G8.out]))
   | (go_at_call 44; refine (HM.out _ (by simp) (by simp) (behind HBW.out HB.out)).mono ?_; rintro e w1 ⟨rfl, hB⟩; replace HB := Lib.hid (behind HB.out hB); clear hB p0 p1 p2 p3 p4 p5 p6 p7 p8 p9 p10 pf; obtain ⟨⟨p0, p1, p2, p3, p4, p5, p6, p7, p8, p9, p10⟩, pf⟩ := HK.out _ HB.out))
  go_ret
  exact ⟨rfl, behind HBW.out HB.out⟩
 obtain rfl | rfl : b7 = false ∨ b7 = true := by cases b7 <;> simp
 ·go_wp2_with (first
   | (go_at_call 40; refine (HI.out _ _ _ _).mono ?_; rintro e w1 ⟨rfl, rfl⟩; (first | rw [G4b.out] | rw [G7.out] | rw [G8.out]))
   | (go_at_call 44; refine (HM.out _ (by simp) (by simp) (behind HBW.out HB.out)).mono ?_; rintro e w1 ⟨rfl, hB⟩; replace HB := Lib.hid (behind HB.out hB); clear hB p0 p1 p2 p3 p4 p5 p6 p7 p8 p9 p10 pf; obtain ⟨⟨p0, p1, p2, p3, p4, p5, p6, p7, p8, p9, p10⟩, pf⟩ := HK.out _ HB.out))
  go_ret
  exact ⟨rfl, behind HBW.out HB.out⟩
 obtain rfl | rfl : b8 = false ∨ b8 = true := by cases b8 <;> simp
 ·go_wp2_with (first
   | (go_at_call 40; refine (HI.out _ _ _ _).mono ?_; rintro e w1 ⟨rfl, rfl⟩; (first | rw [G4b.out] | rw [G7.out] | rw [G8.out]))
   | (go_at_call 44; refine (HM.out _ (by simp) (by simp) (behind HBW.out HB.out)).mono ?_; rintro e w1 ⟨rfl, hB⟩; replace HB := Lib.hid (behind HB.out hB); clear hB p0 p1 p2 p3 p4 p5 p6 p7 p8 p9 p10 pf; obtain ⟨⟨p0, p1, p2, p3, p4, p5, p6, p7, p8, p9, p10⟩, pf⟩ := HK.out _ HB.out))
  go_ret
  exact ⟨rfl, behind HBW.out HB.out⟩
 go_upto_region 11 with (first
  | (go_at_call 40; refine (HI.out _ _ _ _).mono ?_; rintro e w1 ⟨rfl, rfl⟩; (first | rw [G4b.out] | rw [G7.out] | rw [G8.out]))
  | (go_at_call 44; refine (HM.out _ (by simp) (by simp) (behind HBW.out HB.out)).mono ?_; rintro e w1 ⟨rfl, hB⟩; replace HB := Lib.hid (behind HB.out hB); clear hB p0 p1 p2 p3 p4 p5 p6 p7 p8 p9 p10 pf; obtain ⟨⟨p0, p1, p2, p3, p4, p5, p6, p7, p8, p9, p10⟩, pf⟩ := HK.out _ HB.out))
 clear g1 g2 g5 g6 t1 t1b t2 hr1 hr2 hd1 hd2 hq3
 obtain ⟨ob, oo, rfl, hxx⟩ := HXY.out (GT8.out (by simp))
 have h7m : (1 : Int) ≤ (n7 : Int) := by have := GT8.out (by simp); omega
 have HXX := Lib.hid hxx
 clear hxx HX GT8 HXY
 have hx := HXX.out _ HB.out
 obtain rfl | rfl : bc = false ∨ bc = true := by cases bc <;> simp
 ·go_wp2_with (first
   | (go_at_call 45; with_reducible refine (HC.out _ (laid (behind HBW.out HB.out) _) _ (fun i u hu => ?_)).mono ?_; exact cell_lits _ #[.slice A2 n2 c2', .slice A3 n3 c3', .slice A4 n4 c4', .slice A5 n5 c5'] _ hu; rintro e w2 ⟨v', rfl, hB, hv'⟩; have HV2 := Lib.hid hv'; replace HB := Lib.hid ((laid HB.out _).trans (hB.mono (laid HB.out _).size)); clear hB hv' p0 p1 p2 p3 p4 p5 p6 p7 p8 p9 p10 pf hx; obtain ⟨⟨p0, p1, p2, p3, p4, p5, p6, p7, p8, p9, p10⟩, pf⟩ := HK.out _ HB.out; have hx := HXX.out _ HB.out)
   | (go_at_call 45; refine (HC2.out _ (laid (behind HBW.out HB.out) _) _ (fun i u hu => ?_)).mono ?_; exact cell_lits _ #[.slice A6 n6 c6', .slice (some ⟨ob, oo, none⟩) n7 c7'] _ hu; rintro e w2 ⟨v', rfl, hB, hv'⟩; have HV3 := Lib.hid hv'; replace HB := Lib.hid ((laid HB.out _).trans (hB.mono (laid HB.out _).size)); clear hB hv' p0 p1 p2 p3 p4 p5 p6 p7 p8 p9 p10 pf hx; obtain ⟨⟨p0, p1, p2, p3, p4, p5, p6, p7, p8, p9, p10⟩, pf⟩ := HK.out _ HB.out; have hx := HXX.out _ HB.out)
   | (go_at_call 41; refine (H1.out _ _ pf (behind HBW.out HB.out)).mono ?_; rintro e w1 ⟨rfl, hB⟩; replace HB := Lib.hid (behind HB.out hB); clear hB p0 p1 p2 p3 p4 p5 p6 p7 p8 p9 p10 pf hx; obtain ⟨⟨p0, p1, p2, p3, p4, p5, p6, p7, p8, p9, p10⟩, pf⟩ := HK.out _ HB.out; have hx := HXX.out _ HB.out)
   | (go_at_call 41; refine (H2.out _ _ _ pf HV2.out).mono ?_; rintro e w1 ⟨rfl, hB⟩; replace HB := Lib.hid (behind HB.out hB); clear hB p0 p1 p2 p3 p4 p5 p6 p7 p8 p9 p10 pf hx; obtain ⟨⟨p0, p1, p2, p3, p4, p5, p6, p7, p8, p9, p10⟩, pf⟩ := HK.out _ HB.out; have hx := HXX.out _ HB.out)
   | (go_at_call 41; refine (H3.out _ _ _ pf HV3.out).mono ?_; rintro e w1 ⟨rfl, hB⟩; replace HB := Lib.hid (behind HB.out hB); clear hB p0 p1 p2 p3 p4 p5 p6 p7 p8 p9 p10 pf hx; obtain ⟨⟨p0, p1, p2, p3, p4, p5, p6, p7, p8, p9, p10⟩, pf⟩ := HK.out _ HB.out; have hx := HXX.out _ HB.out))
  go_ret
  exact ⟨rfl, behind HBW.out HB.out⟩
 obtain rfl | rfl : bw = false ∨ bw = true := by cases bw <;> simp
 ·go_wp2_with (first
   | (go_at_call 45; with_reducible refine (HC.out _ (laid (behind HBW.out HB.out) _) _ (fun i u hu => ?_)).mono ?_; exact cell_lits _ #[.slice A2 n2 c2', .slice A3 n3 c3', .slice A4 n4 c4', .slice A5 n5 c5'] _ hu; rintro e w2 ⟨v', rfl, hB, hv'⟩; have HV2 := Lib.hid hv'; replace HB := Lib.hid ((laid HB.out _).trans (hB.mono (laid HB.out _).size)); clear hB hv' p0 p1 p2 p3 p4 p5 p6 p7 p8 p9 p10 pf hx; obtain ⟨⟨p0, p1, p2, p3, p4, p5, p6, p7, p8, p9, p10⟩, pf⟩ := HK.out _ HB.out; have hx := HXX.out _ HB.out)
   | (go_at_call 45; refine (HC2.out _ (laid (behind HBW.out HB.out) _) _ (fun i u hu => ?_)).mono ?_; exact cell_lits _ #[.slice A6 n6 c6', .slice (some ⟨ob, oo, none⟩) n7 c7'] _ hu; rintro e w2 ⟨v', rfl, hB, hv'⟩; have HV3 := Lib.hid hv'; replace HB := Lib.hid ((laid HB.out _).trans (hB.mono (laid HB.out _).size)); clear hB hv' p0 p1 p2 p3 p4 p5 p6 p7 p8 p9 p10 pf hx; obtain ⟨⟨p0, p1, p2, p3, p4, p5, p6, p7, p8, p9, p10⟩, pf⟩ := HK.out _ HB.out; have hx := HXX.out _ HB.out)
   | (go_at_call 41; refine (H1.out _ _ pf (behind HBW.out HB.out)).mono ?_; rintro e w1 ⟨rfl, hB⟩; replace HB := Lib.hid (behind HB.out hB); clear hB p0 p1 p2 p3 p4 p5 p6 p7 p8 p9 p10 pf hx; obtain ⟨⟨p0, p1, p2, p3, p4, p5, p6, p7, p8, p9, p10⟩, pf⟩ := HK.out _ HB.out; have hx := HXX.out _ HB.out)
   | (go_at_call 41; refine (H2.out _ _ _ pf HV2.out).mono ?_; rintro e w1 ⟨rfl, hB⟩; replace HB := Lib.hid (behind HB.out hB); clear hB p0 p1 p2 p3 p4 p5 p6 p7 p8 p9 p10 pf hx; obtain ⟨⟨p0, p1, p2, p3, p4, p5, p6, p7, p8, p9, p10⟩, pf⟩ := HK.out _ HB.out; have hx := HXX.out _ HB.out)
   | (go_at_call 41; refine (H3.out _ _ _ pf HV3.out).mono ?_; rintro e w1 ⟨rfl, hB⟩; replace HB := Lib.hid (behind HB.out hB); clear hB p0 p1 p2 p3 p4 p5 p6 p7 p8 p9 p10 pf hx; obtain ⟨⟨p0, p1, p2, p3, p4, p5, p6, p7, p8, p9, p10⟩, pf⟩ := HK.out _ HB.out; have hx := HXX.out _ HB.out))
  go_ret
  exact ⟨rfl, behind HBW.out HB.out⟩
 obtain rfl | rfl : bs = false ∨ bs = true := by cases bs <;> simp
 ·go_wp2_with (first
   | (go_at_call 45; with_reducible refine (HC.out _ (laid (behind HBW.out HB.out) _) _ (fun i u hu => ?_)).mono ?_; exact cell_lits _ #[.slice A2 n2 c2', .slice A3 n3 c3', .slice A4 n4 c4', .slice A5 n5 c5'] _ hu; rintro e w2 ⟨v', rfl, hB, hv'⟩; have HV2 := Lib.hid hv'; replace HB := Lib.hid ((laid HB.out _).trans (hB.mono (laid HB.out _).size)); clear hB hv' p0 p1 p2 p3 p4 p5 p6 p7 p8 p9 p10 pf hx; obtain ⟨⟨p0, p1, p2, p3, p4, p5, p6, p7, p8, p9, p10⟩, pf⟩ := HK.out _ HB.out; have hx := HXX.out _ HB.out)
   | (go_at_call 45; refine (HC2.out _ (laid (behind HBW.out HB.out) _) _ (fun i u hu => ?_)).mono ?_; exact cell_lits _ #[.slice A6 n6 c6', .slice (some ⟨ob, oo, none⟩) n7 c7'] _ hu; rintro e w2 ⟨v', rfl, hB, hv'⟩; have HV3 := Lib.hid hv'; replace HB := Lib.hid ((laid HB.out _).trans (hB.mono (laid HB.out _).size)); clear hB hv' p0 p1 p2 p3 p4 p5 p6 p7 p8 p9 p10 pf hx; obtain ⟨⟨p0, p1, p2, p3, p4, p5, p6, p7, p8, p9, p10⟩, pf⟩ := HK.out _ HB.out; have hx := HXX.out _ HB.out)
   | (go_at_call 41; refine (H1.out _ _ pf (behind HBW.out HB.out)).mono ?_; rintro e w1 ⟨rfl, hB⟩; replace HB := Lib.hid (behind HB.out hB); clear hB p0 p1 p2 p3 p4 p5 p6 p7 p8 p9 p10 pf hx; obtain ⟨⟨p0, p1, p2, p3, p4, p5, p6, p7, p8, p9, p10⟩, pf⟩ := HK.out _ HB.out; have hx := HXX.out _ HB.out)
   | (go_at_call 41; refine (H2.out _ _ _ pf HV2.out).mono ?_; rintro e w1 ⟨rfl, hB⟩; replace HB := Lib.hid (behind HB.out hB); clear hB p0 p1 p2 p3 p4 p5 p6 p7 p8 p9 p10 pf hx; obtain ⟨⟨p0, p1, p2, p3, p4, p5, p6, p7, p8, p9, p10⟩, pf⟩ := HK.out _ HB.out; have hx := HXX.out _ HB.out)
   | (go_at_call 41; refine (H3.out _ _ _ pf HV3.out).mono ?_; rintro e w1 ⟨rfl, hB⟩; replace HB := Lib.hid (behind HB.out hB); clear hB p0 p1 p2 p3 p4 p5 p6 p7 p8 p9 p10 pf hx; obtain ⟨⟨p0, p1, p2, p3, p4, p5, p6, p7, p8, p9, p10⟩, pf⟩ := HK.out _ HB.out; have hx := HXX.out _ HB.out))
  go_ret
  exact ⟨rfl, behind HBW.out HB.out⟩
 obtain rfl | rfl : bx = true ∨ bx = false := by cases bx <;> simp
 ·go_wp2_with (first
   | (go_at_call 45; with_reducible refine (HC.out _ (laid (behind HBW.out HB.out) _) _ (fun i u hu => ?_)).mono ?_; exact cell_lits _ #[.slice A2 n2 c2', .slice A3 n3 c3', .slice A4 n4 c4', .slice A5 n5 c5'] _ hu; rintro e w2 ⟨v', rfl, hB, hv'⟩; have HV2 := Lib.hid hv'; replace HB := Lib.hid ((laid HB.out _).trans (hB.mono (laid HB.out _).size)); clear hB hv' p0 p1 p2 p3 p4 p5 p6 p7 p8 p9 p10 pf hx; obtain ⟨⟨p0, p1, p2, p3, p4, p5, p6, p7, p8, p9, p10⟩, pf⟩ := HK.out _ HB.out; have hx := HXX.out _ HB.out)
   | (go_at_call 45; refine (HC2.out _ (laid (behind HBW.out HB.out) _) _ (fun i u hu => ?_)).mono ?_; exact cell_lits _ #[.slice A6 n6 c6', .slice (some ⟨ob, oo, none⟩) n7 c7'] _ hu; rintro e w2 ⟨v', rfl, hB, hv'⟩; have HV3 := Lib.hid hv'; replace HB := Lib.hid ((laid HB.out _).trans (hB.mono (laid HB.out _).size)); clear hB hv' p0 p1 p2 p3 p4 p5 p6 p7 p8 p9 p10 pf hx; obtain ⟨⟨p0, p1, p2, p3, p4, p5, p6, p7, p8, p9, p10⟩, pf⟩ := HK.out _ HB.out; have hx := HXX.out _ HB.out)
   | (go_at_call 41; refine (H1.out _ _ pf (behind HBW.out HB.out)).mono ?_; rintro e w1 ⟨rfl, hB⟩; replace HB := Lib.hid (behind HB.out hB); clear hB p0 p1 p2 p3 p4 p5 p6 p7 p8 p9 p10 pf hx; obtain ⟨⟨p0, p1, p2, p3, p4, p5, p6, p7, p8, p9, p10⟩, pf⟩ := HK.out _ HB.out; have hx := HXX.out _ HB.out)
   | (go_at_call 41; refine (H2.out _ _ _ pf HV2.out).mono ?_; rintro e w1 ⟨rfl, hB⟩; replace HB := Lib.hid (behind HB.out hB); clear hB p0 p1 p2 p3 p4 p5 p6 p7 p8 p9 p10 pf hx; obtain ⟨⟨p0, p1, p2, p3, p4, p5, p6, p7, p8, p9, p10⟩, pf⟩ := HK.out _ HB.out; have hx := HXX.out _ HB.out)
   | (go_at_call 41; refine (H3.out _ _ _ pf HV3.out).mono ?_; rintro e w1 ⟨rfl, hB⟩; replace HB := Lib.hid (behind HB.out hB); clear hB p0 p1 p2 p3 p4 p5 p6 p7 p8 p9 p10 pf hx; obtain ⟨⟨p0, p1, p2, p3, p4, p5, p6, p7, p8, p9, p10⟩, pf⟩ := HK.out _ HB.out; have hx := HXX.out _ HB.out))
  go_ret
  exact ⟨rfl, behind HBW.out HB.out⟩
 go_wp2_with (first
  | (go_at_call 45; with_reducible refine (HC.out _ (laid (behind HBW.out HB.out) _) _ (fun i u hu => ?_)).mono ?_; exact cell_lits _ #[.slice A2 n2 c2', .slice A3 n3 c3', .slice A4 n4 c4', .slice A5 n5 c5'] _ hu; rintro e w2 ⟨v', rfl, hB, hv'⟩; have HV2 := Lib.hid hv'; replace HB := Lib.hid ((laid HB.out _).trans (hB.mono (laid HB.out _).size)); clear hB hv' p0 p1 p2 p3 p4 p5 p6 p7 p8 p9 p10 pf hx; obtain ⟨⟨p0, p1, p2, p3, p4, p5, p6, p7, p8, p9, p10⟩, pf⟩ := HK.out _ HB.out; have hx := HXX.out _ HB.out)
  | (go_at_call 45; refine (HC2.out _ (laid (behind HBW.out HB.out) _) _ (fun i u hu => ?_)).mono ?_; exact cell_lits _ #[.slice A6 n6 c6', .slice (some ⟨ob, oo, none⟩) n7 c7'] _ hu; rintro e w2 ⟨v', rfl, hB, hv'⟩; have HV3 := Lib.hid hv'; replace HB := Lib.hid ((laid HB.out _).trans (hB.mono (laid HB.out _).size)); clear hB hv' p0 p1 p2 p3 p4 p5 p6 p7 p8 p9 p10 pf hx; obtain ⟨⟨p0, p1, p2, p3, p4, p5, p6, p7, p8, p9, p10⟩, pf⟩ := HK.out _ HB.out; have hx := HXX.out _ HB.out)
  | (go_at_call 41; refine (H1.out _ _ pf (behind HBW.out HB.out)).mono ?_; rintro e w1 ⟨rfl, hB⟩; replace HB := Lib.hid (behind HB.out hB); clear hB p0 p1 p2 p3 p4 p5 p6 p7 p8 p9 p10 pf hx; obtain ⟨⟨p0, p1, p2, p3, p4, p5, p6, p7, p8, p9, p10⟩, pf⟩ := HK.out _ HB.out; have hx := HXX.out _ HB.out)
  | (go_at_call 41; refine (H2.out _ _ _ pf HV2.out).mono ?_; rintro e w1 ⟨rfl, hB⟩; replace HB := Lib.hid (behind HB.out hB); clear hB p0 p1 p2 p3 p4 p5 p6 p7 p8 p9 p10 pf hx; obtain ⟨⟨p0, p1, p2, p3, p4, p5, p6, p7, p8, p9, p10⟩, pf⟩ := HK.out _ HB.out; have hx := HXX.out _ HB.out)
  | (go_at_call 41; refine (H3.out _ _ _ pf HV3.out).mono ?_; rintro e w1 ⟨rfl, hB⟩; replace HB := Lib.hid (behind HB.out hB); clear hB p0 p1 p2 p3 p4 p5 p6 p7 p8 p9 p10 pf hx; obtain ⟨⟨p0, p1, p2, p3, p4, p5, p6, p7, p8, p9, p10⟩, pf⟩ := HK.out _ HB.out; have hx := HXX.out _ HB.out))
 go_ret
 exact ⟨rfl, behind HBW.out HB.out⟩
end Go.Proofs.YtkcdgaijklhnaaaGreatDoor
namespace Go.Proofs.YtkcdgaijklhnaaaGreatDoor
open Go.RowKit
theorem chk_same (m : LModel) : chkM m = chkB (inB 1 3 m.kind) (inB 2 16 m.vocab) (inB 1 5 m.width) (inB 1 m.vocab m.top) (((m.cuts.length : Nat) : Int) != 4) (((m.embed.length : Nat) : Int) != m.vocab * m.width) ((m.place.length % m.width.toNat : Nat) != 0)
  (inB 1 16 ((m.place.length / m.width.toNat : Nat) : Int)) (decide (matZ m.kind m.width m.mix.length < 0)) (((m.out.length : Nat) : Int) != m.vocab * m.width) (inB 1 64 (m.soft.length : Int)) (inB 1 64 (m.odds.length : Int))
  (m.cuts.all (inB 1 15)) (([m.embed, m.place, m.mix, m.out].flatten).all (inB (-128) 127)) (([m.soft, m.odds].flatten).all (inB 0 1000)) (m.odds[0]?.getD 0 == 0) := by
 have hf : formM m = (!(((m.cuts.length : Nat) : Int) != 4) && !(((m.embed.length : Nat) : Int) != m.vocab * m.width) && !((m.place.length % m.width.toNat : Nat) != 0) && inB 1 16 ((m.place.length / m.width.toNat : Nat) : Int) && !(decide (matZ m.kind m.width m.mix.length < 0)) && !(((m.out.length : Nat) : Int) != m.vocab * m.width) && inB 1 64 (m.soft.length : Int) && inB 1 64 (m.odds.length : Int)) := by
  unfold formM
  rw [matZ_neg, rowsM_in]
  simp only [bne, Bool.not_not]
  generalize mixM m.kind m.width m.mix.length = a
  generalize (((m.cuts.length : Nat) : Int) == 4) = b
  generalize (((m.embed.length : Nat) : Int) == m.vocab * m.width) = c
  generalize (((m.out.length : Nat) : Int) == m.vocab * m.width) = d
  generalize (m.place.length % m.width.toNat == 0) = e
  generalize inB 1 16 ((m.place.length / m.width.toNat : Nat) : Int) = f
  generalize inB 1 64 (m.soft.length : Int) = g
  generalize inB 1 64 (m.odds.length : Int) = h
  cases a <;> cases b <;> cases c <;> cases d <;> cases e <;> cases f <;> rfl
 have hv : valM m = (m.cuts.all (inB 1 15) && ([m.embed, m.place, m.mix, m.out].flatten).all (inB (-128) 127) && ([m.soft, m.odds].flatten).all (inB 0 1000) && !(m.odds[0]?.getD 0 == 0)) := by
  unfold valM
  have e : ([m.soft, m.odds].flatten).all (inB 0 1000) = (m.soft.all (inB 0 1000) && m.odds.all (inB 0 1000)) := by simp [List.all_append]
  rw [e]
  simp only [Bool.and_assoc]
 unfold chkM chkB
 rw [← hf, ← hv]
 unfold sizedM
 generalize formM m = a
 generalize valM m = b
 generalize inB 1 3 m.kind = c
 generalize inB 2 16 m.vocab = d
 generalize inB 1 5 m.width = e
 generalize inB 1 m.vocab m.top = f
 cases a <;> cases b <;> cases c <;> cases d <;> cases e <;> cases f <;> rfl
set_option maxHeartbeats 4000000 in
set_option maxRecDepth 100000 in
theorem fault_any (m : LModel) (v : Value) (w : World) (hv : VModel w.cell? v m) (hsum : sumLen [m.embed, m.place, m.mix, m.out] ≤ 1000000) (hsum2 : sumLen [m.soft, m.odds] ≤ 1000000) : Calls Tryz.prog 7 #[v] w fun e w' => e = .returned (.int .i64 (chkM m)) ∧ Below w.heap.size w w' := by
 have HV : Hid (∀ w', Below w.heap.size w w' → VModel w'.cell? v m) := Lib.hid fun w' hb => hv.keep (Keeps.of_below hb)
 obtain ⟨a1, a2, a3, a4, a5, a6, a7, rfl, h1, h2, h3, h4, h5, h6, h7⟩ := hv
 obtain ⟨A1, c1, rfl, -, -, q1⟩ := h1.shape
 obtain ⟨n1, e1⟩ : ∃ n, m.cuts.length = n := ⟨_, rfl⟩
 rw [e1] at q1 h1 ⊢
 obtain ⟨A2, c2, rfl, -, -, q2⟩ := h2.shape
 obtain ⟨n2, e2⟩ : ∃ n, m.embed.length = n := ⟨_, rfl⟩
 rw [e2] at q2 h2 ⊢
 obtain ⟨A3, c3, rfl, -, -, q3⟩ := h3.shape
 obtain ⟨n3, e3⟩ : ∃ n, m.place.length = n := ⟨_, rfl⟩
 rw [e3] at q3 h3 ⊢
 obtain ⟨A4, c4, rfl, -, -, q4⟩ := h4.shape
 obtain ⟨n4, e4⟩ : ∃ n, m.mix.length = n := ⟨_, rfl⟩
 rw [e4] at q4 h4 ⊢
 obtain ⟨A5, c5, rfl, -, -, q5⟩ := h5.shape
 obtain ⟨n5, e5⟩ : ∃ n, m.out.length = n := ⟨_, rfl⟩
 rw [e5] at q5 h5 ⊢
 obtain ⟨A6, c6, rfl, -, -, q6⟩ := h6.shape
 obtain ⟨n6, e6⟩ : ∃ n, m.soft.length = n := ⟨_, rfl⟩
 rw [e6] at q6 h6 ⊢
 obtain ⟨A7, c7, rfl, -, -, q7⟩ := h7.shape
 obtain ⟨n7, e7⟩ : ∃ n, m.odds.length = n := ⟨_, rfl⟩
 rw [e7] at q7 h7 ⊢
 obtain ⟨K, eK⟩ : ∃ x, m.kind = x := ⟨_, rfl⟩
 obtain ⟨V, eV⟩ : ∃ x, m.vocab = x := ⟨_, rfl⟩
 obtain ⟨D, eD⟩ : ∃ x, m.width = x := ⟨_, rfl⟩
 obtain ⟨T, eT⟩ : ∃ x, m.top = x := ⟨_, rfl⟩
 rw [eK, eV, eD, eT]
 rw [e1, e2, e3, e4, e5, e6, e7, eK, eV, eD, eT] at HV
 have hsame := chk_same m
 rw [e1, e2, e3, e4, e5, e6, e7, eK, eV, eD, eT] at hsame
 rw [hsame]
 have K0 : ∀ W, Below w.heap.size w W → ∀ (b o : Nat) (x : Int), RInt w.cell? b o x → RInt W.cell? b o x := fun W hb b o x h => Keeps.of_below hb _ _ h
 refine fault_walk K V D T A1 A2 A3 A4 A5 A6 A7 n1 n2 n3 n4 n5 n6 n7 c1 c2 c3 c4 c5 c6 c7 (matZ K D n4) (m.odds[0]?.getD 0) _ _ _ _ _ _ _ _ _ _ _ _ _ _ _ _ w [m.embed, m.place, m.mix, m.out].flatten [m.soft, m.odds].flatten rfl rfl rfl rfl q3 rfl rfl rfl rfl rfl rfl rfl rfl rfl
  (Lib.hid fun W hk hd hb => ?_) (Lib.hid fun W f hf hb => ?_) (Lib.hid fun W f v' hf hv' => ?_) (Lib.hid fun W f v' hf hv' => ?_) (Lib.hid fun W hb b hc => ?_) (Lib.hid fun W hb b hc => ?_) (Lib.hid fun h => ?_)
 ·have h := matrices_any m _ W (HV.out W hb) (by rw [eK]; simp only [inB, Bool.and_eq_true, decide_eq_true_eq] at hk; omega) (by rw [eD]; simpa [inB] using hd)
  rwa [eK, eD, e4] at h
 ·exact fout_any m.cuts 1 15 f _ W (h1.mono (K0 W hb)) hf
 ·exact fout_any _ (-128) 127 f v' W hv' hf
 ·exact fout_any _ 0 1000 f v' W hv' hf
 ·refine (concat_int [m.embed, m.place, m.mix, m.out] _ W W.cell? (Keeps.refl _) ⟨_, _, rfl, Nat.le_refl 4, (by decide : 4 ≤ maxLen), (by simp), fun _ => ⟨b, 0, rfl, fun i x hx => ?_⟩⟩ ?_).mono fun e w' ⟨v', h1, h2, h3⟩ => ⟨v', h1, h2, h3.rws cellsInt (Keeps.of_below h2)⟩
  ·match i, hx with
   | 0, hx => simp at hx; subst hx; exact ⟨_, hc 0 _ rfl, h2.mono (K0 W hb)⟩
   | 1, hx => simp at hx; subst hx; exact ⟨_, hc 1 _ rfl, h3.mono (K0 W hb)⟩
   | 2, hx => simp at hx; subst hx; exact ⟨_, hc 2 _ rfl, h4.mono (K0 W hb)⟩
   | 3, hx => simp at hx; subst hx; exact ⟨_, hc 3 _ rfl, h5.mono (K0 W hb)⟩
   | i + 4, hx => simp at hx
  ·exact hsum
 ·refine (concat_int [m.soft, m.odds] _ W W.cell? (Keeps.refl _) ⟨_, _, rfl, Nat.le_refl 2, (by decide : 2 ≤ maxLen), (by simp), fun _ => ⟨b, 0, rfl, fun i x hx => ?_⟩⟩ ?_).mono fun e w' ⟨v', h1, h2, h3⟩ => ⟨v', h1, h2, h3.rws cellsInt (Keeps.of_below h2)⟩
  ·match i, hx with
   | 0, hx => simp at hx; subst hx; exact ⟨_, hc 0 _ rfl, h6.mono (K0 W hb)⟩
   | 1, hx => simp at hx; subst hx; exact ⟨_, hc 1 _ rfl, h7.mono (K0 W hb)⟩
   | i + 2, hx => simp at hx
  ·exact hsum2
 ·obtain ⟨ob, oo, hA, hcell⟩ := h7.at_ (by omega)
  have hl : (0 : Nat) < m.odds.length := by omega
  refine ⟨ob, oo, hA, ?_⟩
  have := hcell 0 _ (List.getElem?_eq_getElem hl)
  rw [List.getElem?_eq_getElem hl, Option.getD_some]
  simpa [RInt] using this
end Go.Proofs.YtkcdgaijklhnaaaGreatDoor
