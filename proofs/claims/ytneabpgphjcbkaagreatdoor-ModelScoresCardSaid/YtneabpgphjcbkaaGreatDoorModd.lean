/-
  The models: Make, Check by hand, and what a drawn model keeps to.
-/
import Derived.Test.YtneabpgphjcbkaaGreatDoorSl
import Derived.Test.YtneabpgphjcbkaaGreatDoorCin
namespace Go.Proofs.YtneabpgphjcbkaaGreatDoor
open Go.RowKit

def inB (lo hi n : Int) : Bool := decide (lo ≤ n) && decide (n ≤ hi)
theorem mwithin_any (n lo hi : Int) (w : World) : Calls Tryz.prog 40 #[.int .i64 n, .int .i64 lo, .int .i64 hi] w fun e w' => e = .returned (.bool (inB lo hi n)) ∧ w' = w := by
  go_enter Tryz.func40, Tryz.ntmps40
  by_cases h : lo ≤ n
  · go_wp2
    go_ret
    exact ⟨by simp [inB, h], rfl⟩
  · go_wp2
    go_ret
    exact ⟨by simp [inB, show ¬ lo ≤ n by omega], rfl⟩
theorem enter_all1 : ∀ args w, (callFunc 66 args).run Tryz.prog w = .ok (.enter 66 args) w := fun _ _ => by kernel_rfl
theorem all1_any (n lo hi : Int) (p q : Nat) (w : World) (hp : w.cell? ⟨p, 0, none⟩ = some (.int .i64 lo)) (hq : w.cell? ⟨q, 0, none⟩ = some (.int .i64 hi)) :
    Calls Tryz.prog 66 #[.int .i64 n, .pointer (some ⟨p, 0, none⟩), .pointer (some ⟨q, 0, none⟩)] w fun e w' => e = .returned (.bool (!inB lo hi n)) ∧ Below w.heap.size w w' := by
  have HW := Lib.hid (mwithin_any n lo hi)
  go_enter Tryz.func66, Tryz.ntmps66
  go_wp2_with (go_at_call 40; refine (HW.out _).mono ?_; rintro e w1 ⟨rfl, rfl⟩)
  go_ret
  exact ⟨rfl, Below.refl _ _⟩
set_option maxHeartbeats 1000000 in
set_option maxRecDepth 100000 in
theorem all_any (l : List Int) (lo hi : Int) (v : Value) (w : World) (hv : RInts w.cell? v l) :
    Calls Tryz.prog 42 #[v, .int .i64 lo, .int .i64 hi] w fun e w' => e = .returned (.bool (l.all (inB lo hi))) ∧ Below w.heap.size w w' := by
  obtain ⟨A, n, c, rfl⟩ := hv.sl
  obtain ⟨W, hW⟩ : ∃ W, W = (w.alloc (.cells #[.int .i64 lo] 3)).alloc (.cells #[.int .i64 hi] 3) := ⟨_, rfl⟩
  have hz1 : (w.alloc (.cells #[.int .i64 lo] 3)).heap.size = w.heap.size + 1 := World.size_alloc _ _
  have hb0 : Bk W w.heap.size 3 #[.int .i64 lo] := by rw [hW]; exact (Bk.new _ _ _).alloc _
  have hb1 : Bk W (w.heap.size + 1) 3 #[.int .i64 hi] := by rw [hW, ← hz1]; exact Bk.new _ _ _
  have HBW : Hid (Below w.heap.size w W) := Lib.hid (by rw [hW]; exact laid (laid (Below.refl _ _) _) _)
  have HC : Hid (Calls Tryz.prog 31 #[.slice A n c, .func (.func 66) #[] #[.pointer (some ⟨w.heap.size, 0, none⟩), .pointer (some ⟨w.heap.size + 1, 0, none⟩)]] W fun e w' => e = .returned (.bool (l.any fun n => !inB lo hi n)) ∧ Below W.heap.size W w') :=
    Lib.hid (has_int 66 #[.pointer (some ⟨w.heap.size, 0, none⟩), .pointer (some ⟨w.heap.size + 1, 0, none⟩)] (fun n => !inB lo hi n) enter_all1 l (.slice A n c) W (Rws.mono hv fun b o x h => Keeps.of_below HBW.out _ _ h) (fun n _ u W' hB hu => by subst hu; exact all1_any n lo hi _ _ W' ((hb0.low hB).cell 0) ((hb1.low hB).cell 0)))
  have HW := Lib.hid hW
  clear hW hb0 hb1 hz1 hv
  go_enter Tryz.func42, Tryz.ntmps42
  go_wp2_with (go_at_call 31; rw [← HW.out]; refine HC.out.mono ?_; rintro e w1 ⟨rfl, hB⟩; have HB := Lib.hid (behind HBW.out hB); clear hB)
  go_ret
  exact ⟨by simp [List.any_eq_not_all_not], HB.out⟩
/-- the error of a kind, a number of tokens and a width -/
def sizedM (kind vocab width : Int) : Int := if inB 1 3 kind then (if inB 2 16 vocab && inB 1 5 width then 0 else 9) else 4
set_option maxHeartbeats 1000000 in
set_option maxRecDepth 100000 in
theorem sized_any (kind vocab width : Int) (w : World) : Calls Tryz.prog 39 #[.int .i64 kind, .int .i64 vocab, .int .i64 width] w fun e w' => e = .returned (.int .i64 (sizedM kind vocab width)) ∧ w' = w := by
  have HW := Lib.hid mwithin_any
  obtain ⟨a, ha⟩ : ∃ a, inB 1 3 kind = a := ⟨_, rfl⟩
  obtain ⟨b, hb⟩ : ∃ a, inB 2 16 vocab = a := ⟨_, rfl⟩
  obtain ⟨c, hc⟩ : ∃ a, inB 1 5 width = a := ⟨_, rfl⟩
  have hs : sizedM kind vocab width = if a then (if b && c then 0 else 9) else 4 := by rw [sizedM, ha, hb, hc]
  rw [hs]
  have HA := Lib.hid ha
  have HB := Lib.hid hb
  have HC := Lib.hid hc
  clear ha hb hc hs
  cases a <;> cases b <;> cases c <;>
  · go_enter Tryz.func39, Tryz.ntmps39
    go_wp2_with (go_at_call 40; refine (HW.out _ _ _ _).mono ?_; rintro e w1 ⟨rfl, rfl⟩; (first | rw [HA.out] | rw [HB.out] | rw [HC.out]))
    go_ret
    exact ⟨rfl, rfl⟩
/-- how many whole rows -/
def rowsM (n w : Nat) : Nat := if n % w = 0 then n / w else 0
set_option maxHeartbeats 1000000 in
theorem rows_any (A : Option Addr) (n c : Nat) (k : Nat) (w : World) (hk : 1 ≤ k) (hk2 : k ≤ 1000) (hn : n ≤ 1000000) : Calls Tryz.prog 65 #[.slice A n c, .int .i64 k] w fun e w' => e = .returned (.int .i64 (rowsM n k)) ∧ w' = w := by
  have h1 : (1 : Int) ≤ (k : Int) := by omega
  have h2 : (k : Int) ≤ 1000 := by omega
  have h3 : (n : Int) ≤ 1000000 := by omega
  by_cases h : n % k = 0
  · have h4 : (n : Int).tmod (k : Int) = 0 := by rw [← Int.ofNat_tmod, h]; rfl
    have hr : Hid (wrap64 ((n : Int) / (k : Int)) = (rowsM n k : Nat)) := Lib.hid (by
      rw [rowsM, if_pos h]
      have h5 : n / k ≤ n := Nat.div_le_self n k
      have h6 : ((n : Int) / (k : Int)) = ((n / k : Nat) : Int) := (Int.natCast_ediv n k).symm
      rw [h6]
      obtain ⟨q, hq⟩ : ∃ q, n / k = q := ⟨_, rfl⟩
      rw [hq] at h5 ⊢
      unfold wrap64; omega)
    go_enter Tryz.func65, Tryz.ntmps65
    go_wp2
    go_ret
    exact ⟨by rw [hr.out]; rfl, rfl⟩
  · have h4 : ¬ (n : Int).tmod (k : Int) = 0 := by rw [← Int.ofNat_tmod]; omega
    have h5 : ((n : Int).tmod (k : Int) == 0) = false := by simpa using h4
    have h6 : ((n : Int) % (k : Int) == 0) = false := by rw [← Int.tmod_eq_emod_of_nonneg (by omega)]; exact h5
    have hr : Hid ((rowsM n k) = 0) := Lib.hid (by rw [rowsM, if_neg h])
    go_enter Tryz.func65, Tryz.ntmps65
    go_wp2
    all_goals go_ret
    all_goals exact ⟨by rw [hr.out]; rfl, rfl⟩
end Go.Proofs.YtneabpgphjcbkaaGreatDoor

namespace Go.Proofs.YtneabpgphjcbkaaGreatDoor
open Go.RowKit

theorem i64_wrap_id {x : Int} (h1 : -1000000000000 ≤ x) (h2 : x ≤ 1000000000000) : IntKind.i64.wrap x = x := by
  simp [IntKind.wrap, IntKind.signed, IntKind.bits]; omega
theorem wrap64_id {x : Int} (h1 : -1000000000000 ≤ x) (h2 : x ≤ 1000000000000) : wrap64 x = x := by
  unfold wrap64; omega
structure LModel where
  kind : Int
  vocab : Int
  width : Int
  top : Int
  cuts : List Int
  embed : List Int
  place : List Int
  mix : List Int
  out : List Int
  soft : List Int
  odds : List Int
/-- a model's value -/
def VModel (C : Cl) (v : Value) (m : LModel) : Prop := ∃ a b c d e f g, v = .agg #[.int .i64 m.kind, .int .i64 m.vocab, .int .i64 m.width, .int .i64 m.top, a, b, c, d, e, f, g] ∧ RInts C a m.cuts ∧ RInts C b m.embed ∧ RInts C c m.place ∧ RInts C d m.mix ∧ RInts C e m.out ∧ RInts C f m.soft ∧ RInts C g m.odds
theorem VModel.keep {C C' : Cl} {v : Value} {m : LModel} (h : VModel C v m) (k : Keeps C C') : VModel C' v m := by
  obtain ⟨a, b, c, d, e, f, g, hv, h1, h2, h3, h4, h5, h6, h7⟩ := h
  have K : ∀ (b o : Nat) (x : Int), RInt C b o x → RInt C' b o x := fun b o x h => k _ _ h
  exact ⟨a, b, c, d, e, f, g, hv, h1.mono K, h2.mono K, h3.mono K, h4.mono K, h5.mono K, h6.mono K, h7.mono K⟩
/-- a model of the first kind that is as it must be -/
structure GoodM (m : LModel) : Prop where
  kind : m.kind = 1
  vocab : inB 2 16 m.vocab = true
  width : inB 1 5 m.width = true
  top : inB 1 m.vocab m.top = true
  cuts : m.cuts.length = 4
  embed : (m.embed.length : Int) = m.vocab * m.width
  out : (m.out.length : Int) = m.vocab * m.width
  place : inB 1 16 (rowsM m.place.length m.width.toNat : Nat) = true
  mix : (m.mix.length : Int) = 3 * m.width * m.width
  soft : inB 1 64 (m.soft.length : Nat) = true
  odds : inB 1 64 (m.odds.length : Nat) = true
  rcuts : m.cuts.all (inB 1 15) = true
  rembed : m.embed.all (inB (-128) 127) = true
  rplace : m.place.all (inB (-128) 127) = true
  rmix : m.mix.all (inB (-128) 127) = true
  rout : m.out.all (inB (-128) 127) = true
  rsoft : m.soft.all (inB 0 1000) = true
  rodds : m.odds.all (inB 0 1000) = true
  first : m.odds[0]?.getD 0 ≠ 0
set_option maxHeartbeats 4000000 in
set_option maxRecDepth 100000 in
theorem formed_good (m : LModel) (g : GoodM m) (v : Value) (w : World) (hv : VModel w.cell? v m) : Calls Tryz.prog 41 #[v] w fun e w' => e = .returned (.bool true) ∧ Below w.heap.size w w' := by
  have HG := Lib.hid g
  obtain ⟨a1, a2, a3, a4, a5, a6, a7, rfl, h1, h2, h3, h4, h5, h6, h7⟩ := hv

  obtain ⟨A1, c1, rfl, -, -, q1⟩ := h1.shape
  obtain ⟨n1, e1⟩ : ∃ n, m.cuts.length = n := ⟨_, rfl⟩
  rw [e1] at q1 ⊢
  obtain ⟨A2, c2, rfl, -, -, q2⟩ := h2.shape
  obtain ⟨n2, e2⟩ : ∃ n, m.embed.length = n := ⟨_, rfl⟩
  rw [e2] at q2 ⊢
  obtain ⟨A3, c3, rfl, -, -, q3⟩ := h3.shape
  obtain ⟨n3, e3⟩ : ∃ n, m.place.length = n := ⟨_, rfl⟩
  rw [e3] at q3 ⊢
  obtain ⟨A4, c4, rfl, -, -, q4⟩ := h4.shape
  obtain ⟨n4, e4⟩ : ∃ n, m.mix.length = n := ⟨_, rfl⟩
  rw [e4] at q4 ⊢
  obtain ⟨A5, c5, rfl, -, -, q5⟩ := h5.shape
  obtain ⟨n5, e5⟩ : ∃ n, m.out.length = n := ⟨_, rfl⟩
  rw [e5] at q5 ⊢
  obtain ⟨A6, c6, rfl, -, -, q6⟩ := h6.shape
  obtain ⟨n6, e6⟩ : ∃ n, m.soft.length = n := ⟨_, rfl⟩
  rw [e6] at q6 ⊢
  obtain ⟨A7, c7, rfl, -, -, q7⟩ := h7.shape
  obtain ⟨n7, e7⟩ : ∃ n, m.odds.length = n := ⟨_, rfl⟩
  rw [e7] at q7 ⊢
  obtain ⟨K, eK⟩ : ∃ x, m.kind = x := ⟨_, rfl⟩
  obtain ⟨V, eV⟩ : ∃ x, m.vocab = x := ⟨_, rfl⟩
  obtain ⟨D, eD⟩ : ∃ x, m.width = x := ⟨_, rfl⟩
  obtain ⟨T, eT⟩ : ∃ x, m.top = x := ⟨_, rfl⟩
  rw [eK, eV, eD, eT]
  obtain rfl : K = 1 := by rw [← eK]; exact g.kind
  obtain rfl : n1 = 4 := by rw [← e1]; exact g.cuts
  have hV : 2 ≤ V ∧ V ≤ 16 := by rw [← eV]; simpa [inB] using g.vocab
  have hD : 1 ≤ D ∧ D ≤ 5 := by rw [← eD]; simpa [inB] using g.width
  obtain ⟨V1, V2⟩ := hV
  obtain ⟨D1, D2⟩ := hD
  have m2 : (n2 : Int) = V * D := by rw [← e2, ← eV, ← eD]; exact g.embed
  have m5 : (n5 : Int) = V * D := by rw [← e5, ← eV, ← eD]; exact g.out
  have m4 : (n4 : Int) = 3 * D * D := by rw [← e4, ← eD]; exact g.mix
  obtain rfl : n5 = n2 := by have := m2.trans m5.symm; omega
  have hD5 : D = 1 ∨ D = 2 ∨ D = 3 ∨ D = 4 ∨ D = 5 := by omega
  have t1 : IntKind.i64.wrap (V * D) = (n5 : Int) := by
    rw [m2]
    have : 0 ≤ V * D ∧ V * D ≤ 80 := by rcases hD5 with rfl | rfl | rfl | rfl | rfl <;> omega
    exact i64_wrap_id (by omega) (by omega)
  have t3 : IntKind.i64.wrap (3 * D) = 3 * D := i64_wrap_id (by omega) (by omega)
  have t4 : IntKind.i64.wrap (3 * D * D) = (n4 : Int) := by
    rw [m4]
    rcases hD5 with rfl | rfl | rfl | rfl | rfl <;> decide
  have HR : Hid (∀ W, Calls Tryz.prog 65 #[.slice A3 n3 c3, .int .i64 D] W fun e w' => e = .returned (.int .i64 (rowsM n3 D.toNat : Nat)) ∧ w' = W) := Lib.hid fun W => by
    have h := rows_any A3 n3 c3 D.toNat W (by omega) (by omega) q3
    rwa [Int.toNat_of_nonneg (by omega)] at h
  have HI := Lib.hid mwithin_any
  have HPL : Hid (inB 1 16 (rowsM n3 D.toNat : Nat) = true) := Lib.hid (by rw [← e3, ← eD]; exact g.place)
  have HSO : Hid (inB 1 64 (n6 : Nat) = true) := Lib.hid (by rw [← e6]; exact g.soft)
  have HOD : Hid (inB 1 64 (n7 : Nat) = true) := Lib.hid (by rw [← e7]; exact g.odds)
  obtain ⟨W, hW⟩ : ∃ W, W = w.alloc (.cells #[.int .i64 1, .int .i64 V, .int .i64 D, .int .i64 T, .slice A1 4 c1, .slice A2 n5 c2, .slice A3 n3 c3, .slice A4 n4 c4, .slice A5 n5 c5, .slice A6 n6 c6, .slice A7 n7 c7] 27) := ⟨_, rfl⟩
  have hb : Bk W w.heap.size 27 #[.int .i64 1, .int .i64 V, .int .i64 D, .int .i64 T, .slice A1 4 c1, .slice A2 n5 c2, .slice A3 n3 c3, .slice A4 n4 c4, .slice A5 n5 c5, .slice A6 n6 c6, .slice A7 n7 c7] := by rw [hW]; exact Bk.new _ _ _
  have HBW : Hid (Below w.heap.size w W) := Lib.hid (by rw [hW]; exact laid (Below.refl _ _) _)
  obtain ⟨p0, p1, p2, p3, p4, p5, p6, p7, p8, p9, p10⟩ : W.cell? ⟨w.heap.size, 0, none⟩ = some (.int .i64 1) ∧ W.cell? ⟨w.heap.size, 1, none⟩ = some (.int .i64 V) ∧ W.cell? ⟨w.heap.size, 2, none⟩ = some (.int .i64 D) ∧ W.cell? ⟨w.heap.size, 3, none⟩ = some (.int .i64 T) ∧ W.cell? ⟨w.heap.size, 4, none⟩ = some (.slice A1 4 c1) ∧ W.cell? ⟨w.heap.size, 5, none⟩ = some (.slice A2 n5 c2) ∧ W.cell? ⟨w.heap.size, 6, none⟩ = some (.slice A3 n3 c3) ∧ W.cell? ⟨w.heap.size, 7, none⟩ = some (.slice A4 n4 c4) ∧ W.cell? ⟨w.heap.size, 8, none⟩ = some (.slice A5 n5 c5) ∧ W.cell? ⟨w.heap.size, 9, none⟩ = some (.slice A6 n6 c6) ∧ W.cell? ⟨w.heap.size, 10, none⟩ = some (.slice A7 n7 c7) := by have h := hb.cell; exact ⟨h 0, h 1, h 2, h 3, h 4, h 5, h 6, h 7, h 8, h 9, h 10⟩
  have HW := Lib.hid hW
  clear hW hb g h1 h2 h3 h4 h5 h6 h7 e1 e2 e3 e4 e5 e6 e7 eK eV eD eT m2 m4 m5 hD5
  go_enter Tryz.func41, Tryz.ntmps41
  go_wp2_with fail
  rw [← HW.out]
  go_wp2_with (first
    | (go_at_call 65; refine (HR.out _).mono ?_; rintro e w1 ⟨rfl, rfl⟩)
    | (go_at_call 40; refine (HI.out _ _ _ _).mono ?_; rintro e w1 ⟨rfl, rfl⟩; (first | rw [HPL.out] | rw [HSO.out] | rw [HOD.out])))
  go_ret
  exact ⟨rfl, HBW.out⟩
end Go.Proofs.YtneabpgphjcbkaaGreatDoor

namespace Go.Proofs.YtneabpgphjcbkaaGreatDoor
open Go.RowKit

theorem all_flat4 (p : Int → Bool) (a b c d : List Int) (h1 : a.all p = true) (h2 : b.all p = true) (h3 : c.all p = true) (h4 : d.all p = true) : ([a, b, c, d].flatten).all p = true := by
  simp [List.all_append, h1, h2, h3, h4]
theorem rows_le {n k : Nat} (h : inB 1 16 (rowsM n k : Nat) = true) (hk : k = 1 ∨ k = 2 ∨ k = 3 ∨ k = 4 ∨ k = 5) : n ≤ 80 := by
  by_cases hh : n % k = 0
  · rw [rowsM, if_pos hh] at h
    simp only [inB, Bool.and_eq_true, decide_eq_true_eq] at h
    rcases hk with rfl | rfl | rfl | rfl | rfl <;> omega
  · rw [rowsM, if_neg hh] at h
    simp [inB] at h
theorem GoodM.sum {m : LModel} (g : GoodM m) : sumLen [m.embed, m.place, m.mix, m.out] ≤ 1000000 := by
  have hV : 2 ≤ m.vocab ∧ m.vocab ≤ 16 := by simpa [inB] using g.vocab
  have hD : 1 ≤ m.width ∧ m.width ≤ 5 := by simpa [inB] using g.width
  have hp := rows_le g.place (by omega)
  have he := g.embed
  have ho := g.out
  have hm := g.mix
  have hW : m.width = 1 ∨ m.width = 2 ∨ m.width = 3 ∨ m.width = 4 ∨ m.width = 5 := by omega
  simp only [sumLen, List.map_cons, List.map_nil, List.sum_cons, List.sum_nil]
  rcases hW with e | e | e | e | e <;> rw [e] at he ho hm <;> omega
theorem cell_lits (w : World) (l : Array Value) (T : TypeId) {i : Nat} {u : Value} (h : l.toList[i]? = some u) : (w.alloc (.cells l T)).cell? ⟨w.heap.size, i, none⟩ = some u := by
  rw [Array.getElem?_toList] at h
  exact ((Bk.new w T l).cell i).trans h
set_option maxHeartbeats 4000000 in
set_option maxRecDepth 100000 in
theorem check_good (m : LModel) (g : GoodM m) (v : Value) (w : World) (hv : VModel w.cell? v m) : Calls Tryz.prog 13 #[v] w fun e w' => e = .returned (.int .i64 0) ∧ Below w.heap.size w w' := by
  have HV : Hid (∀ w', Below w.heap.size w w' → VModel w'.cell? v m) := Lib.hid fun w' hb => hv.keep (Keeps.of_below hb)
  have HG := Lib.hid g
  obtain ⟨a1, a2, a3, a4, a5, a6, a7, rfl, h1, h2, h3, h4, h5, h6, h7⟩ := hv

  obtain ⟨A1, n1, c1, rfl⟩ := h1.sl
  obtain ⟨A2, n2, c2, rfl⟩ := h2.sl
  obtain ⟨A3, n3, c3, rfl⟩ := h3.sl
  obtain ⟨A4, n4, c4, rfl⟩ := h4.sl
  obtain ⟨A5, n5, c5, rfl⟩ := h5.sl
  obtain ⟨A6, n6, c6, rfl⟩ := h6.sl
  obtain ⟨A7, n7, c7, rfl⟩ := h7.sl
  have h70 : 1 ≤ m.odds.length := by have := g.odds; simp [inB] at this; omega
  have e7 := h7.len
  have h7n : 1 ≤ n7 := by omega
  have h7m : (1 : Int) ≤ (n7 : Int) := by omega
  obtain ⟨ob, oo, rfl, hcell⟩ := h7.at_ (by omega)
  obtain ⟨X, hX⟩ : ∃ X, m.odds[0]? = some X := ⟨_, List.getElem?_eq_getElem (by omega)⟩
  have hx0 : w.cell? ⟨ob, oo, none⟩ = some (.int .i64 X) := by have := hcell 0 X hX; simpa [RInt] using this
  have hX0 : (X == 0) = false := by have := g.first; rw [hX] at this; simpa using this
  obtain ⟨K, eK⟩ : ∃ x, m.kind = x := ⟨_, rfl⟩
  obtain ⟨V, eV⟩ : ∃ x, m.vocab = x := ⟨_, rfl⟩
  obtain ⟨D, eD⟩ : ∃ x, m.width = x := ⟨_, rfl⟩
  obtain ⟨T, eT⟩ : ∃ x, m.top = x := ⟨_, rfl⟩
  have HF : Hid (∀ W, Below w.heap.size w W → Calls Tryz.prog 41 #[.agg #[.int .i64 K, .int .i64 V, .int .i64 D, .int .i64 T, .slice A1 n1 c1, .slice A2 n2 c2, .slice A3 n3 c3, .slice A4 n4 c4, .slice A5 n5 c5, .slice A6 n6 c6, .slice (some ⟨ob, oo, none⟩) n7 c7]] W fun e w' => e = .returned (.bool true) ∧ Below W.heap.size W w') := Lib.hid fun W hb => by have h := formed_good m g _ W (HV.out W hb); rwa [eK, eV, eD, eT] at h
  have HS : Hid (∀ W, Calls Tryz.prog 39 #[.int .i64 K, .int .i64 V, .int .i64 D] W fun e w' => e = .returned (.int .i64 0) ∧ w' = W) := Lib.hid fun W => by
    have h := sized_any K V D W
    rwa [show sizedM K V D = 0 by rw [sizedM, ← eK, ← eV, ← eD, g.kind, g.vocab, g.width]; rfl] at h
  have HI : Hid (∀ W, Calls Tryz.prog 40 #[.int .i64 T, .int .i64 1, .int .i64 V] W fun e w' => e = .returned (.bool true) ∧ w' = W) := Lib.hid fun W => by
    have h := mwithin_any T 1 V W
    rwa [← eT, ← eV, g.top, eT, eV] at h
  have K0 : ∀ W, Below w.heap.size w W → ∀ (b o : Nat) (x : Int), RInt w.cell? b o x → RInt W.cell? b o x := fun W hb b o x h => Keeps.of_below hb _ _ h
  have H1 : Hid (∀ W, Below w.heap.size w W → Calls Tryz.prog 42 #[.slice A1 n1 c1, .int .i64 1, .int .i64 15] W fun e w' => e = .returned (.bool true) ∧ Below W.heap.size W w') := Lib.hid fun W hb => by have h := all_any m.cuts 1 15 _ W (h1.mono (K0 W hb)); rwa [g.rcuts] at h
  have H6 : Hid (∀ W, Below w.heap.size w W → Calls Tryz.prog 42 #[.slice A6 n6 c6, .int .i64 0, .int .i64 1000] W fun e w' => e = .returned (.bool true) ∧ Below W.heap.size W w') := Lib.hid fun W hb => by have h := all_any m.soft 0 1000 _ W (h6.mono (K0 W hb)); rwa [g.rsoft] at h
  have H7 : Hid (∀ W, Below w.heap.size w W → Calls Tryz.prog 42 #[.slice (some ⟨ob, oo, none⟩) n7 c7, .int .i64 0, .int .i64 1000] W fun e w' => e = .returned (.bool true) ∧ Below W.heap.size W w') := Lib.hid fun W hb => by have h := all_any m.odds 0 1000 _ W (h7.mono (K0 W hb)); rwa [g.rodds] at h
  have H8 : Hid (∀ W, Below w.heap.size w W → ∀ v', RInts W.cell? v' [m.embed, m.place, m.mix, m.out].flatten → Calls Tryz.prog 42 #[v', .int .i64 (-128), .int .i64 127] W fun e w' => e = .returned (.bool true) ∧ Below W.heap.size W w') := Lib.hid fun W hb v' hv' => by have h := all_any _ (-128) 127 v' W hv'; rwa [all_flat4 _ _ _ _ _ g.rembed g.rplace g.rmix g.rout] at h
  have HC : Hid (∀ W, Below w.heap.size w W → ∀ b, (∀ i u, ([.slice A2 n2 c2, .slice A3 n3 c3, .slice A4 n4 c4, .slice A5 n5 c5] : List Value)[i]? = some u → W.cell? ⟨b, i, none⟩ = some u) → Calls Tryz.prog 34 #[.slice (some ⟨b, 0, none⟩) 4 4] W fun e w' => ∃ v', e = .returned v' ∧ Below W.heap.size W w' ∧ RInts w'.cell? v' [m.embed, m.place, m.mix, m.out].flatten) := Lib.hid fun W hb b hc => by
    refine (concat_int [m.embed, m.place, m.mix, m.out] _ W W.cell? (Keeps.refl _) ⟨_, _, rfl, Nat.le_refl 4, (by decide : 4 ≤ maxLen), (by simp), fun _ => ⟨b, 0, rfl, fun i x hx => ?_⟩⟩ ?_).mono fun e w' ⟨v', h1, h2, h3⟩ => ⟨v', h1, h2, h3.rws cellsInt (Keeps.of_below h2)⟩
    · match i, hx with
      | 0, hx => simp at hx; subst hx; exact ⟨_, hc 0 _ rfl, h2.mono (K0 W hb)⟩
      | 1, hx => simp at hx; subst hx; exact ⟨_, hc 1 _ rfl, h3.mono (K0 W hb)⟩
      | 2, hx => simp at hx; subst hx; exact ⟨_, hc 2 _ rfl, h4.mono (K0 W hb)⟩
      | 3, hx => simp at hx; subst hx; exact ⟨_, hc 3 _ rfl, h5.mono (K0 W hb)⟩
      | i + 4, hx => simp at hx
    · exact g.sum
  rw [eK, eV, eD, eT]
  obtain ⟨W, hW⟩ : ∃ W, W = w.alloc (.cells #[.int .i64 K, .int .i64 V, .int .i64 D, .int .i64 T, .slice A1 n1 c1, .slice A2 n2 c2, .slice A3 n3 c3, .slice A4 n4 c4, .slice A5 n5 c5, .slice A6 n6 c6, .slice (some ⟨ob, oo, none⟩) n7 c7] 27) := ⟨_, rfl⟩
  have hb : Bk W w.heap.size 27 #[.int .i64 K, .int .i64 V, .int .i64 D, .int .i64 T, .slice A1 n1 c1, .slice A2 n2 c2, .slice A3 n3 c3, .slice A4 n4 c4, .slice A5 n5 c5, .slice A6 n6 c6, .slice (some ⟨ob, oo, none⟩) n7 c7] := by rw [hW]; exact Bk.new _ _ _
  have HBW : Hid (Below w.heap.size w W) := Lib.hid (by rw [hW]; exact laid (Below.refl _ _) _)
  have HB : Hid (Below W.heap.size W W) := Lib.hid (Below.refl _ _)
  have HK : Hid (∀ w', Below W.heap.size W w' → (w'.cell? ⟨w.heap.size, 0, none⟩ = some (.int .i64 K) ∧ w'.cell? ⟨w.heap.size, 1, none⟩ = some (.int .i64 V) ∧ w'.cell? ⟨w.heap.size, 2, none⟩ = some (.int .i64 D) ∧ w'.cell? ⟨w.heap.size, 3, none⟩ = some (.int .i64 T) ∧ w'.cell? ⟨w.heap.size, 4, none⟩ = some (.slice A1 n1 c1) ∧ w'.cell? ⟨w.heap.size, 5, none⟩ = some (.slice A2 n2 c2) ∧ w'.cell? ⟨w.heap.size, 6, none⟩ = some (.slice A3 n3 c3) ∧ w'.cell? ⟨w.heap.size, 7, none⟩ = some (.slice A4 n4 c4) ∧ w'.cell? ⟨w.heap.size, 8, none⟩ = some (.slice A5 n5 c5) ∧ w'.cell? ⟨w.heap.size, 9, none⟩ = some (.slice A6 n6 c6) ∧ w'.cell? ⟨w.heap.size, 10, none⟩ = some (.slice (some ⟨ob, oo, none⟩) n7 c7)) ∧ w'.cell? ⟨ob, oo, none⟩ = some (.int .i64 X)) := Lib.hid fun w' hb' => ⟨by have h := (hb.low hb').cell; exact ⟨h 0, h 1, h 2, h 3, h 4, h 5, h 6, h 7, h 8, h 9, h 10⟩, Keeps.of_below hb' _ _ (Keeps.of_below HBW.out _ _ hx0)⟩
  obtain ⟨⟨p0, p1, p2, p3, p4, p5, p6, p7, p8, p9, p10⟩, hx⟩ := HK.out W HB.out
  have HW := Lib.hid hW
  have HX := Lib.hid hX0
  clear hW hb g h1 h2 h3 h4 h5 h6 h7 eK eV eD eT K0 hX hx0 e7 h70 hcell HG HV
  go_enter Tryz.func13, Tryz.ntmps13
  go_wp2_with fail
  rw [← HW.out]
  go_wp2_with (first
    | (go_at_call 39; refine (HS.out _).mono ?_; rintro e w1 ⟨rfl, rfl⟩)
    | (go_at_call 40; refine (HI.out _).mono ?_; rintro e w1 ⟨rfl, rfl⟩)
    | (go_at_call 41; refine (HF.out _ (behind HBW.out HB.out)).mono ?_; rintro e w1 ⟨rfl, hB⟩; replace HB := Lib.hid (behind HB.out hB); clear hB p0 p1 p2 p3 p4 p5 p6 p7 p8 p9 p10 hx; obtain ⟨⟨p0, p1, p2, p3, p4, p5, p6, p7, p8, p9, p10⟩, hx⟩ := HK.out w1 HB.out)
    | (go_at_call 34; refine (HC.out _ (laid (behind HBW.out HB.out) _) _ (fun i u hu => ?_)).mono ?_; exact cell_lits w1 #[.slice A2 n2 c2, .slice A3 n3 c3, .slice A4 n4 c4, .slice A5 n5 c5] _ hu; rintro e w2 ⟨v', rfl, hB, hv'⟩; have HV2 : Hid (∀ w', Below w2.heap.size w2 w' → RInts w'.cell? v' [m.embed, m.place, m.mix, m.out].flatten) := Lib.hid (fun w' hb => hv'.mono fun b o x h => Keeps.of_below hb _ _ h); have HB2 := Lib.hid (Below.refl w2.heap.size w2); replace HB := Lib.hid (behind (laid HB.out _) hB); clear hB hv' p0 p1 p2 p3 p4 p5 p6 p7 p8 p9 p10 hx; obtain ⟨⟨p0, p1, p2, p3, p4, p5, p6, p7, p8, p9, p10⟩, hx⟩ := HK.out w2 HB.out)
    | (go_at_call 42; with_reducible refine (H1.out _ (behind HBW.out HB.out)).mono ?_; rintro e w1 ⟨rfl, hB⟩; replace HB2 := Lib.hid (behind HB2.out hB); replace HB := Lib.hid (behind HB.out hB); clear hB p0 p1 p2 p3 p4 p5 p6 p7 p8 p9 p10 hx; obtain ⟨⟨p0, p1, p2, p3, p4, p5, p6, p7, p8, p9, p10⟩, hx⟩ := HK.out w1 HB.out)
    | (go_at_call 42; with_reducible refine (H6.out _ (behind HBW.out HB.out)).mono ?_; rintro e w1 ⟨rfl, hB⟩; replace HB2 := Lib.hid (behind HB2.out hB); replace HB := Lib.hid (behind HB.out hB); clear hB p0 p1 p2 p3 p4 p5 p6 p7 p8 p9 p10 hx; obtain ⟨⟨p0, p1, p2, p3, p4, p5, p6, p7, p8, p9, p10⟩, hx⟩ := HK.out w1 HB.out)
    | (go_at_call 42; with_reducible refine (H7.out _ (behind HBW.out HB.out)).mono ?_; rintro e w1 ⟨rfl, hB⟩; replace HB2 := Lib.hid (behind HB2.out hB); replace HB := Lib.hid (behind HB.out hB); clear hB p0 p1 p2 p3 p4 p5 p6 p7 p8 p9 p10 hx; obtain ⟨⟨p0, p1, p2, p3, p4, p5, p6, p7, p8, p9, p10⟩, hx⟩ := HK.out w1 HB.out)
    | (go_at_call 42; with_reducible refine (H8.out _ (behind HBW.out HB.out) _ (HV2.out _ HB2.out)).mono ?_; rintro e w1 ⟨rfl, hB⟩; replace HB2 := Lib.hid (behind HB2.out hB); replace HB := Lib.hid (behind HB.out hB); clear hB p0 p1 p2 p3 p4 p5 p6 p7 p8 p9 p10 hx; obtain ⟨⟨p0, p1, p2, p3, p4, p5, p6, p7, p8, p9, p10⟩, hx⟩ := HK.out w1 HB.out))
  go_ret
  exact ⟨rfl, behind HBW.out HB.out⟩
set_option maxRecDepth 100000 in
theorem check_none (w : World) : Calls Tryz.prog 13 #[.agg #[.int .i64 0, .int .i64 0, .int .i64 0, .int .i64 0, .slice none 0 0, .slice none 0 0, .slice none 0 0, .slice none 0 0, .slice none 0 0, .slice none 0 0, .slice none 0 0]] w fun e w' => e = .returned (.int .i64 4) ∧ Below w.heap.size w w' := by
  have HS : Hid (∀ W, Calls Tryz.prog 39 #[.int .i64 0, .int .i64 0, .int .i64 0] W fun e w' => e = .returned (.int .i64 4) ∧ w' = W) := Lib.hid (sized_any 0 0 0)
  go_enter Tryz.func13, Tryz.ntmps13
  go_wp2_with (go_at_call 39; refine (HS.out _).mono ?_; rintro e w1 ⟨rfl, rfl⟩)
  go_ret
  exact ⟨rfl, laid (Below.refl _ _) _⟩
end Go.Proofs.YtneabpgphjcbkaaGreatDoor

namespace Go.Proofs.YtneabpgphjcbkaaGreatDoor
open Go.RowKit

/-- what a drawn model keeps to -/
structure GenM (m : LModel) : Prop where
  kind : 1 ≤ m.kind ∧ m.kind ≤ 3
  vocab : 2 ≤ m.vocab ∧ m.vocab ≤ 16
  width : 1 ≤ m.width ∧ m.width ≤ 5
  top : 1 ≤ m.top ∧ m.top ≤ m.vocab
  cuts : m.cuts.length = 4 ∧ ∀ x ∈ m.cuts, 1 ≤ x ∧ x ≤ 15
  embed : (m.embed.length : Int) = m.vocab * m.width ∧ ∀ x ∈ m.embed, -128 ≤ x ∧ x ≤ 127
  place : (∃ r : Int, 1 ≤ r ∧ r ≤ 16 ∧ (m.place.length : Int) = r * m.width) ∧ ∀ x ∈ m.place, -128 ≤ x ∧ x ≤ 127
  mix : (∃ r : Int, 1 ≤ r ∧ r ≤ 4 ∧ (m.kind = 1 → r = 3) ∧ (m.kind = 2 → r = 2) ∧ (m.mix.length : Int) = r * m.width * m.width) ∧ ∀ x ∈ m.mix, -128 ≤ x ∧ x ≤ 127
  out : (m.out.length : Int) = m.vocab * m.width ∧ ∀ x ∈ m.out, -128 ≤ x ∧ x ≤ 127
  soft : (1 ≤ m.soft.length ∧ m.soft.length ≤ 64) ∧ ∀ x ∈ m.soft, 0 ≤ x ∧ x ≤ 1000
  odds : (1 ≤ m.odds.length ∧ m.odds.length ≤ 64) ∧ (∀ x ∈ m.odds, 0 ≤ x ∧ x ≤ 1000) ∧ ∃ x0, m.odds[0]? = some x0 ∧ 1 ≤ x0
/-- the lists of a model -/
def listsM (m : LModel) : List (List Int) := [m.cuts, m.embed, m.place, m.mix, m.out, m.soft, m.odds]
end Go.Proofs.YtneabpgphjcbkaaGreatDoor
