/-
  Models: ranges of whole numbers.
-/
import Derived.Test.YtgaiibkkompbnaaGreatDoorSl
namespace Go.Proofs.YtgaiibkkompbnaaGreatDoor
open Go.RowKit

def inB (lo hi n : Int) : Bool := decide (lo ≤ n) && decide (n ≤ hi)
theorem mwithin_any (n lo hi : Int) (w : World) : Calls Tryz.prog 18 #[.int .i64 n, .int .i64 lo, .int .i64 hi] w fun e w' => e = .returned (.bool (inB lo hi n)) ∧ w' = w := by
  go_enter Tryz.func18, Tryz.ntmps18
  by_cases h : lo ≤ n
  · go_wp2
    go_ret
    exact ⟨by simp [inB, h], rfl⟩
  · go_wp2
    go_ret
    exact ⟨by simp [inB, show ¬ lo ≤ n by omega], rfl⟩
theorem enter_all1 : ∀ args w, (callFunc 17 args).run Tryz.prog w = .ok (.enter 17 args) w := fun _ _ => by kernel_rfl
theorem all1_any (n lo hi : Int) (p q : Nat) (w : World) (hp : w.cell? ⟨p, 0, none⟩ = some (.int .i64 lo)) (hq : w.cell? ⟨q, 0, none⟩ = some (.int .i64 hi)) :
    Calls Tryz.prog 17 #[.int .i64 n, .pointer (some ⟨p, 0, none⟩), .pointer (some ⟨q, 0, none⟩)] w fun e w' => e = .returned (.bool (!inB lo hi n)) ∧ Below w.heap.size w w' := by
  have HW := Lib.hid (mwithin_any n lo hi)
  go_enter Tryz.func17, Tryz.ntmps17
  go_wp2_with (go_at_call 18; refine (HW.out _).mono ?_; rintro e w1 ⟨rfl, rfl⟩)
  go_ret
  exact ⟨rfl, Below.refl _ _⟩
set_option maxHeartbeats 1000000 in
set_option maxRecDepth 100000 in
theorem all_any (l : List Int) (lo hi : Int) (v : Value) (w : World) (hv : RInts w.cell? v l) :
    Calls Tryz.prog 8 #[v, .int .i64 lo, .int .i64 hi] w fun e w' => e = .returned (.bool (l.all (inB lo hi))) ∧ Below w.heap.size w w' := by
  obtain ⟨A, n, c, rfl⟩ := hv.sl
  obtain ⟨W, hW⟩ : ∃ W, W = (w.alloc (.cells #[.int .i64 lo] 3)).alloc (.cells #[.int .i64 hi] 3) := ⟨_, rfl⟩
  have hz1 : (w.alloc (.cells #[.int .i64 lo] 3)).heap.size = w.heap.size + 1 := World.size_alloc _ _
  have hb0 : Bk W w.heap.size 3 #[.int .i64 lo] := by rw [hW]; exact (Bk.new _ _ _).alloc _
  have hb1 : Bk W (w.heap.size + 1) 3 #[.int .i64 hi] := by rw [hW, ← hz1]; exact Bk.new _ _ _
  have HBW : Hid (Below w.heap.size w W) := Lib.hid (by rw [hW]; exact laid (laid (Below.refl _ _) _) _)
  have HC : Hid (Calls Tryz.prog 16 #[.slice A n c, .func (.func 17) #[] #[.pointer (some ⟨w.heap.size, 0, none⟩), .pointer (some ⟨w.heap.size + 1, 0, none⟩)]] W fun e w' => e = .returned (.bool (l.any fun n => !inB lo hi n)) ∧ Below W.heap.size W w') :=
    Lib.hid (has_int 17 #[.pointer (some ⟨w.heap.size, 0, none⟩), .pointer (some ⟨w.heap.size + 1, 0, none⟩)] (fun n => !inB lo hi n) enter_all1 l (.slice A n c) W (Rws.mono hv fun b o x h => Keeps.of_below HBW.out _ _ h) (fun n _ u W' hB hu => by subst hu; exact all1_any n lo hi _ _ W' ((hb0.low hB).cell 0) ((hb1.low hB).cell 0)))
  have HW := Lib.hid hW
  clear hW hb0 hb1 hz1 hv
  go_enter Tryz.func8, Tryz.ntmps8
  go_wp2_with (go_at_call 16; rw [← HW.out]; refine HC.out.mono ?_; rintro e w1 ⟨rfl, hB⟩; have HB := Lib.hid (behind HBW.out hB); clear hB)
  go_ret
  exact ⟨by simp [List.any_eq_not_all_not], HB.out⟩
/-- the error of a kind, a number of tokens and a width -/
def sizedM (kind vocab width : Int) : Int := if inB 1 3 kind then (if inB 2 16 vocab && inB 1 5 width then 0 else 9) else 4
set_option maxHeartbeats 1000000 in
set_option maxRecDepth 100000 in
theorem sized_any (kind vocab width : Int) (w : World) : Calls Tryz.prog 24 #[.int .i64 kind, .int .i64 vocab, .int .i64 width] w fun e w' => e = .returned (.int .i64 (sizedM kind vocab width)) ∧ w' = w := by
  have HW := Lib.hid mwithin_any
  obtain ⟨a, ha⟩ : ∃ a, inB 1 3 kind = a := ⟨_, rfl⟩
  obtain ⟨b, hb⟩ : ∃ a, inB 2 16 vocab = a := ⟨_, rfl⟩
  obtain ⟨c, hc⟩ : ∃ a, inB 1 5 width = a := ⟨_, rfl⟩
  have hs : sizedM kind vocab width = if a then (if b && c then 0 else 9) else 4 := by rw [sizedM, ha, hb, hc]
  rw [hs]
  have HA := Lib.hid ha
  have HB := Lib.hid hb
  have HC := Lib.hid hc
  clear ha hb hc hs
  cases a <;> cases b <;> cases c <;>
  · go_enter Tryz.func24, Tryz.ntmps24
    go_wp2_with (go_at_call 18; refine (HW.out _ _ _ _).mono ?_; rintro e w1 ⟨rfl, rfl⟩; (first | rw [HA.out] | rw [HB.out] | rw [HC.out]))
    go_ret
    exact ⟨rfl, rfl⟩
/-- how many whole rows -/
def rowsM (n w : Nat) : Nat := if n % w = 0 then n / w else 0
set_option maxHeartbeats 1000000 in
theorem rows_any (A : Option Addr) (n c : Nat) (k : Nat) (w : World) (hk : 1 ≤ k) (hk2 : k ≤ 1000) (hn : n ≤ 1000000) : Calls Tryz.prog 41 #[.slice A n c, .int .i64 k] w fun e w' => e = .returned (.int .i64 (rowsM n k)) ∧ w' = w := by
  have h1 : (1 : Int) ≤ (k : Int) := by omega
  have h2 : (k : Int) ≤ 1000 := by omega
  have h3 : (n : Int) ≤ 1000000 := by omega
  by_cases h : n % k = 0
  · have h4 : (n : Int).tmod (k : Int) = 0 := by rw [← Int.ofNat_tmod, h]; rfl
    have hr : Hid (wrap64 ((n : Int) / (k : Int)) = (rowsM n k : Nat)) := Lib.hid (by
      rw [rowsM, if_pos h]
      have h5 : n / k ≤ n := Nat.div_le_self n k
      have h6 : ((n : Int) / (k : Int)) = ((n / k : Nat) : Int) := (Int.natCast_ediv n k).symm
      rw [h6]
      obtain ⟨q, hq⟩ : ∃ q, n / k = q := ⟨_, rfl⟩
      rw [hq] at h5 ⊢
      unfold wrap64; omega)
    go_enter Tryz.func41, Tryz.ntmps41
    go_wp2
    go_ret
    exact ⟨by rw [hr.out]; rfl, rfl⟩
  · have h4 : ¬ (n : Int).tmod (k : Int) = 0 := by rw [← Int.ofNat_tmod]; omega
    have h5 : ((n : Int).tmod (k : Int) == 0) = false := by simpa using h4
    have h6 : ((n : Int) % (k : Int) == 0) = false := by rw [← Int.tmod_eq_emod_of_nonneg (by omega)]; exact h5
    have hr : Hid ((rowsM n k) = 0) := Lib.hid (by rw [rowsM, if_neg h])
    go_enter Tryz.func41, Tryz.ntmps41
    go_wp2
    all_goals go_ret
    all_goals exact ⟨by rw [hr.out]; rfl, rfl⟩
end Go.Proofs.YtgaiibkkompbnaaGreatDoor
