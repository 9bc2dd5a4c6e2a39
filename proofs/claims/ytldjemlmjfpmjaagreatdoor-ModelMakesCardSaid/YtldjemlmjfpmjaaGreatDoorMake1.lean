/-
  Models: a matrix that is drawV.
-/
import Derived.Test.YtldjemlmjfpmjaaGreatDoorModd
import Derived.Test.YtldjemlmjfpmjaaGreatDoorPermute
namespace Go.Proofs.YtldjemlmjfpmjaaGreatDoor
open Go.RowKit

/-- an element that is drawV -/
def mv (s k : Int) : Int := drawV s k % 17 - 8
def matL (s k : Int) (n : Nat) : List Int := (List.range n).map fun i : Nat => mv s (k + i)
theorem mv_aux (x : Int) : inB (-128) 127 (x % 17 - 8) = true := by
  have h1 : 0 ≤ x % 17 := Int.emod_nonneg _ (by omega)
  have h2 : x % 17 < 17 := Int.emod_lt_of_pos _ (by omega)
  rw [inB, Bool.and_eq_true, decide_eq_true_eq, decide_eq_true_eq]
  omega
theorem mv_in (s k : Int) : inB (-128) 127 (mv s k) = true := mv_aux _
theorem matL_in (s k : Int) (n : Nat) : (matL s k n).all (inB (-128) 127) = true := by
  rw [List.all_eq_true]
  intro x hx
  obtain ⟨i, -, rfl⟩ := List.mem_map.1 hx
  exact mv_in _ _
theorem matL_length (s k : Int) (n : Nat) : (matL s k n).length = n := by simp [matL]
set_option maxHeartbeats 2000000 in
set_option maxRecDepth 100000 in
theorem matrix_any (p : Nat) (hp : p + 1 ≤ 1000) (s : Int) (k : Nat) (hk : k ≤ 100000) (sb qb : Nat) (w : World) (hs : w.cell? ⟨sb, 0, none⟩ = some (.int .i64 s)) (hq : Bk w qb 3 #[.int .i64 (k : Int)]) (hne : sb ≠ qb) :
    Calls Tryz.prog 40 #[.int .i64 ((p : Int) + 1), .pointer (some ⟨sb, 0, none⟩), .pointer (some ⟨qb, 0, none⟩)] w fun e w' => e = .returned (.slice (some ⟨w.heap.size, 0, none⟩) (p + 1) (p + 1)) ∧ Frm (isB qb) w w' ∧ Bk w' qb 3 #[.int .i64 ((k + (p + 1) : Nat) : Int)] ∧ OwnI w' w.heap.size (matL s k (p + 1)) := by
  have hmk := run_make_row' (P := Tryz.prog) 22 3 (.int .i64 0) 8 Tryz.underlying22 pinfo_int rfl .i64 .i64 (p + 1) (by omega) (by omega)
  simp at hmk
  have h3 : (p : Int) + 1 ≤ 1000 := by omega
  have h4 : decide ((p : Int) + 1 < 0) = false := by simp; omega
  have hk2 : (k : Int) ≤ 100000 := by omega
  have HD := Lib.hid draw_any
  have HNE := Lib.hid hne
  have HQL := Lib.hid hq.lt
  have HS : Hid (∀ w', Frm (isB qb) w w' → w'.cell? ⟨sb, 0, none⟩ = some (.int .i64 s)) := Lib.hid fun w' h => h.cell hs (isB_false.2 hne)
  have HQ := Lib.hid hq
  clear hq hne hs
  go_enter Tryz.func40, Tryz.ntmps40
  go_wp2
  all_goals first
    | (exfalso; omega)
    | skip
  clear hmk
  go_loopw [11] (fun a11 wr => ∃ j : Nat, a11 = .int .i64 j ∧ j ≤ p + 1 ∧ OwnI wr w.heap.size ((List.range j).map (fun i : Nat => mv s ((k : Int) + i)) ++ List.replicate (p + 1 - j) 0) ∧ Frm (isB qb) w wr ∧ Bk wr qb 3 #[.int .i64 ((k + j : Nat) : Int)]) (fun a11 _ => p + 1 - (intOf a11).toNat)
  case atStart => exact ⟨0, rfl, by omega, by have := OwnI.made w (p + 1); simpa using this, (Frm.refl _ _).alloc _, HQ.out.alloc _⟩
  case round =>
    obtain ⟨j, rfl, hj, hown, hF, hb⟩ := hrel
    have hlq := HQL.out
    have HFF := Lib.hid hF
    have HBB := Lib.hid hb
    have hcs := HS.out wr hF
    have hcq : wr.cell? ⟨qb, 0, none⟩ = some (.int .i64 ((k : Int) + j)) := by have := hb.cell 0; simpa using this
    have hfq := hb.frozen 0
    clear hF hb
    by_cases hlt : j < p + 1
    · have hlt2 : (j : Int) < (p : Int) + 1 := by omega
      have hlen : ((List.range j).map (fun i : Nat => mv s ((k : Int) + i)) ++ List.replicate (p + 1 - j) (0:Int)).length = p + 1 := by simp; omega
      have gf := hown.frozen j
      have g0 := hown.cell (j := j) (by rw [hlen]; exact hlt)
      have h6 := hown.set j (mv s ((k : Int) + j))
      rw [pfill_set hlt, pfill_next (fun i : Nat => mv s ((k : Int) + i))] at h6
      obtain ⟨x, hx⟩ : ∃ x, drawV s ((k : Int) + j) = x := ⟨_, rfl⟩
      have hx0 : 0 ≤ x := by rw [← hx]; exact drawn_nn _ _
      rw [show mv s ((k : Int) + j) = x % 17 - 8 by rw [← hx]; rfl] at h6
      have HDJ : Hid (∀ W, Calls Tryz.prog 41 #[.int .i64 s, .int .i64 ((k : Int) + j)] W fun e w' => e = .returned (.int .i64 x) ∧ w' = W) := Lib.hid fun W => by rw [← hx]; exact HD.out _ _ _
      have H6 := Lib.hid h6
      have HLT := Lib.hid hlt
      have hjk : (j : Int) ≤ 1000 := by omega
      clear h6 hlen hown hlt hx
      go_wp2_with (go_at_call 41; refine (HDJ.out _).mono ?_; rintro e w1 ⟨rfl, rfl⟩)
      go_roundw
      case rel =>
        refine ⟨j + 1, by go_num, by have := HLT.out; omega, OwnI.far H6.out (p := ⟨qb, 0, none⟩) (by show _ ≠ qb; omega) _, ?_, ?_⟩
        · exact (HFF.out.set (p := ⟨w.heap.size, j, none⟩) (fun h => absurd h (Nat.lt_irrefl _)) _).set (p := ⟨qb, 0, none⟩) (fun _ => by simp [isB]) _
        · have h := (HBB.out.far (p := ⟨w.heap.size, j, none⟩) (by show qb ≠ w.heap.size; omega) (.int .i64 (x % 17 - 8))).set 0 (.int .i64 ((k : Int) + j + 1))
          rw [show (((k + (j + 1) : Nat)) : Int) = (k : Int) + j + 1 by omega]
          exact h
      case measure => simp [intOf]; omega
    · obtain rfl : j = p + 1 := by omega
      go_wp2
      go_ret
      exact ⟨rfl, HFF.out, HBB.out, by simpa [matL] using hown⟩
end Go.Proofs.YtldjemlmjfpmjaaGreatDoor
