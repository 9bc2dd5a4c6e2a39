/-
  Making a model: matrices that are drawn, in both ways; what is known while a model is made.
-/
import Derived.Test.YtldjemlmjfpmjaaGreatDoorMake1
import Derived.Test.YtldjemlmjfpmjaaGreatDoorMby
namespace Go.Proofs.YtldjemlmjfpmjaaGreatDoor
open Go.RowKit

theorem inf_i64 : Inf Tryz.prog 3 1 8 := inf_of (z := .int .i64 0) (by kernel_rfl) rfl (by decide)
theorem enc_ints (C : Cl) : ∀ l : List Int, Enc 1 EInt C (i64s l) l
  | [] => Enc.nil _ _ _
  | x :: l => by
    have := Enc.append (Enc.single cellsInt (C := C) (cs := [.int .i64 x]) (x := x) rfl) (enc_ints C l)
    exact this
theorem own_ow {w : World} {g B : Nat} {l : List Int} {n : Nat} (h : OwnI w g l) (hB : B ≤ g) (hn : l.length = n) (h7 : n ≤ 1000000) : Ow 1 EInt 3 w (fun _ => none) B (.slice (some ⟨g, 0, none⟩) n n) l :=
  Ow.of_row (cur := (i64s l).toArray) (cs := i64s l) hB h (Nat.le_refl _) (by unfold maxLen; omega) (by simp [i64s_length, hn]) (by
    rw [Nat.mul_one, List.take_of_length_le (by simp [i64s_length, hn])]) (enc_ints _ l) hn h7
theorem matrix_ow (p : Nat) (hp : p + 1 ≤ 1000) (s : Int) (k : Nat) (hk : k ≤ 100000) (sb qb B : Nat) (w : World) (hs : w.cell? ⟨sb, 0, none⟩ = some (.int .i64 s)) (hq : Bk w qb 3 #[.int .i64 (k : Int)]) (hne : sb ≠ qb) (hB : B ≤ w.heap.size) :
    Calls Tryz.prog 40 #[.int .i64 ((p : Int) + 1), .pointer (some ⟨sb, 0, none⟩), .pointer (some ⟨qb, 0, none⟩)] w fun e w' => ∃ v', e = .returned v' ∧ Frm (isB qb) w w' ∧ Bk w' qb 3 #[.int .i64 ((k + (p + 1) : Nat) : Int)] ∧ Ow 1 EInt 3 w' (fun _ => none) B v' (matL s k (p + 1)) :=
  (matrix_any p hp s k hk sb qb w hs hq hne).mono fun e w' ⟨h1, h2, h3, h4⟩ => ⟨_, h1, h2, h3, own_ow h4 hB (matL_length _ _ _) (by omega)⟩
theorem matL_snoc (s k : Int) (j : Nat) : matL s k (j + 1) = matL s k j ++ [mv s (k + j)] := by simp [matL, List.range_succ]
/-- a number more, behind the append -/
theorem draw_next {w w1 w8 : World} {ob : Obj} {qb : Nat} {q : Int} {v v' : Value} {l l' : List Int} (hO : Ow 1 EInt 3 w1 (fun _ => none) w.heap.size v l) (hF : Frm (isB qb) w w1) (hb : Bk w1 qb 3 #[.int .i64 q]) (hq : qb < w.heap.size)
    (hown : Ow 1 EInt 3 w8 (fun _ => none) w.heap.size v' l') (hB8 : Below w.heap.size (w1.alloc ob) w8) (hgr : (w1.alloc ob).grownBy w8 v.ownBlock) :
    Bk w8 qb 3 #[.int .i64 q] ∧ Frm (isB qb) w w8 ∧ (∀ u, Frm (isB qb) w (w8.setCell ⟨qb, 0, none⟩ u)) ∧ ∀ u, Ow 1 EInt 3 (w8.setCell ⟨qb, 0, none⟩ u) (fun _ => none) w.heap.size v' l' := by
  have F := hF.alloc ob
  have hF8 : Frm (isB qb) w w8 := ⟨hB8.os.trans F.os, hB8.tape.trans F.tape, hB8.output.trans F.output, Nat.le_trans F.size hB8.size, fun b hb hs => (hB8.block b hb).trans (F.block b hb hs)⟩
  refine ⟨(hgr.block _ (hb.alloc _).lt (fun e => by have := (hO.lt _ e.symm).1; omega)).trans (hb.alloc _), hF8, fun u => hF8.set (p := ⟨qb, 0, none⟩) (fun _ => by simp [isB]) u, fun u => Ow.beside cellsInt hown (p := ⟨qb, 0, none⟩) (fun e => by have := (hown.lt _ e).1; simp only at this; omega) u⟩
set_option maxHeartbeats 2000000 in
set_option maxRecDepth 100000 in
theorem mdraw_ow (p : Nat) (hp : p + 1 ≤ 1000) (s : Int) (k : Nat) (hk : k ≤ 100000) (sb qb B : Nat) (w : World) (hs : w.cell? ⟨sb, 0, none⟩ = some (.int .i64 s)) (hq : Bk w qb 3 #[.int .i64 (k : Int)]) (hne : sb ≠ qb) (hB : B ≤ w.heap.size) :
    Calls Tryz.prog 46 #[.int .i64 ((p : Int) + 1), .pointer (some ⟨sb, 0, none⟩), .pointer (some ⟨qb, 0, none⟩)] w fun e w' => ∃ v', e = .returned v' ∧ Frm (isB qb) w w' ∧ Bk w' qb 3 #[.int .i64 ((k + (p + 1) : Nat) : Int)] ∧ Ow 1 EInt 3 w' (fun _ => none) B v' (matL s k (p + 1)) := by
  have h3 : (p : Int) + 1 ≤ 1000 := by omega
  have hk2 : (k : Int) ≤ 100000 := by omega
  have HD := Lib.hid drawn_any
  have HNE := Lib.hid hne
  have HQL := Lib.hid hq.lt
  have HS : Hid (∀ w', Frm (isB qb) w w' → w'.cell? ⟨sb, 0, none⟩ = some (.int .i64 s)) := Lib.hid fun w' h => h.cell hs (isB_false.2 hne)
  have HQ := Lib.hid hq
  have HBB := Lib.hid hB
  clear hq hne hs hB
  go_enter Tryz.func46, Tryz.ntmps46
  go_wp2
  go_loopw [5, 7] (fun a5 a7 wr => ∃ j : Nat, a7 = .int .i64 j ∧ j ≤ p + 1 ∧ Ow 1 EInt 3 wr (fun _ => none) w.heap.size a5 (matL s k j) ∧ Frm (isB qb) w wr ∧ Bk wr qb 3 #[.int .i64 ((k + j : Nat) : Int)]) (fun _ a7 _ => p + 1 - (intOf a7).toNat)
  case atStart => exact ⟨0, rfl, by omega, Ow.nil _ _ _ _ _ _, Frm.refl _ _, HQ.out⟩
  case round =>
    obtain ⟨j, rfl, hj, hO, hF, hb⟩ := hrel
    obtain ⟨A, n, c, rfl⟩ := hO.form
    have HO := Lib.hid hO
    have HFF := Lib.hid hF
    have HBK := Lib.hid hb
    have hcs := HS.out wr hF
    have hcq : wr.cell? ⟨qb, 0, none⟩ = some (.int .i64 ((k : Int) + j)) := by have := hb.cell 0; simpa using this
    clear hF hb hO
    by_cases hlt : j < p + 1
    · have hlt2 : (j : Int) < (p : Int) + 1 := by omega
      obtain ⟨x, hx⟩ : ∃ x, drawV s ((k : Int) + j) = x := ⟨_, rfl⟩
      have hx0 : 0 ≤ x := by rw [← hx]; exact drawn_nn _ _
      have HMV : Hid (mv s ((k : Int) + j) = x % 17 - 8) := Lib.hid (by rw [← hx]; rfl)
      have HDJ : Hid (∀ W, Calls Tryz.prog 47 #[.int .i64 s, .int .i64 ((k : Int) + j)] W fun e w' => e = .returned (.int .i64 x) ∧ w' = W) := Lib.hid fun W => by rw [← hx]; exact HD.out s _ W
      have hjk : (j : Int) ≤ 1000 := by omega
      have HLT := Lib.hid hlt
      clear hx hlt
      go_wp2_with (first
        | (go_at_call 47; refine (HDJ.out _).mono ?_; rintro e w1 ⟨rfl, rfl⟩)
        | (at_builtin; refine wpList_append_Ow cellsInt inf_i64 _ rfl _ _ 22 rfl w.heap.size Tryz.underlying22 (.slice A n c) (matL s k j) (fun _ => none) rfl (Ow.below cellsInt HO.out (laid (Below.refl _ _) _) (Keeps.refl _)) ⟨w1.heap.size, 0, none⟩ 1 1 [_] [_] rfl rfl (Enc.single cellsInt rfl) (one_news _ #[_] _) (by rw [matL_length]; omega) (Nat.le_trans HFF.out.size (laid (Below.refl _ w1) _).size) ?_; intro v' w8 hown' hB8 hgr; obtain ⟨A8, m8, c8, rfl⟩ := hown'.form; have HN := Lib.hid (draw_next HO.out HFF.out HBK.out HQL.out hown' hB8 hgr); have hc8 := HN.out.1.cell 0; have hf8 := HN.out.1.frozen 0; have hs8 := HS.out _ HN.out.2.1; simp only [List.getElem?_toArray, List.getElem?_cons_zero] at hc8; push_cast at hc8; clear hown' hB8 hgr hcs hcq))
      go_roundw
      case rel =>
        refine ⟨j + 1, by go_num, by have := HLT.out; omega, ?_, HN.out.2.2.1 _, ?_⟩
        · rw [matL_snoc, HMV.out]
          exact HN.out.2.2.2 _
        · have h := HN.out.1.set 0 (.int .i64 ((k : Int) + j + 1))
          rw [show (((k + (j + 1) : Nat)) : Int) = (k : Int) + j + 1 by omega]
          exact h
      case measure => simp [intOf]; omega
    · obtain rfl : j = p + 1 := by omega
      go_wp2
      go_ret
      exact ⟨_, rfl, HFF.out, HBK.out, Ow.base HO.out HBB.out⟩
end Go.Proofs.YtldjemlmjfpmjaaGreatDoor
