/-
  slices.Backward over the digits of a number; nat.wide.
-/
import Derived.Test.YtkcdgaijklhnaaaGreatDoorK01
import Derived.RangeFuncNested
import Derived.RangeFuncBound
import Derived.RangeFuncCalls
import Derived.RangeFuncLeaves
import Derived.RangeFuncBox
import Derived.Shelf.Abstract
import Derived.Shelf.RegionOpen
import Derived.OwnWalkIn
import Derived.TacticsInMore
import Derived.LoopNIn
import Derived.LoopIn
import Derived.Outline
namespace Go.Proofs.YtkcdgaijklhnaaaGreatDoor
open Go.RowKit Go.Shelf
attribute [local go_sem] Oper.semAt_some
abbrev Dg := { x : Nat // x < 1000000000 }
def d0 : Dg := ⟨0, by omega⟩
def back (l : List Dg) (k : Nat) : List (Nat × Dg) := (List.range k).map fun j => (l.length - 1 - j, l[l.length - 1 - j]?.getD d0)
theorem back_succ (l : List Dg) (k : Nat) : back l (k + 1) = back l k ++ [(l.length - 1 - k, l[l.length - 1 - k]?.getD d0)] := by simp [back, List.range_succ]
theorem back_length (l : List Dg) (k : Nat) : (back l k).length = k := by simp [back]
def KB (n₀ Bs : Nat) (A B : World) : Prop := Below n₀ A B ∧ B.heap[Bs]? = A.heap[Bs]?
theorem kb_t {n₀ Bs : Nat} {A B C : World} (h : KB n₀ Bs A B) (k : KB n₀ Bs B C) : KB n₀ Bs A C := ⟨h.1.trans k.1, k.2.trans h.2⟩
theorem kb_b {n₀ Bs : Nat} {w : World} (hn : n₀ ≤ w.heap.size) (hB : Bs < w.heap.size) (W : World) (l : Nat) (o o' : Obj) (hl : w.heap.size ≤ l) (h : W.heap[l]? = some o) (h1 : o.isCells = false) (h2 : o.isWalk = false) : KB n₀ Bs W (W.putObj l o') :=
 ⟨belowK_b hn W l o o' hl h h1 h2, (grownBy_putObj' W l o').block Bs (by have := (Array.getElem?_eq_some_iff.1 h).1; omega) (by intro e; cases e; omega)⟩
def nats (l : List Dg) : List Nat := l.map (·.val)
set_option maxRecDepth 100000 in
set_option maxHeartbeats 2000000 in
theorem back1_in (F : Fence) (n : Nat) (hf : F.fn 265) (hro : F.round = none) (hn : 1 ≤ n) (l Bs n₀ : Nat) (sv : Value) (zs : List Dg) (hreach : zs.length ≤ 1000000000000) (J Jx : List (Nat × Dg) → World → Prop)
  (hY : ∀ pre x W, J pre W → pre.length < zs.length → YieldAt F (n - 1) Tryz.prog l #[.int .i64 (x.1 : Int), .int .u32 (x.2.val : Int)] W fun e W' =>
   (e = .returned (.bool true) ∧ J (pre ++ [x]) W' ∧ KB n₀ Bs W W') ∨ (e = .returned (.bool false) ∧ Jx (pre ++ [x]) W'))
  (W : World) (hBs : W.cell? ⟨Bs, 0, none⟩ = some sv) (hsl : Sl W sv (u32s (nats zs))) (hbl : ∀ b o c, sv = .slice (some ⟨b, o, none⟩) zs.length c → 0 < zs.length → b < n₀) (h0 : J [] W) :
  CallsIn F n Tryz.prog 265 #[.func (.yield l) #[] #[], .pointer (some ⟨Bs, 0, none⟩)] W fun e W' => (∃ v, e = .returned v) ∧
   ((∃ ys, ys = back zs zs.length ∧ J ys W') ∨ (∃ pre, (∃ k, k ≤ zs.length ∧ pre = back zs k) ∧ Jx pre W')) := by
 obtain ⟨A, c, rfl, h1, h2, h3⟩ := hsl
 have hl : (u32s (nats zs)).length = zs.length := by simp [u32s, nats]
 rw [hl] at h1 h3 hBs
 have H3 := Lib.hid h3
 have HBL := Lib.hid hbl
 clear h3 hbl
 rw [hl] at HBL
 clear hl
 refine callsIn_of_wp Tryz.func265 rfl hf ?_ hro
 simp only [Tryz.ntmps265, List.size_toArray, List.length_cons, List.length_nil, Nat.reduceAdd, Nat.reduceSub, Array.replicate_succ, Array.replicate_zero, List.push_toArray, List.append_toArray, List.nil_append, List.cons_append]
 gi_wp2
 gi_loopw [3] (fun i wr => ∃ (i' : Int) (k : Nat), i = .int .i64 i' ∧ i' = (zs.length : Int) - 1 - k ∧ k ≤ zs.length ∧ J (back zs k) wr ∧ KB n₀ Bs W wr) (fun i _ => (intOf i + 1).toNat)
 case atStart => exact ⟨_, 0, rfl, by omega, by omega, h0, Below.refl _ _, rfl⟩
 case round =>
  obtain ⟨i, k, rfl, hik, hk, hJs, hB, hBx⟩ := hrel
  have HIK := Lib.hid hik
  have hbs : wr.cell? ⟨Bs, 0, none⟩ = some (.slice A zs.length c) := (World.cell?_of_block (w := W) hBx).trans hBs
  by_cases hlt : k < zs.length
  ·have i0 : 0 ≤ i := by omega
   have i1 : i < (zs.length : Int) := by omega
   obtain ⟨q, hq⟩ : ∃ q : Nat, i = q := ⟨i.toNat, by omega⟩
   subst hq
   have hq2 : q = zs.length - 1 - k := by omega
   have hq3 : q < zs.length := by omega
   obtain ⟨b, o, rfl, hc⟩ := H3.out (by omega)
   have g1 := (Below.cell hB (p := ⟨b, o + q, none⟩) (HBL.out b o c rfl (by omega))).trans (hc q _ (u32s_at (by simp [nats]; omega)))
   have e5 : (nats zs)[q]?.getD 0 = (zs[zs.length - 1 - k]?.getD d0).val := by
    rw [← hq2]
    simp [nats, List.getElem?_eq_getElem hq3]
   rw [e5] at g1
   obtain ⟨fn, tmps, assign, body, hy, hR⟩ := hY _ (zs.length - 1 - k, zs[zs.length - 1 - k]?.getD d0) wr hJs (by rw [back_length]; exact hlt)
   rw [← hq2] at hR hy g1
   obtain ⟨x, hx⟩ : ∃ x, zs[q]?.getD d0 = x := ⟨_, rfl⟩
   rw [hx] at hR hy g1
   have HX := Lib.hid hx
   have HQ2 := Lib.hid hq2
   clear hx hc e5 hik hq2
   dsimp only at hy hR
   gi_wp2
   refine hR.mono ?_
   rintro e W3 (⟨rfl, hJ3, hk3⟩ | ⟨rfl, hJx3⟩)
   ·have HJ3 := Lib.hid hJ3
    have HK3 := Lib.hid hk3
    clear hJ3 hk3
    gi_wp2
    go_roundw
    case rel =>
     refine ⟨(q : Int) - 1, k + 1, rfl, by have := HIK.out; omega, by omega, ?_, kb_t ⟨hB, hBx⟩ HK3.out⟩
     rw [back_succ, ← HQ2.out, HX.out]
     exact HJ3.out
    case measure => simp [intOf]
   ·gi_wp2
    refine bodyPost_ret (results_none rfl _ _ _) rfl ?_
    refine ⟨⟨_, rfl⟩, .inr ⟨_, ⟨k + 1, by omega, rfl⟩, ?_⟩⟩
    rw [back_succ, ← HQ2.out, HX.out]
    exact hJx3
  ·have i0 : i < 0 := by omega
   obtain rfl : k = zs.length := by omega
   clear hik
   gi_wp2
   go_end0
   exact ⟨⟨_, rfl⟩, .inl ⟨_, rfl, hJs⟩⟩
set_option maxHeartbeats 1000000 in
theorem back_in (F : Fence) (n : Nat) (hf : F.fn 229) (hro : F.round = none) (a : Option Addr) (len cap : Nat) (w : World) :
  CallsIn F n Tryz.prog 229 #[.slice a len cap] w fun e w' => e = .returned (.func (.func 265) #[] #[.pointer (some ⟨w.heap.size, 0, none⟩)]) ∧ w' = w.alloc (.cells #[.slice a len cap] 159) := by
 refine callsIn_of_wp Tryz.func229 rfl hf ?_ hro
 simp only [Tryz.ntmps229, List.size_toArray, List.length_cons, List.length_nil, Nat.reduceAdd, Nat.reduceSub, Array.replicate_succ, Array.replicate_zero, List.push_toArray, List.append_toArray, List.nil_append, List.cons_append]
 gi_wp2
 go_ret
 exact ⟨rfl, rfl⟩
theorem back_stops (F : Fence) (n : Nat) (hf : F.fn 265) (hro : F.round = none) (hn : 1 ≤ n) (Bs n₀ : Nat) (sv : Value) (zs : List Dg) (hreach : zs.length ≤ 1000000000000) (w : World) (hBs : Bs < w.heap.size)
  (hc : w.cell? ⟨Bs, 0, none⟩ = some sv) (hsl : Sl w sv (u32s (nats zs))) (hbl : ∀ b o c, sv = .slice (some ⟨b, o, none⟩) zs.length c → 0 < zs.length → b < n₀) :
  SeqStopsK F n Tryz.prog 265 #[.pointer (some ⟨Bs, 0, none⟩)] (fun x : Nat × Dg => #[Value.int .i64 (x.1 : Int), Value.int .u32 (x.2.val : Int)]) (KB n₀ Bs) (fun ys => ys = back zs zs.length)
   (fun pre => ∃ k, k ≤ zs.length ∧ pre = back zs k) zs.length w := fun l J Jx W hW _ _ hY h0 =>
 back1_in F n hf hro hn l Bs n₀ sv zs hreach J Jx hY W ((hW.cell (p := ⟨Bs, 0, none⟩) hBs).trans hc) (hsl.below hW) hbl h0
def foldW (pre : List (Nat × Dg)) : Int := pre.foldl (fun s x => IntKind.u64.wrap (IntKind.u64.wrap (s * 1000000000) + (x.2.val : Int))) 0
theorem foldW_snoc (pre : List (Nat × Dg)) (x : Nat × Dg) : foldW (pre ++ [x]) = IntKind.u64.wrap (IntKind.u64.wrap (foldW pre * 1000000000) + (x.2.val : Int)) := by simp [foldW]
set_option maxRecDepth 100000 in
set_option maxHeartbeats 2000000 in
theorem wide_in (F : Fence) (n : Nat) (h3 : F.fn 181) (h5 : F.fn 229) (h7 : F.fn 265) (hro : F.round = none) (hn : 3 ≤ n) (v : Value) (zs : List Dg) (hreach : zs.length ≤ 1000000000000) (w : World) (hsl : Sl w v (u32s (nats zs))) :
  CallsIn F n Tryz.prog 181 #[v] w fun e W' => e = .returned (.int .u64 (foldW (back zs zs.length))) ∧ Below w.heap.size w W' := by
 have h1 : 1 ≤ n := by omega
 have HS := Lib.hid hsl
 obtain ⟨A, c, rfl, q1, q2, q3⟩ := hsl
 have hl : (u32s (nats zs)).length = zs.length := by simp [u32s, nats]
 rw [hl] at q1 q3
 have HS2 : Hid (Sl w (.slice A zs.length c) (u32s (nats zs))) := by have := HS.out; rw [hl] at this; exact Lib.hid this
 rw [hl]
 have Q3 := Lib.hid q3
 clear q3 hl HS
 refine callsIn_of_wp_marks Tryz.func181 rfl h3 ?_ hro
 simp only [Tryz.ntmps181, List.size_toArray, List.length_cons, List.length_nil, Nat.reduceAdd, Nat.reduceSub, Array.replicate_succ, Array.replicate_zero, List.push_toArray, List.append_toArray, List.nil_append, List.cons_append]
 gi_wp2_with (gi_at_call 229; refine (back_in F (n - 1) h5 hro _ _ _ _).mono ?_; rintro e w' ⟨rfl, rfl⟩)
 have bS := Boxed.new w 127 (.int .u64 0)
 have bN := Boxed.new (w.alloc (.cells #[.int .u64 0] 127)) 159 (.slice A zs.length c)
 rw [World.size_alloc] at bN
 have hB0 : Below w.heap.size w ((w.alloc (.cells #[.int .u64 0] 127)).alloc (.cells #[.slice A zs.length c] 159)) := ((Below.refl _ w).alloc (Nat.le_refl _) _).alloc (by simp) _
 refine wpIn_rangeFunc_ownG hro h1 (gf := 265) (lb := #[.pointer (some ⟨w.heap.size + 1, 0, none⟩)]) rfl h7 (enters_of Tryz.func265 (by kernel_rfl) rfl)
  (back_stops F (n - 1) h7 hro (by omega) (w.heap.size + 1) w.heap.size _ zs hreach _ (by simp) bN.cell (HS2.out.below hB0) (fun b o c' e h0 => by
   obtain ⟨b', o', e', hc⟩ := Q3.out h0
   injection e with e1
   rw [e'] at e1
   injection e1 with e1
   injection e1 with e1
   subst e1
   exact World.block_lt_of_cell? w _ (hc 0 _ (u32s_at (by simpa [nats] using h0))))) kb_t (kb_b (by simp; omega) (by simp)) (Below.refl _ _) (fun _ => rfl)
  (fun pre W => (W.cell? ⟨w.heap.size, 0, none⟩ = some (.int .u64 (foldW pre)) ∧ W.frozen? ⟨w.heap.size, 0, none⟩ = false) ∧ Below w.heap.size w W)
  (fun _ _ _ => False)
  (OwnFrom.and (Own.from (fun s A B row hs hg hr => ⟨cell_kept hs.1 hg hr, (frozen_kept hs.1 hg hr).trans hs.2⟩) _) (ownFrom_below (Nat.le_refl _) (by simp; omega)))
  (fun _ _ _ _ _ hs _ _ => hs)
  ⟨⟨(bS.alloc _).cell, (bS.alloc _).frozen⟩, hB0⟩
  (fun x => { tmps := #[.slice A zs.length c, undef, .int .u64 0, .pointer (some ⟨w.heap.size, 0, none⟩), undef, .int .u32 (x.2.val : Int), .slice A zs.length c, .func (.func 265) #[] #[.pointer (some ⟨w.heap.size + 1, 0, none⟩)], .int .i64 (x.1 : Int), .int .u32 (x.2.val : Int), undef, undef, undef, undef, undef, undef], defers := [] }) ?assign ?body ?done ?stop
 case assign =>
  intro l x W K hK
  gi_wp2
  exact hK
 case body =>
  rintro l pre x W ⟨⟨hc, hf⟩, hB⟩ _
  have hx := x.2.2
  gi_wp2
  exact ⟨(KeepsOthers.setCell _ _ _).from _, ⟨(Below.refl w.heap.size W).setCell (p := ⟨w.heap.size, 0, none⟩) (Nat.le_refl _) _, Below.heap_setCell _ _ _ _ (by simp)⟩, ⟨by rw [foldW_snoc]; exact World.cell?_setCell_same' _ _ _ (by rw [hc]; rfl), by rw [World.frozen?_setCell]; exact hf⟩, hB.setCell (p := ⟨w.heap.size, 0, none⟩) (Nat.le_refl _) _⟩
 case done =>
  rintro D ys W hD rfl ⟨⟨hc, _⟩, hB⟩ hK
  gi_wp2
  refine ⟨by simp, .inl ⟨_, _, rfl, run_takeDeferred hK, ?_⟩⟩
  exact ⟨_, results_tmp rfl _ _ _, rfl, hB.trans (belowK_b (w := w) (Nat.le_refl _) W D _ _ (by simp at hD; omega) hK rfl rfl)⟩
 case stop =>
  rintro D c pre W _ _ h _
  exact h.elim
theorem foldW_short : ∀ l : List Dg, l.length ≤ 2 → foldW (back l l.length) = (Mth.val 1000000000 (nats l) : Nat)
 | [], _ => rfl
 | [a], _ => by
  have := a.2
  simp [back, foldW, nats, Mth.val, List.range_succ]
  rw [IntKind.wrap_u64, IntKind.wrap_u64]; omega
 | [a, b], _ => by
  have := a.2
  have := b.2
  simp [back, foldW, nats, Mth.val, List.range_succ]
  rw [IntKind.wrap_u64, IntKind.wrap_u64, IntKind.wrap_u64, IntKind.wrap_u64]; omega
 | _ :: _ :: _ :: _, h => by simp at h
theorem exists_digits : ∀ l : List Nat, (∀ d ∈ l, d < 1000000000) → ∃ zs : List Dg, nats zs = l
 | [], _ => ⟨[], rfl⟩
 | d :: l, h => by
  obtain ⟨zs, hz⟩ := exists_digits l (fun x hx => h x (by simp [hx]))
  exact ⟨⟨d, h d (by simp)⟩ :: zs, by simp [nats] at hz ⊢; exact hz⟩
theorem wide_any (n : Nat) (v : Value) (w : World) (h : Nt w v n) (hs : (Mth.dg 1000000000 n).length ≤ 2) :
  Calls Tryz.prog 181 #[v] w fun e w' => e = .returned (.int .u64 n) ∧ Below w.heap.size w w' := by
 obtain ⟨zs, hz⟩ := exists_digits (Mth.dg 1000000000 n) (Mth.dg_lt (by omega) n)
 have hl : zs.length ≤ 2 := by rw [← hz] at hs; simpa [nats] using hs
 have h2 := (callsIn_wide (n := 3)).1 (wide_in Fence.wide 3 trivial trivial trivial rfl (by omega) v zs (by omega) w (by rw [hz]; exact h))
 rw [foldW_short zs hl, hz, Mth.val_dg (by omega)] at h2
 exact h2
end Go.Proofs.YtkcdgaijklhnaaaGreatDoor
