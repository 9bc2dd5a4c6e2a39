/-
  Small numbers of the program; whole numbers of the reference.
-/
import Derived.Test.YtldjemlmjfpmjaaGreatDoorNatWide
import Derived.Test.YtldjemlmjfpmjaaGreatDoorNatA
import Derived.Test.YtldjemlmjfpmjaaGreatDoorRD
import Derived.Outline
import Derived.Test.YtldjemlmjfpmjaaGreatDoorRString
import Derived.Test.YtldjemlmjfpmjaaGreatDoorShelf
import Derived.Lib.AtoiAll
namespace Go.Proofs.YtldjemlmjfpmjaaGreatDoor
open Go.RowKit Go.Shelf
attribute [local go_sem] Oper.semAt_some

/-- no round has come to the bound -/
def okP (pre : List (Nat × Dg)) : Prop := ∀ k, k < pre.length → foldW (pre.take k) < 4611686018
theorem okP_snoc {pre : List (Nat × Dg)} {x : Nat × Dg} (h : okP pre) (h2 : foldW pre < 4611686018) : okP (pre ++ [x]) := by
  intro k hk
  rcases Nat.lt_or_ge k pre.length with h3 | h3
  · rw [List.take_append_of_le_length (by omega)]; exact h k h3
  · have : k = pre.length := by simp at hk; omega
    subst this
    rw [List.take_append_of_le_length (Nat.le_refl _), List.take_length]; exact h2

set_option maxRecDepth 100000 in
set_option maxHeartbeats 2000000 in
theorem small_in (F : Fence) (n : Nat) (h3 : F.fn 150) (h5 : F.fn 189) (h7 : F.fn 233) (hro : F.round = none) (hn : 3 ≤ n) (v : Value) (zs : List Dg) (hreach : zs.length ≤ 3) (w : World) (hsl : Sl w v (u32s (nats zs))) :
    CallsIn F n Tryz.prog 150 #[v] w fun e W' => Below w.heap.size w W' ∧
      (e = .returned (.tuple #[.int .i64 (IntKind.i64.wrap (foldW (back zs zs.length))), .bool (decide (foldW (back zs zs.length) < 4611686018427387904))]) ∧ okP (back zs zs.length) ∨
       e = .returned (.tuple #[.int .i64 0, .bool false]) ∧ ∃ k, k < zs.length ∧ 4611686018 ≤ foldW (back zs k)) := by
  have h1 : 1 ≤ n := by omega
  obtain ⟨V, hV⟩ : ∃ V, foldW (back zs zs.length) = V := ⟨_, rfl⟩
  rw [hV]
  have HV := Lib.hid hV
  clear hV
  have HS := Lib.hid hsl
  obtain ⟨A, c, rfl, q1, q2, q3⟩ := hsl
  have hl : (u32s (nats zs)).length = zs.length := by simp [u32s, nats]
  rw [hl] at q1 q3
  have HS2 : Hid (Sl w (.slice A zs.length c) (u32s (nats zs))) := by have := HS.out; rw [hl] at this; exact Lib.hid this
  rw [hl]
  have Q3 := Lib.hid q3
  have hgt : ¬ ((3 : Int) < (zs.length : Int)) := by omega
  have hgt2 : ¬ (3 < zs.length) := by omega
  clear q3 hl HS
  refine callsIn_of_wp_marks Tryz.func150 rfl h3 ?_ hro
  simp only [Tryz.ntmps150, List.size_toArray, List.length_cons, List.length_nil, Nat.reduceAdd, Nat.reduceSub, Array.replicate_succ, Array.replicate_zero, List.push_toArray, List.append_toArray, List.nil_append, List.cons_append]
  gi_wp2_with (gi_at_call 189; refine (back_in F (n - 1) h5 hro _ _ _ _).mono ?_; rintro e w' ⟨rfl, rfl⟩)
  obtain ⟨W0, hW0⟩ : ∃ W0, (((w.alloc (.cells #[.int .i64 0] 3)).alloc (.cells #[.bool false] 4)).alloc (.cells #[.int .u64 0] 125)).alloc (.cells #[.slice A zs.length c] 88) = W0 := ⟨_, rfl⟩
  have k0 : Boxed W0 w.heap.size 3 (.int .i64 0) := by rw [← hW0]; exact (((Boxed.new w 3 (.int .i64 0)).alloc _).alloc _).alloc _
  have k1 : Boxed W0 (w.heap.size + 1) 4 (.bool false) := by
    rw [← hW0]
    have := Boxed.new (w.alloc (.cells #[.int .i64 0] 3)) 4 (.bool false)
    rw [World.size_alloc] at this
    exact (this.alloc _).alloc _
  have k2 : Boxed W0 (w.heap.size + 1 + 1) 125 (.int .u64 0) := by
    rw [← hW0]
    have := Boxed.new ((w.alloc (.cells #[.int .i64 0] 3)).alloc (.cells #[.bool false] 4)) 125 (.int .u64 0)
    rw [World.size_alloc, World.size_alloc] at this
    exact this.alloc _
  have k3 : Boxed W0 (w.heap.size + 1 + 1 + 1) 88 (.slice A zs.length c) := by
    rw [← hW0]
    have := Boxed.new (((w.alloc (.cells #[.int .i64 0] 3)).alloc (.cells #[.bool false] 4)).alloc (.cells #[.int .u64 0] 125)) 88 (.slice A zs.length c)
    rwa [World.size_alloc, World.size_alloc, World.size_alloc] at this
  have hB0 : Below w.heap.size w W0 := by
    rw [← hW0]
    exact ((((Below.refl _ w).alloc (Nat.le_refl _) _).alloc (by simp) _).alloc (by simp; omega) _).alloc (by simp; omega) _
  have hs0 : W0.heap.size = w.heap.size + 4 := by rw [← hW0]; simp
  rw [hW0]
  clear hW0
  refine wpIn_rangeFunc_ownG hro h1 (gf := 233) (lb := #[.pointer (some ⟨w.heap.size + 1 + 1 + 1, 0, none⟩)]) rfl h7 (enters_of Tryz.func233 (by kernel_rfl) rfl)
    (back_stops F (n - 1) h7 hro (by omega) (w.heap.size + 1 + 1 + 1) w.heap.size _ zs (by omega) W0 (by omega) k3.cell (HS2.out.below hB0) (fun b o c' e h0 => by
      obtain ⟨b', o', e', hc⟩ := Q3.out h0
      injection e with e1
      rw [e'] at e1
      injection e1 with e1
      injection e1 with e1
      subst e1
      exact World.block_lt_of_cell? w _ (hc 0 _ (u32s_at (by simpa [nats] using h0))))) kb_t (kb_b (by omega) (by omega)) (Below.refl _ _) (fun _ => rfl)
    (fun pre W => ((W.cell? ⟨w.heap.size + 1 + 1, 0, none⟩ = some (.int .u64 (foldW pre)) ∧ W.frozen? ⟨w.heap.size + 1 + 1, 0, none⟩ = false) ∧ (W.cell? ⟨w.heap.size, 0, none⟩ = some (.int .i64 0) ∧ W.frozen? ⟨w.heap.size, 0, none⟩ = false) ∧ (W.cell? ⟨w.heap.size + 1, 0, none⟩ = some (.bool false) ∧ W.frozen? ⟨w.heap.size + 1, 0, none⟩ = false) ∧ okP pre) ∧ Below w.heap.size w W)
    (fun cc pre W => (cc = .ret ∧ W.cell? ⟨w.heap.size, 0, none⟩ = some (.int .i64 0) ∧ W.cell? ⟨w.heap.size + 1, 0, none⟩ = some (.bool false) ∧ 4611686018 ≤ foldW pre.dropLast) ∧ Below w.heap.size w W)
    (OwnFrom.and (Own.from (fun s A B row hs hg hr => ⟨⟨cell_kept hs.1.1 hg hr, (frozen_kept hs.1.1 hg hr).trans hs.1.2⟩, ⟨cell_kept hs.2.1.1 hg hr, (frozen_kept hs.2.1.1 hg hr).trans hs.2.1.2⟩, ⟨cell_kept hs.2.2.1.1 hg hr, (frozen_kept hs.2.2.1.1 hg hr).trans hs.2.2.1.2⟩, hs.2.2.2⟩) _) (ownFrom_below (Nat.le_refl _) (by omega)))
    (fun cc => OwnFrom.and (Own.from (fun s A B row hs hg hr => ⟨hs.1, cell_kept hs.2.1 hg hr, cell_kept hs.2.2.1 hg hr, hs.2.2.2⟩) _) (ownFrom_below (Nat.le_refl _) (by omega)))
    ⟨⟨⟨k2.cell, k2.frozen⟩, ⟨k0.cell, k0.frozen⟩, ⟨k1.cell, k1.frozen⟩, fun k hk => by simp at hk⟩, hB0⟩
    (fun x => { tmps := #[.slice A zs.length c, undef, .pointer (some ⟨w.heap.size, 0, none⟩), .pointer (some ⟨w.heap.size + 1, 0, none⟩), .pointer (some ⟨w.heap.size + 1 + 1, 0, none⟩), undef, .int .u32 (x.2.val : Int), .slice A zs.length c, .int .i64 (zs.length : Int), .bool false, .slice A zs.length c, .func (.func 233) #[] #[.pointer (some ⟨w.heap.size + 1 + 1 + 1, 0, none⟩)], .int .i64 (x.1 : Int), .int .u32 (x.2.val : Int), undef, undef, undef, undef, undef, undef, undef, undef, undef, undef, undef], defers := [] }) ?assign ?body ?done ?stop
  case assign =>
    intro l x W K hK
    gi_wp2
    exact hK
  case body =>
    rintro l pre x W ⟨⟨⟨hc, hf⟩, ⟨hc0, hf0⟩, ⟨hc1, hf1⟩, hok⟩, hB⟩ _
    have hx := x.2.2
    by_cases hlt : foldW pre < 4611686018
    · have hge : ¬ (4611686018 ≤ foldW pre) := by omega
      gi_wp2
      refine ⟨(KeepsOthers.setCell _ _ _).from _, ⟨(Below.refl w.heap.size W).setCell (p := ⟨w.heap.size + 1 + 1, 0, none⟩) (by show w.heap.size ≤ w.heap.size + 1 + 1; omega) _, Below.heap_setCell _ _ _ _ (by simp)⟩, ⟨⟨by rw [foldW_snoc]; exact World.cell?_setCell_same' _ _ _ (by rw [hc]; rfl), by rw [World.frozen?_setCell]; exact hf⟩, ⟨?_, by rw [World.frozen?_setCell]; exact hf0⟩, ⟨?_, by rw [World.frozen?_setCell]; exact hf1⟩, okP_snoc hok hlt⟩, hB.setCell (p := ⟨w.heap.size + 1 + 1, 0, none⟩) (by show w.heap.size ≤ w.heap.size + 1 + 1; omega) _⟩
      · rw [World.cell?_setCell_other _ _ _ _ (by intro h; injection h with h _; omega)]; exact hc0
      · rw [World.cell?_setCell_other _ _ _ _ (by intro h; injection h with h _; omega)]; exact hc1
    · have hge : 4611686018 ≤ foldW pre := by omega
      gi_wp2
      refine ⟨((KeepsOthers.setCell _ _ _).from _).trans ((KeepsOthers.setCell _ _ _).from _), ⟨rfl, ?_, ?_, by simpa using hge⟩, ?_⟩
      · rw [World.cell?_setCell_other _ _ _ _ (by intro h; injection h with h _; omega)]
        exact World.cell?_setCell_same' _ _ _ (by rw [hc0]; rfl)
      · refine World.cell?_setCell_same' _ _ _ ?_
        rw [World.cell?_setCell_other _ _ _ _ (by intro h; injection h with h _; omega), hc1]
        rfl
      · exact (hB.setCell (p := ⟨w.heap.size, 0, none⟩) (Nat.le_refl _) _).setCell (p := ⟨w.heap.size + 1, 0, none⟩) (by show w.heap.size ≤ w.heap.size + 1; omega) _
  case done =>
    rintro D ys W hD rfl ⟨⟨⟨hc, hf⟩, ⟨hc0, hf0⟩, ⟨hc1, hf1⟩, hok⟩, hB⟩ hK
    rw [HV.out] at hc
    have hD2 : w.heap.size ≤ D := by omega
    obtain ⟨x0, hx0⟩ : ∃ x0, Value.int .i64 (IntKind.i64.wrap V) = x0 := ⟨_, rfl⟩
    obtain ⟨x1, hx1⟩ : ∃ x1, Value.bool (decide (V < 4611686018427387904)) = x1 := ⟨_, rfl⟩
    have HX0 := Lib.hid hx0
    have HX1 := Lib.hid hx1
    obtain ⟨W2, hW2⟩ : ∃ W2, ((W.setCell ⟨w.heap.size, 0, none⟩ x0).setCell ⟨w.heap.size + 1, 0, none⟩ x1).drew = W2 := ⟨_, rfl⟩
    have HW2 := Lib.hid hW2
    have hK2 : W2.heap[D]? = some (.deferred (some [])) := by
      rw [← hW2]
      exact (KeepsOthers.setCell (W.setCell ⟨w.heap.size, 0, none⟩ x0) ⟨w.heap.size + 1, 0, none⟩ x1).same D _ ((KeepsOthers.setCell W ⟨w.heap.size, 0, none⟩ x0).same D _ hK rfl) rfl
    have hB2 : Below w.heap.size w W2 := by
      rw [← hW2]
      exact ((hB.setCell (p := ⟨w.heap.size, 0, none⟩) (Nat.le_refl _) _).setCell (p := ⟨w.heap.size + 1, 0, none⟩) (by show w.heap.size ≤ w.heap.size + 1; omega) _).drew
    have d0 : W2.cell? ⟨w.heap.size, 0, none⟩ = some x0 := by
      rw [← hW2]
      show ((W.setCell ⟨w.heap.size, 0, none⟩ x0).setCell ⟨w.heap.size + 1, 0, none⟩ x1).cell? ⟨w.heap.size, 0, none⟩ = _
      rw [World.cell?_setCell_other _ _ _ _ (by intro h; injection h with h _; omega)]
      exact World.cell?_setCell_same' _ _ _ (by rw [hc0]; rfl)
    have d1 : W2.cell? ⟨w.heap.size + 1, 0, none⟩ = some x1 := by
      rw [← hW2]
      refine World.cell?_setCell_same' _ _ _ ?_
      rw [World.cell?_setCell_other _ _ _ _ (by intro h; injection h with h _; omega), hc1]
      rfl
    have hc5 := cell_kept d0 (grownBy_putObj' _ D (.deferred none)) (fun r e => by cases e; exact ⟨_, hK2, rfl⟩)
    have hc6 := cell_kept d1 (grownBy_putObj' _ D (.deferred none)) (fun r e => by cases e; exact ⟨_, hK2, rfl⟩)
    have hB3 := Lib.hid (hB2.trans (belowK_b (w := w) (Nat.le_refl _) W2 D _ (.deferred none) hD2 hK2 rfl rfl))
    have HOK := Lib.hid hok
    have HC5 := Lib.hid hc5
    have HC6 := Lib.hid hc6
    have HK2 := Lib.hid hK2
    clear hx0 hx1 hW2 hK2 hB2 d0 d1 hc5 hc6 hok
    gi_wp2
    gi_region
    all_goals
      gi_wp2
      rw [HX0.out, HX1.out, HW2.out]
      refine ⟨by simp, .inl ⟨_, _, rfl, run_takeDeferred HK2.out, ?_⟩⟩
      have hc5 := HC5.out
      have hc6 := HC6.out
      refine ⟨.tuple #[x0, x1], by simp [results, Tryz.results150, go_sem, hc5, hc6], hB3.out, .inl ⟨rfl, HOK.out⟩⟩
  case stop =>
    rintro D cc pre W hD ⟨k, hk, hpre⟩ ⟨⟨rfl, hc0, hc1, hstop⟩, hB⟩ hK
    have hk1 : ∃ k, k < zs.length ∧ 4611686018 ≤ foldW (back zs k) := by
      subst hpre
      cases k with
      | zero => simp [back, foldW] at hstop
      | succ k => exact ⟨k, by omega, by rwa [back_succ, List.dropLast_concat] at hstop⟩
    have hD2 : w.heap.size ≤ D := by omega
    clear hstop hpre hk
    gi_wp2
    refine ⟨by simp, .inl ⟨_, _, rfl, run_takeDeferred hK, ?_⟩⟩
    have hc5 := cell_kept hc0 (grownBy_putObj' _ D (.deferred none)) (fun r e => by cases e; exact ⟨_, hK, rfl⟩)
    have hc6 := cell_kept hc1 (grownBy_putObj' _ D (.deferred none)) (fun r e => by cases e; exact ⟨_, hK, rfl⟩)
    refine ⟨.tuple #[.int .i64 0, .bool false], by simp [results, Tryz.results150, go_sem, hc5, hc6], hB.trans (belowK_b (w := w) (Nat.le_refl _) W D _ _ hD2 hK rfl rfl), .inr ⟨rfl, hk1⟩⟩

theorem small_ok : ∀ zs : List Dg, zs.length ≤ 3 → okP (back zs zs.length) → foldW (back zs zs.length) = (Mth.val 1000000000 (nats zs) : Nat) ∧ Mth.val 1000000000 (nats zs) < 4611686018000000000
  | [], _, _ => ⟨rfl, by simp [nats, Mth.val]⟩
  | [a], _, _ => by
    have := a.2
    refine ⟨foldW_short [a] (by simp), ?_⟩
    simp [nats, Mth.val]; omega
  | [a, b], _, _ => by
    have := a.2
    have := b.2
    refine ⟨foldW_short [a, b] (by simp), ?_⟩
    simp [nats, Mth.val]; omega
  | [a, b, c], _, h => by
    have h1 := a.2
    have h2 := b.2
    have h3 := c.2
    have h4 := h 2 (by simp [back])
    simp [back, foldW, List.range_succ] at h4
    rw [IntKind.wrap_u64, IntKind.wrap_u64, IntKind.wrap_u64, IntKind.wrap_u64] at h4
    simp [back, foldW, nats, Mth.val, List.range_succ]
    rw [IntKind.wrap_u64, IntKind.wrap_u64, IntKind.wrap_u64, IntKind.wrap_u64, IntKind.wrap_u64, IntKind.wrap_u64]
    omega
  | _ :: _ :: _ :: _ :: _, h, _ => by simp at h
theorem small_stop : ∀ zs : List Dg, zs.length ≤ 3 → ∀ k, k < zs.length → 4611686018 ≤ foldW (back zs k) → 4611686018000000000 ≤ Mth.val 1000000000 (nats zs)
  | [], _, _, hk, _ => by simp at hk
  | [a], _, k, hk, h => by
    have : k = 0 := by simp at hk; omega
    subst this
    simp [back, foldW] at h
  | [a, b], _, k, hk, h => by
    have h2 := b.2
    have : k = 0 ∨ k = 1 := by simp at hk; omega
    rcases this with rfl | rfl
    · simp [back, foldW] at h
    · simp [back, foldW, List.range_succ] at h
      rw [IntKind.wrap_u64, IntKind.wrap_u64] at h
      omega
  | [a, b, c], _, k, hk, h => by
    have h1 := a.2
    have h2 := b.2
    have h3 := c.2
    have : k = 0 ∨ k = 1 ∨ k = 2 := by simp at hk; omega
    rcases this with rfl | rfl | rfl
    · simp [back, foldW] at h
    · simp [back, foldW, List.range_succ] at h
      rw [IntKind.wrap_u64, IntKind.wrap_u64] at h
      omega
    · simp [back, foldW, List.range_succ] at h
      rw [IntKind.wrap_u64, IntKind.wrap_u64, IntKind.wrap_u64, IntKind.wrap_u64] at h
      simp [nats, Mth.val]
      omega
  | _ :: _ :: _ :: _ :: _, h, _, _, _ => by simp at h

set_option maxRecDepth 100000 in
set_option maxHeartbeats 2000000 in
theorem small_long (n : Nat) (v : Value) (w : World) (h : Nt w v n) (hs : 3 < (Mth.dg 1000000000 n).length) :
    Calls Tryz.prog 150 #[v] w fun e w' => e = .returned (.tuple #[.int .i64 0, .bool false]) ∧ Below w.heap.size w w' := by
  obtain ⟨A, c, rfl, h1, h2, h3⟩ := h
  simp only [u32s_length] at *
  obtain ⟨l, hl⟩ : ∃ l, (Mth.dg 1000000000 n).length = l := ⟨_, rfl⟩
  rw [hl] at hs h1 ⊢
  have hs2 : (3 : Int) < (l : Int) := by omega
  have HB := Lib.hid (((Below.refl w.heap.size w).alloc (Nat.le_refl _) (.cells #[.int .i64 0] 3)).alloc (by simp) (.cells #[.bool false] 4))
  clear h1 h2 h3 hl
  go_enter Tryz.func150, Tryz.ntmps150
  go_wp2
  refine bodyPost_ret (v := .tuple #[.int .i64 0, .bool false]) (by simp [results, Tryz.results150, go_sem]) rfl ?_
  exact ⟨rfl, HB.out⟩

/-- (nat.Nat).Small: the number and whether it is small -/
def smV (n : Nat) : Int := if n < 4611686018000000000 then n else 0
def smB (n : Nat) : Bool := decide (n < 4611686018000000000)
theorem small_any (n : Nat) (v : Value) (w : World) (h : Nt w v n) :
    Calls Tryz.prog 150 #[v] w fun e w' => e = .returned (.tuple #[.int .i64 (smV n), .bool (smB n)]) ∧ Below w.heap.size w w' := by
  rcases Nat.lt_or_ge 3 (Mth.dg 1000000000 n).length with hl | hl
  · have h2 : ¬ n < 4611686018000000000 := fun hn => by
      have := Mth.dg_len_le (b := 1000000000) (by omega) 3 n (by omega)
      omega
    unfold smV smB
    rw [if_neg h2, decide_eq_false h2]
    exact small_long n v w h hl
  · obtain ⟨zs, hz⟩ := exists_digits (Mth.dg 1000000000 n) (Mth.dg_lt (by omega) n)
    have hl2 : zs.length ≤ 3 := by rw [← hz] at hl; simpa [nats] using hl
    refine ((callsIn_wide (n := 3)).1 (small_in Fence.wide 3 trivial trivial trivial rfl (by omega) v zs hl2 w (by rw [hz]; exact h))).mono ?_
    have hval : Mth.val 1000000000 (nats zs) = n := by rw [hz, Mth.val_dg (by omega)]
    rintro e w' ⟨hB, ⟨rfl, hok⟩ | ⟨rfl, k, hk, hst⟩⟩
    · obtain ⟨h3, h4⟩ := small_ok zs hl2 hok
      rw [hval] at h3 h4
      refine ⟨?_, hB⟩
      have h5 : IntKind.i64.wrap (n : Int) = (n : Int) := IntWalk.i64_in _ ⟨by omega, by omega⟩
      unfold smV smB
      rw [h3, h5, if_pos h4, decide_eq_true h4, decide_eq_true (show (n : Int) < 4611686018427387904 by omega)]
    · have h3 := small_stop zs hl2 k hk hst
      rw [hval] at h3
      have h2 : ¬ n < 4611686018000000000 := by omega
      unfold smV smB
      rw [if_neg h2, decide_eq_false h2]
      exact ⟨rfl, hB⟩
end Go.Proofs.YtldjemlmjfpmjaaGreatDoor

namespace Go.Proofs.YtldjemlmjfpmjaaGreatDoor
open Go.RowKit

/-- (frac.Frac).Small: whether the number is a small whole one, and the int -/
def fsB (m d : Nat) : Bool := smB m && decide (d = 1)
def fsV (g : Bool) (m d : Nat) : Int := if fsB m d = true then (if g = true then -(m : Int) else m) else 0
theorem smV_of {m : Nat} (h : smB m = true) : smV m = m ∧ m < 4611686018000000000 := by
  have h2 : m < 4611686018000000000 := by simpa [smB] using h
  exact ⟨if_pos h2, h2⟩

set_option maxHeartbeats 4000000 in
set_option maxRecDepth 100000 in
theorem fwhole_any (g : Bool) (d : Nat) (x y : Value) (w : World) (h2 : Nt w y d) (l2 : (Mth.dg 1000000000 d).length ≤ 1000000000000) :
    Calls Tryz.prog 151 #[.agg #[.bool g, x, y]] w fun e w' => e = .returned (.bool (decide (d = 1))) ∧ Below w.heap.size w w' := by
  have HB := Lib.hid ((Below.refl w.heap.size w).alloc (Nat.le_refl _) (.cells #[.bool g, x, y] 90))
  have HO := Lib.hid (fun o => one_any d y (w.alloc o) (h2.alloc o) l2)
  obtain ⟨A2, n2, k2, rfl⟩ := h2.shape
  obtain ⟨b, hb⟩ : ∃ b, decide (d = 1) = b := ⟨_, rfl⟩
  rw [hb] at HO ⊢
  clear hb h2
  go_enter Tryz.func151, Tryz.ntmps151
  go_wp2_with fail
  refine (HO.out _).mono ?_
  rintro e w1 ⟨rfl, rfl⟩
  go_wp2
  go_ret
  exact ⟨rfl, HB.out⟩

set_option maxHeartbeats 4000000 in
set_option maxRecDepth 100000 in
theorem fsmall_any (g : Bool) (m d : Nat) (x y : Value) (w : World) (h1 : Nt w x m) (h2 : Nt w y d) (l2 : (Mth.dg 1000000000 d).length ≤ 1000000000000) :
    Calls Tryz.prog 108 #[.agg #[.bool g, x, y]] w fun e w' => e = .returned (.tuple #[.int .i64 (fsV g m d), .bool (fsB m d)]) ∧ Below w.heap.size w w' := by
  obtain ⟨A1, n1, k1, rfl⟩ := h1.shape
  obtain ⟨A2, n2, k2, rfl⟩ := h2.shape
  obtain ⟨W, hW⟩ : ∃ W, W = w.alloc (.cells #[.bool g, .slice A1 n1 k1, .slice A2 n2 k2] 90) := ⟨_, rfl⟩
  have hBW : Below w.heap.size w W := by rw [hW]; exact (Below.refl _ w).alloc (Nat.le_refl _) _
  have hk0 : Blk W w.heap.size 90 #[.bool g, .slice A1 n1 k1, .slice A2 n2 k2] := by rw [hW]; exact Blk.new w _ _
  have e0 := hk0.cell 0
  have e1 := hk0.cell 1
  have e2 := hk0.cell 2
  simp only [List.getElem?_toArray, List.getElem?_cons_zero, List.getElem?_cons_succ] at e0 e1 e2
  have z0 := hk0.lt
  have HS : Hid (∀ w', Below W.heap.size W w' → w'.cell? ⟨w.heap.size, 0, none⟩ = some (.bool g) ∧ w'.cell? ⟨w.heap.size, 1, none⟩ = some (.slice A1 n1 k1) ∧ w'.cell? ⟨w.heap.size, 2, none⟩ = some (.slice A2 n2 k2)) := Lib.hid fun w' hb =>
    ⟨(hb.cell (p := ⟨w.heap.size, 0, none⟩) z0).trans e0, (hb.cell (p := ⟨w.heap.size, 1, none⟩) z0).trans e1, (hb.cell (p := ⟨w.heap.size, 2, none⟩) z0).trans e2⟩
  have HSM := Lib.hid (small_any m _ W (h1.below hBW))
  have HWH := Lib.hid (fun W' (hb : Below W.heap.size W W') => fwhole_any g d (.slice A1 n1 k1) _ W' ((h2.below hBW).below hb) l2)
  obtain ⟨V, hV⟩ : ∃ V, fsV g m d = V := ⟨_, rfl⟩
  obtain ⟨B, hB⟩ : ∃ B, fsB m d = B := ⟨_, rfl⟩
  obtain ⟨sv, hsv⟩ : ∃ sv, smV m = sv := ⟨_, rfl⟩
  obtain ⟨sb, hsb⟩ : ∃ sb, smB m = sb := ⟨_, rfl⟩
  obtain ⟨db, hdb⟩ : ∃ db, decide (d = 1) = db := ⟨_, rfl⟩
  have HV := Lib.hid hV
  have HBB := Lib.hid hB
  have HSV := Lib.hid hsv
  have HSB := Lib.hid hsb
  have HDB := Lib.hid hdb
  have HBW := Lib.hid hBW
  have HW := Lib.hid hW
  rw [hV, hB]
  rw [hsv, hsb] at HSM
  rw [hdb] at HWH
  clear hV hB hsv hsb hdb hBW hW hk0 h1 h2
  go_enter Tryz.func108, Tryz.ntmps108
  go_wp2_with fail
  rw [← HW.out]
  refine HSM.out.mono ?_
  rintro e w1 ⟨rfl, hB1⟩
  have HB1 := Lib.hid hB1
  obtain ⟨p0, p1, p2⟩ := HS.out w1 hB1
  clear e0 e1 e2 hB1
  cases sb with
  | false =>
    have hBf : B = false := by rw [← HBB.out]; unfold fsB; rw [HSB.out]; rfl
    have hVf : V = 0 := by rw [← HV.out]; unfold fsV; rw [HBB.out, hBf]; rfl
    subst hBf
    subst hVf
    go_wp2
    go_ret2
    exact ⟨rfl, HBW.out.trans (HB1.out.mono HBW.out.size)⟩
  | true =>
    obtain ⟨hs1, hs2⟩ := smV_of HSB.out
    have hsv2 : sv = (m : Int) := HSV.out.symm.trans hs1
    subst hsv2
    have hneg : wrap64 (-(m : Int)) = -(m : Int) := by unfold wrap64; omega
    have HNEG := Lib.hid hneg
    clear hs1 hs2 hneg
    go_wp2_with fail
    refine (HWH.out _ HB1.out).mono ?_
    rintro e w2 ⟨rfl, hB2⟩
    have HB2 := Lib.hid (HB1.out.trans (hB2.mono HB1.out.size))
    clear p0 p1 p2
    obtain ⟨p0, p1, p2⟩ := HS.out w2 HB2.out
    clear hB2
    cases db with
    | false =>
      have hBf : B = false := by rw [← HBB.out]; unfold fsB; rw [HSB.out, HDB.out]; rfl
      have hVf : V = 0 := by rw [← HV.out]; unfold fsV; rw [HBB.out, hBf]; rfl
      subst hBf
      subst hVf
      go_wp2
      go_ret2
      exact ⟨rfl, HBW.out.trans (HB2.out.mono HBW.out.size)⟩
    | true =>
      have hBt : B = true := by rw [← HBB.out]; unfold fsB; rw [HSB.out, HDB.out]; rfl
      have hVt : V = if g = true then -(m : Int) else m := by rw [← HV.out]; unfold fsV; rw [HBB.out, hBt]; rfl
      subst hBt
      cases g with
      | true =>
        have hVt2 : V = -(m : Int) := hVt
        clear hVt
        subst hVt2
        go_wp2
        rw [HNEG.out]
        go_ret2
        exact ⟨rfl, HBW.out.trans (HB2.out.mono HBW.out.size)⟩
      | false =>
        have hVt2 : V = (m : Int) := hVt
        clear hVt
        subst hVt2
        go_wp2
        go_ret2
        exact ⟨rfl, HBW.out.trans (HB2.out.mono HBW.out.size)⟩

/-- the words -/
def isW (n : Int) : Bool := decide (-2147483648 ≤ n) && decide (n ≤ 2147483647)
end Go.Proofs.YtldjemlmjfpmjaaGreatDoor

namespace Go.Proofs.YtldjemlmjfpmjaaGreatDoor.Mth
theorem dec_len_word {m k : Nat} (hk : 0 < k) (h : m < 10 ^ k) : (Lib.decDigits m).length ≤ k := (pad_eq k m h hk).2
theorem parse_never : ∀ (l : List UInt8) (acc : Nat), l.all isD = true → Lib.parseUint10 acc l = .range ∨ ∃ u, Lib.parseUint10 acc l = .ok u
  | [], acc, _ => Or.inr ⟨acc, by simp [Lib.parseUint10]⟩
  | c :: r, acc, h => by
    simp only [List.all_cons, Bool.and_eq_true, isD, decide_eq_true_eq] at h
    simp only [Lib.parseUint10]
    split
    · split
      · exact Or.inl rfl
      · split
        · exact Or.inl rfl
        · exact parse_never r _ h.2
    · rename_i hne
      exact absurd (by omega) hne
theorem atoi_never {l : List UInt8} (h : l.all isD = true) (h0 : l ≠ []) : Lib.atoiAll l = .range ∨ ∃ v, Lib.atoiAll l = .ok v := by
  cases l with
  | nil => exact absurd rfl h0
  | cons c r =>
    have hc : ¬ (c.toNat = 43 ∨ c.toNat = 45) := by
      simp only [List.all_cons, Bool.and_eq_true, isD, decide_eq_true_eq] at h
      omega
    have hn : ¬ c.toNat = 45 := fun e => hc (Or.inr e)
    unfold Lib.atoiAll
    simp only [if_neg hc, Lib.parseMag, List.cons_ne_nil, if_false]
    rcases parse_never (c :: r) 0 h with e | ⟨u, e⟩
    · rw [e]; exact Or.inl rfl
    · rw [e]
      simp only [hn, not_false_eq_true, true_and, false_and, if_false]
      split
      · exact Or.inl rfl
      · exact Or.inr ⟨_, rfl⟩
end Go.Proofs.YtldjemlmjfpmjaaGreatDoor.Mth
namespace Go.Proofs.YtldjemlmjfpmjaaGreatDoor
open Go.RowKit Go.Shelf

/-- the variable strconv.ErrRange holds an error -/
def ErrV (w : World) : Prop := 1 < w.heap.size ∧ ∃ te pe, w.var? Tryz.prog "strconv.ErrRange" = some #[.iface te pe]
theorem ErrV.low {w w' : World} (h : ErrV w) (hb : Below w.heap.size w w') : ErrV w' := by
  obtain ⟨h1, te, pe, h2⟩ := h
  exact ⟨Nat.lt_of_lt_of_le h1 hb.size, te, pe, var?_below hb (show Tryz.prog.globalNamed "strconv.ErrRange" = some 1 by kernel_rfl) h1 h2⟩
/-- the number as an int -/
def whB (m d : Nat) : Bool := decide ((Lib.decDigits m).length ≤ 18 ∧ d = 1)
def whV (g : Bool) (m d : Nat) : Int := if whB m d = true then (if g = true then -(m : Int) else m) else 0

set_option maxHeartbeats 4000000 in
set_option maxRecDepth 100000 in
theorem rwhole_any (g : Bool) (m d : Nat) (x y : Value) (w : World) (h1 : Pt w x m) (h2 : Pt w y d) (l1 : (Mth.dg 10000 m).length ≤ 1000000000) (htab : Tabs w) (herr : ErrV w) :
    Calls Tryz.prog 76 #[.agg #[.bool g, x, y]] w fun e w' => e = .returned (.tuple #[.int .i64 (whV g m d), .bool (whB m d)]) ∧ Below w.heap.size w w' := by
  obtain ⟨A1, n1, k1, rfl⟩ := h1.shape
  have HP2 := Lib.hid h2
  obtain ⟨A2, n2, k2, rfl, hn2, -, hd1⟩ := h2.lenform
  obtain ⟨W, hW⟩ : ∃ W, W = w.alloc (.cells #[.bool g, .slice A1 n1 k1, .slice A2 n2 k2] 52) := ⟨_, rfl⟩
  have hBW : Below w.heap.size w W := by rw [hW]; exact (Below.refl _ w).alloc (Nat.le_refl _) _
  have hk0 : Blk W w.heap.size 52 #[.bool g, .slice A1 n1 k1, .slice A2 n2 k2] := by rw [hW]; exact Blk.new w _ _
  have e0 := hk0.cell 0
  have e1 := hk0.cell 1
  have e2 := hk0.cell 2
  simp only [List.getElem?_toArray, List.getElem?_cons_zero, List.getElem?_cons_succ] at e0 e1 e2
  have z0 := hk0.lt
  have HS : Hid (∀ w', Below W.heap.size W w' → w'.cell? ⟨w.heap.size, 0, none⟩ = some (.bool g) ∧ w'.cell? ⟨w.heap.size, 1, none⟩ = some (.slice A1 n1 k1) ∧ w'.cell? ⟨w.heap.size, 2, none⟩ = some (.slice A2 n2 k2)) := Lib.hid fun w' hb =>
    ⟨(hb.cell (p := ⟨w.heap.size, 0, none⟩) z0).trans e0, (hb.cell (p := ⟨w.heap.size, 1, none⟩) z0).trans e1, (hb.cell (p := ⟨w.heap.size, 2, none⟩) z0).trans e2⟩
  have HT := Lib.hid (htab.low hBW)
  have HE := Lib.hid (herr.low hBW)
  have HSTR := Lib.hid (rstring_any m _ W (h1.below hBW) l1 (htab.low hBW))
  have HY : Hid (∀ w', Below W.heap.size W w' → n2 = 1 → ∃ b o, A2 = some ⟨b, o, none⟩ ∧ w'.cell? ⟨b, o, none⟩ = some (.int .i64 (d : Int))) := Lib.hid fun w' hb hk => by
    obtain ⟨b, o, e, hc⟩ := hd1 hk
    refine ⟨b, o, e, ?_⟩
    have hlt := World.block_lt_of_cell? w _ hc
    exact ((hBW.trans (hb.mono hBW.size)).cell (p := ⟨b, o, none⟩) hlt).trans hc
  have HD : Hid (d = 1 ↔ n2 = 1 ∧ d = 1) := Lib.hid ⟨fun e => ⟨by rw [hn2, e, Mth.dg_one (by omega) (by omega) (by omega)]; rfl, e⟩, fun h => h.2⟩
  obtain ⟨V, hV⟩ : ∃ V, whV g m d = V := ⟨_, rfl⟩
  obtain ⟨B, hB⟩ : ∃ B, whB m d = B := ⟨_, rfl⟩
  have HV := Lib.hid hV
  have HBB := Lib.hid hB
  have HBW := Lib.hid hBW
  have HW := Lib.hid hW
  rw [hV, hB]
  clear hV hB hBW hW hk0 h1 h2 htab herr hd1 hn2
  go_enter Tryz.func76, Tryz.ntmps76
  go_wp2_with fail
  rw [← HW.out]
  refine HSTR.out.mono ?_
  rintro e w1 ⟨S, rfl, hS, hB1⟩
  have HB1 := Lib.hid hB1
  have hall : S.data.toList.all Mth.isD = true := by rw [hS]; exact Mth.dec_all m
  have hne : S.data.toList ≠ [] := by rw [hS]; exact Mth.dec_ne_nil m
  have hlen : S.size = (Lib.decDigits m).length := by rw [bytes_size, hS]
  have hdv : Mth.dv S.data.toList = m := by rw [hS, Mth.dv_dec]
  have hmax : S.size ≤ 10000000000 := by
    rw [hlen]
    have h3 := Mth.dec_len_le m
    have h4 : (Mth.dg 1000000000 m).length ≤ (Mth.dg 10000 m).length := Mth.dg_len_le (by omega) _ _ (Nat.lt_of_lt_of_le (Mth.lt_pow_dg (by omega) m) (Nat.pow_le_pow_left (by omega) _))
    omega
  have HT1 := Lib.hid (HT.out.low hB1)
  have HE1 := Lib.hid (HE.out.low hB1)
  clear e0 e1 e2 hB1
  by_cases hl : S.size ≤ 18
  · have hA := atoi_str S w1 hall hne (by rw [← bytes_size]; exact hl)
    rw [hdv] at hA
    have HA := Lib.hid hA
    have hm18 : m < 1000000000000000000 := by
      have h3 := Mth.dv_lt S.data.toList hall
      rw [hdv, ← bytes_size] at h3
      exact Nat.lt_of_lt_of_le h3 (Nat.pow_le_pow_right (by omega) hl)
    have HM := Lib.hid hm18
    have hl2 : decide (18 < S.size) = false := by simpa using hl
    have hl3 : decide ((18 : Int) < (S.size : Int)) = false := by rw [decide_eq_false]; omega
    have hneg0 : IntKind.i64.wrap (-(m : Int)) = -(m : Int) := IntWalk.i64_in (-(m : Int)) ⟨by omega, by omega⟩
    have hneg : wrap64 (-(m : Int)) = -(m : Int) := by unfold wrap64; omega
    have HNEG := Lib.hid hneg
    have HL := Lib.hid hl
    have HLEN := Lib.hid hlen
    clear hall hne hlen hdv hmax hl hA hm18 hneg hneg0
    go_wp2_with fail
    refine HA.out.mono ?_
    rintro e w2 ⟨rfl, hB2⟩
    have HB2 := Lib.hid (HB1.out.trans (hB2.mono HB1.out.size))
    obtain ⟨e0, e1, e2⟩ := HS.out w2 HB2.out
    clear hB2
    by_cases hk : n2 = 1
    · obtain ⟨b, o, rfl, hc⟩ := HY.out w2 HB2.out hk
      subst hk
      by_cases hd : d = 1
      · subst hd
        have hB0 : whB m 1 = true := by unfold whB; rw [decide_eq_true]; exact ⟨by rw [← HLEN.out]; exact HL.out, rfl⟩
        have hBt : B = true := by rw [← HBB.out, hB0]
        have hVt : V = if g = true then -(m : Int) else m := by rw [← HV.out]; unfold whV; rw [if_pos hB0]
        clear hB0
        subst hBt
        cases g with
        | true =>
          have hVt2 : V = -(m : Int) := hVt
          clear hVt
          subst hVt2
          go_wp2
          rw [HNEG.out]
          go_ret2
          exact ⟨rfl, HBW.out.trans (HB2.out.mono HBW.out.size)⟩
        | false =>
          have hVt2 : V = (m : Int) := hVt
          clear hVt
          subst hVt2
          go_wp2
          go_ret2
          exact ⟨rfl, HBW.out.trans (HB2.out.mono HBW.out.size)⟩
      · have hB0 : whB m d = false := by unfold whB; rw [decide_eq_false]; intro h; exact hd h.2
        have hBf : B = false := by rw [← HBB.out, hB0]
        have hVf : V = 0 := by rw [← HV.out]; unfold whV; rw [hB0]; rfl
        have hd2 : ((d : Int) != 1) = true := by simp; omega
        clear hB0
        subst hBf
        subst hVf
        go_wp2
        go_ret2
        exact ⟨rfl, HBW.out.trans (HB2.out.mono HBW.out.size)⟩
    · have hB0 : whB m d = false := by unfold whB; rw [decide_eq_false]; intro h; exact hk ((HD.out).1 h.2).1
      have hBf : B = false := by rw [← HBB.out, hB0]
      have hVf : V = 0 := by rw [← HV.out]; unfold whV; rw [hB0]; rfl
      have hk2 : ((n2 : Int) != 1) = true := by simp; omega
      clear hB0
      subst hBf
      subst hVf
      go_wp2
      go_ret2
      exact ⟨rfl, HBW.out.trans (HB2.out.mono HBW.out.size)⟩
  · have hB0 : whB m d = false := by unfold whB; rw [decide_eq_false]; intro h; omega
    have hBf : B = false := by rw [← HBB.out, hB0]
    have hVf : V = 0 := by rw [← HV.out]; unfold whV; rw [hB0]; rfl
    subst hBf
    subst hVf
    have hl2 : decide (18 < S.size) = true := by simpa using hl
    have hl3 : (18 : Int) < (S.size : Int) := by omega
    rcases Mth.atoi_never hall hne with ha | ⟨v, ha⟩
    · obtain ⟨te, pe, hvar⟩ := HE1.out.2
      have HA := Lib.hid (Tryz.strconv_Atoi_range_var S (by omega) ha te pe w1 hvar)
      clear hall hne hlen hdv hmax hl ha hvar
      go_wp2_with fail
      refine HA.out.mono ?_
      rintro e w2 ⟨N, rfl, -, -, hB2⟩
      have HB2 := Lib.hid (HB1.out.trans (hB2.mono HB1.out.size))
      obtain ⟨e0, e1, e2⟩ := HS.out w2 HB2.out
      clear hB2
      go_wp2
      go_ret2
      exact ⟨rfl, HBW.out.trans (HB2.out.mono HBW.out.size)⟩
    · have HA := Lib.hid (Tryz.strconv_Atoi_ok S (by omega) v ha w1)
      clear hall hne hlen hdv hmax hl ha
      go_wp2_with fail
      refine HA.out.mono ?_
      rintro e w2 ⟨rfl, hw2⟩
      have HB2 : Hid (Below W.heap.size W w2) := by
        refine Lib.hid (HB1.out.trans (Below.mono ?_ HB1.out.size))
        rcases hw2 with rfl | ⟨t, rfl⟩
        · exact Below.refl _ _
        · exact Lib.bytesWorld_below w1 _ t
      obtain ⟨e0, e1, e2⟩ := HS.out w2 HB2.out
      clear hw2
      go_wp2
      go_ret2
      exact ⟨rfl, HBW.out.trans (HB2.out.mono HBW.out.size)⟩
end Go.Proofs.YtldjemlmjfpmjaaGreatDoor
