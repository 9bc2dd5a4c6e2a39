/-
  slices.Clone, for several types of elements.
-/
import Derived.Test.YtneabpgphjcbkaaGreatDoorGt
import Derived.Lib.SliceRun
namespace Go.Proofs.YtneabpgphjcbkaaGreatDoor
open Go.RowKit

theorem inf_tm : Inf Tryz.prog 279 2 24 := inf_of (z := .agg #[.string ⟨#[]⟩, .int .i64 0]) (by kernel_rfl) rfl (by decide)
set_option maxHeartbeats 1000000 in
set_option maxRecDepth 100000 in
theorem clone_tm (xs : List LTerm) (v : Value) (w : World) (C : Cl) (hC : Keeps C w.cell?) (hv : RTerms C v xs) :
    Calls Tryz.prog 317 #[v] w fun e w' => ∃ v', e = .returned v' ∧ Below w.heap.size w w' ∧ Ow 2 ETerm 279 w' C w.heap.size v' xs := by
  obtain ⟨cs, hen, A, c, rfl, h1, h2, h5, h3⟩ := Rws.cells cellsTerm hv
  have heq := fun W (a : Option Addr) (n c n' c' : Nat) => Lib.run_eql_slice_nil (P := Tryz.prog) W 214 279 a n c n' c' Tryz.underlying214
  cases A with
  | none =>
    have h0 : xs = [] := by
      cases xs with
      | nil => rfl
      | cons x xs =>
        obtain ⟨b, o, e, -⟩ := h3 (by simp)
        cases e
    subst h0
    clear hv hen h3
    go_enter Tryz.func317, Tryz.ntmps317
    go_wp2
    go_ret
    exact ⟨_, rfl, Below.refl _ _, Ow.nil _ _ _ _ _ _⟩
  | some ad =>
    have hnews : ∀ j u, cs[j]? = some u → (w.alloc (.cells #[] 279)).cell? (ad.add j) = some u := by
      intro j u hu
      have h0 : 0 < xs.length := by
        rcases Nat.eq_zero_or_pos xs.length with h0 | h0
        · have h6 := hen.1
          have h7 := (List.getElem?_eq_some_iff.1 hu).1
          rw [h0] at h6; omega
        · exact h0
      obtain ⟨b, o, e, h6⟩ := h3 h0
      injection e with e
      subst e
      have h7 := hC _ _ (h6 j u hu)
      rw [Addr.add_lit]
      exact (World.cell?_alloc_lt w _ _ (World.block_lt_of_cell? w _ h7)).trans h7
    have hown : Ow 2 ETerm 279 (w.alloc (.cells #[] 279)) C w.heap.size (.slice (some ⟨w.heap.size, 0, none⟩) 0 0) [] := ⟨[], World.ownsRow_made (base := w.heap.size) (e := 279) (size := 2) w #[] 0 (Nat.le_refl _) (by unfold maxLen; omega) rfl, Enc.nil _ _ _, by simp⟩
    obtain ⟨n, hn⟩ : ∃ n, xs.length = n := ⟨_, rfl⟩
    have HL := Lib.hid hn
    rw [hn] at h1 h5 ⊢
    have HN := Lib.hid hnews
    have HE := Lib.hid hen
    have HO := Lib.hid hown
    have h7 : (n : Int) ≤ 1000000 := by omega
    clear hv hen h3 hnews hown hn
    go_enter Tryz.func317, Tryz.ntmps317
    go_wp2_with (at_builtin; refine wpList_append_Ow cellsTerm inf_tm _ rfl _ _ 214 rfl w.heap.size Tryz.underlying214 _ [] C rfl HO.out ad n c cs xs rfl HL.out HE.out HN.out (by simp; omega) (by simp) ?_; intro v' w1 hown' hB _)
    go_ret
    exact ⟨_, rfl, ((Below.refl _ _).alloc (Nat.le_refl _) _).trans hB, by simpa using hown'⟩

theorem inf_sym : Inf Tryz.prog 273 3 32 := inf_of (z := .agg #[.string ⟨#[]⟩, .int .i64 0, .int .i64 0]) (by kernel_rfl) rfl (by decide)
theorem inf_ax : Inf Tryz.prog 218 3 48 := inf_of (z := .agg #[.string ⟨#[]⟩, .int .i64 0, .slice none 0 0]) (by kernel_rfl) rfl (by decide)
set_option maxHeartbeats 1000000 in
set_option maxRecDepth 100000 in
theorem clone_ax (xs : List LAxis) (v : Value) (w : World) (C : Cl) (hC : Keeps C w.cell?) (hv : RAxes C v xs) :
    Calls Tryz.prog 318 #[v] w fun e w' => ∃ v', e = .returned v' ∧ Below w.heap.size w w' ∧ Ow 3 EAxis 218 w' C w.heap.size v' xs := by
  obtain ⟨cs, hen, A, c, rfl, h1, h2, h5, h3⟩ := Rws.cells cellsAxis hv
  have heq := fun W (a : Option Addr) (n c n' c' : Nat) => Lib.run_eql_slice_nil (P := Tryz.prog) W 80 218 a n c n' c' Tryz.underlying80
  cases A with
  | none =>
    have h0 : xs = [] := by
      cases xs with
      | nil => rfl
      | cons x xs =>
        obtain ⟨b, o, e, -⟩ := h3 (by simp)
        cases e
    subst h0
    clear hv hen h3
    go_enter Tryz.func318, Tryz.ntmps318
    go_wp2
    go_ret
    exact ⟨_, rfl, Below.refl _ _, Ow.nil _ _ _ _ _ _⟩
  | some ad =>
    have hnews : ∀ j u, cs[j]? = some u → (w.alloc (.cells #[] 218)).cell? (ad.add j) = some u := by
      intro j u hu
      have h0 : 0 < xs.length := by
        rcases Nat.eq_zero_or_pos xs.length with h0 | h0
        · have h6 := hen.1
          have h7 := (List.getElem?_eq_some_iff.1 hu).1
          rw [h0] at h6; omega
        · exact h0
      obtain ⟨b, o, e, h6⟩ := h3 h0
      injection e with e
      subst e
      have h7 := hC _ _ (h6 j u hu)
      rw [Addr.add_lit]
      exact (World.cell?_alloc_lt w _ _ (World.block_lt_of_cell? w _ h7)).trans h7
    have hown : Ow 3 EAxis 218 (w.alloc (.cells #[] 218)) C w.heap.size (.slice (some ⟨w.heap.size, 0, none⟩) 0 0) [] := ⟨[], World.ownsRow_made (base := w.heap.size) (e := 218) (size := 3) w #[] 0 (Nat.le_refl _) (by unfold maxLen; omega) rfl, Enc.nil _ _ _, by simp⟩
    obtain ⟨n, hn⟩ : ∃ n, xs.length = n := ⟨_, rfl⟩
    have HL := Lib.hid hn
    rw [hn] at h1 h5 ⊢
    have HN := Lib.hid hnews
    have HE := Lib.hid hen
    have HO := Lib.hid hown
    have h7 : (n : Int) ≤ 1000000 := by omega
    clear hv hen h3 hnews hown hn
    go_enter Tryz.func318, Tryz.ntmps318
    go_wp2_with (at_builtin; refine wpList_append_Ow cellsAxis inf_ax _ rfl _ _ 80 rfl w.heap.size Tryz.underlying80 _ [] C rfl HO.out ad n c cs xs rfl HL.out HE.out HN.out (by simp; omega) (by simp) ?_; intro v' w1 hown' hB _)
    go_ret
    exact ⟨_, rfl, ((Below.refl _ _).alloc (Nat.le_refl _) _).trans hB, by simpa using hown'⟩

theorem inf_int : Inf Tryz.prog 3 1 8 := inf_of (z := .int .i64 0) (by kernel_rfl) rfl (by decide)
set_option maxHeartbeats 1000000 in
set_option maxRecDepth 100000 in
theorem clone_int (xs : List Int) (v : Value) (w : World) (C : Cl) (hC : Keeps C w.cell?) (hv : RInts C v xs) :
    Calls Tryz.prog 53 #[v] w fun e w' => ∃ v', e = .returned v' ∧ Below w.heap.size w w' ∧ Ow 1 EInt 3 w' C w.heap.size v' xs := by
  obtain ⟨cs, hen, A, c, rfl, h1, h2, h5, h3⟩ := Rws.cells cellsInt hv
  have heq := fun W (a : Option Addr) (n c n' c' : Nat) => Lib.run_eql_slice_nil (P := Tryz.prog) W 22 3 a n c n' c' Tryz.underlying22
  cases A with
  | none =>
    have h0 : xs = [] := by
      cases xs with
      | nil => rfl
      | cons x xs =>
        obtain ⟨b, o, e, -⟩ := h3 (by simp)
        cases e
    subst h0
    clear hv hen h3
    go_enter Tryz.func53, Tryz.ntmps53
    go_wp2
    go_ret
    exact ⟨_, rfl, Below.refl _ _, Ow.nil _ _ _ _ _ _⟩
  | some ad =>
    have hnews : ∀ j u, cs[j]? = some u → (w.alloc (.cells #[] 3)).cell? (ad.add j) = some u := by
      intro j u hu
      have h0 : 0 < xs.length := by
        rcases Nat.eq_zero_or_pos xs.length with h0 | h0
        · have h6 := hen.1
          have h7 := (List.getElem?_eq_some_iff.1 hu).1
          rw [h0] at h6; omega
        · exact h0
      obtain ⟨b, o, e, h6⟩ := h3 h0
      injection e with e
      subst e
      have h7 := hC _ _ (h6 j u hu)
      rw [Addr.add_lit]
      exact (World.cell?_alloc_lt w _ _ (World.block_lt_of_cell? w _ h7)).trans h7
    have hown : Ow 1 EInt 3 (w.alloc (.cells #[] 3)) C w.heap.size (.slice (some ⟨w.heap.size, 0, none⟩) 0 0) [] := ⟨[], World.ownsRow_made (base := w.heap.size) (e := 3) (size := 1) w #[] 0 (Nat.le_refl _) (by unfold maxLen; omega) rfl, Enc.nil _ _ _, by simp⟩
    obtain ⟨n, hn⟩ : ∃ n, xs.length = n := ⟨_, rfl⟩
    have HL := Lib.hid hn
    rw [hn] at h1 h5 ⊢
    have HN := Lib.hid hnews
    have HE := Lib.hid hen
    have HO := Lib.hid hown
    have h7 : (n : Int) ≤ 1000000 := by omega
    clear hv hen h3 hnews hown hn
    go_enter Tryz.func53, Tryz.ntmps53
    go_wp2_with (at_builtin; refine wpList_append_Ow cellsInt inf_int _ rfl _ _ 22 rfl w.heap.size Tryz.underlying22 _ [] C rfl HO.out ad n c cs xs rfl HL.out HE.out HN.out (by simp; omega) (by simp) ?_; intro v' w1 hown' hB _)
    go_ret
    exact ⟨_, rfl, ((Below.refl _ _).alloc (Nat.le_refl _) _).trans hB, by simpa using hown'⟩

theorem inf_str : Inf Tryz.prog 9 1 16 := inf_of (z := .string ⟨#[]⟩) (by kernel_rfl) rfl (by decide)
theorem inf_nd : Inf Tryz.prog 83 12 192 := inf_of (z := .agg #[.int .i64 0, .slice none 0 0, .string ⟨#[]⟩, .slice none 0 0, .string ⟨#[]⟩, .slice none 0 0, .int .i64 0, .int .i64 0, .int .i64 0, .int .i64 0, .slice none 0 0, .slice none 0 0]) (by kernel_rfl) rfl (by decide)
end Go.Proofs.YtneabpgphjcbkaaGreatDoor
