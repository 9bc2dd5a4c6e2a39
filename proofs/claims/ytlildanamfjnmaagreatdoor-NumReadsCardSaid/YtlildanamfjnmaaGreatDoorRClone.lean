/-
  slices.Clone of a reference's number: the new row is the call's own.
-/
import Derived.Test.YtlildanamfjnmaaGreatDoorRBase
import Derived.Outline
import Derived.Lib.SliceRun
namespace Go.Proofs.YtlildanamfjnmaaGreatDoor
open Go.RowKit

set_option maxHeartbeats 1000000 in
set_option maxRecDepth 100000 in
theorem rclone_any (l : List Nat) (v : Value) (w : World) (h : Sl w v (n64s l)) (_hs : l.length ≤ 1000000000000) :
    Calls Tryz.prog 127 #[v] w fun e w' => ∃ v', e = .returned v' ∧ Below w.heap.size w w' ∧ w'.ownsRow w.heap.size 3 1 v' l.length (n64s l) := by
  obtain ⟨i0, hi, hz0, hz1, hz2⟩ := info_parts info_int
  obtain ⟨A, c, rfl, h1, h2, h3⟩ := h
  simp only [n64s_length] at *
  rcases A with _ | ad
  · have hl : l.length = 0 := by
      rcases Nat.eq_zero_or_pos l.length with h | h
      · exact h
      · obtain ⟨b, o, e, _⟩ := h3 h
        cases e
    have hn : l = [] := List.eq_nil_of_length_eq_zero hl
    subst hn
    clear h3
    have heq := fun W => Lib.run_eql_slice_nil (P := Tryz.prog) W 35 3 none 0 c 0 0 Tryz.underlying35
    simp only [List.length_nil]
    go_enter Tryz.func127, Tryz.ntmps127
    go_wp2
    go_ret
    exact ⟨_, rfl, Below.refl _ _, World.ownsRow_nil _ _ _ _⟩
  · have hnews : ∀ j u, (n64s l)[j]? = some u → (w.alloc (.cells #[] 3)).cell? (ad.add j) = some u := by
      intro j u hu
      have hj : j < l.length := by
        rcases Nat.lt_or_ge j l.length with h | h
        · exact h
        · rw [List.getElem?_eq_none (by rw [n64s_length]; exact h)] at hu; cases hu
      obtain ⟨b, o, e, hc⟩ := h3 (by omega)
      injection e with e
      subst e
      have := hc j u hu
      rw [Addr.add_lit]
      exact (World.cell?_alloc_lt w _ _ (World.block_lt_of_cell? w _ this)).trans this
    have h1c : ∀ u ∈ n64s l, u.oneCell' = true := by
      intro u hu
      simp only [n64s, List.mem_map] at hu
      obtain ⟨d, _, rfl⟩ := hu
      rfl
    have heq := fun W => Lib.run_eql_slice_nil (P := Tryz.prog) W 35 3 (some ad) l.length c 0 0 Tryz.underlying35
    have hown := World.ownsRow_made (base := w.heap.size) (e := 3) (size := 1) w #[] 0 (Nat.le_refl _) (by unfold maxLen; omega) rfl
    have HN := Lib.hid hnews
    have HC1 := Lib.hid h1c
    clear h3 hnews h1c
    go_enter Tryz.func127, Tryz.ntmps127
    go_wp2_with (at_builtin; refine wpList_append_own _ rfl _ _ 35 rfl w.heap.size 3 i0 (.int .i64 0) 1 8 Tryz.underlying35 hi hz0 hz1 hz2 rfl (by decide) _ _ _ rfl hown ad l.length c (n64s l) rfl (by rw [n64s_length, Nat.mul_one]) HN.out HC1.out (by unfold maxLen; omega) (by omega) (by simp) ?_; intro v' w1 hown' hgrow _)
    go_ret
    refine ⟨_, rfl, ((Below.refl _ _).alloc (Nat.le_refl _) _).grown hgrow (by simp) (fun k hk => (hown.lt k hk).1), ?_⟩
    simpa using hown'
end Go.Proofs.YtlildanamfjnmaaGreatDoor
