/-
  slices.Clone of a number's digits.
-/
import Derived.Test.YtlildanamfjnmaaGreatDoorBase
import Derived.Outline
import Derived.Lib.SliceRun
namespace Go.Proofs.YtlildanamfjnmaaGreatDoor
open Go.RowKit

theorem info_u32' : (Tryz.prog.info? 118).map (fun i => (i.zero, i.size, i.bytes)) = some (some (.int .u32 0), 1, 4) := by kernel_rfl

set_option maxHeartbeats 1000000 in
set_option maxRecDepth 100000 in
theorem clone_any (l : List Nat) (v : Value) (w : World) (h : Sl w v (u32s l)) (_hs : l.length ≤ 1000000000000) :
    Calls Tryz.prog 110 #[v] w fun e w' => ∃ v', e = .returned v' ∧ Below w.heap.size w w' ∧ Sl w' v' (u32s l) := by
  obtain ⟨i0, hi, hz0, hz1, hz2⟩ := info_parts info_u32'
  obtain ⟨A, c, rfl, h1, h2, h3⟩ := h
  simp only [u32s_length] at *
  rcases A with _ | ad
  · have hl : l.length = 0 := by
      rcases Nat.eq_zero_or_pos l.length with h | h
      · exact h
      · obtain ⟨b, o, e, _⟩ := h3 h
        cases e
    have hn : l = [] := List.eq_nil_of_length_eq_zero hl
    subst hn
    clear h3
    have heq := fun W => Lib.run_eql_slice_nil (P := Tryz.prog) W 74 118 none 0 c 0 0 Tryz.underlying74
    simp only [List.length_nil]
    go_enter Tryz.func110, Tryz.ntmps110
    go_wp2
    go_ret
    exact ⟨_, rfl, Below.refl _ _, Sl.nil_ _⟩
  · have hnews : ∀ j u, (u32s l)[j]? = some u → (w.alloc (.cells #[] 118)).cell? (ad.add j) = some u := by
      intro j u hu
      have hj : j < l.length := by
        rcases Nat.lt_or_ge j l.length with h | h
        · exact h
        · rw [List.getElem?_eq_none (by rw [u32s_length]; exact h)] at hu; cases hu
      obtain ⟨b, o, e, hc⟩ := h3 (by omega)
      injection e with e
      subst e
      have := hc j u hu
      rw [Addr.add_lit]
      exact (World.cell?_alloc_lt w _ _ (World.block_lt_of_cell? w _ this)).trans this
    have h1c : ∀ u ∈ u32s l, u.oneCell' = true := by
      intro u hu
      simp only [u32s, List.mem_map] at hu
      obtain ⟨d, _, rfl⟩ := hu
      rfl
    have heq := fun W => Lib.run_eql_slice_nil (P := Tryz.prog) W 74 118 (some ad) l.length c 0 0 Tryz.underlying74
    have hown := World.ownsRow_made (base := w.heap.size) (e := 118) (size := 1) w #[] 0 (Nat.le_refl _) (by unfold maxLen; omega) rfl
    have HN := Lib.hid hnews
    have HC1 := Lib.hid h1c
    clear h3 hnews h1c
    go_enter Tryz.func110, Tryz.ntmps110
    go_wp2_with (at_builtin; refine wpList_append_own _ rfl _ _ 74 rfl w.heap.size 118 i0 (.int .u32 0) 1 4 Tryz.underlying74 hi hz0 hz1 hz2 rfl (by decide) _ _ _ rfl hown ad l.length c (u32s l) rfl (by rw [u32s_length, Nat.mul_one]) HN.out HC1.out (by unfold maxLen; omega) (by omega) (by simp) ?_; intro v' w1 hown' hgrow _)
    go_ret
    refine ⟨_, rfl, ((Below.refl _ _).alloc (Nat.le_refl _) _).grown hgrow (by simp) (fun k hk => (hown.lt k hk).1), ?_⟩
    exact Sl.of_own (by simpa using hown')
end Go.Proofs.YtlildanamfjnmaaGreatDoor
