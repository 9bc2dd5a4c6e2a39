/-
  The law NumShares: the walk.
-/
import Derived.Test.YtmbccjncgikehaaGreatDoorNums
import Derived.Test.YtmbccjncgikehaaGreatDoorShelfB
import Derived.Test.YtmbccjncgikehaaGreatDoorShare
namespace Go.Proofs.YtmbccjncgikehaaGreatDoor
open Go.RowKit

theorem i64s_cells {l : List Int} {w : World} {b : Nat} (h : ∀ j u, (i64s l)[j]? = some u → w.cell? ((⟨b, 0, none⟩ : Addr).add j) = some u) : ∀ j, j < l.length → w.cell? ⟨b, 0 + j, none⟩ = some (.int .i64 (l.getD j 0)) := by
  intro j hj
  have h1 := h j _ (i64s_at hj)
  rw [Addr.add_lit] at h1
  rw [h1, List.getD_eq_getElem?_getD]

set_option maxHeartbeats 1000000 in
set_option maxRecDepth 100000 in
theorem shares_law (n p : Int) (w : World) (htab : Tabs w) :
    Calls Tryz.prog 6 #[.int .i64 n, .int .i64 p] w fun e w' => e = .returned (.bool true) ∧ Below w.heap.size w w' := by
  have HN := Lib.hid (fun W (h : Tabs W) => nums_any W h)
  have HT := Lib.hid htab
  by_cases hv : 0 ≤ n ∧ n ≤ 2147483647 ∧ 1 ≤ p ∧ p ≤ 1024
  · obtain ⟨h1, h2, h3, h4⟩ := hv
    obtain ⟨P, rfl⟩ : ∃ P : Nat, p = (P : Int) := ⟨p.toNat, by omega⟩
    have HS := Lib.hid (fun W => share_ok n P W h1 h2 (by omega) (by omega))
    have HR := Lib.hid (fun W => shared_any n P W h1 h2 (by omega) (by omega))
    have hP : P ≤ 1024 := by omega
    have hP1 : 1 ≤ P := by omega
    clear htab
    go_enter Tryz.func6, Tryz.ntmps6
    go_wp2_with fail
    refine (HS.out _).mono ?_
    rintro e w1 ⟨rfl, hown, hB1⟩
    have HO1 := Lib.hid hown
    have HB1 := Lib.hid hB1
    clear hown hB1
    go_wp2_with fail
    all_goals first
      | (exfalso; omega)
      | skip
    refine (HN.out _ (HT.out.low HB1.out)).mono ?_
    rintro e w2 ⟨rfl, hB2⟩
    have HB2 := Lib.hid hB2
    clear hB2
    go_wp2_with fail
    refine (HR.out _).mono ?_
    rintro e w3 ⟨v, rfl, hrow, hB3⟩
    obtain ⟨g, cap, hvf, hg, hglt⟩ := hrow.form (by omega)
    subst hvf
    have HB3 := Lib.hid hB3
    have HO3 : Hid (OwnI w3 w.heap.size ((List.range P).map (part n P))) := Lib.hid ((HO1.out.low HB2.out).low hB3)
    have hl : ((List.range P).map (part n P)).length = P := by simp
    have heq := Tryz.slices_Equal_int w.heap.size 0 P P g 0 P cap ((List.range P).map (part n P)) ((List.range P).map (part n P)) w3 (by omega) (by omega) (by omega) (by omega)
      (fun j hj => by rw [Nat.zero_add, HO3.out.cell hj, List.getD_eq_getElem?_getD]) (i64s_cells (hrow.cells rfl))
    have HE := Lib.hid heq
    clear heq hl hrow hB3
    go_wp2_with fail
    refine HE.out.mono ?_
    rintro e w4 ⟨rfl, q, rfl⟩
    go_wp2
    go_ret
    refine ⟨by simp, ?_⟩
    have hb2 := HB1.out.trans (HB2.out.mono (by have := HB1.out.size; omega))
    exact below_drewN (hb2.trans (HB3.out.mono (by have := hb2.size; omega))) q
  · have HS := Lib.hid (fun W => share_bad n p W hv)
    rcases (show n < 0 ∨ (0 ≤ n ∧ 2147483647 < n) ∨ (0 ≤ n ∧ n ≤ 2147483647 ∧ p < 1) ∨ (0 ≤ n ∧ n ≤ 2147483647 ∧ 1 ≤ p ∧ 1024 < p) by omega) with h1 | ⟨h1, h2⟩ | ⟨h1, h2, h3⟩ | ⟨h1, h2, h3, h4⟩
    all_goals
      clear hv htab
      go_enter Tryz.func6, Tryz.ntmps6
      go_wp2_with fail
      refine (HS.out _).mono ?_
      rintro e w1 ⟨rfl, rfl⟩
      go_wp2_with fail
      all_goals first
        | (exfalso; omega)
        | skip
      refine (HN.out _ HT.out).mono ?_
      rintro e w1 ⟨rfl, hB⟩
      go_wp2
      go_ret
      exact ⟨rfl, hB⟩
end Go.Proofs.YtmbccjncgikehaaGreatDoor
