/-
  A slice of ints that came in, read as a list.
-/
import Derived.Test.YtneabpgphjcbkaaGreatDoorInts
import Derived.OpenShut
import Derived.Carry
import Derived.ProofKit
namespace Go.Proofs.YtneabpgphjcbkaaGreatDoor
open Go.RowKit Go.ChangeShapes

theorem laid_out : laidOutB Tryz.prog = true := by kernel_rfl
theorem readable_ints : Tryz.prog.readableRec 22 = true := by kernel_rfl
theorem row_ints : 22 < Tryz.prog.types.size := of_decide_eq_true (by kernel_rfl)
theorem cells_int : Tryz.prog.cellsOf 3 = 1 := by kernel_rfl
set_option maxRecDepth 100000 in
theorem li_of {H : Type} {enc : TypeId × Value → H} {W : World} {base : Nat} {v : Value} {d : DataW H} {p : List MemPlace}
    (hv : Value.okWide Tryz.prog W .any base 22 v) (h : DataW.Trod enc Tryz.prog W 0 (fun _ => true) true 22 v d p) : ∃ xs, LI W v xs := by
  obtain ⟨A, n, c, rfl⟩ := Go.WideShapes.okWide_slice Tryz.underlying22 hv
  obtain ⟨fuel, hf⟩ := h
  rcases open_ints Tryz.underlying22 Tryz.underlying3 cells_int hf with ⟨hcs, -⟩ | ⟨a, len, cap, zs, hcs, -, hle, hmax, hall, -, hcell, hwf⟩
  · simp [Value.cells] at hcs
    obtain ⟨rfl, rfl, rfl⟩ := hcs
    exact ⟨[], Sl.nil_ W, Nat.zero_le _, fun x hx => by cases hx⟩
  · simp [Value.cells] at hcs
    obtain ⟨rfl, rfl, rfl⟩ := hcs
    simp only [if_true] at hall
    have hl : (zs.take n).length = n := by rw [List.length_take]; omega
    refine ⟨zs.take n, ⟨some a, c, by rw [i64s_length, hl], by rw [i64s_length, hl]; exact hle, hmax, fun h0 => ?_⟩, by rw [hl]; omega, fun x hx => ?_⟩
    · rw [i64s_length, hl] at h0
      obtain ⟨b, off, rfl, hc⟩ := ints_at hcell (by omega)
      refine ⟨b, off, rfl, fun j u hu => ?_⟩
      have hj : j < n := by
        have := (List.getElem?_eq_some_iff.1 hu).1
        rwa [i64s_length, hl] at this
      rw [i64s_at (by rw [hl]; exact hj)] at hu
      injection hu with hu
      subst hu
      rw [hc j (by omega)]
      simp [hj]
    · exact bounds_i64 (hwf x (List.mem_of_mem_take hx))
end Go.Proofs.YtneabpgphjcbkaaGreatDoor
