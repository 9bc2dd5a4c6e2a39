/-
  What the listed variables say of strconv.ErrRange.
-/
import Derived.Test.YtaibpeokfbokfaaGreatDoorTabs
import Derived.Test.YtaibpeokfbokfaaGreatDoorRWhole
import Derived.Stop.LaidErr
import Derived.WalkKit
import Derived.ProofKit
namespace Go.Proofs.YtaibpeokfbokfaaGreatDoor
open Go.ChangeShapes Go.WideShapes Go.ChangeAt Go.RowKit

theorem err_star : "*" ++ "errors.errorString" = "*errors.errorString" := by decide
theorem err_row (u : TypeId) (h : Tryz.prog.typeName? 3 u = some "*errors.errorString") : u = 176 :=
  typeName_ptr_named (nm := "errors.errorString") (by rw [err_star]; kernel_rfl) (by kernel_rfl) (by decide) u (by rw [err_star]; exact h)
theorem err_named : Tryz.prog.globalNamed "strconv.ErrRange" = some 1 := by kernel_rfl
theorem err_type : (Tryz.prog.globals[1]?).map (·.type) = some 88 := by kernel_rfl
theorem err_cells : Tryz.prog.cellsOf 178 = 1 := by kernel_rfl
theorem str_cells : Tryz.prog.cellsOf 9 = 1 := by kernel_rfl
theorem errv_of_var {W : World} {te : TypeId} {pe : Value} (h : W.var? Tryz.prog "strconv.ErrRange" = some #[.iface te pe]) : ErrV W := by
  refine ⟨?_, te, pe, h⟩
  have h2 := h
  unfold World.var? at h2
  rw [err_named] at h2
  cases hk : W.heap[1]? with
  | none => simp [hk] at h2
  | some o => exact (Array.getElem?_eq_some_iff.1 hk).1
theorem errv_of_laid {W : World} (h : laidMetH Tryz.prog Rows.numSumsRow.laid W) : ErrV W := by
  have h1 : laidMet Tryz.prog Rows.numSumsRow.laid W := h
  have h2 := laidMet.tail (laidMet.tail (laidMet.tail (laidMet.tail h1)))
  obtain ⟨a, s, hv, -⟩ := laid_sentinel h2 err_named err_type Tryz.underlying88 err_row Tryz.underlying176 Tryz.underlying178 rfl rfl Tryz.underlying9 err_cells str_cells
  exact errv_of_var hv
end Go.Proofs.YtaibpeokfbokfaaGreatDoor
