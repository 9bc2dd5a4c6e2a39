/-
  From a row's listed variables to the table that the walks read; the witness's world; the last step.
-/
import Derived.Test.YtkcdgaijklhnaaaGreatDoorRows
import Derived.Test.YtkcdgaijklhnaaaGreatDoorK19
import Derived.Lib.LaidTab
import Derived.Lay
import Derived.Below
import Derived.ChangeSame
namespace Go.Proofs.YtkcdgaijklhnaaaGreatDoor
open Go.ChangeShapes Go.WideShapes Go.RowKit
theorem and_mk {a b : Bool} (h : a = true) (k : b = true) : (a && b) = true := by rw [h, k]; rfl
theorem laidMet_rest {P : Program} {W : World} {n : String} {d : DataW Unit} {r : List (String × DataW Unit)} (h : laidMet P ((n, d) :: r) W) : laidMet P r W := by
 obtain ⟨ps, ⟨g, t, cs, fuel, p, q, _, _, _, _, hr, rfl⟩, hn, hc⟩ := h
 exact ⟨q, hr, (List.nodup_append.1 hn).2.1, fun b off hp => hc b off (List.mem_append.2 (Or.inr hp))⟩
theorem gPow : Tryz.prog.globalNamed "internal/strconv.uint64pow10" = some 0 := by kernel_rfl
theorem tabs_of_pow {W : World} (h : Pow10 W) : Tabs W := by
 refine ⟨?_, h⟩
 have h2 : W.var? Tryz.prog "internal/strconv.uint64pow10" = some _ := h
 unfold World.var? at h2
 rw [gPow] at h2
 cases hk : W.heap[0]? with
 | none => simp [hk] at h2
 | some o => exact (Array.getElem?_eq_some_iff.1 hk).1
theorem tabs_of_laid {W : World} (h : laidMetH Tryz.prog Rows.modelFilesRow.laid W) : Tabs W := by
 have h1 : laidMet Tryz.prog Rows.modelFilesRow.laid W := h
 have h2 := laidMet_rest (laidMet_rest h1)
 have e : (("internal/strconv.uint64pow10", Rows.laid_internal_strconv_uint64pow10) : String × DataW Unit) = ("internal/strconv.uint64pow10", Lib.tabData .u64 Lib.pow10Tab) := by kernel_rfl
 have h3 : laidMet Tryz.prog (("internal/strconv.uint64pow10", Lib.tabData .u64 Lib.pow10Tab) :: [("unicode/utf8.acceptRanges", Rows.laid_unicode_utf8_acceptRanges), ("strconv.ErrRange", Rows.laid_strconv_ErrRange), ("strconv.ErrSyntax", Rows.laid_strconv_ErrSyntax), ("unicode/utf8.first", Rows.laid_unicode_utf8_first)]) W := by
  rw [<- e]; exact h2
 exact tabs_of_pow (Lib.tabIs_of_head gPow (by kernel_rfl) Tryz.underlying275 Tryz.underlying127 (by kernel_rfl) (by kernel_rfl) h3)
theorem laid_world (os : Os) (args : Array Value) : laidMet Tryz.prog Rows.modelFilesRow.laid ((World.laidAll Tryz.prog os Rows.modelFilesRow.laid).forCall (fun _ _ => 0) ⟨#[], args, []⟩).memory :=
 laidMet_laidAll _ (by kernel_rfl) (by kernel_rfl)
set_option maxRecDepth 100000 in
theorem laid_shaped (os : Os) (args : Array Value) : ((World.laidAll Tryz.prog os Rows.modelFilesRow.laid).forCall (fun _ _ => 0) ⟨#[], args, []⟩).Shaped Tryz.prog :=
 World.shaped_of_ZipB (by kernel_rfl) (by kernel_rfl)
theorem own_knob : ownKnob Tryz.prog.godebug = none := by kernel_rfl
end Go.Proofs.YtkcdgaijklhnaaaGreatDoor
