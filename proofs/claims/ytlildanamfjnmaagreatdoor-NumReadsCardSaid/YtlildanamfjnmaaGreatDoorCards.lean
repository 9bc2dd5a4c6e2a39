/-
  DERIVED. GIVEN WITH THE SEED: THE CARDS: each row of YtlildanamfjnmaaGreatDoorRows.lean that lists a variable, with what it lists TIED to the program's text (the seventh form; the later family's looks); each row that meets fmt, with fmt's text TOLD by the authors' own Lean function (tested against real Go, not proved from fmt's source: count such statements apart). THE CARD IS WHAT COUNTS. Prove the row's statement (the work); the ties are given (YtlildanamfjnmaaGreatDoorTie.lean); close each card by the builder's one call (the guide's Derived/Test/ToyasCard.lean, 'card_holds'). Laid BY PROGRAM, IN A SANDBOX (cutbox-door.mjs). By AI agents, Wed Nov 11 2026. No macro, syntax, notation, axiom, sorry.
-/
import Derived.Test.YtlildanamfjnmaaGreatDoorRows
import GoSem.ClaimSeven
namespace Go.Proofs.YtlildanamfjnmaaGreatDoor
namespace Rows

/-- THE TIED CARD OF 'weftlaw1.NumPoints'. -/
def numPointsCard : Claim7 := { stood := { row := numPointsRow, standIns := [], harness := (true, "a4e1f5a7ef6dc88720a09276442f97dcb607ba699cc2da095b66c8bb209840c3"), looks := true }, kinds := [], alts := [], laidByText := true, laidKinds := [.data, .data, .data, .data, .sentinel, .sentinel, .pinned], laidTests := true, laidLooks := .later }
def NumPointsCardSaid : Prop := Claim7.holds Tryz.pinned (.plain (OpenSpec.ofChange numPointsSpec)) numPointsCard

/-- THE TIED CARD OF 'weftlaw1.NumMakes'. -/
def numMakesCard : Claim7 := { stood := { row := numMakesRow, standIns := [], harness := (true, "a4e1f5a7ef6dc88720a09276442f97dcb607ba699cc2da095b66c8bb209840c3"), looks := true }, kinds := [], alts := [], laidByText := true, laidKinds := [.data, .data, .data, .data, .sentinel, .sentinel, .pinned], laidTests := true, laidLooks := .later }
def NumMakesCardSaid : Prop := Claim7.holds Tryz.pinned (.plain (OpenSpec.ofChange numMakesSpec)) numMakesCard

/-- THE TIED CARD OF 'weftlaw1.NumForms'. -/
def numFormsCard : Claim7 := { stood := { row := numFormsRow, standIns := [], harness := (true, "a4e1f5a7ef6dc88720a09276442f97dcb607ba699cc2da095b66c8bb209840c3"), looks := true }, kinds := [], alts := [], laidByText := true, laidKinds := [.data, .data, .data, .data, .sentinel, .sentinel, .pinned], laidTests := true, laidLooks := .later }
def NumFormsCardSaid : Prop := Claim7.holds Tryz.pinned (.plain (OpenSpec.ofChange numFormsSpec)) numFormsCard

/-- THE TIED CARD OF 'weftlaw1.NumProducts'. -/
def numProductsCard : Claim7 := { stood := { row := numProductsRow, standIns := [], harness := (true, "a4e1f5a7ef6dc88720a09276442f97dcb607ba699cc2da095b66c8bb209840c3"), looks := true }, kinds := [], alts := [], laidByText := true, laidKinds := [.data, .data, .data, .data, .sentinel, .sentinel, .pinned], laidTests := true, laidLooks := .later }
def NumProductsCardSaid : Prop := Claim7.holds Tryz.pinned (.plain (OpenSpec.ofChange numProductsSpec)) numProductsCard

/-- THE TIED CARD OF 'weftlaw1.NumSums'. -/
def numSumsCard : Claim7 := { stood := { row := numSumsRow, standIns := [], harness := (true, "a4e1f5a7ef6dc88720a09276442f97dcb607ba699cc2da095b66c8bb209840c3"), looks := true }, kinds := [], alts := [], laidByText := true, laidKinds := [.data, .data, .data, .data, .sentinel, .sentinel, .pinned], laidTests := true, laidLooks := .later }
def NumSumsCardSaid : Prop := Claim7.holds Tryz.pinned (.plain (OpenSpec.ofChange numSumsSpec)) numSumsCard

/-- THE TIED CARD OF 'weftlaw1.NumReads'. -/
def numReadsCard : Claim7 := { stood := { row := numReadsRow, standIns := [], harness := (true, "a4e1f5a7ef6dc88720a09276442f97dcb607ba699cc2da095b66c8bb209840c3"), looks := true }, kinds := [], alts := [], laidByText := true, laidKinds := [.data, .data, .data, .data, .sentinel, .sentinel, .pinned], laidTests := true, laidLooks := .later }
def NumReadsCardSaid : Prop := Claim7.holds Tryz.pinned (.plain (OpenSpec.ofChange numReadsSpec)) numReadsCard

/-- THE TIED CARD OF 'weftlaw1.NumMultipliers'. -/
def numMultipliersCard : Claim7 := { stood := { row := numMultipliersRow, standIns := [], harness := (true, "a4e1f5a7ef6dc88720a09276442f97dcb607ba699cc2da095b66c8bb209840c3"), looks := true }, kinds := [], alts := [], laidByText := true, laidKinds := [.data, .data, .data, .data, .sentinel, .sentinel, .pinned], laidTests := true, laidLooks := .later }
def NumMultipliersCardSaid : Prop := Claim7.holds Tryz.pinned (.plain (OpenSpec.ofChange numMultipliersSpec)) numMultipliersCard

/-- THE TIED CARD OF 'weftlaw1.NumOrders'. -/
def numOrdersCard : Claim7 := { stood := { row := numOrdersRow, standIns := [], harness := (true, "a4e1f5a7ef6dc88720a09276442f97dcb607ba699cc2da095b66c8bb209840c3"), looks := true }, kinds := [], alts := [], laidByText := true, laidKinds := [.data, .data, .data, .data, .sentinel, .sentinel, .pinned], laidTests := true, laidLooks := .later }
def NumOrdersCardSaid : Prop := Claim7.holds Tryz.pinned (.plain (OpenSpec.ofChange numOrdersSpec)) numOrdersCard

/-- THE SECOND FORM's CARD OF 'weftlaw1.NumPoints'. -/
def numPointsUptoCard : Claim7 := { stood := { row := numPointsUptoRow, standIns := [], harness := (true, "a4e1f5a7ef6dc88720a09276442f97dcb607ba699cc2da095b66c8bb209840c3"), looks := true }, kinds := [], alts := [], laidByText := true, laidKinds := [.data, .data, .data, .data, .sentinel, .sentinel, .pinned], laidTests := true, laidLooks := .later }
def NumPointsUptoCardSaid : Prop := Claim7.holds Tryz.pinned (.plain (OpenSpec.upto numPointsSpec)) numPointsUptoCard

/-- THE SECOND FORM's CARD OF 'weftlaw1.NumMakes'. -/
def numMakesUptoCard : Claim7 := { stood := { row := numMakesUptoRow, standIns := [], harness := (true, "a4e1f5a7ef6dc88720a09276442f97dcb607ba699cc2da095b66c8bb209840c3"), looks := true }, kinds := [], alts := [], laidByText := true, laidKinds := [.data, .data, .data, .data, .sentinel, .sentinel, .pinned], laidTests := true, laidLooks := .later }
def NumMakesUptoCardSaid : Prop := Claim7.holds Tryz.pinned (.plain (OpenSpec.upto numMakesSpec)) numMakesUptoCard

/-- THE SECOND FORM's CARD OF 'weftlaw1.NumForms'. -/
def numFormsUptoCard : Claim7 := { stood := { row := numFormsUptoRow, standIns := [], harness := (true, "a4e1f5a7ef6dc88720a09276442f97dcb607ba699cc2da095b66c8bb209840c3"), looks := true }, kinds := [], alts := [], laidByText := true, laidKinds := [.data, .data, .data, .data, .sentinel, .sentinel, .pinned], laidTests := true, laidLooks := .later }
def NumFormsUptoCardSaid : Prop := Claim7.holds Tryz.pinned (.plain (OpenSpec.upto numFormsSpec)) numFormsUptoCard

/-- THE SECOND FORM's CARD OF 'weftlaw1.NumProducts'. -/
def numProductsUptoCard : Claim7 := { stood := { row := numProductsUptoRow, standIns := [], harness := (true, "a4e1f5a7ef6dc88720a09276442f97dcb607ba699cc2da095b66c8bb209840c3"), looks := true }, kinds := [], alts := [], laidByText := true, laidKinds := [.data, .data, .data, .data, .sentinel, .sentinel, .pinned], laidTests := true, laidLooks := .later }
def NumProductsUptoCardSaid : Prop := Claim7.holds Tryz.pinned (.plain (OpenSpec.upto numProductsSpec)) numProductsUptoCard

/-- THE SECOND FORM's CARD OF 'weftlaw1.NumSums'. -/
def numSumsUptoCard : Claim7 := { stood := { row := numSumsUptoRow, standIns := [], harness := (true, "a4e1f5a7ef6dc88720a09276442f97dcb607ba699cc2da095b66c8bb209840c3"), looks := true }, kinds := [], alts := [], laidByText := true, laidKinds := [.data, .data, .data, .data, .sentinel, .sentinel, .pinned], laidTests := true, laidLooks := .later }
def NumSumsUptoCardSaid : Prop := Claim7.holds Tryz.pinned (.plain (OpenSpec.upto numSumsSpec)) numSumsUptoCard

/-- THE SECOND FORM's CARD OF 'weftlaw1.NumReads'. -/
def numReadsUptoCard : Claim7 := { stood := { row := numReadsUptoRow, standIns := [], harness := (true, "a4e1f5a7ef6dc88720a09276442f97dcb607ba699cc2da095b66c8bb209840c3"), looks := true }, kinds := [], alts := [], laidByText := true, laidKinds := [.data, .data, .data, .data, .sentinel, .sentinel, .pinned], laidTests := true, laidLooks := .later }
def NumReadsUptoCardSaid : Prop := Claim7.holds Tryz.pinned (.plain (OpenSpec.upto numReadsSpec)) numReadsUptoCard

/-- THE SECOND FORM's CARD OF 'weftlaw1.NumMultipliers'. -/
def numMultipliersUptoCard : Claim7 := { stood := { row := numMultipliersUptoRow, standIns := [], harness := (true, "a4e1f5a7ef6dc88720a09276442f97dcb607ba699cc2da095b66c8bb209840c3"), looks := true }, kinds := [], alts := [], laidByText := true, laidKinds := [.data, .data, .data, .data, .sentinel, .sentinel, .pinned], laidTests := true, laidLooks := .later }
def NumMultipliersUptoCardSaid : Prop := Claim7.holds Tryz.pinned (.plain (OpenSpec.upto numMultipliersSpec)) numMultipliersUptoCard

/-- THE SECOND FORM's CARD OF 'weftlaw1.NumOrders'. -/
def numOrdersUptoCard : Claim7 := { stood := { row := numOrdersUptoRow, standIns := [], harness := (true, "a4e1f5a7ef6dc88720a09276442f97dcb607ba699cc2da095b66c8bb209840c3"), looks := true }, kinds := [], alts := [], laidByText := true, laidKinds := [.data, .data, .data, .data, .sentinel, .sentinel, .pinned], laidTests := true, laidLooks := .later }
def NumOrdersUptoCardSaid : Prop := Claim7.holds Tryz.pinned (.plain (OpenSpec.upto numOrdersSpec)) numOrdersUptoCard
end Rows
end Go.Proofs.YtlildanamfjnmaaGreatDoor
