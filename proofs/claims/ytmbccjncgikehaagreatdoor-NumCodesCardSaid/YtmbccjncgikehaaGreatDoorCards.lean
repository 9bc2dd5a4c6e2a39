/-
  DERIVED. GIVEN WITH THE SEED: THE CARDS: each row of YtmbccjncgikehaaGreatDoorRows.lean that lists a variable, with what it lists TIED to the program's text (the seventh form; the later family's looks); each row that meets fmt, with fmt's text TOLD by the authors' own Lean function (tested against real Go, not proved from fmt's source: count such statements apart). THE CARD IS WHAT COUNTS. Prove the row's statement (the work); the ties are given (YtmbccjncgikehaaGreatDoorTie.lean); close each card by the builder's one call (the guide's Derived/Test/ToyasCard.lean, 'card_holds'). Laid BY PROGRAM, IN A SANDBOX (cutbox-door.mjs). By AI agents, Wed Nov 11 2026. No macro, syntax, notation, axiom, sorry.
-/
import Derived.Test.YtmbccjncgikehaaGreatDoorRows
import GoSem.ClaimSeven
namespace Go.Proofs.YtmbccjncgikehaaGreatDoor
namespace Rows

/-- THE TIED CARD OF 'weftlaw1.NumRounds'. -/
def numRoundsCard : Claim7 := { stood := { row := numRoundsRow, standIns := [], harness := (true, "9dae0d3afb29ebe565f15e9a2cea56c6586652e445151b15effdd894d882d3cf"), looks := true }, kinds := [], alts := [], laidByText := true, laidKinds := [.data, .data, .data, .data, .sentinel, .sentinel, .pinned], laidTests := true, laidLooks := .later }
def NumRoundsCardSaid : Prop := Claim7.holds Tryz.pinned (.plain (OpenSpec.ofChange numRoundsSpec)) numRoundsCard

/-- THE TIED CARD OF 'weftlaw1.NumDraws'. -/
def numDrawsCard : Claim7 := { stood := { row := numDrawsRow, standIns := [], harness := (true, "9dae0d3afb29ebe565f15e9a2cea56c6586652e445151b15effdd894d882d3cf"), looks := true }, kinds := [], alts := [], laidByText := true, laidKinds := [.data, .data, .data, .data, .sentinel, .sentinel, .pinned], laidTests := true, laidLooks := .later }
def NumDrawsCardSaid : Prop := Claim7.holds Tryz.pinned (.plain (OpenSpec.ofChange numDrawsSpec)) numDrawsCard

/-- THE TIED CARD OF 'weftlaw1.NumWords'. -/
def numWordsCard : Claim7 := { stood := { row := numWordsRow, standIns := [], harness := (true, "9dae0d3afb29ebe565f15e9a2cea56c6586652e445151b15effdd894d882d3cf"), looks := true }, kinds := [], alts := [], laidByText := true, laidKinds := [.data, .data, .data, .data, .sentinel, .sentinel, .pinned], laidTests := true, laidLooks := .later }
def NumWordsCardSaid : Prop := Claim7.holds Tryz.pinned (.plain (OpenSpec.ofChange numWordsSpec)) numWordsCard

/-- THE TIED CARD OF 'weftlaw1.NumShares'. -/
def numSharesCard : Claim7 := { stood := { row := numSharesRow, standIns := [], harness := (true, "9dae0d3afb29ebe565f15e9a2cea56c6586652e445151b15effdd894d882d3cf"), looks := true }, kinds := [], alts := [], laidByText := true, laidKinds := [.data, .data, .data, .data, .sentinel, .sentinel, .pinned], laidTests := true, laidLooks := .later }
def NumSharesCardSaid : Prop := Claim7.holds Tryz.pinned (.plain (OpenSpec.ofChange numSharesSpec)) numSharesCard

/-- THE TIED CARD OF 'weftlaw1.NumCodes'. -/
def numCodesCard : Claim7 := { stood := { row := numCodesRow, standIns := [], harness := (true, "9dae0d3afb29ebe565f15e9a2cea56c6586652e445151b15effdd894d882d3cf"), looks := true }, kinds := [], alts := [], laidByText := true, laidKinds := [.data, .data, .data, .data, .sentinel, .sentinel, .pinned], laidTests := true, laidLooks := .later }
def NumCodesCardSaid : Prop := Claim7.holds Tryz.pinned (.plain (OpenSpec.ofChange numCodesSpec)) numCodesCard

/-- THE TIED CARD OF 'weftlaw1.NumHistograms'. -/
def numHistogramsCard : Claim7 := { stood := { row := numHistogramsRow, standIns := [], harness := (true, "9dae0d3afb29ebe565f15e9a2cea56c6586652e445151b15effdd894d882d3cf"), looks := true }, kinds := [], alts := [], laidByText := true, laidKinds := [.data, .data, .data, .data, .sentinel, .sentinel, .pinned], laidTests := true, laidLooks := .later }
def NumHistogramsCardSaid : Prop := Claim7.holds Tryz.pinned (.plain (OpenSpec.ofChange numHistogramsSpec)) numHistogramsCard

/-- THE TIED CARD OF 'weftlaw1.NumPoints'. -/
def numPointsCard : Claim7 := { stood := { row := numPointsRow, standIns := [], harness := (true, "9dae0d3afb29ebe565f15e9a2cea56c6586652e445151b15effdd894d882d3cf"), looks := true }, kinds := [], alts := [], laidByText := true, laidKinds := [.data, .data, .data, .data, .sentinel, .sentinel, .pinned], laidTests := true, laidLooks := .later }
def NumPointsCardSaid : Prop := Claim7.holds Tryz.pinned (.plain (OpenSpec.ofChange numPointsSpec)) numPointsCard

/-- THE TIED CARD OF 'weftlaw1.NumPicks'. -/
def numPicksCard : Claim7 := { stood := { row := numPicksRow, standIns := [], harness := (true, "9dae0d3afb29ebe565f15e9a2cea56c6586652e445151b15effdd894d882d3cf"), looks := true }, kinds := [], alts := [], laidByText := true, laidKinds := [.data, .data, .data, .data, .sentinel, .sentinel, .pinned], laidTests := true, laidLooks := .later }
def NumPicksCardSaid : Prop := Claim7.holds Tryz.pinned (.plain (OpenSpec.ofChange numPicksSpec)) numPicksCard

/-- THE TIED CARD OF 'weftlaw1.NumPermutes'. -/
def numPermutesCard : Claim7 := { stood := { row := numPermutesRow, standIns := [], harness := (true, "9dae0d3afb29ebe565f15e9a2cea56c6586652e445151b15effdd894d882d3cf"), looks := true }, kinds := [], alts := [], laidByText := true, laidKinds := [.data, .data, .data, .data, .sentinel, .sentinel, .pinned], laidTests := true, laidLooks := .later }
def NumPermutesCardSaid : Prop := Claim7.holds Tryz.pinned (.plain (OpenSpec.ofChange numPermutesSpec)) numPermutesCard

/-- THE TIED CARD OF 'weftlaw1.NumMakes'. -/
def numMakesCard : Claim7 := { stood := { row := numMakesRow, standIns := [], harness := (true, "9dae0d3afb29ebe565f15e9a2cea56c6586652e445151b15effdd894d882d3cf"), looks := true }, kinds := [], alts := [], laidByText := true, laidKinds := [.data, .data, .data, .data, .sentinel, .sentinel, .pinned], laidTests := true, laidLooks := .later }
def NumMakesCardSaid : Prop := Claim7.holds Tryz.pinned (.plain (OpenSpec.ofChange numMakesSpec)) numMakesCard

/-- THE TIED CARD OF 'weftlaw1.NumForms'. -/
def numFormsCard : Claim7 := { stood := { row := numFormsRow, standIns := [], harness := (true, "9dae0d3afb29ebe565f15e9a2cea56c6586652e445151b15effdd894d882d3cf"), looks := true }, kinds := [], alts := [], laidByText := true, laidKinds := [.data, .data, .data, .data, .sentinel, .sentinel, .pinned], laidTests := true, laidLooks := .later }
def NumFormsCardSaid : Prop := Claim7.holds Tryz.pinned (.plain (OpenSpec.ofChange numFormsSpec)) numFormsCard

/-- THE TIED CARD OF 'weftlaw1.NumProducts'. -/
def numProductsCard : Claim7 := { stood := { row := numProductsRow, standIns := [], harness := (true, "9dae0d3afb29ebe565f15e9a2cea56c6586652e445151b15effdd894d882d3cf"), looks := true }, kinds := [], alts := [], laidByText := true, laidKinds := [.data, .data, .data, .data, .sentinel, .sentinel, .pinned], laidTests := true, laidLooks := .later }
def NumProductsCardSaid : Prop := Claim7.holds Tryz.pinned (.plain (OpenSpec.ofChange numProductsSpec)) numProductsCard

/-- THE TIED CARD OF 'weftlaw1.NumSums'. -/
def numSumsCard : Claim7 := { stood := { row := numSumsRow, standIns := [], harness := (true, "9dae0d3afb29ebe565f15e9a2cea56c6586652e445151b15effdd894d882d3cf"), looks := true }, kinds := [], alts := [], laidByText := true, laidKinds := [.data, .data, .data, .data, .sentinel, .sentinel, .pinned], laidTests := true, laidLooks := .later }
def NumSumsCardSaid : Prop := Claim7.holds Tryz.pinned (.plain (OpenSpec.ofChange numSumsSpec)) numSumsCard

/-- THE TIED CARD OF 'weftlaw1.NumReads'. -/
def numReadsCard : Claim7 := { stood := { row := numReadsRow, standIns := [], harness := (true, "9dae0d3afb29ebe565f15e9a2cea56c6586652e445151b15effdd894d882d3cf"), looks := true }, kinds := [], alts := [], laidByText := true, laidKinds := [.data, .data, .data, .data, .sentinel, .sentinel, .pinned], laidTests := true, laidLooks := .later }
def NumReadsCardSaid : Prop := Claim7.holds Tryz.pinned (.plain (OpenSpec.ofChange numReadsSpec)) numReadsCard

/-- THE TIED CARD OF 'weftlaw1.NumMultipliers'. -/
def numMultipliersCard : Claim7 := { stood := { row := numMultipliersRow, standIns := [], harness := (true, "9dae0d3afb29ebe565f15e9a2cea56c6586652e445151b15effdd894d882d3cf"), looks := true }, kinds := [], alts := [], laidByText := true, laidKinds := [.data, .data, .data, .data, .sentinel, .sentinel, .pinned], laidTests := true, laidLooks := .later }
def NumMultipliersCardSaid : Prop := Claim7.holds Tryz.pinned (.plain (OpenSpec.ofChange numMultipliersSpec)) numMultipliersCard

/-- THE TIED CARD OF 'weftlaw1.NumOrders'. -/
def numOrdersCard : Claim7 := { stood := { row := numOrdersRow, standIns := [], harness := (true, "9dae0d3afb29ebe565f15e9a2cea56c6586652e445151b15effdd894d882d3cf"), looks := true }, kinds := [], alts := [], laidByText := true, laidKinds := [.data, .data, .data, .data, .sentinel, .sentinel, .pinned], laidTests := true, laidLooks := .later }
def NumOrdersCardSaid : Prop := Claim7.holds Tryz.pinned (.plain (OpenSpec.ofChange numOrdersSpec)) numOrdersCard

/-- THE SECOND FORM's CARD OF 'weftlaw1.NumRounds'. -/
def numRoundsUptoCard : Claim7 := { stood := { row := numRoundsUptoRow, standIns := [], harness := (true, "9dae0d3afb29ebe565f15e9a2cea56c6586652e445151b15effdd894d882d3cf"), looks := true }, kinds := [], alts := [], laidByText := true, laidKinds := [.data, .data, .data, .data, .sentinel, .sentinel, .pinned], laidTests := true, laidLooks := .later }
def NumRoundsUptoCardSaid : Prop := Claim7.holds Tryz.pinned (.plain (OpenSpec.upto numRoundsSpec)) numRoundsUptoCard

/-- THE SECOND FORM's CARD OF 'weftlaw1.NumDraws'. -/
def numDrawsUptoCard : Claim7 := { stood := { row := numDrawsUptoRow, standIns := [], harness := (true, "9dae0d3afb29ebe565f15e9a2cea56c6586652e445151b15effdd894d882d3cf"), looks := true }, kinds := [], alts := [], laidByText := true, laidKinds := [.data, .data, .data, .data, .sentinel, .sentinel, .pinned], laidTests := true, laidLooks := .later }
def NumDrawsUptoCardSaid : Prop := Claim7.holds Tryz.pinned (.plain (OpenSpec.upto numDrawsSpec)) numDrawsUptoCard

/-- THE SECOND FORM's CARD OF 'weftlaw1.NumWords'. -/
def numWordsUptoCard : Claim7 := { stood := { row := numWordsUptoRow, standIns := [], harness := (true, "9dae0d3afb29ebe565f15e9a2cea56c6586652e445151b15effdd894d882d3cf"), looks := true }, kinds := [], alts := [], laidByText := true, laidKinds := [.data, .data, .data, .data, .sentinel, .sentinel, .pinned], laidTests := true, laidLooks := .later }
def NumWordsUptoCardSaid : Prop := Claim7.holds Tryz.pinned (.plain (OpenSpec.upto numWordsSpec)) numWordsUptoCard

/-- THE SECOND FORM's CARD OF 'weftlaw1.NumShares'. -/
def numSharesUptoCard : Claim7 := { stood := { row := numSharesUptoRow, standIns := [], harness := (true, "9dae0d3afb29ebe565f15e9a2cea56c6586652e445151b15effdd894d882d3cf"), looks := true }, kinds := [], alts := [], laidByText := true, laidKinds := [.data, .data, .data, .data, .sentinel, .sentinel, .pinned], laidTests := true, laidLooks := .later }
def NumSharesUptoCardSaid : Prop := Claim7.holds Tryz.pinned (.plain (OpenSpec.upto numSharesSpec)) numSharesUptoCard

/-- THE SECOND FORM's CARD OF 'weftlaw1.NumCodes'. -/
def numCodesUptoCard : Claim7 := { stood := { row := numCodesUptoRow, standIns := [], harness := (true, "9dae0d3afb29ebe565f15e9a2cea56c6586652e445151b15effdd894d882d3cf"), looks := true }, kinds := [], alts := [], laidByText := true, laidKinds := [.data, .data, .data, .data, .sentinel, .sentinel, .pinned], laidTests := true, laidLooks := .later }
def NumCodesUptoCardSaid : Prop := Claim7.holds Tryz.pinned (.plain (OpenSpec.upto numCodesSpec)) numCodesUptoCard

/-- THE SECOND FORM's CARD OF 'weftlaw1.NumHistograms'. -/
def numHistogramsUptoCard : Claim7 := { stood := { row := numHistogramsUptoRow, standIns := [], harness := (true, "9dae0d3afb29ebe565f15e9a2cea56c6586652e445151b15effdd894d882d3cf"), looks := true }, kinds := [], alts := [], laidByText := true, laidKinds := [.data, .data, .data, .data, .sentinel, .sentinel, .pinned], laidTests := true, laidLooks := .later }
def NumHistogramsUptoCardSaid : Prop := Claim7.holds Tryz.pinned (.plain (OpenSpec.upto numHistogramsSpec)) numHistogramsUptoCard

/-- THE SECOND FORM's CARD OF 'weftlaw1.NumPoints'. -/
def numPointsUptoCard : Claim7 := { stood := { row := numPointsUptoRow, standIns := [], harness := (true, "9dae0d3afb29ebe565f15e9a2cea56c6586652e445151b15effdd894d882d3cf"), looks := true }, kinds := [], alts := [], laidByText := true, laidKinds := [.data, .data, .data, .data, .sentinel, .sentinel, .pinned], laidTests := true, laidLooks := .later }
def NumPointsUptoCardSaid : Prop := Claim7.holds Tryz.pinned (.plain (OpenSpec.upto numPointsSpec)) numPointsUptoCard

/-- THE SECOND FORM's CARD OF 'weftlaw1.NumPicks'. -/
def numPicksUptoCard : Claim7 := { stood := { row := numPicksUptoRow, standIns := [], harness := (true, "9dae0d3afb29ebe565f15e9a2cea56c6586652e445151b15effdd894d882d3cf"), looks := true }, kinds := [], alts := [], laidByText := true, laidKinds := [.data, .data, .data, .data, .sentinel, .sentinel, .pinned], laidTests := true, laidLooks := .later }
def NumPicksUptoCardSaid : Prop := Claim7.holds Tryz.pinned (.plain (OpenSpec.upto numPicksSpec)) numPicksUptoCard

/-- THE SECOND FORM's CARD OF 'weftlaw1.NumPermutes'. -/
def numPermutesUptoCard : Claim7 := { stood := { row := numPermutesUptoRow, standIns := [], harness := (true, "9dae0d3afb29ebe565f15e9a2cea56c6586652e445151b15effdd894d882d3cf"), looks := true }, kinds := [], alts := [], laidByText := true, laidKinds := [.data, .data, .data, .data, .sentinel, .sentinel, .pinned], laidTests := true, laidLooks := .later }
def NumPermutesUptoCardSaid : Prop := Claim7.holds Tryz.pinned (.plain (OpenSpec.upto numPermutesSpec)) numPermutesUptoCard

/-- THE SECOND FORM's CARD OF 'weftlaw1.NumMakes'. -/
def numMakesUptoCard : Claim7 := { stood := { row := numMakesUptoRow, standIns := [], harness := (true, "9dae0d3afb29ebe565f15e9a2cea56c6586652e445151b15effdd894d882d3cf"), looks := true }, kinds := [], alts := [], laidByText := true, laidKinds := [.data, .data, .data, .data, .sentinel, .sentinel, .pinned], laidTests := true, laidLooks := .later }
def NumMakesUptoCardSaid : Prop := Claim7.holds Tryz.pinned (.plain (OpenSpec.upto numMakesSpec)) numMakesUptoCard

/-- THE SECOND FORM's CARD OF 'weftlaw1.NumForms'. -/
def numFormsUptoCard : Claim7 := { stood := { row := numFormsUptoRow, standIns := [], harness := (true, "9dae0d3afb29ebe565f15e9a2cea56c6586652e445151b15effdd894d882d3cf"), looks := true }, kinds := [], alts := [], laidByText := true, laidKinds := [.data, .data, .data, .data, .sentinel, .sentinel, .pinned], laidTests := true, laidLooks := .later }
def NumFormsUptoCardSaid : Prop := Claim7.holds Tryz.pinned (.plain (OpenSpec.upto numFormsSpec)) numFormsUptoCard

/-- THE SECOND FORM's CARD OF 'weftlaw1.NumProducts'. -/
def numProductsUptoCard : Claim7 := { stood := { row := numProductsUptoRow, standIns := [], harness := (true, "9dae0d3afb29ebe565f15e9a2cea56c6586652e445151b15effdd894d882d3cf"), looks := true }, kinds := [], alts := [], laidByText := true, laidKinds := [.data, .data, .data, .data, .sentinel, .sentinel, .pinned], laidTests := true, laidLooks := .later }
def NumProductsUptoCardSaid : Prop := Claim7.holds Tryz.pinned (.plain (OpenSpec.upto numProductsSpec)) numProductsUptoCard

/-- THE SECOND FORM's CARD OF 'weftlaw1.NumSums'. -/
def numSumsUptoCard : Claim7 := { stood := { row := numSumsUptoRow, standIns := [], harness := (true, "9dae0d3afb29ebe565f15e9a2cea56c6586652e445151b15effdd894d882d3cf"), looks := true }, kinds := [], alts := [], laidByText := true, laidKinds := [.data, .data, .data, .data, .sentinel, .sentinel, .pinned], laidTests := true, laidLooks := .later }
def NumSumsUptoCardSaid : Prop := Claim7.holds Tryz.pinned (.plain (OpenSpec.upto numSumsSpec)) numSumsUptoCard

/-- THE SECOND FORM's CARD OF 'weftlaw1.NumReads'. -/
def numReadsUptoCard : Claim7 := { stood := { row := numReadsUptoRow, standIns := [], harness := (true, "9dae0d3afb29ebe565f15e9a2cea56c6586652e445151b15effdd894d882d3cf"), looks := true }, kinds := [], alts := [], laidByText := true, laidKinds := [.data, .data, .data, .data, .sentinel, .sentinel, .pinned], laidTests := true, laidLooks := .later }
def NumReadsUptoCardSaid : Prop := Claim7.holds Tryz.pinned (.plain (OpenSpec.upto numReadsSpec)) numReadsUptoCard

/-- THE SECOND FORM's CARD OF 'weftlaw1.NumMultipliers'. -/
def numMultipliersUptoCard : Claim7 := { stood := { row := numMultipliersUptoRow, standIns := [], harness := (true, "9dae0d3afb29ebe565f15e9a2cea56c6586652e445151b15effdd894d882d3cf"), looks := true }, kinds := [], alts := [], laidByText := true, laidKinds := [.data, .data, .data, .data, .sentinel, .sentinel, .pinned], laidTests := true, laidLooks := .later }
def NumMultipliersUptoCardSaid : Prop := Claim7.holds Tryz.pinned (.plain (OpenSpec.upto numMultipliersSpec)) numMultipliersUptoCard

/-- THE SECOND FORM's CARD OF 'weftlaw1.NumOrders'. -/
def numOrdersUptoCard : Claim7 := { stood := { row := numOrdersUptoRow, standIns := [], harness := (true, "9dae0d3afb29ebe565f15e9a2cea56c6586652e445151b15effdd894d882d3cf"), looks := true }, kinds := [], alts := [], laidByText := true, laidKinds := [.data, .data, .data, .data, .sentinel, .sentinel, .pinned], laidTests := true, laidLooks := .later }
def NumOrdersUptoCardSaid : Prop := Claim7.holds Tryz.pinned (.plain (OpenSpec.upto numOrdersSpec)) numOrdersUptoCard
end Rows
end Go.Proofs.YtmbccjncgikehaaGreatDoor
