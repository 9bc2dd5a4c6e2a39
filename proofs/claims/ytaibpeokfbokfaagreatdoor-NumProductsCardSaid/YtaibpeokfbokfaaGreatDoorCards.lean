/-
  DERIVED. GIVEN WITH THE SEED: THE CARDS: each row of YtaibpeokfbokfaaGreatDoorRows.lean that lists a variable, with what it lists TIED to the program's text (the seventh form; the later family's looks); each row that meets fmt, with fmt's text TOLD by the authors' own Lean function (tested against real Go, not proved from fmt's source: count such statements apart). THE CARD IS WHAT COUNTS. Prove the row's statement (the work); the ties are given (YtaibpeokfbokfaaGreatDoorTie.lean); close each card by the builder's one call (the guide's Derived/Test/ToyasCard.lean, 'card_holds'). Laid BY PROGRAM, IN A SANDBOX (cutbox-door.mjs). By AI agents, Wed Nov 11 2026. No macro, syntax, notation, axiom, sorry.
-/
import Derived.Test.YtaibpeokfbokfaaGreatDoorRows
import GoSem.ClaimSeven
namespace Go.Proofs.YtaibpeokfbokfaaGreatDoor
namespace Rows

/-- THE TIED CARD OF 'weftlaw1.NumProducts'. -/
def numProductsCard : Claim7 := { stood := { row := numProductsRow, standIns := [], harness := (true, "a43e259a8f72accee5678e8139401a00fcb0bf3fc8f1a338aaf230a0d9afd3af"), looks := true }, kinds := [], alts := [], laidByText := true, laidKinds := [.data, .data, .data, .data, .sentinel, .sentinel, .pinned], laidTests := true, laidLooks := .later }
def NumProductsCardSaid : Prop := Claim7.holds Tryz.pinned (.plain (OpenSpec.ofChange numProductsSpec)) numProductsCard

/-- THE TIED CARD OF 'weftlaw1.NumSums'. -/
def numSumsCard : Claim7 := { stood := { row := numSumsRow, standIns := [], harness := (true, "a43e259a8f72accee5678e8139401a00fcb0bf3fc8f1a338aaf230a0d9afd3af"), looks := true }, kinds := [], alts := [], laidByText := true, laidKinds := [.data, .data, .data, .data, .sentinel, .sentinel, .pinned], laidTests := true, laidLooks := .later }
def NumSumsCardSaid : Prop := Claim7.holds Tryz.pinned (.plain (OpenSpec.ofChange numSumsSpec)) numSumsCard

/-- THE TIED CARD OF 'weftlaw1.NumMultipliers'. -/
def numMultipliersCard : Claim7 := { stood := { row := numMultipliersRow, standIns := [], harness := (true, "a43e259a8f72accee5678e8139401a00fcb0bf3fc8f1a338aaf230a0d9afd3af"), looks := true }, kinds := [], alts := [], laidByText := true, laidKinds := [.data, .data, .data, .data, .sentinel, .sentinel, .pinned], laidTests := true, laidLooks := .later }
def NumMultipliersCardSaid : Prop := Claim7.holds Tryz.pinned (.plain (OpenSpec.ofChange numMultipliersSpec)) numMultipliersCard

/-- THE TIED CARD OF 'weftlaw1.NumOrders'. -/
def numOrdersCard : Claim7 := { stood := { row := numOrdersRow, standIns := [], harness := (true, "a43e259a8f72accee5678e8139401a00fcb0bf3fc8f1a338aaf230a0d9afd3af"), looks := true }, kinds := [], alts := [], laidByText := true, laidKinds := [.data, .data, .data, .data, .sentinel, .sentinel, .pinned], laidTests := true, laidLooks := .later }
def NumOrdersCardSaid : Prop := Claim7.holds Tryz.pinned (.plain (OpenSpec.ofChange numOrdersSpec)) numOrdersCard

/-- THE SECOND FORM's CARD OF 'weftlaw1.NumProducts'. -/
def numProductsUptoCard : Claim7 := { stood := { row := numProductsUptoRow, standIns := [], harness := (true, "a43e259a8f72accee5678e8139401a00fcb0bf3fc8f1a338aaf230a0d9afd3af"), looks := true }, kinds := [], alts := [], laidByText := true, laidKinds := [.data, .data, .data, .data, .sentinel, .sentinel, .pinned], laidTests := true, laidLooks := .later }
def NumProductsUptoCardSaid : Prop := Claim7.holds Tryz.pinned (.plain (OpenSpec.upto numProductsSpec)) numProductsUptoCard

/-- THE SECOND FORM's CARD OF 'weftlaw1.NumSums'. -/
def numSumsUptoCard : Claim7 := { stood := { row := numSumsUptoRow, standIns := [], harness := (true, "a43e259a8f72accee5678e8139401a00fcb0bf3fc8f1a338aaf230a0d9afd3af"), looks := true }, kinds := [], alts := [], laidByText := true, laidKinds := [.data, .data, .data, .data, .sentinel, .sentinel, .pinned], laidTests := true, laidLooks := .later }
def NumSumsUptoCardSaid : Prop := Claim7.holds Tryz.pinned (.plain (OpenSpec.upto numSumsSpec)) numSumsUptoCard

/-- THE SECOND FORM's CARD OF 'weftlaw1.NumMultipliers'. -/
def numMultipliersUptoCard : Claim7 := { stood := { row := numMultipliersUptoRow, standIns := [], harness := (true, "a43e259a8f72accee5678e8139401a00fcb0bf3fc8f1a338aaf230a0d9afd3af"), looks := true }, kinds := [], alts := [], laidByText := true, laidKinds := [.data, .data, .data, .data, .sentinel, .sentinel, .pinned], laidTests := true, laidLooks := .later }
def NumMultipliersUptoCardSaid : Prop := Claim7.holds Tryz.pinned (.plain (OpenSpec.upto numMultipliersSpec)) numMultipliersUptoCard

/-- THE SECOND FORM's CARD OF 'weftlaw1.NumOrders'. -/
def numOrdersUptoCard : Claim7 := { stood := { row := numOrdersUptoRow, standIns := [], harness := (true, "a43e259a8f72accee5678e8139401a00fcb0bf3fc8f1a338aaf230a0d9afd3af"), looks := true }, kinds := [], alts := [], laidByText := true, laidKinds := [.data, .data, .data, .data, .sentinel, .sentinel, .pinned], laidTests := true, laidLooks := .later }
def NumOrdersUptoCardSaid : Prop := Claim7.holds Tryz.pinned (.plain (OpenSpec.upto numOrdersSpec)) numOrdersUptoCard
end Rows
end Go.Proofs.YtaibpeokfbokfaaGreatDoor
