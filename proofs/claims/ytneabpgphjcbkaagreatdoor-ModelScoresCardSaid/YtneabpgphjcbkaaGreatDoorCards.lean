/-
  DERIVED. GIVEN WITH THE SEED: THE CARDS: each row of YtneabpgphjcbkaaGreatDoorRows.lean that lists a variable, with what it lists TIED to the program's text (the seventh form; the later family's looks); each row that meets fmt, with fmt's text TOLD by the authors' own Lean function (tested against real Go, not proved from fmt's source: count such statements apart). THE CARD IS WHAT COUNTS. Prove the row's statement (the work); the ties are given (YtneabpgphjcbkaaGreatDoorTie.lean); close each card by the builder's one call (the guide's Derived/Test/ToyasCard.lean, 'card_holds'). Laid BY PROGRAM, IN A SANDBOX (cutbox-door.mjs). By AI agents, Wed Nov 11 2026. No macro, syntax, notation, axiom, sorry.
-/
import Derived.Test.YtneabpgphjcbkaaGreatDoorRows
import GoSem.ClaimSeven
namespace Go.Proofs.YtneabpgphjcbkaaGreatDoor
namespace Rows

/-- THE TIED CARD OF 'weftlaw1.ModelChecks'. -/
def modelChecksCard : Claim7 := { stood := { row := modelChecksRow, standIns := [], harness := (true, "93b42e313426965abd94e0a95b5a8833a4d422143aa61594977d398a1b3e120e"), looks := true }, kinds := [], alts := [], laidByText := true, laidKinds := [.data, .data, .data, .data, .sentinel, .sentinel, .pinned], laidTests := true, laidLooks := .later }
def ModelChecksCardSaid : Prop := Claim7.holds Tryz.pinned (.plain (OpenSpec.ofChange modelChecksSpec)) modelChecksCard

/-- THE TIED CARD OF 'weftlaw1.ModelEntries'. -/
def modelEntriesCard : Claim7 := { stood := { row := modelEntriesRow, standIns := [], harness := (true, "93b42e313426965abd94e0a95b5a8833a4d422143aa61594977d398a1b3e120e"), looks := true }, kinds := [], alts := [], laidByText := true, laidKinds := [.data, .data, .data, .data, .sentinel, .sentinel, .pinned], laidTests := true, laidLooks := .later }
def ModelEntriesCardSaid : Prop := Claim7.holds Tryz.pinned (.plain (OpenSpec.ofChange modelEntriesSpec)) modelEntriesCard

/-- THE TIED CARD OF 'weftlaw1.ModelScores'. -/
def modelScoresCard : Claim7 := { stood := { row := modelScoresRow, standIns := [], harness := (true, "93b42e313426965abd94e0a95b5a8833a4d422143aa61594977d398a1b3e120e"), looks := true }, kinds := [], alts := [], laidByText := true, laidKinds := [.data, .data, .data, .data, .sentinel, .sentinel, .pinned], laidTests := true, laidLooks := .later }
def ModelScoresCardSaid : Prop := Claim7.holds Tryz.pinned (.plain (OpenSpec.ofChange modelScoresSpec)) modelScoresCard

/-- THE SECOND FORM's CARD OF 'weftlaw1.ModelChecks'. -/
def modelChecksUptoCard : Claim7 := { stood := { row := modelChecksUptoRow, standIns := [], harness := (true, "93b42e313426965abd94e0a95b5a8833a4d422143aa61594977d398a1b3e120e"), looks := true }, kinds := [], alts := [], laidByText := true, laidKinds := [.data, .data, .data, .data, .sentinel, .sentinel, .pinned], laidTests := true, laidLooks := .later }
def ModelChecksUptoCardSaid : Prop := Claim7.holds Tryz.pinned (.plain (OpenSpec.upto modelChecksSpec)) modelChecksUptoCard

/-- THE SECOND FORM's CARD OF 'weftlaw1.ModelEntries'. -/
def modelEntriesUptoCard : Claim7 := { stood := { row := modelEntriesUptoRow, standIns := [], harness := (true, "93b42e313426965abd94e0a95b5a8833a4d422143aa61594977d398a1b3e120e"), looks := true }, kinds := [], alts := [], laidByText := true, laidKinds := [.data, .data, .data, .data, .sentinel, .sentinel, .pinned], laidTests := true, laidLooks := .later }
def ModelEntriesUptoCardSaid : Prop := Claim7.holds Tryz.pinned (.plain (OpenSpec.upto modelEntriesSpec)) modelEntriesUptoCard

/-- THE SECOND FORM's CARD OF 'weftlaw1.ModelScores'. -/
def modelScoresUptoCard : Claim7 := { stood := { row := modelScoresUptoRow, standIns := [], harness := (true, "93b42e313426965abd94e0a95b5a8833a4d422143aa61594977d398a1b3e120e"), looks := true }, kinds := [], alts := [], laidByText := true, laidKinds := [.data, .data, .data, .data, .sentinel, .sentinel, .pinned], laidTests := true, laidLooks := .later }
def ModelScoresUptoCardSaid : Prop := Claim7.holds Tryz.pinned (.plain (OpenSpec.upto modelScoresSpec)) modelScoresUptoCard
end Rows
end Go.Proofs.YtneabpgphjcbkaaGreatDoor
