/-
  DERIVED. GIVEN WITH THE SEED: THE CARDS: each row of YtgaiibkkompbnaaGreatDoorRows.lean that lists a variable, with what it lists TIED to the program's text (the seventh form; the later family's looks); each row that meets fmt, with fmt's text TOLD by the authors' own Lean function (tested against real Go, not proved from fmt's source: count such statements apart). THE CARD IS WHAT COUNTS. Prove the row's statement (the work); the ties are given (YtgaiibkkompbnaaGreatDoorTie.lean); close each card by the builder's one call (the guide's Derived/Test/ToyasCard.lean, 'card_holds'). Laid BY PROGRAM, IN A SANDBOX (cutbox-door.mjs). By AI agents, Wed Nov 11 2026. No macro, syntax, notation, axiom, sorry.
-/
import Derived.Test.YtgaiibkkompbnaaGreatDoorRows
import GoSem.ClaimSeven
namespace Go.Proofs.YtgaiibkkompbnaaGreatDoor
namespace Rows

/-- THE TIED CARD OF 'weftlaw1.ModelSamples'. -/
def modelSamplesCard : Claim7 := { stood := { row := modelSamplesRow, standIns := [], harness := (true, "5cdddbac684d0135ead5498feb64564264bb5907f277af8e32c6c39fff00fdc9"), looks := true }, kinds := [], alts := [], laidByText := true, laidKinds := [.data, .data, .data, .data, .sentinel, .sentinel, .pinned], laidTests := true, laidLooks := .later }
def ModelSamplesCardSaid : Prop := Claim7.holds Tryz.pinned (.plain (OpenSpec.ofChange modelSamplesSpec)) modelSamplesCard

/-- THE SECOND FORM's CARD OF 'weftlaw1.ModelSamples'. -/
def modelSamplesUptoCard : Claim7 := { stood := { row := modelSamplesUptoRow, standIns := [], harness := (true, "5cdddbac684d0135ead5498feb64564264bb5907f277af8e32c6c39fff00fdc9"), looks := true }, kinds := [], alts := [], laidByText := true, laidKinds := [.data, .data, .data, .data, .sentinel, .sentinel, .pinned], laidTests := true, laidLooks := .later }
def ModelSamplesUptoCardSaid : Prop := Claim7.holds Tryz.pinned (.plain (OpenSpec.upto modelSamplesSpec)) modelSamplesUptoCard
end Rows
end Go.Proofs.YtgaiibkkompbnaaGreatDoor
