/-
  DERIVED. GIVEN WITH THE SEED: THE CARDS: each row of YtadkhechobeccaaGreatDoorRows.lean that lists a variable, with what it lists TIED to the program's text (the seventh form; the later family's looks); each row that meets fmt, with fmt's text TOLD by the authors' own Lean function (tested against real Go, not proved from fmt's source: count such statements apart). THE CARD IS WHAT COUNTS. Prove the row's statement (the work); the ties are given (YtadkhechobeccaaGreatDoorTie.lean); close each card by the builder's one call (the guide's Derived/Test/ToyasCard.lean, 'card_holds'). Laid BY PROGRAM, IN A SANDBOX (cutbox-door.mjs). By AI agents, Wed Nov 11 2026. No macro, syntax, notation, axiom, sorry.
-/
import Derived.Test.YtadkhechobeccaaGreatDoorRows
import GoSem.ClaimSeven
namespace Go.Proofs.YtadkhechobeccaaGreatDoor
namespace Rows

/-- THE TIED CARD OF 'weftlaw1.ModelWeights'. -/
def modelWeightsCard : Claim7 := { stood := { row := modelWeightsRow, standIns := [], harness := (true, "061ec92c50124850af86c6159ca843ef3fe4e7baa8f365d51bc9aba0b94b745f"), looks := true }, kinds := [], alts := [], laidByText := true, laidKinds := [.data, .data, .data, .data, .sentinel, .sentinel, .pinned], laidTests := true, laidLooks := .later }
def ModelWeightsCardSaid : Prop := Claim7.holds Tryz.pinned (.plain (OpenSpec.ofChange modelWeightsSpec)) modelWeightsCard

/-- THE TIED CARD OF 'weftlaw1.ModelNexts'. -/
def modelNextsCard : Claim7 := { stood := { row := modelNextsRow, standIns := [], harness := (true, "061ec92c50124850af86c6159ca843ef3fe4e7baa8f365d51bc9aba0b94b745f"), looks := true }, kinds := [], alts := [], laidByText := true, laidKinds := [.data, .data, .data, .data, .sentinel, .sentinel, .pinned], laidTests := true, laidLooks := .later }
def ModelNextsCardSaid : Prop := Claim7.holds Tryz.pinned (.plain (OpenSpec.ofChange modelNextsSpec)) modelNextsCard

/-- THE TIED CARD OF 'weftlaw1.ModelAlones'. -/
def modelAlonesCard : Claim7 := { stood := { row := modelAlonesRow, standIns := [], harness := (true, "061ec92c50124850af86c6159ca843ef3fe4e7baa8f365d51bc9aba0b94b745f"), looks := true }, kinds := [], alts := [], laidByText := true, laidKinds := [.data, .data, .data, .data, .sentinel, .sentinel, .pinned], laidTests := true, laidLooks := .later }
def ModelAlonesCardSaid : Prop := Claim7.holds Tryz.pinned (.plain (OpenSpec.ofChange modelAlonesSpec)) modelAlonesCard

/-- THE SECOND FORM's CARD OF 'weftlaw1.ModelWeights'. -/
def modelWeightsUptoCard : Claim7 := { stood := { row := modelWeightsUptoRow, standIns := [], harness := (true, "061ec92c50124850af86c6159ca843ef3fe4e7baa8f365d51bc9aba0b94b745f"), looks := true }, kinds := [], alts := [], laidByText := true, laidKinds := [.data, .data, .data, .data, .sentinel, .sentinel, .pinned], laidTests := true, laidLooks := .later }
def ModelWeightsUptoCardSaid : Prop := Claim7.holds Tryz.pinned (.plain (OpenSpec.upto modelWeightsSpec)) modelWeightsUptoCard

/-- THE SECOND FORM's CARD OF 'weftlaw1.ModelNexts'. -/
def modelNextsUptoCard : Claim7 := { stood := { row := modelNextsUptoRow, standIns := [], harness := (true, "061ec92c50124850af86c6159ca843ef3fe4e7baa8f365d51bc9aba0b94b745f"), looks := true }, kinds := [], alts := [], laidByText := true, laidKinds := [.data, .data, .data, .data, .sentinel, .sentinel, .pinned], laidTests := true, laidLooks := .later }
def ModelNextsUptoCardSaid : Prop := Claim7.holds Tryz.pinned (.plain (OpenSpec.upto modelNextsSpec)) modelNextsUptoCard

/-- THE SECOND FORM's CARD OF 'weftlaw1.ModelAlones'. -/
def modelAlonesUptoCard : Claim7 := { stood := { row := modelAlonesUptoRow, standIns := [], harness := (true, "061ec92c50124850af86c6159ca843ef3fe4e7baa8f365d51bc9aba0b94b745f"), looks := true }, kinds := [], alts := [], laidByText := true, laidKinds := [.data, .data, .data, .data, .sentinel, .sentinel, .pinned], laidTests := true, laidLooks := .later }
def ModelAlonesUptoCardSaid : Prop := Claim7.holds Tryz.pinned (.plain (OpenSpec.upto modelAlonesSpec)) modelAlonesUptoCard
end Rows
end Go.Proofs.YtadkhechobeccaaGreatDoor
