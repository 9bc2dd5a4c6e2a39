/-
  DERIVED. GIVEN WITH THE SEED: THE CARDS: each row of YtkcdgaijklhnaaaGreatDoorRows.lean that lists a variable, with what it lists TIED to the program's text (the seventh form; the later family's looks); each row that meets fmt, with fmt's text TOLD by the authors' own Lean function (tested against real Go, not proved from fmt's source: count such statements apart). THE CARD IS WHAT COUNTS. Prove the row's statement (the work); the ties are given (YtkcdgaijklhnaaaGreatDoorTie.lean); close each card by the builder's one call (the guide's Derived/Test/ToyasCard.lean, 'card_holds'). Laid BY PROGRAM, IN A SANDBOX (cutbox-door.mjs). By AI agents, Wed Nov 11 2026. No macro, syntax, notation, axiom, sorry.
-/
import Derived.Test.YtkcdgaijklhnaaaGreatDoorRows
import GoSem.ClaimSeven
namespace Go.Proofs.YtkcdgaijklhnaaaGreatDoor
namespace Rows

/-- THE TIED CARD OF 'weftlaw1.ModelPacks'. -/
def modelPacksCard : Claim7 := { stood := { row := modelPacksRow, standIns := [], harness := (true, "a4a27f1d85bffb35a86bd214f0ef089de6afd0a9799705bd4ac2b152e3bcf2ed"), looks := true }, kinds := [], alts := [], laidByText := true, laidKinds := [.data, .data, .data, .data, .sentinel, .sentinel, .pinned], laidTests := true, laidLooks := .later }
def ModelPacksCardSaid : Prop := Claim7.holds Tryz.pinned (.plain (OpenSpec.ofChange modelPacksSpec)) modelPacksCard

/-- THE TIED CARD OF 'weftlaw1.ModelFiles'. -/
def modelFilesCard : Claim7 := { stood := { row := modelFilesRow, standIns := [], harness := (true, "a4a27f1d85bffb35a86bd214f0ef089de6afd0a9799705bd4ac2b152e3bcf2ed"), looks := true }, kinds := [], alts := [], laidByText := true, laidKinds := [.data, .data, .data, .data, .sentinel, .sentinel, .pinned], laidTests := true, laidLooks := .later }
def ModelFilesCardSaid : Prop := Claim7.holds Tryz.pinned (.plain (OpenSpec.ofChange modelFilesSpec)) modelFilesCard

/-- THE TIED CARD OF 'weftlaw1.QuantWords'. -/
def quantWordsCard : Claim7 := { stood := { row := quantWordsRow, standIns := [], harness := (true, "a4a27f1d85bffb35a86bd214f0ef089de6afd0a9799705bd4ac2b152e3bcf2ed"), looks := true }, kinds := [], alts := [], laidByText := true, laidKinds := [.data, .data, .data, .data, .sentinel, .sentinel, .pinned], laidTests := true, laidLooks := .later }
def QuantWordsCardSaid : Prop := Claim7.holds Tryz.pinned (.plain (OpenSpec.ofChange quantWordsSpec)) quantWordsCard

/-- THE SECOND FORM's CARD OF 'weftlaw1.ModelPacks'. -/
def modelPacksUptoCard : Claim7 := { stood := { row := modelPacksUptoRow, standIns := [], harness := (true, "a4a27f1d85bffb35a86bd214f0ef089de6afd0a9799705bd4ac2b152e3bcf2ed"), looks := true }, kinds := [], alts := [], laidByText := true, laidKinds := [.data, .data, .data, .data, .sentinel, .sentinel, .pinned], laidTests := true, laidLooks := .later }
def ModelPacksUptoCardSaid : Prop := Claim7.holds Tryz.pinned (.plain (OpenSpec.upto modelPacksSpec)) modelPacksUptoCard

/-- THE SECOND FORM's CARD OF 'weftlaw1.ModelFiles'. -/
def modelFilesUptoCard : Claim7 := { stood := { row := modelFilesUptoRow, standIns := [], harness := (true, "a4a27f1d85bffb35a86bd214f0ef089de6afd0a9799705bd4ac2b152e3bcf2ed"), looks := true }, kinds := [], alts := [], laidByText := true, laidKinds := [.data, .data, .data, .data, .sentinel, .sentinel, .pinned], laidTests := true, laidLooks := .later }
def ModelFilesUptoCardSaid : Prop := Claim7.holds Tryz.pinned (.plain (OpenSpec.upto modelFilesSpec)) modelFilesUptoCard

/-- THE SECOND FORM's CARD OF 'weftlaw1.QuantWords'. -/
def quantWordsUptoCard : Claim7 := { stood := { row := quantWordsUptoRow, standIns := [], harness := (true, "a4a27f1d85bffb35a86bd214f0ef089de6afd0a9799705bd4ac2b152e3bcf2ed"), looks := true }, kinds := [], alts := [], laidByText := true, laidKinds := [.data, .data, .data, .data, .sentinel, .sentinel, .pinned], laidTests := true, laidLooks := .later }
def QuantWordsUptoCardSaid : Prop := Claim7.holds Tryz.pinned (.plain (OpenSpec.upto quantWordsSpec)) quantWordsUptoCard
end Rows
end Go.Proofs.YtkcdgaijklhnaaaGreatDoor
