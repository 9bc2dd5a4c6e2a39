/-
  DERIVED. GIVEN WITH THE SEED: THE CARDS: each row of YtldjemlmjfpmjaaGreatDoorRows.lean that lists a variable, with what it lists TIED to the program's text (the seventh form; the later family's looks); each row that meets fmt, with fmt's text TOLD by the authors' own Lean function (tested against real Go, not proved from fmt's source: count such statements apart). THE CARD IS WHAT COUNTS. Prove the row's statement (the work); the ties are given (YtldjemlmjfpmjaaGreatDoorTie.lean); close each card by the builder's one call (the guide's Derived/Test/ToyasCard.lean, 'card_holds'). Laid BY PROGRAM, IN A SANDBOX (cutbox-door.mjs). By AI agents, Wed Nov 11 2026. No macro, syntax, notation, axiom, sorry.
-/
import Derived.Test.YtldjemlmjfpmjaaGreatDoorRows
import GoSem.ClaimSeven
namespace Go.Proofs.YtldjemlmjfpmjaaGreatDoor
namespace Rows

/-- THE TIED CARD OF 'weftlaw1.ModelMakes'. -/
def modelMakesCard : Claim7 := { stood := { row := modelMakesRow, standIns := [], harness := (true, "57bf821568fca407ed0f9dedce640feb60daf633feb02e92514c1b7573ed09e6"), looks := true }, kinds := [], alts := [], laidByText := true, laidKinds := [.data, .data, .data, .data, .sentinel, .sentinel, .pinned], laidTests := true, laidLooks := .later }
def ModelMakesCardSaid : Prop := Claim7.holds Tryz.pinned (.plain (OpenSpec.ofChange modelMakesSpec)) modelMakesCard

/-- THE TIED CARD OF 'weftlaw1.ModelChecks'. -/
def modelChecksCard : Claim7 := { stood := { row := modelChecksRow, standIns := [], harness := (true, "57bf821568fca407ed0f9dedce640feb60daf633feb02e92514c1b7573ed09e6"), looks := true }, kinds := [], alts := [], laidByText := true, laidKinds := [.data, .data, .data, .data, .sentinel, .sentinel, .pinned], laidTests := true, laidLooks := .later }
def ModelChecksCardSaid : Prop := Claim7.holds Tryz.pinned (.plain (OpenSpec.ofChange modelChecksSpec)) modelChecksCard

/-- THE TIED CARD OF 'weftlaw1.QuantMultipliers'. -/
def quantMultipliersCard : Claim7 := { stood := { row := quantMultipliersRow, standIns := [], harness := (true, "57bf821568fca407ed0f9dedce640feb60daf633feb02e92514c1b7573ed09e6"), looks := true }, kinds := [], alts := [], laidByText := true, laidKinds := [.data, .data, .data, .data, .sentinel, .sentinel, .pinned], laidTests := true, laidLooks := .later }
def QuantMultipliersCardSaid : Prop := Claim7.holds Tryz.pinned (.plain (OpenSpec.ofChange quantMultipliersSpec)) quantMultipliersCard

/-- THE TIED CARD OF 'weftlaw1.QuantWords'. -/
def quantWordsCard : Claim7 := { stood := { row := quantWordsRow, standIns := [], harness := (true, "57bf821568fca407ed0f9dedce640feb60daf633feb02e92514c1b7573ed09e6"), looks := true }, kinds := [], alts := [], laidByText := true, laidKinds := [.data, .data, .data, .data, .sentinel, .sentinel, .pinned], laidTests := true, laidLooks := .later }
def QuantWordsCardSaid : Prop := Claim7.holds Tryz.pinned (.plain (OpenSpec.ofChange quantWordsSpec)) quantWordsCard

/-- THE SECOND FORM's CARD OF 'weftlaw1.ModelMakes'. -/
def modelMakesUptoCard : Claim7 := { stood := { row := modelMakesUptoRow, standIns := [], harness := (true, "57bf821568fca407ed0f9dedce640feb60daf633feb02e92514c1b7573ed09e6"), looks := true }, kinds := [], alts := [], laidByText := true, laidKinds := [.data, .data, .data, .data, .sentinel, .sentinel, .pinned], laidTests := true, laidLooks := .later }
def ModelMakesUptoCardSaid : Prop := Claim7.holds Tryz.pinned (.plain (OpenSpec.upto modelMakesSpec)) modelMakesUptoCard

/-- THE SECOND FORM's CARD OF 'weftlaw1.ModelChecks'. -/
def modelChecksUptoCard : Claim7 := { stood := { row := modelChecksUptoRow, standIns := [], harness := (true, "57bf821568fca407ed0f9dedce640feb60daf633feb02e92514c1b7573ed09e6"), looks := true }, kinds := [], alts := [], laidByText := true, laidKinds := [.data, .data, .data, .data, .sentinel, .sentinel, .pinned], laidTests := true, laidLooks := .later }
def ModelChecksUptoCardSaid : Prop := Claim7.holds Tryz.pinned (.plain (OpenSpec.upto modelChecksSpec)) modelChecksUptoCard

/-- THE SECOND FORM's CARD OF 'weftlaw1.QuantMultipliers'. -/
def quantMultipliersUptoCard : Claim7 := { stood := { row := quantMultipliersUptoRow, standIns := [], harness := (true, "57bf821568fca407ed0f9dedce640feb60daf633feb02e92514c1b7573ed09e6"), looks := true }, kinds := [], alts := [], laidByText := true, laidKinds := [.data, .data, .data, .data, .sentinel, .sentinel, .pinned], laidTests := true, laidLooks := .later }
def QuantMultipliersUptoCardSaid : Prop := Claim7.holds Tryz.pinned (.plain (OpenSpec.upto quantMultipliersSpec)) quantMultipliersUptoCard

/-- THE SECOND FORM's CARD OF 'weftlaw1.QuantWords'. -/
def quantWordsUptoCard : Claim7 := { stood := { row := quantWordsUptoRow, standIns := [], harness := (true, "57bf821568fca407ed0f9dedce640feb60daf633feb02e92514c1b7573ed09e6"), looks := true }, kinds := [], alts := [], laidByText := true, laidKinds := [.data, .data, .data, .data, .sentinel, .sentinel, .pinned], laidTests := true, laidLooks := .later }
def QuantWordsUptoCardSaid : Prop := Claim7.holds Tryz.pinned (.plain (OpenSpec.upto quantWordsSpec)) quantWordsUptoCard
end Rows
end Go.Proofs.YtldjemlmjfpmjaaGreatDoor
