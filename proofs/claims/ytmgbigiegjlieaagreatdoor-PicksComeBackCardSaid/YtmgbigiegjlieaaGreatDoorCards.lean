/-
  DERIVED. GIVEN WITH THE SEED: THE CARDS: each row of YtmgbigiegjlieaaGreatDoorRows.lean that lists a variable, with what it lists TIED to the program's text (the seventh form; the later family's looks); each row that meets fmt, with fmt's text TOLD by the authors' own Lean function (tested against real Go, not proved from fmt's source: count such statements apart). THE CARD IS WHAT COUNTS. Prove the row's statement (the work); the ties are given (YtmgbigiegjlieaaGreatDoorTie.lean); close each card by the builder's one call (the guide's Derived/Test/ToyasCard.lean, 'card_holds'). Laid BY PROGRAM, IN A SANDBOX (cutbox-door.mjs). By AI agents, Wed Nov 11 2026. No macro, syntax, notation, axiom, sorry.
-/
import Derived.Test.YtmgbigiegjlieaaGreatDoorRows
import GoSem.ClaimSeven
namespace Go.Proofs.YtmgbigiegjlieaaGreatDoor
namespace Rows

/-- THE TIED CARD OF 'benchlaw1.PickTexts'. -/
def pickTextsCard : Claim7 := { stood := { row := pickTextsRow, standIns := [], harness := (true, "84caebd230ff65d55bc244a135fbaf26e87a70ca7922309009c0c1f643d3cf49"), looks := true }, kinds := [], alts := [], laidByText := true, laidKinds := [.data, .data, .data, .data, .sentinel, .sentinel, .pinned], laidTests := true, laidLooks := .later }
def PickTextsCardSaid : Prop := Claim7.holds Tryz.pinned (.plain (OpenSpec.ofChange pickTextsSpec)) pickTextsCard

/-- THE TIED CARD OF 'benchkeep1.PicksComeBack'. -/
def picksComeBackCard : Claim7 := { stood := { row := picksComeBackRow, standIns := [], harness := (true, "84caebd230ff65d55bc244a135fbaf26e87a70ca7922309009c0c1f643d3cf49"), looks := true }, kinds := [], alts := [], laidByText := true, laidKinds := [.data, .data, .data, .data, .sentinel, .sentinel, .pinned], laidTests := true, laidLooks := .later }
def PicksComeBackCardSaid : Prop := Claim7.holds Tryz.pinned (.plain (OpenSpec.ofChange picksComeBackSpec)) picksComeBackCard

/-- THE SECOND FORM's CARD OF 'benchlaw1.PickTexts'. -/
def pickTextsUptoCard : Claim7 := { stood := { row := pickTextsUptoRow, standIns := [], harness := (true, "84caebd230ff65d55bc244a135fbaf26e87a70ca7922309009c0c1f643d3cf49"), looks := true }, kinds := [], alts := [], laidByText := true, laidKinds := [.data, .data, .data, .data, .sentinel, .sentinel, .pinned], laidTests := true, laidLooks := .later }
def PickTextsUptoCardSaid : Prop := Claim7.holds Tryz.pinned (.plain (OpenSpec.upto pickTextsSpec)) pickTextsUptoCard

/-- THE SECOND FORM's CARD OF 'benchkeep1.PicksComeBack'. -/
def picksComeBackUptoCard : Claim7 := { stood := { row := picksComeBackUptoRow, standIns := [], harness := (true, "84caebd230ff65d55bc244a135fbaf26e87a70ca7922309009c0c1f643d3cf49"), looks := true }, kinds := [], alts := [], laidByText := true, laidKinds := [.data, .data, .data, .data, .sentinel, .sentinel, .pinned], laidTests := true, laidLooks := .later }
def PicksComeBackUptoCardSaid : Prop := Claim7.holds Tryz.pinned (.plain (OpenSpec.upto picksComeBackSpec)) picksComeBackUptoCard
end Rows
end Go.Proofs.YtmgbigiegjlieaaGreatDoor
