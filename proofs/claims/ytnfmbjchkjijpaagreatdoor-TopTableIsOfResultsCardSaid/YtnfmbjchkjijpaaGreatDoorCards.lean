/-
  DERIVED. GIVEN WITH THE SEED: THE CARDS: each row of YtnfmbjchkjijpaaGreatDoorRows.lean that lists a variable, with what it lists TIED to the program's text (the seventh form; the later family's looks); each row that meets fmt, with fmt's text TOLD by the authors' own Lean function (tested against real Go, not proved from fmt's source: count such statements apart). THE CARD IS WHAT COUNTS. Prove the row's statement (the work); the ties are given (YtnfmbjchkjijpaaGreatDoorTie.lean); close each card by the builder's one call (the guide's Derived/Test/ToyasCard.lean, 'card_holds'). Laid BY PROGRAM, IN A SANDBOX (cutbox-door.mjs). By AI agents, Wed Nov 11 2026. No macro, syntax, notation, axiom, sorry.
-/
import Derived.Test.YtnfmbjchkjijpaaGreatDoorRows
import GoSem.ClaimSeven
namespace Go.Proofs.YtnfmbjchkjijpaaGreatDoor
namespace Rows

/-- THE TIED CARD OF 'benchtop.TopTableIsOfResults'. -/
def topTableIsOfResultsCard : Claim7 := { stood := { row := topTableIsOfResultsRow, standIns := [], harness := (true, "c1429b2120b954c04b48dca5e86954feec5ed42a97c165899bf0c8920cb655a9"), looks := false }, kinds := [], alts := [], laidByText := true, laidKinds := [.data, .pinned], laidTests := true, laidLooks := .later }
def TopTableIsOfResultsCardSaid : Prop := Claim7.holds Tryz.pinned (.plain (OpenSpec.ofChange topTableIsOfResultsSpec)) topTableIsOfResultsCard

/-- THE SECOND FORM's CARD OF 'benchtop.TopTableIsOfResults'. -/
def topTableIsOfResultsUptoCard : Claim7 := { stood := { row := topTableIsOfResultsUptoRow, standIns := [], harness := (true, "c1429b2120b954c04b48dca5e86954feec5ed42a97c165899bf0c8920cb655a9"), looks := false }, kinds := [], alts := [], laidByText := true, laidKinds := [.data, .pinned], laidTests := true, laidLooks := .later }
def TopTableIsOfResultsUptoCardSaid : Prop := Claim7.holds Tryz.pinned (.plain (OpenSpec.upto topTableIsOfResultsSpec)) topTableIsOfResultsUptoCard
end Rows
end Go.Proofs.YtnfmbjchkjijpaaGreatDoor
