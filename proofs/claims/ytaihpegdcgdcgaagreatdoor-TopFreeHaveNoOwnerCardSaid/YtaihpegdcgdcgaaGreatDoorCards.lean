/-
  DERIVED. GIVEN WITH THE SEED: THE CARDS: each row of YtaihpegdcgdcgaaGreatDoorRows.lean that lists a variable, with what it lists TIED to the program's text (the seventh form; the later family's looks); each row that meets fmt, with fmt's text TOLD by the authors' own Lean function (tested against real Go, not proved from fmt's source: count such statements apart). THE CARD IS WHAT COUNTS. Prove the row's statement (the work); the ties are given (YtaihpegdcgdcgaaGreatDoorTie.lean); close each card by the builder's one call (the guide's Derived/Test/ToyasCard.lean, 'card_holds'). Laid BY PROGRAM, IN A SANDBOX (cutbox-door.mjs). By AI agents, Wed Nov 11 2026. No macro, syntax, notation, axiom, sorry.
-/
import Derived.Test.YtaihpegdcgdcgaaGreatDoorRows
import GoSem.ClaimSeven
namespace Go.Proofs.YtaihpegdcgdcgaaGreatDoor
namespace Rows

/-- THE TIED CARD OF 'benchtop.TopFreeHaveNoOwner'. -/
def topFreeHaveNoOwnerCard : Claim7 := { stood := { row := topFreeHaveNoOwnerRow, standIns := [], harness := (true, "6bb84e325d4e867d71a1f38fdbccfbe8fe11ea9bd4c7d6f93dbda81449c48441"), looks := false }, kinds := [], alts := [], laidByText := true, laidKinds := [.data, .pinned], laidTests := true, laidLooks := .later }
def TopFreeHaveNoOwnerCardSaid : Prop := Claim7.holds Tryz.pinned (.plain (OpenSpec.ofChange topFreeHaveNoOwnerSpec)) topFreeHaveNoOwnerCard

/-- THE SECOND FORM's CARD OF 'benchtop.TopFreeHaveNoOwner'. -/
def topFreeHaveNoOwnerUptoCard : Claim7 := { stood := { row := topFreeHaveNoOwnerUptoRow, standIns := [], harness := (true, "6bb84e325d4e867d71a1f38fdbccfbe8fe11ea9bd4c7d6f93dbda81449c48441"), looks := false }, kinds := [], alts := [], laidByText := true, laidKinds := [.data, .pinned], laidTests := true, laidLooks := .later }
def TopFreeHaveNoOwnerUptoCardSaid : Prop := Claim7.holds Tryz.pinned (.plain (OpenSpec.upto topFreeHaveNoOwnerSpec)) topFreeHaveNoOwnerUptoCard
end Rows
end Go.Proofs.YtaihpegdcgdcgaaGreatDoor
