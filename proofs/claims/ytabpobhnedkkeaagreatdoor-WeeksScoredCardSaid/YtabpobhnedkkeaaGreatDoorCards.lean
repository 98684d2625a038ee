/-
  DERIVED. GIVEN WITH THE SEED: THE CARDS: each row of YtabpobhnedkkeaaGreatDoorRows.lean that lists a variable, with what it lists TIED to the program's text (the seventh form; the later family's looks); each row that meets fmt, with fmt's text TOLD by the authors' own Lean function (tested against real Go, not proved from fmt's source: count such statements apart). THE CARD IS WHAT COUNTS. Prove the row's statement (the work); the ties are given (YtabpobhnedkkeaaGreatDoorTie.lean); close each card by the builder's one call (the guide's Derived/Test/ToyasCard.lean, 'card_holds'). Laid BY PROGRAM, IN A SANDBOX (cutbox-door.mjs). By AI agents, Wed Nov 11 2026. No macro, syntax, notation, axiom, sorry.
-/
import Derived.Test.YtabpobhnedkkeaaGreatDoorRows
import GoSem.ClaimSeven
namespace Go.Proofs.YtabpobhnedkkeaaGreatDoor
namespace Rows

/-- THE TIED CARD OF 'benchlaw1.WeeksScored'. -/
def weeksScoredCard : Claim7 := { stood := { row := weeksScoredRow, standIns := [], harness := (true, "dc23e1716e5f332daa551e91eafc9d92fae3f57b4553d12d2f8b6d9e4178e75c"), looks := false }, kinds := [], alts := [], laidByText := true, laidKinds := [.data, .pinned], laidTests := true, laidLooks := .later }
def WeeksScoredCardSaid : Prop := Claim7.holds Tryz.pinned (.plain (OpenSpec.ofChange weeksScoredSpec)) weeksScoredCard

/-- THE SECOND FORM's CARD OF 'benchlaw1.WeeksScored'. -/
def weeksScoredUptoCard : Claim7 := { stood := { row := weeksScoredUptoRow, standIns := [], harness := (true, "dc23e1716e5f332daa551e91eafc9d92fae3f57b4553d12d2f8b6d9e4178e75c"), looks := false }, kinds := [], alts := [], laidByText := true, laidKinds := [.data, .pinned], laidTests := true, laidLooks := .later }
def WeeksScoredUptoCardSaid : Prop := Claim7.holds Tryz.pinned (.plain (OpenSpec.upto weeksScoredSpec)) weeksScoredUptoCard
end Rows
end Go.Proofs.YtabpobhnedkkeaaGreatDoor
