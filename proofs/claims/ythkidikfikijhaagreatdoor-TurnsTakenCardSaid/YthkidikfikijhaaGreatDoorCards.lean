/-
  DERIVED. GIVEN WITH THE SEED: THE CARDS: each row of YthkidikfikijhaaGreatDoorRows.lean that lists a variable, with what it lists TIED to the program's text (the seventh form; the later family's looks); each row that meets fmt, with fmt's text TOLD by the authors' own Lean function (tested against real Go, not proved from fmt's source: count such statements apart). THE CARD IS WHAT COUNTS. Prove the row's statement (the work); the ties are given (YthkidikfikijhaaGreatDoorTie.lean); close each card by the builder's one call (the guide's Derived/Test/ToyasCard.lean, 'card_holds'). Laid BY PROGRAM, IN A SANDBOX (cutbox-door.mjs). By AI agents, Wed Nov 11 2026. No macro, syntax, notation, axiom, sorry.
-/
import Derived.Test.YthkidikfikijhaaGreatDoorRows
import GoSem.ClaimSeven
namespace Go.Proofs.YthkidikfikijhaaGreatDoor
namespace Rows

/-- THE TIED CARD OF 'benchlaw1.TurnsTaken'. -/
def turnsTakenCard : Claim7 := { stood := { row := turnsTakenRow, standIns := [], harness := (true, "2cd6ef90838c5d152cda50fa1469640d34dc59f6e1172563db54f5c641a5bdf8"), looks := false }, kinds := [], alts := [], laidByText := true, laidKinds := [.data, .data, .data, .data, .pinned], laidTests := true, laidLooks := .later }
def TurnsTakenCardSaid : Prop := Claim7.holds Tryz.pinned (.plain (OpenSpec.ofChange turnsTakenSpec)) turnsTakenCard

/-- THE SECOND FORM's CARD OF 'benchlaw1.TurnsTaken'. -/
def turnsTakenUptoCard : Claim7 := { stood := { row := turnsTakenUptoRow, standIns := [], harness := (true, "2cd6ef90838c5d152cda50fa1469640d34dc59f6e1172563db54f5c641a5bdf8"), looks := false }, kinds := [], alts := [], laidByText := true, laidKinds := [.data, .data, .data, .data, .pinned], laidTests := true, laidLooks := .later }
def TurnsTakenUptoCardSaid : Prop := Claim7.holds Tryz.pinned (.plain (OpenSpec.upto turnsTakenSpec)) turnsTakenUptoCard
end Rows
end Go.Proofs.YthkidikfikijhaaGreatDoor
