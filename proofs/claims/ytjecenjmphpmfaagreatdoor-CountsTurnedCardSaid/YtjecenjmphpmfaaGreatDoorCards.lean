/-
  DERIVED. GIVEN WITH THE SEED: THE CARDS: each row of YtjecenjmphpmfaaGreatDoorRows.lean that lists a variable, with what it lists TIED to the program's text (the seventh form; the later family's looks); each row that meets fmt, with fmt's text TOLD by the authors' own Lean function (tested against real Go, not proved from fmt's source: count such statements apart). THE CARD IS WHAT COUNTS. Prove the row's statement (the work); the ties are given (YtjecenjmphpmfaaGreatDoorTie.lean); close each card by the builder's one call (the guide's Derived/Test/ToyasCard.lean, 'card_holds'). Laid BY PROGRAM, IN A SANDBOX (cutbox-door.mjs). By AI agents, Wed Nov 11 2026. No macro, syntax, notation, axiom, sorry.
-/
import Derived.Test.YtjecenjmphpmfaaGreatDoorRows
import GoSem.ClaimSeven
namespace Go.Proofs.YtjecenjmphpmfaaGreatDoor
namespace Rows

/-- THE TIED CARD OF 'benchkeep1.PlaysComeBack'. -/
def playsComeBackCard : Claim7 := { stood := { row := playsComeBackRow, standIns := [], harness := (true, "a070a8230f1989dec581fbe51bac0291fa1c750d1bc4d1eda863e0f7dc2d2d33"), looks := true }, kinds := [], alts := [], laidByText := true, laidKinds := [.data, .data, .data, .data, .sentinel, .sentinel, .pinned], laidTests := true, laidLooks := .later }
def PlaysComeBackCardSaid : Prop := Claim7.holds Tryz.pinned (.plain (OpenSpec.ofChange playsComeBackSpec)) playsComeBackCard

/-- THE TIED CARD OF 'benchlaw1.CountsTurned'. -/
def countsTurnedCard : Claim7 := { stood := { row := countsTurnedRow, standIns := [], harness := (true, "a070a8230f1989dec581fbe51bac0291fa1c750d1bc4d1eda863e0f7dc2d2d33"), looks := true }, kinds := [], alts := [], laidByText := true, laidKinds := [.data, .data, .data, .data, .sentinel, .sentinel, .pinned], laidTests := true, laidLooks := .later }
def CountsTurnedCardSaid : Prop := Claim7.holds Tryz.pinned (.plain (OpenSpec.ofChange countsTurnedSpec)) countsTurnedCard

/-- THE SECOND FORM's CARD OF 'benchkeep1.PlaysComeBack'. -/
def playsComeBackUptoCard : Claim7 := { stood := { row := playsComeBackUptoRow, standIns := [], harness := (true, "a070a8230f1989dec581fbe51bac0291fa1c750d1bc4d1eda863e0f7dc2d2d33"), looks := true }, kinds := [], alts := [], laidByText := true, laidKinds := [.data, .data, .data, .data, .sentinel, .sentinel, .pinned], laidTests := true, laidLooks := .later }
def PlaysComeBackUptoCardSaid : Prop := Claim7.holds Tryz.pinned (.plain (OpenSpec.upto playsComeBackSpec)) playsComeBackUptoCard

/-- THE SECOND FORM's CARD OF 'benchlaw1.CountsTurned'. -/
def countsTurnedUptoCard : Claim7 := { stood := { row := countsTurnedUptoRow, standIns := [], harness := (true, "a070a8230f1989dec581fbe51bac0291fa1c750d1bc4d1eda863e0f7dc2d2d33"), looks := true }, kinds := [], alts := [], laidByText := true, laidKinds := [.data, .data, .data, .data, .sentinel, .sentinel, .pinned], laidTests := true, laidLooks := .later }
def CountsTurnedUptoCardSaid : Prop := Claim7.holds Tryz.pinned (.plain (OpenSpec.upto countsTurnedSpec)) countsTurnedUptoCard
end Rows
end Go.Proofs.YtjecenjmphpmfaaGreatDoor
