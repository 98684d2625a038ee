/-
  DERIVED. GIVEN WITH THE SEED: THE CARDS: each row of YtcihcbnjfclkbaaGreatDoorRows.lean that lists a variable, with what it lists TIED to the program's text (the seventh form; the later family's looks); each row that meets fmt, with fmt's text TOLD by the authors' own Lean function (tested against real Go, not proved from fmt's source: count such statements apart). THE CARD IS WHAT COUNTS. Prove the row's statement (the work); the ties are given (YtcihcbnjfclkbaaGreatDoorTie.lean); close each card by the builder's one call (the guide's Derived/Test/ToyasCard.lean, 'card_holds'). Laid BY PROGRAM, IN A SANDBOX (cutbox-door.mjs). By AI agents, Wed Nov 11 2026. No macro, syntax, notation, axiom, sorry.
-/
import Derived.Test.YtcihcbnjfclkbaaGreatDoorRows
import GoSem.ClaimSeven
namespace Go.Proofs.YtcihcbnjfclkbaaGreatDoor
namespace Rows

/-- THE TIED CARD OF 'benchlaw1.RingsFound'. -/
def ringsFoundCard : Claim7 := { stood := { row := ringsFoundRow, standIns := [], harness := (true, "1bb75e56fcbe5a8f100c5ca37cd5719690cb5fdf68a0e51e68a0ed26666dc345"), looks := false }, kinds := [], alts := [], laidByText := true, laidKinds := [.data, .data, .data, .data, .pinned], laidTests := true, laidLooks := .later }
def RingsFoundCardSaid : Prop := Claim7.holds Tryz.pinned (.plain (OpenSpec.ofChange ringsFoundSpec)) ringsFoundCard

/-- THE TIED CARD OF 'benchkeep1.RingsGoRound'. -/
def ringsGoRoundCard : Claim7 := { stood := { row := ringsGoRoundRow, standIns := [], harness := (true, "1bb75e56fcbe5a8f100c5ca37cd5719690cb5fdf68a0e51e68a0ed26666dc345"), looks := false }, kinds := [], alts := [], laidByText := true, laidKinds := [.data, .data, .data, .data, .pinned], laidTests := true, laidLooks := .later }
def RingsGoRoundCardSaid : Prop := Claim7.holds Tryz.pinned (.plain (OpenSpec.ofChange ringsGoRoundSpec)) ringsGoRoundCard

/-- THE SECOND FORM's CARD OF 'benchlaw1.RingsFound'. -/
def ringsFoundUptoCard : Claim7 := { stood := { row := ringsFoundUptoRow, standIns := [], harness := (true, "1bb75e56fcbe5a8f100c5ca37cd5719690cb5fdf68a0e51e68a0ed26666dc345"), looks := false }, kinds := [], alts := [], laidByText := true, laidKinds := [.data, .data, .data, .data, .pinned], laidTests := true, laidLooks := .later }
def RingsFoundUptoCardSaid : Prop := Claim7.holds Tryz.pinned (.plain (OpenSpec.upto ringsFoundSpec)) ringsFoundUptoCard

/-- THE SECOND FORM's CARD OF 'benchkeep1.RingsGoRound'. -/
def ringsGoRoundUptoCard : Claim7 := { stood := { row := ringsGoRoundUptoRow, standIns := [], harness := (true, "1bb75e56fcbe5a8f100c5ca37cd5719690cb5fdf68a0e51e68a0ed26666dc345"), looks := false }, kinds := [], alts := [], laidByText := true, laidKinds := [.data, .data, .data, .data, .pinned], laidTests := true, laidLooks := .later }
def RingsGoRoundUptoCardSaid : Prop := Claim7.holds Tryz.pinned (.plain (OpenSpec.upto ringsGoRoundSpec)) ringsGoRoundUptoCard
end Rows
end Go.Proofs.YtcihcbnjfclkbaaGreatDoor
