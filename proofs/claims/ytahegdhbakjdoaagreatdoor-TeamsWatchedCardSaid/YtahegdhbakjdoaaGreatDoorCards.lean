/-
  DERIVED. GIVEN WITH THE SEED: THE CARDS: each row of YtahegdhbakjdoaaGreatDoorRows.lean that lists a variable, with what it lists TIED to the program's text (the seventh form; the later family's looks); each row that meets fmt, with fmt's text TOLD by the authors' own Lean function (tested against real Go, not proved from fmt's source: count such statements apart). THE CARD IS WHAT COUNTS. Prove the row's statement (the work); the ties are given (YtahegdhbakjdoaaGreatDoorTie.lean); close each card by the builder's one call (the guide's Derived/Test/ToyasCard.lean, 'card_holds'). Laid BY PROGRAM, IN A SANDBOX (cutbox-door.mjs). By AI agents, Wed Nov 11 2026. No macro, syntax, notation, axiom, sorry.
-/
import Derived.Test.YtahegdhbakjdoaaGreatDoorRows
import GoSem.ClaimSeven
namespace Go.Proofs.YtahegdhbakjdoaaGreatDoor
namespace Rows

/-- THE TIED CARD OF 'benchkeep1.FreePlayersAreWatched'. -/
def freePlayersAreWatchedCard : Claim7 := { stood := { row := freePlayersAreWatchedRow, standIns := [], harness := (true, "02ea40cc68b1a9f5ce4d8d18064385c67c5a51d9c07328201d7b11660742354f"), looks := false }, kinds := [], alts := [], laidByText := true, laidKinds := [.data, .pinned], laidTests := true, laidLooks := .later }
def FreePlayersAreWatchedCardSaid : Prop := Claim7.holds Tryz.pinned (.plain (OpenSpec.ofChange freePlayersAreWatchedSpec)) freePlayersAreWatchedCard

/-- THE TIED CARD OF 'benchlaw1.TeamsWatched'. -/
def teamsWatchedCard : Claim7 := { stood := { row := teamsWatchedRow, standIns := [], harness := (true, "02ea40cc68b1a9f5ce4d8d18064385c67c5a51d9c07328201d7b11660742354f"), looks := false }, kinds := [], alts := [], laidByText := true, laidKinds := [.data, .pinned], laidTests := true, laidLooks := .later }
def TeamsWatchedCardSaid : Prop := Claim7.holds Tryz.pinned (.plain (OpenSpec.ofChange teamsWatchedSpec)) teamsWatchedCard

/-- THE SECOND FORM's CARD OF 'benchkeep1.FreePlayersAreWatched'. -/
def freePlayersAreWatchedUptoCard : Claim7 := { stood := { row := freePlayersAreWatchedUptoRow, standIns := [], harness := (true, "02ea40cc68b1a9f5ce4d8d18064385c67c5a51d9c07328201d7b11660742354f"), looks := false }, kinds := [], alts := [], laidByText := true, laidKinds := [.data, .pinned], laidTests := true, laidLooks := .later }
def FreePlayersAreWatchedUptoCardSaid : Prop := Claim7.holds Tryz.pinned (.plain (OpenSpec.upto freePlayersAreWatchedSpec)) freePlayersAreWatchedUptoCard

/-- THE SECOND FORM's CARD OF 'benchlaw1.TeamsWatched'. -/
def teamsWatchedUptoCard : Claim7 := { stood := { row := teamsWatchedUptoRow, standIns := [], harness := (true, "02ea40cc68b1a9f5ce4d8d18064385c67c5a51d9c07328201d7b11660742354f"), looks := false }, kinds := [], alts := [], laidByText := true, laidKinds := [.data, .pinned], laidTests := true, laidLooks := .later }
def TeamsWatchedUptoCardSaid : Prop := Claim7.holds Tryz.pinned (.plain (OpenSpec.upto teamsWatchedSpec)) teamsWatchedUptoCard
end Rows
end Go.Proofs.YtahegdhbakjdoaaGreatDoor
