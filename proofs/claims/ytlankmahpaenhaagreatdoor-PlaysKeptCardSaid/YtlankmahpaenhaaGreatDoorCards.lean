/-
  DERIVED. GIVEN WITH THE SEED: THE CARDS: each row of YtlankmahpaenhaaGreatDoorRows.lean that lists a variable, with what it lists TIED to the program's text (the seventh form; the later family's looks); each row that meets fmt, with fmt's text TOLD by the authors' own Lean function (tested against real Go, not proved from fmt's source: count such statements apart). THE CARD IS WHAT COUNTS. Prove the row's statement (the work); the ties are given (YtlankmahpaenhaaGreatDoorTie.lean); close each card by the builder's one call (the guide's Derived/Test/ToyasCard.lean, 'card_holds'). Laid BY PROGRAM, IN A SANDBOX (cutbox-door.mjs). By AI agents, Wed Nov 11 2026. No macro, syntax, notation, axiom, sorry.
-/
import Derived.Test.YtlankmahpaenhaaGreatDoorRows
import GoSem.ClaimSeven
namespace Go.Proofs.YtlankmahpaenhaaGreatDoor
namespace Rows

/-- THE TIED CARD OF 'benchlaw1.PlaysKept'. -/
def playsKeptCard : Claim7 := { stood := { row := playsKeptRow, standIns := [], harness := (true, "c530e2c31924c3840c00026dd5f4cfb4044be8353d4aaeb796c567760c3067cc"), looks := false }, kinds := [], alts := [], laidByText := true, laidKinds := [.data, .pinned], laidTests := true, laidLooks := .later }
def PlaysKeptCardSaid : Prop := Claim7.holds Tryz.pinned (.plain (OpenSpec.ofChange playsKeptSpec)) playsKeptCard

/-- THE TIED CARD OF 'benchkeep1.FeedsAreOne'. -/
def feedsAreOneCard : Claim7 := { stood := { row := feedsAreOneRow, standIns := [], harness := (true, "c530e2c31924c3840c00026dd5f4cfb4044be8353d4aaeb796c567760c3067cc"), looks := false }, kinds := [], alts := [], laidByText := true, laidKinds := [.data, .pinned], laidTests := true, laidLooks := .later }
def FeedsAreOneCardSaid : Prop := Claim7.holds Tryz.pinned (.plain (OpenSpec.ofChange feedsAreOneSpec)) feedsAreOneCard

/-- THE SECOND FORM's CARD OF 'benchlaw1.PlaysKept'. -/
def playsKeptUptoCard : Claim7 := { stood := { row := playsKeptUptoRow, standIns := [], harness := (true, "c530e2c31924c3840c00026dd5f4cfb4044be8353d4aaeb796c567760c3067cc"), looks := false }, kinds := [], alts := [], laidByText := true, laidKinds := [.data, .pinned], laidTests := true, laidLooks := .later }
def PlaysKeptUptoCardSaid : Prop := Claim7.holds Tryz.pinned (.plain (OpenSpec.upto playsKeptSpec)) playsKeptUptoCard

/-- THE SECOND FORM's CARD OF 'benchkeep1.FeedsAreOne'. -/
def feedsAreOneUptoCard : Claim7 := { stood := { row := feedsAreOneUptoRow, standIns := [], harness := (true, "c530e2c31924c3840c00026dd5f4cfb4044be8353d4aaeb796c567760c3067cc"), looks := false }, kinds := [], alts := [], laidByText := true, laidKinds := [.data, .pinned], laidTests := true, laidLooks := .later }
def FeedsAreOneUptoCardSaid : Prop := Claim7.holds Tryz.pinned (.plain (OpenSpec.upto feedsAreOneSpec)) feedsAreOneUptoCard
end Rows
end Go.Proofs.YtlankmahpaenhaaGreatDoor
