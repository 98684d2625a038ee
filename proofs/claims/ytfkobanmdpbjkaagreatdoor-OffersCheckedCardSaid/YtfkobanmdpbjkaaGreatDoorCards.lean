/-
  DERIVED. GIVEN WITH THE SEED: THE CARDS: each row of YtfkobanmdpbjkaaGreatDoorRows.lean that lists a variable, with what it lists TIED to the program's text (the seventh form; the later family's looks); each row that meets fmt, with fmt's text TOLD by the authors' own Lean function (tested against real Go, not proved from fmt's source: count such statements apart). THE CARD IS WHAT COUNTS. Prove the row's statement (the work); the ties are given (YtfkobanmdpbjkaaGreatDoorTie.lean); close each card by the builder's one call (the guide's Derived/Test/ToyasCard.lean, 'card_holds'). Laid BY PROGRAM, IN A SANDBOX (cutbox-door.mjs). By AI agents, Wed Nov 11 2026. No macro, syntax, notation, axiom, sorry.
-/
import Derived.Test.YtfkobanmdpbjkaaGreatDoorRows
import GoSem.ClaimSeven
namespace Go.Proofs.YtfkobanmdpbjkaaGreatDoor
namespace Rows

/-- THE TIED CARD OF 'benchlaw1.OffersFollowed'. -/
def offersFollowedCard : Claim7 := { stood := { row := offersFollowedRow, standIns := [], harness := (true, "86eb1ae237034408ed89864df1c42f09d0e59e80096ebfcdd48b02073ad1bde8"), looks := false }, kinds := [], alts := [], laidByText := true, laidKinds := [.data, .data, .data, .data, .pinned], laidTests := true, laidLooks := .later }
def OffersFollowedCardSaid : Prop := Claim7.holds Tryz.pinned (.plain (OpenSpec.ofChange offersFollowedSpec)) offersFollowedCard

/-- THE TIED CARD OF 'benchlaw1.OffersChecked'. -/
def offersCheckedCard : Claim7 := { stood := { row := offersCheckedRow, standIns := [], harness := (true, "86eb1ae237034408ed89864df1c42f09d0e59e80096ebfcdd48b02073ad1bde8"), looks := false }, kinds := [], alts := [], laidByText := true, laidKinds := [.data, .data, .data, .data, .pinned], laidTests := true, laidLooks := .later }
def OffersCheckedCardSaid : Prop := Claim7.holds Tryz.pinned (.plain (OpenSpec.ofChange offersCheckedSpec)) offersCheckedCard

/-- THE SECOND FORM's CARD OF 'benchlaw1.OffersFollowed'. -/
def offersFollowedUptoCard : Claim7 := { stood := { row := offersFollowedUptoRow, standIns := [], harness := (true, "86eb1ae237034408ed89864df1c42f09d0e59e80096ebfcdd48b02073ad1bde8"), looks := false }, kinds := [], alts := [], laidByText := true, laidKinds := [.data, .data, .data, .data, .pinned], laidTests := true, laidLooks := .later }
def OffersFollowedUptoCardSaid : Prop := Claim7.holds Tryz.pinned (.plain (OpenSpec.upto offersFollowedSpec)) offersFollowedUptoCard

/-- THE SECOND FORM's CARD OF 'benchlaw1.OffersChecked'. -/
def offersCheckedUptoCard : Claim7 := { stood := { row := offersCheckedUptoRow, standIns := [], harness := (true, "86eb1ae237034408ed89864df1c42f09d0e59e80096ebfcdd48b02073ad1bde8"), looks := false }, kinds := [], alts := [], laidByText := true, laidKinds := [.data, .data, .data, .data, .pinned], laidTests := true, laidLooks := .later }
def OffersCheckedUptoCardSaid : Prop := Claim7.holds Tryz.pinned (.plain (OpenSpec.upto offersCheckedSpec)) offersCheckedUptoCard
end Rows
end Go.Proofs.YtfkobanmdpbjkaaGreatDoor
