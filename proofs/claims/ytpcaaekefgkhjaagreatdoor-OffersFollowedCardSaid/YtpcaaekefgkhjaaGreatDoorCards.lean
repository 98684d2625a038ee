/-
  DERIVED. GIVEN WITH THE SEED: THE CARDS: each row of YtpcaaekefgkhjaaGreatDoorRows.lean that lists a variable, with what it lists TIED to the program's text (the seventh form; the later family's looks); each row that meets fmt, with fmt's text TOLD by the authors' own Lean function (tested against real Go, not proved from fmt's source: count such statements apart). THE CARD IS WHAT COUNTS. Prove the row's statement (the work); the ties are given (YtpcaaekefgkhjaaGreatDoorTie.lean); close each card by the builder's one call (the guide's Derived/Test/ToyasCard.lean, 'card_holds'). Laid BY PROGRAM, IN A SANDBOX (cutbox-door.mjs). By AI agents, Wed Nov 11 2026. No macro, syntax, notation, axiom, sorry.
-/
import Derived.Test.YtpcaaekefgkhjaaGreatDoorRows
import GoSem.ClaimSeven
namespace Go.Proofs.YtpcaaekefgkhjaaGreatDoor
namespace Rows

/-- THE TIED CARD OF 'benchlaw1.OffersFollowed'. -/
def offersFollowedCard : Claim7 := { stood := { row := offersFollowedRow, standIns := [], harness := (true, "ec2b7987431ba52d20007b49eba9c63b7ab7717e450e871282f8b22b8989dcd9"), looks := false }, kinds := [], alts := [], laidByText := true, laidKinds := [.data, .data, .data, .data, .pinned], laidTests := true, laidLooks := .later }
def OffersFollowedCardSaid : Prop := Claim7.holds Tryz.pinned (.plain (OpenSpec.ofChange offersFollowedSpec)) offersFollowedCard

/-- THE TIED CARD OF 'benchkeep1.TradesKeepRosters'. -/
def tradesKeepRostersCard : Claim7 := { stood := { row := tradesKeepRostersRow, standIns := [], harness := (true, "ec2b7987431ba52d20007b49eba9c63b7ab7717e450e871282f8b22b8989dcd9"), looks := false }, kinds := [], alts := [], laidByText := true, laidKinds := [.data, .data, .data, .data, .pinned], laidTests := true, laidLooks := .later }
def TradesKeepRostersCardSaid : Prop := Claim7.holds Tryz.pinned (.plain (OpenSpec.ofChange tradesKeepRostersSpec)) tradesKeepRostersCard

/-- THE TIED CARD OF 'benchkeep1.WaysEndWithOwners'. -/
def waysEndWithOwnersCard : Claim7 := { stood := { row := waysEndWithOwnersRow, standIns := [], harness := (true, "ec2b7987431ba52d20007b49eba9c63b7ab7717e450e871282f8b22b8989dcd9"), looks := false }, kinds := [], alts := [], laidByText := true, laidKinds := [.data, .data, .data, .data, .pinned], laidTests := true, laidLooks := .later }
def WaysEndWithOwnersCardSaid : Prop := Claim7.holds Tryz.pinned (.plain (OpenSpec.ofChange waysEndWithOwnersSpec)) waysEndWithOwnersCard

/-- THE SECOND FORM's CARD OF 'benchlaw1.OffersFollowed'. -/
def offersFollowedUptoCard : Claim7 := { stood := { row := offersFollowedUptoRow, standIns := [], harness := (true, "ec2b7987431ba52d20007b49eba9c63b7ab7717e450e871282f8b22b8989dcd9"), looks := false }, kinds := [], alts := [], laidByText := true, laidKinds := [.data, .data, .data, .data, .pinned], laidTests := true, laidLooks := .later }
def OffersFollowedUptoCardSaid : Prop := Claim7.holds Tryz.pinned (.plain (OpenSpec.upto offersFollowedSpec)) offersFollowedUptoCard

/-- THE SECOND FORM's CARD OF 'benchkeep1.TradesKeepRosters'. -/
def tradesKeepRostersUptoCard : Claim7 := { stood := { row := tradesKeepRostersUptoRow, standIns := [], harness := (true, "ec2b7987431ba52d20007b49eba9c63b7ab7717e450e871282f8b22b8989dcd9"), looks := false }, kinds := [], alts := [], laidByText := true, laidKinds := [.data, .data, .data, .data, .pinned], laidTests := true, laidLooks := .later }
def TradesKeepRostersUptoCardSaid : Prop := Claim7.holds Tryz.pinned (.plain (OpenSpec.upto tradesKeepRostersSpec)) tradesKeepRostersUptoCard

/-- THE SECOND FORM's CARD OF 'benchkeep1.WaysEndWithOwners'. -/
def waysEndWithOwnersUptoCard : Claim7 := { stood := { row := waysEndWithOwnersUptoRow, standIns := [], harness := (true, "ec2b7987431ba52d20007b49eba9c63b7ab7717e450e871282f8b22b8989dcd9"), looks := false }, kinds := [], alts := [], laidByText := true, laidKinds := [.data, .data, .data, .data, .pinned], laidTests := true, laidLooks := .later }
def WaysEndWithOwnersUptoCardSaid : Prop := Claim7.holds Tryz.pinned (.plain (OpenSpec.upto waysEndWithOwnersSpec)) waysEndWithOwnersUptoCard
end Rows
end Go.Proofs.YtpcaaekefgkhjaaGreatDoor
