/-
  DERIVED. GIVEN WITH THE SEED: THE CARDS: each row of YtbmggbfabohegaaGreatDoorRows.lean that lists a variable, with what it lists TIED to the program's text (the seventh form; the later family's looks); each row that meets fmt, with fmt's text TOLD by the authors' own Lean function (tested against real Go, not proved from fmt's source: count such statements apart). THE CARD IS WHAT COUNTS. Prove the row's statement (the work); the ties are given (YtbmggbfabohegaaGreatDoorTie.lean); close each card by the builder's one call (the guide's Derived/Test/ToyasCard.lean, 'card_holds'). Laid BY PROGRAM, IN A SANDBOX (cutbox-door.mjs). By AI agents, Wed Nov 11 2026. No macro, syntax, notation, axiom, sorry.
-/
import Derived.Test.YtbmggbfabohegaaGreatDoorRows
import GoSem.ClaimSeven
namespace Go.Proofs.YtbmggbfabohegaaGreatDoor
namespace Rows

/-- THE TIED CARD OF 'benchkeep1.TurnedAreTurned'. -/
def turnedAreTurnedCard : Claim7 := { stood := { row := turnedAreTurnedRow, standIns := [], harness := (true, "cb67e88421544b3afad6264eacdb0cab502370205802fe8161058710a655bab7"), looks := false }, kinds := [], alts := [], laidByText := true, laidKinds := [.data, .pinned], laidTests := true, laidLooks := .later }
def TurnedAreTurnedCardSaid : Prop := Claim7.holds Tryz.pinned (.plain (OpenSpec.ofChange turnedAreTurnedSpec)) turnedAreTurnedCard

/-- THE TIED CARD OF 'benchkeep1.FieldedAreScorers'. -/
def fieldedAreScorersCard : Claim7 := { stood := { row := fieldedAreScorersRow, standIns := [], harness := (true, "cb67e88421544b3afad6264eacdb0cab502370205802fe8161058710a655bab7"), looks := false }, kinds := [], alts := [], laidByText := true, laidKinds := [.data, .pinned], laidTests := true, laidLooks := .later }
def FieldedAreScorersCardSaid : Prop := Claim7.holds Tryz.pinned (.plain (OpenSpec.ofChange fieldedAreScorersSpec)) fieldedAreScorersCard

/-- THE SECOND FORM's CARD OF 'benchkeep1.TurnedAreTurned'. -/
def turnedAreTurnedUptoCard : Claim7 := { stood := { row := turnedAreTurnedUptoRow, standIns := [], harness := (true, "cb67e88421544b3afad6264eacdb0cab502370205802fe8161058710a655bab7"), looks := false }, kinds := [], alts := [], laidByText := true, laidKinds := [.data, .pinned], laidTests := true, laidLooks := .later }
def TurnedAreTurnedUptoCardSaid : Prop := Claim7.holds Tryz.pinned (.plain (OpenSpec.upto turnedAreTurnedSpec)) turnedAreTurnedUptoCard

/-- THE SECOND FORM's CARD OF 'benchkeep1.FieldedAreScorers'. -/
def fieldedAreScorersUptoCard : Claim7 := { stood := { row := fieldedAreScorersUptoRow, standIns := [], harness := (true, "cb67e88421544b3afad6264eacdb0cab502370205802fe8161058710a655bab7"), looks := false }, kinds := [], alts := [], laidByText := true, laidKinds := [.data, .pinned], laidTests := true, laidLooks := .later }
def FieldedAreScorersUptoCardSaid : Prop := Claim7.holds Tryz.pinned (.plain (OpenSpec.upto fieldedAreScorersSpec)) fieldedAreScorersUptoCard
end Rows
end Go.Proofs.YtbmggbfabohegaaGreatDoor
