/-
  DERIVED. GIVEN WITH THE SEED: THE CARDS: each row of YtoomadfbldcioaaGreatDoorRows.lean that lists a variable, with what it lists TIED to the program's text (the seventh form; the later family's looks); each row that meets fmt, with fmt's text TOLD by the authors' own Lean function (tested against real Go, not proved from fmt's source: count such statements apart). THE CARD IS WHAT COUNTS. Prove the row's statement (the work); the ties are given (YtoomadfbldcioaaGreatDoorTie.lean); close each card by the builder's one call (the guide's Derived/Test/ToyasCard.lean, 'card_holds'). Laid BY PROGRAM, IN A SANDBOX (cutbox-door.mjs). By AI agents, Wed Nov 11 2026. No macro, syntax, notation, axiom, sorry.
-/
import Derived.Test.YtoomadfbldcioaaGreatDoorRows
import GoSem.ClaimSeven
namespace Go.Proofs.YtoomadfbldcioaaGreatDoor
namespace Rows

/-- THE TIED CARD OF 'benchlaw1.WishesFollowed'. -/
def wishesFollowedCard : Claim7 := { stood := { row := wishesFollowedRow, standIns := [], harness := (true, "58f378b719dac75ebdd77a0162814fc31a53fe8b6c9ac1217d7396d1107ab67d"), looks := false }, kinds := [], alts := [], laidByText := true, laidKinds := [.data, .data, .data, .data, .pinned], laidTests := true, laidLooks := .later }
def WishesFollowedCardSaid : Prop := Claim7.holds Tryz.pinned (.plain (OpenSpec.ofChange wishesFollowedSpec)) wishesFollowedCard

/-- THE TIED CARD OF 'benchlaw1.PicksMade'. -/
def picksMadeCard : Claim7 := { stood := { row := picksMadeRow, standIns := [], harness := (true, "58f378b719dac75ebdd77a0162814fc31a53fe8b6c9ac1217d7396d1107ab67d"), looks := false }, kinds := [], alts := [], laidByText := true, laidKinds := [.data, .data, .data, .data, .pinned], laidTests := true, laidLooks := .later }
def PicksMadeCardSaid : Prop := Claim7.holds Tryz.pinned (.plain (OpenSpec.ofChange picksMadeSpec)) picksMadeCard

/-- THE SECOND FORM's CARD OF 'benchlaw1.WishesFollowed'. -/
def wishesFollowedUptoCard : Claim7 := { stood := { row := wishesFollowedUptoRow, standIns := [], harness := (true, "58f378b719dac75ebdd77a0162814fc31a53fe8b6c9ac1217d7396d1107ab67d"), looks := false }, kinds := [], alts := [], laidByText := true, laidKinds := [.data, .data, .data, .data, .pinned], laidTests := true, laidLooks := .later }
def WishesFollowedUptoCardSaid : Prop := Claim7.holds Tryz.pinned (.plain (OpenSpec.upto wishesFollowedSpec)) wishesFollowedUptoCard

/-- THE SECOND FORM's CARD OF 'benchlaw1.PicksMade'. -/
def picksMadeUptoCard : Claim7 := { stood := { row := picksMadeUptoRow, standIns := [], harness := (true, "58f378b719dac75ebdd77a0162814fc31a53fe8b6c9ac1217d7396d1107ab67d"), looks := false }, kinds := [], alts := [], laidByText := true, laidKinds := [.data, .data, .data, .data, .pinned], laidTests := true, laidLooks := .later }
def PicksMadeUptoCardSaid : Prop := Claim7.holds Tryz.pinned (.plain (OpenSpec.upto picksMadeSpec)) picksMadeUptoCard
end Rows
end Go.Proofs.YtoomadfbldcioaaGreatDoor
