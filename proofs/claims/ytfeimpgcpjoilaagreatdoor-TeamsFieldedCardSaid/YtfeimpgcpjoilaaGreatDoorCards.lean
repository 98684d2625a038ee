/-
  DERIVED. GIVEN WITH THE SEED: THE CARDS: each row of YtfeimpgcpjoilaaGreatDoorRows.lean that lists a variable, with what it lists TIED to the program's text (the seventh form; the later family's looks); each row that meets fmt, with fmt's text TOLD by the authors' own Lean function (tested against real Go, not proved from fmt's source: count such statements apart). THE CARD IS WHAT COUNTS. Prove the row's statement (the work); the ties are given (YtfeimpgcpjoilaaGreatDoorTie.lean); close each card by the builder's one call (the guide's Derived/Test/ToyasCard.lean, 'card_holds'). Laid BY PROGRAM, IN A SANDBOX (cutbox-door.mjs). By AI agents, Wed Nov 11 2026. No macro, syntax, notation, axiom, sorry.
-/
import Derived.Test.YtfeimpgcpjoilaaGreatDoorRows
import GoSem.ClaimSeven
namespace Go.Proofs.YtfeimpgcpjoilaaGreatDoor
namespace Rows

/-- THE TIED CARD OF 'benchlaw1.TeamsFielded'. -/
def teamsFieldedCard : Claim7 := { stood := { row := teamsFieldedRow, standIns := [], harness := (true, "d35c151be7cc8e15fe6889be3856a791a2175c1afe79cfd4a3bcda6c8279521c"), looks := false }, kinds := [], alts := [], laidByText := true, laidKinds := [.data, .data, .data, .data, .pinned], laidTests := true, laidLooks := .later }
def TeamsFieldedCardSaid : Prop := Claim7.holds Tryz.pinned (.plain (OpenSpec.ofChange teamsFieldedSpec)) teamsFieldedCard

/-- THE SECOND FORM's CARD OF 'benchlaw1.TeamsFielded'. -/
def teamsFieldedUptoCard : Claim7 := { stood := { row := teamsFieldedUptoRow, standIns := [], harness := (true, "d35c151be7cc8e15fe6889be3856a791a2175c1afe79cfd4a3bcda6c8279521c"), looks := false }, kinds := [], alts := [], laidByText := true, laidKinds := [.data, .data, .data, .data, .pinned], laidTests := true, laidLooks := .later }
def TeamsFieldedUptoCardSaid : Prop := Claim7.holds Tryz.pinned (.plain (OpenSpec.upto teamsFieldedSpec)) teamsFieldedUptoCard
end Rows
end Go.Proofs.YtfeimpgcpjoilaaGreatDoor
