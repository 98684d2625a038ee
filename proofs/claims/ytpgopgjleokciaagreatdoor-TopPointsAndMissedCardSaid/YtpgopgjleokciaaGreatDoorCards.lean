/-
  DERIVED. GIVEN WITH THE SEED: THE CARDS: each row of YtpgopgjleokciaaGreatDoorRows.lean that lists a variable, with what it lists TIED to the program's text (the seventh form; the later family's looks); each row that meets fmt, with fmt's text TOLD by the authors' own Lean function (tested against real Go, not proved from fmt's source: count such statements apart). THE CARD IS WHAT COUNTS. Prove the row's statement (the work); the ties are given (YtpgopgjleokciaaGreatDoorTie.lean); close each card by the builder's one call (the guide's Derived/Test/ToyasCard.lean, 'card_holds'). Laid BY PROGRAM, IN A SANDBOX (cutbox-door.mjs). By AI agents, Wed Nov 11 2026. No macro, syntax, notation, axiom, sorry.
-/
import Derived.Test.YtpgopgjleokciaaGreatDoorRows
import GoSem.ClaimSeven
namespace Go.Proofs.YtpgopgjleokciaaGreatDoor
namespace Rows

/-- THE TIED CARD OF 'benchtop.TopPointsAndMissed'. -/
def topPointsAndMissedCard : Claim7 := { stood := { row := topPointsAndMissedRow, standIns := [], harness := (true, "591713889edae4229d27e33e95f6e39d007af1407a3548a18546918e6bde5766"), looks := false }, kinds := [], alts := [], laidByText := true, laidKinds := [.data, .pinned], laidTests := true, laidLooks := .later }
def TopPointsAndMissedCardSaid : Prop := Claim7.holds Tryz.pinned (.plain (OpenSpec.ofChange topPointsAndMissedSpec)) topPointsAndMissedCard

/-- THE SECOND FORM's CARD OF 'benchtop.TopPointsAndMissed'. -/
def topPointsAndMissedUptoCard : Claim7 := { stood := { row := topPointsAndMissedUptoRow, standIns := [], harness := (true, "591713889edae4229d27e33e95f6e39d007af1407a3548a18546918e6bde5766"), looks := false }, kinds := [], alts := [], laidByText := true, laidKinds := [.data, .pinned], laidTests := true, laidLooks := .later }
def TopPointsAndMissedUptoCardSaid : Prop := Claim7.holds Tryz.pinned (.plain (OpenSpec.upto topPointsAndMissedSpec)) topPointsAndMissedUptoCard
end Rows
end Go.Proofs.YtpgopgjleokciaaGreatDoor
