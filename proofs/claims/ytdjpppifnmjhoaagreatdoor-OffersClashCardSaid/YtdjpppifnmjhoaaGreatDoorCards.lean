/-
  DERIVED. GIVEN WITH THE SEED: THE CARDS: each row of YtdjpppifnmjhoaaGreatDoorRows.lean that lists a variable, with what it lists TIED to the program's text (the seventh form; the later family's looks); each row that meets fmt, with fmt's text TOLD by the authors' own Lean function (tested against real Go, not proved from fmt's source: count such statements apart). THE CARD IS WHAT COUNTS. Prove the row's statement (the work); the ties are given (YtdjpppifnmjhoaaGreatDoorTie.lean); close each card by the builder's one call (the guide's Derived/Test/ToyasCard.lean, 'card_holds'). Laid BY PROGRAM, IN A SANDBOX (cutbox-door.mjs). By AI agents, Wed Nov 11 2026. No macro, syntax, notation, axiom, sorry.
-/
import Derived.Test.YtdjpppifnmjhoaaGreatDoorRows
import GoSem.ClaimSeven
namespace Go.Proofs.YtdjpppifnmjhoaaGreatDoor
namespace Rows

/-- THE TIED CARD OF 'benchkeep1.OffersComeBack'. -/
def offersComeBackCard : Claim7 := { stood := { row := offersComeBackRow, standIns := [], harness := (true, "fea490b9caaa294fbd664e55b8210568bd1793e919865ba4d290413b53a80d50"), looks := true }, kinds := [], alts := [], laidByText := true, laidKinds := [.data, .data, .data, .data, .sentinel, .sentinel, .pinned], laidTests := true, laidLooks := .later }
def OffersComeBackCardSaid : Prop := Claim7.holds Tryz.pinned (.plain (OpenSpec.ofChange offersComeBackSpec)) offersComeBackCard

/-- THE TIED CARD OF 'benchlaw1.OffersClash'. -/
def offersClashCard : Claim7 := { stood := { row := offersClashRow, standIns := [], harness := (true, "fea490b9caaa294fbd664e55b8210568bd1793e919865ba4d290413b53a80d50"), looks := true }, kinds := [], alts := [], laidByText := true, laidKinds := [.data, .data, .data, .data, .sentinel, .sentinel, .pinned], laidTests := true, laidLooks := .later }
def OffersClashCardSaid : Prop := Claim7.holds Tryz.pinned (.plain (OpenSpec.ofChange offersClashSpec)) offersClashCard

/-- THE SECOND FORM's CARD OF 'benchkeep1.OffersComeBack'. -/
def offersComeBackUptoCard : Claim7 := { stood := { row := offersComeBackUptoRow, standIns := [], harness := (true, "fea490b9caaa294fbd664e55b8210568bd1793e919865ba4d290413b53a80d50"), looks := true }, kinds := [], alts := [], laidByText := true, laidKinds := [.data, .data, .data, .data, .sentinel, .sentinel, .pinned], laidTests := true, laidLooks := .later }
def OffersComeBackUptoCardSaid : Prop := Claim7.holds Tryz.pinned (.plain (OpenSpec.upto offersComeBackSpec)) offersComeBackUptoCard

/-- THE SECOND FORM's CARD OF 'benchlaw1.OffersClash'. -/
def offersClashUptoCard : Claim7 := { stood := { row := offersClashUptoRow, standIns := [], harness := (true, "fea490b9caaa294fbd664e55b8210568bd1793e919865ba4d290413b53a80d50"), looks := true }, kinds := [], alts := [], laidByText := true, laidKinds := [.data, .data, .data, .data, .sentinel, .sentinel, .pinned], laidTests := true, laidLooks := .later }
def OffersClashUptoCardSaid : Prop := Claim7.holds Tryz.pinned (.plain (OpenSpec.upto offersClashSpec)) offersClashUptoCard
end Rows
end Go.Proofs.YtdjpppifnmjhoaaGreatDoor
