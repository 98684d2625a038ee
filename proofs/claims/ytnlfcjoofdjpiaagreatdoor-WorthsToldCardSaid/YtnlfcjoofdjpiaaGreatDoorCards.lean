/-
  DERIVED. GIVEN WITH THE SEED: THE CARDS: each row of YtnlfcjoofdjpiaaGreatDoorRows.lean that lists a variable, with what it lists TIED to the program's text (the seventh form; the later family's looks); each row that meets fmt, with fmt's text TOLD by the authors' own Lean function (tested against real Go, not proved from fmt's source: count such statements apart). THE CARD IS WHAT COUNTS. Prove the row's statement (the work); the ties are given (YtnlfcjoofdjpiaaGreatDoorTie.lean); close each card by the builder's one call (the guide's Derived/Test/ToyasCard.lean, 'card_holds'). Laid BY PROGRAM, IN A SANDBOX (cutbox-door.mjs). By AI agents, Wed Nov 11 2026. No macro, syntax, notation, axiom, sorry.
-/
import Derived.Test.YtnlfcjoofdjpiaaGreatDoorRows
import GoSem.ClaimSeven
namespace Go.Proofs.YtnlfcjoofdjpiaaGreatDoor
namespace Rows

/-- THE TIED CARD OF 'benchlaw1.WorthsTold'. -/
def worthsToldCard : Claim7 := { stood := { row := worthsToldRow, standIns := [], harness := (true, "dbb541db6f8fc7d38c0f4ba6fe3c757d94dd4ae7039f456fcb680d028b8e0aa7"), looks := false }, kinds := [], alts := [], laidByText := true, laidKinds := [.data, .data, .data, .data, .pinned], laidTests := true, laidLooks := .later }
def WorthsToldCardSaid : Prop := Claim7.holds Tryz.pinned (.plain (OpenSpec.ofChange worthsToldSpec)) worthsToldCard

/-- THE SECOND FORM's CARD OF 'benchlaw1.WorthsTold'. -/
def worthsToldUptoCard : Claim7 := { stood := { row := worthsToldUptoRow, standIns := [], harness := (true, "dbb541db6f8fc7d38c0f4ba6fe3c757d94dd4ae7039f456fcb680d028b8e0aa7"), looks := false }, kinds := [], alts := [], laidByText := true, laidKinds := [.data, .data, .data, .data, .pinned], laidTests := true, laidLooks := .later }
def WorthsToldUptoCardSaid : Prop := Claim7.holds Tryz.pinned (.plain (OpenSpec.upto worthsToldSpec)) worthsToldUptoCard
end Rows
end Go.Proofs.YtnlfcjoofdjpiaaGreatDoor
