/-
  DERIVED. GIVEN WITH THE SEED: THE CARDS: each row of YtbbpommdmnjfmaaGreatDoorRows.lean that lists a variable, with what it lists TIED to the program's text (the seventh form; the later family's looks); each row that meets fmt, with fmt's text TOLD by the authors' own Lean function (tested against real Go, not proved from fmt's source: count such statements apart). THE CARD IS WHAT COUNTS. Prove the row's statement (the work); the ties are given (YtbbpommdmnjfmaaGreatDoorTie.lean); close each card by the builder's one call (the guide's Derived/Test/ToyasCard.lean, 'card_holds'). Laid BY PROGRAM, IN A SANDBOX (cutbox-door.mjs). By AI agents, Wed Nov 11 2026. No macro, syntax, notation, axiom, sorry.
-/
import Derived.Test.YtbbpommdmnjfmaaGreatDoorRows
import GoSem.ClaimSeven
namespace Go.Proofs.YtbbpommdmnjfmaaGreatDoor
namespace Rows

/-- THE TIED CARD OF 'benchlaw1.BooksChecked'. -/
def booksCheckedCard : Claim7 := { stood := { row := booksCheckedRow, standIns := [], harness := (true, "026d6a9a886cb8c4d7c3d937f9cdaf3f9990c8f42b3252f19ed844057ab1d8a7"), looks := false }, kinds := [], alts := [], laidByText := true, laidKinds := [.data, .pinned], laidTests := true, laidLooks := .later }
def BooksCheckedCardSaid : Prop := Claim7.holds Tryz.pinned (.plain (OpenSpec.ofChange booksCheckedSpec)) booksCheckedCard

/-- THE SECOND FORM's CARD OF 'benchlaw1.BooksChecked'. -/
def booksCheckedUptoCard : Claim7 := { stood := { row := booksCheckedUptoRow, standIns := [], harness := (true, "026d6a9a886cb8c4d7c3d937f9cdaf3f9990c8f42b3252f19ed844057ab1d8a7"), looks := false }, kinds := [], alts := [], laidByText := true, laidKinds := [.data, .pinned], laidTests := true, laidLooks := .later }
def BooksCheckedUptoCardSaid : Prop := Claim7.holds Tryz.pinned (.plain (OpenSpec.upto booksCheckedSpec)) booksCheckedUptoCard
end Rows
end Go.Proofs.YtbbpommdmnjfmaaGreatDoor
