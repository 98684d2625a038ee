/-
  DERIVED. GIVEN WITH THE SEED: THE CARDS: each row of YtjfapmloepemiaaGreatDoorRows.lean that lists a variable, with what it lists TIED to the program's text (the seventh form; the later family's looks); each row that meets fmt, with fmt's text TOLD by the authors' own Lean function (tested against real Go, not proved from fmt's source: count such statements apart). THE CARD IS WHAT COUNTS. Prove the row's statement (the work); the ties are given (YtjfapmloepemiaaGreatDoorTie.lean); close each card by the builder's one call (the guide's Derived/Test/ToyasCard.lean, 'card_holds'). Laid BY PROGRAM, IN A SANDBOX (cutbox-door.mjs). By AI agents, Wed Nov 11 2026. No macro, syntax, notation, axiom, sorry.
-/
import Derived.Test.YtjfapmloepemiaaGreatDoorRows
import GoSem.ClaimSeven
namespace Go.Proofs.YtjfapmloepemiaaGreatDoor
namespace Rows

/-- THE TIED CARD OF 'benchlaw1.PlayersSold'. -/
def playersSoldCard : Claim7 := { stood := { row := playersSoldRow, standIns := [], harness := (true, "387c440407335eb7c9e726fcea176b3ec33702aa8581dbee1f0a58dbca97517d"), looks := true }, kinds := [], alts := [], laidByText := true, laidKinds := [.data, .data, .data, .data, .sentinel, .sentinel, .pinned], laidTests := true, laidLooks := .later }
def PlayersSoldCardSaid : Prop := Claim7.holds Tryz.pinned (.plain (OpenSpec.ofChange playersSoldSpec)) playersSoldCard

/-- THE SECOND FORM's CARD OF 'benchlaw1.PlayersSold'. -/
def playersSoldUptoCard : Claim7 := { stood := { row := playersSoldUptoRow, standIns := [], harness := (true, "387c440407335eb7c9e726fcea176b3ec33702aa8581dbee1f0a58dbca97517d"), looks := true }, kinds := [], alts := [], laidByText := true, laidKinds := [.data, .data, .data, .data, .sentinel, .sentinel, .pinned], laidTests := true, laidLooks := .later }
def PlayersSoldUptoCardSaid : Prop := Claim7.holds Tryz.pinned (.plain (OpenSpec.upto playersSoldSpec)) playersSoldUptoCard
end Rows
end Go.Proofs.YtjfapmloepemiaaGreatDoor
