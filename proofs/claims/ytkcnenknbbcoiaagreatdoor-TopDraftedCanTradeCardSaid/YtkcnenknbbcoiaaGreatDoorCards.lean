/-
  DERIVED. GIVEN WITH THE SEED: THE CARDS: each row of YtkcnenknbbcoiaaGreatDoorRows.lean that lists a variable, with what it lists TIED to the program's text (the seventh form; the later family's looks); each row that meets fmt, with fmt's text TOLD by the authors' own Lean function (tested against real Go, not proved from fmt's source: count such statements apart). THE CARD IS WHAT COUNTS. Prove the row's statement (the work); the ties are given (YtkcnenknbbcoiaaGreatDoorTie.lean); close each card by the builder's one call (the guide's Derived/Test/ToyasCard.lean, 'card_holds'). Laid BY PROGRAM, IN A SANDBOX (cutbox-door.mjs). By AI agents, Wed Nov 11 2026. No macro, syntax, notation, axiom, sorry.
-/
import Derived.Test.YtkcnenknbbcoiaaGreatDoorRows
import GoSem.ClaimSeven
namespace Go.Proofs.YtkcnenknbbcoiaaGreatDoor
namespace Rows

/-- THE TIED CARD OF 'benchtop.TopDraftedCanTrade'. -/
def topDraftedCanTradeCard : Claim7 := { stood := { row := topDraftedCanTradeRow, standIns := [], harness := (true, "6e252fbc02bcac1bd22a1a07b590699562d777e7fda75b625eb4f273dc7d0b52"), looks := false }, kinds := [], alts := [], laidByText := true, laidKinds := [.data, .data, .data, .data, .pinned], laidTests := true, laidLooks := .later }
def TopDraftedCanTradeCardSaid : Prop := Claim7.holds Tryz.pinned (.plain (OpenSpec.ofChange topDraftedCanTradeSpec)) topDraftedCanTradeCard

/-- THE SECOND FORM's CARD OF 'benchtop.TopDraftedCanTrade'. -/
def topDraftedCanTradeUptoCard : Claim7 := { stood := { row := topDraftedCanTradeUptoRow, standIns := [], harness := (true, "6e252fbc02bcac1bd22a1a07b590699562d777e7fda75b625eb4f273dc7d0b52"), looks := false }, kinds := [], alts := [], laidByText := true, laidKinds := [.data, .data, .data, .data, .pinned], laidTests := true, laidLooks := .later }
def TopDraftedCanTradeUptoCardSaid : Prop := Claim7.holds Tryz.pinned (.plain (OpenSpec.upto topDraftedCanTradeSpec)) topDraftedCanTradeUptoCard
end Rows
end Go.Proofs.YtkcnenknbbcoiaaGreatDoor
