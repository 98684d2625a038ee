/-
  DERIVED. GIVEN WITH THE SEED: THE CARDS: each row of YtbfikmihcpfgaaaGreatDoorRows.lean that lists a variable, with what it lists TIED to the program's text (the seventh form; the later family's looks); each row that meets fmt, with fmt's text TOLD by the authors' own Lean function (tested against real Go, not proved from fmt's source: count such statements apart). THE CARD IS WHAT COUNTS. Prove the row's statement (the work); the ties are given (YtbfikmihcpfgaaaGreatDoorTie.lean); close each card by the builder's one call (the guide's Derived/Test/ToyasCard.lean, 'card_holds'). Laid BY PROGRAM, IN A SANDBOX (cutbox-door.mjs). By AI agents, Wed Nov 11 2026. No macro, syntax, notation, axiom, sorry.
-/
import Derived.Test.YtbfikmihcpfgaaaGreatDoorRows
import GoSem.ClaimSeven
namespace Go.Proofs.YtbfikmihcpfgaaaGreatDoor
namespace Rows

/-- THE TIED CARD OF 'benchkeep1.AssetsComeBack'. -/
def assetsComeBackCard : Claim7 := { stood := { row := assetsComeBackRow, standIns := [], harness := (true, "b0ab84bab2bda6104f072cd1a2c45bf09e75a2a81aa23bc8cf4e6c827f7f2463"), looks := true }, kinds := [], alts := [], laidByText := true, laidKinds := [.data, .data, .data, .data, .sentinel, .sentinel, .pinned], laidTests := true, laidLooks := .later }
def AssetsComeBackCardSaid : Prop := Claim7.holds Tryz.pinned (.plain (OpenSpec.ofChange assetsComeBackSpec)) assetsComeBackCard

/-- THE TIED CARD OF 'benchlaw1.SwapsWeighed'. -/
def swapsWeighedCard : Claim7 := { stood := { row := swapsWeighedRow, standIns := [], harness := (true, "b0ab84bab2bda6104f072cd1a2c45bf09e75a2a81aa23bc8cf4e6c827f7f2463"), looks := true }, kinds := [], alts := [], laidByText := true, laidKinds := [.data, .data, .data, .data, .sentinel, .sentinel, .pinned], laidTests := true, laidLooks := .later }
def SwapsWeighedCardSaid : Prop := Claim7.holds Tryz.pinned (.plain (OpenSpec.ofChange swapsWeighedSpec)) swapsWeighedCard

/-- THE SECOND FORM's CARD OF 'benchkeep1.AssetsComeBack'. -/
def assetsComeBackUptoCard : Claim7 := { stood := { row := assetsComeBackUptoRow, standIns := [], harness := (true, "b0ab84bab2bda6104f072cd1a2c45bf09e75a2a81aa23bc8cf4e6c827f7f2463"), looks := true }, kinds := [], alts := [], laidByText := true, laidKinds := [.data, .data, .data, .data, .sentinel, .sentinel, .pinned], laidTests := true, laidLooks := .later }
def AssetsComeBackUptoCardSaid : Prop := Claim7.holds Tryz.pinned (.plain (OpenSpec.upto assetsComeBackSpec)) assetsComeBackUptoCard

/-- THE SECOND FORM's CARD OF 'benchlaw1.SwapsWeighed'. -/
def swapsWeighedUptoCard : Claim7 := { stood := { row := swapsWeighedUptoRow, standIns := [], harness := (true, "b0ab84bab2bda6104f072cd1a2c45bf09e75a2a81aa23bc8cf4e6c827f7f2463"), looks := true }, kinds := [], alts := [], laidByText := true, laidKinds := [.data, .data, .data, .data, .sentinel, .sentinel, .pinned], laidTests := true, laidLooks := .later }
def SwapsWeighedUptoCardSaid : Prop := Claim7.holds Tryz.pinned (.plain (OpenSpec.upto swapsWeighedSpec)) swapsWeighedUptoCard
end Rows
end Go.Proofs.YtbfikmihcpfgaaaGreatDoor
