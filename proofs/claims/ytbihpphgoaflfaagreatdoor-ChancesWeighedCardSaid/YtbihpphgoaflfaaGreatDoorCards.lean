/-
  DERIVED. GIVEN WITH THE SEED: THE CARDS: each row of YtbihpphgoaflfaaGreatDoorRows.lean that lists a variable, with what it lists TIED to the program's text (the seventh form; the later family's looks); each row that meets fmt, with fmt's text TOLD by the authors' own Lean function (tested against real Go, not proved from fmt's source: count such statements apart). THE CARD IS WHAT COUNTS. Prove the row's statement (the work); the ties are given (YtbihpphgoaflfaaGreatDoorTie.lean); close each card by the builder's one call (the guide's Derived/Test/ToyasCard.lean, 'card_holds'). Laid BY PROGRAM, IN A SANDBOX (cutbox-door.mjs). By AI agents, Wed Nov 11 2026. No macro, syntax, notation, axiom, sorry.
-/
import Derived.Test.YtbihpphgoaflfaaGreatDoorRows
import GoSem.ClaimSeven
namespace Go.Proofs.YtbihpphgoaflfaaGreatDoor
namespace Rows

/-- THE TIED CARD OF 'benchlaw1.SumsSpread'. -/
def sumsSpreadCard : Claim7 := { stood := { row := sumsSpreadRow, standIns := [], harness := (true, "1a749e670c03459aab2e9a23f6b2a6f31ee8a11ea0d9565dcce9c331c57276b8"), looks := false }, kinds := [], alts := [], laidByText := true, laidKinds := [.data, .data, .data, .data, .pinned], laidTests := true, laidLooks := .later }
def SumsSpreadCardSaid : Prop := Claim7.holds Tryz.pinned (.plain (OpenSpec.ofChange sumsSpreadSpec)) sumsSpreadCard

/-- THE TIED CARD OF 'benchlaw1.ChancesWeighed'. -/
def chancesWeighedCard : Claim7 := { stood := { row := chancesWeighedRow, standIns := [], harness := (true, "1a749e670c03459aab2e9a23f6b2a6f31ee8a11ea0d9565dcce9c331c57276b8"), looks := false }, kinds := [], alts := [], laidByText := true, laidKinds := [.data, .data, .data, .data, .pinned], laidTests := true, laidLooks := .later }
def ChancesWeighedCardSaid : Prop := Claim7.holds Tryz.pinned (.plain (OpenSpec.ofChange chancesWeighedSpec)) chancesWeighedCard

/-- THE TIED CARD OF 'benchkeep1.ChancesAddUp'. -/
def chancesAddUpCard : Claim7 := { stood := { row := chancesAddUpRow, standIns := [], harness := (true, "1a749e670c03459aab2e9a23f6b2a6f31ee8a11ea0d9565dcce9c331c57276b8"), looks := false }, kinds := [], alts := [], laidByText := true, laidKinds := [.data, .data, .data, .data, .pinned], laidTests := true, laidLooks := .later }
def ChancesAddUpCardSaid : Prop := Claim7.holds Tryz.pinned (.plain (OpenSpec.ofChange chancesAddUpSpec)) chancesAddUpCard

/-- THE SECOND FORM's CARD OF 'benchlaw1.SumsSpread'. -/
def sumsSpreadUptoCard : Claim7 := { stood := { row := sumsSpreadUptoRow, standIns := [], harness := (true, "1a749e670c03459aab2e9a23f6b2a6f31ee8a11ea0d9565dcce9c331c57276b8"), looks := false }, kinds := [], alts := [], laidByText := true, laidKinds := [.data, .data, .data, .data, .pinned], laidTests := true, laidLooks := .later }
def SumsSpreadUptoCardSaid : Prop := Claim7.holds Tryz.pinned (.plain (OpenSpec.upto sumsSpreadSpec)) sumsSpreadUptoCard

/-- THE SECOND FORM's CARD OF 'benchlaw1.ChancesWeighed'. -/
def chancesWeighedUptoCard : Claim7 := { stood := { row := chancesWeighedUptoRow, standIns := [], harness := (true, "1a749e670c03459aab2e9a23f6b2a6f31ee8a11ea0d9565dcce9c331c57276b8"), looks := false }, kinds := [], alts := [], laidByText := true, laidKinds := [.data, .data, .data, .data, .pinned], laidTests := true, laidLooks := .later }
def ChancesWeighedUptoCardSaid : Prop := Claim7.holds Tryz.pinned (.plain (OpenSpec.upto chancesWeighedSpec)) chancesWeighedUptoCard

/-- THE SECOND FORM's CARD OF 'benchkeep1.ChancesAddUp'. -/
def chancesAddUpUptoCard : Claim7 := { stood := { row := chancesAddUpUptoRow, standIns := [], harness := (true, "1a749e670c03459aab2e9a23f6b2a6f31ee8a11ea0d9565dcce9c331c57276b8"), looks := false }, kinds := [], alts := [], laidByText := true, laidKinds := [.data, .data, .data, .data, .pinned], laidTests := true, laidLooks := .later }
def ChancesAddUpUptoCardSaid : Prop := Claim7.holds Tryz.pinned (.plain (OpenSpec.upto chancesAddUpSpec)) chancesAddUpUptoCard
end Rows
end Go.Proofs.YtbihpphgoaflfaaGreatDoor
