/-
  DERIVED. GIVEN WITH THE SEED: THE CARDS: each row of YtcnfhcicepmjcaaGreatDoorRows.lean that lists a variable, with what it lists TIED to the program's text (the seventh form; the later family's looks); each row that meets fmt, with fmt's text TOLD by the authors' own Lean function (tested against real Go, not proved from fmt's source: count such statements apart). THE CARD IS WHAT COUNTS. Prove the row's statement (the work); the ties are given (YtcnfhcicepmjcaaGreatDoorTie.lean); close each card by the builder's one call (the guide's Derived/Test/ToyasCard.lean, 'card_holds'). Laid BY PROGRAM, IN A SANDBOX (cutbox-door.mjs). By AI agents, Wed Nov 11 2026. No macro, syntax, notation, axiom, sorry.
-/
import Derived.Test.YtcnfhcicepmjcaaGreatDoorRows
import GoSem.ClaimSeven
namespace Go.Proofs.YtcnfhcicepmjcaaGreatDoor
namespace Rows

/-- THE TIED CARD OF 'benchlaw1.LinesMade'. -/
def linesMadeCard : Claim7 := { stood := { row := linesMadeRow, standIns := [], harness := (true, "c10688da5c0affb0e5611adcc8e2c63f8c4a2cc29d8e1b38022dd36eb1f7a5f6"), looks := true }, kinds := [], alts := [], laidByText := true, laidKinds := [.data, .pinned], laidTests := true, laidLooks := .later }
def LinesMadeCardSaid : Prop := Claim7.holds Tryz.pinned (.plain (OpenSpec.ofChange linesMadeSpec)) linesMadeCard

/-- THE TIED CARD OF 'benchkeep1.NobodyIsPickedTwice'. -/
def nobodyIsPickedTwiceCard : Claim7 := { stood := { row := nobodyIsPickedTwiceRow, standIns := [], harness := (true, "c10688da5c0affb0e5611adcc8e2c63f8c4a2cc29d8e1b38022dd36eb1f7a5f6"), looks := true }, kinds := [], alts := [], laidByText := true, laidKinds := [.data, .data, .data, .data, .pinned], laidTests := true, laidLooks := .later }
def NobodyIsPickedTwiceCardSaid : Prop := Claim7.holds Tryz.pinned (.plain (OpenSpec.ofChange nobodyIsPickedTwiceSpec)) nobodyIsPickedTwiceCard

/-- THE TIED CARD OF 'benchkeep1.AutoIsInTime'. -/
def autoIsInTimeCard : Claim7 := { stood := { row := autoIsInTimeRow, standIns := [], harness := (true, "c10688da5c0affb0e5611adcc8e2c63f8c4a2cc29d8e1b38022dd36eb1f7a5f6"), looks := true }, kinds := [], alts := [], laidByText := true, laidKinds := [.data, .data, .data, .data, .pinned], laidTests := true, laidLooks := .later }
def AutoIsInTimeCardSaid : Prop := Claim7.holds Tryz.pinned (.plain (OpenSpec.ofChange autoIsInTimeSpec)) autoIsInTimeCard

/-- THE TIED CARD OF 'benchkeep1.BudgetsAreEnough'. -/
def budgetsAreEnoughCard : Claim7 := { stood := { row := budgetsAreEnoughRow, standIns := [], harness := (true, "c10688da5c0affb0e5611adcc8e2c63f8c4a2cc29d8e1b38022dd36eb1f7a5f6"), looks := true }, kinds := [], alts := [], laidByText := true, laidKinds := [.data, .data, .data, .data, .sentinel, .sentinel, .pinned], laidTests := true, laidLooks := .later }
def BudgetsAreEnoughCardSaid : Prop := Claim7.holds Tryz.pinned (.plain (OpenSpec.ofChange budgetsAreEnoughSpec)) budgetsAreEnoughCard

/-- THE TIED CARD OF 'benchkeep1.PricesAreAllMoney'. -/
def pricesAreAllMoneyCard : Claim7 := { stood := { row := pricesAreAllMoneyRow, standIns := [], harness := (true, "c10688da5c0affb0e5611adcc8e2c63f8c4a2cc29d8e1b38022dd36eb1f7a5f6"), looks := true }, kinds := [], alts := [], laidByText := true, laidKinds := [.data, .data, .data, .data, .sentinel, .sentinel, .pinned], laidTests := true, laidLooks := .later }
def PricesAreAllMoneyCardSaid : Prop := Claim7.holds Tryz.pinned (.plain (OpenSpec.ofChange pricesAreAllMoneySpec)) pricesAreAllMoneyCard

/-- THE TIED CARD OF 'benchkeep1.MoreBringsMore'. -/
def moreBringsMoreCard : Claim7 := { stood := { row := moreBringsMoreRow, standIns := [], harness := (true, "c10688da5c0affb0e5611adcc8e2c63f8c4a2cc29d8e1b38022dd36eb1f7a5f6"), looks := true }, kinds := [], alts := [], laidByText := true, laidKinds := [.data, .data, .data, .data, .pinned], laidTests := true, laidLooks := .later }
def MoreBringsMoreCardSaid : Prop := Claim7.holds Tryz.pinned (.plain (OpenSpec.ofChange moreBringsMoreSpec)) moreBringsMoreCard

/-- THE SECOND FORM's CARD OF 'benchlaw1.LinesMade'. -/
def linesMadeUptoCard : Claim7 := { stood := { row := linesMadeUptoRow, standIns := [], harness := (true, "c10688da5c0affb0e5611adcc8e2c63f8c4a2cc29d8e1b38022dd36eb1f7a5f6"), looks := true }, kinds := [], alts := [], laidByText := true, laidKinds := [.data, .pinned], laidTests := true, laidLooks := .later }
def LinesMadeUptoCardSaid : Prop := Claim7.holds Tryz.pinned (.plain (OpenSpec.upto linesMadeSpec)) linesMadeUptoCard

/-- THE SECOND FORM's CARD OF 'benchkeep1.NobodyIsPickedTwice'. -/
def nobodyIsPickedTwiceUptoCard : Claim7 := { stood := { row := nobodyIsPickedTwiceUptoRow, standIns := [], harness := (true, "c10688da5c0affb0e5611adcc8e2c63f8c4a2cc29d8e1b38022dd36eb1f7a5f6"), looks := true }, kinds := [], alts := [], laidByText := true, laidKinds := [.data, .data, .data, .data, .pinned], laidTests := true, laidLooks := .later }
def NobodyIsPickedTwiceUptoCardSaid : Prop := Claim7.holds Tryz.pinned (.plain (OpenSpec.upto nobodyIsPickedTwiceSpec)) nobodyIsPickedTwiceUptoCard

/-- THE SECOND FORM's CARD OF 'benchkeep1.AutoIsInTime'. -/
def autoIsInTimeUptoCard : Claim7 := { stood := { row := autoIsInTimeUptoRow, standIns := [], harness := (true, "c10688da5c0affb0e5611adcc8e2c63f8c4a2cc29d8e1b38022dd36eb1f7a5f6"), looks := true }, kinds := [], alts := [], laidByText := true, laidKinds := [.data, .data, .data, .data, .pinned], laidTests := true, laidLooks := .later }
def AutoIsInTimeUptoCardSaid : Prop := Claim7.holds Tryz.pinned (.plain (OpenSpec.upto autoIsInTimeSpec)) autoIsInTimeUptoCard

/-- THE SECOND FORM's CARD OF 'benchkeep1.BudgetsAreEnough'. -/
def budgetsAreEnoughUptoCard : Claim7 := { stood := { row := budgetsAreEnoughUptoRow, standIns := [], harness := (true, "c10688da5c0affb0e5611adcc8e2c63f8c4a2cc29d8e1b38022dd36eb1f7a5f6"), looks := true }, kinds := [], alts := [], laidByText := true, laidKinds := [.data, .data, .data, .data, .sentinel, .sentinel, .pinned], laidTests := true, laidLooks := .later }
def BudgetsAreEnoughUptoCardSaid : Prop := Claim7.holds Tryz.pinned (.plain (OpenSpec.upto budgetsAreEnoughSpec)) budgetsAreEnoughUptoCard

/-- THE SECOND FORM's CARD OF 'benchkeep1.PricesAreAllMoney'. -/
def pricesAreAllMoneyUptoCard : Claim7 := { stood := { row := pricesAreAllMoneyUptoRow, standIns := [], harness := (true, "c10688da5c0affb0e5611adcc8e2c63f8c4a2cc29d8e1b38022dd36eb1f7a5f6"), looks := true }, kinds := [], alts := [], laidByText := true, laidKinds := [.data, .data, .data, .data, .sentinel, .sentinel, .pinned], laidTests := true, laidLooks := .later }
def PricesAreAllMoneyUptoCardSaid : Prop := Claim7.holds Tryz.pinned (.plain (OpenSpec.upto pricesAreAllMoneySpec)) pricesAreAllMoneyUptoCard

/-- THE SECOND FORM's CARD OF 'benchkeep1.MoreBringsMore'. -/
def moreBringsMoreUptoCard : Claim7 := { stood := { row := moreBringsMoreUptoRow, standIns := [], harness := (true, "c10688da5c0affb0e5611adcc8e2c63f8c4a2cc29d8e1b38022dd36eb1f7a5f6"), looks := true }, kinds := [], alts := [], laidByText := true, laidKinds := [.data, .data, .data, .data, .pinned], laidTests := true, laidLooks := .later }
def MoreBringsMoreUptoCardSaid : Prop := Claim7.holds Tryz.pinned (.plain (OpenSpec.upto moreBringsMoreSpec)) moreBringsMoreUptoCard
end Rows
end Go.Proofs.YtcnfhcicepmjcaaGreatDoor
