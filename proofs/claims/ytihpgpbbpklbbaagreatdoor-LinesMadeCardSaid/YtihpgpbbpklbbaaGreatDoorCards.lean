/-
  DERIVED. GIVEN WITH THE SEED: THE CARDS: each row of YtihpgpbbpklbbaaGreatDoorRows.lean that lists a variable, with what it lists TIED to the program's text (the seventh form; the later family's looks); each row that meets fmt, with fmt's text TOLD by the authors' own Lean function (tested against real Go, not proved from fmt's source: count such statements apart). THE CARD IS WHAT COUNTS. Prove the row's statement (the work); the ties are given (YtihpgpbbpklbbaaGreatDoorTie.lean); close each card by the builder's one call (the guide's Derived/Test/ToyasCard.lean, 'card_holds'). Laid BY PROGRAM, IN A SANDBOX (cutbox-door.mjs). By AI agents, Wed Nov 11 2026. No macro, syntax, notation, axiom, sorry.
-/
import Derived.Test.YtihpgpbbpklbbaaGreatDoorRows
import GoSem.ClaimSeven
namespace Go.Proofs.YtihpgpbbpklbbaaGreatDoor
namespace Rows

/-- THE TIED CARD OF 'benchlaw1.LinesMade'. -/
def linesMadeCard : Claim7 := { stood := { row := linesMadeRow, standIns := [], harness := (true, "cf77d60fbca96cdf4ad783aab3d7b3a05c112add1f68e6e2f29dbbd7732029be"), looks := true }, kinds := [], alts := [], laidByText := true, laidKinds := [.data, .pinned], laidTests := true, laidLooks := .later }
def LinesMadeCardSaid : Prop := Claim7.holds Tryz.pinned (.plain (OpenSpec.ofChange linesMadeSpec)) linesMadeCard

/-- THE TIED CARD OF 'benchkeep1.PricesAreAllMoney'. -/
def pricesAreAllMoneyCard : Claim7 := { stood := { row := pricesAreAllMoneyRow, standIns := [], harness := (true, "cf77d60fbca96cdf4ad783aab3d7b3a05c112add1f68e6e2f29dbbd7732029be"), looks := true }, kinds := [], alts := [], laidByText := true, laidKinds := [.data, .data, .data, .data, .sentinel, .sentinel, .pinned], laidTests := true, laidLooks := .later }
def PricesAreAllMoneyCardSaid : Prop := Claim7.holds Tryz.pinned (.plain (OpenSpec.ofChange pricesAreAllMoneySpec)) pricesAreAllMoneyCard

/-- THE TIED CARD OF 'benchkeep1.MoreBringsMore'. -/
def moreBringsMoreCard : Claim7 := { stood := { row := moreBringsMoreRow, standIns := [], harness := (true, "cf77d60fbca96cdf4ad783aab3d7b3a05c112add1f68e6e2f29dbbd7732029be"), looks := true }, kinds := [], alts := [], laidByText := true, laidKinds := [.data, .data, .data, .data, .pinned], laidTests := true, laidLooks := .later }
def MoreBringsMoreCardSaid : Prop := Claim7.holds Tryz.pinned (.plain (OpenSpec.ofChange moreBringsMoreSpec)) moreBringsMoreCard

/-- THE TIED CARD OF 'benchkeep1.OneSourceCounts'. -/
def oneSourceCountsCard : Claim7 := { stood := { row := oneSourceCountsRow, standIns := [], harness := (true, "cf77d60fbca96cdf4ad783aab3d7b3a05c112add1f68e6e2f29dbbd7732029be"), looks := true }, kinds := [], alts := [], laidByText := true, laidKinds := [.data, .pinned], laidTests := true, laidLooks := .later }
def OneSourceCountsCardSaid : Prop := Claim7.holds Tryz.pinned (.plain (OpenSpec.ofChange oneSourceCountsSpec)) oneSourceCountsCard

/-- THE SECOND FORM's CARD OF 'benchlaw1.LinesMade'. -/
def linesMadeUptoCard : Claim7 := { stood := { row := linesMadeUptoRow, standIns := [], harness := (true, "cf77d60fbca96cdf4ad783aab3d7b3a05c112add1f68e6e2f29dbbd7732029be"), looks := true }, kinds := [], alts := [], laidByText := true, laidKinds := [.data, .pinned], laidTests := true, laidLooks := .later }
def LinesMadeUptoCardSaid : Prop := Claim7.holds Tryz.pinned (.plain (OpenSpec.upto linesMadeSpec)) linesMadeUptoCard

/-- THE SECOND FORM's CARD OF 'benchkeep1.PricesAreAllMoney'. -/
def pricesAreAllMoneyUptoCard : Claim7 := { stood := { row := pricesAreAllMoneyUptoRow, standIns := [], harness := (true, "cf77d60fbca96cdf4ad783aab3d7b3a05c112add1f68e6e2f29dbbd7732029be"), looks := true }, kinds := [], alts := [], laidByText := true, laidKinds := [.data, .data, .data, .data, .sentinel, .sentinel, .pinned], laidTests := true, laidLooks := .later }
def PricesAreAllMoneyUptoCardSaid : Prop := Claim7.holds Tryz.pinned (.plain (OpenSpec.upto pricesAreAllMoneySpec)) pricesAreAllMoneyUptoCard

/-- THE SECOND FORM's CARD OF 'benchkeep1.MoreBringsMore'. -/
def moreBringsMoreUptoCard : Claim7 := { stood := { row := moreBringsMoreUptoRow, standIns := [], harness := (true, "cf77d60fbca96cdf4ad783aab3d7b3a05c112add1f68e6e2f29dbbd7732029be"), looks := true }, kinds := [], alts := [], laidByText := true, laidKinds := [.data, .data, .data, .data, .pinned], laidTests := true, laidLooks := .later }
def MoreBringsMoreUptoCardSaid : Prop := Claim7.holds Tryz.pinned (.plain (OpenSpec.upto moreBringsMoreSpec)) moreBringsMoreUptoCard

/-- THE SECOND FORM's CARD OF 'benchkeep1.OneSourceCounts'. -/
def oneSourceCountsUptoCard : Claim7 := { stood := { row := oneSourceCountsUptoRow, standIns := [], harness := (true, "cf77d60fbca96cdf4ad783aab3d7b3a05c112add1f68e6e2f29dbbd7732029be"), looks := true }, kinds := [], alts := [], laidByText := true, laidKinds := [.data, .pinned], laidTests := true, laidLooks := .later }
def OneSourceCountsUptoCardSaid : Prop := Claim7.holds Tryz.pinned (.plain (OpenSpec.upto oneSourceCountsSpec)) oneSourceCountsUptoCard
end Rows
end Go.Proofs.YtihpgpbbpklbbaaGreatDoor
