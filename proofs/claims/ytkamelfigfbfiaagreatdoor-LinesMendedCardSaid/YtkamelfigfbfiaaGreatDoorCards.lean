/-
  DERIVED. GIVEN WITH THE SEED: THE CARDS: each row of YtkamelfigfbfiaaGreatDoorRows.lean that lists a variable, with what it lists TIED to the program's text (the seventh form; the later family's looks); each row that meets fmt, with fmt's text TOLD by the authors' own Lean function (tested against real Go, not proved from fmt's source: count such statements apart). THE CARD IS WHAT COUNTS. Prove the row's statement (the work); the ties are given (YtkamelfigfbfiaaGreatDoorTie.lean); close each card by the builder's one call (the guide's Derived/Test/ToyasCard.lean, 'card_holds'). Laid BY PROGRAM, IN A SANDBOX (cutbox-door.mjs). By AI agents, Wed Nov 11 2026. No macro, syntax, notation, axiom, sorry.
-/
import Derived.Test.YtkamelfigfbfiaaGreatDoorRows
import GoSem.ClaimSeven
namespace Go.Proofs.YtkamelfigfbfiaaGreatDoor
namespace Rows

/-- THE TIED CARD OF 'benchkeep1.SwapsAreTold'. -/
def swapsAreToldCard : Claim7 := { stood := { row := swapsAreToldRow, standIns := [], harness := (true, "e96d158ee7c2175d776f3c610d40cc5602c32f68e2142df93a8d60f2b67470a5"), looks := true }, kinds := [], alts := [], laidByText := true, laidKinds := [.data, .data, .data, .data, .pinned], laidTests := true, laidLooks := .later }
def SwapsAreToldCardSaid : Prop := Claim7.holds Tryz.pinned (.plain (OpenSpec.ofChange swapsAreToldSpec)) swapsAreToldCard

/-- THE TIED CARD OF 'benchkeep1.SinceIsDifference'. -/
def sinceIsDifferenceCard : Claim7 := { stood := { row := sinceIsDifferenceRow, standIns := [], harness := (true, "e96d158ee7c2175d776f3c610d40cc5602c32f68e2142df93a8d60f2b67470a5"), looks := true }, kinds := [], alts := [], laidByText := true, laidKinds := [.data, .pinned], laidTests := true, laidLooks := .later }
def SinceIsDifferenceCardSaid : Prop := Claim7.holds Tryz.pinned (.plain (OpenSpec.ofChange sinceIsDifferenceSpec)) sinceIsDifferenceCard

/-- THE TIED CARD OF 'benchkeep1.MendsMendOnce'. -/
def mendsMendOnceCard : Claim7 := { stood := { row := mendsMendOnceRow, standIns := [], harness := (true, "e96d158ee7c2175d776f3c610d40cc5602c32f68e2142df93a8d60f2b67470a5"), looks := true }, kinds := [], alts := [], laidByText := true, laidKinds := [.data, .pinned], laidTests := true, laidLooks := .later }
def MendsMendOnceCardSaid : Prop := Claim7.holds Tryz.pinned (.plain (OpenSpec.ofChange mendsMendOnceSpec)) mendsMendOnceCard

/-- THE TIED CARD OF 'benchlaw1.LinesMended'. -/
def linesMendedCard : Claim7 := { stood := { row := linesMendedRow, standIns := [], harness := (true, "e96d158ee7c2175d776f3c610d40cc5602c32f68e2142df93a8d60f2b67470a5"), looks := true }, kinds := [], alts := [], laidByText := true, laidKinds := [.data, .pinned], laidTests := true, laidLooks := .later }
def LinesMendedCardSaid : Prop := Claim7.holds Tryz.pinned (.plain (OpenSpec.ofChange linesMendedSpec)) linesMendedCard

/-- THE SECOND FORM's CARD OF 'benchkeep1.SwapsAreTold'. -/
def swapsAreToldUptoCard : Claim7 := { stood := { row := swapsAreToldUptoRow, standIns := [], harness := (true, "e96d158ee7c2175d776f3c610d40cc5602c32f68e2142df93a8d60f2b67470a5"), looks := true }, kinds := [], alts := [], laidByText := true, laidKinds := [.data, .data, .data, .data, .pinned], laidTests := true, laidLooks := .later }
def SwapsAreToldUptoCardSaid : Prop := Claim7.holds Tryz.pinned (.plain (OpenSpec.upto swapsAreToldSpec)) swapsAreToldUptoCard

/-- THE SECOND FORM's CARD OF 'benchkeep1.SinceIsDifference'. -/
def sinceIsDifferenceUptoCard : Claim7 := { stood := { row := sinceIsDifferenceUptoRow, standIns := [], harness := (true, "e96d158ee7c2175d776f3c610d40cc5602c32f68e2142df93a8d60f2b67470a5"), looks := true }, kinds := [], alts := [], laidByText := true, laidKinds := [.data, .pinned], laidTests := true, laidLooks := .later }
def SinceIsDifferenceUptoCardSaid : Prop := Claim7.holds Tryz.pinned (.plain (OpenSpec.upto sinceIsDifferenceSpec)) sinceIsDifferenceUptoCard

/-- THE SECOND FORM's CARD OF 'benchkeep1.MendsMendOnce'. -/
def mendsMendOnceUptoCard : Claim7 := { stood := { row := mendsMendOnceUptoRow, standIns := [], harness := (true, "e96d158ee7c2175d776f3c610d40cc5602c32f68e2142df93a8d60f2b67470a5"), looks := true }, kinds := [], alts := [], laidByText := true, laidKinds := [.data, .pinned], laidTests := true, laidLooks := .later }
def MendsMendOnceUptoCardSaid : Prop := Claim7.holds Tryz.pinned (.plain (OpenSpec.upto mendsMendOnceSpec)) mendsMendOnceUptoCard

/-- THE SECOND FORM's CARD OF 'benchlaw1.LinesMended'. -/
def linesMendedUptoCard : Claim7 := { stood := { row := linesMendedUptoRow, standIns := [], harness := (true, "e96d158ee7c2175d776f3c610d40cc5602c32f68e2142df93a8d60f2b67470a5"), looks := true }, kinds := [], alts := [], laidByText := true, laidKinds := [.data, .pinned], laidTests := true, laidLooks := .later }
def LinesMendedUptoCardSaid : Prop := Claim7.holds Tryz.pinned (.plain (OpenSpec.upto linesMendedSpec)) linesMendedUptoCard
end Rows
end Go.Proofs.YtkamelfigfbfiaaGreatDoor
