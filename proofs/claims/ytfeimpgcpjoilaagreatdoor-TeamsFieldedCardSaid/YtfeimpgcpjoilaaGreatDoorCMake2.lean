/- Contracts of functions of the program, by the rules of the logic; printed by gen.py. -/
import Derived.Test.YtfeimpgcpjoilaaGreatDoorCMake1
import Derived.Test.YtfeimpgcpjoilaaGreatDoorPure10
namespace Go.Proofs.YtfeimpgcpjoilaaGreatDoor
open Go.HL
set_option maxRecDepth 100000
set_option linter.unusedVariables false
set_option linter.unusedSimpArgs false
/-- strconv.Itoa of a small number -/
theorem c_strconv_Itoa {i : Nat} (hi : i < 100) : ConP Tryz.prog 20 [.int .i64 (i : Int)] (.str (Lib.decDigits i)) :=
  conp_of_calls fun I w args ha => by
    obtain ⟨u, rfl, hu⟩ := ha.one
    obtain rfl := hu.int_inv
    exact ⟨_, .str _, Any.strconv_Itoa_small Tryz.lays171 i hi w⟩
end Go.Proofs.YtfeimpgcpjoilaaGreatDoor
