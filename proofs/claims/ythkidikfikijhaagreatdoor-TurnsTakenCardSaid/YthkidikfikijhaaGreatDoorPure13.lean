/- Plain facts for the law on turns; no conditions. -/
import Derived.Test.YthkidikfikijhaaGreatDoorPure12
namespace Go.HL
def room1 : Room := ⟨[[97], [98]], 2, 2, [[112], [113], [114], [115]], 1000, 0⟩
theorem room1_ok : checkSwaps room1 [] = 0 := by kernel_rfl
theorem room1_turns : turnTeams room1 [] = [[97], [98], [98], [97]] := by kernel_rfl
theorem eqPicks_refl : ∀ l : List Pick, eqPicks l l = true
  | [] => rfl
  | a :: r => by simp [eqPicks, eqPick, eqPicks_refl r, hcells, eqHL, eqH]
theorem opened_len (r : Room) (k : List Keep) (s : List Swap) (h : openFault r k s = 0) : (opened r k s).length ≤ 1000000 := by
  have := turns_len (s := s) (openFault_ok h).1
  unfold opened open1
  split
  · simp
  · rw [openFrom_len]; omega
end Go.HL
