/- Plain facts on sorted lists whose repeats are left out; no conditions. -/
import Derived.Test.YtfeimpgcpjoilaaGreatDoorPure6
import Derived.Test.YtfeimpgcpjoilaaGreatDoorHl12
namespace Go.HL
theorem compactUpTo_le {α : Type} [BEq α] [LawfulBEq α] [Inhabited α] [DecidableEq α] (d : Array α) (m : Nat) : (Lib.compactUpTo d m).length ≤ m := by
  unfold Lib.compactUpTo
  rw [List.length_map]
  have := List.length_filter_le (Lib.keeps d) (List.range m)
  simpa using this
theorem compact_le (l : List Str) : (Lib.compact l).length ≤ l.length := compactUpTo_le _ _
end Go.HL
