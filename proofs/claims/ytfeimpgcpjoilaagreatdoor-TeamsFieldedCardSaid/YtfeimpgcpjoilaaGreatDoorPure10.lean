/- Plain facts on the rooms that are drawn; no conditions. -/
import Derived.Test.YtfeimpgcpjoilaaGreatDoorPure9
import Derived.Test.YtfeimpgcpjoilaaGreatDoorHl14
import Derived.Shelf.Strconv.Itoa3
namespace Go.HL
abbrev nilS : HVal := .raw (.slice none 0 0)
abbrev RoomC (b : Nat) (t : HVal) (R W : Int) (p : HVal) (C S : Int) : MObj := .cells b [t, .int .i64 R, .int .i64 W, p, .int .i64 C, .int .i64 S]
structure GoodRoom (r : Room) : Prop where
  t0 : 0 < r.Teams.length
  t4 : r.Teams.length ≤ 4
  p20 : r.Players.length ≤ 20
  ts : ∀ s ∈ r.Teams, s.length ≤ 1000000
  ps : ∀ s ∈ r.Players, s.length ≤ 1000000
def team3 : List Str := [[116, 99], [116, 97], [116, 98]]
theorem team3_len : ∀ s ∈ team3, s.length ≤ 100 := by decide
theorem dec_len {i : Nat} (h : i < 100) : (Lib.decDigits i).length ≤ 10 := by
  have : (List.range 100).all (fun i => decide ((Lib.decDigits i).length ≤ 10)) = true := by kernel_rfl
  have := List.all_eq_true.1 this i (List.mem_range.2 h)
  simpa using this
theorem good_room {T Pl : List Str} {R W C S : Int} {k : Nat} (hT : 1 ≤ T.length ∧ T.length ≤ 3) (hP : Pl.length = k) (hk : k ≤ 19) (h1 : ∀ s ∈ T, s.length ≤ 100) (h2 : ∀ s ∈ Pl, s.length ≤ 100) : GoodRoom ⟨T, R, W, Pl, C, S⟩ :=
  ⟨by dsimp only; omega, by dsimp only; omega, by dsimp only; omega, fun s hs => by have := h1 s hs; omega, fun s hs => by have := h2 s hs; omega⟩
theorem good_roomT {T Pl : List Str} {R W C S : Int} {k : Nat} {y : Str} (hT : 1 ≤ T.length ∧ T.length ≤ 3) (hP : Pl.length = k) (hk : k ≤ 19) (h1 : ∀ s ∈ T, s.length ≤ 100) (h2 : ∀ s ∈ Pl, s.length ≤ 100) (hy : y.length ≤ 100) : GoodRoom ⟨T ++ [y], R, W, Pl, C, S⟩ :=
  ⟨by simp, by simp; omega, by dsimp only; omega, fun s hs => by
    rcases List.mem_append.1 hs with h | h
    · have := h1 s h; omega
    · simp at h; subst h; omega, fun s hs => by have := h2 s hs; omega⟩
theorem good_roomP {T Pl : List Str} {R W C S : Int} {k : Nat} {y : Str} (hT : 1 ≤ T.length ∧ T.length ≤ 3) (hP : Pl.length = k) (hk : k ≤ 19) (h1 : ∀ s ∈ T, s.length ≤ 100) (h2 : ∀ s ∈ Pl, s.length ≤ 100) (hy : y.length ≤ 100) : GoodRoom ⟨T, R, W, Pl ++ [y], C, S⟩ :=
  ⟨by dsimp only; omega, by dsimp only; omega, by simp; omega, fun s hs => by have := h1 s hs; omega, fun s hs => by
    rcases List.mem_append.1 hs with h | h
    · have := h2 s h; omega
    · simp at h; subst h; omega⟩
end Go.HL
