/- Plain facts on numbers that are drawn from a stream; no conditions. -/
import Derived.Test.YtfeimpgcpjoilaaGreatDoorPure8
import Derived.Test.YtfeimpgcpjoilaaGreatDoorHl13
namespace Go.HL
abbrev pAt (b : Nat) : HVal := .raw (.pointer (some ⟨b, 0, none⟩))
/-- A stream of numbers of which a have been drawn. -/
abbrev St (b : Nat) (l : List Int) (a : Nat) : MObj := .cells b [.slice 1 (l.map (.int .i64)), .int .i64 (a : Int)]
def below (x n : Int) : Int := if n < 1 then 0 else if x.tmod n < 0 then x.tmod n + n else x.tmod n
theorem below_nat (x n : Int) : ∃ y : Nat, below x n = (y : Int) ∧ (y : Int) < max n 1 := by
  have h : 0 ≤ below x n ∧ below x n < max n 1 := by
    unfold below
    split
    · omega
    · have h1 := Int.tmod_lt_of_pos x (show 0 < n by omega)
      have h2 : -n < x.tmod n := by
        have := Int.neg_lt_tmod_of_pos' x n (by omega)
        exact this
      split <;> omega
  exact ⟨(below x n).toNat, by omega, by omega⟩
where
  Int.neg_lt_tmod_of_pos' (x n : Int) (h : 0 < n) : -n < x.tmod n := by
    rcases Int.le_total 0 x with hx | hx
    · have := Int.tmod_nonneg n hx; omega
    · have e : x.tmod n = -((-x).tmod n) := by rw [Int.neg_tmod]; simp
      have := Int.tmod_lt_of_pos (-x) h
      omega
theorem getI {L : List Int} {y : Nat} (h : (y : Int) < max (L.length : Int) 1) (h0 : 0 < L.length) : ∃ z, L[y]? = some z ∧ z ∈ L :=
  ⟨L[y]'(by omega), List.getElem?_eq_getElem _, List.getElem_mem _⟩
theorem getS {L : List Str} {y : Nat} (h : (y : Int) < max (L.length : Int) 1) (h0 : 0 < L.length) : ∃ z, L[y]? = some z ∧ z ∈ L :=
  ⟨L[y]'(by omega), List.getElem?_eq_getElem _, List.getElem_mem _⟩
theorem tmod_nat (a b : Nat) : ((a : Int)).tmod (b : Int) = ((a % b : Nat) : Int) := by
  exact (Int.ofNat_tmod a b).symm
end Go.HL
