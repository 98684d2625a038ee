/- Plain facts on lists that are turned round in place; no conditions. -/
import Derived.Test.YtfeimpgcpjoilaaGreatDoorPure3
namespace Go.HL
/-- after i swaps -/
def Rev (l c : List Str) (i : Nat) : Prop := c.length = l.length ∧ ∀ k, k < l.length → c[k]? = if k < i ∨ l.length - i ≤ k then l[l.length - 1 - k]? else l[k]?
theorem rev_start (l : List Str) : Rev l l 0 := ⟨rfl, fun k hk => by rw [if_neg (by omega)]⟩
theorem rev_step {l c : List Str} {i : Nat} {a b : Str} (h : Rev l c i) (hi : i < l.length - 1 - i) (ha : c[i]? = some a) (hb : c[l.length - 1 - i]? = some b) : Rev l ((c.set i b).set (l.length - 1 - i) a) (i + 1) := by
  obtain ⟨h1, h2⟩ := h
  refine ⟨by simp [h1], fun k hk => ?_⟩
  have ea := h2 i (by omega)
  have eb := h2 (l.length - 1 - i) (by omega)
  rw [if_neg (by omega), ha] at ea
  rw [if_neg (by omega), hb] at eb
  by_cases e1 : k = l.length - 1 - i
  · subst e1
    rw [if_pos (by omega)]
    have : l.length - 1 - (l.length - 1 - i) = i := by omega
    rw [this, ← ea, List.getElem?_set_self (by simp; omega)]
  · rw [List.getElem?_set_ne (by omega)]
    by_cases e2 : k = i
    · subst e2
      rw [if_pos (by omega), ← eb, List.getElem?_set_self (by omega)]
    · rw [List.getElem?_set_ne (by omega), h2 k hk]
      by_cases e3 : k < i ∨ l.length - i ≤ k
      · rw [if_pos e3, if_pos (by omega)]
      · rw [if_neg e3, if_neg (by omega)]
theorem rev_end {l c : List Str} {i : Nat} (h : Rev l c i) (hi : l.length ≤ 2 * i + 1) : c = l.reverse := by
  obtain ⟨h1, h2⟩ := h
  apply List.ext_getElem?
  intro k
  by_cases hk : k < l.length
  · rw [h2 k hk]
    rw [List.getElem?_reverse hk]
    by_cases e : k < i ∨ l.length - i ≤ k
    · rw [if_pos e]
    · rw [if_neg e]
      congr 1; omega
  · rw [List.getElem?_eq_none (by omega), List.getElem?_eq_none (by simp; omega)]
end Go.HL
