/- Plain facts on what the draft's doors answer; no conditions. -/
import Derived.Test.YtfeimpgcpjoilaaGreatDoorPure4
namespace Go.HL
def turnTeams (r : Room) (s : List Swap) : List Str := if checkSwaps r s != 0 then [] else (turns r s).map (·.team)
theorem checkSwaps_ok {r : Room} {l : List Swap} (h : checkSwaps r l = 0) : checkRoom r = 0 ∧ l.length ≤ 600 := by
  unfold checkSwaps at h
  by_cases h1 : checkRoom r = 0
  · rw [if_neg (by simp [h1])] at h
    split at h
    · omega
    · exact ⟨h1, by omega⟩
  · rw [if_pos (by simpa using h1)] at h; exact absurd h h1
theorem orI_zero {a b : Int} (h : orI [a, b] = 0) : a = 0 ∧ b = 0 := by
  simp only [orI] at h
  split at h <;> simp_all
theorem openFault_ok {r : Room} {k : List Keep} {s : List Swap} (h : openFault r k s = 0) : checkRoom r = 0 ∧ checkSwaps r s = 0 ∧ checkKeeps r k = 0 := by
  unfold openFault at h
  by_cases h1 : orI [checkKeeps r k, checkSwaps r s] = 0
  · obtain ⟨h2, h3⟩ := orI_zero h1
    exact ⟨(checkSwaps_ok h3).1, h3, h2⟩
  · rw [if_pos (by simpa using h1)] at h; exact absurd h h1
def opened (r : Room) (k : List Keep) (s : List Swap) : List Pick := if openFault r k s != 0 then [] else open1 r k s
theorem turns_len {r : Room} {s : List Swap} (h : checkRoom r = 0) : (turns r s).length ≤ 600 := by
  obtain ⟨_, h1, _, h2, h3, _⟩ := checkRoom_ok h
  unfold turns
  rw [turnsFrom_len]
  have := Nat.mul_le_mul (show r.Rounds.toNat ≤ 30 by omega) h1
  omega
theorem keepIn_snoc (r : Room) (t : Turn) (k : List Keep) (x : Keep) : ∀ p, keepIn r t p (k ++ [x]) = (if x.Team = t.of ∧ x.Round = t.round then { keepIn r t p k with Player := x.Player, At := r.Start } else keepIn r t p k) := by
  induction k with
  | nil => intro p; simp [keepIn]
  | cons y k ih => intro p; simp only [List.cons_append, keepIn]; exact ih _
theorem openFrom_snoc (r : Room) (k : List Keep) (t : Turn) : ∀ (l : List Turn) (i : Nat), openFrom r k i (l ++ [t]) = openFrom r k i l ++ [keepIn r t ⟨(i + l.length : Nat), t.team, [], 0, false⟩ k]
  | [], i => by simp [openFrom]
  | y :: l, i => by
    simp only [List.cons_append, openFrom, openFrom_snoc r k t l (i + 1), List.length_cons]
    have : i + 1 + l.length = i + (l.length + 1) := by omega
    rw [this]
end Go.HL
