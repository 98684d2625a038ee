/- Plain functions: what the functions on turns, keeps and swaps compute; no conditions. -/
import Derived.Test.YtfeimpgcpjoilaaGreatDoorPure2
namespace Go.HL
def swapsGo (r : Room) (l : List Swap) : Nat → List Swap → Int
  | _, [] => 0
  | k, x :: t => if out x.Round 1 r.Rounds then 1 else if !(r.Teams.contains x.Of) || !(r.Teams.contains x.Team) then 8
    else if decide (0 < k) && decide (orI [cmpI x.Round (l.getD (k - 1) swap0).Round, cmpS x.Of (l.getD (k - 1) swap0).Of] ≤ 0) then 7 else swapsGo r l (k + 1) t
def checkSwaps (r : Room) (l : List Swap) : Int := if checkRoom r != 0 then checkRoom r else if 600 < l.length then 2 else swapsGo r l 0 l
def keepsGo (r : Room) (l : List Keep) : Nat → List Str → Bool → List Keep → Int
  | _, _, tw, [] => if tw then 6 else 0
  | k, kept, tw, x :: t => if !(r.Teams.contains x.Team) || !(r.Players.contains x.Player) then 8 else if out x.Round 1 r.Rounds then 1
    else if decide (0 < k) && decide (orI [cmpS x.Team (l.getD (k - 1) keep0).Team, cmpI x.Round (l.getD (k - 1) keep0).Round] ≤ 0) then 7
    else keepsGo r l (k + 1) (sadd x.Player kept) (tw || kept.contains x.Player) t
def checkKeeps (r : Room) (l : List Keep) : Int := if checkRoom r != 0 then checkRoom r else if 600 < l.length then 2 else keepsGo r l 0 [] false l
def clash (x : Keep) (y : Swap) : Bool := y.Round == x.Round && y.Of == x.Team
def clashGo (s : List Swap) : List Keep → Int
  | [] => 0
  | x :: r => if s.any (clash x) then 13 else clashGo s r
def openFault (r : Room) (k : List Keep) (s : List Swap) : Int :=
  if orI [checkKeeps r k, checkSwaps r s] != 0 then orI [checkKeeps r k, checkSwaps r s] else clashGo s k
def roundTurns (r : Room) (sw : List Swap) (round : Int) : List Turn :=
  (if backwards r.Way round then r.Teams.reverse else r.Teams).map fun t => ⟨round, t, owner round t sw⟩
def turnsFrom (r : Room) (sw : List Swap) : Nat → List Turn
  | 0 => []
  | n + 1 => turnsFrom r sw n ++ roundTurns r sw (n + 1)
def turns (r : Room) (sw : List Swap) : List Turn := turnsFrom r sw r.Rounds.toNat
theorem turnsFrom_len (r : Room) (sw : List Swap) : ∀ n, (turnsFrom r sw n).length = n * r.Teams.length
  | 0 => by simp [turnsFrom]
  | n + 1 => by
    have : (roundTurns r sw ((n : Int) + 1)).length = r.Teams.length := by unfold roundTurns; split <;> simp
    simp only [turnsFrom, List.length_append, turnsFrom_len r sw n, this, Nat.succ_mul]
def keepIn (r : Room) (t : Turn) (p : Pick) : List Keep → Pick
  | [] => p
  | x :: k => keepIn r t (if x.Team = t.of ∧ x.Round = t.round then { p with Player := x.Player, At := r.Start } else p) k
def openFrom (r : Room) (k : List Keep) : Nat → List Turn → List Pick
  | _, [] => []
  | i, t :: l => keepIn r t ⟨i, t.team, [], 0, false⟩ k :: openFrom r k (i + 1) l
def open1 (r : Room) (k : List Keep) (s : List Swap) : List Pick := openFrom r k 0 (turns r s)
theorem openFrom_len (r : Room) (k : List Keep) : ∀ (i : Nat) (l : List Turn), (openFrom r k i l).length = l.length
  | _, [] => rfl
  | i, t :: l => by simp [openFrom, openFrom_len r k (i + 1) l]

/-! what a right room is -/
theorem risingGo_sorted {l : List Str} : ∀ (k : Nat), k ≤ l.length → risingGo l k (l.drop k) = 0 → ∀ (i j : Nat) (a b : Str), k ≤ j → i + 1 = j → l[i]? = some a → l[j]? = some b → Op.bytesLess a b = true := by
  intro k hk
  generalize hm : l.length - k = m
  induction m generalizing k with
  | zero =>
    intro _ i j a b h1 h2 ha hb
    have := lt_of_get hb; omega
  | succ m ih =>
    intro h i j a b h1 h2 ha hb
    have hlt : k < l.length := by omega
    have hx := List.getElem?_eq_getElem hlt
    rw [drop_cons hx, risingGo] at h
    by_cases hkey : key l[k] = true
    · simp only [hkey, Bool.not_true, Bool.false_eq_true, if_false] at h
      by_cases hle : (decide (0 < k) && leS l[k] (l.getD (k - 1) [])) = true
      · rw [if_pos hle] at h; omega
      · rw [if_neg hle] at h
        by_cases hj : k + 1 ≤ j
        · exact ih (k + 1) (by omega) (by omega) h i j a b hj h2 ha hb
        · obtain rfl : j = k := by omega
          have h0 : 0 < j := by omega
          simp only [h0, decide_true, Bool.true_and] at hle
          have e1 : l.getD (j - 1) [] = a := by
            have : j - 1 = i := by omega
            rw [this]; simp [List.getD, ha]
          have e2 : l[j] = b := by rw [hx] at hb; simpa using hb
          rw [e1, e2, leS_iff] at hle
          simpa using hle
    · simp [hkey] at h
theorem rising1_sorted {l : List Str} (h : rising1 l = 0) : SortedS l := by
  have hadj := risingGo_sorted (l := l) 0 (Nat.zero_le _) (by simpa [rising1] using h)
  have key : ∀ (d i : Nat) (a b : Str), l[i]? = some a → l[i + d + 1]? = some b → Op.bytesLess a b = true := by
    intro d
    induction d with
    | zero => intro i a b ha hb; exact hadj i (i + 1) a b (by omega) rfl ha hb
    | succ d ih =>
      intro i a b ha hb
      have hlt := lt_of_get hb
      have hc := List.getElem?_eq_getElem (l := l) (i := i + d + 1) (by omega)
      have h1 := ih i a _ ha hc
      have h2 := hadj (i + d + 1) (i + (d + 1) + 1) _ b (by omega) (by omega) hc hb
      exact less_trans h1 h2
  refine List.pairwise_iff_getElem.2 fun i j hi hj hij => ?_
  refine key (j - i - 1) i _ _ (List.getElem?_eq_getElem hi) ?_
  have : i + (j - i - 1) + 1 = j := by omega
  rw [this]; exact List.getElem?_eq_getElem hj
theorem checkRoom_ok {r : Room} (h : checkRoom r = 0) : SortedS r.Players ∧ r.Teams.length ≤ 20 ∧ 0 < r.Teams.length ∧ 1 ≤ r.Rounds ∧ r.Rounds ≤ 30 ∧ r.Players.length ≤ 500 := by
  unfold checkRoom at h
  by_cases h1 : teamsFault r.Teams = 0
  · rw [if_neg (by simp [h1])] at h
    by_cases h2 : out r.Rounds 1 30 = true
    · rw [if_pos h2] at h; omega
    · rw [if_neg h2] at h
      by_cases h3 : out r.Way 1 3 = true
      · rw [if_pos h3] at h; omega
      · rw [if_neg h3] at h
        by_cases h4 : playersFault r.Players = 0
        · have h2' := out_f (by simpa using h2)
          unfold teamsFault at h1
          unfold playersFault at h4
          split at h4
          · omega
          · split at h1
            · omega
            · split at h1
              · omega
              · exact ⟨rising1_sorted h4, by omega, by omega, h2'.1, h2'.2, by omega⟩
        · rw [if_pos (by simpa using h4)] at h; exact absurd h h4
  · rw [if_pos (by simpa using h1)] at h; exact absurd h h1
end Go.HL
