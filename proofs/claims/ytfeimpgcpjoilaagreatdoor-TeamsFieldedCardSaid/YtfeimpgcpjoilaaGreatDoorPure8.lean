/- Plain functions: what the references on turns, keeps and swaps compute, and that it is what the program's functions compute; no conditions. -/
import Derived.Test.YtfeimpgcpjoilaaGreatDoorPure7
namespace Go.HL
open Op (bytesLess)
theorem cmpI_flip (a b : Int) : cmpI a b = -cmpI b a := by
  unfold cmpI; split <;> split <;> (try split) <;> omega
theorem cmpS_flip (a b : Str) : cmpS a b = -cmpS b a := by
  rw [cmpS_eq, cmpS_eq]
  rcases less_total a b with h | h | h
  · have hne : a ≠ b := fun e => by subst e; rw [less_irrefl] at h; cases h
    simp [h, less_asymm h, hne.symm]
  · subst h; simp [less_irrefl]
  · have hne : a ≠ b := fun e => by subst e; rw [less_irrefl] at h; cases h
    simp [h, less_asymm h, hne]
theorem orI_flip (a b : Int) : orI [-a, -b] = -orI [a, b] := by
  by_cases h1 : a = 0 <;> by_cases h2 : b = 0 <;> simp [orI, h1, h2]
theorem ord_flip (a b c d : Int) (h1 : a = -b) (h2 : c = -d) : decide (0 ≤ orI [a, c]) = decide (orI [b, d] ≤ 0) := by
  subst h1 h2; rw [orI_flip, Bool.eq_iff_iff]; simp
theorem ord_is (a c : Str) (e f : Int) : decide (0 ≤ orI [cmpI e f, cmpS a c]) = decide (orI [cmpI f e, cmpS c a] ≤ 0) := ord_flip _ _ _ _ (cmpI_flip _ _) (cmpS_flip _ _)
theorem ord_si (a c : Str) (e f : Int) : decide (0 ≤ orI [cmpS a c, cmpI e f]) = decide (orI [cmpS c a, cmpI f e] ≤ 0) := ord_flip _ _ _ _ (cmpS_flip _ _) (cmpI_flip _ _)
def refSwaps (r : Room) (l : List Swap) : Int := if 600 < l.length then 2 else swapsGo r l 0 l
def isTwice (l : List Str) : Bool := decide ((Lib.compact (sortS l)).length < l.length)
def refKeepsGo (r : Room) (l : List Keep) : Nat → List Str → List Keep → Int
  | _, who, [] => if isTwice who then 6 else 0
  | k, who, x :: t => if !(r.Teams.contains x.Team) || !(r.Players.contains x.Player) then 8 else if out x.Round 1 r.Rounds then 1
    else if decide (0 < k) && decide (orI [cmpS x.Team (l.getD (k - 1) keep0).Team, cmpI x.Round (l.getD (k - 1) keep0).Round] ≤ 0) then 7
    else refKeepsGo r l (k + 1) (who ++ [x.Player]) t
def refKeeps (r : Room) (l : List Keep) : Int := if 600 < l.length then 2 else refKeepsGo r l 0 [] l
def draftFault (r : Room) (k : List Keep) (s : List Swap) : Int := if checkRoom r != 0 then checkRoom r else orI [refKeeps r k, refSwaps r s]
def refOpenFault (r : Room) (k : List Keep) (s : List Swap) : Int := if draftFault r k s != 0 then draftFault r k s else clashGo s k
theorem clash_eq (x : Keep) (s : List Swap) : (s.any fun y => y.Round == x.Round && y.Of == x.Team) = s.any (clash x) := rfl
def tfor (r : Room) (s : List Swap) : Nat → List Str → List Turn
  | _, [] => []
  | i, t :: l => ⟨((i / r.Teams.length : Nat) : Int) + 1, t, owner (((i / r.Teams.length : Nat) : Int) + 1) t s⟩ :: tfor r s (i + 1) l
theorem tfor_len (r : Room) (s : List Swap) : ∀ (i : Nat) (l : List Str), (tfor r s i l).length = l.length
  | _, [] => rfl
  | i, _ :: l => by simp [tfor, tfor_len r s (i + 1) l]
theorem tfor_app (r : Room) (s : List Swap) : ∀ (i : Nat) (a b : List Str), tfor r s i (a ++ b) = tfor r s i a ++ tfor r s (i + a.length) b
  | i, [], b => by simp [tfor]
  | i, x :: a, b => by
    have : i + 1 + a.length = i + (a.length + 1) := by omega
    simp [tfor, tfor_app r s (i + 1) a b, this]
theorem tfor_get (r : Room) (s : List Swap) : ∀ (l : List Str) (i j : Nat) (t : Str), l[j]? = some t → (tfor r s i l)[j]? = some ⟨(((i + j) / r.Teams.length : Nat) : Int) + 1, t, owner ((((i + j) / r.Teams.length : Nat) : Int) + 1) t s⟩
  | [], i, j, t, h => by simp at h
  | x :: l, i, 0, t, h => by simp at h; subst h; simp [tfor]
  | x :: l, i, j + 1, t, h => by
    have := tfor_get r s l (i + 1) j t (by simpa using h)
    have e : i + 1 + j = i + (j + 1) := by omega
    rw [e] at this
    simpa [tfor] using this
theorem tfor_round (r : Room) (s : List Swap) (n : Nat) : ∀ (l : List Str) (i : Nat), n * r.Teams.length ≤ i → i + l.length ≤ (n + 1) * r.Teams.length → tfor r s i l = l.map fun t => ⟨(n : Int) + 1, t, owner ((n : Int) + 1) t s⟩
  | [], i, _, _ => rfl
  | t :: l, i, h1, h2 => by
    simp only [List.length_cons] at h2
    have hd : i / r.Teams.length = n := by
      rw [Nat.succ_mul] at h2
      rw [Nat.div_eq_iff (by omega)]
      constructor <;> omega
    simp only [tfor, hd, List.map_cons, tfor_round r s n l (i + 1) (by omega) (by omega)]
theorem tfor_turns (r : Room) (s : List Swap) : ∀ n, tfor r s 0 (ownFrom r n) = turnsFrom r s n
  | 0 => rfl
  | n + 1 => by
    rw [ownFrom, tfor_app, tfor_turns r s n, turnsFrom, Nat.zero_add, ownFrom_len]
    congr 1
    have hl : (if backwards r.Way ((n : Int) + 1) then r.Teams.reverse else r.Teams).length = r.Teams.length := by split <;> simp
    rw [tfor_round r s n _ _ (Nat.le_refl _) (by rw [hl, Nat.succ_mul]; omega)]
    rfl
theorem ref_turns (r : Room) (s : List Swap) : tfor r s 0 (ownTurns r) = turns r s := tfor_turns r s _
theorem tdiv_nat (a b : Nat) : ((a : Int)).tdiv (b : Int) = ((a / b : Nat) : Int) := by
  simp [Int.ofNat_tdiv]
theorem take_map_snoc {α β : Type} (f : α → β) {l : List α} {k : Nat} {x : α} (h : l[k]? = some x) : (l.take (k + 1)).map f = (l.take k).map f ++ [f x] := by
  rw [List.take_add_one, h]; simp
end Go.HL
