/- Part 2 of the proof: a program logic, contracts of functions and plain facts; no conditions. -/
import Derived.Test.YtjecenjmphpmfaaGreatDoorQCountsTurned1
import Derived.Carry
import Derived.Ground.GgzProg
import Derived.Ground.Names2Prog
import Derived.Ground.SlgmProg
import Derived.Ground.SlmcProg
import Derived.Ground.SlsfProg
import Derived.Laws.MakeOwn
import Derived.Lib.LaidTab
import Derived.Lib.SlicesCompact
import Derived.OpenShut
import Derived.Shelf.SlIter.Collect
import Derived.Shelf.SlIter.Keys
import Derived.Shelf.SlIter.Sorted
import Derived.Shelf.SlMaps.Clone
import Derived.Shelf.SlSortCmp.Insertion
import Derived.Shelf.SlSortCmp.NoneTotal
import Derived.Shelf.Slices.CompactS
import Derived.Shelf.Slices.Delete
import Derived.Shelf.Sort.Plain
import Derived.Shelf.SortM.Plain
import Derived.Shelf.SortM.SortNone
import Derived.Shelf.Strconv.Atoi
import Derived.Shelf.Strconv.Itoa3
import Derived.Shelf.Strings.Prefix
import Derived.Sort.EncStr
import Derived.Sort.Grow
import Derived.Test.YtjecenjmphpmfaaGreatDoorProg
import Derived.WideKeyRuns
import GoSem.ClaimJoined
set_option linter.unusedVariables false
set_option linter.unusedSimpArgs false
namespace Go.Proofs.YtjecenjmphpmfaaGreatDoor
set_option maxRecDepth 100000
set_option linter.unusedVariables false
set_option linter.unusedSimpArgs false
section
open Go.HL
/-- cmp.isNaN[int] -/
theorem zhU [Tracks] {n : Int}  : ConP Tryz.prog 142 [.int .i64 n] (.bool false) := by
 refine Con.of_body Tryz.func142 rfl Tryz.ntmps142 rfl rfl ?_
 refine za ?_
 refine das rfl ?_
 refine dn ?_
 refine za ?_
 refine dmv rfl ?_
 refine dmv rfl ?_
 refine dq (zai rfl rfl) ?_
 refine das rfl ?_
 refine dn ?_
 refine zk ?_
 refine zF rfl ?_
 simp

/-- cmp.Compare[int] -/
theorem zbe [Tracks] {a b : Int}  : ConP Tryz.prog 92 [.int .i64 a, .int .i64 b] (.int .i64 (zcj a b)) := by
 refine Con.of_body Tryz.func92 rfl Tryz.ntmps92 rfl rfl ?_
 refine za ?_
 refine das rfl ?_
 refine dn ?_
 refine za ?_
 refine dmv rfl ?_
 refine dq (zj zvv rfl (WeakL.refl _) zhU) ?_
 refine das rfl ?_
 refine dn ?_
 refine za ?_
 refine dmv rfl ?_
 refine dq (zj zvv rfl (WeakL.refl _) zhU) ?_
 refine das rfl ?_
 refine dn ?_
 refine zf ?_
 refine za ?_
 refine dmv rfl ?_
 refine dn ?_
 refine zeF rfl ?_
 refine zl ?_
 refine ze ?_
 refine zf ?_
 refine za ?_
 refine dmv rfl ?_
 refine dn ?_
 refine zeF rfl ?_
 refine zl ?_
 refine ze ?_
 refine zf ?_
 refine za ?_
 refine dmv rfl ?_
 refine dmv rfl ?_
 refine dq (zW rfl rfl) ?_
 refine dn ?_
 refine zi rfl (fun h1 => ?_) (fun h2 => ?_)
 ·try simp at h1
  refine za ?_
  refine das rfl ?_
  refine dn ?_
  refine zk ?_
  refine zF rfl ?_
  show HVal.int .i64 _ = _
  unfold zcj; (repeat' split) <;> first | rfl | omega
 ·try simp at h2
  refine zl ?_
  refine ze ?_
  refine zf ?_
  refine za ?_
  refine dmv rfl ?_
  refine dmv rfl ?_
  refine dq (zaf rfl rfl) ?_
  refine dn ?_
  refine zi rfl (fun h3 => ?_) (fun h4 => ?_)
  ·try simp at h3
   refine za ?_
   refine das rfl ?_
   refine dn ?_
   refine zk ?_
   refine zF rfl ?_
   show HVal.int .i64 _ = _
   unfold zcj; (repeat' split) <;> first | rfl | omega
  ·try simp at h4
   refine zl ?_
   refine ze ?_
   refine za ?_
   refine das rfl ?_
   refine dn ?_
   refine zk ?_
   refine zF rfl ?_
   show HVal.int .i64 _ = _
   unfold zcj; (repeat' split) <;> first | rfl | omega

/-- cmp.Or[int] -/
theorem zcz [Tracks] {l : List Int} (hl : l.length ≤ 1000000) : ConP Tryz.prog 90 [eIs l] (.int .i64 (orI l)) := by
 refine Con.of_body Tryz.func90 rfl Tryz.ntmps90 rfl rfl ?_
 refine za ?_
 refine das rfl ?_
 refine dn ?_
 refine za ?_
 refine das rfl ?_
 refine dn ?_
 refine zf ?_
 refine za ?_
 refine dmv rfl ?_
 refine dq (zL zaq rfl) ?_
 refine dmv rfl ?_
 refine dn ?_
 refine zn ?_
 refine zak [2, 5, 8, 9, 10, 11, 12, 13, 14, 15, 16] (fun (k : Nat) => [(8, .int .i64 k)]) (fun (k : Nat) => []) (fun (k : Nat) => k ≤ l.length ∧ (orI l = orI (l.drop k))) (fun (k : Nat) => l.length - k) (0) ?_ ?_ ?_ ?_
 ·exact ⟨Nat.zero_le _, by simp_all⟩
 ·exact ⟨rfl, trivial⟩
 ·exact List.Perm.refl _
 ·intro k hinv
  obtain ⟨hk, hg⟩ := hinv
  refine za ?_
  refine dq (zW rfl rfl) ?_
  refine dn ?_
  refine zf ?_
  refine zi rfl (fun h1 => ?_) (fun h2 => ?_)
  ·try simp at h1
   obtain ⟨x, hx⟩ : ∃ x, l[k]? = some x := ⟨_, List.getElem?_eq_getElem h1⟩
   have hdx := zX hx
   rw [hdx] at hg
   refine zl ?_
   refine ze ?_
   refine zf ?_
   refine zn ?_
   refine za ?_
   refine dq (zP zaq ty3 rfl rfl rfl (by assumption)) ?_
   refine dq (zc ty3 rfl rfl rfl) ?_
   refine das rfl ?_
   refine dn ?_
   refine za ?_
   refine dmv rfl ?_
   refine dmv rfl ?_
   refine dq (zai rfl rfl) ?_
   refine dn ?_
   refine zi rfl (fun h3 => ?_) (fun h4 => ?_)
   ·try simp at h3
    refine za ?_
    refine dmv rfl ?_
    refine das rfl ?_
    refine dn ?_
    refine zk ?_
    refine zF rfl ?_
    show HVal.int .i64 _ = _
    rw [hg]; simp_all [orI]
   ·try simp at h4
    refine zl ?_
    refine zG ?_
    refine ze ?_
    refine zB ?_
    refine dq (zC rfl rfl (by omega) (by omega)) ?_
    refine dmv rfl ?_
    refine dn ?_
    refine ⟨k + 1, ?_, ?_, ⟨rfl, trivial⟩, (by repeat (first | exact zp | refine zt rfl ?_ | refine zq rfl rfl ?_)), List.Perm.refl _⟩
    ·refine ⟨by omega, ?_⟩
     rw [hg]; simp_all [orI]
    ·dsimp only; omega
  ·try simp at h2
   have hnk : l.length ≤ k := by omega
   obtain rfl : k = l.length := by omega
   rw [zap (Nat.le_refl _)] at hg
   refine zU ?_
   refine z6 ?_
   refine zas ?_
   refine zJ ?_
   refine ze ?_
   refine za ?_
   refine dmv rfl ?_
   refine das rfl ?_
   refine dn ?_
   refine zk ?_
   refine zF rfl ?_
   show HVal.int .i64 _ = _
   rw [hg]; simp_all [orI]

/-- cmp.Or[benchwarmer/api.Errno] -/
theorem zks [Tracks] {l : List Int} (hl : l.length ≤ 1000000) : ConP Tryz.prog 17 [eIs l] (.int .i64 (orI l)) := by
 refine Con.of_body Tryz.func17 rfl Tryz.ntmps17 rfl rfl ?_
 refine za ?_
 refine das rfl ?_
 refine dn ?_
 refine za ?_
 refine das rfl ?_
 refine dn ?_
 refine zf ?_
 refine za ?_
 refine dmv rfl ?_
 refine dq (zL ziY rfl) ?_
 refine dmv rfl ?_
 refine dn ?_
 refine zn ?_
 refine zak [2, 5, 8, 9, 10, 11, 12, 13, 14, 15, 16] (fun (k : Nat) => [(8, .int .i64 k)]) (fun (k : Nat) => []) (fun (k : Nat) => k ≤ l.length ∧ (orI l = orI (l.drop k))) (fun (k : Nat) => l.length - k) (0) ?_ ?_ ?_ ?_
 ·exact ⟨Nat.zero_le _, by simp_all⟩
 ·exact ⟨rfl, trivial⟩
 ·exact List.Perm.refl _
 ·intro k hinv
  obtain ⟨hk, hg⟩ := hinv
  refine za ?_
  refine dq (zW rfl rfl) ?_
  refine dn ?_
  refine zf ?_
  refine zi rfl (fun h1 => ?_) (fun h2 => ?_)
  ·try simp at h1
   obtain ⟨x, hx⟩ : ∃ x, l[k]? = some x := ⟨_, List.getElem?_eq_getElem h1⟩
   have hdx := zX hx
   rw [hdx] at hg
   refine zl ?_
   refine ze ?_
   refine zf ?_
   refine zn ?_
   refine za ?_
   refine dq (zP ziY zlV rfl rfl rfl (by assumption)) ?_
   refine dq (zc zlV rfl rfl rfl) ?_
   refine das rfl ?_
   refine dn ?_
   refine za ?_
   refine dmv rfl ?_
   refine dmv rfl ?_
   refine dq (zai rfl rfl) ?_
   refine dn ?_
   refine zi rfl (fun h3 => ?_) (fun h4 => ?_)
   ·try simp at h3
    refine za ?_
    refine dmv rfl ?_
    refine das rfl ?_
    refine dn ?_
    refine zk ?_
    refine zF rfl ?_
    show HVal.int .i64 _ = _
    rw [hg]; simp_all [orI]
   ·try simp at h4
    refine zl ?_
    refine zG ?_
    refine ze ?_
    refine zB ?_
    refine dq (zC rfl rfl (by omega) (by omega)) ?_
    refine dmv rfl ?_
    refine dn ?_
    refine ⟨k + 1, ?_, ?_, ⟨rfl, trivial⟩, (by repeat (first | exact zp | refine zt rfl ?_ | refine zq rfl rfl ?_)), List.Perm.refl _⟩
    ·refine ⟨by omega, ?_⟩
     rw [hg]; simp_all [orI]
    ·dsimp only; omega
  ·try simp at h2
   have hnk : l.length ≤ k := by omega
   obtain rfl : k = l.length := by omega
   rw [zap (Nat.le_refl _)] at hg
   refine zU ?_
   refine z6 ?_
   refine zas ?_
   refine zJ ?_
   refine ze ?_
   refine za ?_
   refine dmv rfl ?_
   refine das rfl ?_
   refine dn ?_
   refine zk ?_
   refine zF rfl ?_
   show HVal.int .i64 _ = _
   rw [hg]; simp_all [orI]

/-- benchwarmer/base.First -/
theorem zkE [Tracks] {l : List Int} (hl : l.length ≤ 1000000) : ConP Tryz.prog 55 [eIs l] (.int .i64 (orI l)) := by
 refine Con.of_body Tryz.func55 rfl Tryz.ntmps55 rfl rfl ?_
 refine za ?_
 refine das rfl ?_
 refine dn ?_
 refine zf ?_
 refine za ?_
 refine dmv rfl ?_
 refine dq (zL ziY rfl) ?_
 refine dmv rfl ?_
 refine dn ?_
 refine zn ?_
 refine zak [2, 4, 7, 8, 9, 10, 11, 12, 13, 14] (fun (k : Nat) => [(7, .int .i64 k)]) (fun (k : Nat) => []) (fun (k : Nat) => k ≤ l.length ∧ (orI l = orI (l.drop k))) (fun (k : Nat) => l.length - k) (0) ?_ ?_ ?_ ?_
 ·exact ⟨Nat.zero_le _, by simp_all⟩
 ·exact ⟨rfl, trivial⟩
 ·exact List.Perm.refl _
 ·intro k hinv
  obtain ⟨hk, hg⟩ := hinv
  refine za ?_
  refine dq (zW rfl rfl) ?_
  refine dn ?_
  refine zf ?_
  refine zi rfl (fun h1 => ?_) (fun h2 => ?_)
  ·try simp at h1
   obtain ⟨x, hx⟩ : ∃ x, l[k]? = some x := ⟨_, List.getElem?_eq_getElem h1⟩
   have hdx := zX hx
   rw [hdx] at hg
   refine zl ?_
   refine ze ?_
   refine zf ?_
   refine zn ?_
   refine za ?_
   refine dq (zP ziY zlV rfl rfl rfl (by assumption)) ?_
   refine dq (zc zlV rfl rfl rfl) ?_
   refine das rfl ?_
   refine dn ?_
   refine za ?_
   refine dmv rfl ?_
   refine dq (zai rfl rfl) ?_
   refine dn ?_
   refine zi rfl (fun h3 => ?_) (fun h4 => ?_)
   ·try simp at h3
    refine za ?_
    refine dmv rfl ?_
    refine das rfl ?_
    refine dn ?_
    refine zk ?_
    refine zF rfl ?_
    show HVal.int .i64 _ = _
    rw [hg]; simp_all [orI]
   ·try simp at h4
    refine zl ?_
    refine zG ?_
    refine ze ?_
    refine zB ?_
    refine dq (zC rfl rfl (by omega) (by omega)) ?_
    refine dmv rfl ?_
    refine dn ?_
    refine ⟨k + 1, ?_, ?_, ⟨rfl, trivial⟩, (by repeat (first | exact zp | refine zt rfl ?_ | refine zq rfl rfl ?_)), List.Perm.refl _⟩
    ·refine ⟨by omega, ?_⟩
     rw [hg]; simp_all [orI]
    ·dsimp only; omega
  ·try simp at h2
   have hnk : l.length ≤ k := by omega
   obtain rfl : k = l.length := by omega
   rw [zap (Nat.le_refl _)] at hg
   refine zU ?_
   refine z6 ?_
   refine zas ?_
   refine zJ ?_
   refine ze ?_
   refine za ?_
   refine das rfl ?_
   refine dn ?_
   refine zk ?_
   refine zF rfl ?_
   show HVal.int .i64 _ = _
   rw [hg]; simp_all [orI]

/-- internal/bytealg.CompareString -/
theorem zfd [Tracks] {a b : Str}  : ConP Tryz.prog 141 [.str a, .str b] (.int .i64 (zaX a b)) := by
 refine Con.of_body Tryz.func141 rfl Tryz.ntmps141 rfl rfl ?_
 refine za ?_
 refine das rfl ?_
 refine dn ?_
 refine za ?_
 refine dmv rfl ?_
 refine dmv rfl ?_
 refine dq (zsx Tryz.func187 (by kernel_rfl) (by kernel_rfl) (by kernel_rfl) (by kernel_rfl) rfl rfl rfl) ?_
 refine das rfl ?_
 refine dn ?_
 refine zk ?_
 refine zF rfl ?_
 rfl

/-- strings.Compare -/
theorem zaE [Tracks] {a b : Str}  : ConP Tryz.prog 91 [.str a, .str b] (.int .i64 (zaX a b)) := by
 refine Con.of_body Tryz.func91 rfl Tryz.ntmps91 rfl rfl ?_
 refine za ?_
 refine das rfl ?_
 refine dn ?_
 refine za ?_
 refine dmv rfl ?_
 refine dmv rfl ?_
 refine dq (zj zwY rfl (WeakL.refl _) zfd) ?_
 refine das rfl ?_
 refine dn ?_
 refine zk ?_
 refine zF rfl ?_
 rfl

end
end Go.Proofs.YtjecenjmphpmfaaGreatDoor
namespace Go.HL
section
def zrB (r : Room) (l : List Swap) : Nat → List Swap → Int
 | _, [] => 0
 | k, x :: t => if out x.Round 1 r.Rounds then 1 else if !(r.Teams.contains x.Of) || !(r.Teams.contains x.Team) then 8
   else if decide (0 < k) && decide (orI [zcj x.Round (l.getD (k - 1) zu3).Round, zaX x.Of (l.getD (k - 1) zu3).Of] ≤ 0) then 7 else zrB r l (k + 1) t
def zeJ (r : Room) (l : List Swap) : Int := if zcD r != 0 then zcD r else if 600 < l.length then 2 else zrB r l 0 l
def zq4 (r : Room) (l : List Keep) : Nat → List Str → Bool → List Keep → Int
 | _, _, tw, [] => if tw then 6 else 0
 | k, kept, tw, x :: t => if !(r.Teams.contains x.Team) || !(r.Players.contains x.Player) then 8 else if out x.Round 1 r.Rounds then 1
   else if decide (0 < k) && decide (orI [zaX x.Team (l.getD (k - 1) zvy).Team, zcj x.Round (l.getD (k - 1) zvy).Round] ≤ 0) then 7
   else zq4 r l (k + 1) (zbR x.Player kept) (tw || kept.contains x.Player) t
def zgV (r : Room) (l : List Keep) : Int := if zcD r != 0 then zcD r else if 600 < l.length then 2 else zq4 r l 0 [] false l
def zxF (x : Keep) (y : Swap) : Bool := y.Round == x.Round && y.Of == x.Team
def zrf (s : List Swap) : List Keep → Int
 | [] => 0
 | x :: r => if s.any (zxF x) then 13 else zrf s r
def zgm (r : Room) (k : List Keep) (s : List Swap) : Int :=
 if orI [zgV r k, zeJ r s] != 0 then orI [zgV r k, zeJ r s] else zrf s k
def zsp (r : Room) (sw : List Swap) (round : Int) : List Turn :=
 (if ztp r.Way round then r.Teams.reverse else r.Teams).map fun t => ⟨round, t, zvw round t sw⟩
def zn5 (r : Room) (sw : List Swap) : Nat → List Turn
 | 0 => []
 | n + 1 => zn5 r sw n ++ zsp r sw (n + 1)
def zw2 (r : Room) (sw : List Swap) : List Turn := zn5 r sw r.Rounds.toNat
def zjT (r : Room) (t : Turn) (p : Pick) : List Keep → Pick
 | [] => p
 | x :: k => zjT r t (if x.Team = t.of ∧ x.Round = t.round then { p with Player := x.Player, At := r.Start } else p) k
def zgc (r : Room) (k : List Keep) : Nat → List Turn → List Pick
 | _, [] => []
 | i, t :: l => zjT r t ⟨i, t.team, [], 0, false⟩ k :: zgc r k (i + 1) l
def zkL (r : Room) (k : List Keep) (s : List Swap) : List Pick := zgc r k 0 (zw2 r s)
theorem zmk {l : List Str} : ∀ (k : Nat), k ≤ l.length → zf2 l k (l.drop k) = 0 → ∀ (i j : Nat) (a b : Str), k ≤ j → i + 1 = j → l[i]? = some a → l[j]? = some b → Op.bytesLess a b = true := by
 intro k hk
 generalize hm : l.length - k = m
 induction m generalizing k with
 | zero =>
   intro _ i j a b h1 h2 ha hb
   have := zK hb; omega
 | succ m ih =>
   intro h i j a b h1 h2 ha hb
   have hlt : k < l.length := by omega
   have hx := List.getElem?_eq_getElem hlt
   rw [zX hx, zf2] at h
   by_cases hkey : key l[k] = true
   ·simp only [hkey, Bool.not_true, Bool.false_eq_true, if_false] at h
    by_cases hle : (decide (0 < k) && leS l[k] (l.getD (k - 1) [])) = true
    ·rw [if_pos hle] at h; omega
    ·rw [if_neg hle] at h
     by_cases hj : k + 1 ≤ j
     ·exact ih (k + 1) (by omega) (by omega) h i j a b hj h2 ha hb
     ·obtain rfl : j = k := by omega
      have h0 : 0 < j := by omega
      simp only [h0, decide_true, Bool.true_and] at hle
      have e1 : l.getD (j - 1) [] = a := by
       have : j - 1 = i := by omega
       rw [this]; simp [List.getD, ha]
      have e2 : l[j] = b := by rw [hx] at hb; simpa using hb
      rw [e1, e2, zvN] at hle
      simpa using hle
   ·simp [hkey] at h
theorem znI {l : List Str} (h : znd l = 0) : SortedS l := by
 have hadj := zmk (l := l) 0 (Nat.zero_le _) (by simpa [znd] using h)
 have key : ∀ (d i : Nat) (a b : Str), l[i]? = some a → l[i + d + 1]? = some b → Op.bytesLess a b = true := by
  intro d
  induction d with
  | zero => intro i a b ha hb; exact hadj i (i + 1) a b (by omega) rfl ha hb
  | succ d ih =>
    intro i a b ha hb
    have hlt := zK hb
    have hc := List.getElem?_eq_getElem (l := l) (i := i + d + 1) (by omega)
    have h1 := ih i a _ ha hc
    have h2 := hadj (i + d + 1) (i + (d + 1) + 1) _ b (by omega) (by omega) hc hb
    exact zgP h1 h2
 refine List.pairwise_iff_getElem.2 fun i j hi hj hij => ?_
 refine key (j - i - 1) i _ _ (List.getElem?_eq_getElem hi) ?_
 have : i + (j - i - 1) + 1 = j := by omega
 rw [this]; exact List.getElem?_eq_getElem hj
theorem zqj {r : Room} (h : zcD r = 0) : SortedS r.Players ∧ r.Teams.length ≤ 20 ∧ 0 < r.Teams.length ∧ 1 ≤ r.Rounds ∧ r.Rounds ≤ 30 ∧ r.Players.length ≤ 500 := by
 unfold zcD at h
 by_cases h1 : zgQ r.Teams = 0
 ·rw [if_neg (by simp [h1])] at h
  by_cases h2 : out r.Rounds 1 30 = true
  ·rw [if_pos h2] at h; omega
  ·rw [if_neg h2] at h
   by_cases h3 : out r.Way 1 3 = true
   ·rw [if_pos h3] at h; omega
   ·rw [if_neg h3] at h
    by_cases h4 : zeD r.Players = 0
    ·have h2' := zdw (by simpa using h2)
     unfold zgQ at h1
     unfold zeD at h4
     split at h4
     ·omega
     ·split at h1
      ·omega
      ·split at h1
       ·omega
       ·exact ⟨znI h4, by omega, by omega, h2'.1, h2'.2, by omega⟩
    ·rw [if_pos (by simpa using h4)] at h; exact absurd h h4
 ·rw [if_pos (by simpa using h1)] at h; exact absurd h h1
end
section

end
section
theorem zoA {r : Room} {l : List Swap} (h : zeJ r l = 0) : zcD r = 0 ∧ l.length ≤ 600 := by
 unfold zeJ at h
 by_cases h1 : zcD r = 0
 ·rw [if_neg (by simp [h1])] at h
  split at h
  ·omega
  ·exact ⟨h1, by omega⟩
 ·rw [if_pos (by simpa using h1)] at h; exact absurd h h1
theorem zuT {a b : Int} (h : orI [a, b] = 0) : a = 0 ∧ b = 0 := by
 simp only [orI] at h
 split at h <;> simp_all
theorem zp1 {r : Room} {k : List Keep} {s : List Swap} (h : zgm r k s = 0) : zcD r = 0 ∧ zeJ r s = 0 ∧ zgV r k = 0 := by
 unfold zgm at h
 by_cases h1 : orI [zgV r k, zeJ r s] = 0
 ·obtain ⟨h2, h3⟩ := zuT h1
  exact ⟨(zoA h3).1, h3, h2⟩
 ·rw [if_pos (by simpa using h1)] at h; exact absurd h h1
end
section
def zpR (P : Program) (e : Env) : List ResultVar → List HVal → Prop
 | [], [] => True
 | .tmp t :: r, h :: l => e t = some h ∧ zpR P e r l
 | .cell a t :: r, h :: l => (∃ cs d size bytes zero, e a = some (.vptr cs 0) ∧ Fits P t d size bytes zero ∧ ((d.isAgg = false ∧ cs[0]? = some h) ∨ (d.isAgg = true ∧ size = cs.length ∧ h = .agg cs))) ∧ zpR P e r l
 | _, _ => False
def zvf : List HVal → HVal
 | [h] => h
 | l => .tup l
def RetC [Tracks] (P : Program) (rs : List ResultVar) (Q : HVal → List MObj → Prop) : Exit → Env → List MObj → Prop
 | .normal, e, M | .ret, e, M => ∃ e' M', Ghost e M e' M' ∧ ∃ l h', zpR P e' rs l ∧ Weak (zvf l) h' ∧ Q h' M'
 | _, _, _ => False
theorem zub [Tracks] {P : Program} {I : Imm} {e : Env} {tmps : Array Value} (he : EnvV I e tmps) {M : List MObj} {w : World} (hs : Sat P I M w) : ∀ (rs : List ResultVar) (l : List HVal), zpR P e rs l →
 ∃ vs : List Value, (rs.mapM (zgp tmps)).run P w = .ok vs w ∧ VL I l vs := by
 intro rs
 induction rs with
 | nil =>
   intro l h
   cases l with
   | nil => exact ⟨[], by simp, VL.nil⟩
   | cons _ _ => exact h.elim
 | cons r rs ih =>
   intro l h
   cases l with
   | nil => cases r <;> exact h.elim
   | cons x l =>
     cases r with
     | tmp t =>
       obtain ⟨h1, h2⟩ := h
       obtain ⟨vs, h3, h4⟩ := ih l h2
       obtain ⟨v, h5, h6⟩ := he t x h1
       refine ⟨v :: vs, ?_, VL.cons h6 h4⟩
       simp only [List.mapM_cons, zgp, Sem.run_bind, Sem.run_pure, Result.andThen_ok, h3]
       simp [h5]
     | cell a t =>
       obtain ⟨⟨cs, d, size, bytes, zero, h1, hf, hh⟩, h2⟩ := h
       obtain ⟨vs, h3, h4⟩ := ih l h2
       obtain ⟨v, h5, h6⟩ := he a _ h1
       obtain ⟨b, base, rc, el, fr, g1, g2, g3, g4⟩ := h6.vptr_inv
       obtain ⟨v', h7, h8⟩ := zec (I := I) (h := x) (o := base + 0) (off := 0) (base := base) hf (hs.imm _ _ g2) rfl g3 g4 (by
        rcases hh with hh | ⟨p1, p2, p3⟩
        ·exact .inl hh
        ·exact .inr ⟨p1, by omega, by rw [p2]; simpa using p3⟩)
       refine ⟨v' :: vs, ?_, VL.cons h8 h4⟩
       have hg : tmps.getD a undef = .pointer (some ⟨b, base + 0, none⟩) := by simp [h5, g1]
       simp only [List.mapM_cons, zgp, Sem.run_bind, Sem.run_pure, Result.andThen_ok, hg, asAddr, h7, h3]

theorem Con.of_bodyc [Tracks] {P : Program} {f : FuncId} {fn : Func} {c : Code} {hargs : List HVal} {M : List MObj} {Q : HVal → List MObj → Prop}
 {n : Nat} (hf : P.funcs[f]? = some fn) (hb : fn.body = some c) (hnt : fn.ntmps = n) (hn' : Nat.ble hargs.length n = true) {rs : List ResultVar} (hrs : fn.results.toList = rs) (h : HWp P n c (zu9 hargs) M (RetC P rs Q)) : Con P f hargs M Q := by
 have hn := Nat.le_of_ble_eq_true hn'
 subst hnt hrs
 intro I F w args h1 h2
 refine calls_of_wp hf hb ?_
 have hlen := h1.1
 refine wp_mono (h I F _ w rfl (by simp; omega) ?_ h2) ?_
 ·intro t x hx
  obtain ⟨v, h3, h4⟩ := h1.get hx
  have hlt : t < args.length := zK h3
  refine ⟨v, ?_, h4⟩
  rw [Array.getElem?_append_left (by simpa using hlt)]
  simpa using h3
 ·have key : ∀ (a' : Act) (w' : World), a'.defers = [] → (∃ J e M', Le I J ∧ (∃ e' M'', Ghost e M' e' M'' ∧ ∃ l h', zpR P e' fn.results.toList l ∧ Weak (zvf l) h' ∧ Q h' M'') ∧ EnvV J e a'.tmps ∧ Sat P J (M' ++ F) w') →
   a'.defers = [] ∧ ∃ v, (results fn a'.tmps).run P w' = .ok v w' ∧ (∃ v_1 h M' J, Ending.returned v = Ending.returned v_1 ∧ Le I J ∧ Q h M' ∧ V J h v_1 ∧ Sat P J (M' ++ F) w') := by
   rintro a' w' hd ⟨J, e, M', hl, ⟨e', M'', hg, l, h', hr, hw, hq⟩, he, hs⟩
   obtain ⟨J2, hl2, he2, hs2⟩ := hg J F a'.tmps w' he hs
   refine ⟨hd, ?_⟩
   obtain ⟨vs, h3, h4⟩ := zub he2 hs2 _ _ hr
   have hrun : (results fn a'.tmps).run P w' = .ok (if h : vs.length = 1 then vs[0] else .tuple vs.toArray) w' := by
    rw [zmY]
    have hm : (fn.results.mapM (zgp a'.tmps)).run P w' = .ok vs.toArray w' := by
     rw [Array.mapM_eq_mapM_toList]
     simp only [Sem.run_map, h3, Result.andThen_ok]
    simp only [Sem.run_bind, Sem.run_pure]
    rw [hm]
    simp
   refine ⟨_, hrun, _, h', M'', J2, rfl, hl.trans hl2, hq, ?_, hs2⟩
   apply hw
   match l, h4 with
   | [], h4 =>
     have : vs = [] := by have := h4.1; simpa using this
     subst this
     exact .tup (by simp) (fun j c v h _ => by simp at h)
   | [x], h4 =>
     have hl1 : vs.length = 1 := by have := h4.1; simpa using this
     match vs, hl1, h4 with
     | [v], _, h4 => exact h4.head
   | x :: y :: r, h4 =>
     have hl1 : vs.length = r.length + 2 := by have := h4.1; simpa using this
     rw [dif_neg (by omega)]
     exact .tup (by simp [hl1]) (fun j c v h1 h2 => h4.2 j c v h1 (by simpa using h2))
  rintro x a' w' ⟨p1, p2, J, e, M', p3, p4, p5, p6⟩
  cases x with
  | normal => exact key a' w' p1 ⟨J, e, M', p3, p4, p5, p6⟩
  | ret => exact key a' w' p1 ⟨J, e, M', p3, p4, p5, p6⟩
  | exit id => exact p4.elim
  | goto l => exact p4.elim
  | panic ch => exact p4.elim
  | outgrown => exact p4.elim

section
variable {P : Program} {e : Env} {dst : Option Tmp} {ty : TypeId} {pos : String} {af : Array Edge} {g : Option (Nat × Bool)} {M : List MObj} {K : HVal → List MObj → Prop}
theorem Fits.arrD [Tracks] {t : TypeId} {n el size bytes : Nat} {zero : Value} (h : Fits P t (.arr n el) size bytes zero) : P.underlying t = some (.array n el) := by
 obtain ⟨x, h1, h2⟩ := h.underlying
 cases x <;> simp [zfE] at h2
 obtain ⟨rfl, rfl⟩ := h2
 exact h1
theorem zkf [Tracks] {t el : TypeId} {n size bytes sz b2 : Nat} {zero z2 : Value} {d : TD} (hf : Fits P t (.arr n el) size bytes zero) (hel : Fits P el d sz b2 z2) {k : IntKind} {j b o : Nat} (hj : j < n) (w : World) :
 (Instr.indexAt t (.pointer (some ⟨b, o, none⟩)) (.int k (j : Int))).run P w = .ok (.pointer (some ⟨b, o + j * sz, none⟩)) w := by
 have h1 : (0 : Int) ≤ (j : Int) ∧ (j : Int) < (n : Int) := by omega
 simp [Instr.indexAt, asIntOf, run_underlying hf.arrD, h1, hel.run_sizeOf, zcb, Instr.sureAddr]
 intro h; omega
/-- An element of an array. -/
theorem zuJ [Tracks] {x y : Operand} {t el : TypeId} {n size bytes sz b2 : Nat} {zero z2 : Value} {d : TD} {cs : List HVal} {off : Nat} {k : IntKind} {i : Int} {j : Nat}
 (hf : Fits P t (.arr n el) size bytes zero) (hel : Fits P el d sz b2 z2) (hx : zA e x = some (.vptr cs off)) (hy : zA e y = some (.int k i)) (hi : i = (j : Int)) (hj : j < n) :
 POp P e ⟨dst, .indexAddr t x y, ty, pos, af, g⟩ (.vptr cs (off + j * sz)) :=
 POp.of_val fun I a w ho => by
  subst hi
  obtain ⟨b, base, rc, el, fr, h1, h2, h3, h4⟩ := (ho.one (x := x) (by simp [Op.operands]) hx).vptr_inv
  have h5 := (ho.one (x := y) (by simp [Op.operands]) hy).int_inv
  refine ⟨.pointer (some ⟨b, base + off + j * sz, none⟩), by simp [execOp, h1, h5, zkf hf hel hj], ?_⟩
  rw [Nat.add_assoc]; exact .vptr h2 h3 h4
theorem zpW [Tracks] {x y : Operand} {t el : TypeId} {n size bytes sz b2 : Nat} {zero z2 : Value} {d : TD} {b o : Nat} {k : IntKind} {i : Int} {j : Nat}
 (hf : Fits P t (.arr n el) size bytes zero) (hel : Fits P el d sz b2 z2) (hx : zA e x = some (.raw (.pointer (some ⟨b, o, none⟩)))) (hy : zA e y = some (.int k i)) (hi : i = (j : Int)) (hj : j < n) :
 POp P e ⟨dst, .indexAddr t x y, ty, pos, af, g⟩ (.raw (.pointer (some ⟨b, o + j * sz, none⟩))) :=
 POp.of_val fun I a w ho => by
  subst hi
  have h1 := (ho.one (x := x) (by simp [Op.operands]) hx).raw_inv
  have h5 := (ho.one (x := y) (by simp [Op.operands]) hy).int_inv
  exact ⟨_, by simp [execOp, h1, h5, zkf hf hel hj], .raw _ rfl⟩

theorem zoF [Tracks] {f : FuncId} {fn : Func} {args : Array Operand} {ats : Array TypeId} {x y : Operand} {s : List UInt8} {c : Int} (hf : P.funcs[f]? = some fn) (h1 : (fn.name == "runtime.NumGoroutine") = false) (h2 : fn.body.isNone = true)
 (h3 : (Extern.findNext fn).isNone = true) (h4 : Extern.find fn = some Extern.BytealgIndexByte.indexByte) (ha : args = #[x, y]) (hx : zA e x = some (.str s)) (hy : zA e y = some (.int .u8 c)) :
 POp P e ⟨dst, .call ⟨.value (.func f), args, ats⟩, ty, pos, af, g⟩ (.int .i64 (Lib.indexByte s c.toNat.toUInt8)) :=
 POp.of_val fun I a w ho => by
  subst ha
  have e1 := (ho.one (x := x) (by simp [Op.operands, Call.operands]) hx).str_inv
  have e2 := (ho.one (x := y) (by simp [Op.operands, Call.operands]) hy).int_inv
  refine ⟨_, ?_, .int _ _⟩
  have h3' : Extern.findNext fn = none := by cases h : Extern.findNext fn with | none => rfl | some _ => rw [h] at h3; simp at h3
  have hcmp : (Extern.BytealgIndexByte.indexByte #[.string ⟨s.toArray⟩, .int .u8 c]).run P w = .ok (.int .i64 (Lib.indexByte s c.toNat.toUInt8)) w := by
   have := Lib.run_indexByteString (P := P) ⟨s.toArray⟩ c w
   simpa using this
  have hev : a.eval (.func f) = .func (.func f) #[] #[] := rfl
  have hmap : (#[x, y] : Array Operand).map a.eval = #[.string ⟨s.toArray⟩, .int .u8 c] := by simp [e1, e2]
  have hargs : (#[] : Array Value) ++ #[.string ⟨s.toArray⟩, .int .u8 c] ++ #[] = #[.string ⟨s.toArray⟩, .int .u8 c] := rfl
  simp only [execOp, resolve, hev, hmap, Deferred.ofValue, invoke, callFunc, Sem.run_bind, Sem.run_pure, Result.andThen_ok, run_program, hf, h1, h2, h3', h4, Bool.false_eq_true, if_false, if_true, run_mark, hargs, hcmp]
end
end
section
def asciiSet (l : List UInt8) : List HVal := (List.range 256).map fun i => .bool (l.contains (UInt8.ofNat i))
theorem zc7 (l : List UInt8) : (asciiSet l).length = 256 := by simp [asciiSet]
theorem zjW (l : List UInt8) (c : UInt8) : (asciiSet l)[c.toNat]? = some (.bool (l.contains c)) := by
 have := c.toNat_lt
 simp [asciiSet, List.getElem?_range, this]
theorem zmZ {α : Type} (f : α → Bool) : ∀ l : List α, za5 (l.map fun i => .bool (f i)) = true
 | [] => rfl
 | x :: l => by simp only [List.map_cons, za5]; exact zmZ f l
theorem zoS (l : List UInt8) : za5 (asciiSet l) = true := zmZ _ _
theorem zqo (l : List UInt8) (c : UInt8) : zO (asciiSet l) (0 + c.toNat * 1) [.bool true] = asciiSet (l ++ [c]) := by
 have hc := c.toNat_lt
 have hl : 0 + c.toNat * 1 = c.toNat := by omega
 rw [hl]
 apply List.ext_getElem?
 intro i
 have hlen := zc7 l
 simp only [zO, List.length_singleton]
 by_cases hi : i < c.toNat
 ·rw [List.getElem?_append_left (by simp; omega), List.getElem?_append_left (by simp [hlen]; omega), List.getElem?_take_of_lt hi]
  have h256 : i < 256 := by omega
  have hne : UInt8.ofNat i ≠ c := fun h => by
   have := congrArg UInt8.toNat h
   rw [UInt8.toNat_ofNat_of_lt' (by simpa [UInt8.size] using h256)] at this; omega
  simp [asciiSet, List.getElem?_range, h256, hne]
 ·by_cases he : i = c.toNat
  ·subst he
   rw [List.getElem?_append_left (by simp [hlen]; omega), List.getElem?_append_right (by simp [hlen]; omega)]
   rw [zjW]
   simp [hlen, Nat.min_eq_left (Nat.le_of_lt hc)]
  ·rw [List.getElem?_append_right (by simp [hlen]; omega), List.getElem?_drop]
   have e1 : c.toNat + 1 + (i - ((asciiSet l).take c.toNat ++ [HVal.bool true]).length) = i := by simp [hlen]; omega
   rw [e1]
   by_cases h256 : i < 256
   ·have hne : UInt8.ofNat i ≠ c := fun h => by
     have := congrArg UInt8.toNat h
     rw [UInt8.toNat_ofNat_of_lt' (by simpa [UInt8.size] using h256)] at this; omega
    simp [asciiSet, List.getElem?_range, h256, hne]
   ·rw [List.getElem?_eq_none (by rw [zc7]; omega), List.getElem?_eq_none (by rw [zc7]; omega)]
def zdQ (p : UInt8 → Bool) (s : Str) : Str := (s.reverse.dropWhile p).reverse
theorem zg0 (p : UInt8 → Bool) (s : Str) (c : UInt8) : zdQ p (s ++ [c]) = if p c then zdQ p s else s ++ [c] := by
 unfold zdQ
 rw [List.reverse_append]
 simp only [List.reverse_cons, List.reverse_nil, List.nil_append, List.singleton_append, List.dropWhile_cons]
 split <;> simp
theorem zsW (p : UInt8 → Bool) : ∀ s : Str, (s.dropWhile p).length ≤ s.length
 | [] => Nat.le_refl _
 | x :: s => by
   rw [List.dropWhile_cons]
   split
   ·exact Nat.le_succ_of_le (zsW p s)
   ·exact Nat.le_refl _
theorem zsV (p : UInt8 → Bool) (s : Str) : (zdQ p s).length ≤ s.length := by
 unfold zdQ
 rw [List.length_reverse]
 have := zsW p s.reverse
 rwa [List.length_reverse] at this
theorem ztt (p : UInt8 → Bool) : ∀ s : Str, s.dropWhile p = [] → ∀ c ∈ s, p c = true
 | [], _, c, h => by cases h
 | x :: s, h, c, hc => by
   rw [List.dropWhile_cons] at h
   by_cases hx : p x = true
   ·rw [if_pos hx] at h
    rcases List.mem_cons.1 hc with rfl | hc
    ·exact hx
    ·exact ztt p s h c hc
   ·rw [if_neg hx] at h; cases h
theorem zt4 (p : UInt8 → Bool) (s : Str) : ((zdQ p s).dropWhile p == []) = s.all p := by
 induction s using List.reverseRecOn' with
 | nil => rfl
 | snoc s c ih =>
   rw [zg0]
   by_cases hc : p c = true
   ·rw [if_pos hc, ih]; simp [hc]
   ·rw [if_neg hc]
    have : (s ++ [c]).all p = false := by simp [hc]
    rw [this]
    cases hd : (s ++ [c]).dropWhile p with
    | nil => exact absurd (ztt _ _ hd c (by simp)) hc
    | cons _ _ => rfl
where
 List.reverseRecOn' {motive : Str → Prop} (nil : motive []) (snoc : ∀ s c, motive s → motive (s ++ [c])) (l : Str) : motive l := by
  have : ∀ n (l : Str), l.length = n → motive l := by
   intro n
   induction n with
   | zero => intro l h; rw [List.length_eq_zero_iff.1 h]; exact nil
   | succ n ih =>
     intro l h
     have hne : l ≠ [] := fun h0 => by subst h0; simp at h
     rw [← List.dropLast_concat_getLast hne]
     exact snoc _ _ (ih _ (by simp [h]))
  exact this l.length l rfl
def zg1 : Str := [97, 98, 99, 100, 101, 102, 103, 104, 105, 106, 107, 108, 109, 110, 111, 112, 113, 114, 115, 116, 117, 118, 119, 120, 121, 122, 48, 49, 50, 51, 52, 53, 54, 55, 56, 57, 45, 95]
def ziH : Str := [97, 98, 99, 100, 101, 102, 103, 104, 105, 106, 107, 108, 109, 110, 111, 112, 113, 114, 115, 116, 117, 118, 119, 120, 121, 122]
theorem ztD {p : UInt8 → Bool} (h : (List.range 256).all (fun i => p (UInt8.ofNat i)) = true) (c : UInt8) : p c = true := by
 have := List.all_eq_true.1 h c.toNat (List.mem_range.2 c.toNat_lt)
 simpa using this
theorem zuL (c : UInt8) : zg1.contains c = zgW c := by
 have := ztD (p := fun c => zg1.contains c == zgW c) (by kernel_rfl) c
 simpa using this
theorem zso (c : UInt8) : decide (0 ≤ Lib.indexByte ziH c) = (decide (97 ≤ c.toNat) && decide (c.toNat ≤ 122)) := by
 have := ztD (p := fun c => decide (0 ≤ Lib.indexByte ziH c) == (decide (97 ≤ c.toNat) && decide (c.toNat ≤ 122))) (by kernel_rfl) c
 simpa using this
theorem zrr (s : Str) : key s = ((!(out s.length 1 40) && ((zdQ (zg1.contains ·) s).dropWhile (zg1.contains ·) == [])) && decide (0 ≤ Lib.indexByte ziH (s.headD 0))) := by
 rw [zt4, zso]
 have : (fun x => zg1.contains x) = zgW := funext zuL
 rw [this]
 unfold key zgO
 cases s with
 | nil => simp [out]
 | cons x r =>
   simp only [List.headD_cons]
   have h1 : (!(out ((x :: r).length : Int) 1 40)) = decide ((x :: r).length ≤ 40) := by
    simp only [out, List.length_cons]
    rw [Bool.eq_iff_iff]; simp; omega
   rw [h1]
   have h2 : ((x :: r) != []) = true := rfl
   rw [h2]
   have hb : ∀ a b c d : Bool, (true && a && c && d && b) = (a && b && (c && d)) := by decide
   exact hb _ _ _ _
theorem zsw (n : Int) : (if out n 0 345686399999 then (1 : Int) else 0) = if zba n then 0 else 1 := by
 have : out n 0 345686399999 = !(zba n) := by
  simp only [out, zba]; rw [Bool.eq_iff_iff]; simp; try omega
 rw [this]; cases zba n <;> rfl
end
section
variable {P : Program}
open Go.Sort Go.Proofs
theorem zfj [Tracks] {I : Imm} {F : List MObj} {w : World} {b off n cap sz : Nat} {es : List HVal} (h : Sat P I (.arr (.slice (some ⟨b, off, none⟩) n cap) sz es :: F) w) :
 n = es.length ∧ ∃ rc el fr, w.heap[b]? = some (.cells rc el fr) ∧ Free fr rc.size ∧ (∀ e ∈ es, (zh e).length = sz) ∧ (es.length ≤ cap ∧ cap ≤ 9223372036854775807) ∧ off + cap * sz ≤ rc.size ∧
  (∀ (i j : Nat) (e c : HVal) (v : Value), es[i]? = some e → (zh e)[j]? = some c → rc[off + i * sz + j]? = some v → V I c v) := by
 rcases h.obj _ List.mem_cons_self with ⟨h0, _⟩ | ⟨b', off', cap', rc, el, fr, h1, h2, h3, h4, h5, h6, h7⟩
 ·cases h0
 ·cases h1
  exact ⟨rfl, rc, el, fr, h2, h3, h4, h5, h6, h7⟩
theorem zoi [Tracks] {I : Imm} {F : List MObj} {w : World} {b off n cap : Nat} {l : List (List UInt8)} (h : Sat P I (.arr (.slice (some ⟨b, off, none⟩) n cap) 1 (l.map .str) :: F) w) :
 Holds encStr w b off l.toArray ∧ b < w.heap.size ∧ l.length ≤ cap ∧ n = l.length := by
 obtain ⟨h0, rc, el, fr, h2, h3, h4, h5, h6, h7⟩ := zfj h
 simp only [List.length_map] at h0 h5
 refine ⟨fun j hj => ?_, ?_, h5.1, h0⟩
 ·have hj' : j < l.length := by simpa using hj
  have hlt : off + j < rc.size := by omega
  constructor
  ·rw [zcH h2, Array.getElem?_eq_getElem hlt]
   have hv := h7 j 0 (.str l[j]) (.str l[j]) rc[off + j] (by simp [hj']) (by simp [zh]) (by simp [Array.getElem?_eq_getElem hlt])
   rw [hv.str_inv]
   simp [hj', encStr]
  ·simp only [World.frozen?, h2]
   have := h3 (off + j) hlt
   simpa using this
 ·rcases Nat.lt_or_ge b w.heap.size with h' | h'
  ·exact h'
  ·simp [Array.getElem?_eq_none h'] at h2
theorem zrA [Tracks] {I : Imm} {F : List MObj} {w : World} {b off n cap n' k : Nat} {os : Array Obj} {l zs : List (List UInt8)} (h : Sat P I (.arr (.slice (some ⟨b, off, none⟩) n cap) 1 (l.map .str) :: F) w) (hz : zs.length = l.length) (hn : n' ≤ l.length) :
 Sat P I (.arr (.slice (some ⟨b, off, none⟩) n' cap) 1 ((zs.take n').map .str) :: F) (grow (putRow encStr (Sort.ahead w k) b off zs.toArray) os) := by
 obtain ⟨h0, rc, el, fr, h2, h3, h4, h5, h6, h7⟩ := zfj h
 simp only [List.length_map] at h0 h5
 have hlt : b < w.heap.size := by
  rcases Nat.lt_or_ge b w.heap.size with h' | h'
  ·exact h'
  ·simp [Array.getElem?_eq_none h'] at h2
 have hheap : ∀ c, c < w.heap.size → (grow (putRow encStr (Sort.ahead w k) b off zs.toArray) os).heap[c]? = (w.heap.modify b (onCells (putCells encStr off zs.toArray)))[c]? := fun c hc => by
  simp only [grow, putRow, mapBlock, Sort.ahead]
  rw [Array.getElem?_append_left (by simpa using hc)]
 refine h.change (m' := .arr (.slice (some ⟨b, off, none⟩) n' cap) 1 ((zs.take n').map .str)) (fun c hc hnc => ?_) (fun c hc => .inl hc) (by simp [MObj.blocks]) ?_ rfl rfl rfl
 ·rw [hheap c hc, Array.getElem?_modify]
  have : b ≠ c := fun hh => hnc (by subst hh; simp [MObj.blocks])
  rw [if_neg this]
 ·refine .inr ⟨b, off, cap, putCells encStr off zs.toArray rc, el, fr, ?_, ?_, ?_, ?_, ?_, ?_, ?_⟩
  ·simp [hz, Nat.min_eq_left hn]
  ·rw [hheap b hlt, Array.getElem?_modify, if_pos rfl, h2]; rfl
  ·simpa [putCells] using h3
  ·intro e he; obtain ⟨a, _, rfl⟩ := List.mem_map.1 he; simp [zh]
  ·simp; omega
  ·simpa [putCells] using h6
  ·intro i j e c v a1 a2 a3
   have hi : i < n' := by
    have := zK a1; simp at this; omega
   rw [List.getElem?_map, List.getElem?_take_of_lt hi] at a1
   cases hq : zs[i]? with
   | none => rw [hq] at a1; simp at a1
   | some s =>
     rw [hq] at a1; simp at a1; subst a1
     have hj : j = 0 := by have := zK a2; simp [zh] at this; omega
     subst hj
     simp [zh] at a2; subst a2
     have hil : i < zs.length := zK hq
     have hr : off + i * 1 + 0 < rc.size := by omega
     rw [putCells, Array.getElem?_mapIdx, Array.getElem?_eq_getElem hr, Option.map_some, if_pos ⟨by omega, by simp; omega⟩] at a3
     have e1 : off + i * 1 + 0 - off = i := by omega
     rw [e1] at a3
     have e2 : zs.toArray[i]! = s := by
      rw [getElem!_pos zs.toArray i (by simpa using hil)]
      have := List.getElem?_eq_getElem hil
      rw [hq] at this; simpa using (Option.some.inj this).symm
     rw [e2] at a3
     cases a3
     exact .str s

theorem VL.one {I : Imm} {h : HVal} {args : List Value} (hv : VL I [h] args) : ∃ v, args = [v] ∧ V I h v := by
 obtain ⟨h1, h2⟩ := hv
 match args, h1 with
 | [v], _ => exact ⟨v, rfl, h2 0 h v rfl rfl⟩

def zaQ (l : List (List UInt8)) : List (List UInt8) := l.mergeSort fun x y => decide (x ≤ y)
theorem zfl (l : List (List UInt8)) : (zaQ l).length = l.length := by simp [zaQ]

/-- A function that works on a slice of strings in place and hands on nothing. -/
theorem zv6 [Tracks] {P : Program} {f : FuncId} {l zs : List (List UInt8)} {v : Value} (hz : zs.length = l.length)
 (h1 : ∀ (b off cap : Nat) (w : World), Holds encStr w b off l.toArray → b < w.heap.size → l.length ≤ cap → Calls P f #[.slice (some ⟨b, off, none⟩) l.length cap] w fun e w' => e = .returned (.tuple #[]) ∧ ∃ n os, w' = grow (putRow encStr (Sort.ahead w n) b off zs.toArray) os)
 (h0 : l = [] → ConP P f [.slice 1 []] (.tup [])) : Con P f [.raw v] [.arr v 1 (l.map .str)] fun x M' => x = .tup [] ∧ M' = [.arr v 1 (zs.map .str)] := by
 intro I F w args ha hs
 obtain ⟨u, rfl, hu⟩ := ha.one
 obtain rfl : u = v := hu.raw_inv
 rcases hs.obj (.arr u 1 (l.map .str)) (by simp) with ⟨rfl, hn⟩ | ⟨b, off, cap, rc, el, fr, rfl, _⟩
 ·have hl : l = [] := by simpa using hn
  subst hl
  have hz0 : zs = [] := List.length_eq_zero_iff.1 hz
  subst hz0
  refine (h0 rfl I (.arr (.slice none 0 0) 1 [] :: F) w [.slice none 0 0] (VL.cons (.slice0 _ _ _) VL.nil) (by simpa using hs)).mono ?_
  rintro _ w' ⟨v, h, M', J, rfl, hle, ⟨rfl, rfl⟩, hv, hsat⟩
  exact ⟨v, _, [.arr (.slice none 0 0) 1 []], J, rfl, hle, ⟨rfl, rfl⟩, hv, by simpa using hsat⟩
 ·rw [List.length_map] at hs ⊢
  obtain ⟨g1, g2, g3, g4⟩ := zoi hs
  refine (h1 b off cap w g1 g2 g3).mono ?_
  rintro _ w' ⟨rfl, n, os, rfl⟩
  refine ⟨_, .tup [], _, I, rfl, .refl I, ⟨rfl, rfl⟩, .tup (by simp) (fun j c v h _ => by simp at h), ?_⟩
  have := zrA (n' := l.length) (k := n) (os := os) hs hz (Nat.le_refl _)
  rw [← hz, List.take_length, hz] at this
  exact this
/-- The same, where the slice comes back, cut. -/
theorem zuD [Tracks] {P : Program} {f : FuncId} {l zs : List (List UInt8)} {v : Value} (hz : zs.length ≤ l.length)
 (h1 : ∀ (b off cap : Nat) (w : World), Holds encStr w b off l.toArray → b < w.heap.size → l.length ≤ cap → Calls P f #[.slice (some ⟨b, off, none⟩) l.length cap] w fun e w' => e = .returned (.slice (some ⟨b, off, none⟩) zs.length cap) ∧ ∃ n, w' = putRow encStr (Sort.ahead w n) b off (zs ++ List.replicate (l.length - zs.length) []).toArray)
 (h0 : l = [] → ∀ w, Calls P f #[.slice none 0 0] w fun e w' => e = .returned (.slice none 0 0) ∧ w' = w) : Con P f [.raw v] [.arr v 1 (l.map .str)] fun x M' => ∃ u, x = .raw u ∧ M' = [.arr u 1 (zs.map .str)] := by
 intro I F w args ha hs
 obtain ⟨u, rfl, hu⟩ := ha.one
 obtain rfl : u = v := hu.raw_inv
 rcases hs.obj (.arr u 1 (l.map .str)) (by simp) with ⟨rfl, hn⟩ | ⟨b, off, cap, rc, el, fr, rfl, _⟩
 ·have hl : l = [] := by simpa using hn
  subst hl
  have hz0 : zs = [] := List.length_eq_zero_iff.1 (by simpa using hz)
  subst hz0
  refine (h0 rfl w).mono ?_
  rintro _ w' ⟨rfl, rfl⟩
  exact ⟨_, .raw (.slice none 0 0), _, I, rfl, .refl I, ⟨_, rfl, rfl⟩, .raw _ rfl, hs⟩
 ·rw [List.length_map] at hs ⊢
  obtain ⟨g1, g2, g3, g4⟩ := zoi hs
  refine (h1 b off cap w g1 g2 g3).mono ?_
  rintro _ w' ⟨rfl, n, rfl⟩
  refine ⟨_, .raw (.slice (some ⟨b, off, none⟩) zs.length cap), _, I, rfl, .refl I, ⟨_, rfl, rfl⟩, .raw _ rfl, ?_⟩
  have := zrA (zs := zs ++ List.replicate (l.length - zs.length) []) (n' := zs.length) (k := n) (os := #[]) hs (by simp; omega) hz
  rw [List.take_left' rfl, grow_empty] at this
  exact this
end
section
theorem znv {α : Type} [BEq α] [LawfulBEq α] [Inhabited α] [DecidableEq α] (d : Array α) (m : Nat) : (Lib.compactUpTo d m).length ≤ m := by
 unfold Lib.compactUpTo
 rw [List.length_map]
 have := List.length_filter_le (Lib.keeps d) (List.range m)
 simpa using this
theorem zsc (l : List Str) : (Lib.compact l).length ≤ l.length := znv _ _
end
section
open Op (bytesLess)
theorem zou (a b : Int) : zcj a b = -zcj b a := by
 unfold zcj; split <;> split <;> (try split) <;> omega
theorem zfr (a b : Str) : zaX a b = -zaX b a := by
 rw [ziB, ziB]
 rcases zdW a b with h | h | h
 ·have hne : a ≠ b := fun e => by subst e; rw [zbt] at h; cases h
  simp [h, zcT h, hne.symm]
 ·subst h; simp [zbt]
 ·have hne : a ≠ b := fun e => by subst e; rw [zbt] at h; cases h
  simp [h, zcT h, hne]
theorem zpA (a b : Int) : orI [-a, -b] = -orI [a, b] := by
 by_cases h1 : a = 0 <;> by_cases h2 : b = 0 <;> simp [orI, h1, h2]
end
section
section
variable {α : Type} (c : α → α → Int)
def zlG (x : α) : List α → List α
 | [] => [x]
 | y :: t => if c x y < 0 then y :: zlG x t else x :: y :: t
def zlv (x : α) (S : List α) : List α := (zlG c x S.reverse).reverse
def zaV (l : List α) : List α := l.foldl (fun S x => zlv c x S) []
theorem zrR (l : List α) (x : α) : zaV c (l ++ [x]) = zlv c x (zaV c l) := by simp [zaV, List.foldl_append]
theorem zjX (x : α) : ∀ l, (zlG c x l).Perm (x :: l)
 | [] => .refl _
 | y :: t => by
   simp only [zlG]; split
   ·exact ((zjX x t).cons y).trans (.swap _ _ _)
   ·exact .refl _
theorem ztJ (x : α) (S : List α) : (zlv c x S).Perm (x :: S) := by
 unfold zlv
 exact (List.reverse_perm _).trans ((zjX c x _).trans ((List.reverse_perm S).cons x))
theorem znb : ∀ (l S : List α), (l.foldl (fun S x => zlv c x S) S).Perm (S ++ l)
 | [], S => by simp
 | x :: l, S => by
   simp only [List.foldl_cons]
   refine (znb l _).trans ?_
   refine ((ztJ c x S).append_right l).trans ?_
   exact (List.perm_middle (a := x) (l₁ := S) (l₂ := l)).symm
theorem zbo (l : List α) : (zaV c l).Perm l := by
 have := znb c l []
 simpa [zaV] using this
theorem zcZ (l : List α) : (zaV c l).length = l.length := (zbo c l).length_eq
theorem zdk {l : List α} {x : α} : x ∈ zaV c l ↔ x ∈ l := (zbo c l).mem_iff
/-- A comparison by which things stand in one line, as far as they are in s. -/
structure Cmp (s : α → Prop) : Prop where
 flip : ∀ x y, s x → s y → (c x y < 0 ↔ 0 < c y x)
 trans : ∀ x y z, s x → s y → s z → c x y ≤ 0 → c y z ≤ 0 → c x z ≤ 0
variable {c}
theorem zlt {s : α → Prop} (hc : Cmp c s) {x : α} (hx : s x) : ∀ {l : List α}, (∀ y ∈ l, s y) → l.Pairwise (fun a b => c b a ≤ 0) → (zlG c x l).Pairwise (fun a b => c b a ≤ 0)
 | [], _, _ => by simp [zlG]
 | y :: t, hs, hp => by
   have hy := hs y (by simp)
   have ht : ∀ z ∈ t, s z := fun z hz => hs z (List.mem_cons_of_mem _ hz)
   obtain ⟨h1, h2⟩ := List.pairwise_cons.1 hp
   simp only [zlG]
   split
   ·rename_i hlt
    refine List.pairwise_cons.2 ⟨fun z hz => ?_, zlt hc hx ht h2⟩
    rcases List.mem_cons.1 ((zjX c x t).mem_iff.1 hz) with rfl | hz
    ·omega
    ·exact h1 z hz
   ·rename_i hge
    have hyx : c y x ≤ 0 := by
     have := (hc.flip x y hx hy)
     omega
    refine List.pairwise_cons.2 ⟨fun z hz => ?_, hp⟩
    rcases List.mem_cons.1 hz with rfl | hz
    ·exact hyx
    ·exact hc.trans z y x (ht z hz) hy hx (h1 z hz) hyx
theorem zqS {s : α → Prop} (hc : Cmp c s) {x : α} (hx : s x) {l : List α} (hs : ∀ y ∈ l, s y) (hp : l.Pairwise (fun a b => c a b ≤ 0)) : (zlv c x l).Pairwise (fun a b => c a b ≤ 0) := by
 unfold zlv
 rw [List.pairwise_reverse]
 exact zlt hc hx (fun y hy => hs y (List.mem_reverse.1 hy)) (List.pairwise_reverse.2 hp)
theorem zdE {s : α → Prop} (hc : Cmp c s) {l : List α} (hs : ∀ y ∈ l, s y) : (zaV c l).Pairwise (fun a b => c a b ≤ 0) := by
 have key : ∀ (n : Nat), n ≤ l.length → (zaV c (l.take n)).Pairwise (fun a b => c a b ≤ 0) := by
  intro n
  induction n with
  | zero => intro _; simp [zaV]
  | succ n ih =>
    intro hn
    have hx := List.getElem?_eq_getElem (l := l) (i := n) (by omega)
    rw [zad hx, zrR]
    exact zqS hc (hs _ (List.mem_of_getElem? hx)) (fun y hy => hs y (List.mem_of_mem_take ((zbo c _).mem_iff.1 hy))) (ih (by omega))
 have := key l.length (Nat.le_refl _)
 rwa [List.take_length] at this
/-- Where no two are alike the order is that of the things, however they came. -/
theorem zkI {s : α → Prop} (hc : Cmp c s) {l m : List α} (hs : ∀ y ∈ l, s y) (he : ∀ x y, x ∈ l → y ∈ l → c x y = 0 → x = y) (hp : l.Perm m) : zaV c l = zaV c m := by
 have hm : ∀ y ∈ m, s y := fun y hy => hs y (hp.mem_iff.2 hy)
 refine List.Perm.eq_of_pairwise (le := fun a b => c a b ≤ 0) ?_ (zdE hc hs) (zdE hc hm) ((zbo c l).trans (hp.trans (zbo c m).symm))
 intro a b ha hb h1 h2
 have ha' := (zbo c l).mem_iff.1 ha
 have hb' := hp.mem_iff.2 ((zbo c m).mem_iff.1 hb)
 refine he a b ha' hb' ?_
 have f1 := hc.flip a b (hs a ha') (hs b hb')
 have f2 := hc.flip b a (hs b hb') (hs a ha')
 omega
end
end
section
variable {P : Program}
section
variable {P : Program} {e : Env} {dst : Option Tmp} {ty : TypeId} {pos : String} {af : Array Edge} {g : Option (Nat × Bool)} {M : List MObj} {K : HVal → List MObj → Prop}
theorem zgT {α : Type} : ∀ {l : List α} {i : Nat} {x : α}, l[i]? = some x → l.Perm (x :: l.eraseIdx i)
 | [], i, x, h => by simp at h
 | y :: l, 0, x, h => by simp at h; subst h; exact .refl _
 | y :: l, i + 1, x, h => by
   have := zgT (l := l) (i := i) (x := x) (by simpa using h)
   exact (this.cons y).trans (.swap _ _ _)
/-- A call on one of the owned objects. -/
theorem zo [Tracks] {f : FuncId} {args : Array Operand} {ats : Array TypeId} {hs hs' : List HVal} {i : Nat} {m : MObj} {Q : HVal → List MObj → Prop} (hc : Callable P f) (ha : zdP e args.toList = some hs) (hw : WeakL hs hs') (hm : M[i]? = some m)
 (hp : Con P f hs' [m] Q) (hk : ∀ h M', Q h M' → K h (M' ++ M.eraseIdx i)) : EOp P e M ⟨dst, .call ⟨.value (.func f), args, ats⟩, ty, pos, af, g⟩ K :=
 za0 (M1 := [m]) hc ha hw (zgT hm) hp hk
/-- The length of an owned slice. -/
theorem zbj [Tracks] {α : Type} {f : α → HVal} {x : Operand} {t el : TypeId} {size bytes : Nat} {zero : Value} {i : Nat} {v : Value} {sz : Nat} {es : List α} (hf : Fits P t (.slice el) size bytes zero) (hx : zA e x = some (.raw v))
 (hm : M[i]? = some (.arr v sz (es.map f))) (hk : K (.int .i64 es.length) M) : EOp P e M ⟨dst, .call ⟨.builtin .len, #[x], #[t]⟩, ty, pos, af, g⟩ K := by
 refine zvT hf hx hm ?_
 rw [List.length_map]; exact hk
/-- An element of an owned slice is loaded, whole or in part, through its address. -/
theorem zbf [Tracks] {α : Type} {f : α → HVal} {x : Operand} {t : TypeId} {d : TD} {size bytes : Nat} {zero : Value} {i b off cap n sz j o : Nat} {es : List α} {y : α} (k : Nat) {h : HVal} (hf : Fits P t d size bytes zero)
 (hx : zA e x = some (.raw (.pointer (some ⟨b, o, none⟩)))) (ho' : o = off + j * sz + k) (hm : M[i]? = some (.arr (.slice (some ⟨b, off, none⟩) n cap) sz (es.map f))) (hj : es[j]? = some y)
 (hd : d.isAgg = false) (hh : (zh (f y))[k]? = some h) (hk : K h M) : EOp P e M ⟨dst, .load t x, ty, pos, af, g⟩ K :=
 zkB (j := j) (f := k) (y := f y) hf hx ho' hm (by rw [List.getElem?_map, hj]; rfl) (.inl ⟨hd, hh⟩) hk
end
section
variable {P : Program} {ops : Array Oper} {n : Nat} {K : Env → List MObj → Prop} {rest : List Oper} {e : Env} {M : List MObj} {d : Nat} {op : Op} {ty : TypeId} {pos : String} {af : Array Edge}
/-- An operation with an effect under a guard: what it brings about holds where it is not carried out as well. -/
theorem dgx [Tracks] {j : Nat} {want c : Bool} (Q : HVal → List MObj → Prop) (hd : Nat.blt d n = true) (hg : zfM ops e j want = some c) (hn : c = false → ∃ x, Q x M)
 (hp : c = true → ∃ e2, OpenTo e e2 ∧ EOp P e2 M ⟨some d, op, ty, pos, af, some (j, want)⟩ Q)
 (k : ∀ x M', Q x M' → Der P ops n K rest (upd e d (.opt c x)) M') : Der P ops n K (⟨some d, op, ty, pos, af, some (j, want)⟩ :: rest) e M :=
 ⟨fun t ht => by simp at ht; subst ht; exact zfB hd, c, hg, fun hc => by
  obtain ⟨e2, h1, h2⟩ := hp hc
  intro I F a w ho hs
  exact Oper.wp_noQ (fun _ _ ⟨v, x, M', J, h3, h4, h5, h7, h8⟩ => ⟨v, .opt c x, M', J, h3, h4, k x M' h5, .opt (fun _ => h7) (fun hf => by rw [hc] at hf; cases hf), h8⟩) (h2 I F a w (ho.open h1) hs),
  fun hc => by
   obtain ⟨x, hx⟩ := hn hc
   subst hc
   exact ⟨x, k x M hx⟩⟩
end
section
variable {P : Program} {e : Env} {dst : Option Tmp} {ty : TypeId} {pos : String} {af : Array Edge} {g : Option (Nat × Bool)}
end
end
section
abbrev pAt (b : Nat) : HVal := .raw (.pointer (some ⟨b, 0, none⟩))
/-- A stream of numbers of which a have been drawn. -/
abbrev St (b : Nat) (l : List Int) (a : Nat) : MObj := .cells b [.slice 1 (l.map (.int .i64)), .int .i64 (a : Int)]
def ze3 (x n : Int) : Int := if n < 1 then 0 else if x.tmod n < 0 then x.tmod n + n else x.tmod n
theorem zkt (x n : Int) : ∃ y : Nat, ze3 x n = (y : Int) ∧ (y : Int) < max n 1 := by
 have h : 0 ≤ ze3 x n ∧ ze3 x n < max n 1 := by
  unfold ze3
  split
  ·omega
  ·have h1 := Int.tmod_lt_of_pos x (show 0 < n by omega)
   have h2 : -n < x.tmod n := by
    have := Int.neg_lt_tmod_of_pos' x n (by omega)
    exact this
   split <;> omega
 exact ⟨(ze3 x n).toNat, by omega, by omega⟩
where
 Int.neg_lt_tmod_of_pos' (x n : Int) (h : 0 < n) : -n < x.tmod n := by
  rcases Int.le_total 0 x with hx | hx
  ·have := Int.tmod_nonneg n hx; omega
  ·have e : x.tmod n = -((-x).tmod n) := by rw [Int.neg_tmod]; simp
   have := Int.tmod_lt_of_pos (-x) h
   omega
theorem getI {L : List Int} {y : Nat} (h : (y : Int) < max (L.length : Int) 1) (h0 : 0 < L.length) : ∃ z, L[y]? = some z ∧ z ∈ L :=
 ⟨L[y]'(by omega), List.getElem?_eq_getElem _, List.getElem_mem _⟩
theorem getS {L : List Str} {y : Nat} (h : (y : Int) < max (L.length : Int) 1) (h0 : 0 < L.length) : ∃ z, L[y]? = some z ∧ z ∈ L :=
 ⟨L[y]'(by omega), List.getElem?_eq_getElem _, List.getElem_mem _⟩
theorem zuP (a b : Nat) : ((a : Int)).tmod (b : Int) = ((a % b : Nat) : Int) := by
 exact (Int.ofNat_tmod a b).symm
end
section
variable {P : Program}
open Go.Sort Go.Proofs
section
variable {P : Program} {n : Nat} {e : Env} {M : List MObj} {Q : Exit → Env → List MObj → Prop} {c c' : Code}
end
/-- Another view of the state within a region. -/
theorem zwI [Tracks] {P : Program} {ops : Array Oper} {n : Nat} {K : Env → List MObj → Prop} {rest : List Oper} {e : Env} {M M' : List MObj} (hm : M = M') (k : Der P ops n K rest e M') : Der P ops n K rest e M := hm ▸ k
/-- The header of an owned slice, with its capacity. -/
theorem zfu [Tracks] {P : Program} {n : Nat} {e : Env} {M : List MObj} {c : Code} {Q : Exit → Env → List MObj → Prop} {i : Nat} {v : Value} {sz : Nat} {es : List HVal} (hm : M[i]? = some (.arr v sz es))
 (h0 : v = .slice none 0 0 → es = [] → HWp P n c e M Q) (h1 : ∀ b off cap, v = .slice (some ⟨b, off, none⟩) es.length cap → es.length ≤ cap → HWp P n c e M Q) : HWp P n c e M Q := fun I F a w a1 a2 a3 a4 => by
 rcases a4.obj _ (List.mem_append_left _ (List.mem_of_getElem? hm)) with ⟨g1, g2⟩ | ⟨b, off, cap, rc, el, fr, g1, _, _, _, g5, _⟩
 ·exact h0 g1 g2 I F a w a1 a2 a3 a4
 ·exact h1 b off cap g1 g5.1 I F a w a1 a2 a3 a4
theorem zI [Tracks] {α : Type} {l r : List α} {x : α} (i : Nat) (h : l[i]? = some x) (hr : (l.eraseIdx i).Perm r) : l.Perm (x :: r) := (zgT h).trans (hr.cons x)
theorem zD [Tracks] {α : Type} {l r : List α} {x y : α} (i : Nat) (h : l[i]? = some y) (hy : y = x) (hr : (l.eraseIdx i).Perm r) : l.Perm (x :: r) := hy ▸ zI i h hr
theorem ze4 [Tracks] {P : Program} {f : FuncId} {hargs : List HVal} {h : HVal} (hc : ∀ (I : Imm) (w : World) (args : List Value), VL I hargs args → ∃ v, V I h v ∧ Calls P f args.toArray w fun e w' => e = .returned v ∧ w' = w) : ConP P f hargs h := by
 intro I F w args ha hs
 obtain ⟨v, hv, hcalls⟩ := hc I w args ha
 refine hcalls.mono ?_
 rintro _ w' ⟨rfl, rfl⟩
 exact ⟨v, h, [], I, rfl, .refl I, ⟨rfl, rfl⟩, hv, hs⟩
end
section

end
section
open Op (bytesLess)
/-- A list without the elements that equal the one before (p ahead of the first). -/
def zcl (p : Option Str) : List Str → List Str
 | [] => []
 | x :: r => if p = some x then zcl (some x) r else x :: zcl (some x) r
theorem zmf (x : Str) : ∀ (l : List Str) (p : Option Str), zcl p (l ++ [x]) = zcl p l ++ if (l.getLast?.or p) = some x then [] else [x]
 | [], p => by
   by_cases h : p = some x
   ·simp only [List.nil_append, zcl]
    rw [if_pos h, if_pos (by simpa using h)]
   ·simp only [List.nil_append, zcl]
    rw [if_neg h, if_neg (by simpa using h)]
 | y :: l, p => by
   have ih := zmf x l (some y)
   have e : (y :: l).getLast?.or p = l.getLast?.or (some y) := by
    cases l with
    | nil => simp
    | cons z r => simp [List.getLast?_cons_cons]; rw [List.getLast?_eq_some_getLast (by simp)]; simp
   rw [e]
   simp only [List.cons_append, zcl, ih]
   split <;> simp
theorem zhi (l : List Str) : ∀ m, m ≤ l.length → Lib.compactUpTo l.toArray m = zcl none (l.take m)
 | 0, _ => by simp [Lib.compactUpTo, zcl]
 | m + 1, h => by
   have hm : m < l.length := by omega
   have hx := List.getElem?_eq_getElem hm
   rw [Lib.compactUpTo_succ, zhi l m (by omega), zad hx, zmf]
   congr 1
   have e1 : l.toArray[m]! = l[m] := by simp [getElem!_pos, hm]
   rw [e1]
   cases m with
   | zero => simp [Lib.keeps]
   | succ m =>
     have hl : (l.take (m + 1)).getLast? = some l[m] := by
      rw [zad (List.getElem?_eq_getElem (show m < l.length by omega)), List.getLast?_append]; rfl
     have e2 : l.toArray[m]! = l[m] := by simp [getElem!_pos, show m < l.length by omega]
     rw [hl]
     simp only [Lib.keeps, e1, Nat.add_sub_cancel, e2]
     by_cases hh : l[m] = l[m + 1]
     ·simp [hh]
     ·have hh' : ¬ l[m + 1] = l[m] := fun h => hh h.symm
      simp [hh, hh']
theorem zfz (l : List Str) : Lib.compact l = zcl none l := by
 unfold Lib.compact
 rw [zhi l _ (Nat.le_refl _), List.take_length]
theorem zpy : ∀ (l : List Str) (p : Option Str), (zcl p l).length ≤ l.length
 | [], _ => Nat.le_refl _
 | x :: r, p => by
   have := zpy r (some x)
   simp only [zcl]; split <;> simp <;> omega
theorem zkl (l : List Str) : (zaQ l).Pairwise (fun x y => x ≤ y) := by
 have := List.pairwise_mergeSort (le := fun x y : Str => decide (x ≤ y)) (fun a b c h1 h2 => by
  simp only [decide_eq_true_eq] at *; exact List.le_trans h1 h2) (fun a b => by
  simp only [Bool.or_eq_true, decide_eq_true_eq]; exact List.le_total a b) l
 exact this.imp (fun h => by simpa using h)
end
section
def Sh (s : Str) : Prop := s.length ≤ 1000000
/-- The state of KeepList's loops. -/
structure KLs where
 u : Value
 out : List Keep
 lv : Value
 left : List Str
 a : Nat
structure KLok (n a : Nat) (q : KLs) : Prop where
 out : q.out.length ≤ n
 left : q.left.length ≤ 20
 ls : ∀ s ∈ q.left, Sh s
 os : ∀ x ∈ q.out, Sh x.Team ∧ Sh x.Player
 a : q.a ≤ a + 2 * n
theorem zkK : ∀ (l : List Str) (p : Option Str) (s : Str), s ∈ zcl p l → s ∈ l
 | [], _, s, h => by simp [zcl] at h
 | x :: r, p, s, h => by
   simp only [zcl] at h
   split at h
   ·exact List.mem_cons_of_mem _ (zkK r _ s h)
   ·rcases List.mem_cons.1 h with h | h
    ·subst h; simp
    ·exact List.mem_cons_of_mem _ (zkK r _ s h)
theorem zwE {l : List Str} {s : Str} (h : s ∈ Lib.compact (zaQ l)) : s ∈ l := by
 rw [zfz] at h
 have := zkK _ _ _ h
 exact (List.mergeSort_perm _ _).mem_iff.1 this
theorem KLok.add {n a : Nat} {u u' lv lv' : Value} {out : List Keep} {left : List Str} {a1 a2 k : Nat} {t p : Str} {rd : Int} (h : KLok n a ⟨u, out, lv, left, a1⟩) (h1 : a2 ≤ a1 + 2) (ht : Sh t) (hp : left[k]? = some p) :
 KLok (n + 1) a ⟨u', out ++ [⟨t, p, rd⟩], lv', left.eraseIdx k, a2⟩ :=
 ⟨by have := h.out; simp at *; omega, by have := h.left; have := List.length_eraseIdx_le left k; dsimp only at *; omega, fun s hs => h.ls s (List.mem_of_mem_eraseIdx hs), fun x hx => by
  rcases List.mem_append.1 hx with hx | hx
  ·exact h.os x hx
  ·simp at hx; subst hx; exact ⟨ht, h.ls p (List.mem_of_getElem? hp)⟩, by have := h.a; dsimp only at *; omega⟩
theorem zbS {α : Type} {l : List α} {j : Nat} {x y : α} (h : l[j]? = some y) : (l.set j x)[j]? = some x := by
 rw [List.getElem?_set_self (zK h)]
theorem zcq {α β : Type} {f : α → β} {l : List α} {j : Nat} {x : α} (h : l[j]? = some x) : (l.map f)[j]? = some (f x) := by
 rw [List.getElem?_map, h]; rfl
theorem zrM {α : Type} {l : List α} {j : Nat} {x y : α} (h : x ∈ l.set j y) : x = y ∨ x ∈ l := by
 rcases List.mem_or_eq_of_mem_set h with h | h
 ·exact .inr h
 ·exact .inl h
/-- The state of SwapList's loops: what is out, the row of teams, the draws. -/
structure SLs where
 u : Value
 out : List Swap
 row : List Str
 a : Nat
structure SLok (n a : Nat) (q : SLs) : Prop where
 out : q.out.length ≤ n
 row : q.row.length ≤ 4
 rs : ∀ s ∈ q.row, Sh s
 os : ∀ x ∈ q.out, Sh x.Of ∧ Sh x.Team
 a : q.a ≤ a + 2 * n
theorem SLok.mono {n m a : Nat} {q : SLs} (h : SLok n a q) (hm : n ≤ m) : SLok m a q :=
 ⟨by have := h.out; omega, h.row, h.rs, h.os, by have := h.a; omega⟩
theorem KLok.mono {n m a : Nat} {q : KLs} (h : KLok n a q) (hm : n ≤ m) : KLok m a q :=
 ⟨by have := h.out; omega, h.left, h.ls, h.os, by have := h.a; omega⟩
theorem SLok.add {n a : Nat} {u u' : Value} {out : List Swap} {row : List Str} {a1 a2 : Nat} {t p : Str} {rd : Int} (h : SLok n a ⟨u, out, row, a1⟩) (h1 : a2 ≤ a1 + 2) (ht : Sh t) (hp : Sh p) :
 SLok (n + 1) a ⟨u', out ++ [⟨rd, t, p⟩], row, a2⟩ :=
 ⟨by have := h.out; simp at *; omega, h.row, h.rs, fun x hx => by
  rcases List.mem_append.1 hx with hx | hx
  ·exact h.os x hx
  ·simp at hx; subst hx; exact ⟨ht, hp⟩, by have := h.a; dsimp only at *; omega⟩
end
section
open Op (bytesLess)
end
section
open Op (bytesLess)
theorem zrp {a b : Str} : zaX a b ≤ 0 ↔ bytesLess b a = false := by
 rw [ziB]
 rcases zdW a b with h | h | h
 ·simp [h, zcT h]
 ·subst h; simp [zbt]
 ·have hne : a ≠ b := fun e => by subst e; rw [zbt] at h; cases h
  simp [h, zcT h, hne]
theorem zbH {a b : Str} : zaX a b = 0 ↔ a = b := by
 rw [ziB]
 rcases zdW a b with h | h | h
 ·have hne : a ≠ b := fun e => by subst e; rw [zbt] at h; cases h
  simp [h, hne]
 ·subst h; simp [zbt]
 ·have hne : a ≠ b := fun e => by subst e; rw [zbt] at h; cases h
  simp [zcT h, hne]
theorem zfA {a b c : Str} (h1 : zaX a b ≤ 0) (h2 : zaX b c ≤ 0) : zaX a c ≤ 0 := by
 rw [zrp] at *
 rcases zdW a b with h | h | h
 ·rcases zdW b c with h' | h' | h'
  ·exact zcT (zgP h h')
  ·subst h'; exact zcT h
  ·rw [h'] at h2; cases h2
 ·subst h; exact h2
 ·rw [h] at h1; cases h1
theorem zh6 (a b : Int) : orI [a, b] = if a ≠ 0 then a else b := by
 simp only [orI]
 by_cases ha : a = 0 <;> by_cases hb : b = 0 <;> simp [ha, hb]
theorem zkM {a b : Int} : zcj a b ≤ 0 ↔ a ≤ b := by unfold zcj; split <;> (try split) <;> omega
theorem zgA {a b : Int} : zcj a b = 0 ↔ a = b := by unfold zcj; split <;> (try split) <;> omega
end
section
variable {P : Program}
section
variable {P : Program} {e : Env} {dst : Option Tmp} {ty : TypeId} {pos : String} {af : Array Edge} {g : Option (Nat × Bool)} {M : List MObj} {K : HVal → List MObj → Prop}
/-- A whole element of an owned slice is loaded. -/
theorem zg5 [Tracks] {α : Type} {f : α → HVal} {x : Operand} {t : TypeId} {d : TD} {size bytes : Nat} {zero : Value} {i b off cap n sz j o : Nat} {es : List α} {y : α} (hf : Fits P t d size bytes zero)
 (hx : zA e x = some (.raw (.pointer (some ⟨b, o, none⟩)))) (ho' : o = off + j * sz) (hm : M[i]? = some (.arr (.slice (some ⟨b, off, none⟩) n cap) sz (es.map f))) (hj : es[j]? = some y)
 (hd : d.isAgg = true) (hs : size = (zh (f y)).length) (hv : f y = .agg (zh (f y))) (hk : K (f y) M) : EOp P e M ⟨dst, .load t x, ty, pos, af, g⟩ K :=
 zkB (j := j) (f := 0) (y := f y) hf hx (by omega) hm (by rw [List.getElem?_map, hj]; rfl) (.inr ⟨hd, by omega, by rw [List.drop_zero, hs, List.take_length]; exact hv⟩) hk
/-- A whole element of an owned slice is stored. -/
theorem ze2 [Tracks] {α : Type} {f : α → HVal} {x z : Operand} {t : TypeId} {d : TD} {size bytes : Nat} {zero : Value} {i b off cap n sz j o : Nat} {es : List α} {y y' : α} (hf : Fits P t d size bytes zero)
 (hx : zA e x = some (.raw (.pointer (some ⟨b, o, none⟩)))) (ho' : o = off + j * sz) (hz : zA e z = some (f y')) (hm : M[i]? = some (.arr (.slice (some ⟨b, off, none⟩) n cap) sz (es.map f))) (hj : es[j]? = some y)
 (hok : zd0 size (f y') = true) (hfl : za5 (zh (f y')) = true) (hle : (zh (f y')).length = (zh (f y)).length)
 (hk : K .junk (M.set i (.arr (.slice (some ⟨b, off, none⟩) n cap) sz ((es.set j y').map f)))) : EOp P e M ⟨dst, .store t x z, ty, pos, af, g⟩ K := by
 have h0 := (zc8 hok).1
 refine zaU (j := j) (f := 0) (y := f y) (y' := f y') hf hx (by omega) hz hm (by rw [List.getElem?_map, hj]; rfl) hok hfl (by omega) ?_ ?_
 ·rw [zp2 hle]
 ·rw [List.map_set] at hk; exact hk
end
theorem Sat.arr_take [Tracks] {I : Imm} {F : List MObj} {w : World} {b off n cap sz m : Nat} {es : List HVal} (hm : m ≤ es.length) (h : Sat P I (.arr (.slice (some ⟨b, off, none⟩) n cap) sz es :: F) w) :
 Sat P I (.arr (.slice (some ⟨b, off, none⟩) m cap) sz (es.take m) :: F) w := by
 obtain ⟨_, rc, el, fr, h2, h3, h4, h5, h6, h7⟩ := zfj h
 refine h.change (m' := .arr (.slice (some ⟨b, off, none⟩) m cap) sz (es.take m)) (fun _ _ _ => rfl) (fun c hc => .inl hc) (by simp [MObj.blocks]) ?_ rfl rfl rfl
 have hl : (es.take m).length = m := by simp; omega
 refine .inr ⟨b, off, cap, rc, el, fr, by rw [hl], h2, h3, fun e he => h4 e (List.mem_of_mem_take he), by omega, h6, fun i j e c v a1 a2 a3 => ?_⟩
 have hi := zK a1
 rw [List.getElem?_take_of_lt (by omega)] at a1
 exact h7 i j e c v a1 a2 a3
theorem Ghost.take [Tracks] {e : Env} {M : List MObj} {b off n cap sz m : Nat} {es : List HVal} (hm : m ≤ es.length) : Ghost e (.arr (.slice (some ⟨b, off, none⟩) n cap) sz es :: M) e (.arr (.slice (some ⟨b, off, none⟩) m cap) sz (es.take m) :: M) :=
 fun _ I F tmps w h1 h2 => ⟨I, .refl I, h1, h2.arr_take hm⟩
def zhz (cap off sz lo : Nat) : Nat := if cap = lo then off else off + lo * sz
section
variable {P : Program} {e : Env} {dst : Option Tmp} {ty : TypeId} {pos : String} {af : Array Edge} {g : Option (Nat × Bool)} {M : List MObj} {K : HVal → List MObj → Prop}
/-- A slice whose header is known is cut. -/
theorem zor [Tracks] {x : Operand} {lo hi : Option Operand} {t el : TypeId} {size bytes sz b2 : Nat} {zero z2 : Value} {d : TD} {b off n cap l h : Nat}
 (hf : Fits P t (.slice el) size bytes zero) (hel : Fits P el d sz b2 z2) (hx : zA e x = some (.raw (.slice (some ⟨b, off, none⟩) n cap))) (hlo : zby e lo 0 l) (hhi : zby e hi n h) (h1 : l ≤ h) (h2 : h ≤ n) (hc : n ≤ cap) :
 POp P e ⟨dst, .slice t x lo hi none, ty, pos, af, g⟩ (.raw (.slice (some ⟨b, zhz cap off sz l, none⟩) (h - l) (cap - l))) :=
 POp.of_val fun I a w ho => by
  have h3 := (ho.one (x := x) (by simp [Op.operands]) hx).raw_inv
  have hb : (Instr.sliceBounds true n cap (Option.map a.eval lo) (Option.map a.eval hi) none).run P w = .ok (l, h, cap) w :=
   zgM (P := P) (e := e) (lo := lo) (hi := hi) (l := l) (h := h) (len := n) (cap := cap) ho (by intro y hy; simp [Op.operands, hy]) (by intro y hy; simp [Op.operands, hy]) hlo hhi h1 h2 hc true w
  refine ⟨_, ?_, .raw _ rfl⟩
  simp [execOp, Instr.sliceAt, run_underlying hf.slice, h3, Instr.slice, hb, hel.run_sizeOf, zhz]
  try (split <;> simp_all [zcb])
  try omega
/-- Cells of an owned slice behind the first m' elements are cleared: what stays are these. -/
theorem zkC [Tracks] {x : Operand} {t el : TypeId} {size bytes sz b2 : Nat} {zero z2 : Value} {d : TD} {i b off n cap m q o c2 : Nat} {es : List HVal} (m' : Nat)
 (hf : Fits P t (.slice el) size bytes zero) (hel : Fits P el d sz b2 z2) (hz : z2.cells.size = sz) (hz1 : z2.cells.toList.all Value.oneCell' = true)
 (hx : zA e x = some (.raw (.slice (some ⟨b, o, none⟩) q c2))) (ho' : q = 0 ∨ o = off + m * sz) (hm : M[i]? = some (.arr (.slice (some ⟨b, off, none⟩) n cap) sz es)) (hmq : m + q ≤ cap) (hmm : m' ≤ m) (hme : m' ≤ es.length)
 (hk : K .junk (M.set i (.arr (.slice (some ⟨b, off, none⟩) m' cap) sz (es.take m')))) : EOp P e M ⟨dst, .call ⟨.builtin .clear, #[x], #[t]⟩, ty, pos, af, g⟩ K :=
 EOp.of_run fun I F a w ho hs => by
  have h1 := (ho.one (x := x) (by simp [Op.operands, Call.operands]) hx).raw_inv
  have hp := hs.pull hm
  obtain ⟨_, rc, el', fr, h2, h3, h4, h5, h6, h7⟩ := zfj hp
  have hrun : (execOp a.eval ⟨dst, .call ⟨.builtin .clear, #[x], #[t]⟩, ty, pos, af, g⟩).run P w = ((Builtin.clear_ #[t] ty #[a.eval x]).run P w).andThen fun v w => .ok (.value v) w := by
   simp [execOp, resolve, invoke, builtin]
  rcases Nat.eq_zero_or_pos q with h0 | h0
  ·refine ⟨.tuple #[], .junk, _, w, I, ?_, .refl I, hk, .junk _, ?_⟩
   ·rw [hrun, h1, h0]
    simp [Builtin.clear_, run_underlying hf.slice]
   ·exact Sat.unpull hm (hp.arr_take hme)
  ·have hso : o = off + m * sz := by rcases ho' with h | h; omega; exact h
   have hmul : (m + q) * sz ≤ cap * sz := Nat.mul_le_mul_right _ hmq
   rw [Nat.add_mul] at hmul
   have hlen : (Builtin.zeroCells z2.cells q).toList.length = q * sz := by rw [Array.length_toList, zdG, hz]
   have hone : ∀ v ∈ (Builtin.zeroCells z2.cells q).toList, v.oneCell' = true := fun v hv => by
    simp only [Builtin.zeroCells, Array.toList_map, List.mem_map] at hv
    obtain ⟨r, hr, rfl⟩ := hv
    have hq' : r < q * z2.cells.size := by simpa using hr
    have hpos : 0 < z2.cells.size := by
     rcases Nat.eq_zero_or_pos z2.cells.size with h | h
     ·rw [h] at hq'; simp at hq'
     ·exact h
    have hlt : r % z2.cells.size < z2.cells.size := Nat.mod_lt _ hpos
    rw [getElem!_pos z2.cells _ hlt]
    exact List.all_eq_true.1 hz1 _ (by simp)
   obtain ⟨w', rc', g1, g2, g3, g4, g5, g6, g7, g8, g9⟩ := zcu (P := P) b el' fr (off + m * sz) (Builtin.zeroCells z2.cells q).toList 0 w rc h2 h3 hone (by rw [hlen]; omega)
   refine ⟨.tuple #[], .junk, _, w', I, ?_, .refl I, hk, .junk _, ?_⟩
   ·rw [hrun, h1, hso]
    obtain ⟨r, rfl⟩ : ∃ r, q = r + 1 := ⟨q - 1, by omega⟩
    simp [Builtin.clear_, run_underlying hf.slice, hel.run_zero, g1]
   ·refine Sat.unpull hm (hp.change (m' := .arr (.slice (some ⟨b, off, none⟩) m' cap) sz (es.take m')) (fun k hk hnk => g5 k (by simpa [MObj.blocks] using hnk)) (fun k hk => .inl hk) (by simp [MObj.blocks]) ?_ g7 g8 g9.1 (fun _ => Nat.le_of_eq g9.2.symm))
    have hl : (es.take m').length = m' := by simp; omega
    refine .inr ⟨b, off, cap, rc', el', fr, by rw [hl], g2, by rw [g3]; exact h3, fun e he => h4 e (List.mem_of_mem_take he), by omega, by rw [g3]; exact h6, fun p q' y c v a1 a2 a3 => ?_⟩
    have hi := zK a1
    rw [List.getElem?_take_of_lt (by omega)] at a1
    have hq := zK a2
    rw [h4 y (List.mem_of_getElem? a1)] at hq
    have hpm : (p + 1) * sz ≤ m * sz := Nat.mul_le_mul_right _ (by omega)
    rw [Nat.add_mul] at hpm
    rw [g4, if_neg (by omega)] at a3
    exact h7 p q' y c v a1 a2 a3
theorem zqP [Tracks] {I : Imm} {a : Act} {o : Oper} (ho : Opds I e a o) {lo hi : Option Operand} (hlo : ∀ x, lo = some x → x ∈ o.op.operands) (hhi : ∀ x, hi = some x → x ∈ o.op.operands)
 {len cap l h : Nat} (h1 : zby e lo 0 l) (h2 : zby e hi len h) (h3 : l ≤ h) (h4 : h ≤ cap) (b : Bool) (w : World) :
 (Instr.sliceBounds b len cap (lo.map a.eval) (hi.map a.eval) none).run P w = .ok (l, h, cap) w := by
 unfold Instr.sliceBounds
 cases lo with
 | none =>
   simp only [zby] at h1
   subst h1
   cases hi with
   | none => simp only [zby] at h2; subst h2; simp
   | some y =>
     obtain ⟨k, i, h6, rfl⟩ := h2
     have h7 := (ho.one (hhi y rfl) h6).int_inv
     simp [h7, zb5 h4]
 | some x =>
   obtain ⟨k', i', h8, rfl⟩ := h1
   have h9 := (ho.one (hlo x rfl) h8).int_inv
   cases hi with
   | none => simp only [zby] at h2; subst h2; simp [h9, zb5 h3]
   | some y =>
     obtain ⟨k, i, h6, rfl⟩ := h2
     have h7 := (ho.one (hhi y rfl) h6).int_inv
     simp [h7, h9, zb5 h4, zb5 h3]
/-- A slice whose header is known is cut, within its capacity. -/
theorem zsi [Tracks] {x : Operand} {lo hi : Option Operand} {t el : TypeId} {size bytes sz b2 : Nat} {zero z2 : Value} {d : TD} {b off n cap l h : Nat}
 (hf : Fits P t (.slice el) size bytes zero) (hel : Fits P el d sz b2 z2) (hx : zA e x = some (.raw (.slice (some ⟨b, off, none⟩) n cap))) (hlo : zby e lo 0 l) (hhi : zby e hi n h) (h1 : l ≤ h) (h2 : h ≤ cap) :
 POp P e ⟨dst, .slice t x lo hi none, ty, pos, af, g⟩ (.raw (.slice (some ⟨b, zhz cap off sz l, none⟩) (h - l) (cap - l))) :=
 POp.of_val fun I a w ho => by
  have h3 := (ho.one (x := x) (by simp [Op.operands]) hx).raw_inv
  have hb : (Instr.sliceBounds true n cap (Option.map a.eval lo) (Option.map a.eval hi) none).run P w = .ok (l, h, cap) w :=
   zqP (P := P) (e := e) (lo := lo) (hi := hi) (l := l) (h := h) (len := n) (cap := cap) ho (by intro y hy; simp [Op.operands, hy]) (by intro y hy; simp [Op.operands, hy]) hlo hhi h1 h2 true w
  refine ⟨_, ?_, .raw _ rfl⟩
  simp [execOp, Instr.sliceAt, run_underlying hf.slice, h3, Instr.slice, hb, hel.run_sizeOf, zhz]
  try (split <;> simp_all [zcb])
  try omega
/-- s[:h] -/
theorem zi3 [Tracks] {x : Operand} {hi : Option Operand} {t el : TypeId} {size bytes sz b2 : Nat} {zero z2 : Value} {d : TD} {b off n cap h : Nat}
 (hf : Fits P t (.slice el) size bytes zero) (hel : Fits P el d sz b2 z2) (hx : zA e x = some (.raw (.slice (some ⟨b, off, none⟩) n cap))) (hhi : zby e hi n h) (h2 : h ≤ cap) :
 POp P e ⟨dst, .slice t x none hi none, ty, pos, af, g⟩ (.raw (.slice (some ⟨b, off, none⟩) h cap)) := by
 have := zsi (P := P) (dst := dst) (ty := ty) (pos := pos) (af := af) (g := g) (lo := none) (l := 0) hf hel hx rfl hhi (Nat.zero_le _) h2
 have e1 : zhz cap off sz 0 = off := by unfold zhz; split <;> omega
 rwa [e1, Nat.sub_zero, Nat.sub_zero] at this
end
end
section
variable {P : Program}
open Go.ChangeShapes Go.WideShapes Go.RowKit
theorem zj7 [Tracks] {W W' : World} {J : Imm} {M : List MObj} (hl : Le (zb8 W) J) (hs : Sat P J M W') : Below W.heap.size W W' := by
 have hb : ∀ k, k < W.heap.size → W'.heap[k]? = W.heap[k]? := fun k hk => by
  have h1 : W.heap[k]? = some W.heap[k] := by simp [hk]
  rw [h1]
  exact hs.imm _ _ (hl.heap _ _ h1)
 exact {
  os := hs.os.trans hl.os
  tape := hs.tape.trans hl.tape
  output := hs.output.trans hl.output
  size := by
   rcases Nat.eq_zero_or_pos W.heap.size with h | h
   ·omega
   ·have h1 := hb (W.heap.size - 1) (by omega)
    have h2 : W.heap[W.heap.size - 1]? = some (W.heap[W.heap.size - 1]'(by omega)) := by simp
    rw [h2] at h1
    rcases Nat.lt_or_ge (W.heap.size - 1) W'.heap.size with h3 | h3
    ·omega
    ·rw [Array.getElem?_eq_none h3] at h1; cases h1
  block := hb }
theorem zra [Tracks] {W : World} (ht : TabI P (zb8 W)) : Sat P (zb8 W) [] W := ⟨fun _ _ h => h, fun _ h => by simp at h, by simp [blocks], fun _ h => by simp [blocks] at h, rfl, rfl, rfl, ht, fun _ => Nat.le_refl _⟩
theorem zpv [Tracks] {P : Program} {f : FuncId} {l : List Int} (hc : ConP P f [.slice 1 (l.map (.int .i64))] (.bool true)) {W : World} (ht : TabI P (zb8 W)) {v : Value} (hv : V (zb8 W) (.slice 1 (l.map (.int .i64))) v) :
 Calls P f #[v] W fun e W' => e = .returned (.bool true) ∧ Below W.heap.size W W' := by
 refine (hc (zb8 W) [] W [v] (VL.cons hv VL.nil) (zra ht)).mono ?_
 rintro e W' ⟨u, h, M', J, rfl, hle, ⟨rfl, rfl⟩, hV, hs⟩
 exact ⟨by rw [hV.bool_inv], zj7 hle hs⟩
theorem zwy [Tracks] {W : World} {a : Addr} {len cap : Nat} {zs : List Int} (hcell : ∀ i, i < zs.length → W.cell? (a.add i) = some (.int .i64 (zs.getD i 0))) (hl : len ≤ zs.length) (hc : len ≤ cap) :
 V (zb8 W) (.slice 1 ((zs.take len).map (.int .i64))) (.slice (some a) len cap) := by
 rcases Nat.eq_zero_or_pos len with h0 | h0
 ·subst h0; exact .slice0 _ _ _
 ·obtain ⟨b, off, rfl, hj⟩ := ints_at hcell (by omega)
  have hc0 := hj 0 (by omega)
  unfold World.cell? at hc0
  cases hh : W.heap[b]? with
  | none => rw [hh] at hc0; simp at hc0
  | some o =>
    cases o with
    | cells rc el fr =>
      have hrc : ∀ j, j < zs.length → rc[off + j]? = some (.int .i64 (zs.getD j 0)) := fun j hj' => by
       have := hj j hj'
       unfold World.cell? at this
       simpa [hh] using this
      have hlen : ((zs.take len).map (HVal.int .i64)).length = len := by simp; omega
      have hsz : off + zs.length ≤ rc.size := by
       have := hrc (zs.length - 1) (by omega)
       rcases Nat.lt_or_ge (off + (zs.length - 1)) rc.size with h3 | h3
       ·omega
       ·rw [Array.getElem?_eq_none h3] at this; cases this
      have := V.slice (I := zb8 W) (sz := 1) (es := (zs.take len).map (.int .i64)) (b := b) (off := off) (cap := cap) (rc := rc) (el := el) (fr := fr) hh
       (fun e he => by obtain ⟨n, _, rfl⟩ := List.mem_map.1 he; rfl) (by omega) (by omega) (fun i j e c v h1 h2 h3 => by
         have hi := zK h1
         rw [hlen] at hi
         rw [List.getElem?_map, List.getElem?_take_of_lt hi] at h1
         have e1 : zs[i]? = some zs[i] := List.getElem?_eq_getElem (by omega)
         rw [e1] at h1
         simp only [Option.map_some, Option.some.injEq] at h1
         subst h1
         cases j with
         | succ j => simp [zh] at h2
         | zero =>
           simp only [zh, List.getElem?_cons_zero, Option.some.injEq] at h2
           subst h2
           have h4 := hrc i (by omega)
           rw [Nat.mul_one, Nat.add_zero, h4] at h3
           simp only [Option.some.injEq] at h3
           subst h3
           have : zs.getD i 0 = zs[i] := by simp [List.getD, e1]
           rw [this]
           exact .int _ _)
      rw [hlen] at this
      exact this
    | _ => rw [hh] at hc0; simp at hc0
end
section
open Go.Sort Go.Proofs Go.RowKit
variable {P : Program}
theorem zri {w : World} {name : String} {d : DataW Unit} : ∀ {laid : List (String × DataW Unit)} {ps : List MemPlace}, DataW.LaidVars P w laid ps → ∀ (i : Nat), laid[i]? = some (name, d) →
 ∃ g t cs fuel p, P.globalNamed name = some g ∧ (P.globals[g]?).map (·.type) = some t ∧ w.var? P name = some cs ∧ DataW.trod (fun _ => ()) P w 0 (fun _ => true) false fuel t cs.toList = some (d, p)
 | [], _, _, i, h => by simp at h
 | (n, x) :: r, ps, h, 0, hi => by
   simp at hi
   obtain ⟨rfl, rfl⟩ := hi
   obtain ⟨g, t, cs, fuel, p, q, h1, h2, h3, h4, _, _⟩ := h
   exact ⟨g, t, cs, fuel, p, h1, h2, h3, h4⟩
 | (n, x) :: r, ps, h, i + 1, hi => by
   obtain ⟨g, t, cs, fuel, p, q, _, _, _, _, h5, _⟩ := h
   exact zri h5 i (by simpa using hi)
theorem zqk [Tracks] {W : World} {laid : List (String × DataW Unit)} {i g : Nat} {t e : TypeId} {n : Nat} (h : laidMet P laid W) (hi : laid[i]? = some ("internal/strconv.uint64pow10", Lib.tabData .u64 Lib.pow10Tab))
 (hg : P.globalNamed "internal/strconv.uint64pow10" = some g) (hty : (P.globals[g]?).map (·.type) = some t) (ht : P.underlying t = some (.array n e)) (he : P.underlying e = some (.int .u64)) (hce : P.cellsOf e = 1) (hct : P.cellsOf t = n)
 (hl : ∀ g, P.globalNamed "internal/bytealg.MaxLen" = some g → ∃ m, W.cell? ⟨g, 0, none⟩ = some (.int .i64 m)) : TabI P (zb8 W) := by
 refine ⟨?_, fun g hg => ?_⟩
 rotate_left
 ·obtain ⟨m, hm⟩ := hl g hg
  unfold World.cell? at hm
  cases hh : W.heap[g]? with
  | none => rw [hh] at hm; cases hm
  | some o =>
    rw [hh] at hm
    cases o with
    | cells c t fr => exact ⟨c, t, fr, m, hh, by simpa using hm⟩
    | _ => cases hm
 obtain ⟨ps, h1, _⟩ := h
 obtain ⟨g', t', cs, fuel, p, a1, a2, a3, a4⟩ := zri h1 i hi
 obtain rfl := Option.some.inj (hg.symm.trans a1)
 obtain rfl := Option.some.inj (hty.symm.trans a2)
 intro g' hg'
 obtain rfl := Option.some.inj (hg.symm.trans hg')
 have hc := Lib.cells_of_tab ht he hce hct a4
 have hv := a3
 unfold World.var? at hv
 rw [hg] at hv
 simp only [Option.bind_some] at hv
 cases hh : W.heap[g]? with
 | none => rw [hh] at hv; cases hv
 | some o =>
   cases o with
   | cells c ty fr =>
     rw [hh] at hv
     simp only [Option.some.injEq] at hv
     subst hv
     refine ⟨ty, fr, ?_⟩
     show W.heap[g]? = _
     rw [hh, ← hc]
   | _ => rw [hh] at hv; cases hv
theorem Sat.tabIs [Tracks] {I : Imm} {M : List MObj} {w : World} (hs : Sat P I M w) (hg : (P.globalNamed "internal/strconv.uint64pow10").isSome = true) : Lib.TabIs P w "internal/strconv.uint64pow10" .u64 Lib.pow10Tab := by
 obtain ⟨g, hg'⟩ := Option.isSome_iff_exists.1 hg
 obtain ⟨t, fr, h1⟩ := hs.tab.1 g hg'
 have h2 := hs.imm _ _ h1
 unfold Lib.TabIs World.var?
 rw [hg']
 simp [h2]
theorem Sat.maxLen [Tracks] {I : Imm} {M : List MObj} {w : World} (hs : Sat P I M w) {g : Nat} (hg : P.globalNamed "internal/bytealg.MaxLen" = some g) : ∃ m, w.cell? ⟨g, 0, none⟩ = some (.int .i64 m) := by
 obtain ⟨c, t, fr, m, h1, h2⟩ := hs.tab.2 g hg
 have h3 := hs.imm _ _ h1
 exact ⟨m, by rw [zcH h3]; exact h2⟩
theorem Sat.lt [Tracks] {I : Imm} {M : List MObj} {w : World} (hs : Sat P I M w) : (∀ b, (∃ o, I.heap b = some o) → b < w.heap.size) ∧ ∀ b ∈ blocks M, b < w.heap.size := by
 have key : ∀ b o, w.heap[b]? = some o → b < w.heap.size := fun b o h => by
  rcases Nat.lt_or_ge b w.heap.size with h' | h'
  ·exact h'
  ·simp [Array.getElem?_eq_none h'] at h
 refine ⟨fun b ⟨o, h⟩ => key b o (hs.imm b o h), fun b hb => ?_⟩
 simp only [blocks, List.mem_flatMap] at hb
 obtain ⟨m, hm, hb⟩ := hb
 obtain ⟨o, ho⟩ := (hs.obj m hm).lies hb
 exact key b o ho
theorem Sat.grown [Tracks] {I : Imm} {M : List MObj} {w : World} (hs : Sat P I M w) (k : Nat) (os : Array Obj) : Sat P I M (grow (w.drewN k) os) := by
 obtain ⟨h1, h2⟩ := hs.lt
 have hb : ∀ b, b < w.heap.size → (grow (w.drewN k) os).heap[b]? = w.heap[b]? := fun b hb => by
  simp only [grow, World.drewN]
  rw [Array.getElem?_append_left hb]
 exact hs.of_same (fun b hb' => hb b (h1 b hb')) (fun b hb' => hb b (h2 b hb')) rfl rfl rfl (fun _ => by simp [grow, World.drewN])
theorem zsO [Tracks] {f : FuncId} {n : Int} (hg : (P.globalNamed "internal/strconv.uint64pow10").isSome = true)
 (hc : ∀ w : World, Lib.TabIs P w "internal/strconv.uint64pow10" .u64 Lib.pow10Tab → Calls P f #[.int .i64 n] w fun e w' => e = .returned (.string ⟨(Lib.itoa n).toArray⟩) ∧ ∃ k os, w' = grow (w.drewN k) os) :
 ConP P f [.int .i64 n] (.str (Lib.itoa n)) := by
 intro I F w args ha hs
 obtain ⟨u, rfl, hu⟩ := ha.one
 obtain rfl := hu.int_inv
 refine (hc w (hs.tabIs hg)).mono ?_
 rintro e w' ⟨rfl, k, os, rfl⟩
 exact ⟨_, .str _, [], I, rfl, .refl I, ⟨rfl, rfl⟩, .str _, hs.grown k os⟩
end
section
section
variable {P : Program} {e : Env} {dst : Option Tmp} {ty : TypeId} {pos : String} {af : Array Edge} {g : Option (Nat × Bool)} {M : List MObj} {K : HVal → List MObj → Prop}
end
end
section
section
variable {P : Program} {e : Env} {dst : Option Tmp} {ty : TypeId} {pos : String} {af : Array Edge} {g : Option (Nat × Bool)} {M : List MObj} {K : HVal → List MObj → Prop}
theorem V.tup2 [Tracks] {I : Imm} {c d : HVal} {u v : Value} (h1 : V I c u) (h2 : V I d v) : V I (.tup [c, d]) (.tuple #[u, v]) :=
 .tup (by simp) (fun j c v h3 h4 => (VL.cons h1 (VL.cons h2 VL.nil)).2 j c v h3 (by simpa using h4))
theorem zqz [Tracks] {x y : Operand} {t kt et : TypeId} {size bytes s2 b2 s3 b3 : Nat} {zero z2 z3 : Value} {d : TD} {i b : Nat} {ls : List (List UInt8 × HVal)} {s : List UInt8}
 (hf : Fits P t (.map kt et) size bytes zero) (hkt : Fits P kt .str s2 b2 z2) (het : Fits P et d s3 b3 z3) (hx : zA e x = some (.raw (.map (some b)))) (hy : zA e y = some (.str s)) (hm : M[i]? = some (.map b (sk ls)))
 (hk : K (.tup [match zar s ls with | some p => p.2 | none => zbh z3, .bool (zar s ls).isSome]) M) : EOp P e M ⟨dst, .lookup t x y true, ty, pos, af, g⟩ K :=
 EOp.of_run fun I F a w ho hs => by
  have h1 := (ho.one (x := x) (by simp [Op.operands]) hx).raw_inv
  have h2 := (ho.one (x := y) (by simp [Op.operands]) hy).str_inv
  obtain ⟨es, clk, h3, h4, h5⟩ := hs.obj _ (List.mem_append_left _ (List.mem_of_getElem? hm))
  obtain ⟨h6, h7⟩ := zhk h4.1 h5
  obtain ⟨n1, n2⟩ := zhK (I := I) (s := s) es.toList ls 0 h6 h7
  cases hq : zar s ls with
  | none =>
    rw [hq] at hk
    refine ⟨.tuple #[z3, .bool false], _, M, w, I, ?_, .refl I, hk, V.tup2 (zeI I z3) (.bool _), hs⟩
    simp only [execOp, h1, h2, Instr.lookup, Sem.run_bind, run_underlying hf.mapD, Result.andThen_ok, za6 h3, Sem.run_pure, zc2 hkt.strD, Instr.findKey, run_underlying hkt.strD, n1 hq, het.run_zero]
    simp
  | some p =>
    obtain ⟨j, h⟩ := p
    rw [hq] at hk
    obtain ⟨v, g1, g2⟩ := n2 j h hq
    refine ⟨.tuple #[v, .bool true], _, M, w, I, ?_, .refl I, hk, V.tup2 g2 (.bool _), hs⟩
    simp only [execOp, h1, h2, Instr.lookup, Sem.run_bind, run_underlying hf.mapD, Result.andThen_ok, za6 h3, Sem.run_pure, zc2 hkt.strD, Instr.findKey, run_underlying hkt.strD, g1]
    simp
theorem zns {t : TypeId} {ms : Array (String × TypeId)} (hu : P.underlying t = some (.interface ms)) (w : World) : (Op.equal t .nilIface .nilIface).run P w = .ok true w := by
 have h : ∀ d, (Op.equalIn (d + 1) t .nilIface .nilIface).run P w = .ok true w := fun d => by
  simp only [Op.equalIn, Sem.run_bind, run_underlying hu, Result.andThen_ok, Sem.run_pure]
 exact h 9999
/-- No error. -/
theorem zmI [Tracks] {x : Operand} {t t' : TypeId} {ms : Array (String × TypeId)} (hu : P.underlying t = some (.interface ms)) (hx : zA e x = some (.raw .nilIface)) :
 POp P e ⟨dst, .binOp .eql t x (.const .nilIface) t', ty, pos, af, g⟩ (.bool true) :=
 POp.of_val fun I a w ho => by
  have h1 := (ho.one (x := x) (by simp [Op.operands]) hx).raw_inv
  have h2 : a.eval (.const .nilIface) = .nilIface := rfl
  exact ⟨_, by simp [execOp, h1, h2, eqGuard, binOp, zns hu], .bool _⟩
end
section
variable {P : Program}
theorem ztu [Tracks] {f : FuncId} {s : List UInt8} {n : Int} {el : TypeId} (hc : ∀ w : World, Calls P f #[.string ⟨s.toArray⟩] w fun e w' => e = .returned (.tuple #[.int .i64 n, .nilIface]) ∧ ∃ t, w' = Lib.bytesWorld w el t) :
 ConP P f [.str s] (.tup [.int .i64 n, .raw .nilIface]) := by
 intro I F w args ha hs
 obtain ⟨u, rfl, hu⟩ := ha.one
 obtain rfl := hu.str_inv
 refine (hc w).mono ?_
 rintro e w' ⟨rfl, t, rfl⟩
 refine ⟨_, .tup [.int .i64 n, .raw .nilIface], [], I, rfl, .refl I, ⟨rfl, rfl⟩, V.tup2 (.int _ _) (.raw _ rfl), ?_⟩
 obtain ⟨h1, h2⟩ := hs.lt
 have hb : ∀ b, b < w.heap.size → (Lib.bytesWorld w el t).heap[b]? = w.heap[b]? := fun b hb => Lib.bytesWorld_at_old w el t b hb
 have hf : ∀ (w : World) (a : Addr) (n : Nat), (w.freeze a n).os = w.os ∧ (w.freeze a n).output = w.output ∧ (w.freeze a n).tape = w.tape ∧ (w.freeze a n).drawn = w.drawn := fun w a n => by
  unfold World.freeze; split <;> exact ⟨rfl, rfl, rfl, rfl⟩
 exact hs.of_same (fun b hb' => hb b (h1 b hb')) (fun b hb' => hb b (h2 b hb')) (hf _ _ _).1 (hf _ _ _).2.1 (hf _ _ _).2.2.1 (fun _ => by unfold Lib.bytesWorld; rw [(hf _ _ _).2.2.2]; exact Nat.le_succ _)
end
end
section
section
variable {κ : Type} [DecidableEq κ]
def kk (ek : κ → HVal) (l : List (κ × HVal)) : List (HVal × HVal) := l.map fun p => (ek p.1, p.2)
def zbI (x : κ) : List (κ × HVal) → Option Nat
 | [] => none
 | p :: r => if x = p.1 then some 0 else (zbI x r).map (· + 1)
def klk (x : κ) : List (κ × HVal) → Option HVal
 | [] => none
 | p :: r => if x = p.1 then some p.2 else klk x r
def zc6 (x : κ) (h : HVal) : List (κ × HVal) → List (κ × HVal)
 | [] => [(x, h)]
 | p :: r => if x = p.1 then (x, h) :: r else p :: zc6 x h r
theorem zdj {x : κ} : ∀ {l : List (κ × HVal)} {j : Nat}, zbI x l = some j → ∃ h, l[j]? = some (x, h) ∧ klk x l = some h ∧ ∀ h', zc6 x h' l = l.set j (x, h')
 | [], j, h => by simp [zbI] at h
 | p :: r, j, h => by
   simp only [zbI] at h
   by_cases e : x = p.1
   ·rw [if_pos e] at h
    simp at h; subst h
    exact ⟨p.2, by simp [e], by simp [klk, e], fun h' => by simp [zc6, e]⟩
   ·rw [if_neg e] at h
    cases hr : zbI x r with
    | none => rw [hr] at h; simp at h
    | some j' =>
      rw [hr] at h; simp at h; subst h
      obtain ⟨y, h1, h2, h3⟩ := zdj hr
      exact ⟨y, by simpa using h1, by simp [klk, e, h2], fun h' => by simp [zc6, e, h3]⟩
theorem zdN {x : κ} : ∀ {l : List (κ × HVal)}, zbI x l = none → klk x l = none ∧ ∀ h', zc6 x h' l = l ++ [(x, h')]
 | [], _ => ⟨rfl, fun _ => rfl⟩
 | p :: r, h => by
   simp only [zbI] at h
   by_cases e : x = p.1
   ·rw [if_pos e] at h; simp at h
   ·rw [if_neg e] at h
    have hr : zbI x r = none := by cases hq : zbI x r with | none => rfl | some j => rw [hq] at h; simp at h
    obtain ⟨h1, h2⟩ := zdN hr
    exact ⟨by simp [klk, e, h1], fun h' => by simp [zc6, e, h2]⟩
def KNodup (l : List (κ × HVal)) : Prop := (l.map (·.1)).Nodup
theorem znO {x y : κ} {h : HVal} : ∀ {l : List (κ × HVal)}, y ∈ (zc6 x h l).map (·.1) ↔ y = x ∨ y ∈ l.map (·.1)
 | [] => by simp [zc6]
 | p :: r => by
   simp only [zc6]
   split
   ·rename_i e; subst e; simp
   ·simp only [List.map_cons, List.mem_cons, znO]
    constructor
    ·rintro (a | a | a)
     ·exact .inr (.inl a)
     ·exact .inl a
     ·exact .inr (.inr a)
    ·rintro (a | a | a)
     ·exact .inr (.inl a)
     ·exact .inl a
     ·exact .inr (.inr a)
theorem KNodup.put {x : κ} {h : HVal} : ∀ {l : List (κ × HVal)}, KNodup l → KNodup (zc6 x h l)
 | [], _ => by simp [KNodup, zc6]
 | p :: r, hn => by
   unfold KNodup at *
   simp only [List.map_cons, List.nodup_cons] at hn
   simp only [zc6]
   split
   ·rename_i e; subst e; simpa using hn
   ·rename_i e
    simp only [List.map_cons, List.nodup_cons]
    refine ⟨fun q => ?_, KNodup.put (l := r) hn.2⟩
    rcases znO.1 q with q | q
    ·exact e q.symm
    ·exact hn.1 q
structure KeyOk (P : Program) (kt : TypeId) (ek : κ → HVal) : Prop where
 check : ∀ (I : Imm) (x : κ) (v : Value) (b : Bool) (w : World), V I (ek x) v → (Instr.checkKey b 10000 kt v).run P w = .ok () w
 eq : ∀ (I : Imm) (x y : κ) (u v : Value) (w : World), V I (ek x) u → V I (ek y) v → (Op.equal kt u v).run P w = .ok (decide (x = y)) w
 find : ∀ (I : Imm) (x : κ) (v : Value) (es : List MapEntry) (w : World), V I (ek x) v → (∀ m ∈ es, ∃ y, V I (ek y) m.key) → (Instr.findKey kt v es).run P w = (Instr.findAsking kt v es).run P w
 same : ∀ (I : Imm) (x : κ) (u v : Value), V I (ek x) u → V I (ek x) v → Instr.sameBits 10000 u v = true
variable {P : Program} {kt : TypeId} {ek : κ → HVal}
theorem KeyOk.run_key (ok : KeyOk P kt ek) {I : Imm} {x : κ} {v : Value} (hv : V I (ek x) v) (w : World) (es : List MapEntry) (ls : List (κ × HVal)) (hl : es.length = ls.length)
 (hV : ∀ (j : Nat) (p : κ × HVal) (m : MapEntry), ls[j]? = some p → es[j]? = some m → V I (ek p.1) m.key ∧ V I p.2 m.val) : (Instr.findKey kt v es).run P w = (Instr.findAsking kt v es).run P w :=
 ok.find I x v es w hv fun m hm => by
  obtain ⟨j, hj⟩ := List.getElem?_of_mem hm
  have h1 := zK hj
  exact ⟨_, (hV j _ m (List.getElem?_eq_getElem (by omega)) hj).1⟩
theorem zfW (ok : KeyOk P kt ek) {I : Imm} {x : κ} {v : Value} (hv : V I (ek x) v) (w : World) : ∀ (es : List MapEntry) (ls : List (κ × HVal)) (i : Nat), es.length = ls.length →
 (∀ (j : Nat) (p : κ × HVal) (m : MapEntry), ls[j]? = some p → es[j]? = some m → V I (ek p.1) m.key ∧ V I p.2 m.val) →
 (zbI x ls = none → (Instr.findAsking kt v es i).run P w = .ok none w) ∧ ∀ j, zbI x ls = some j → ∃ m h, es[j]? = some m ∧ ls[j]? = some (x, h) ∧ V I h m.val ∧ (Instr.findAsking kt v es i).run P w = .ok (some (i + j, m.val)) w
 | [], [], i, _, _ => ⟨fun _ => by simp [Instr.findAsking], fun j h => by simp [zbI] at h⟩
 | [], _ :: _, i, hl, _ => by simp at hl
 | _ :: _, [], i, hl, _ => by simp at hl
 | m :: es, p :: ls, i, hl, hV => by
   obtain ⟨h1, h2⟩ := hV 0 p m rfl rfl
   obtain ⟨ih1, ih2⟩ := zfW ok hv w es ls (i + 1) (by simpa using hl) fun j q n a b => hV (j + 1) q n (by simpa using a) (by simpa using b)
   simp only [Instr.findAsking, Sem.run_bind, ok.eq I x p.1 v m.key w hv h1, Result.andThen_ok, zbI]
   by_cases e : x = p.1
   ·rw [if_pos e]
    simp only [e, decide_true, if_true, Sem.run_pure]
    refine ⟨fun h => by simp at h, fun j h => ?_⟩
    simp at h; subst h
    exact ⟨m, p.2, rfl, by simp, h2, by simp⟩
   ·rw [if_neg e]
    simp only [e, decide_false, Bool.false_eq_true, if_false]
    refine ⟨fun h => ih1 (by cases hq : zbI x ls with | none => rfl | some j => rw [hq] at h; simp at h), fun j h => ?_⟩
    cases hq : zbI x ls with
    | none => rw [hq] at h; simp at h
    | some j' =>
      rw [hq] at h; simp at h; subst h
      obtain ⟨n, y, g1, g2, g3, g4⟩ := ih2 j' hq
      exact ⟨n, y, by simpa using g1, by simpa using g2, g3, by rw [g4]; congr 3; omega⟩
theorem zjV {A : Type} {eA : A → HVal} {I : Imm} {ls : List (A × HVal)} {es : Array MapEntry} (hl : es.size = (kk eA ls).length)
 (hv : ∀ (i : Nat) (p : HVal × HVal) (m : MapEntry), (kk eA ls)[i]? = some p → es[i]? = some m → V I p.1 m.key ∧ V I p.2 m.val) :
 es.toList.length = ls.length ∧ ∀ (j : Nat) (p : A × HVal) (m : MapEntry), ls[j]? = some p → es.toList[j]? = some m → V I (eA p.1) m.key ∧ V I p.2 m.val := by
 refine ⟨by simpa [kk] using hl, fun j p m a b => ?_⟩
 exact hv j (eA p.1, p.2) m (by simp [kk, a]) (by simpa using b)
variable [Tracks] {e : Env} {dst : Option Tmp} {ty : TypeId} {pos : String} {af : Array Edge} {g : Option (Nat × Bool)} {M : List MObj} {K : HVal → List MObj → Prop}
theorem zqR {x y : Operand} {t et : TypeId} {size bytes s3 b3 : Nat} {zero z3 : Value} {d : TD} {i b : Nat} {ls : List (κ × HVal)} {s : κ}
 (hf : Fits P t (.map kt et) size bytes zero) (ok : KeyOk P kt ek) (het : Fits P et d s3 b3 z3) (hx : zA e x = some (.raw (.map (some b)))) (hy : zA e y = some (ek s)) (hm : M[i]? = some (.map b (kk ek ls)))
 (hk : K ((klk s ls).getD (zbh z3)) M) : EOp P e M ⟨dst, .lookup t x y false, ty, pos, af, g⟩ K :=
 EOp.of_run fun I F a w ho hs => by
  have h1 := (ho.one (x := x) (by simp [Op.operands]) hx).raw_inv
  have h2 := ho.one (x := y) (by simp [Op.operands]) hy
  obtain ⟨es, clk, h3, h4, h5⟩ := hs.obj _ (List.mem_append_left _ (List.mem_of_getElem? hm))
  obtain ⟨h6, h7⟩ := zjV h4.1 h5
  obtain ⟨n1, n2⟩ := zfW ok h2 w es.toList ls 0 h6 h7
  have hfk := ok.run_key h2 w es.toList ls h6 h7
  cases hq : zbI s ls with
  | none =>
    rw [(zdN hq).1] at hk
    refine ⟨z3, _, M, w, I, ?_, .refl I, hk, zeI I z3, hs⟩
    simp only [execOp, h1, Instr.lookup, Sem.run_bind, run_underlying hf.mapD, Result.andThen_ok, za6 h3, Sem.run_pure, ok.check I s _ _ w h2, hfk, n1 hq, het.run_zero]
    simp
  | some j =>
    obtain ⟨m, h, g1, g2, g3, g4⟩ := n2 j hq
    obtain ⟨h', g5, g6, _⟩ := zdj hq
    rw [g5] at g2; cases g2
    rw [g6] at hk
    refine ⟨m.val, _, M, w, I, ?_, .refl I, hk, g3, hs⟩
    simp only [execOp, h1, Instr.lookup, Sem.run_bind, run_underlying hf.mapD, Result.andThen_ok, za6 h3, Sem.run_pure, ok.check I s _ _ w h2, hfk, g4]
    simp
theorem zpl {x y : Operand} {t et : TypeId} {size bytes s3 b3 : Nat} {zero z3 : Value} {d : TD} {i b : Nat} {ls : List (κ × HVal)} {s : κ}
 (hf : Fits P t (.map kt et) size bytes zero) (ok : KeyOk P kt ek) (het : Fits P et d s3 b3 z3) (hx : zA e x = some (.raw (.map (some b)))) (hy : zA e y = some (ek s)) (hm : M[i]? = some (.map b (kk ek ls)))
 (hk : K (.tup [(klk s ls).getD (zbh z3), .bool (klk s ls).isSome]) M) : EOp P e M ⟨dst, .lookup t x y true, ty, pos, af, g⟩ K :=
 EOp.of_run fun I F a w ho hs => by
  have h1 := (ho.one (x := x) (by simp [Op.operands]) hx).raw_inv
  have h2 := ho.one (x := y) (by simp [Op.operands]) hy
  obtain ⟨es, clk, h3, h4, h5⟩ := hs.obj _ (List.mem_append_left _ (List.mem_of_getElem? hm))
  obtain ⟨h6, h7⟩ := zjV h4.1 h5
  obtain ⟨n1, n2⟩ := zfW ok h2 w es.toList ls 0 h6 h7
  have hfk := ok.run_key h2 w es.toList ls h6 h7
  cases hq : zbI s ls with
  | none =>
    rw [(zdN hq).1] at hk
    refine ⟨.tuple #[z3, .bool false], _, M, w, I, ?_, .refl I, hk, V.tup2 (zeI I z3) (.bool _), hs⟩
    simp only [execOp, h1, Instr.lookup, Sem.run_bind, run_underlying hf.mapD, Result.andThen_ok, za6 h3, Sem.run_pure, ok.check I s _ _ w h2, hfk, n1 hq, het.run_zero]
    simp
  | some j =>
    obtain ⟨m, h, g1, g2, g3, g4⟩ := n2 j hq
    obtain ⟨h', g5, g6, _⟩ := zdj hq
    rw [g5] at g2; cases g2
    rw [g6] at hk
    refine ⟨.tuple #[m.val, .bool true], _, M, w, I, ?_, .refl I, hk, V.tup2 g3 (.bool _), hs⟩
    simp only [execOp, h1, Instr.lookup, Sem.run_bind, run_underlying hf.mapD, Result.andThen_ok, za6 h3, Sem.run_pure, ok.check I s _ _ w h2, hfk, g4]
    simp
theorem zqA {x y z : Operand} {t et : TypeId} {size bytes : Nat} {zero : Value} {i b : Nat} {ls : List (κ × HVal)} {s : κ} {h : HVal}
 (hf : Fits P t (.map kt et) size bytes zero) (ok : KeyOk P kt ek) (hx : zA e x = some (.raw (.map (some b)))) (hy : zA e y = some (ek s)) (hz : zA e z = some h) (hm : M[i]? = some (.map b (kk ek ls)))
 (hk : K .junk (M.set i (.map b (kk ek (zc6 s h ls))))) : EOp P e M ⟨dst, .mapUpdate t x y z, ty, pos, af, g⟩ K :=
 EOp.of_skip fun I F a w ho hs => by
  have h1 := (ho.one (x := x) (by simp [Op.operands]) hx).raw_inv
  have h2 := ho.one (x := y) (by simp [Op.operands]) hy
  have h0 := ho.one (x := z) (by simp [Op.operands]) hz
  have hp := hs.pull hm
  obtain ⟨es, clk, h3, h4, h5⟩ := hp.obj _ List.mem_cons_self
  obtain ⟨h6, h7⟩ := zjV h4.1 h5
  obtain ⟨n1, n2⟩ := zfW ok h2 w es.toList ls 0 h6 h7
  have hfk := ok.run_key h2 w es.toList ls h6 h7
  have hlt : b < w.heap.size := by
   rcases Nat.lt_or_ge b w.heap.size with h' | h'
   ·exact h'
   ·simp [Array.getElem?_eq_none h'] at h3
  have hsz : es.size = ls.length := by simpa using h6
  have fin : ∀ (es' : Array MapEntry) (clk' : Nat), es'.size = (kk ek (zc6 s h ls)).length ∧ BornOk es' clk' →
   (∀ (i : Nat) (p : HVal × HVal) (m : MapEntry), (kk ek (zc6 s h ls))[i]? = some p → es'[i]? = some m → V I p.1 m.key ∧ V I p.2 m.val) →
   Sat P I (M.set i (.map b (kk ek (zc6 s h ls))) ++ F) { w with heap := w.heap.setIfInBounds b (.map es' clk') } := fun es' clk' e1 e2 => by
   refine Sat.unpull hm (hp.change (m' := .map b (kk ek (zc6 s h ls))) (fun k hk hnk => ?_) (fun k hk => .inl hk) (by simp [MObj.blocks]) ⟨es', clk', by simp [hlt], e1, e2⟩ rfl rfl rfl)
   have : k ≠ b := by simpa [MObj.blocks] using hnk
   simp [Array.getElem?_setIfInBounds_ne (Ne.symm this)]
  cases hq : zbI s ls with
  | none =>
    have hput := (zdN hq).2 h
    refine ⟨_, _, I, ?_, .refl I, hk, fin (es.push ⟨a.eval y, a.eval z, clk⟩) (clk + 1) ⟨by rw [hput]; simp [kk, hsz], h4.2.push rfl⟩ fun j p m a1 a2 => ?_⟩
    ·simp only [execOp, h1, Instr.mapUpdate, Sem.run_bind, run_underlying hf.mapD, Result.andThen_ok, za6 h3, ok.check I s _ _ w h2, hfk, n1 hq, Sem.run_pure, zdU h3]
    ·rw [hput] at a1
     simp only [kk, List.map_append, List.map_cons, List.map_nil] at a1
     by_cases hj : j < ls.length
     ·rw [List.getElem?_append_left (by simpa using hj)] at a1
      rw [Array.getElem?_push, if_neg (by omega)] at a2
      exact h5 j p m (by simpa [kk] using a1) a2
     ·rw [List.getElem?_append_right (by simp; omega)] at a1
      rw [Array.getElem?_push] at a2
      by_cases hje : j = es.size
      ·rw [if_pos hje] at a2
       simp at a2
       subst a2
       have : j - (ls.map fun p => (ek p.1, p.2)).length = 0 := by simp; omega
       rw [this] at a1
       simp at a1
       subst a1
       exact ⟨h2, h0⟩
      ·rw [if_neg hje, Array.getElem?_eq_none (by omega)] at a2
       cases a2
  | some j0 =>
    obtain ⟨m0, h', g1, g2, g3, g4⟩ := n2 j0 hq
    obtain ⟨_, _, _, hput⟩ := zdj hq
    have hm0 : es[j0]? = some m0 := by simpa using g1
    have hjl := zK g2
    have hkey := (h7 j0 (s, h') m0 g2 g1).1
    refine ⟨_, _, I, ?_, .refl I, hk, fin (es.modify j0 fun e => { e with key := a.eval y, val := a.eval z }) clk ⟨by rw [hput]; simp [kk, hsz], h4.2.modify _ fun _ => rfl⟩ fun j p m a1 a2 => ?_⟩
    ·have hstay : (Instr.keyThatStays (((es[j0]?).map (·.key)).getD (a.eval y)) (a.eval y)).run P w = .ok (a.eval y) w := by
      rw [hm0]
      simp only [Option.map_some, Option.getD_some, Instr.keyThatStays]
      rw [if_pos (ok.same I s _ _ hkey h2)]; rfl
     simp only [execOp, h1, Instr.mapUpdate, Sem.run_bind, run_underlying hf.mapD, Result.andThen_ok, za6 h3, ok.check I s _ _ w h2, hfk, g4, Sem.run_pure, Nat.zero_add, hstay, zdU h3]
    ·rw [hput] at a1
     simp only [kk] at a1
     rw [Array.getElem?_modify] at a2
     rw [List.getElem?_map, List.getElem?_set] at a1
     by_cases hj : j0 = j
     ·subst hj
      rw [if_pos rfl, hm0] at a2
      rw [if_pos rfl, if_pos hjl] at a1
      simp at a1 a2
      subst a1 a2
      exact ⟨h2, h0⟩
     ·rw [if_neg hj] at a1 a2
      exact h5 j p m (by simp only [kk, List.getElem?_map]; exact a1) a2
end
end
section
def zi6 : List HVal → Bool
 | [] => true
 | .int _ _ :: r => zi6 r
 | .str _ :: r => zi6 r
 | .bool _ :: r => zi6 r
 | _ => false
theorem zpg : ∀ {cs : List HVal} {j : Nat} {c : HVal}, zi6 cs = true → cs[j]? = some c → (∃ k n, c = .int k n) ∨ (∃ s, c = .str s) ∨ ∃ b, c = .bool b
 | [], j, c, _, h => by simp at h
 | x :: r, 0, c, hs, h => by
   simp at h; subst h
   cases x <;> simp [zi6] at hs
   ·exact .inr (.inr ⟨_, rfl⟩)
   ·exact .inl ⟨_, _, rfl⟩
   ·exact .inr (.inl ⟨_, rfl⟩)
 | x :: r, j + 1, c, hs, h => by
   simp at h
   cases x <;> simp [zi6] at hs <;> exact zpg hs h
theorem znU {I : Imm} {cs : List HVal} {xs ys : List Value} (hs : zi6 cs = true) (hx : VL I cs xs) (hy : VL I cs ys) : xs = ys ∧ ∀ v ∈ xs, ∀ n, Instr.sameBits n v v = true := by
 have key : ∀ (j : Nat) (u v : Value), xs[j]? = some u → ys[j]? = some v → u = v ∧ ∀ n, Instr.sameBits n u u = true := fun j u v h1 h2 => by
  have hj : j < cs.length := by rw [← hx.1]; exact zK h1
  have hc := List.getElem?_eq_getElem hj
  have hu := hx.2 j _ u hc h1
  have hv := hy.2 j _ v hc h2
  rcases zpg hs hc with ⟨k, n, e⟩ | ⟨s, e⟩ | ⟨b, e⟩
  ·rw [e] at hu hv
   haveI : Tracks := ⟨true⟩
   rw [hu.int_inv, hv.int_inv]; exact ⟨rfl, fun m => by cases m <;> simp [Instr.sameBits]⟩
  ·rw [e] at hu hv
   haveI : Tracks := ⟨true⟩
   rw [hu.str_inv, hv.str_inv]; exact ⟨rfl, fun m => by cases m <;> simp [Instr.sameBits, zkd]⟩
  ·rw [e] at hu hv
   haveI : Tracks := ⟨true⟩
   rw [hu.bool_inv, hv.bool_inv]; exact ⟨rfl, fun m => by cases m <;> simp [Instr.sameBits]⟩
 have hl : xs.length = ys.length := by rw [hx.1, hy.1]
 refine ⟨List.ext_getElem? fun j => ?_, fun v hv n => ?_⟩
 ·rcases Nat.lt_or_ge j xs.length with h | h
  ·rw [List.getElem?_eq_getElem h, List.getElem?_eq_getElem (by omega)]
   congr 1
   exact (key j _ _ (List.getElem?_eq_getElem h) (List.getElem?_eq_getElem (by omega))).1
  ·rw [List.getElem?_eq_none h, List.getElem?_eq_none (by omega)]
 ·obtain ⟨j, hj⟩ := List.getElem?_of_mem hv
  have hlt := zK hj
  exact (key j v _ hj (List.getElem?_eq_getElem (by omega))).2 n
section
variable {P : Program}
theorem zhl {t : TypeId} {d : TD} {s by' : Nat} {z : Value} (hf : Fits P t d s by' z) {a : HVal} (hk : zdY d a a = true) {I : Imm} {u : Value} (hu : V I a u) (em : Bool) (n : Nat) (w : World) : (Instr.checkKey em (n + 1) t u).run P w = .ok () w := by
 haveI : Tracks := ⟨true⟩
 cases d <;> cases a <;> first | (simp [zdY] at hk; done) | skip
 ·rw [hu.bool_inv]; simp [Instr.checkKey, run_underlying hf.boolD]
 ·rw [hu.int_inv]; simp [Instr.checkKey, run_underlying hf.intD]
 ·rw [hu.str_inv]; simp [Instr.checkKey, run_underlying hf.strD]
theorem zjq {I : Imm} {xs : Array Value} {cs : List HVal} (hx : VL I cs xs.toList) (em : Bool) (n : Nat) (w : World) :
 ∀ (fs : List Field) (k : Nat), zge P (fs.map fun f => (f.offset, f.type)) k (cs.drop k) (cs.drop k) → ∀ f ∈ fs, ∃ a, (part f.type xs f.offset).run P w = .ok a w ∧ (Instr.checkKey em (n + 1) f.type a).run P w = .ok () w
 | [], k, _, f, hf => by simp at hf
 | g :: fs, k, hk, f, hf => by
   haveI : Tracks := ⟨true⟩
   simp only [List.map_cons] at hk
   cases hc : cs.drop k with
   | nil => rw [hc] at hk; exact hk.elim
   | cons a r =>
     rw [hc] at hk
     obtain ⟨h1, ⟨d, s, by', z, h2, h3⟩, h4⟩ := hk
     simp only at h1 h2
     have ha : cs[k]? = some a := by have := congrArg (fun l : List HVal => l[0]?) hc; simpa using this
     have hr : cs.drop (k + 1) = r := by rw [← List.drop_drop (i := 1), hc]; rfl
     rcases List.mem_cons.1 hf with rfl | hf
     ·obtain ⟨u, hu, hu'⟩ := hx.get ha
      exact ⟨u, zf5 h2 (zet h3) (by rw [h1]; simpa using hu) w, zhl h2 h3 hu' em n w⟩
     ·exact zjq hx em n w fs (k + 1) (by rw [hr]; exact h4) f hf
theorem zht {κ : Type} [DecidableEq κ] {kt : TypeId} {fs : List (Nat × Nat)} {s by' : Nat} {z : Value} {cs : κ → List HVal} (hf : Fits P kt (.struct fs) s by' z) (hq : EqOk P kt) (hk : ∀ x y, zge P fs 0 (cs x) (cs y))
 (he : ∀ x y, zbX (cs x) (cs y) = decide (x = y)) (hs : ∀ x, zi6 (cs x) = true) : KeyOk P kt (fun x => .agg (cs x)) := by
 haveI : Tracks := ⟨true⟩
 obtain ⟨gs, h1, h2⟩ := hf.structD
 have hn : ∀ f ∈ gs.toList, f.name ≠ "_" := fun f hf => by
  have := hq.names
  rw [show P.fieldsOf kt = gs by simp [Program.fieldsOf, h1]] at this
  have := List.all_eq_true.1 this f hf; simpa using this
 refine ⟨fun I x v b w hv => ?_, fun I x y u v w hu hv => ?_, fun I x v es w hv hes => run_findKey_eq w (by rw [h1]) v es, fun I x u v hu hv => ?_⟩
 ·obtain ⟨xs, rfl, hx⟩ := hv.agg_inv
  have each := zjq (P := P) hx b 9998 w gs.toList 0 (by rw [h2]; exact hk x x)
  rw [show (10000 : Nat) = 9999 + 1 from rfl, Instr.checkKey]
  simp only [Sem.run_bind, run_underlying h1, Result.andThen_ok]
  rw [← Array.forIn_toList]
  clear h1 h2
  generalize gs.toList = L at each hn
  induction L with
  | nil => simp
  | cons f L ih =>
    obtain ⟨a, p1, p2⟩ := each f (by simp)
    have hn1 := hn f (by simp)
    simp only [List.forIn_cons, Sem.run_bind, hn1, ne_eq, not_false_eq_true, if_true, Result.andThen_ok, p1, p2, Sem.run_pure]
    exact ih (fun y hy => each y (by simp [hy])) (fun y hy => hn y (by simp [hy]))
 ·obtain ⟨xs, rfl, hx⟩ := hu.agg_inv
  obtain ⟨ys, rfl, hy⟩ := hv.agg_inv
  rw [zfh hf hq hx hy (hk x y) w, he]
 ·obtain ⟨xs, rfl, hx⟩ := hu.agg_inv
  obtain ⟨ys, rfl, hy⟩ := hv.agg_inv
  obtain ⟨e1, e2⟩ := znU (hs x) hx hy
  have e3 : xs = ys := by have := congrArg List.toArray e1; simpa using this
  subst e3
  show Instr.sameBits (9999 + 1) _ _ = true
  simp only [Instr.sameBits, beq_self_eq_true, Bool.true_and, List.all_eq_true]
  intro p hp
  have h9 : ∀ (l : List Value) (p : Value × Value), p ∈ l.zip l → p.1 ∈ l ∧ p.1 = p.2 := fun l => by
   induction l with
   | nil => intro p hp; simp at hp
   | cons a l ih =>
     intro p hp
     simp only [List.zip_cons_cons, List.mem_cons] at hp
     rcases hp with rfl | hp
     ·exact ⟨by simp, rfl⟩
     ·exact ⟨by simp [(ih p hp).1], (ih p hp).2⟩
  obtain ⟨q1, q2⟩ := h9 _ p hp
  obtain ⟨u, v⟩ := p
  simp only at q1 q2
  subst q2
  exact e2 u q1 9999
end
/-! ranges -/
theorem zjR {α : Type} [DecidableEq α] : ∀ {l m : List α}, l.Nodup → (∀ x ∈ l, x ∈ m) → l.length ≤ m.length
 | [], _, _, _ => Nat.zero_le _
 | a :: l, m, h, hs => by
   have ha := hs a List.mem_cons_self
   obtain ⟨h1, h2⟩ := List.nodup_cons.1 h
   have h3 := zjR (m := m.erase a) h2 fun x hx => (List.mem_erase_of_ne (fun e : x = a => h1 (by rw [← e]; exact hx))).2 (hs x (List.mem_cons_of_mem _ hx))
   rw [List.length_erase_of_mem ha] at h3
   have := List.length_pos_of_mem ha
   simp; omega
section
variable {P : Program} {e : Env} {dst : Option Tmp} {ty : TypeId} {pos : String} {af : Array Edge} {g : Option (Nat × Bool)} {M : List MObj} {K : HVal → List MObj → Prop}
theorem zfp [Tracks] {x : Operand} {t kt et : TypeId} {size bytes : Nat} {zero : Value} {i b : Nat} {l : List (HVal × HVal)} (hf : Fits P t (.map kt et) size bytes zero) (hx : zA e x = some (.raw (.map (some b)))) (hm : M[i]? = some (.map b l))
 (hk : ∀ r, K (.raw (.pointer (some ⟨r, 0, none⟩))) (M.set i (.iter r b l []))) : EOp P e M ⟨dst, .range t x, ty, pos, af, g⟩ K :=
 EOp.of_run fun I F a w ho hs => by
  have h1 := (ho.one (x := x) (by simp [Op.operands]) hx).raw_inv
  have hp := hs.pull hm
  obtain ⟨es, clk, h3, h4, h5⟩ := hp.obj _ List.mem_cons_self
  have hlt : b < w.heap.size := by
   rcases Nat.lt_or_ge b w.heap.size with h' | h'
   ·exact h'
   ·simp [Array.getElem?_eq_none h'] at h3
  refine ⟨.pointer (some ⟨w.heap.size, 0, none⟩), _, _, push w (.mapIter (some b) clk #[] clk), I, ?_, .refl I, hk w.heap.size, .raw _ rfl, ?_⟩
  ·simp only [execOp, h1, Instr.range, Sem.run_bind, run_underlying hf.mapD, Result.andThen_ok, za6 h3, Sem.run_pure, run_newObj]
  ·refine Sat.unpull hm (hp.change (m' := .iter w.heap.size b l []) (fun k hk hnk => ?_) (fun k hk => ?_) ?_ ⟨es, clk, #[], ?_, ?_, h4, rfl, h5⟩ rfl rfl rfl)
   ·simp [push, Array.getElem?_push]; intro h; omega
   ·simp [MObj.blocks] at hk ⊢; omega
   ·simp [MObj.blocks]; omega
   ·simp only [push, Array.getElem?_push]; rw [if_neg (by omega)]; exact h3
   ·simp [push]
theorem zuG [Tracks] {x : Operand} {i r b : Nat} {l : List (HVal × HVal)} {vis : List Nat} (hx : zA e x = some (.raw (.pointer (some ⟨r, 0, none⟩)))) (hm : M[i]? = some (.iter r b l vis)) (hv : vis.Nodup) (hvl : ∀ j ∈ vis, j < l.length)
 (h0 : vis.length = l.length → K (.tup [.bool false]) M) (h1 : ∀ (j : Nat) (p : HVal × HVal), l[j]? = some p → j ∉ vis → K (.tup [.bool true, p.1, p.2]) (M.set i (.iter r b l (vis ++ [j])))) : EOp P e M ⟨dst, .next x false, ty, pos, af, g⟩ K :=
 EOp.of_run fun I F a w ho hs => by
  have h2 := (ho.one (x := x) (by simp [Op.operands]) hx).raw_inv
  have hp := hs.pull hm
  obtain ⟨es, clk, seen, a1, a2, a3, a4, a5⟩ := hp.obj _ List.mem_cons_self
  have hgr : ∀ w1 : World, w1.heap = w.heap → (getObj r).run P w1 = .ok (.mapIter (some b) clk seen clk) w1 := fun w1 hw => by simp [getObj, Sem.run, hw, a2]
  have hgb : ∀ w1 : World, w1.heap = w.heap → (getObj b).run P w1 = .ok (.map es clk) w1 := fun w1 hw => by simp [getObj, Sem.run, hw, a1]
  have hin : ∀ (j : Nat) (m : MapEntry), es[j]? = some m → (seen.contains m.born = true ↔ j ∈ vis) := fun j m hj => by
   have e1 : seen.contains m.born = seen.toList.contains m.born := by simp
   rw [e1, a4, List.contains_iff_mem, List.mem_map]
   constructor
   ·rintro ⟨q, hq, e⟩
    have hlt := hvl q hq
    have hq2 : es[q]? = some es[q] := Array.getElem?_eq_getElem (by omega)
    rw [hq2] at e
    simp at e
    have := a3.2.2 q j _ m hq2 hj e
    rw [← this]; exact hq
   ·intro hq
    exact ⟨j, hq, by rw [hj]; simp⟩
  have hbad : (!seen.isEmpty && !es.isEmpty && es.all (fun m => decide (m.born ≥ clk))) = false := by
   by_cases he : es.isEmpty = true
   ·simp [he]
   ·have hpos : 0 < es.size := by
     rcases Nat.eq_zero_or_pos es.size with h | h
     ·simp [Array.isEmpty, h] at he
     ·exact h
    have hb := a3.2.1 0 _ (Array.getElem?_eq_getElem hpos)
    have : es.all (fun m => decide (m.born ≥ clk)) = false := by
     rw [Bool.eq_false_iff]
     intro h
     have := Array.all_eq_true.1 h 0 hpos
     simp at this; omega
    rw [this]; simp
  have hold : (es.filter fun m => !seen.contains m.born).filter (fun m => decide (m.born < clk)) = es.filter fun m => !seen.contains m.born := by
   rw [Array.filter_eq_self]
   intro m hm'
   obtain ⟨j, hj⟩ := Array.getElem?_of_mem (Array.mem_filter.1 hm').1
   simpa using a3.2.1 j m hj
  have hnew : (es.filter fun m => !seen.contains m.born).filter (fun m => decide (m.born ≥ clk)) = #[] := by
   rw [Array.filter_eq_empty_iff]
   intro m hm'
   obtain ⟨j, hj⟩ := Array.getElem?_of_mem (Array.mem_filter.1 hm').1
   have := a3.2.1 j m hj
   simp; omega
  have hrun : (execOp a.eval ⟨dst, .next x false, ty, pos, af, g⟩).run P w = ((Instr.next (.pointer (some ⟨r, 0, none⟩)) false ty).run P w).andThen fun v w => .ok (.value v) w := by
   simp only [execOp, h2, Sem.run_bind]
   rfl
  generalize hL : (es.filter fun m => !seen.contains m.born) = left at hold hnew
  by_cases hemp : left.isEmpty = true
  ·have hfull : vis.length = l.length := by
    apply Nat.le_antisymm
    ·have := zjR (m := List.range l.length) hv fun j hj => List.mem_range.2 (hvl j hj)
     simpa using this
    ·have := zjR (l := List.range l.length) (m := vis) List.nodup_range fun j hj => by
      have hj' := List.mem_range.1 hj
      have hq : es[j]? = some es[j] := Array.getElem?_eq_getElem (by omega)
      rw [← hin j _ hq]
      cases hc : seen.contains es[j].born with
      | true => rfl
      | false =>
        have : es[j] ∈ left := by rw [← hL]; exact Array.mem_filter.2 ⟨Array.getElem_mem _, by rw [hc]; rfl⟩
        have he : left = #[] := Array.isEmpty_iff.1 hemp
        rw [he] at this; simp at this
     simpa using this
   refine ⟨.tuple #[.bool false], .tup [.bool false], M, w, I, ?_, .refl I, h0 hfull, .tup (by simp) (fun j c v h h' => ?_), hs⟩
   ·rw [hrun]
    have he : left = #[] := Array.isEmpty_iff.1 hemp
    simp only [Instr.next, Sem.run_bind, hgr w rfl, hgb w rfl, Result.andThen_ok, hbad, Bool.false_eq_true, if_false, Sem.run_pure, hL, hold, hnew, hemp, if_true, he]
    simp [Question.forced]
   ·match j, h, h' with
    | 0, h, h' => simp at h h'; subst h h'; exact .bool _
  ·have hemp' : left.isEmpty = false := by simpa using hemp
   have hpos : 0 < left.size := by
    rcases Nat.eq_zero_or_pos left.size with h | h
    ·exfalso; apply hemp; simp [Array.isEmpty, h]
    ·exact h
   obtain ⟨c, w1, c1, c2, c3⟩ : ∃ c w1, (choose (.mapNext left.size)).run P w = .ok c w1 ∧ c < left.size ∧ (w1 = w ∨ w1 = { w with drawn := w.drawn + 1 }) := by
    by_cases hf : (Question.mapNext left.size).forced = true
    ·exact ⟨0, w, by simp [hf], hpos, .inl rfl⟩
    ·refine ⟨_, { w with drawn := w.drawn + 1 }, by simp [hf]; rfl, ?_, .inr rfl⟩
     simp only [Question.cut]; exact Nat.mod_lt _ hpos
   have hw1 : w1.heap = w.heap := by rcases c3 with h | h <;> rw [h]
   have hmem : left[c] ∈ left := Array.getElem_mem _
   have hmf : left[c] ∈ es ∧ (!seen.contains left[c].born) = true := by
    have h9 : ∀ m, m ∈ left → m ∈ es ∧ (!seen.contains m.born) = true := fun m hm => by rw [← hL] at hm; exact Array.mem_filter.1 hm
    exact h9 _ hmem
   obtain ⟨j, hj⟩ := Array.getElem?_of_mem hmf.1
   have hnv : j ∉ vis := fun q => by
    have := (hin j _ hj).2 q
    rw [this] at hmf; simp at hmf
   have hjl : j < l.length := by
    have : j < es.size := by
     rcases Nat.lt_or_ge j es.size with h' | h'
     ·exact h'
     ·simp [Array.getElem?_eq_none h'] at hj
    omega
   have hlj := List.getElem?_eq_getElem hjl
   obtain ⟨k1, k2⟩ := a5 j _ _ hlj hj
   refine ⟨.tuple #[.bool true, left[c].key, left[c].val], .tup [.bool true, l[j].1, l[j].2], _, { w1 with heap := w1.heap.setIfInBounds r (.mapIter (some b) clk (seen.push left[c].born) clk) }, I, ?_, .refl I, h1 j _ hlj hnv, ?_, ?_⟩
   ·rw [hrun]
    have hcand : ((#[] : Array (Option MapEntry)) ++ (left ++ #[]).map some).size = left.size := by simp
    have hget : ((#[] : Array (Option MapEntry)) ++ (left ++ #[]).map some)[c]? = some (some left[c]) := by simp [c2]
    simp only [Instr.next, Sem.run_bind, hgr w rfl, hgb w rfl, Result.andThen_ok, hbad, Bool.false_eq_true, if_false, Sem.run_pure, hL, hold, hnew, hemp', hcand, c1, hget]
    simp [setObj, Sem.run, hw1, a2]
   ·refine .tup (by simp) (fun q c v h h' => ?_)
    match q, h, h' with
    | 0, h, h' => simp at h h'; subst h h'; exact .bool _
    | 1, h, h' => simp at h h'; subst h h'; exact k1
    | 2, h, h' => simp at h h'; subst h h'; exact k2
   ·have hrb : r ≠ b := by
     have := hp.nodup
     simp only [blocks, List.flatMap_cons, MObj.blocks] at this
     have := (List.nodup_append.1 this).1
     simp at this; exact this
    have hrl : r < w.heap.size := by
     rcases Nat.lt_or_ge r w.heap.size with h' | h'
     ·exact h'
     ·simp [Array.getElem?_eq_none h'] at a2
    refine Sat.unpull hm (hp.change (m' := .iter r b l (vis ++ [j])) (fun k hk hnk => ?_) (fun k hk => .inl hk) ?_ ⟨es, clk, seen.push left[c].born, ?_, ?_, a3, ?_, a5⟩ (by rcases c3 with h | h <;> rw [h]) (by rcases c3 with h | h <;> rw [h]) (by rcases c3 with h | h <;> rw [h]) (fun _ => by rcases c3 with h | h <;> rw [h]; (exact Nat.le_refl _); exact Nat.le_succ _))
    ·have : k ≠ r := fun q => hnk (by rw [q]; simp [MObj.blocks])
     simp only [hw1]; rw [Array.getElem?_setIfInBounds_ne (Ne.symm this)]
    ·simp [MObj.blocks, hrb]
    ·simp only [hw1]; rw [Array.getElem?_setIfInBounds_ne hrb]; exact a1
    ·simp [hw1, hrl]
    ·simp [a4, hj]
/-- After the last round the map is itself again. -/
theorem Ghost.iterOver [Tracks] {i r b : Nat} {l : List (HVal × HVal)} {vis : List Nat} (hm : M[i]? = some (.iter r b l vis)) : Ghost e M e (M.set i (.map b l)) := fun _ I F tmps w h1 hs => by
 have hp := hs.pull hm
 obtain ⟨es, clk, seen, a1, a2, a3, a4, a5⟩ := hp.obj _ List.mem_cons_self
 exact ⟨I, .refl I, h1, Sat.unpull hm (hp.change (m' := .map b l) (fun _ _ _ => rfl) (fun k hk => .inl (by simp [MObj.blocks] at hk ⊢; exact .inr hk)) (by simp [MObj.blocks]) ⟨es, clk, a1, a3, a5⟩ rfl rfl rfl)⟩
end
end
section
section
variable {P : Program} {e : Env} {dst : Option Tmp} {ty : TypeId} {pos : String} {af : Array Edge} {g : Option (Nat × Bool)} {M : List MObj} {K : HVal → List MObj → Prop}
theorem ztf [Tracks] {x : Operand} {i r b j : Nat} {l : List (HVal × HVal)} {vis : List Nat} {p : HVal × HVal} (hx : zA e x = some (.raw (.pointer (some ⟨r, 0, none⟩)))) (hm : M[i]? = some (.iter r b l (vis ++ [j]))) (hp' : l[j]? = some p)
 (hk : K (.tup [p.1, p.2]) M) : EOp P e M ⟨dst, .entry x, ty, pos, af, g⟩ K :=
 EOp.of_run fun I F a w ho hs => by
  have h2 := (ho.one (x := x) (by simp [Op.operands]) hx).raw_inv
  have hp := hs.pull hm
  obtain ⟨es, clk, seen, a1, a2, a3, a4, a5⟩ := hp.obj _ List.mem_cons_self
  have hjl := zK hp'
  have hj : es[j]? = some es[j] := Array.getElem?_eq_getElem (by omega)
  obtain ⟨k1, k2⟩ := a5 j p _ hp' hj
  have hback : seen.back? = some es[j].born := by
   have : seen = (vis.map fun i => ((es[i]?).map (·.born)).getD 0).toArray.push es[j].born := by
    apply Array.ext'
    rw [a4]; simp [hj]
   rw [this]; simp
  have hfind : es.find? (fun m => m.born == es[j].born) = some es[j] := by
   cases hf : es.find? (fun m => m.born == es[j].born) with
   | none =>
     have := Array.find?_eq_none.1 hf es[j] (Array.getElem_mem _)
     simp at this
   | some m =>
     have h1 := Array.find?_some hf
     have h3 := Array.mem_of_find?_eq_some hf
     obtain ⟨q, hq⟩ := Array.getElem?_of_mem h3
     have := a3.2.2 q j m _ hq hj (by simpa using h1)
     subst this
     rw [hj] at hq; exact hq.symm
  refine ⟨.tuple #[es[j].key, es[j].val], .tup [p.1, p.2], M, w, I, ?_, .refl I, hk, V.tup2 k1 k2, hs⟩
  have hgr : (getObj r).run P w = .ok (.mapIter (some b) clk seen clk) w := by simp [getObj, Sem.run, a2]
  have hgb : (getObj b).run P w = .ok (.map es clk) w := by simp [getObj, Sem.run, a1]
  simp only [execOp, h2, Instr.entry, Sem.run_bind, hgr, Result.andThen_ok, hback, hgb, bne_self_eq_false, Bool.false_eq_true, if_false, hfind, Sem.run_pure]
end
section
variable {κ : Type} [DecidableEq κ]
/-- With an entry for the key. -/
def zdV (s : κ) (z : HVal) (ls : List (κ × HVal)) : List (κ × HVal) := match zbI s ls with | some _ => ls | none => ls ++ [(s, z)]
theorem zhE {s : κ} {z : HVal} : ∀ {ls : List (κ × HVal)}, zbI s ls = none → zbI s (ls ++ [(s, z)]) = some ls.length
 | [], _ => by simp [zbI]
 | p :: r, h => by
   simp only [zbI] at h
   by_cases e : s = p.1
   ·rw [if_pos e] at h; simp at h
   ·rw [if_neg e] at h
    have hr : zbI s r = none := by cases hq : zbI s r with | none => rfl | some j => rw [hq] at h; simp at h
    simp only [List.cons_append, zbI, if_neg e, zhE hr]; simp
theorem zth (s : κ) (z h : HVal) (ls : List (κ × HVal)) : zc6 s h (zdV s z ls) = zc6 s h ls := by
 unfold zdV
 cases hq : zbI s ls with
 | some j => rfl
 | none =>
   simp only
   rw [(zdj (zhE (z := z) hq)).choose_spec.2.2 h, (zdN hq).2 h]
   simp
theorem zul {s : κ} {z : HVal} (ls : List (κ × HVal)) : (klk s (zdV s z ls)).getD z = (klk s ls).getD z := by
 unfold zdV
 cases hq : zbI s ls with
 | some j => rfl
 | none =>
   obtain ⟨h, h1, h2, _⟩ := zdj (zhE (z := z) hq)
   simp only
   rw [h2, (zdN hq).1]
   simp at h1; simp [h1]
variable {P : Program} {kt : TypeId} {ek : κ → HVal} {e : Env} {dst : Option Tmp} {ty : TypeId} {pos : String} {af : Array Edge} {g : Option (Nat × Bool)} {M : List MObj} {K : HVal → List MObj → Prop}
theorem zpe [Tracks] {x y : Operand} {t et : TypeId} {size bytes s3 b3 : Nat} {zero z3 : Value} {d : TD} {i b : Nat} {ls : List (κ × HVal)} {s : κ}
 (hf : Fits P t (.map kt et) size bytes zero) (ok : KeyOk P kt ek) (het : Fits P et d s3 b3 z3) (hx : zA e x = some (.raw (.map (some b)))) (hy : zA e y = some (ek s)) (hm : M[i]? = some (.map b (kk ek ls)))
 (hk : ∀ (j st : Nat), zbI s (zdV s (zbh z3) ls) = some j → K (.tup [(klk s ls).getD (zbh z3), .int .i64 (st : Int)]) (M.set i (.mape b (kk ek (zdV s (zbh z3) ls)) j st))) : EOp P e M ⟨dst, .mapEntry t x y, ty, pos, af, g⟩ K :=
 EOp.of_run fun I F a w ho hs => by
  have h1 := (ho.one (x := x) (by simp [Op.operands]) hx).raw_inv
  have h2 := ho.one (x := y) (by simp [Op.operands]) hy
  have hp := hs.pull hm
  obtain ⟨es, clk, h3, h4, h5⟩ := hp.obj _ List.mem_cons_self
  obtain ⟨h6, h7⟩ := zjV h4.1 h5
  obtain ⟨n1, n2⟩ := zfW ok h2 w es.toList ls 0 h6 h7
  have hfk := ok.run_key h2 w es.toList ls h6 h7
  have hlt : b < w.heap.size := by
   rcases Nat.lt_or_ge b w.heap.size with h' | h'
   ·exact h'
   ·simp [Array.getElem?_eq_none h'] at h3
  have hsz : es.size = ls.length := by simpa using h6
  have fin : ∀ (ls' : List (κ × HVal)) (es' : Array MapEntry) (clk' j st : Nat), es'.size = (kk ek ls').length ∧ BornOk es' clk' →
   (∀ (i : Nat) (p : HVal × HVal) (m : MapEntry), (kk ek ls')[i]? = some p → es'[i]? = some m → V I p.1 m.key ∧ V I p.2 m.val) → (∃ m, es'[j]? = some m ∧ m.born = st) →
   Sat P I (M.set i (.mape b (kk ek ls') j st) ++ F) { w with heap := w.heap.setIfInBounds b (.map es' clk') } := fun ls' es' clk' j st e1 e2 e3 => by
   refine Sat.unpull hm (hp.change (m' := .mape b (kk ek ls') j st) (fun k hk hnk => ?_) (fun k hk => .inl hk) (by simp [MObj.blocks]) ⟨es', clk', by simp [hlt], e1, e2, e3⟩ rfl rfl rfl)
   have : k ≠ b := by simpa [MObj.blocks] using hnk
   simp [Array.getElem?_setIfInBounds_ne (Ne.symm this)]
  cases hq : zbI s ls with
  | none =>
    have hke : zdV s (zbh z3) ls = ls ++ [(s, zbh z3)] := by simp [zdV, hq]
    have hki := zhE (z := zbh z3) hq
    have hlk := (zdN hq).1
    refine ⟨.tuple #[z3, .int .i64 clk], _, _, _, I, ?_, .refl I, hk ls.length clk (by rw [hke]; exact hki), by rw [hlk]; exact V.tup2 (zeI I z3) (.int _ _),
     fin _ (es.push ⟨a.eval y, z3, clk⟩) (clk + 1) _ _ ⟨by rw [hke]; simp [kk, hsz], h4.2.push rfl⟩ (fun j p m a1 a2 => ?_) ⟨⟨a.eval y, z3, clk⟩, by rw [← hsz]; simp, rfl⟩⟩
    ·simp only [execOp, h1, Instr.mapEntry, Sem.run_bind, run_underlying hf.mapD, Result.andThen_ok, za6 h3, ok.check I s _ _ w h2, hfk, n1 hq, Sem.run_pure, zdU h3, het.run_zero, goInt]
    ·rw [hke] at a1
     simp only [kk, List.map_append, List.map_cons, List.map_nil] at a1
     by_cases hj : j < ls.length
     ·rw [List.getElem?_append_left (by simpa using hj)] at a1
      rw [Array.getElem?_push, if_neg (by omega)] at a2
      exact h5 j p m (by simpa [kk] using a1) a2
     ·rw [List.getElem?_append_right (by simp; omega)] at a1
      rw [Array.getElem?_push] at a2
      by_cases hje : j = es.size
      ·rw [if_pos hje] at a2
       simp at a2
       subst a2
       have : j - (ls.map fun p => (ek p.1, p.2)).length = 0 := by simp; omega
       rw [this] at a1
       simp at a1
       subst a1
       exact ⟨h2, zeI I z3⟩
      ·rw [if_neg hje, Array.getElem?_eq_none (by omega)] at a2
       cases a2
  | some j0 =>
    obtain ⟨m0, h', g1, g2, g3, g4⟩ := n2 j0 hq
    obtain ⟨h'', g5, g6, _⟩ := zdj hq
    rw [g5] at g2; cases g2
    have hke : zdV s (zbh z3) ls = ls := by simp [zdV, hq]
    have hm0 : es[j0]? = some m0 := by simpa using g1
    have hkey : V I (ek s) m0.key := (h7 j0 _ m0 g5 g1).1
    refine ⟨.tuple #[m0.val, .int .i64 m0.born], _, _, _, I, ?_, .refl I, hk j0 m0.born (by rw [hke]; exact hq), by rw [g6]; exact V.tup2 g3 (.int _ _),
     fin _ (es.modify j0 fun e => { e with key := a.eval y }) clk _ _ ⟨by rw [hke]; simp [kk, hsz], h4.2.modify _ fun _ => rfl⟩ (fun j p m a1 a2 => ?_) ⟨{ m0 with key := a.eval y }, by rw [Array.getElem?_modify, if_pos rfl, hm0]; rfl, rfl⟩⟩
    ·have hstay : (Instr.keyThatStays m0.key (a.eval y)).run P w = .ok (a.eval y) w := by
      simp only [Instr.keyThatStays]
      rw [if_pos (ok.same I s _ _ hkey h2)]; rfl
     simp only [execOp, h1, Instr.mapEntry, Sem.run_bind, run_underlying hf.mapD, Result.andThen_ok, za6 h3, ok.check I s _ _ w h2, hfk, g4, Sem.run_pure, Nat.zero_add, hstay, zdU h3, goInt, hm0, Option.map_some, Option.getD_some]
    ·rw [hke] at a1
     rw [Array.getElem?_modify] at a2
     by_cases hj : j0 = j
     ·subst hj
      rw [if_pos rfl, hm0] at a2
      simp at a2
      subst a2
      have := h5 j0 p m0 a1 hm0
      simp only [kk, List.getElem?_map, g5, Option.map_some, Option.some.injEq] at a1
      subst a1
      exact ⟨h2, this.2⟩
     ·rw [if_neg hj] at a2
      exact h5 j p m a1 a2
theorem znH [Tracks] {x y z : Operand} {t : TypeId} {i b j st : Nat} {ls : List (κ × HVal)} {s : κ} {h : HVal}
 (hx : zA e x = some (.raw (.map (some b)))) (hy : zA e y = some (.int .i64 (st : Int))) (hz : zA e z = some h) (hm : M[i]? = some (.mape b (kk ek ls) j st)) (hj : zbI s ls = some j)
 (hk : K .junk (M.set i (.map b (kk ek (zc6 s h ls))))) : EOp P e M ⟨dst, .entryStore t x y z, ty, pos, af, g⟩ K :=
 EOp.of_skip fun I F a w ho hs => by
  have h1 := (ho.one (x := x) (by simp [Op.operands]) hx).raw_inv
  have h2 := (ho.one (x := y) (by simp [Op.operands]) hy).int_inv
  have h0 := ho.one (x := z) (by simp [Op.operands]) hz
  have hp := hs.pull hm
  obtain ⟨es, clk, h3, h4, h5, m0, h6, h7⟩ := hp.obj _ List.mem_cons_self
  have hlt : b < w.heap.size := by
   rcases Nat.lt_or_ge b w.heap.size with h' | h'
   ·exact h'
   ·simp [Array.getElem?_eq_none h'] at h3
  obtain ⟨h', g1, _, g2⟩ := zdj hj
  have hjl : j < es.size := by
   rcases Nat.lt_or_ge j es.size with h' | h'
   ·exact h'
   ·simp [Array.getElem?_eq_none h'] at h6
  have hfi : es.findIdx? (fun m => (m.born : Int) == (st : Int)) = some j := by
   rw [Array.findIdx?_eq_some_iff_getElem]
   refine ⟨hjl, ?_, fun q hq => ?_⟩
   ·rw [Array.getElem?_eq_getElem hjl] at h6
    have := Option.some.inj h6
    rw [this]; simp [h7]
   ·intro hc
    have hq2 := Array.getElem?_eq_getElem (xs := es) (i := q) (by omega)
    have := h4.2.2 q j _ m0 hq2 h6 (by have h8 : ((es[q].born : Nat) : Int) = (st : Int) := (by simpa using hc); omega)
    omega
  refine ⟨_, { w with heap := w.heap.setIfInBounds b (.map (es.modify j fun e => { e with val := a.eval z }) clk) }, I, ?_, .refl I, hk, ?_⟩
  ·simp only [execOp, h1, h2, Instr.entryStore, Sem.run_bind, za6 h3, Result.andThen_ok, asInt, asIntOf, Sem.run_pure, hfi, zdU h3]
  ·refine Sat.unpull hm (hp.change (m' := .map b (kk ek (zc6 s h ls))) (fun k hk hnk => ?_) (fun k hk => .inl hk) (by simp [MObj.blocks]) ⟨es.modify j fun e => { e with val := a.eval z }, clk, by simp [hlt], ⟨by rw [g2]; simp [kk]; simpa [kk] using h4.1, h4.2.modify _ fun _ => rfl⟩, fun q p m a1 a2 => ?_⟩ rfl rfl rfl)
   ·have : k ≠ b := by simpa [MObj.blocks] using hnk
    simp [Array.getElem?_setIfInBounds_ne (Ne.symm this)]
   ·rw [g2] at a1
    simp only [kk] at a1
    rw [Array.getElem?_modify] at a2
    rw [List.getElem?_map, List.getElem?_set] at a1
    by_cases hjq : j = q
    ·subst hjq
     have hl := zK g1
     rw [if_pos rfl, h6] at a2
     rw [if_pos rfl, if_pos hl] at a1
     simp at a1 a2
     subst a1 a2
     exact ⟨(h5 j (ek s, h') m0 (by simp [kk, g1]) h6).1, h0⟩
    ·rw [if_neg hjq] at a1 a2
     exact h5 q p m (by simp only [kk, List.getElem?_map]; exact a1) a2
end
end
section
section
variable {κ : Type} [DecidableEq κ] {α : Type}
def alk (x : κ) : List (κ × α) → Option α
 | [] => none
 | p :: r => if x = p.1 then some p.2 else alk x r
def zY (x : κ) (v : α) : List (κ × α) → List (κ × α)
 | [] => [(x, v)]
 | p :: r => if x = p.1 then (x, v) :: r else p :: zY x v r
abbrev em (f : α → HVal) (L : List (κ × α)) : List (κ × HVal) := L.map fun p => (p.1, f p.2)
theorem zky (f : α → HVal) (x : κ) : ∀ L : List (κ × α), klk x (em f L) = (alk x L).map f
 | [] => rfl
 | p :: r => by
   have ih := zky f x r
   simp only [List.map_cons, klk, alk] at ih ⊢
   by_cases h : x = p.1
   ·rw [if_pos h, if_pos h]; rfl
   ·rw [if_neg h, if_neg h]; exact ih
theorem znE (f : α → HVal) (x : κ) (v : α) : ∀ L : List (κ × α), zc6 x (f v) (em f L) = em f (zY x v L)
 | [] => rfl
 | p :: r => by
   have ih := znE f x v r
   simp only [List.map_cons, zc6, zY] at ih ⊢
   by_cases h : x = p.1
   ·rw [if_pos h, if_pos h]; rfl
   ·rw [if_neg h, if_neg h, ih]; rfl
theorem zcr (x y : κ) (v : α) : ∀ (l : List (κ × α)), alk y (zY x v l) = if y = x then some v else alk y l
 | [] => by simp [zY, alk]
 | p :: r => by
   have ih := zcr x y v r
   simp only [zY]
   by_cases h : x = p.1
   ·subst h
    rw [if_pos rfl]; simp only [alk]
    by_cases hy : y = p.1
    ·rw [if_pos hy, if_pos hy]
    ·rw [if_neg hy, if_neg hy, if_neg hy]
   ·rw [if_neg h]; simp only [alk]
    by_cases hy : y = p.1
    ·have : ¬ y = x := fun e => h (e ▸ hy)
     rw [if_pos hy, if_neg this, if_pos hy]
    ·rw [if_neg hy, ih, if_neg hy]
theorem zcM {x : κ} : ∀ {l : List (κ × α)}, alk x l = none ↔ x ∉ l.map (·.1)
 | [] => by simp [alk]
 | p :: r => by
   have ih := zcM (x := x) (l := r)
   simp only [alk, List.map_cons, List.mem_cons, not_or]
   by_cases h : x = p.1
   ·rw [if_pos h]; simp [h]
   ·rw [if_neg h, ih]; simp [h]
theorem zhp {x : κ} {v : α} : ∀ {l : List (κ × α)}, alk x l = none → zY x v l = l ++ [(x, v)]
 | [], _ => rfl
 | p :: r, h => by
   simp only [alk] at h
   by_cases hx : x = p.1
   ·rw [if_pos hx] at h; cases h
   ·rw [if_neg hx] at h
    simp only [zY, if_neg hx, List.cons_append, zhp h]
theorem zhR {x y : κ} {v : α} : ∀ {l : List (κ × α)}, y ∈ (zY x v l).map (·.1) ↔ y = x ∨ y ∈ l.map (·.1)
 | [] => by simp [zY]
 | p :: r => by
   have ih := zhR (x := x) (y := y) (v := v) (l := r)
   simp only [zY]
   by_cases h : x = p.1
   ·subst h; rw [if_pos rfl]; simp
   ·rw [if_neg h]; simp only [List.map_cons, List.mem_cons, ih]
    constructor
    ·rintro (h | h | h)
     ·exact .inr (.inl h)
     ·exact .inl h
     ·exact .inr (.inr h)
    ·rintro (h | h | h)
     ·exact .inr (.inl h)
     ·exact .inl h
     ·exact .inr (.inr h)
def ANodup (l : List (κ × α)) : Prop := (l.map (·.1)).Nodup
theorem ANodup.nil {A B : Type} : ANodup ([] : List (A × B)) := List.nodup_nil
theorem ANodup.put {x : κ} {v : α} : ∀ {l : List (κ × α)}, ANodup l → ANodup (zY x v l)
 | [], _ => by simp [ANodup, zY]
 | p :: r, hn => by
   have h1 := (List.nodup_cons.1 hn)
   by_cases h : x = p.1
   ·subst h
    have e : zY p.1 v (p :: r) = (p.1, v) :: r := by simp [zY]
    rw [e]; exact List.nodup_cons.2 h1
   ·have e : zY x v (p :: r) = p :: zY x v r := by simp [zY, h]
    rw [e]
    refine List.nodup_cons.2 ⟨fun hm => ?_, ANodup.put (l := r) h1.2⟩
    rcases zhR.1 hm with e | e
    ·exact h e.symm
    ·exact h1.1 e
theorem zcg {x : κ} {v : α} : ∀ {l : List (κ × α)}, ANodup l → ((x, v) ∈ l ↔ alk x l = some v)
 | [], _ => by simp [alk]
 | p :: r, hn => by
   have h1 := (List.nodup_cons.1 hn)
   have ih := zcg (x := x) (v := v) (l := r) h1.2
   simp only [List.mem_cons, alk]
   by_cases h : x = p.1
   ·subst h
    rw [if_pos rfl]
    constructor
    ·rintro (h | h)
     ·rw [← h]
     ·exact absurd (List.mem_map_of_mem (f := (·.1)) h) h1.1
    ·intro h; left; simp at h; rw [← h]
   ·rw [if_neg h, ← ih]
    constructor
    ·rintro (h' | h')
     ·exact absurd (by rw [← h']) h
     ·exact h'
    ·exact .inr
theorem zbK {x : κ} {v : α} : ∀ {l : List (κ × α)}, alk x l = some v → (x, v) ∈ l
 | [], h => by simp [alk] at h
 | p :: r, h => by
   simp only [alk] at h
   by_cases hx : x = p.1
   ·rw [if_pos hx] at h; cases h; rw [hx]; exact List.mem_cons_self
   ·rw [if_neg hx] at h; exact List.mem_cons_of_mem _ (zbK h)
theorem zp6 (x : κ) (v : α) : ∀ (l : List (κ × α)), (zY x v l).length = if (alk x l).isSome then l.length else l.length + 1
 | [] => by simp [zY, alk]
 | p :: r => by
   have ih := zp6 x v r
   by_cases h : x = p.1
   ·have e1 : zY x v (p :: r) = (x, v) :: r := by simp [zY, h]
    have e2 : alk x (p :: r) = some p.2 := by simp [alk, h]
    rw [e1, e2]; simp
   ·have e1 : zY x v (p :: r) = p :: zY x v r := by simp [zY, h]
    have e2 : alk x (p :: r) = alk x r := by simp [alk, h]
    rw [e1, e2, List.length_cons, ih]; split <;> simp
theorem zeK (x : κ) (v : α) (l : List (κ × α)) : (zY x v l).length ≤ l.length + 1 := by rw [zp6]; split <;> omega
theorem zce {x : κ} {v : α} {p : κ × α} : ∀ {l : List (κ × α)}, p ∈ zY x v l → p = (x, v) ∨ p ∈ l
 | [], hp => by simp [zY] at hp; exact .inl hp
 | q :: r, hp => by
   simp only [zY] at hp
   by_cases h : x = q.1
   ·rw [if_pos h] at hp
    rcases List.mem_cons.1 hp with e | e
    ·exact .inl e
    ·exact .inr (List.mem_cons_of_mem _ e)
   ·rw [if_neg h] at hp
    rcases List.mem_cons.1 hp with e | e
    ·exact .inr (e ▸ List.mem_cons_self)
    ·rcases zce e with e | e
     ·exact .inl e
     ·exact .inr (List.mem_cons_of_mem _ e)
theorem zlD (f : α → HVal) (s : Str) : ∀ L : List (Str × α), (zar s (em f L)).map (·.2) = (alk s L).map f
 | [] => rfl
 | p :: r => by
   have ih := zlD f s r
   obtain ⟨k, v⟩ := p
   simp only [List.map_cons, zar, alk] at ih ⊢
   by_cases h : s = k
   ·rw [if_pos h, if_pos h]; rfl
   ·rw [if_neg h, if_neg h, ← ih]; cases zar s (r.map fun p => (p.1, f p.2)) <;> rfl
theorem zrj (f : α → HVal) (s : Str) (v : α) : ∀ L : List (Str × α), sput s (f v) (em f L) = em f (zY s v L)
 | [] => rfl
 | p :: r => by
   have ih := zrj f s v r
   obtain ⟨k, u⟩ := p
   simp only [sput, List.map_cons, zar, zY] at ih ⊢
   by_cases h : s = k
   ·subst h; rw [if_pos rfl, if_pos rfl]; rfl
   ·rw [if_neg h, if_neg h]
    cases hq : zar s (r.map fun p => (p.1, f p.2)) with
    | none => rw [hq] at ih; simp only [Option.map_none, List.cons_append, List.map_cons, ← ih]
    | some q => rw [hq] at ih; simp only [Option.map_some, List.set_cons_succ, List.map_cons, ← ih]
end
section
variable {κ : Type} [DecidableEq κ] {α : Type}
variable {P : Program} {e : Env} {dst : Option Tmp} {ty : TypeId} {pos : String} {af : Array Edge} {g : Option (Nat × Bool)} {M : List MObj} {K : HVal → List MObj → Prop}
theorem zkz {f : α → HVal} {o : Option α} {z0 : α} : f (o.getD z0) = (o.map f).getD (f z0) := by cases o <;> rfl
theorem zbZ [Tracks] {x y : Operand} {t kt et : TypeId} {size bytes s2 b2 s3 b3 : Nat} {zero z2 z3 : Value} {d : TD} {i b : Nat} {f : α → HVal} {L : List (Str × α)} {s : Str} {z0 : α}
 (hf : Fits P t (.map kt et) size bytes zero) (hkt : Fits P kt .str s2 b2 z2) (het : Fits P et d s3 b3 z3) (hx : zA e x = some (.raw (.map (some b)))) (hy : zA e y = some (.str s)) (hm : M[i]? = some (.map b (sk (em f L)))) (hz : zbh z3 = f z0)
 (hk : K (f ((alk s L).getD z0)) M) : EOp P e M ⟨dst, .lookup t x y false, ty, pos, af, g⟩ K := by
 refine zsy hf hkt het hx hy hm ?_
 rw [zkz (f := f), ← zlD, ← hz] at hk
 cases h : zar s (em f L) with
 | none => rw [h] at hk; exact hk
 | some p => rw [h] at hk; exact hk
theorem zkh [Tracks] {x y : Operand} {t kt et : TypeId} {size bytes s2 b2 s3 b3 : Nat} {zero z2 z3 : Value} {d : TD} {i b : Nat} {f : α → HVal} {L : List (Str × α)} {s : Str} {z0 : α}
 (hf : Fits P t (.map kt et) size bytes zero) (hkt : Fits P kt .str s2 b2 z2) (het : Fits P et d s3 b3 z3) (hx : zA e x = some (.raw (.map (some b)))) (hy : zA e y = some (.str s)) (hm : M[i]? = some (.map b (sk (em f L)))) (hz : zbh z3 = f z0)
 (hk : K (.tup [f ((alk s L).getD z0), .bool (alk s L).isSome]) M) : EOp P e M ⟨dst, .lookup t x y true, ty, pos, af, g⟩ K := by
 refine zqz hf hkt het hx hy hm ?_
 have h1 : (alk s L).isSome = ((alk s L).map f).isSome := by cases alk s L <;> rfl
 rw [zkz (f := f), h1, ← zlD, ← hz] at hk
 cases h : zar s (em f L) with
 | none => rw [h] at hk; exact hk
 | some p => rw [h] at hk; exact hk
theorem zbu [Tracks] {x y z : Operand} {t kt et : TypeId} {size bytes s2 b2 : Nat} {zero z2 : Value} {i b : Nat} {f : α → HVal} {L : List (Str × α)} {s : Str} {v : α}
 (hf : Fits P t (.map kt et) size bytes zero) (hkt : Fits P kt .str s2 b2 z2) (hx : zA e x = some (.raw (.map (some b)))) (hy : zA e y = some (.str s)) (hz : zA e z = some (f v)) (hm : M[i]? = some (.map b (sk (em f L))))
 (hk : K .junk (M.set i (.map b (sk (em f (zY s v L)))))) : EOp P e M ⟨dst, .mapUpdate t x y z, ty, pos, af, g⟩ K := by
 refine zjD hf hkt hx hy hz hm ?_
 rw [zrj]; exact hk
variable {kt : TypeId} {ek : κ → HVal}
theorem zda [Tracks] {x y : Operand} {t et : TypeId} {size bytes s3 b3 : Nat} {zero z3 : Value} {d : TD} {i b : Nat} {f : α → HVal} {L : List (κ × α)} {s : κ} {z0 : α}
 (hf : Fits P t (.map kt et) size bytes zero) (ok : KeyOk P kt ek) (het : Fits P et d s3 b3 z3) (hx : zA e x = some (.raw (.map (some b)))) (hy : zA e y = some (ek s)) (hm : M[i]? = some (.map b (kk ek (em f L)))) (hz : zbh z3 = f z0)
 (hk : K (f ((alk s L).getD z0)) M) : EOp P e M ⟨dst, .lookup t x y false, ty, pos, af, g⟩ K := by
 refine zqR hf ok het hx hy hm ?_
 rw [zkz (f := f), ← hz] at hk
 rw [zky]; exact hk
theorem zoH [Tracks] {x y : Operand} {t et : TypeId} {size bytes s3 b3 : Nat} {zero z3 : Value} {d : TD} {i b : Nat} {f : α → HVal} {L : List (κ × α)} {s : κ} {z0 : α}
 (hf : Fits P t (.map kt et) size bytes zero) (ok : KeyOk P kt ek) (het : Fits P et d s3 b3 z3) (hx : zA e x = some (.raw (.map (some b)))) (hy : zA e y = some (ek s)) (hm : M[i]? = some (.map b (kk ek (em f L)))) (hz : zbh z3 = f z0)
 (hk : K (.tup [f ((alk s L).getD z0), .bool (alk s L).isSome]) M) : EOp P e M ⟨dst, .lookup t x y true, ty, pos, af, g⟩ K := by
 refine zpl hf ok het hx hy hm ?_
 have h1 : ((alk s L).map f).isSome = (alk s L).isSome := by cases alk s L <;> rfl
 rw [zkz (f := f), ← hz] at hk
 rw [zky, h1]; exact hk
theorem zpj [Tracks] {x y : Operand} {t et : TypeId} {size bytes s3 b3 : Nat} {zero z3 : Value} {d : TD} {i b j st : Nat} {f : α → HVal} {L : List (κ × α)} {s : κ} {z0 : α}
 (hf : Fits P t (.map kt et) size bytes zero) (ok : KeyOk P kt ek) (het : Fits P et d s3 b3 z3) (hx : zA e x = some (.raw (.map (some b)))) (hy : zA e y = some (ek s)) (hm : M[i]? = some (.mape b (kk ek (zdV s (f z0) (em f L))) j st)) (hz : zbh z3 = f z0)
 (hk : K (f ((alk s L).getD z0)) M) : EOp P e M ⟨dst, .lookup t x y false, ty, pos, af, g⟩ K := by
 have h0 : f ((alk s L).getD z0) = (klk s (zdV s (f z0) (em f L))).getD (zbh z3) := by rw [hz, zul, zky, zkz (f := f)]
 rw [h0] at hk
 generalize zdV s (f z0) (em f L) = ls at hm hk
 exact EOp.of_run fun I F a w ho hs => by
  have h1 := (ho.one (x := x) (by simp [Op.operands]) hx).raw_inv
  have h2 := ho.one (x := y) (by simp [Op.operands]) hy
  obtain ⟨es, clk, h3, h4, h5, _⟩ := hs.obj _ (List.mem_append_left _ (List.mem_of_getElem? hm))
  obtain ⟨h6, h7⟩ := zjV h4.1 h5
  obtain ⟨n1, n2⟩ := zfW ok h2 w es.toList ls 0 h6 h7
  have hfk := ok.run_key h2 w es.toList ls h6 h7
  cases hq : zbI s ls with
  | none =>
    rw [(zdN hq).1] at hk
    refine ⟨z3, _, M, w, I, ?_, .refl I, hk, zeI I z3, hs⟩
    simp only [execOp, h1, Instr.lookup, Sem.run_bind, run_underlying hf.mapD, Result.andThen_ok, za6 h3, Sem.run_pure, ok.check I s _ _ w h2, hfk, n1 hq, het.run_zero]
    simp
  | some j' =>
    obtain ⟨m, h, g1, g2, g3, g4⟩ := n2 j' hq
    obtain ⟨h', g5, g6, _⟩ := zdj hq
    rw [g5] at g2; cases g2
    rw [g6] at hk
    refine ⟨m.val, _, M, w, I, ?_, .refl I, hk, g3, hs⟩
    simp only [execOp, h1, Instr.lookup, Sem.run_bind, run_underlying hf.mapD, Result.andThen_ok, za6 h3, Sem.run_pure, ok.check I s _ _ w h2, hfk, g4]
    simp
theorem zdC [Tracks] {x y z : Operand} {t et : TypeId} {size bytes : Nat} {zero : Value} {i b : Nat} {f : α → HVal} {L : List (κ × α)} {s : κ} {v : α}
 (hf : Fits P t (.map kt et) size bytes zero) (ok : KeyOk P kt ek) (hx : zA e x = some (.raw (.map (some b)))) (hy : zA e y = some (ek s)) (hz : zA e z = some (f v)) (hm : M[i]? = some (.map b (kk ek (em f L))))
 (hk : K .junk (M.set i (.map b (kk ek (em f (zY s v L)))))) : EOp P e M ⟨dst, .mapUpdate t x y z, ty, pos, af, g⟩ K := by
 refine zqA hf ok hx hy hz hm ?_
 rw [znE]; exact hk
theorem zoY [Tracks] {x y : Operand} {t et : TypeId} {size bytes s3 b3 : Nat} {zero z3 : Value} {d : TD} {i b : Nat} {f : α → HVal} {L : List (κ × α)} {s : κ} {z0 : α}
 (hf : Fits P t (.map kt et) size bytes zero) (ok : KeyOk P kt ek) (het : Fits P et d s3 b3 z3) (hx : zA e x = some (.raw (.map (some b)))) (hy : zA e y = some (ek s)) (hm : M[i]? = some (.map b (kk ek (em f L)))) (hz : zbh z3 = f z0)
 (hk : ∀ (j st : Nat), zbI s (zdV s (f z0) (em f L)) = some j → K (.tup [f ((alk s L).getD z0), .int .i64 (st : Int)]) (M.set i (.mape b (kk ek (zdV s (f z0) (em f L))) j st))) : EOp P e M ⟨dst, .mapEntry t x y, ty, pos, af, g⟩ K := by
 refine zpe hf ok het hx hy hm ?_
 rw [hz]
 have h1 : (klk s (em f L)).getD (f z0) = f ((alk s L).getD z0) := by rw [zky]; cases alk s L <;> rfl
 rw [h1]; exact hk
theorem zmo [Tracks] {x y z : Operand} {t : TypeId} {i b j st : Nat} {f : α → HVal} {L : List (κ × α)} {s : κ} {z0 v : α}
 (hx : zA e x = some (.raw (.map (some b)))) (hy : zA e y = some (.int .i64 (st : Int))) (hz : zA e z = some (f v)) (hm : M[i]? = some (.mape b (kk ek (zdV s (f z0) (em f L))) j st)) (hj : zbI s (zdV s (f z0) (em f L)) = some j)
 (hk : K .junk (M.set i (.map b (kk ek (em f (zY s v L)))))) : EOp P e M ⟨dst, .entryStore t x y z, ty, pos, af, g⟩ K := by
 refine znH hx hy hz hm hj ?_
 rw [zth, znE]; exact hk
/-- How many entries. -/
theorem zcw [Tracks] {x : Operand} {t kt' et : TypeId} {size bytes : Nat} {zero : Value} {i b : Nat} {l : List (HVal × HVal)} (hf : Fits P t (.map kt' et) size bytes zero) (hx : zA e x = some (.raw (.map (some b)))) (hm : M[i]? = some (.map b l))
 (hk : K (.int .i64 (l.length : Int)) M) : EOp P e M ⟨dst, .call ⟨.builtin .len, #[x], #[t]⟩, ty, pos, af, g⟩ K :=
 EOp.of_run fun I F a w ho hs => by
  have h1 := (ho.one (x := x) (by simp [Op.operands, Call.operands]) hx).raw_inv
  obtain ⟨es, clk, h3, h4, h5⟩ := hs.obj _ (List.mem_append_left _ (List.mem_of_getElem? hm))
  exact ⟨.int .i64 (es.size : Int), _, M, w, I, by rw [zfZ (ats := #[])]; simp [h1, Builtin.len_, run_underlying hf.mapD, za6 h3, goInt], .refl I, hk, by rw [h4.1]; exact .int _ _, hs⟩
end
end
section
open Go.Sort Go.Proofs
structure Play where
 Source : Str
 No : Int
 At : Int
 Week : Int
 Match : Str
 Player : Str
 Stat : Str
 Count : Int
 Undo : Int
structure StatS where
 Name : Str
 Count : Int
structure LineS where
 Player : Str
 Week : Int
 Stats : List StatS
abbrev zR (x : Play) : HVal := .agg [.str x.Source, .int .i64 x.No, .int .i64 x.At, .int .i64 x.Week, .str x.Match, .str x.Player, .str x.Stat, .int .i64 x.Count, .int .i64 x.Undo]
abbrev zbD (l : List Play) : HVal := .slice 9 (l.map zR)
abbrev zaD (x : StatS) : HVal := .agg [.str x.Name, .int .i64 x.Count]
abbrev zm7 (l : List StatS) : HVal := .slice 2 (l.map zaD)
abbrev zaK (x : LineS) : HVal := .agg [.str x.Player, .int .i64 x.Week, zm7 x.Stats]
abbrev zcm (l : List LineS) : HVal := .slice 3 (l.map zaK)
abbrev Num := Str × Int
abbrev Of2 := Str × Str
abbrev ziX (x : Num) : HVal := .agg [.str x.1, .int .i64 x.2]
abbrev eOf (x : Of2) : HVal := .agg [.str x.1, .str x.2]
def zdc : Play := ⟨[], 0, 0, 0, [], [], [], 0, 0⟩
def zb3 (n : Int) : Bool := !(out n 1 60)
def playFault (p : Play) : Int :=
 if !(key p.Source) then 5 else if out p.No 1 3000 || !(zba p.At) || !(zb3 p.Week) then 1
 else if !(key p.Match) || !(key p.Player) || !(key p.Stat) then 5
 else if out p.Count (-100000) 100000 || out p.Undo 0 (p.No - 1) then 1
 else if decide (0 < p.Undo) && decide (p.Count ≠ 0) then 3 else 0
def byNo (a b : Play) : Int := orI [zaX a.Source b.Source, zcj a.No b.No]
def zaG (l : List Play) : Nat → List Play → Int
 | _, [] => 0
 | k, p :: r => if playFault p ≠ 0 then playFault p else if 0 < k ∧ byNo p (l.getD (k - 1) zdc) ≤ 0 then 7 else zaG l (k + 1) r
structure ChkS where
 S : List Str
 W : List (Str × Int)
 c : Bool
def zgb (q : ChkS) (p : Play) : ChkS :=
 ⟨zbR p.Source q.S, zY p.Match p.Week q.W, q.c || ((alk p.Match q.W).isSome && ((alk p.Match q.W).getD 0 != p.Week))⟩
def za4 (l : List Play) : ChkS := l.foldl zgb ⟨[], [], false⟩
theorem zcW {l : List Play} {k : Nat} {x : Play} (h : l[k]? = some x) : za4 (l.take (k + 1)) = zgb (za4 (l.take k)) x := by
 rw [zad h]; simp [za4, List.foldl_append]
def zaN (q : ChkS) : Int := if 20 < q.S.length ∨ 400 < q.W.length then 2 else if q.c then 13 else 0
def zz (l : List Play) : Int := if 3000 < l.length then 2 else if zaG l 0 l ≠ 0 then zaG l 0 l else zaN (za4 l)
theorem zgR {l : List Play} {k : Nat} {x : Play} {r : List Play} (h1 : playFault x = 0) (h2 : 0 < k → ¬ byNo x (l.getD (k - 1) zdc) ≤ 0) : zaG l k (x :: r) = zaG l (k + 1) r := by
 rw [zaG, if_neg (by simp [h1]), if_neg (fun h => h2 h.1 h.2)]
theorem zbz {l : List Play} {c : Int} (h1 : l.length ≤ 3000) (h : zaG l 0 l = c) (hc : c ≠ 0) : zz l = c := by
 rw [zz, if_neg (by omega), if_pos (by rw [h]; exact hc), h]
theorem zay {l : List Play} (h1 : l.length ≤ 3000) (h : zaG l 0 l = 0) : zz l = zaN (za4 l) := by
 rw [zz, if_neg (by omega), if_neg (by simp [h])]
theorem zft {l : List Play} (h : zz l = 0) : l.length ≤ 3000 ∧ zaG l 0 l = 0 := by
 unfold zz at h
 split at h
 ·omega
 ·split at h
  ·contradiction
  ·rename_i h1 h2; exact ⟨by omega, by simpa using h2⟩
theorem zcG {p : Play} (h : playFault p = 0) : key p.Source = true ∧ (1 ≤ p.No ∧ p.No ≤ 3000) ∧ zba p.At = true ∧ zb3 p.Week = true ∧ (key p.Match = true ∧ key p.Player = true ∧ key p.Stat = true) ∧ (-100000 ≤ p.Count ∧ p.Count ≤ 100000) ∧ (0 ≤ p.Undo ∧ p.Undo ≤ p.No - 1) := by
 unfold playFault at h
 split at h
 ·omega
 split at h
 ·omega
 split at h
 ·omega
 split at h
 ·omega
 rename_i h1 h2 h3 h4
 simp only [Bool.or_eq_true, Bool.not_eq_true', not_or, Bool.not_eq_false, Bool.not_eq_true] at h1 h2 h3 h4
 exact ⟨h1, zdw h2.1.1, h2.1.2, h2.2, ⟨h3.1.1, h3.1.2, h3.2⟩, zdw h4.1, zdw h4.2⟩
theorem zjl {l : List Play} : ∀ (r : List Play) (k : Nat), zaG l k r = 0 → ∀ x ∈ r, playFault x = 0
 | [], _, _, x, hx => by cases hx
 | p :: r, k, h, x, hx => by
   rw [zaG] at h
   split at h
   ·contradiction
   ·split at h
    ·omega
    ·rename_i h1 _
     rcases List.mem_cons.1 hx with rfl | hx
     ·simpa using h1
     ·exact zjl r (k + 1) h x hx
theorem zea {l : List Play} (h : zz l = 0) : ∀ x ∈ l, playFault x = 0 := zjl l 0 (zft h).2
/-! the source that counts -/
def zcL (trust : List Str) (at' : Int) (B : List (Str × Int)) (p : Play) : List (Str × Int) :=
 if at' < p.At ∨ zbC p.Source trust 0 < 0 then B
 else if (alk p.Match B).isSome = false ∨ zbC p.Source trust 0 < (alk p.Match B).getD 0 then zY p.Match (zbC p.Source trust 0) B else B
def zdA (l : List Play) (trust : List Str) (at' : Int) : List (Str × Int) := l.foldl (zcL trust at') []
theorem zgX {l : List Play} {trust : List Str} {at' : Int} {k : Nat} {x : Play} (h : l[k]? = some x) : zdA (l.take (k + 1)) trust at' = zcL trust at' (zdA (l.take k) trust at') x := by
 rw [zad h]; simp [zdA, List.foldl_append]
def zgj (l : List Play) (trust : List Str) (at' : Int) (m : Str) : Option Str := (alk m (zdA l trust at')).map fun k => trust.getD k.toNat []
/-! what is taken back -/
def ziT (at' : Int) (A : List (Num × Play)) (p : Play) : List (Num × Play) := if p.At ≤ at' then zY (p.Source, p.No) p A else A
def zeS (l : List Play) (at' : Int) : List (Num × Play) := l.foldl (ziT at') []
theorem zkG {l : List Play} {at' : Int} {k : Nat} {x : Play} (h : l[k]? = some x) : zeS (l.take (k + 1)) at' = ziT at' (zeS (l.take k) at') x := by
 rw [zad h]; simp [zeS, List.foldl_append]
def zhb (q p : Play) : Bool := decide (q.Undo = 0) && decide (q.Match = p.Match) && decide (q.Player = p.Player) && decide (q.Stat = p.Stat)
def zf1 (A : List (Num × Play)) (at' : Int) (G : List (Num × Bool)) (p : Play) : List (Num × Bool) :=
 if at' < p.At ∨ p.Undo = 0 then G else if (alk (p.Source, p.Undo) A).isSome = true ∧ zhb ((alk (p.Source, p.Undo) A).getD zdc) p = true then zY (p.Source, p.Undo) true G else G
def ze1 (A : List (Num × Play)) (at' : Int) (l : List Play) : List (Num × Bool) := l.foldl (zf1 A at') []
def zjA (l : List Play) (at' : Int) : List (Num × Bool) := ze1 (zeS l at') at' l
theorem zgk {A : List (Num × Play)} {l : List Play} {at' : Int} {k : Nat} {x : Play} (h : l[k]? = some x) : ze1 A at' (l.take (k + 1)) = zf1 A at' (ze1 A at' (l.take k)) x := by
 rw [zad h]; simp [ze1, List.foldl_append]
def zgu (l : List Play) (at' : Int) (x : Num) : Bool := (alk x (zjA l at')).getD false
/-! lines -/
def ze0 (l : List Play) (trust : List Str) (week at' : Int) (p : Play) : Bool :=
 !(decide (at' < p.At) || p.Week != week || decide (0 < p.Undo) || zgu l at' (p.Source, p.No) || (zgj l trust at' p.Match).getD [] != p.Source)
structure LnS where
 S : List Str
 c : List (Of2 × Int)
def zo2 (q : LnS) (p : Play) : LnS := ⟨zbR p.Player q.S, zY (p.Player, p.Stat) ((alk (p.Player, p.Stat) q.c).getD 0 + p.Count) q.c⟩
def zdi (l : List Play) (trust : List Str) (week at' : Int) (q : LnS) (p : Play) : LnS := if ze0 l trust week at' p then zo2 q p else q
def zaB (l : List Play) (trust : List Str) (week at' : Int) (m : List Play) : LnS := m.foldl (zdi l trust week at') ⟨[], []⟩
theorem zhL {l m : List Play} {trust : List Str} {week at' : Int} {k : Nat} {x : Play} (h : m[k]? = some x) : zaB l trust week at' (m.take (k + 1)) = zdi l trust week at' (zaB l trust week at' (m.take k)) x := by
 rw [zad h]; simp [zaB, List.foldl_append]
def za9 (a b : StatS) : Int := zaX a.Name b.Name
def zaW (c : List (Of2 × Int)) (s : Str) : List StatS := (c.filter fun e => e.1.1 == s && e.2 != 0).map fun e => ⟨e.1.2, e.2⟩
def zbx (c : List (Of2 × Int)) (s : Str) : List StatS := zaV za9 (zaW c s)
def zdS (c : List (Of2 × Int)) (S : List Str) : Bool := c.any (fun e => out e.2 (-100000) 100000) || S.any (fun s => decide (40 < (zaW c s).length))
def zfo (c : List (Of2 × Int)) (S : List Str) : Int := if zdS c S then 12 else 0
def zeO (c : List (Of2 × Int)) (S : List Str) (week : Int) : List LineS := if zdS c S then [] else (zaQ S).map fun s => ⟨s, week, zbx c s⟩
def zaS (l : List Play) (trust : List Str) (week at' : Int) : Int := zfo (zaB l trust week at' l).c (zaB l trust week at' l).S
def zcx (l : List Play) (trust : List Str) (week at' : Int) : List LineS := zeO (zaB l trust week at' l).c (zaB l trust week at' l).S week
/-! order of trust -/
def zdf (l : List Str) : Nat → List Str → Int
 | _, [] => 0
 | k, s :: r => if !(key s) then 5 else if (l.take k).contains s then 6 else zdf l (k + 1) r
def zbw (l : List Str) : Int := if 20 < l.length then 2 else zdf l 0 l
theorem zq8 {s : Str} (h : key s = true) : s.length ≤ 40 := by
 simp only [key, zgO, Bool.and_eq_true, decide_eq_true_eq] at h; exact h.1.1.1.2
theorem zcd {α : Type} {c : α → α → Int} (hc : Cmp c fun _ => True) {l l' : List α} (he : ∀ x y, x ∈ l → y ∈ l → c x y = 0 → x = y) (hp : l'.Perm l) (hw : l'.Pairwise fun a b => ¬ c b a < 0) : l' = zaV c l := by
 have hs := zdE hc (l := l) (fun _ _ => trivial)
 have hw' : l'.Pairwise fun a b => c a b ≤ 0 := hw.imp fun {a b} h => by
  have := hc.flip b a trivial trivial
  omega
 refine List.Perm.eq_of_pairwise (le := fun a b => c a b ≤ 0) (fun a b ha hb h1 h2 => ?_) hw' hs (hp.trans (zbo c l).symm)
 have f1 := hc.flip a b trivial trivial
 exact he a b (hp.mem_iff.1 ha) ((zbo c l).mem_iff.1 hb) (by omega)
theorem zbT : Cmp za9 fun _ => True where
 flip x y _ _ := by unfold za9; rw [zfr x.Name y.Name]; omega
 trans x y z _ _ _ h1 h2 := zfA h1 h2
theorem zga {α : Type} {c : α → α → Int} (hc : Cmp c fun _ => True) : SWO (ltOf c) := by
 have h : ∀ a b, ltOf c a b = decide (c a b < 0) := fun a b => rfl
 refine ⟨fun x => ?_, fun x y z h1 h2 => ?_, fun x y z h1 h2 => ?_⟩
 ·rw [h]; have := hc.flip x x trivial trivial; simp; omega
 ·rw [h] at *
  simp only [decide_eq_true_eq] at *
  have a1 := hc.trans x y z trivial trivial trivial (by omega) (by omega)
  rcases Int.lt_or_eq_of_le a1 with e | e
  ·exact e
  ·exfalso
   have f1 := hc.flip x z trivial trivial
   have a2 := hc.trans z x y trivial trivial trivial (by have := hc.flip z x trivial trivial; omega) (by omega)
   have f2 := hc.flip y z trivial trivial
   omega
 ·rw [h] at *
  simp only [decide_eq_false_iff_not] at *
  have f1 := hc.flip x y trivial trivial
  have f2 := hc.flip y z trivial trivial
  have f3 := hc.flip x z trivial trivial
  have g1 := hc.flip y x trivial trivial
  have g2 := hc.flip z y trivial trivial
  have g3 := hc.flip z x trivial trivial
  have := hc.trans z y x trivial trivial trivial (by omega) (by omega)
  omega
end
section
theorem zjo {α : Type} {l : List α} (h : l.Nodup) {i j : Nat} {a : α} (hi : l[i]? = some a) (hj : l[j]? = some a) : i = j := by
 have key : ∀ (i j : Nat), i < j → l[i]? = some a → l[j]? = some a → False := fun i j hij h1 h2 => by
  have hi := zK h1
  have hj := zK h2
  rw [List.getElem?_eq_getElem hi] at h1
  rw [List.getElem?_eq_getElem hj] at h2
  exact List.pairwise_iff_getElem.1 h i j hi hj hij (Option.some.inj (h1.trans h2.symm))
 rcases Nat.lt_trichotomy i j with h' | h' | h'
 ·exact (key i j h' hi hj).elim
 ·exact h'
 ·exact (key j i h' hj hi).elim
/-! what a range has come to -/
structure VisOk {β : Type} (L : List β) (vis : List Nat) (E : List β) : Prop where
 nd : vis.Nodup
 lt : ∀ j ∈ vis, j < L.length
 eq : E.map some = vis.map fun j => L[j]?
theorem VisOk.nil {β : Type} (L : List β) : VisOk L [] [] := ⟨List.nodup_nil, (fun j h => by cases h), rfl⟩
theorem VisOk.step {β : Type} {L E : List β} {vis : List Nat} (h : VisOk L vis E) {j : Nat} {q : β} (hj : L[j]? = some q) (hn : j ∉ vis) : VisOk L (vis ++ [j]) (E ++ [q]) where
 nd := List.nodup_append.2 ⟨h.nd, by simp, fun a ha b hb => by simp at hb; subst hb; exact fun e => hn (e ▸ ha)⟩
 lt k hk := by
  rcases List.mem_append.1 hk with hk | hk
  ·exact h.lt k hk
  ·simp at hk; subst hk; exact zK hj
 eq := by simp only [List.map_append, h.eq, List.map_cons, List.map_nil, hj]
theorem VisOk.len {β : Type} {L E : List β} {vis : List Nat} (h : VisOk L vis E) : E.length = vis.length := by
 have := congrArg List.length h.eq; simpa using this
theorem VisOk.le {β : Type} {L E : List β} {vis : List Nat} (h : VisOk L vis E) : vis.length ≤ L.length := by
 have := zjR h.nd (m := List.range L.length) fun j hj => List.mem_range.2 (h.lt j hj)
 simpa using this
theorem VisOk.room {β : Type} {L E : List β} {vis : List Nat} (h : VisOk L vis E) {j : Nat} {q : β} (hj : L[j]? = some q) (hn : j ∉ vis) : vis.length < L.length := by
 have := (h.step hj hn).le
 rw [List.length_append] at this
 simp only [List.length_cons, List.length_nil] at this
 omega
theorem VisOk.done {β : Type} {L E : List β} {vis : List Nat} (h : VisOk L vis E) (hl : vis.length = L.length) : E.Perm L := by
 have hp : vis.Perm (List.range L.length) := by
  refine (List.perm_ext_iff_of_nodup h.nd List.nodup_range).2 fun a => ⟨fun ha => List.mem_range.2 (h.lt a ha), fun ha => ?_⟩
  refine Classical.byContradiction fun hna => ?_
  have h1 : (a :: vis).Nodup := List.nodup_cons.2 ⟨hna, h.nd⟩
  have h2 := zjR h1 (m := List.range L.length) fun j hj => by
   rcases List.mem_cons.1 hj with rfl | hj
   ·exact ha
   ·exact List.mem_range.2 (h.lt j hj)
  simp at h2; omega
 have h1 := hp.map fun j => L[j]?
 rw [← h.eq] at h1
 have h2 : ((List.range L.length).map fun j => L[j]?) = L.map some := by
  refine List.ext_getElem? fun i => ?_
  rw [List.getElem?_map, List.getElem?_map]
  rcases Nat.lt_or_ge i L.length with hi | hi
  ·rw [List.getElem?_range hi, List.getElem?_eq_getElem hi]; simp [hi]
  ·rw [List.getElem?_eq_none (by simpa using hi), List.getElem?_eq_none hi]; rfl
 rw [h2] at h1
 have h3 := h1.filterMap id
 have key : ∀ l : List β, (l.map some).filterMap id = l := fun l => by
  induction l with
  | nil => rfl
  | cons x l ih => simp [ih]
 rwa [key, key] at h3
def NextOk {β : Type} (L : List β) (vis : List Nat) (c : Bool) (vis' : List Nat) : Prop :=
 (c = false ∧ vis' = vis ∧ vis.length = L.length) ∨ (c = true ∧ ∃ j q, L[j]? = some q ∧ j ∉ vis ∧ vis' = vis ++ [j])
theorem NextOk.t {β : Type} {L : List β} {vis vis' : List Nat} {c : Bool} (h : NextOk L vis c vis') (hc : c = true) : ∃ j q, L[j]? = some q ∧ j ∉ vis ∧ vis' = vis ++ [j] := by
 rcases h with ⟨h, _⟩ | ⟨_, h⟩
 ·rw [hc] at h; cases h
 ·exact h
theorem NextOk.f {β : Type} {L : List β} {vis vis' : List Nat} {c : Bool} (h : NextOk L vis c vis') (hc : c = false) : vis' = vis ∧ vis.length = L.length := by
 rcases h with ⟨_, h⟩ | ⟨h, _⟩
 ·exact h
 ·rw [hc] at h; cases h
section
variable {P : Program} {e : Env} {dst : Option Tmp} {ty : TypeId} {pos : String} {af : Array Edge} {g : Option (Nat × Bool)} {M : List MObj} {K : HVal → List MObj → Prop}
theorem zod {α : Type} : ∀ {M : List α} {i : Nat} {m : α}, M[i]? = some m → M.set i m = M
 | [], i, m, h => by simp at h
 | x :: M, 0, m, h => by simp at h; simp [h]
 | x :: M, i + 1, m, h => by simp at h; simp [zod h]
theorem zfm [Tracks] {β : Type} {L : List β} {enc : β → HVal × HVal} {x : Operand} {i r b : Nat} {l : List (HVal × HVal)} {vis : List Nat} (hx : zA e x = some (.raw (.pointer (some ⟨r, 0, none⟩)))) (hm : M[i]? = some (.iter r b l vis)) (hL : l = L.map enc)
 (hv : vis.Nodup) (hvl : ∀ j ∈ vis, j < L.length) (hk : ∀ c R vis', NextOk L vis c vis' → K (.tup (.bool c :: R)) (M.set i (.iter r b l vis'))) : EOp P e M ⟨dst, .next x false, ty, pos, af, g⟩ K := by
 have hl : l.length = L.length := by rw [hL, List.length_map]
 refine zuG hx hm hv (fun j hj => by rw [hl]; exact hvl j hj) (fun hlen => ?_) (fun j p hj hn => ?_)
 ·have := hk false [] vis (.inl ⟨rfl, rfl, by rw [hlen, hl]⟩)
  rw [zod hm] at this
  exact this
 ·rw [hL, List.getElem?_map] at hj
  cases hq : L[j]? with
  | none => rw [hq] at hj; cases hj
  | some q => exact hk true [p.1, p.2] (vis ++ [j]) (.inr ⟨rfl, j, q, hq, hn, rfl⟩)
theorem zeL [Tracks] {β : Type} {L : List β} {enc : β → HVal × HVal} {x : Operand} {i r b j : Nat} {l : List (HVal × HVal)} {vis : List Nat} {q : β} (hx : zA e x = some (.raw (.pointer (some ⟨r, 0, none⟩)))) (hm : M[i]? = some (.iter r b l (vis ++ [j]))) (hL : l = L.map enc) (hq : L[j]? = some q)
 (hk : K (.tup [(enc q).1, (enc q).2]) M) : EOp P e M ⟨dst, .entry x, ty, pos, af, g⟩ K :=
 ztf hx hm (p := enc q) (by rw [hL, List.getElem?_map, hq]; rfl) hk
theorem zo9 {α : Type} (f : α → HVal) (L : List (Str × α)) : sk (em f L) = L.map fun p => (.str p.1, f p.2) := by simp [sk]
theorem zhT {κ α : Type} [DecidableEq κ] (ek : κ → HVal) (f : α → HVal) (L : List (κ × α)) : kk ek (em f L) = L.map fun p => (ek p.1, f p.2) := by simp [kk]
end
theorem zxg {α : Type} {a b c d : α} {X : List α} : (a :: b :: c :: d :: X).Perm (a :: d :: c :: b :: X) :=
 List.Perm.cons a (((List.Perm.swap c b (d :: X)).trans ((List.Perm.swap d b X).cons c)).trans (((List.Perm.swap d c (b :: X)))))
/-! maps whose values are owned slices -/
section
variable {β : Type}
abbrev Grp (β : Type) := List (Str × (Value × List β))
abbrev fG {β : Type} (q : Value × List β) : HVal := .raw q.1
abbrev gZ (β : Type) : Value × List β := (.slice none 0 0, [])
def gV (s : Str) (G : Grp β) : Value := ((alk s G).getD (gZ β)).1
def gL (s : Str) (G : Grp β) : List β := ((alk s G).getD (gZ β)).2
def grp (sz : Nat) (e : β → HVal) (G : Grp β) : List MObj := G.map fun p => .arr p.2.1 sz (p.2.2.map e)
theorem zrt {κ α : Type} [DecidableEq κ] {s : κ} {v : α} : ∀ {G : List (κ × α)}, alk s G = some v → ∃ n, G[n]? = some (s, v) ∧ ∀ u, zY s u G = G.set n (s, u)
 | [], h => by simp [alk] at h
 | p :: r, h => by
   simp only [alk] at h
   by_cases hs : s = p.1
   ·rw [if_pos hs] at h
    simp only [Option.some.injEq] at h
    subst h
    exact ⟨0, by simp [hs], fun u => by simp [zY, hs]⟩
   ·rw [if_neg hs] at h
    obtain ⟨n, h1, h2⟩ := zrt h
    exact ⟨n + 1, by simpa using h1, fun u => by simp [zY, hs, h2]⟩
theorem zgY {κ α : Type} [DecidableEq κ] {s : κ} {p : κ → Bool} : ∀ {G : List (κ × α)}, alk s (G.filter fun q => p q.1) = if p s then alk s G else none
 | [] => by simp [alk]
 | q :: r => by
   have ih := zgY (s := s) (p := p) (G := r)
   rw [List.filter_cons]
   by_cases hq : p q.1 = true
   ·rw [if_pos hq]
    simp only [alk]
    by_cases hs : s = q.1
    ·rw [if_pos hs, if_pos hs, hs, if_pos hq]
    ·rw [if_neg hs, if_neg hs, ih]
   ·rw [if_neg hq, ih]
    simp only [alk]
    by_cases hs : s = q.1
    ·rw [hs, if_neg hq, if_neg hq]
    ·rw [if_neg hs]
theorem zct {κ α : Type} [DecidableEq κ] {s : κ} {G : List (κ × α)} (h : alk s G = none) : (G.filter fun q => decide (q.1 ≠ s)) = G := by
 rw [List.filter_eq_self]
 intro q hq
 rw [zcM] at h
 simp only [decide_eq_true_eq]
 exact fun e => h (e ▸ List.mem_map_of_mem hq)
theorem zdF {κ α : Type} [DecidableEq κ] {s : κ} {v : α} : ∀ {G : List (κ × α)}, ANodup G → alk s G = some v → G.Perm ((s, v) :: G.filter fun q => decide (q.1 ≠ s))
 | [], _, h => by simp [alk] at h
 | p :: r, hn, h => by
   have h1 := List.nodup_cons.1 hn
   simp only [alk] at h
   by_cases hs : s = p.1
   ·rw [if_pos hs] at h
    simp only [Option.some.injEq] at h
    have h2 : alk s r = none := by rw [zcM, hs]; exact h1.1
    rw [List.filter_cons, if_neg (by simp [hs]), zct h2, hs, ← h]
   ·rw [if_neg hs] at h
    rw [List.filter_cons, if_pos (by simp; exact fun e => hs e.symm)]
    exact (List.Perm.cons p (zdF h1.2 h)).trans (List.Perm.swap _ _ _)
end
section
variable {P : Program} {e : Env} {dst : Option Tmp} {ty : TypeId} {pos : String} {af : Array Edge} {g : Option (Nat × Bool)} {M : List MObj} {K : HVal → List MObj → Prop} {β : Type} {eb : β → HVal}
theorem zqD [Tracks] {I : Imm} {M : List MObj} {w : World} (sz : Nat) (hs : Sat P I M w) : Sat P I (.arr (.slice none 0 0) sz [] :: M) w where
 imm := hs.imm
 obj m hm := by
  rcases List.mem_cons.1 hm with rfl | hm
  ·exact .inl ⟨rfl, rfl⟩
  ·exact hs.obj m hm
 nodup := by simp only [blocks, List.flatMap_cons, MObj.blocks, List.nil_append]; exact hs.nodup
 apart b hb := hs.apart b (by simpa only [blocks, List.flatMap_cons, MObj.blocks, List.nil_append] using hb)
 os := hs.os
 output := hs.output
 tape := hs.tape
 tab := hs.tab
 low := hs.low
theorem EOp.pre [Tracks] {M' : List MObj} {o : Oper} (hm : ∀ I F w, Sat P I (M ++ F) w → Sat P I (M' ++ F) w) (h : EOp P e M' o K) : EOp P e M o K := fun I F a w ho hs => h I F a w ho (hm I F w hs)
theorem EOp.post_perm [Tracks] {o : Oper} (h : EOp P e M o fun x N => ∃ N', N.Perm N' ∧ K x N') : EOp P e M o K := fun I F a w ho hs =>
 Oper.wp_noQ (fun _ _ ⟨v, x, M', J, h1, h2, ⟨N', h3, h4⟩, h5, h6⟩ => ⟨v, x, N', J, h1, h2, h4, h5, h6.perm (h3.append_right F)⟩) (h I F a w ho hs)
theorem znw [Tracks] {x y : Operand} {t el : TypeId} {size bytes sz b2 : Nat} {zero z2 : Value} {d : TD} {A : List MObj} {G : Grp β} {s : Str} {ys : List β}
 (hf : Fits P t (.slice el) size bytes zero) (hel : Fits P el d sz b2 z2) (hz : z2.cells.size = sz) (hby : Nat.ble b2 100000 = true)
 (hx : zA e x = some (.raw (gV s G))) (hy : zA e y = some (.slice sz (ys.map eb))) (hfl : ∀ y ∈ ys.map eb, za5 (zh y) = true) (hlen : (gL s G).length + ys.length ≤ 1000000000)
 (hk : ∀ v', K (.raw v') (A ++ grp sz eb (zY s (v', gL s G ++ ys) G))) : EOp P e (A ++ grp sz eb G) ⟨dst, .call ⟨.builtin .append, #[x, y], #[t, t]⟩, ty, pos, af, g⟩ K := by
 cases hq : alk s G with
 | none =>
   have h1 : gV s G = .slice none 0 0 := by unfold gV; rw [hq]; rfl
   have h2 : gL s G = [] := by unfold gL; rw [hq]; rfl
   rw [h1] at hx
   rw [h2, List.nil_append] at hk
   refine EOp.pre (M' := .arr (.slice none 0 0) sz [] :: (A ++ grp sz eb G)) (fun I F w hs => zqD sz hs) (EOp.post_perm ?_)
   refine zan (i := 0) hf hel hz hby hx hy rfl hfl (by rw [h2] at hlen; simpa using hlen) fun v' => ⟨_, ?_, hk v'⟩
   rw [zhp hq]
   simp only [List.set_cons_zero, grp, List.map_append, List.map_cons, List.map_nil, List.nil_append]
   rw [← List.append_assoc]
   exact (List.perm_append_comm (l₁ := [MObj.arr v' sz (ys.map eb)]) (l₂ := A ++ G.map fun p => MObj.arr p.2.1 sz (p.2.2.map eb)))
 | some q =>
   obtain ⟨v, l⟩ := q
   have h1 : gV s G = v := by unfold gV; rw [hq]; rfl
   have h2 : gL s G = l := by unfold gL; rw [hq]; rfl
   obtain ⟨n, h3, h4⟩ := zrt hq
   rw [h1] at hx
   rw [h2] at hk hlen
   have h5 : (A ++ grp sz eb G)[A.length + n]? = some (.arr v sz (l.map eb)) := by
    rw [List.getElem?_append_right (by omega), Nat.add_sub_cancel_left]
    simp [grp, h3]
   refine zan (i := A.length + n) hf hel hz hby hx hy h5 hfl (by simpa using hlen) fun v' => ?_
   have h6 : (A ++ grp sz eb G).set (A.length + n) (.arr v' sz (l.map eb ++ ys.map eb)) = A ++ grp sz eb (zY s (v', l ++ ys) G) := by
    rw [List.set_append_right _ _ (by omega), Nat.add_sub_cancel_left, h4]
    simp [grp, List.map_set]
   rw [h6]
   exact hk v'
theorem Ghost.grp_take [Tracks] {A : List MObj} {G G' : Grp β} {s : Str} {sz : Nat} (hn : ANodup G) (hG : alk s G = alk s G') : Ghost e (A ++ grp sz eb G) e (.arr (gV s G') sz ((gL s G').map eb) :: (A ++ grp sz eb (G.filter fun q => decide (q.1 ≠ s)))) := by
 cases hq : alk s G with
 | none =>
   have h1 : gV s G' = .slice none 0 0 := by unfold gV; rw [← hG, hq]; rfl
   have h2 : gL s G' = [] := by unfold gL; rw [← hG, hq]; rfl
   rw [h1, h2, zct hq]
   exact Ghost.arr_nil sz
 | some q =>
   obtain ⟨v, l⟩ := q
   have h1 : gV s G' = v := by unfold gV; rw [← hG, hq]; rfl
   have h2 : gL s G' = l := by unfold gL; rw [← hG, hq]; rfl
   rw [h1, h2]
   refine Ghost.perm ?_
   have h3 := ((zdF hn hq).map fun p => MObj.arr p.2.1 sz (p.2.2.map eb)).append_left A
   refine h3.trans ?_
   simp only [List.map_cons, grp]
   exact List.perm_middle
end
end
section
section
variable {κ α γ : Type} [DecidableEq κ]
theorem VisOk.fresh {L E : List (κ × α)} {vis : List Nat} (h : VisOk L vis E) (hn : ANodup L) {j : Nat} {q : κ × α} (hj : L[j]? = some q) (hv : j ∉ vis) : alk q.1 E = none := by
 rw [zcM]
 intro hm
 obtain ⟨q', h1, h2⟩ := List.mem_map.1 hm
 have h3 : some q' ∈ E.map some := List.mem_map_of_mem h1
 rw [h.eq] at h3
 obtain ⟨j', h4, h5⟩ := List.mem_map.1 h3
 have e : j' = j := zjo hn (a := q.1) (by rw [List.getElem?_map, h5]; simp [h2]) (by rw [List.getElem?_map, hj]; rfl)
 exact hv (e ▸ h4)
theorem ANodup.perm {A B : Type} {E L : List (A × B)} (hn : ANodup L) (hp : E.Perm L) : ANodup E := (hp.map (fun p : A × B => p.1)).nodup_iff.2 hn
theorem zpp {E L : List (κ × α)} (hp : E.Perm L) (hn : ANodup L) (m : κ) : alk m E = alk m L := by
 have hne : ANodup E := hn.perm hp
 cases h : alk m L with
 | none =>
   rw [zcM] at h ⊢
   exact fun hm => h ((hp.map (·.1)).mem_iff.1 hm)
 | some v => exact (zcg hne).1 (hp.mem_iff.2 ((zcg hn).2 h))
theorem zkW (g : α → γ) (m : κ) : ∀ (E : List (κ × α)), alk m (E.map fun q => (q.1, g q.2)) = (alk m E).map g
 | [] => rfl
 | p :: r => by
   have ih := zkW g m r
   simp only [List.map_cons, alk]
   by_cases h : m = p.1
   ·rw [if_pos h, if_pos h]; rfl
   ·rw [if_neg h, if_neg h, ih]
theorem ANodup.map {A B C : Type} (g : B → C) {E : List (A × B)} (h : ANodup E) : ANodup (E.map fun q => (q.1, g q.2)) := by
 unfold ANodup at *; rw [List.map_map]; exact h
end
theorem zpB (s : Str) : ∀ (l : List Str) (k : Int), zbC s l k = -1 ∨ (k ≤ zbC s l k ∧ zbC s l k < k + l.length)
 | [], k => .inl rfl
 | x :: r, k => by
   simp only [zbC]
   by_cases h : s = x
   ·rw [if_pos h]; right; simp; omega
   ·rw [if_neg h]
    rcases zpB s r (k + 1) with h' | h'
    ·exact .inl h'
    ·right; simp only [List.length_cons]; omega
theorem znp {trust : List Str} {n : Int} : ∀ (l : List Play) (B : List (Str × Int)), ANodup B → (∀ q ∈ B, 0 ≤ q.2 ∧ q.2 < trust.length) → ANodup (l.foldl (zcL trust n) B) ∧ ∀ q ∈ l.foldl (zcL trust n) B, 0 ≤ q.2 ∧ q.2 < trust.length
 | [], B, h1, h2 => ⟨h1, h2⟩
 | p :: r, B, h1, h2 => by
   refine znp r (zcL trust n B p) ?_ ?_
   ·unfold zcL; split
    ·exact h1
    ·split
     ·exact h1.put
     ·exact h1
   ·unfold zcL; split
    ·exact h2
    ·rename_i hc
     split
     ·intro q hq
      rcases zce hq with rfl | hq
      ·rcases zpB p.Source trust 0 with h | h
       ·exfalso; exact hc (.inr (by rw [h]; decide))
       ·dsimp only; omega
      ·exact h2 q hq
     ·exact h2
theorem zjf (l : List Play) (trust : List Str) (n : Int) : ANodup (zdA l trust n) := (znp l [] ANodup.nil (fun q h => by cases h)).1
theorem zsI {l : List Play} {trust : List Str} {n : Int} {q : Str × Int} (h : q ∈ zdA l trust n) : 0 ≤ q.2 ∧ q.2 < trust.length := (znp l [] ANodup.nil (fun q h => by cases h)).2 q h
abbrev zmM (trust : List Str) (E : List (Str × Int)) : List (Str × Str) := E.map fun q => (q.1, trust.getD q.2.toNat [])
theorem zs6 {trust : List Str} {L E : List (Str × Int)} {vis : List Nat} (h : VisOk L vis E) (hn : ANodup L) {j : Nat} {q : Str × Int} (hj : L[j]? = some q) (hv : j ∉ vis) : zY q.1 (trust.getD q.2.toNat []) (zmM trust E) = zmM trust (E ++ [q]) := by
 rw [zhp]
 ·simp
 ·have := zkW (fun k : Int => trust.getD k.toNat []) q.1 E
  rw [this, h.fresh hn hj hv]; rfl
theorem zt9 {l : List Play} {trust : List Str} {n : Int} {E : List (Str × Int)} (hp : E.Perm (zdA l trust n)) (m : Str) : alk m (zmM trust E) = zgj l trust n m := by
 have := zkW (fun k : Int => trust.getD k.toNat []) m E
 rw [this, zpp hp (zjf _ _ _)]; rfl
theorem zr6 {l : List Play} {trust : List Str} {n : Int} {E : List (Str × Int)} (hp : E.Perm (zdA l trust n)) : ANodup (zmM trust E) :=
 ANodup.map (fun k : Int => trust.getD k.toNat []) ((zjf _ _ _).perm hp)
/-! groups of statistics -/
structure GOk (E : List (Of2 × Int)) (G : Grp StatS) : Prop where
 nd : ANodup G
 raw : ∀ s, gL s G = zaW E s
theorem GOk.nil : GOk [] [] := ⟨ANodup.nil, fun s => rfl⟩
theorem zjB (E : List (Of2 × Int)) (q : Of2 × Int) (s : Str) : zaW (E ++ [q]) s = zaW E s ++ if q.1.1 = s ∧ q.2 ≠ 0 then [⟨q.1.2, q.2⟩] else [] := by
 unfold zaW
 rw [List.filter_append, List.map_append, List.filter_cons]
 by_cases h : q.1.1 = s ∧ q.2 ≠ 0
 ·rw [if_pos h, if_pos (by simpa using h)]; rfl
 ·rw [if_neg h, if_neg (by simpa using h)]; rfl
theorem GOk.skip {E : List (Of2 × Int)} {G : Grp StatS} (h : GOk E G) {q : Of2 × Int} (hq : q.2 = 0) : GOk (E ++ [q]) G :=
 ⟨h.nd, fun s => by rw [zjB, if_neg (by simp [hq]), List.append_nil, h.raw]⟩
theorem zwO (s t : Str) (v : Value) (l : List StatS) (G : Grp StatS) : gL t (zY s (v, l) G) = if t = s then l else gL t G := by
 unfold gL; rw [zcr]; split <;> rfl
theorem GOk.put {E : List (Of2 × Int)} {G : Grp StatS} (h : GOk E G) {q : Of2 × Int} (hq : ¬ q.2 = 0) (v : Value) : GOk (E ++ [q]) (zY q.1.1 (v, gL q.1.1 G ++ [⟨q.1.2, q.2⟩]) G) := by
 refine ⟨h.nd.put, fun s => ?_⟩
 rw [zwO, zjB]
 by_cases hs : s = q.1.1
 ·rw [if_pos hs, if_pos ⟨hs.symm, hq⟩, hs, h.raw]
 ·rw [if_neg hs, if_neg (fun e => hs e.1.symm), List.append_nil, h.raw]
theorem zim (E : List (Of2 × Int)) (s : Str) : (zaW E s).length ≤ E.length := by
 unfold zaW; rw [List.length_map]; exact List.length_filter_le _ _
theorem zjI {E c : List (Of2 × Int)} (h : E.Perm c) (s : Str) : (zaW E s).Perm (zaW c s) := (h.filter _).map _
theorem znV {c : List (Of2 × Int)} (h : ANodup c) (s : Str) {x y : StatS} (hx : x ∈ zaW c s) (hy : y ∈ zaW c s) (e : x.Name = y.Name) : x = y := by
 unfold zaW at hx hy
 obtain ⟨p, hp, rfl⟩ := List.mem_map.1 hx
 obtain ⟨p', hp', rfl⟩ := List.mem_map.1 hy
 have h1 := List.mem_filter.1 hp
 have h2 := List.mem_filter.1 hp'
 have k1 : p.1.1 = s := by have := h1.2; simp only [Bool.and_eq_true, beq_iff_eq] at this; exact this.1
 have k2 : p'.1.1 = s := by have := h2.2; simp only [Bool.and_eq_true, beq_iff_eq] at this; exact this.1
 have k3 : p.1 = p'.1 := Prod.ext (k1.trans k2.symm) e
 have a1 := (zcg h (x := p.1) (v := p.2)).1 h1.1
 have a2 := (zcg h (x := p'.1) (v := p'.2)).1 h2.1
 rw [← k3, a1] at a2
 have k4 : p.2 = p'.2 := Option.some.inj a2
 have k5 : p.1.2 = p'.1.2 := e
 rw [k4, k5]
theorem zpX {E c : List (Of2 × Int)} (hE : E.Perm c) (hn : ANodup c) {G : Grp StatS} (hG : GOk E G) {s : Str} {l' : List StatS} (hp : l'.Perm (gL s G)) (hw : l'.Pairwise fun a b => ¬ za9 b a < 0) : l' = zbx c s := by
 unfold zbx
 rw [hG.raw] at hp
 exact zcd zbT (fun x y hx hy e => znV hn s hx hy (zbH.1 e)) (hp.trans (zjI hE s)) hw
theorem zpz {E c : List (Of2 × Int)} (hE : E.Perm c) {G : Grp StatS} (hG : GOk E G) (s : Str) : (gL s G).length = (zaW c s).length := by
 rw [hG.raw]; exact (zjI hE s).length_eq
abbrev zfy (G : Grp StatS) (N : List Str) : Grp StatS := G.filter fun q => !(N.contains q.1)
theorem ztZ (G : Grp StatS) : zfy G [] = G := by unfold zfy; rw [List.filter_eq_self]; simp
theorem zuh {G : Grp StatS} {N : List Str} {s : Str} (h : s ∉ N) : alk s (zfy G N) = alk s G := by
 have := zgY (s := s) (p := fun k => !(N.contains k)) (G := G)
 unfold zfy
 rw [this, if_pos (by simpa using h)]
theorem zsN (G : Grp StatS) (N : List Str) (s : Str) : (zfy G N).filter (fun q => decide (q.1 ≠ s)) = zfy G (N ++ [s]) := by
 unfold zfy
 rw [List.filter_filter]
 refine List.filter_congr fun q _ => ?_
 by_cases h1 : q.1 ∈ N <;> by_cases h2 : q.1 = s <;> simp [h1, h2]
theorem zsr {G : Grp StatS} {N : List Str} (h : ANodup G) : ANodup (zfy G N) := by
 unfold ANodup at *
 exact h.sublist ((List.filter_sublist).map _)
theorem zsG {l : List Str} (hn : l.Nodup) {k : Nat} {s : Str} (h : l[k]? = some s) : s ∉ l.take k := by
 intro hm
 obtain ⟨j, hj⟩ := List.getElem?_of_mem hm
 have hjk : j < k := by have := zK hj; simp at this; omega
 rw [List.getElem?_take_of_lt hjk] at hj
 have := zjo hn hj h
 omega
theorem zfI (l : List Str) : (zaQ l).Perm l := List.mergeSort_perm _ _
theorem zsn {c : List (Of2 × Int)} {S : List Str} {q : Of2 × Int} (hq : q ∈ c) (ho : out q.2 (-100000) 100000 = true) : zdS c S = true := by
 unfold zdS; rw [Bool.or_eq_true]; left; rw [List.any_eq_true]; exact ⟨q, hq, ho⟩
theorem zr4 {c : List (Of2 × Int)} {S : List Str} {s : Str} (hs : s ∈ S) (ho : 40 < (zaW c s).length) : zdS c S = true := by
 unfold zdS; rw [Bool.or_eq_true]; right; rw [List.any_eq_true]; exact ⟨s, hs, by simpa using ho⟩
theorem ztA {c : List (Of2 × Int)} {S : List Str} (h1 : ∀ q ∈ c, out q.2 (-100000) 100000 = false) (h2 : ∀ s ∈ S, ¬ 40 < (zaW c s).length) : zdS c S = false := by
 unfold zdS; rw [Bool.or_eq_false_iff]
 constructor
 ·rw [List.any_eq_false]; intro q hq; rw [h1 q hq]; simp
 ·rw [List.any_eq_false]; intro s hs; simpa using h2 s hs
/-! lines -/
theorem zfc {s t : Str} {S : List Str} : t ∈ zbR s S ↔ t = s ∨ t ∈ S := by
 unfold zbR
 by_cases h : S.contains s = true
 ·rw [if_pos h]
  have : s ∈ S := by simpa using h
  constructor
  ·exact .inr
  ·rintro (rfl | h)
   ·exact this
   ·exact h
 ·rw [if_neg h]; simp; exact Or.comm
theorem zgU {s : Str} {S : List Str} (h : S.Nodup) : (zbR s S).Nodup := by
 unfold zbR
 by_cases hc : S.contains s = true
 ·rw [if_pos hc]; exact h
 ·rw [if_neg hc]
  exact List.nodup_append.2 ⟨h, by simp, fun a ha b hb => by simp at hb; subst hb; intro e; subst e; simp at hc; exact hc ha⟩
theorem zq7 (s : Str) (S : List Str) : (zbR s S).length ≤ S.length + 1 := by
 unfold zbR; split
 ·omega
 ·simp
structure LnOk (q : LnS) (n : Nat) : Prop where
 c : ANodup q.c
 S : q.S.Nodup
 k : ∀ s ∈ q.S, s.length ≤ 40
 cl : q.c.length ≤ n
 Sl : q.S.length ≤ n
 bd : ∀ e ∈ q.c, -(100000 * (n : Int)) ≤ e.2 ∧ e.2 ≤ 100000 * (n : Int)
theorem LnOk.val {q : LnS} {n : Nat} (h : LnOk q n) (s : Of2) : -(100000 * (n : Int)) ≤ (alk s q.c).getD 0 ∧ (alk s q.c).getD 0 ≤ 100000 * (n : Int) := by
 cases hq : alk s q.c with
 | none => simp; omega
 | some v => exact h.bd _ (zbK hq)
theorem LnOk.put {q : LnS} {n : Nat} (h : LnOk q n) {p : Play} (hp : playFault p = 0) : LnOk (zo2 q p) (n + 1) := by
 obtain ⟨_, _, _, _, ⟨_, k2, _⟩, hb, _⟩ := zcG hp
 have hv := h.val (p.Player, p.Stat)
 refine ⟨h.c.put, zgU h.S, fun s hs => ?_, Nat.le_trans (zeK _ _ _) (by have := h.cl; omega), Nat.le_trans (zq7 _ _) (by have := h.Sl; omega), fun e he => ?_⟩
 ·rcases zfc.1 hs with rfl | hs
  ·exact zq8 k2
  ·exact h.k s hs
 ·rcases zce he with rfl | he
  ·dsimp only; omega
  ·have := h.bd e he; omega
theorem LnOk.up {q : LnS} {n : Nat} (h : LnOk q n) : LnOk q (n + 1) :=
 ⟨h.c, h.S, h.k, by have := h.cl; omega, by have := h.Sl; omega, fun e he => by have := h.bd e he; omega⟩
theorem zrn {l : List Play} {trust : List Str} {week n : Int} : ∀ (m : List Play) (q : LnS) (i : Nat), LnOk q i → (∀ x ∈ m, playFault x = 0) → LnOk (m.foldl (zdi l trust week n) q) (i + m.length)
 | [], q, i, h, _ => h
 | x :: m, q, i, h, hm => by
   have h1 : LnOk (zdi l trust week n q x) (i + 1) := by
    unfold zdi; split
    ·exact h.put (hm x List.mem_cons_self)
    ·exact h.up
   have := zrn (l := l) (trust := trust) (week := week) (n := n) m _ (i + 1) h1 fun y hy => hm y (List.mem_cons_of_mem _ hy)
   rw [List.foldl_cons, List.length_cons, show i + (m.length + 1) = i + 1 + m.length by omega]
   exact this
theorem zja {l m : List Play} {trust : List Str} {week n : Int} (hm : ∀ x ∈ m, playFault x = 0) : LnOk (zaB l trust week n m) m.length := by
 have := zrn (l := l) (trust := trust) (week := week) (n := n) m ⟨[], []⟩ 0 ⟨ANodup.nil, List.nodup_nil, (fun s h => by cases h), Nat.le_refl _, Nat.le_refl _, fun e h => by cases h⟩ hm
 rw [Nat.zero_add] at this; exact this
theorem zuK {l : List Play} {O : List (Str × Str)} {trust : List Str} {week n : Int} {x : Play} (hO : ∀ m, alk m O = zgj l trust n m)
 (h : (((n < x.At ∨ ¬ x.Week = week) ∨ 0 < x.Undo) ∨ (alk (x.Source, x.No) (zjA l n)).getD false = true) ∨ ¬ (alk x.Match O).getD [] = x.Source) : ze0 l trust week n x = false := by
 rw [hO] at h
 simp only [ze0, zgu, Bool.not_eq_false', Bool.or_eq_true, decide_eq_true_eq, bne_iff_ne, ne_eq]
 exact h
theorem zuk {l : List Play} {O : List (Str × Str)} {trust : List Str} {week n : Int} {x : Play} (hO : ∀ m, alk m O = zgj l trust n m)
 (h : (((x.At ≤ n ∧ x.Week = week) ∧ x.Undo ≤ 0) ∧ (alk (x.Source, x.No) (zjA l n)).getD false = false) ∧ (alk x.Match O).getD [] = x.Source) : ze0 l trust week n x = true := by
 rw [hO] at h
 obtain ⟨⟨⟨⟨h1, h2⟩, h3⟩, h4⟩, h5⟩ := h
 simp only [ze0, zgu, h4, h5, h2, Bool.not_eq_true', Bool.or_eq_false_iff, decide_eq_false_iff_not, bne_self_eq_false, and_true]
 omega
def ziL (l : List Play) (t : List Str) (week n : Int) : Int := if orI [zz l, zbw t] != 0 then orI [zz l, zbw t] else if !(zb3 week) || !(zba n) then 1 else zaS l t week n
def ziy (l : List Play) (t : List Str) (week n : Int) : List LineS := if orI [zz l, zbw t] != 0 then [] else if !(zb3 week) || !(zba n) then [] else zcx l t week n
theorem okPT {l : List Play} {t : List Str} (h : orI [zz l, zbw t] = 0) : zz l = 0 ∧ zbw t = 0 := by
 rw [zh6] at h; split at h
 ·contradiction
 ·rename_i h1; exact ⟨by simpa using h1, h⟩
end
end Go.HL
section
namespace Go.HL
theorem orI3 {a b c : Int} (h : orI [a, b, c] = 0) : a = 0 ∧ b = 0 ∧ c = 0 := by
 simp only [orI] at h
 split at h
 ·exact absurd h (by assumption)
 ·split at h
  ·exact absurd h (by assumption)
  ·split at h
   ·exact absurd h (by assumption)
   ·exact ⟨by omega, by omega, by omega⟩
end Go.HL
namespace Go.HL
end Go.HL
namespace Go.HL
end Go.HL
end
namespace Go.HL
section
/-- The state of a loop that draws: the list that grows, how many were drawn. -/
structure GL (α : Type) where
 u : Value
 out : List α
 a : Nat
structure GLok {α : Type} (P : α → Prop) (n m : Nat) (q : GL α) : Prop where
 len : q.out.length ≤ n
 all : ∀ x ∈ q.out, P x
 a : q.a ≤ m
section
variable {α : Type} {P : α → Prop}
theorem GLok.add {n m m' : Nat} {u u' : Value} {out : List α} {a1 a2 : Nat} {x : α} (h : GLok P n m ⟨u, out, a1⟩) (hx : P x) (ha : a2 ≤ m') : GLok P (n + 1) m' ⟨u', out ++ [x], a2⟩ :=
 ⟨by have := h.len; simp at *; omega, fun y hy => by
  rcases List.mem_append.1 hy with hy | hy
  ·exact h.all y hy
  ·simp at hy; subst hy; exact hx, ha⟩
theorem GLok.same {n m m' : Nat} {u : Value} {out : List α} {a1 a2 : Nat} (h : GLok P n m ⟨u, out, a1⟩) (ha : a2 ≤ m') : GLok P (n + 1) m' ⟨u, out, a2⟩ :=
 ⟨by have := h.len; dsimp only at *; omega, h.all, ha⟩
theorem zf4 {l : List α} {j : Nat} {y : α} (h : ∀ x ∈ l, P x) (hy : P y) : ∀ x ∈ l.set j y, P x := fun x hx => by
 rcases zrM hx with rfl | hx
 ·exact hy
 ·exact h x hx
end
theorem zm9 : Sh [] := by simp [Sh]
end
section
structure PairS where
 Name : Str
 Val : Str
end
section

end
section
open Op (bytesLess)
end
section

end
section

end
section

end
section

end
section

end
section
def zdt {α : Type} (e : α → HVal) (a b : α) : Bool := zbX (zh (e a)) (zh (e b))
def zbG {α : Type} (e : α → HVal) : List α → List α → Bool
 | [], [] => true
 | a :: l, b :: m => zdt e a b && zbG e l m
 | _, _ => false
theorem zdK {α : Type} {e : α → HVal} : ∀ {l m : List α}, l.length ≠ m.length → zbG e l m = false
 | [], [], h => absurd rfl h
 | [], _ :: _, _ => rfl
 | _ :: _, [], _ => rfl
 | a :: l, b :: m, h => by
   rw [zbG, zdK (by intro q; apply h; simp [q])]; simp
end
section

end
section
structure Hall where
 Teams : List Str
 Players : List Str
 Budget : Int
 Places : Int
structure Sale where
 Player : Str
 Team : Str
 Price : Int
def zi2 : List Sale → Str → Int
 | [], _ => 0
 | x :: r, t => (if x.Team = t then x.Price else 0) + zi2 r t
def many : List Sale → Str → Int
 | [], _ => 0
 | x :: r, t => (if x.Team = t then 1 else 0) + many r t
theorem zsm (l : List Sale) (x : Sale) (t : Str) : zi2 (l ++ [x]) t = zi2 l t + (if x.Team = t then x.Price else 0) := by
 induction l with
 | nil => simp [zi2]
 | cons y r ih => simp only [List.cons_append, zi2, ih]; omega
theorem ztx (l : List Sale) (x : Sale) (t : Str) : many (l ++ [x]) t = many l t + (if x.Team = t then 1 else 0) := by
 induction l with
 | nil => simp [many]
 | cons y r ih => simp only [List.cons_append, many, ih]; omega
abbrev zfO := List (Str × HVal)
def lkI (L : zfO) (t : Str) : HVal := match zar t L with | some p => p.2 | none => .int .i64 0
theorem zgI {s t : Str} {v : HVal} : ∀ {L : zfO}, zar s L = none → zar t (L ++ [(s, v)]) = if t = s then some (L.length, v) else zar t L
 | [], _ => by by_cases h : t = s <;> simp [zar, h]
 | (k, h) :: r, hn => by
   simp only [zar] at hn
   by_cases hk : s = k
   ·rw [if_pos hk] at hn; cases hn
   ·rw [if_neg hk] at hn
    have hr : zar s r = none := by cases hq : zar s r with
     | none => rfl
     | some p => rw [hq] at hn; cases hn
    have ih := zgI (t := t) (v := v) hr
    simp only [List.cons_append, zar]
    by_cases ht : t = k
    ·have : ¬ t = s := fun e => hk (e ▸ ht)
     rw [if_pos ht, if_neg this, if_pos ht]
    ·rw [if_neg ht, ih]
     by_cases hs : t = s
     ·rw [if_pos hs, if_pos hs]; simp
     ·rw [if_neg hs, if_neg hs, if_neg ht]
theorem znT {s t : Str} {v : HVal} : ∀ {L : zfO} {j : Nat} {h : HVal}, zar s L = some (j, h) → (zar t (L.set j (s, v))) = if t = s then some (j, v) else zar t L
 | [], j, h, hh => by simp [zar] at hh
 | (k, x) :: r, j, h, hh => by
   simp only [zar] at hh
   by_cases hk : s = k
   ·rw [if_pos hk] at hh
    simp only [Option.some.injEq, Prod.mk.injEq] at hh
    obtain ⟨rfl, rfl⟩ := hh
    subst hk
    simp only [List.set_cons_zero, zar]
    by_cases ht : t = s
    ·rw [if_pos ht, if_pos ht]
    ·rw [if_neg ht, if_neg ht, if_neg ht]
   ·rw [if_neg hk] at hh
    cases hq : zar s r with
    | none => rw [hq] at hh; cases hh
    | some p =>
      rw [hq] at hh
      simp only [Option.map_some, Option.some.injEq, Prod.mk.injEq] at hh
      obtain ⟨rfl, rfl⟩ := hh
      have ih := znT (t := t) (v := v) (L := r) (j := p.1) (h := p.2) (by rw [hq])
      simp only [List.set_cons_succ, zar]
      by_cases ht : t = k
      ·have : ¬ t = s := fun e => hk (e ▸ ht)
       rw [if_pos ht, if_neg this, if_pos ht]
      ·rw [if_neg ht, ih, if_neg ht]
       by_cases hs : t = s
       ·rw [if_pos hs, if_pos hs]; rfl
       ·rw [if_neg hs, if_neg hs]
theorem zn4 (s t : Str) (v : HVal) (L : zfO) : (zar t (sput s v L)).map (·.2) = if t = s then some v else (zar t L).map (·.2) := by
 unfold sput
 cases hq : zar s L with
 | none => simp only []; rw [zgI hq]; split <;> rfl
 | some p => obtain ⟨j, h⟩ := p; simp only []; rw [znT hq]; split <;> rfl
theorem ztQ (L : zfO) (t : Str) : lkI L t = ((zar t L).map (·.2)).getD (.int .i64 0) := by
 unfold lkI; cases zar t L <;> rfl
theorem zrs (s t : Str) (v : HVal) (L : zfO) : lkI (sput s v L) t = if t = s then v else lkI L t := by
 rw [ztQ, zn4, ztQ]; split <;> rfl
/-- An auction after sales. -/
structure AucOk (h : Hall) (l : List Sale) (S : List Str) (L H : zfO) : Prop where
 sold : ∀ s, S.contains s = l.any (fun y => y.Player == s)
 left : ∀ t, h.Teams.contains t = true → lkI L t = .int .i64 (h.Budget - zi2 l t)
 got : ∀ t, lkI H t = .int .i64 (many l t)
theorem zjC (s t : Str) (l : List Str) : (zbR s l).contains t = (l.contains t || s == t) := by
 unfold zbR
 by_cases hc : l.contains s = true
 ·rw [if_pos hc]
  by_cases h : s = t
  ·subst h; rw [hc]; simp
  ·have : (s == t) = false := by simpa using h
   simp [this]
 ·rw [if_neg hc, List.contains_eq_any_beq, List.any_append, ← List.contains_eq_any_beq]
  congr 1
  simp only [List.any_cons, List.any_nil, Bool.or_false]
  rw [Bool.eq_iff_iff, beq_iff_eq, beq_iff_eq]; exact eq_comm
theorem AucOk.add {h : Hall} {l : List Sale} {S : List Str} {L H : zfO} (ok : AucOk h l S L H) (x : Sale) (hx : h.Teams.contains x.Team = true) :
 AucOk h (l ++ [x]) (zbR x.Player S) (sput x.Team (.int .i64 (h.Budget - zi2 l x.Team - x.Price)) L) (sput x.Team (.int .i64 (many l x.Team + 1)) H) where
 sold s := by rw [zjC, ok.sold, List.any_append]; simp
 left t ht := by
  rw [zrs, zsm]
  by_cases e : t = x.Team
  ·subst e; rw [if_pos rfl, if_pos rfl]; congr 1; omega
  ·rw [if_neg e, if_neg (fun q => e q.symm), ok.left t ht]; congr 1; omega
 got t := by
  rw [zrs, ztx]
  by_cases e : t = x.Team
  ·subst e; rw [if_pos rfl, if_pos rfl]
  ·rw [if_neg e, if_neg (fun q => e q.symm), ok.got t]; congr 1; omega
end
section
/-! numbers in decimal -/
def dig (c : UInt8) : Bool := decide (48 ≤ c.toNat) && decide (c.toNat ≤ 57)
def zZ (s : Str) : Str := match s with | 45 :: r => r | _ => s
def zsv (s : Str) (n : Int) : Bool := decide ((zZ s = [] ∨ n < ((zZ s).length : Int)) ∨ ((((zZ s).head?).getD 0).toNat : Int) = 48 ∧ ((1 : Int) < ((zZ s).length : Int) ∨ (zZ s).length < s.length))
def zcE (s : Str) (n : Int) : Bool := !(zsv s n) && (zZ s).all dig
theorem zsf {x : UInt8} (h : (x.toNat : Int) < 48 ∨ 57 < (x.toNat : Int)) : dig x = false := by
 unfold dig; rw [Bool.and_eq_false_iff]
 rcases h with h | h
 ·exact .inl (decide_eq_false (by omega))
 ·exact .inr (decide_eq_false (by omega))
theorem zwX {x : UInt8} (h : 48 ≤ (x.toNat : Int) ∧ (x.toNat : Int) ≤ 57) : dig x = true := by
 unfold dig; rw [decide_eq_true (show 48 ≤ x.toNat by omega), decide_eq_true (show x.toNat ≤ 57 by omega)]; rfl
theorem zkk (s : Str) : (zZ s).length ≤ s.length := by
 unfold zZ; split <;> simp
def zdr (s : Str) : Int := (Lib.atoi s).getD 0
def zT (s : Str) (n : Int) : Int := if zcE s n then zdr s else 0
def zeP : List UInt8 := [48, 49, 50, 51, 52, 53, 54, 55, 56, 57]
def zhm (s : Str) : Str := (zdQ (zeP.contains ·) s).dropWhile (zeP.contains ·)
def zfb (s : Str) (n : Int) : Bool := out ((zZ s).length : Int) 1 n || zhm (zZ s) != []
def zh3 (s : Str) (n : Int) : Int := if zfb s n then 0 else zdr s
def zfK (s : Str) (n : Int) : Bool := !(zfb s n) && (Lib.itoa (zdr s) == s)
/-- The map of limits. -/
def LimOk (l : List PairS) (L : zfO) : Prop := ∀ t, (zar t L).map (·.2) = (l.find? (fun p => p.Name == t)).map (fun p => .int .i64 (zT p.Val 9))
theorem LimOk.add {l : List PairS} {L : zfO} (ok : LimOk l L) (x : PairS) (hx : l.any (fun y => y.Name == x.Name) = false) : LimOk (l ++ [x]) (sput x.Name (.int .i64 (zT x.Val 9)) L) := fun t => by
 rw [zn4, List.find?_append, ok t]
 by_cases e : t = x.Name
 ·subst e
  rw [if_pos rfl]
  have : l.find? (fun p => p.Name == x.Name) = none := by
   rw [List.find?_eq_none]; intro y hy
   have := List.any_eq_false.1 hx y hy
   simpa using this
  rw [this]; simp
 ·rw [if_neg e]
  have hn : (x.Name == t) = false := by simpa using fun q => e q.symm
  cases l.find? (fun p => p.Name == t) with
  | none => simp [List.find?, hn]
  | some p => simp
structure Top where
 team : Str
 first : Int
 second : Int
def Top.step (q : Top) (t : Str) (n : Int) : Top := if q.first < n then ⟨t, n, q.first⟩ else ⟨q.team, q.first, max q.second n⟩
end
section
section
variable {h : Hall} {l : List Sale} {x : Sale} (h6 : x.Player ∈ h.Players ∧ x.Team ∈ h.Teams) (h8 : ∀ y ∈ l, ¬ y.Player = x.Player)
include h6 h8
end
end
section

end
section
theorem Ghost.clear [Tracks] {e : Env} : ∀ {M : List MObj}, Ghost e M e []
 | [] => Ghost.perm (List.Perm.refl _)
 | _ :: _ => Ghost.trans Ghost.drop Ghost.clear
theorem Ghost.last [Tracks] {e : Env} {m : MObj} : ∀ {R : List MObj}, Ghost e (R ++ [m]) e [m]
 | [] => Ghost.perm (List.Perm.refl _)
 | x :: R => Ghost.trans (M' := R ++ [m]) Ghost.drop Ghost.last
theorem Ghost.only [Tracks] {e : Env} {M : List MObj} {i : Nat} {m : MObj} (h : M[i]? = some m) : Ghost e M e [m] :=
 Ghost.trans (Ghost.perm ((zgT h).trans (List.perm_append_comm (l₁ := [m]) (l₂ := M.eraseIdx i)))) Ghost.last
end
section
theorem Ghost.suffix [Tracks] {e : Env} {M : List MObj} : ∀ {R : List MObj}, Ghost e (R ++ M) e M
 | [] => Ghost.perm (List.Perm.refl _)
 | x :: R => Ghost.trans (M' := R ++ M) Ghost.drop Ghost.suffix
section
variable {P : Program} {e : Env} {dst : Option Tmp} {ty : TypeId} {pos : String} {af : Array Edge} {g : Option (Nat × Bool)} {M : List MObj} {K : HVal → List MObj → Prop}
end
end
end Go.HL
namespace Go.Proofs.YtjecenjmphpmfaaGreatDoor
set_option maxRecDepth 100000
set_option linter.unusedVariables false
set_option linter.unusedSimpArgs false
section
open Go.HL
theorem zo8 [Tracks] : KeyOk Tryz.prog 150 ziX := zht (cs := fun x : Num => zh (ziX x)) zhM zxz (fun x y => ⟨rfl, ⟨_, _, _, _, ty9, rfl⟩, ⟨rfl, ⟨_, _, _, _, ty3, rfl⟩, trivial⟩⟩)
 (fun x y => by obtain ⟨a, b⟩ := x; obtain ⟨c, d⟩ := y; show (_ && (_ && true)) = _; rw [Bool.eq_iff_iff]; simp [eqH, Prod.mk.injEq]) (fun x => rfl)

theorem zr5 [Tracks] : KeyOk Tryz.prog 152 eOf := zht (cs := fun x : Of2 => zh (eOf x)) zjh zxH (fun x y => ⟨rfl, ⟨_, _, _, _, ty9, rfl⟩, ⟨rfl, ⟨_, _, _, _, ty9, rfl⟩, trivial⟩⟩)
 (fun x y => by obtain ⟨a, b⟩ := x; obtain ⟨c, d⟩ := y; show (_ && (_ && true)) = _; rw [Bool.eq_iff_iff]; simp [eqH, Prod.mk.injEq]) (fun x => rfl)

/-- benchwarmer/base.Week -/
theorem zgd [Tracks] {n : Int}  : ConP Tryz.prog 58 [.int .i64 n] (.bool (zb3 n)) := by
 refine Con.of_body Tryz.func58 rfl Tryz.ntmps58 rfl rfl ?_
 refine za ?_
 refine das rfl ?_
 refine dn ?_
 refine za ?_
 refine dmv rfl ?_
 refine dq (zj zjc rfl (WeakL.refl _) zcU) ?_
 refine dq (zaa rfl) ?_
 refine das rfl ?_
 refine dn ?_
 refine zk ?_
 refine zF rfl ?_
 rfl

/-- benchwarmer/play.playFault -/
theorem zlJ [Tracks] {p : Play}  : ConP Tryz.prog 74 [zR p] (.int .i64 (playFault p)) := by
 refine Con.of_body Tryz.func74 rfl Tryz.ntmps74 rfl rfl ?_
 refine za ?_
 refine dq (zao rfl rfl) ?_
 refine das rfl ?_
 refine dn ?_
 refine zf ?_
 refine zn ?_
 refine za ?_
 refine dq (zb zm rfl ty9 (by decide) rfl) ?_
 refine dq (zc ty9 rfl rfl rfl) ?_
 refine dq (zj zku rfl (WeakL.refl _) zdn) ?_
 refine dq (zaa rfl) ?_
 refine das rfl ?_
 refine dn ?_
 refine zi rfl (fun h1 => ?_) (fun h2 => ?_)
 ·try simp at h1
  refine za ?_
  refine das rfl ?_
  refine dn ?_
  refine zk ?_
  refine zF rfl ?_
  show HVal.int .i64 _ = _
  simp_all [playFault]
 ·try simp at h2
  refine za ?_
  refine dq (zb zm rfl ty3 (by decide) rfl) ?_
  refine dq (zc ty3 rfl rfl rfl) ?_
  refine dq (zj zjc rfl (WeakL.refl _) zcU) ?_
  refine dmv rfl ?_
  refine dg rfl rfl (fun hc => ⟨_, OpenTo.refl _, zb zm rfl ty3 (by decide) rfl⟩) ?_
  refine dg rfl rfl (fun hc => ⟨_, OpenTo.upd (t := 13) rfl (hc) (OpenTo.refl _), zc ty3 rfl rfl rfl⟩) ?_
  refine dg rfl rfl (fun hc => ⟨_, OpenTo.upd (t := 14) rfl (hc) (OpenTo.refl _), zj zpC rfl (WeakL.refl _) zd9⟩) ?_
  refine dg rfl rfl (fun hc => ⟨_, OpenTo.upd (t := 15) rfl (hc) (OpenTo.refl _), zaa rfl⟩) ?_
  refine dq (zv rfl (.inl rfl) (.inr ⟨_, rfl, fun h => by simp_all⟩)) ?_
  refine dmv rfl ?_
  refine dg rfl rfl (fun hc => ⟨_, OpenTo.refl _, zb zm rfl ty3 (by decide) rfl⟩) ?_
  refine dg rfl rfl (fun hc => ⟨_, OpenTo.upd (t := 19) rfl (hc) (OpenTo.refl _), zc ty3 rfl rfl rfl⟩) ?_
  refine dg rfl rfl (fun hc => ⟨_, OpenTo.upd (t := 20) rfl (hc) (OpenTo.refl _), zj zsg rfl (WeakL.refl _) zgd⟩) ?_
  refine dg rfl rfl (fun hc => ⟨_, OpenTo.upd (t := 21) rfl (hc) (OpenTo.refl _), zaa rfl⟩) ?_
  refine dq (zv rfl (.inl rfl) (.inr ⟨_, rfl, fun h => by simp_all⟩)) ?_
  refine das rfl ?_
  refine dn ?_
  refine zi rfl (fun h3 => ?_) (fun h4 => ?_)
  ·try simp at h3
   refine za ?_
   refine das rfl ?_
   refine dn ?_
   refine zk ?_
   refine zF rfl ?_
   show HVal.int .i64 _ = _
   simp_all [playFault]
  ·try simp at h4
   refine za ?_
   refine dq (zb zm rfl ty9 (by decide) rfl) ?_
   refine dq (zc ty9 rfl rfl rfl) ?_
   refine dq (zj zku rfl (WeakL.refl _) zdn) ?_
   refine dq (zaa rfl) ?_
   refine dmv rfl ?_
   refine dg rfl rfl (fun hc => ⟨_, OpenTo.refl _, zb zm rfl ty9 (by decide) rfl⟩) ?_
   refine dg rfl rfl (fun hc => ⟨_, OpenTo.upd (t := 30) rfl (hc) (OpenTo.refl _), zc ty9 rfl rfl rfl⟩) ?_
   refine dg rfl rfl (fun hc => ⟨_, OpenTo.upd (t := 31) rfl (hc) (OpenTo.refl _), zj zku rfl (WeakL.refl _) zdn⟩) ?_
   refine dg rfl rfl (fun hc => ⟨_, OpenTo.upd (t := 32) rfl (hc) (OpenTo.refl _), zaa rfl⟩) ?_
   refine dq (zv rfl (.inl rfl) (.inr ⟨_, rfl, fun h => by simp_all⟩)) ?_
   refine dmv rfl ?_
   refine dg rfl rfl (fun hc => ⟨_, OpenTo.refl _, zb zm rfl ty9 (by decide) rfl⟩) ?_
   refine dg rfl rfl (fun hc => ⟨_, OpenTo.upd (t := 36) rfl (hc) (OpenTo.refl _), zc ty9 rfl rfl rfl⟩) ?_
   refine dg rfl rfl (fun hc => ⟨_, OpenTo.upd (t := 37) rfl (hc) (OpenTo.refl _), zj zku rfl (WeakL.refl _) zdn⟩) ?_
   refine dg rfl rfl (fun hc => ⟨_, OpenTo.upd (t := 38) rfl (hc) (OpenTo.refl _), zaa rfl⟩) ?_
   refine dq (zv rfl (.inl rfl) (.inr ⟨_, rfl, fun h => by simp_all⟩)) ?_
   refine das rfl ?_
   refine dn ?_
   refine zi rfl (fun h5 => ?_) (fun h6 => ?_)
   ·try simp at h5
    refine za ?_
    refine das rfl ?_
    refine dn ?_
    refine zk ?_
    refine zF rfl ?_
    show HVal.int .i64 _ = _
    simp_all [playFault]
   ·try simp at h6
    refine za ?_
    refine dq (zb zm rfl ty3 (by decide) rfl) ?_
    refine dq (zc ty3 rfl rfl rfl) ?_
    refine dq (zj zjc rfl (WeakL.refl _) zcU) ?_
    refine dmv rfl ?_
    refine dg rfl rfl (fun hc => ⟨_, OpenTo.refl _, zb zm rfl ty3 (by decide) rfl⟩) ?_
    refine dg rfl rfl (fun hc => ⟨_, OpenTo.upd (t := 46) rfl (hc) (OpenTo.refl _), zc ty3 rfl rfl rfl⟩) ?_
    refine dg rfl rfl (fun hc => ⟨_, OpenTo.refl _, zb zm rfl ty3 (by decide) rfl⟩) ?_
    refine dg rfl rfl (fun hc => ⟨_, OpenTo.upd (t := 48) rfl (hc) (OpenTo.refl _), zc ty3 rfl rfl rfl⟩) ?_
    have hN := zdw (n := p.No) (lo := 1) (hi := 3000) (by simp_all)
    refine dg rfl rfl (fun hc => by have hq := hc; (try simp at hq); exact ⟨_, OpenTo.upd (t := 49) rfl (hc) (OpenTo.refl _), zbd rfl rfl (by omega) (by omega)⟩) ?_
    refine dg rfl rfl (fun hc => ⟨_, OpenTo.upd (t := 50) rfl (hc) (OpenTo.upd (t := 47) rfl (hc) (OpenTo.refl _)), zj zjc rfl (WeakL.refl _) zcU⟩) ?_
    refine dq (zv rfl (.inl rfl) (.inr ⟨_, rfl, fun h => by simp_all⟩)) ?_
    refine das rfl ?_
    refine dn ?_
    refine zi rfl (fun h7 => ?_) (fun h8 => ?_)
    ·try simp at h7
     refine za ?_
     refine das rfl ?_
     refine dn ?_
     refine zk ?_
     refine zF rfl ?_
     show HVal.int .i64 _ = _
     simp_all [playFault]
    ·try simp at h8
     refine za ?_
     refine dq (zb zm rfl ty3 (by decide) rfl) ?_
     refine dq (zc ty3 rfl rfl rfl) ?_
     refine dq (zaf rfl rfl) ?_
     refine dmv rfl ?_
     refine dg rfl rfl (fun hc => ⟨_, OpenTo.refl _, zb zm rfl ty3 (by decide) rfl⟩) ?_
     refine dg rfl rfl (fun hc => ⟨_, OpenTo.upd (t := 58) rfl (hc) (OpenTo.refl _), zc ty3 rfl rfl rfl⟩) ?_
     refine dg rfl rfl (fun hc => ⟨_, OpenTo.upd (t := 59) rfl (hc) (OpenTo.refl _), zai rfl rfl⟩) ?_
     refine dq (zv rfl (.inr ⟨_, rfl, fun h => by simp_all⟩) (.inl rfl)) ?_
     refine das rfl ?_
     refine dn ?_
     refine zi rfl (fun h9 => ?_) (fun h10 => ?_)
     ·try simp at h9
      refine za ?_
      refine das rfl ?_
      refine dn ?_
      refine zk ?_
      refine zF rfl ?_
      show HVal.int .i64 _ = _
      simp_all [playFault]
     ·try simp at h10
      refine zl ?_
      refine zG ?_
      refine ze ?_
      refine za ?_
      refine das rfl ?_
      refine dn ?_
      refine zk ?_
      refine zF rfl ?_
      show HVal.int .i64 _ = _
      simp_all [playFault]

/-- benchwarmer/play.byNo -/
theorem zqI [Tracks] {a b : Play}  : ConP Tryz.prog 75 [zR a, zR b] (.int .i64 (byNo a b)) := by
 refine Con.of_body Tryz.func75 rfl Tryz.ntmps75 rfl rfl ?_
 refine za ?_
 refine dq (zao rfl rfl) ?_
 refine dq (zao rfl rfl) ?_
 refine das rfl ?_
 refine dn ?_
 refine zaM (fun _ => True) [] mixed ?_
 refine ahp 0 rfl rfl (by kernel_rfl) (by kernel_rfl) (zb zm rfl ty9 (by decide) rfl) ?_
 refine ahp 1 rfl rfl (by kernel_rfl) (by kernel_rfl) (zc ty9 rfl rfl rfl) ?_
 refine ahp 2 rfl rfl (by kernel_rfl) (by kernel_rfl) (zb zm rfl ty9 (by decide) rfl) ?_
 refine ahp 3 rfl rfl (by kernel_rfl) (by kernel_rfl) (zc ty9 rfl rfl rfl) ?_
 refine ahp 4 rfl rfl (by kernel_rfl) (by kernel_rfl) (zj zfC rfl (WeakL.refl _) zaE) ?_
 refine ahp 5 rfl rfl (by kernel_rfl) (by kernel_rfl) (zb zm rfl ty3 (by decide) rfl) ?_
 refine ahp 6 rfl rfl (by kernel_rfl) (by kernel_rfl) (zc ty3 rfl rfl rfl) ?_
 refine ahp 7 rfl rfl (by kernel_rfl) (by kernel_rfl) (zb zm rfl ty3 (by decide) rfl) ?_
 refine ahp 8 rfl rfl (by kernel_rfl) (by kernel_rfl) (zc ty3 rfl rfl rfl) ?_
 refine ahp 9 rfl rfl (by kernel_rfl) (by kernel_rfl) (zj ziq rfl (WeakL.refl _) zbe) ?_
 refine ahp 10 rfl rfl (by kernel_rfl) (by kernel_rfl) (zw (hs := [_, _]) zaq ty3 rfl rfl (by decide) (by decide) rfl) ?_
 refine ahp 11 rfl rfl (by kernel_rfl) (by kernel_rfl) (zj zj0 rfl (WeakL.refl _) (zcz (l := [_, _]) (by simp))) ?_
 refine ahp 12 rfl rfl (by kernel_rfl) (by kernel_rfl) (zaA rfl) ?_
 refine ahz (by kernel_rfl) ?_
 refine zk ?_
 refine zF rfl ?_
 rfl

/-- benchwarmer/play.CheckPlays -/
theorem zdv [Tracks] {l : List Play} (hl : l.length ≤ 1000000) : ConP Tryz.prog 29 [zbD l] (.int .i64 (zz l)) := by
 refine Con.of_body Tryz.func29 rfl Tryz.ntmps29 rfl rfl ?_
 refine za ?_
 refine das rfl ?_
 refine dn ?_
 refine zf ?_
 refine za ?_
 refine dmv rfl ?_
 refine dq (zL zaC rfl) ?_
 refine dq (zaf rfl rfl) ?_
 refine dn ?_
 refine zi rfl (fun h1 => ?_) (fun h2 => ?_)
 ·try simp at h1
  refine za ?_
  refine das rfl ?_
  refine dn ?_
  refine zk ?_
  refine zat Ghost.clear rfl ⟨?_, rfl⟩
  show HVal.int .i64 _ = _
  (rw [zz, if_pos (by omega)]; done)
 ·try simp at h2
  refine zl ?_
  refine ze ?_
  refine za ?_
  refine de rfl (za1 fun m14 => ?_)
  refine de rfl (za1 fun m15 => ?_)
  refine das rfl ?_
  refine das rfl ?_
  refine dn ?_
  refine za ?_
  refine das rfl ?_
  refine dn ?_
  refine zf ?_
  refine za ?_
  refine dmv rfl ?_
  refine dq (zL zaC rfl) ?_
  refine dmv rfl ?_
  refine dn ?_
  refine zn ?_
  refine zak [2, 5, 6, 7, 8, 9, 10, 18, 19, 20, 21, 22, 23, 24, 25, 26, 27, 28, 29, 30, 31, 32, 33, 34, 35, 36, 37, 38, 39, 40, 41, 42, 43, 44, 45, 46, 47, 48, 49, 50, 51, 52, 53, 54, 55, 56, 57, 58, 59, 60, 61, 62] (fun (k : Nat) => [(18, .int .i64 k), (5, .bool (za4 (l.take k)).c)]) (fun (k : Nat) => [.map m15 (sk (em (.int .i64) (za4 (l.take k)).W)), .map m14 (sk (zbv (za4 (l.take k)).S))]) (fun (k : Nat) => k ≤ l.length ∧ (zaG l 0 l = zaG l k (l.drop k))) (fun (k : Nat) => l.length - k) (0) ?_ ?_ ?_ ?_
  ·exact ⟨Nat.zero_le _, rfl⟩
  ·exact ⟨rfl, rfl, trivial⟩
  ·exact List.Perm.refl _
  ·intro k hinv
   obtain ⟨hk, hg⟩ := hinv
   refine za ?_
   refine dq (zW rfl rfl) ?_
   refine dn ?_
   refine zf ?_
   refine zi rfl (fun h3 => ?_) (fun h4 => ?_)
   ·try simp at h3
    obtain ⟨x, hx⟩ : ∃ x, l[k]? = some x := ⟨_, List.getElem?_eq_getElem h3⟩
    have hdx := zX hx
    rw [hdx] at hg
    refine zl ?_
    refine ze ?_
    refine zf ?_
    refine zn ?_
    refine za ?_
    refine dmv rfl ?_
    refine dq (zP zaC zm rfl rfl rfl (by assumption)) ?_
    refine dq (zN zm rfl rfl rfl rfl) ?_
    refine de rfl (z8 zm rfl fun b7 => ?_)
    refine das rfl ?_
    refine de0 (zae zm rfl rfl rfl rfl rfl ?_)
    refine dn ?_
    refine zH (Ghost.fc0 7 rfl) ?_
    refine zf ?_
    refine za ?_
    refine dq (zN zm rfl rfl rfl rfl) ?_
    refine dq (zj ca74 rfl (WeakL.refl _) zlJ) ?_
    refine das rfl ?_
    refine dn ?_
    refine za ?_
    refine dmv rfl ?_
    refine dq (zai rfl rfl) ?_
    refine dn ?_
    refine zi rfl (fun h5 => ?_) (fun h6 => ?_)
    ·try simp at h5
     refine za ?_
     refine dmv rfl ?_
     refine das rfl ?_
     refine dn ?_
     refine zk ?_
     refine zat Ghost.clear rfl ⟨?_, rfl⟩
     show HVal.int .i64 _ = _
     (rw [zbz (by omega) (by rw [hg, zaG, if_pos (by simpa using h5)]) (by simpa using h5)]; done)
    ·try simp at h6
     refine zl ?_
     refine ze ?_
     refine zf ?_
     refine zaM (fun _ => True) [] mixed ?_
     refine ahp 0 rfl rfl (by kernel_rfl) (by kernel_rfl) (zd rfl) ?_
     refine ahp 1 rfl rfl (by kernel_rfl) (by kernel_rfl) (zaf rfl rfl) ?_
     refine ahp 2 rfl rfl (by kernel_rfl) (by kernel_rfl) (zd rfl) ?_
     refine ahg 3 rfl rfl (by kernel_rfl) (by kernel_rfl) rfl (fun hc => ⟨_, OpenTo.refl _, zN zm rfl rfl rfl rfl⟩) ?_
     refine ahg 4 rfl rfl (by kernel_rfl) (by kernel_rfl) rfl (fun hc => ⟨_, OpenTo.refl _, zd rfl⟩) ?_
     refine ahg 5 rfl rfl (by kernel_rfl) (by kernel_rfl) rfl (fun hc => ⟨_, OpenTo.refl _, zd rfl⟩) ?_
     refine ahg 6 rfl rfl (by kernel_rfl) (by kernel_rfl) rfl (fun hc => by have hq := hc; (try simp at hq); exact ⟨_, OpenTo.upd (t := 33) rfl (hc) (OpenTo.refl _), zbd rfl rfl (by omega) (by omega)⟩) ?_
     refine ahg 7 rfl rfl (by kernel_rfl) (by kernel_rfl) rfl (fun hc => by have hq := hc; (try simp at hq); exact ⟨_, OpenTo.upd (t := 34) rfl (hc) (OpenTo.upd (t := 32) rfl (hc) (OpenTo.refl _)), zP (j := k - 1) (a := l.getD (k - 1) zdc) zaC zm rfl rfl (by omega) (getD_some (by omega))⟩) ?_
     refine ahg 8 rfl rfl (by kernel_rfl) (by kernel_rfl) rfl (fun hc => ⟨_, OpenTo.upd (t := 35) rfl (hc) (OpenTo.refl _), zN zm rfl rfl rfl rfl⟩) ?_
     refine ahg 9 rfl rfl (by kernel_rfl) (by kernel_rfl) rfl (fun hc => ⟨_, OpenTo.upd (t := 36) rfl (hc) (OpenTo.upd (t := 31) rfl (hc) (OpenTo.refl _)), zj ca75 rfl (WeakL.refl _) zqI⟩) ?_
     refine ahg 10 rfl rfl (by kernel_rfl) (by kernel_rfl) rfl (fun hc => ⟨_, OpenTo.upd (t := 37) rfl (hc) (OpenTo.refl _), zc1 rfl rfl⟩) ?_
     refine ahp 11 rfl rfl (by kernel_rfl) (by kernel_rfl) (zv rfl (.inr ⟨_, rfl, fun h => by simp_all⟩) (.inl rfl)) ?_
     refine ahz (by kernel_rfl) ?_
     refine zi rfl (fun h7 => ?_) (fun h8 => ?_)
     ·try simp at h7
      refine za ?_
      refine das rfl ?_
      refine dn ?_
      refine zk ?_
      refine zat Ghost.clear rfl ⟨?_, rfl⟩
      show HVal.int .i64 _ = _
      (rw [zbz (c := 7) (by omega) (by rw [hg, zaG, if_neg (by simpa using h6), if_pos (by obtain ⟨qa, qb⟩ := h7; exact ⟨by omega, by simpa using qb⟩)]) (by decide)]; done)
     ·try simp at h8
      refine zl ?_
      refine ze ?_
      refine za ?_
      refine dmv rfl ?_
      refine dq (zb zm rfl ty9 (by decide) rfl) ?_
      refine dq (zc ty9 rfl rfl rfl) ?_
      refine de0 (zcv (i := 1) zgi ty9 rfl rfl rfl rfl ?_)
      refine dn ?_
      refine zf ?_
      refine za ?_
      refine dmv rfl ?_
      refine dq (zb zm rfl ty9 (by decide) rfl) ?_
      refine dq (zc ty9 rfl rfl rfl) ?_
      refine de rfl (zkh (i := 0) (z0 := (0 : Int)) zbM ty9 ty3 rfl rfl rfl rfl ?_)
      refine dmv rfl ?_
      refine dq (zx rfl rfl) ?_
      refine dq (zx rfl rfl) ?_
      refine das rfl ?_
      refine das rfl ?_
      refine dn ?_
      refine za ?_
      refine dmv rfl ?_
      refine dmv rfl ?_
      refine dg rfl rfl (fun hc => ⟨_, OpenTo.refl _, zd rfl⟩) ?_
      refine dg rfl rfl (fun hc => ⟨_, OpenTo.refl _, zb zm rfl ty3 (by decide) rfl⟩) ?_
      refine dg rfl rfl (fun hc => ⟨_, OpenTo.upd (t := 53) rfl (hc) (OpenTo.refl _), zc ty3 rfl rfl rfl⟩) ?_
      refine dg rfl rfl (fun hc => ⟨_, OpenTo.upd (t := 54) rfl (hc) (OpenTo.upd (t := 52) rfl (hc) (OpenTo.refl _)), zai rfl rfl⟩) ?_
      refine dq (zv rfl (.inr ⟨_, rfl, fun h => by simp_all⟩) (.inl rfl)) ?_
      refine dn ?_
      refine zi rfl (fun h9 => ?_) (fun h10 => ?_)
      ·try simp at h9
       refine zB ?_
       refine das rfl ?_
       refine dn ?_
       refine ze ?_
       refine zB ?_
       refine dmv rfl ?_
       refine dq (zb zm rfl ty9 (by decide) rfl) ?_
       refine dq (zc ty9 rfl rfl rfl) ?_
       refine dq (zb zm rfl ty3 (by decide) rfl) ?_
       refine dq (zc ty3 rfl rfl rfl) ?_
       refine de0 (zbu (i := 0) zbM ty9 rfl rfl rfl rfl ?_)
       refine dn ?_
       refine zG ?_
       refine ze ?_
       refine zB ?_
       refine dq (zC rfl rfl (by omega) (by omega)) ?_
       refine dmv rfl ?_
       refine dn ?_
       refine ⟨k + 1, ⟨by omega, ?_⟩, by dsimp only; omega, ⟨rfl, ?_, trivial⟩, (by repeat (first | exact zp | refine zt rfl ?_ | refine zq rfl rfl ?_)), ?_⟩
       ·rw [hg, zgR (by simpa using h6) (fun hk0 => by simp_all)]
       ·rw [zcW hx]; exact congrArg (fun b => some (HVal.bool b)) (by simp_all [zgb])
       ·exact zS (by dsimp only; rw [zcW hx]; rfl)
      ·try simp at h10
       refine zl ?_
       refine ze ?_
       refine zB ?_
       refine dmv rfl ?_
       refine dq (zb zm rfl ty9 (by decide) rfl) ?_
       refine dq (zc ty9 rfl rfl rfl) ?_
       refine dq (zb zm rfl ty3 (by decide) rfl) ?_
       refine dq (zc ty3 rfl rfl rfl) ?_
       refine de0 (zbu (i := 0) zbM ty9 rfl rfl rfl rfl ?_)
       refine dn ?_
       refine zG ?_
       refine ze ?_
       refine zB ?_
       refine dq (zC rfl rfl (by omega) (by omega)) ?_
       refine dmv rfl ?_
       refine dn ?_
       refine ⟨k + 1, ⟨by omega, ?_⟩, by dsimp only; omega, ⟨rfl, ?_, trivial⟩, (by repeat (first | exact zp | refine zt rfl ?_ | refine zq rfl rfl ?_)), ?_⟩
       ·rw [hg, zgR (by simpa using h6) (fun hk0 => by simp_all)]
       ·rw [zcW hx]; exact congrArg (fun b => some (HVal.bool b)) (by simp_all [zgb])
       ·exact zS (by dsimp only; rw [zcW hx]; rfl)
   ·try simp at h4
    have hnk : l.length ≤ k := by omega
    obtain rfl : k = l.length := by omega
    rw [zap (Nat.le_refl _)] at hg
    rw [List.take_length]
    refine zU ?_
    refine z6 ?_
    refine zas ?_
    refine zJ ?_
    refine ze ?_
    refine zf ?_
    refine zn ?_
    have e1 : (sk (zbv (za4 l).S)).length = (za4 l).S.length := by simp [sk, zbv]
    have e2 : (sk (em (HVal.int .i64) (za4 l).W)).length = (za4 l).W.length := by simp [sk]
    refine za ?_
    refine dmv rfl ?_
    refine de rfl (zcw (i := 1) zgi rfl rfl ?_)
    refine dq (zaf rfl rfl) ?_
    refine dmv rfl ?_
    refine dg rfl rfl (fun hc => ⟨_, OpenTo.refl _, zd rfl⟩) ?_
    refine dgl rfl rfl (fun hc => ⟨_, OpenTo.upd (t := 68) rfl (hc) (OpenTo.refl _), zcw (i := 0) zbM rfl rfl ⟨rfl, rfl⟩⟩) ?_
    refine dg rfl rfl (fun hc => ⟨_, OpenTo.upd (t := 69) rfl (hc) (OpenTo.refl _), zaf rfl rfl⟩) ?_
    refine dq (zv rfl (.inl rfl) (.inr ⟨_, rfl, fun h => by simp_all⟩)) ?_
    refine das rfl ?_
    refine dn ?_
    refine zi rfl (fun h11 => ?_) (fun h12 => ?_)
    ·try simp at h11
     refine za ?_
     refine das rfl ?_
     refine dn ?_
     refine zk ?_
     refine zat Ghost.clear rfl ⟨?_, rfl⟩
     show HVal.int .i64 _ = _
     (rw [zay (by omega) hg, zaN, if_pos (by omega)]; done)
    ·try simp at h12
     refine za ?_
     refine dmv rfl ?_
     refine das rfl ?_
     refine dn ?_
     refine zi rfl (fun h13 => ?_) (fun h14 => ?_)
     ·try simp at h13
      refine za ?_
      refine das rfl ?_
      refine dn ?_
      refine zk ?_
      refine zat Ghost.clear rfl ⟨?_, rfl⟩
      show HVal.int .i64 _ = _
      (rw [zay (by omega) hg, zaN, if_neg (by omega), if_pos (by assumption)]; done)
     ·try simp at h14
      refine zl ?_
      refine zG ?_
      refine ze ?_
      refine za ?_
      refine das rfl ?_
      refine dn ?_
      refine zk ?_
      refine zat Ghost.clear rfl ⟨?_, rfl⟩
      show HVal.int .i64 _ = _
      (rw [zay (by omega) hg, zaN, if_neg (by omega), if_neg (by simp_all)]; done)

/-- benchwarmer/play.CheckTrust -/
theorem zgK [Tracks] {l : List Str} (hl : l.length ≤ 1000000) : ConP Tryz.prog 56 [eSs l] (.int .i64 (zbw l)) := by
 refine Con.of_body Tryz.func56 rfl Tryz.ntmps56 rfl rfl ?_
 refine za ?_
 refine das rfl ?_
 refine dn ?_
 refine zf ?_
 refine za ?_
 refine dmv rfl ?_
 refine dq (zL zaj rfl) ?_
 refine dq (zaf rfl rfl) ?_
 refine dn ?_
 refine zi rfl (fun h1 => ?_) (fun h2 => ?_)
 ·try simp at h1
  refine za ?_
  refine das rfl ?_
  refine dn ?_
  refine zk ?_
  refine zF rfl ?_
  show HVal.int .i64 _ = _
  (rw [zbw, if_pos (by omega)]; done)
 ·try simp at h2
  refine zl ?_
  refine ze ?_
  refine zf ?_
  refine za ?_
  refine dmv rfl ?_
  refine dq (zL zaj rfl) ?_
  refine dmv rfl ?_
  refine dn ?_
  refine zn ?_
  refine zak [2, 3, 4, 10, 11, 12, 13, 14, 15, 16, 17, 18, 19, 20, 21, 22, 23] (fun (k : Nat) => [(10, .int .i64 k)]) (fun (k : Nat) => []) (fun (k : Nat) => k ≤ l.length ∧ (zbw l = zdf l k (l.drop k))) (fun (k : Nat) => l.length - k) (0) ?_ ?_ ?_ ?_
  ·refine ⟨Nat.zero_le _, ?_⟩
   rw [zbw, if_neg (by omega)]; rfl
  ·exact ⟨rfl, trivial⟩
  ·exact List.Perm.refl _
  ·intro k hinv
   obtain ⟨hk, hg⟩ := hinv
   refine za ?_
   refine dq (zW rfl rfl) ?_
   refine dn ?_
   refine zf ?_
   refine zi rfl (fun h3 => ?_) (fun h4 => ?_)
   ·try simp at h3
    obtain ⟨x, hx⟩ : ∃ x, l[k]? = some x := ⟨_, List.getElem?_eq_getElem h3⟩
    have hdx := zX hx
    rw [hdx] at hg
    refine zl ?_
    refine ze ?_
    refine zf ?_
    refine zn ?_
    refine za ?_
    refine dmv rfl ?_
    refine dq (zP zaj ty9 rfl rfl rfl (by assumption)) ?_
    refine dq (zc ty9 rfl rfl rfl) ?_
    refine das rfl ?_
    refine das rfl ?_
    refine dn ?_
    refine zf ?_
    refine za ?_
    refine dmv rfl ?_
    refine dq (zj zku rfl (WeakL.refl _) zdn) ?_
    refine dq (zaa rfl) ?_
    refine dn ?_
    refine zi rfl (fun h5 => ?_) (fun h6 => ?_)
    ·try simp at h5
     refine za ?_
     refine das rfl ?_
     refine dn ?_
     refine zk ?_
     refine zF rfl ?_
     show HVal.int .i64 _ = _
     (rw [hg]; simp_all [zdf]; done)
    ·try simp at h6
     refine zl ?_
     refine ze ?_
     refine za ?_
     refine dmv rfl ?_
     refine dmv rfl ?_
     refine dq (zeN zaj ty9 rfl rfl ⟨_, _, rfl, rfl⟩ (by omega) (by omega)) ?_
     refine dmv rfl ?_
     refine dq (zj zuu rfl (WeakL.refl _) (zb9 (by simp; omega))) ?_
     refine dn ?_
     refine zi rfl (fun h7 => ?_) (fun h8 => ?_)
     ·try simp at h7
      refine za ?_
      refine das rfl ?_
      refine dn ?_
      refine zk ?_
      refine zF rfl ?_
      show HVal.int .i64 _ = _
      (rw [hg]; simp_all [zdf]; done)
     ·try simp at h8
      refine zl ?_
      refine zG ?_
      refine ze ?_
      refine zB ?_
      refine dq (zC rfl rfl (by omega) (by omega)) ?_
      refine dmv rfl ?_
      refine dn ?_
      refine ⟨k + 1, ?_, ?_, ⟨rfl, trivial⟩, (by repeat (first | exact zp | refine zt rfl ?_ | refine zq rfl rfl ?_)), List.Perm.refl _⟩
      ·refine ⟨by omega, ?_⟩
       rw [hg]; simp_all [zdf]
      ·dsimp only; omega
   ·try simp at h4
    have hnk : l.length ≤ k := by omega
    obtain rfl : k = l.length := by omega
    rw [zap (Nat.le_refl _)] at hg
    refine zU ?_
    refine z6 ?_
    refine zas ?_
    refine zJ ?_
    refine ze ?_
    refine za ?_
    refine das rfl ?_
    refine dn ?_
    refine zk ?_
    refine zF rfl ?_
    show HVal.int .i64 _ = _
    (rw [hg]; simp_all [zdf]; done)

/-- benchwarmer/play.told -/
theorem zqO [Tracks] {l : List Play} {trust : List Str} {n : Int} (hl : l.length ≤ 1000000) (ht : trust.length ≤ 1000000) : Con Tryz.prog 98 [zbD l, eSs trust, .int .i64 n] [] (fun x M' => ∃ b O, x = .raw (.map (some b)) ∧ ANodup O ∧ (∀ m, alk m O = zgj l trust n m) ∧ M' = [.map b (sk (em .str O))]) := by
 refine Con.of_body Tryz.func98 rfl Tryz.ntmps98 rfl rfl ?_
 refine za ?_
 refine das rfl ?_
 refine dn ?_
 refine za ?_
 refine de rfl (za1 fun m16 => ?_)
 refine das rfl ?_
 refine dn ?_
 refine zf ?_
 refine za ?_
 refine dmv rfl ?_
 refine dq (zL zaC rfl) ?_
 refine dmv rfl ?_
 refine dn ?_
 refine zn ?_
 refine zak [9, 10, 11, 12, 19, 20, 21, 22, 23, 24, 25, 26, 27, 28, 29, 30, 31, 32, 33, 34, 35, 36, 37, 38, 39, 40, 41, 42, 43, 44, 45, 46, 47, 48, 49, 50, 51, 52, 53] (fun (k : Nat) => [(19, .int .i64 k)]) (fun (k : Nat) => [.map m16 (sk (em (.int .i64) (zdA (l.take k) trust n)))]) (fun (k : Nat) => k ≤ l.length ∧ (True)) (fun (k : Nat) => l.length - k) (0) ?_ ?_ ?_ ?_
 ·exact ⟨Nat.zero_le _, trivial⟩
 ·exact ⟨rfl, trivial⟩
 ·exact List.Perm.refl _
 ·intro k hinv
  obtain ⟨hk, -⟩ := hinv
  refine za ?_
  refine dq (zW rfl rfl) ?_
  refine dn ?_
  refine zf ?_
  refine zi rfl (fun h1 => ?_) (fun h2 => ?_)
  ·try simp at h1
   obtain ⟨x, hx⟩ : ∃ x, l[k]? = some x := ⟨_, List.getElem?_eq_getElem h1⟩
   have hdx := zX hx
   refine zl ?_
   refine ze ?_
   refine zf ?_
   refine zn ?_
   refine za ?_
   refine dq (zP zaC zm rfl rfl rfl (by assumption)) ?_
   refine dq (zN zm rfl rfl rfl rfl) ?_
   refine de rfl (z8 zm rfl fun b9 => ?_)
   refine de0 (zae zm rfl rfl rfl rfl rfl ?_)
   refine dn ?_
   refine zH (Ghost.fc0 9 rfl) ?_
   refine za ?_
   refine dmv rfl ?_
   refine dq (zb zm rfl ty9 (by decide) rfl) ?_
   refine dq (zc ty9 rfl rfl rfl) ?_
   refine dq (zj ca95 rfl (WeakL.refl _) (zdH (by omega))) ?_
   refine das rfl ?_
   refine dn ?_
   refine zf ?_
   refine za ?_
   refine dq (zb zm rfl ty3 (by decide) rfl) ?_
   refine dq (zc ty3 rfl rfl rfl) ?_
   refine dmv rfl ?_
   refine dq (zaf rfl rfl) ?_
   refine dmv rfl ?_
   refine dg rfl rfl (fun hc => ⟨_, OpenTo.refl _, zd rfl⟩) ?_
   refine dg rfl rfl (fun hc => ⟨_, OpenTo.upd (t := 32) rfl (hc) (OpenTo.refl _), zW rfl rfl⟩) ?_
   refine dq (zv rfl (.inl rfl) (.inr ⟨_, rfl, fun h => by simp_all⟩)) ?_
   refine dn ?_
   refine zi rfl (fun h3 => ?_) (fun h4 => ?_)
   ·try simp at h3
    refine zU ?_
    refine z6 ?_
    refine zJ ?_
    refine ze ?_
    refine zB ?_
    refine dq (zC rfl rfl (by omega) (by omega)) ?_
    refine dmv rfl ?_
    refine dn ?_
    exact ⟨k + 1, ⟨by omega, trivial⟩, by dsimp only; omega, ⟨rfl, trivial⟩, (by repeat (first | exact zp | refine zt rfl ?_ | refine zq rfl rfl ?_)), zS (by dsimp only; rw [zgX hx, zcL, if_pos (by simpa using h3)]; try rfl)⟩
   ·try simp at h4
    refine zl ?_
    refine ze ?_
    refine za ?_
    refine dmv rfl ?_
    refine dq (zb zm rfl ty9 (by decide) rfl) ?_
    refine dq (zc ty9 rfl rfl rfl) ?_
    refine de rfl (zkh (i := 0) (z0 := (0 : Int)) zbM ty9 ty3 rfl rfl rfl rfl ?_)
    refine dmv rfl ?_
    refine dq (zx rfl rfl) ?_
    refine dq (zx rfl rfl) ?_
    refine das rfl ?_
    refine das rfl ?_
    refine dn ?_
    refine za ?_
    refine dmv rfl ?_
    refine dq (zaa rfl) ?_
    refine dmv rfl ?_
    refine dg rfl rfl (fun hc => ⟨_, OpenTo.refl _, zd rfl⟩) ?_
    refine dg rfl rfl (fun hc => ⟨_, OpenTo.refl _, zd rfl⟩) ?_
    refine dg rfl rfl (fun hc => ⟨_, OpenTo.upd (t := 46) rfl (hc) (OpenTo.upd (t := 45) rfl (hc) (OpenTo.refl _)), zW rfl rfl⟩) ?_
    refine dq (zv rfl (.inl rfl) (.inr ⟨_, rfl, fun h => by simp_all⟩)) ?_
    refine dn ?_
    refine zi rfl (fun h5 => ?_) (fun h6 => ?_)
    ·try simp at h5
     refine zB ?_
     refine dmv rfl ?_
     refine dq (zb zm rfl ty9 (by decide) rfl) ?_
     refine dq (zc ty9 rfl rfl rfl) ?_
     refine dmv rfl ?_
     refine de0 (zbu (i := 0) zbM ty9 rfl rfl rfl rfl ?_)
     refine dn ?_
     refine zG ?_
     refine ze ?_
     refine zB ?_
     refine dq (zC rfl rfl (by omega) (by omega)) ?_
     refine dmv rfl ?_
     refine dn ?_
     exact ⟨k + 1, ⟨by omega, trivial⟩, by dsimp only; omega, ⟨rfl, trivial⟩, (by repeat (first | exact zp | refine zt rfl ?_ | refine zq rfl rfl ?_)), zS (by dsimp only; rw [zgX hx, zcL, if_neg (by simp_all; try omega), if_pos (by simpa using h5)]; try rfl)⟩
    ·try simp at h6
     refine zl ?_
     refine zG ?_
     refine ze ?_
     refine zB ?_
     refine dq (zC rfl rfl (by omega) (by omega)) ?_
     refine dmv rfl ?_
     refine dn ?_
     exact ⟨k + 1, ⟨by omega, trivial⟩, by dsimp only; omega, ⟨rfl, trivial⟩, (by repeat (first | exact zp | refine zt rfl ?_ | refine zq rfl rfl ?_)), zS (by dsimp only; rw [zgX hx, zcL, if_neg (by simp_all; try omega), if_neg (by simp_all; try omega)]; try rfl)⟩
  ·try simp at h2
   have hnk : l.length ≤ k := by omega
   obtain rfl : k = l.length := by omega
   refine zU ?_
   refine z6 ?_
   refine zas ?_
   refine zJ ?_
   refine ze ?_
   rw [List.take_length]
   refine za ?_
   refine de rfl (za1 fun m54 => ?_)
   refine das rfl ?_
   refine dn ?_
   refine zf ?_
   refine za ?_
   refine dmv rfl ?_
   refine de rfl (zfp (i := 1) zbM rfl rfl fun r => ?_)
   refine dn ?_
   refine zn ?_
   refine zaI [14, 15, 57, 58, 59, 60, 61, 62, 63, 64, 65, 66, 67] (fun (vis : List Nat) (E : List (Str × Int)) => []) (fun (vis : List Nat) (E : List (Str × Int)) => [.map m54 (sk (em .str (zmM trust E))), .iter r m16 (sk (em (.int .i64) (zdA l trust n))) vis]) (fun (vis : List Nat) (E : List (Str × Int)) => VisOk ((zdA l trust n)) vis E ∧ (True)) (fun (vis : List Nat) (E : List (Str × Int)) => ((zdA l trust n)).length - vis.length) ([]) ([]) ?_ ?_ ?_ ?_
   ·exact ⟨VisOk.nil _, trivial⟩
   ·exact trivial
   ·exact List.Perm.refl _
   ·intro vis E hinv
    obtain ⟨hvis, -⟩ := hinv
    refine za ?_
    refine de rfl (zfm (i := 1) (L := (zdA l trust n)) (enc := (fun p : Str × Int => (HVal.str p.1, HVal.int .i64 p.2))) rfl rfl (zo9 _ _) hvis.nd hvis.lt fun cb R vis' hnx => ?_)
    refine dq (zx rfl rfl) ?_
    refine dn ?_
    refine zf ?_
    refine zi rfl (fun h7 => ?_) (fun h8 => ?_)
    ·try simp at h7
     obtain ⟨j, q, hq, hj, rfl⟩ := hnx.t h7
     have hroom := hvis.room hq hj
     have hstep := hvis.step hq hj
     have hqm := List.mem_of_getElem? hq
     refine zl ?_
     refine ze ?_
     refine zn ?_
     refine za ?_
     refine de rfl (zeL (i := 1) (L := (zdA l trust n)) (enc := (fun p : Str × Int => (HVal.str p.1, HVal.int .i64 p.2))) rfl rfl (zo9 _ _) hq ?_)
     refine dq (zx rfl rfl) ?_
     refine dq (zx rfl rfl) ?_
     refine das rfl ?_
     refine das rfl ?_
     refine dn ?_
     refine zB ?_
     refine dmv rfl ?_
     refine dmv rfl ?_
     refine dmv rfl ?_
     refine dmv rfl ?_
     obtain ⟨hq0, hq1⟩ := zsI hqm
     refine dq (zP (j := q.2.toNat) (a := trust.getD q.2.toNat []) zaj ty9 rfl rfl (by omega) (getD_some (by omega))) ?_
     refine dq (zc ty9 rfl rfl rfl) ?_
     refine de0 (zbu (i := 0) (v := trust.getD q.2.toNat []) zvq ty9 rfl rfl rfl rfl ?_)
     refine dn ?_
     refine zG ?_
     exact ⟨_, E ++ [q], ⟨hstep, trivial⟩, by dsimp only; rw [List.length_append]; simp only [List.length_cons, List.length_nil]; omega, trivial, (by repeat (first | exact zp | refine zt rfl ?_ | refine zq rfl rfl ?_)), zS (by dsimp only; rw [zs6 hvis (zjf _ _ _) hq hj]; rfl)⟩
    ·try simp at h8
     obtain ⟨rfl, hlen⟩ := hnx.f h8
     have hEp := hvis.done hlen
     refine zU ?_
     refine z6 ?_
     refine zaR ?_
     refine zJ ?_
     refine ze ?_
     refine zH (Ghost.only (i := 0) rfl) ?_
     refine za ?_
     refine dmv rfl ?_
     refine das rfl ?_
     refine dn ?_
     refine zk ?_
     exact zaO rfl ⟨_, _, rfl, zr6 hEp, zt9 hEp, rfl⟩
end
end Go.Proofs.YtjecenjmphpmfaaGreatDoor
namespace Go.Proofs
section
open Go.Shelf
def Tryz.g152_ren : Go.Shelf.Ren := ⟨fun | 7 => 152 | 10 => 194 | n => n, fun | 23 => 102 | 26 => 9 | 3 => 4 | 28 => 207 | 0 => 0 | 27 => 206 | 33 => 72 | 4 => 4 | n => n, fun | n => n⟩
theorem Tryz.g152 : Go.Proofs.SlLaysZ.n7 Tryz.prog Tryz.g152_ren := {
 mixed := by kernel_rfl
 f7 := ⟨Tryz.f152.name, by decide, Tryz.func152.trans (congrArg some (by kernel_rfl))⟩
 f10 := ⟨Tryz.f194.name, by decide, Tryz.func194.trans (congrArg some (by kernel_rfl))⟩
 t0 := Tryz.underlying0
 a0 := Tryz.isAgg0
 z0 := Tryz.sizeOf0
 v0 := Tryz.zeroValue0
 t4 := Tryz.underlying4
 a4 := Tryz.isAgg4
 z4 := Tryz.sizeOf4
 v4 := Tryz.zeroValue4
 t23 := Tryz.underlying102
 a23 := Tryz.isAgg102
 z23 := Tryz.sizeOf102
 v23 := Tryz.zeroValue102
 t26 := Tryz.underlying9
 a26 := Tryz.isAgg9
 z26 := Tryz.sizeOf9
 v26 := Tryz.zeroValue9
 t27 := Tryz.underlying206
 a27 := Tryz.isAgg206
 z27 := Tryz.sizeOf206
 v27 := Tryz.zeroValue206
 t28 := Tryz.underlying207
 a28 := Tryz.isAgg207
 z28 := Tryz.sizeOf207
 v28 := Tryz.zeroValue207
 t33 := Tryz.underlying72
 a33 := Tryz.isAgg72
 z33 := Tryz.sizeOf72
 v33 := Tryz.zeroValue72 }
def Tryz.g151_ren : Go.Shelf.Ren := ⟨fun | 6 => 151 | 8 => 193 | 9 => 140 | 11 => 258 | 13 => 155 | 12 => 186 | 23 => 203 | 24 => 204 | 14 => 246 | 15 => 247 | 16 => 248 | 17 => 249 | 18 => 250 | 19 => 251 | 20 => 252 | 21 => 253 | 22 => 254 | 25 => 290 | 26 => 260 | 27 => 261 | 28 => 291 | 29 => 292 | 30 => 293 | 31 => 313 | n => n, fun | 26 => 9 | 28 => 207 | 24 => 39 | 0 => 0 | 3 => 3 | 37 => 212 | 48 => 252 | 50 => 231 | 4 => 4 | 40 => 246 | 39 => 245 | 45 => 68 | 5 => 5 | 9 => 9 | 51 => 284 | 55 => 288 | 57 => 316 | 58 => 317 | 33 => 72 | n => n, fun | n => n⟩
theorem Tryz.g151 : Go.Proofs.SlLaysZ.n6 Tryz.prog Tryz.g151_ren := {
 mixed := by kernel_rfl
 f6 := ⟨Tryz.f151.name, by decide, Tryz.func151.trans (congrArg some (by kernel_rfl))⟩
 f8 := ⟨Tryz.f193.name, by decide, Tryz.func193.trans (congrArg some (by kernel_rfl))⟩
 f11 := ⟨Tryz.f258.name, by decide, Tryz.func258.trans (congrArg some (by kernel_rfl))⟩
 t0 := Tryz.underlying0
 a0 := Tryz.isAgg0
 z0 := Tryz.sizeOf0
 v0 := Tryz.zeroValue0
 t24 := Tryz.underlying39
 a24 := Tryz.isAgg39
 z24 := Tryz.sizeOf39
 v24 := Tryz.zeroValue39
 t26 := Tryz.underlying9
 a26 := Tryz.isAgg9
 z26 := Tryz.sizeOf9
 v26 := Tryz.zeroValue9
 t28 := Tryz.underlying207
 a28 := Tryz.isAgg207
 z28 := Tryz.sizeOf207
 v28 := Tryz.zeroValue207
 i26 := by kernel_rfl }
def Tryz.g140_ren : Go.Shelf.Ren := ⟨fun | 6 => 140 | 8 => 155 | 9 => 186 | 19 => 203 | 20 => 204 | 21 => 246 | 22 => 247 | 23 => 248 | 24 => 249 | 25 => 250 | 26 => 251 | 27 => 252 | 28 => 253 | 29 => 254 | 36 => 290 | 31 => 260 | 32 => 261 | 37 => 291 | 38 => 292 | 39 => 293 | 41 => 313 | n => n, fun | 27 => 39 | 29 => 9 | 3 => 3 | 32 => 212 | 26 => 39 | 0 => 0 | 44 => 252 | 46 => 231 | 4 => 4 | 36 => 246 | 35 => 245 | 41 => 68 | 5 => 5 | 9 => 9 | 53 => 284 | 57 => 288 | 63 => 316 | 64 => 317 | n => n, fun | n => n⟩
theorem Tryz.g140 : Go.Proofs.SlLaysM.n6 Tryz.prog Tryz.g140_ren := {
 mixed := by kernel_rfl
 f6 := ⟨Tryz.f140.name, by decide, Tryz.func140.trans (congrArg some (by kernel_rfl))⟩
 f8 := Tryz.func155.trans (congrArg some (by kernel_rfl))
 f9 := ⟨Tryz.f186.name, by decide, Tryz.func186.trans (congrArg some (by kernel_rfl))⟩
 f19 := Tryz.func203.trans (congrArg some (by kernel_rfl))
 f20 := Tryz.func204.trans (congrArg some (by kernel_rfl))
 f21 := ⟨Tryz.f246.name, by decide, Tryz.func246.trans (congrArg some (by kernel_rfl))⟩
 f22 := ⟨Tryz.f247.name, by decide, Tryz.func247.trans (congrArg some (by kernel_rfl))⟩
 f23 := ⟨Tryz.f248.name, by decide, Tryz.func248.trans (congrArg some (by kernel_rfl))⟩
 f24 := ⟨Tryz.f249.name, by decide, Tryz.func249.trans (congrArg some (by kernel_rfl))⟩
 f25 := ⟨Tryz.f250.name, by decide, Tryz.func250.trans (congrArg some (by kernel_rfl))⟩
 f26 := ⟨Tryz.f251.name, by decide, Tryz.func251.trans (congrArg some (by kernel_rfl))⟩
 f27 := ⟨Tryz.f252.name, by decide, Tryz.func252.trans (congrArg some (by kernel_rfl))⟩
 f28 := ⟨Tryz.f253.name, by decide, Tryz.func253.trans (congrArg some (by kernel_rfl))⟩
 f29 := ⟨Tryz.f254.name, by decide, Tryz.func254.trans (congrArg some (by kernel_rfl))⟩
 f31 := Tryz.func260.trans (congrArg some (by kernel_rfl))
 f32 := Tryz.func261.trans (congrArg some (by kernel_rfl))
 f36 := ⟨Tryz.f290.name, by decide, Tryz.func290.trans (congrArg some (by kernel_rfl))⟩
 f37 := ⟨Tryz.f291.name, by decide, Tryz.func291.trans (congrArg some (by kernel_rfl))⟩
 f38 := ⟨Tryz.f292.name, by decide, Tryz.func292.trans (congrArg some (by kernel_rfl))⟩
 f39 := ⟨Tryz.f293.name, by decide, Tryz.func293.trans (congrArg some (by kernel_rfl))⟩
 f41 := ⟨Tryz.f313.name, by decide, Tryz.func313.trans (congrArg some (by kernel_rfl))⟩
 t0 := Tryz.underlying0
 a0 := Tryz.isAgg0
 z0 := Tryz.sizeOf0
 v0 := Tryz.zeroValue0
 t3 := Tryz.underlying3
 a3 := Tryz.isAgg3
 z3 := Tryz.sizeOf3
 v3 := Tryz.zeroValue3
 t4 := Tryz.underlying4
 a4 := Tryz.isAgg4
 z4 := Tryz.sizeOf4
 v4 := Tryz.zeroValue4
 t5 := Tryz.underlying5
 a5 := Tryz.isAgg5
 z5 := Tryz.sizeOf5
 v5 := Tryz.zeroValue5
 t9 := Tryz.underlying9
 a9 := Tryz.isAgg9
 z9 := Tryz.sizeOf9
 v9 := Tryz.zeroValue9
 t26 := Tryz.underlying39
 a26 := Tryz.isAgg39
 z26 := Tryz.sizeOf39
 v26 := Tryz.zeroValue39
 t27 := Tryz.underlying39
 a27 := Tryz.isAgg39
 z27 := Tryz.sizeOf39
 v27 := Tryz.zeroValue39
 t29 := Tryz.underlying9
 a29 := Tryz.isAgg9
 z29 := Tryz.sizeOf9
 v29 := Tryz.zeroValue9
 t32 := Tryz.underlying212
 a32 := Tryz.isAgg212
 z32 := Tryz.sizeOf212
 v32 := Tryz.zeroValue212
 t35 := Tryz.underlying245
 a35 := Tryz.isAgg245
 z35 := Tryz.sizeOf245
 v35 := Tryz.zeroValue245
 t36 := Tryz.underlying246
 a36 := Tryz.isAgg246
 z36 := Tryz.sizeOf246
 v36 := Tryz.zeroValue246
 t41 := Tryz.underlying68
 a41 := Tryz.isAgg68
 z41 := Tryz.sizeOf68
 v41 := Tryz.zeroValue68
 t44 := Tryz.underlying252
 a44 := Tryz.isAgg252
 z44 := Tryz.sizeOf252
 v44 := Tryz.zeroValue252
 t46 := Tryz.underlying231
 a46 := Tryz.isAgg231
 z46 := Tryz.sizeOf231
 v46 := Tryz.zeroValue231
 t53 := Tryz.underlying284
 a53 := Tryz.isAgg284
 z53 := Tryz.sizeOf284
 v53 := Tryz.zeroValue284
 t57 := Tryz.underlying288
 a57 := Tryz.isAgg288
 z57 := Tryz.sizeOf288
 v57 := Tryz.zeroValue288
 t63 := Tryz.underlying316
 a63 := Tryz.isAgg316
 z63 := Tryz.sizeOf316
 v63 := Tryz.zeroValue316
 t64 := Tryz.underlying317
 a64 := Tryz.isAgg317
 z64 := Tryz.sizeOf317
 v64 := Tryz.zeroValue317 }
def Tryz.g104_ren : Go.Shelf.Ren := ⟨fun | 6 => 104 | 15 => 155 | 14 => 154 | 28 => 203 | 29 => 204 | 20 => 195 | 21 => 196 | 22 => 197 | 23 => 198 | 24 => 199 | 25 => 200 | 26 => 201 | 27 => 202 | 46 => 259 | 47 => 260 | 48 => 261 | 49 => 262 | 50 => 263 | 57 => 295 | n => n, fun | 22 => 89 | 24 => 123 | 25 => 161 | 3 => 3 | 39 => 212 | 0 => 0 | 53 => 252 | 55 => 231 | 4 => 4 | 46 => 246 | 45 => 245 | 50 => 68 | 5 => 5 | 9 => 9 | 66 => 284 | 70 => 288 | 76 => 316 | 77 => 317 | n => n, fun | n => n⟩
theorem Tryz.g104 : Go.Proofs.SlLaysF0.n6 Tryz.prog Tryz.g104_ren := {
 mixed := by kernel_rfl
 f6 := ⟨Tryz.f104.name, by decide, Tryz.func104.trans (congrArg some (by kernel_rfl))⟩
 f14 := ⟨Tryz.f154.name, by decide, Tryz.func154.trans (congrArg some (by kernel_rfl))⟩
 f15 := Tryz.func155.trans (congrArg some (by kernel_rfl))
 f20 := ⟨Tryz.f195.name, by decide, Tryz.func195.trans (congrArg some (by kernel_rfl))⟩
 f21 := ⟨Tryz.f196.name, by decide, Tryz.func196.trans (congrArg some (by kernel_rfl))⟩
 f22 := ⟨Tryz.f197.name, by decide, Tryz.func197.trans (congrArg some (by kernel_rfl))⟩
 f23 := ⟨Tryz.f198.name, by decide, Tryz.func198.trans (congrArg some (by kernel_rfl))⟩
 f24 := ⟨Tryz.f199.name, by decide, Tryz.func199.trans (congrArg some (by kernel_rfl))⟩
 f25 := ⟨Tryz.f200.name, by decide, Tryz.func200.trans (congrArg some (by kernel_rfl))⟩
 f26 := ⟨Tryz.f201.name, by decide, Tryz.func201.trans (congrArg some (by kernel_rfl))⟩
 f27 := ⟨Tryz.f202.name, by decide, Tryz.func202.trans (congrArg some (by kernel_rfl))⟩
 f28 := Tryz.func203.trans (congrArg some (by kernel_rfl))
 f29 := Tryz.func204.trans (congrArg some (by kernel_rfl))
 f46 := ⟨Tryz.f259.name, by decide, Tryz.func259.trans (congrArg some (by kernel_rfl))⟩
 f47 := Tryz.func260.trans (congrArg some (by kernel_rfl))
 f48 := Tryz.func261.trans (congrArg some (by kernel_rfl))
 f49 := ⟨Tryz.f262.name, by decide, Tryz.func262.trans (congrArg some (by kernel_rfl))⟩
 f50 := ⟨Tryz.f263.name, by decide, Tryz.func263.trans (congrArg some (by kernel_rfl))⟩
 f57 := ⟨Tryz.f295.name, by decide, Tryz.func295.trans (congrArg some (by kernel_rfl))⟩
 t0 := Tryz.underlying0
 a0 := Tryz.isAgg0
 z0 := Tryz.sizeOf0
 v0 := Tryz.zeroValue0
 t3 := Tryz.underlying3
 a3 := Tryz.isAgg3
 z3 := Tryz.sizeOf3
 v3 := Tryz.zeroValue3
 t4 := Tryz.underlying4
 a4 := Tryz.isAgg4
 z4 := Tryz.sizeOf4
 v4 := Tryz.zeroValue4
 t5 := Tryz.underlying5
 a5 := Tryz.isAgg5
 z5 := Tryz.sizeOf5
 v5 := Tryz.zeroValue5
 t9 := Tryz.underlying9
 a9 := Tryz.isAgg9
 z9 := Tryz.sizeOf9
 v9 := Tryz.zeroValue9
 t22 := Tryz.underlying89
 a22 := Tryz.isAgg89
 z22 := Tryz.sizeOf89
 v22 := Tryz.zeroValue89
 t25 := Tryz.underlying161
 a25 := Tryz.isAgg161
 z25 := Tryz.sizeOf161
 v25 := Tryz.zeroValue161
 t39 := Tryz.underlying212
 a39 := Tryz.isAgg212
 z39 := Tryz.sizeOf212
 v39 := Tryz.zeroValue212
 t45 := Tryz.underlying245
 a45 := Tryz.isAgg245
 z45 := Tryz.sizeOf245
 v45 := Tryz.zeroValue245
 t46 := Tryz.underlying246
 a46 := Tryz.isAgg246
 z46 := Tryz.sizeOf246
 v46 := Tryz.zeroValue246
 t50 := Tryz.underlying68
 a50 := Tryz.isAgg68
 z50 := Tryz.sizeOf68
 v50 := Tryz.zeroValue68
 t53 := Tryz.underlying252
 a53 := Tryz.isAgg252
 z53 := Tryz.sizeOf252
 v53 := Tryz.zeroValue252
 t55 := Tryz.underlying231
 a55 := Tryz.isAgg231
 z55 := Tryz.sizeOf231
 v55 := Tryz.zeroValue231
 t66 := Tryz.underlying284
 a66 := Tryz.isAgg284
 z66 := Tryz.sizeOf284
 v66 := Tryz.zeroValue284
 t70 := Tryz.underlying288
 a70 := Tryz.isAgg288
 z70 := Tryz.sizeOf288
 v70 := Tryz.zeroValue288
 t76 := Tryz.underlying316
 a76 := Tryz.isAgg316
 z76 := Tryz.sizeOf316
 v76 := Tryz.zeroValue316
 t77 := Tryz.underlying317
 a77 := Tryz.isAgg317
 z77 := Tryz.sizeOf317
 v77 := Tryz.zeroValue317 }
def Tryz.g106_ren : Go.Shelf.Ren := ⟨fun | 6 => 106 | 15 => 155 | 14 => 156 | 28 => 203 | 29 => 204 | 20 => 205 | 21 => 206 | 22 => 207 | 23 => 208 | 24 => 209 | 25 => 210 | 26 => 211 | 27 => 212 | 46 => 264 | 47 => 260 | 48 => 261 | 49 => 265 | 50 => 266 | 57 => 296 | n => n, fun | 22 => 74 | 24 => 91 | 25 => 163 | 3 => 3 | 39 => 212 | 0 => 0 | 53 => 252 | 55 => 231 | 4 => 4 | 46 => 246 | 45 => 245 | 50 => 68 | 5 => 5 | 9 => 9 | 66 => 284 | 70 => 288 | 76 => 316 | 77 => 317 | n => n, fun | n => n⟩
theorem Tryz.g106 : Go.Proofs.SlLaysF0.n6 Tryz.prog Tryz.g106_ren := {
 mixed := by kernel_rfl
 f6 := ⟨Tryz.f106.name, by decide, Tryz.func106.trans (congrArg some (by kernel_rfl))⟩
 f14 := ⟨Tryz.f156.name, by decide, Tryz.func156.trans (congrArg some (by kernel_rfl))⟩
 f15 := Tryz.func155.trans (congrArg some (by kernel_rfl))
 f20 := ⟨Tryz.f205.name, by decide, Tryz.func205.trans (congrArg some (by kernel_rfl))⟩
 f21 := ⟨Tryz.f206.name, by decide, Tryz.func206.trans (congrArg some (by kernel_rfl))⟩
 f22 := ⟨Tryz.f207.name, by decide, Tryz.func207.trans (congrArg some (by kernel_rfl))⟩
 f23 := ⟨Tryz.f208.name, by decide, Tryz.func208.trans (congrArg some (by kernel_rfl))⟩
 f24 := ⟨Tryz.f209.name, by decide, Tryz.func209.trans (congrArg some (by kernel_rfl))⟩
 f25 := ⟨Tryz.f210.name, by decide, Tryz.func210.trans (congrArg some (by kernel_rfl))⟩
 f26 := ⟨Tryz.f211.name, by decide, Tryz.func211.trans (congrArg some (by kernel_rfl))⟩
 f27 := ⟨Tryz.f212.name, by decide, Tryz.func212.trans (congrArg some (by kernel_rfl))⟩
 f28 := Tryz.func203.trans (congrArg some (by kernel_rfl))
 f29 := Tryz.func204.trans (congrArg some (by kernel_rfl))
 f46 := ⟨Tryz.f264.name, by decide, Tryz.func264.trans (congrArg some (by kernel_rfl))⟩
 f47 := Tryz.func260.trans (congrArg some (by kernel_rfl))
 f48 := Tryz.func261.trans (congrArg some (by kernel_rfl))
 f49 := ⟨Tryz.f265.name, by decide, Tryz.func265.trans (congrArg some (by kernel_rfl))⟩
 f50 := ⟨Tryz.f266.name, by decide, Tryz.func266.trans (congrArg some (by kernel_rfl))⟩
 f57 := ⟨Tryz.f296.name, by decide, Tryz.func296.trans (congrArg some (by kernel_rfl))⟩
 t0 := Tryz.underlying0
 a0 := Tryz.isAgg0
 z0 := Tryz.sizeOf0
 v0 := Tryz.zeroValue0
 t3 := Tryz.underlying3
 a3 := Tryz.isAgg3
 z3 := Tryz.sizeOf3
 v3 := Tryz.zeroValue3
 t4 := Tryz.underlying4
 a4 := Tryz.isAgg4
 z4 := Tryz.sizeOf4
 v4 := Tryz.zeroValue4
 t5 := Tryz.underlying5
 a5 := Tryz.isAgg5
 z5 := Tryz.sizeOf5
 v5 := Tryz.zeroValue5
 t9 := Tryz.underlying9
 a9 := Tryz.isAgg9
 z9 := Tryz.sizeOf9
 v9 := Tryz.zeroValue9
 t22 := Tryz.underlying74
 a22 := Tryz.isAgg74
 z22 := Tryz.sizeOf74
 v22 := Tryz.zeroValue74
 t25 := Tryz.underlying163
 a25 := Tryz.isAgg163
 z25 := Tryz.sizeOf163
 v25 := Tryz.zeroValue163
 t39 := Tryz.underlying212
 a39 := Tryz.isAgg212
 z39 := Tryz.sizeOf212
 v39 := Tryz.zeroValue212
 t45 := Tryz.underlying245
 a45 := Tryz.isAgg245
 z45 := Tryz.sizeOf245
 v45 := Tryz.zeroValue245
 t46 := Tryz.underlying246
 a46 := Tryz.isAgg246
 z46 := Tryz.sizeOf246
 v46 := Tryz.zeroValue246
 t50 := Tryz.underlying68
 a50 := Tryz.isAgg68
 z50 := Tryz.sizeOf68
 v50 := Tryz.zeroValue68
 t53 := Tryz.underlying252
 a53 := Tryz.isAgg252
 z53 := Tryz.sizeOf252
 v53 := Tryz.zeroValue252
 t55 := Tryz.underlying231
 a55 := Tryz.isAgg231
 z55 := Tryz.sizeOf231
 v55 := Tryz.zeroValue231
 t66 := Tryz.underlying284
 a66 := Tryz.isAgg284
 z66 := Tryz.sizeOf284
 v66 := Tryz.zeroValue284
 t70 := Tryz.underlying288
 a70 := Tryz.isAgg288
 z70 := Tryz.sizeOf288
 v70 := Tryz.zeroValue288
 t76 := Tryz.underlying316
 a76 := Tryz.isAgg316
 z76 := Tryz.sizeOf316
 v76 := Tryz.zeroValue316
 t77 := Tryz.underlying317
 a77 := Tryz.isAgg317
 z77 := Tryz.sizeOf317
 v77 := Tryz.zeroValue317 }
def Tryz.g111_ren : Go.Shelf.Ren := ⟨fun | 6 => 111 | 15 => 155 | 14 => 158 | 28 => 203 | 29 => 204 | 20 => 213 | 21 => 214 | 22 => 215 | 23 => 216 | 24 => 217 | 25 => 218 | 26 => 219 | 27 => 220 | 46 => 267 | 47 => 260 | 48 => 261 | 49 => 268 | 50 => 269 | 57 => 297 | n => n, fun | 22 => 51 | 24 => 56 | 25 => 171 | 3 => 3 | 39 => 212 | 0 => 0 | 53 => 252 | 55 => 231 | 4 => 4 | 46 => 246 | 45 => 245 | 50 => 68 | 5 => 5 | 9 => 9 | 66 => 284 | 70 => 288 | 76 => 316 | 77 => 317 | n => n, fun | n => n⟩
theorem Tryz.g111 : Go.Proofs.SlLaysF0.n6 Tryz.prog Tryz.g111_ren := {
 mixed := by kernel_rfl
 f6 := ⟨Tryz.f111.name, by decide, Tryz.func111.trans (congrArg some (by kernel_rfl))⟩
 f14 := ⟨Tryz.f158.name, by decide, Tryz.func158.trans (congrArg some (by kernel_rfl))⟩
 f15 := Tryz.func155.trans (congrArg some (by kernel_rfl))
 f20 := ⟨Tryz.f213.name, by decide, Tryz.func213.trans (congrArg some (by kernel_rfl))⟩
 f21 := ⟨Tryz.f214.name, by decide, Tryz.func214.trans (congrArg some (by kernel_rfl))⟩
 f22 := ⟨Tryz.f215.name, by decide, Tryz.func215.trans (congrArg some (by kernel_rfl))⟩
 f23 := ⟨Tryz.f216.name, by decide, Tryz.func216.trans (congrArg some (by kernel_rfl))⟩
 f24 := ⟨Tryz.f217.name, by decide, Tryz.func217.trans (congrArg some (by kernel_rfl))⟩
 f25 := ⟨Tryz.f218.name, by decide, Tryz.func218.trans (congrArg some (by kernel_rfl))⟩
 f26 := ⟨Tryz.f219.name, by decide, Tryz.func219.trans (congrArg some (by kernel_rfl))⟩
 f27 := ⟨Tryz.f220.name, by decide, Tryz.func220.trans (congrArg some (by kernel_rfl))⟩
 f28 := Tryz.func203.trans (congrArg some (by kernel_rfl))
 f29 := Tryz.func204.trans (congrArg some (by kernel_rfl))
 f46 := ⟨Tryz.f267.name, by decide, Tryz.func267.trans (congrArg some (by kernel_rfl))⟩
 f47 := Tryz.func260.trans (congrArg some (by kernel_rfl))
 f48 := Tryz.func261.trans (congrArg some (by kernel_rfl))
 f49 := ⟨Tryz.f268.name, by decide, Tryz.func268.trans (congrArg some (by kernel_rfl))⟩
 f50 := ⟨Tryz.f269.name, by decide, Tryz.func269.trans (congrArg some (by kernel_rfl))⟩
 f57 := ⟨Tryz.f297.name, by decide, Tryz.func297.trans (congrArg some (by kernel_rfl))⟩
 t0 := Tryz.underlying0
 a0 := Tryz.isAgg0
 z0 := Tryz.sizeOf0
 v0 := Tryz.zeroValue0
 t3 := Tryz.underlying3
 a3 := Tryz.isAgg3
 z3 := Tryz.sizeOf3
 v3 := Tryz.zeroValue3
 t4 := Tryz.underlying4
 a4 := Tryz.isAgg4
 z4 := Tryz.sizeOf4
 v4 := Tryz.zeroValue4
 t5 := Tryz.underlying5
 a5 := Tryz.isAgg5
 z5 := Tryz.sizeOf5
 v5 := Tryz.zeroValue5
 t9 := Tryz.underlying9
 a9 := Tryz.isAgg9
 z9 := Tryz.sizeOf9
 v9 := Tryz.zeroValue9
 t22 := Tryz.underlying51
 a22 := Tryz.isAgg51
 z22 := Tryz.sizeOf51
 v22 := Tryz.zeroValue51
 t25 := Tryz.underlying171
 a25 := Tryz.isAgg171
 z25 := Tryz.sizeOf171
 v25 := Tryz.zeroValue171
 t39 := Tryz.underlying212
 a39 := Tryz.isAgg212
 z39 := Tryz.sizeOf212
 v39 := Tryz.zeroValue212
 t45 := Tryz.underlying245
 a45 := Tryz.isAgg245
 z45 := Tryz.sizeOf245
 v45 := Tryz.zeroValue245
 t46 := Tryz.underlying246
 a46 := Tryz.isAgg246
 z46 := Tryz.sizeOf246
 v46 := Tryz.zeroValue246
 t50 := Tryz.underlying68
 a50 := Tryz.isAgg68
 z50 := Tryz.sizeOf68
 v50 := Tryz.zeroValue68
 t53 := Tryz.underlying252
 a53 := Tryz.isAgg252
 z53 := Tryz.sizeOf252
 v53 := Tryz.zeroValue252
 t55 := Tryz.underlying231
 a55 := Tryz.isAgg231
 z55 := Tryz.sizeOf231
 v55 := Tryz.zeroValue231
 t66 := Tryz.underlying284
 a66 := Tryz.isAgg284
 z66 := Tryz.sizeOf284
 v66 := Tryz.zeroValue284
 t70 := Tryz.underlying288
 a70 := Tryz.isAgg288
 z70 := Tryz.sizeOf288
 v70 := Tryz.zeroValue288
 t76 := Tryz.underlying316
 a76 := Tryz.isAgg316
 z76 := Tryz.sizeOf316
 v76 := Tryz.zeroValue316
 t77 := Tryz.underlying317
 a77 := Tryz.isAgg317
 z77 := Tryz.sizeOf317
 v77 := Tryz.zeroValue317 }
def Tryz.g109_ren : Go.Shelf.Ren := ⟨fun | 5 => 109 | 7 => 157 | n => n, fun | 23 => 164 | 25 => 168 | 3 => 3 | 4 => 4 | 20 => 20 | n => n, fun | n => n⟩
theorem Tryz.g109 : Go.Proofs.SlLaysW.n5 Tryz.prog Tryz.g109_ren := {
 mixed := by kernel_rfl
 f5 := ⟨Tryz.f109.name, by decide, Tryz.func109.trans (congrArg some (by kernel_rfl))⟩
 f7 := Tryz.func157.trans (congrArg some (by kernel_rfl))
 t4 := Tryz.underlying4
 a4 := Tryz.isAgg4
 z4 := Tryz.sizeOf4
 v4 := Tryz.zeroValue4
 t20 := Tryz.underlying20
 a20 := Tryz.isAgg20
 z20 := Tryz.sizeOf20
 v20 := Tryz.zeroValue20
 t23 := Tryz.underlying164
 a23 := Tryz.isAgg164
 z23 := Tryz.sizeOf164
 v23 := Tryz.zeroValue164 }
end
end Go.Proofs
namespace Go.HL
section
variable {P : Program}
open Go.Sort Go.Proofs Go.Shelf Go.RowKit
theorem zpw [Tracks] {w w' : World} {J : Imm} {M : List MObj} (hT : Tracks.on = true) (hl : Le (zb8 w) J) (hs : Sat P J M w') : ∃ q os, w' = grow (w.drewN q) os := by
 have hb := zj7 hl hs
 have hd : w.drawn ≤ w'.drawn := Nat.le_trans (hl.low hT) (hs.low hT)
 refine ⟨w'.drawn - w.drawn, w'.heap.extract w.heap.size w'.heap.size, ?_⟩
 have hh : w'.heap = w.heap ++ w'.heap.extract w.heap.size w'.heap.size := by
  apply Array.ext_getElem?
  intro i
  by_cases hi : i < w.heap.size
  ·rw [Array.getElem?_append_left hi]; exact hb.block i hi
  ·rw [Array.getElem?_append_right (by omega), Array.getElem?_extract]
   have := hb.size
   split
   ·congr 1; omega
   ·rw [Array.getElem?_eq_none (by omega)]
 have h1 := hb.os
 have h2 := hb.tape
 have h3 := hb.output
 obtain ⟨a1, a2, a3, a4, a5⟩ := w'
 obtain ⟨b1, b2, b3, b4, b5⟩ := w
 simp only at h1 h2 h3 hd hh
 subst h1 h2 h3
 simp only [grow, World.drewN, World.mk.injEq]
 exact ⟨hh, trivial, by omega, trivial, trivial⟩
theorem ConP.calls [Tracks] {f : FuncId} {hargs : List HVal} {h : HVal} (hT : Tracks.on = true) (hc : ConP P f hargs h) {w : World} (ht : TabI P (zb8 w)) {args : List Value} (ha : VL (zb8 w) hargs args) :
 Calls P f args.toArray w fun e w' => ∃ v, e = .returned v ∧ V (zb8 w') h v ∧ ∃ q os, w' = grow (w.drewN q) os := by
 refine (hc (zb8 w) [] w args ha (zra ht)).mono ?_
 rintro e w' ⟨v, x, M', J, rfl, hle, ⟨rfl, rfl⟩, hV, hs⟩
 exact ⟨v, rfl, hV.mono hs.le_all, zpw hT hle hs⟩
@[reducible] def zdg : Tracks := ⟨true⟩
/-- A row of cells that reads as an element. -/
abbrev zef {A : Type} (I : Imm) (e : A → HVal) (k : Nat) : Type := { p : A × List Value // p.2.length = k ∧ (∀ v ∈ p.2, v.oneCell' = true) ∧ VL I (zh (e p.1)) p.2 }
theorem zqW [Tracks] {A : Type} {I : Imm} {e : A → HVal} {k : Nat} (hk : ∀ x, (zh (e x)).length = k) (hf : ∀ x, za5 (zh (e x)) = true) {rc : Array Value} : ∀ (l : List A) (off : Nat), off + l.length * k ≤ rc.size →
 (∀ (i j : Nat) (x : A) (c : HVal) (v : Value), l[i]? = some x → (zh (e x))[j]? = some c → rc[off + i * k + j]? = some v → V I c v) →
 ∃ d : List (zef I e k), d.map (·.1.1) = l ∧ ∀ (i j : Nat) (p : zef I e k), d[i]? = some p → j < k → rc[off + i * k + j]? = p.1.2[j]?
 | [], off, _, _ => ⟨[], rfl, fun i j p h => by simp at h⟩
 | x :: l, off, hb, hV => by
   have hb' : off + k + l.length * k ≤ rc.size := by simp [Nat.add_mul] at hb; omega
   obtain ⟨d, h1, h2⟩ := zqW hk hf l (off + k) hb' fun i j y c v a1 a2 a3 => hV (i + 1) j y c v (by simpa using a1) a2 (by rw [Nat.add_mul, Nat.one_mul]; rw [show off + (i * k + k) + j = off + k + i * k + j by omega]; exact a3)
   have hlen : (rc.extract off (off + k)).toList.length = k := by simp; omega
   have hg : ∀ j, j < k → (rc.extract off (off + k)).toList[j]? = rc[off + j]? := fun j hj => by
    rw [Array.getElem?_toList, Array.getElem?_extract, if_pos (by omega)]
   have hvl : VL I (zh (e x)) (rc.extract off (off + k)).toList := ⟨by rw [hlen, hk], fun j c v a1 a2 => by
    have hj : j < k := by have := zK a1; rw [hk] at this; exact this
    rw [hg j hj] at a2
    exact hV 0 j x c v rfl a1 (by simpa using a2)⟩
   refine ⟨⟨(x, (rc.extract off (off + k)).toList), hlen, zjx hvl (hf x), hvl⟩ :: d, by simp [h1], fun i j p hp hj => ?_⟩
   cases i with
   | zero =>
     simp only [List.getElem?_cons_zero, Option.some.injEq] at hp
     subst hp
     simp only [Nat.zero_mul, Nat.add_zero]
     exact (hg j hj).symm
   | succ i =>
     simp only [List.getElem?_cons_succ] at hp
     rw [← h2 i j p hp hj, Nat.add_mul, Nat.one_mul]
     congr 1; omega
section
variable {A : Type} {e : A → HVal} {k : Nat}
theorem zog {α : Type} [Inhabited α] {enc : α → List Value} {w : World} {b off m : Nat} {dk : Array α} {os : Array Obj} {c : Nat} (hc : c < w.heap.size) (hb : c ≠ b) : (sortWorldK enc k w b off m dk os).heap[c]? = w.heap[c]? := by
 simp only [sortWorldK, grow, putRowK, putRow, mapBlock, Sort.ahead]
 rw [Array.getElem?_append_left (by simpa using hc), Array.getElem?_modify, if_neg (Ne.symm hb)]
theorem zkp {α : Type} [Inhabited α] {enc : α → List Value} {w : World} {b off m : Nat} {dk : Array α} {os : Array Obj} {rc : Array Value} {el : TypeId} {fr : Nat × Nat} (hb : w.heap[b]? = some (.cells rc el fr)) :
 (sortWorldK enc k w b off m dk os).heap[b]? = some (.cells (putCells id off (flatK enc k dk) rc) el fr) := by
 have hlt : b < w.heap.size := lt_of_get' hb
 simp only [sortWorldK, grow, putRowK, putRow, mapBlock, Sort.ahead]
 rw [Array.getElem?_append_left (by simpa using hlt), Array.getElem?_modify, if_pos rfl, hb]
 rfl
where
 lt_of_get' {α : Type} {a : Array α} {i : Nat} {x : α} (h : a[i]? = some x) : i < a.size := by
  rcases Nat.lt_or_ge i a.size with h' | h'
  ·exact h'
  ·simp [Array.getElem?_eq_none h'] at h
theorem znN {α : Type} [Inhabited α] {enc : α → List Value} (hk : ∀ x, (enc x).length = k) {dk : Array α} {i j : Nat} {x : α} (hx : dk[i]? = some x) (hj : j < k) : some ((flatK enc k dk)[i * k + j]!) = (enc x)[j]? := by
 have hi : i < dk.size := by
  rcases Nat.lt_or_ge i dk.size with h' | h'
  ·exact h'
  ·simp [Array.getElem?_eq_none h'] at hx
 have hle : (i + 1) * k ≤ dk.size * k := Nat.mul_le_mul_right _ hi
 rw [Nat.add_mul, Nat.one_mul] at hle
 rw [get_flatK enc k dk _ (by omega)]
 have e1 : (i * k + j) / k = i := by rw [Nat.mul_comm, Nat.mul_add_div (by omega), Nat.div_eq_of_lt hj]; rfl
 have e2 : (i * k + j) % k = j := by rw [Nat.mul_comm, Nat.mul_add_mod, Nat.mod_eq_of_lt hj]
 rw [e1, e2]
 have e3 : dk[i]! = x := by rw [getElem!_pos dk i hi]; rw [Array.getElem?_eq_getElem hi] at hx; exact Option.some.inj hx
 rw [e3]
 have hjl : j < (enc x).length := by rw [hk]; exact hj
 rw [List.getElem?_eq_getElem hjl, getElem!_pos (enc x) j hjl]
set_option maxHeartbeats 1000000 in
/-- slices.SortFunc: a permutation that is sorted. -/
theorem zka [Tracks] {ρ : Ren} (L : SlLaysF0.n6 P ρ) (aE : ∀ w, (isAgg (ρ.t 24)).run P w = .ok true w) (zE : ∀ w, (Go.sizeOf (ρ.t 24)).run P w = .ok k w) (hk : ∀ x, (zh (e x)).length = k) (ha : ∀ x, e x = .agg (zh (e x))) (hf : ∀ x, za5 (zh (e x)) = true)
 {c : A → A → Int} (hO : SWO (ltOf c)) {g : FuncId} (hg : Callable P g) {cap : List HVal} (hc : ∀ x y, @ConP zdg P g (e x :: e y :: cap) (.int .i64 (c x y))) {l : List A} (hl : l.length ≤ 1000000) {v : Value} :
 Con P (ρ.f 6) [.raw v, .fn (.func g) [] cap] [.arr v k (l.map e)] fun x M' => ∃ l' : List A, x = .tup [] ∧ l'.Perm l ∧ l'.Pairwise (fun a b => ¬ c b a < 0) ∧ M' = [.arr v k (l'.map e)] := by
 intro I F w args hargs hs
 obtain ⟨n1, n2⟩ := hargs
 match args, n1, n2 with
 | [u, fv], _, n2 =>
   obtain rfl : u = v := (n2 0 _ _ rfl rfl).raw_inv
   obtain ⟨f1, cb, rfl, f2, f3⟩ := (n2 1 _ _ rfl rfl).fn_inv
   have hf1 : f1 = #[] := by have := f2.1; simp at this; exact this
   subst hf1
   by_cases h0 : l = []
   ·subst h0
    have hu : ∃ p cp, u = .slice p 0 cp := by
     rcases hs.obj (.arr u k (([] : List A).map e)) (by simp) with ⟨rfl, _⟩ | ⟨b, off, cp, rc, el, fr, rfl, _⟩
     ·exact ⟨_, _, rfl⟩
     ·exact ⟨_, _, rfl⟩
    obtain ⟨p, cp, rfl⟩ := hu
    refine (AnyF.slices_SortFunc_none L p cp _ w).mono ?_
    rintro _ _ ⟨rfl, rfl⟩
    exact ⟨_, .tup [], _, I, rfl, .refl I, ⟨[], rfl, .refl _, .nil, rfl⟩, .tup (by simp) (fun j c v h _ => by simp at h), hs⟩
   ·rcases hs.obj (.arr u k (l.map e)) (by simp) with ⟨_, hn⟩ | ⟨b, off, cp, rc, el, fr, rfl, _⟩
    ·simp at hn; exact absurd hn h0
    ·rw [List.length_map] at hs ⊢
     obtain ⟨_, rc, el, fr, h2, h3, h4, h5, h6, h7⟩ := zfj hs
     rw [List.length_map] at h5
     have hblt : b < w.heap.size := zkp.lt_of_get' h2
     have hsz : off + l.length * k ≤ rc.size := by
      have : l.length * k ≤ cp * k := Nat.mul_le_mul_right _ h5.1
      omega
     obtain ⟨d, d1, d2⟩ := zqW (I := I) (e := e) hk hf (rc := rc) l off hsz fun i j x c v a1 a2 a3 => h7 i j (e x) c v (by simp [a1]) a2 a3
     have dl : d.length = l.length := by rw [← d1]; simp
     obtain ⟨p0, hp0⟩ : ∃ p, d[0]? = some p := ⟨_, List.getElem?_eq_getElem (by have := List.length_pos_iff.2 h0; omega)⟩
     haveI : Inhabited (zef I e k) := ⟨p0⟩
     have hkr : ∀ x : zef I e k, (x.1.2).length = k := fun x => x.2.1
     have hH : HoldsK (fun x : zef I e k => x.1.2) k w b off d.toArray := fun j hj => by
      simp only [size_flatK, List.size_toArray, dl] at hj
      have hk0 : 0 < k := by rcases Nat.eq_zero_or_pos k with h | h; (subst h; simp at hj); exact h
      have hi : j / k < d.length := by rw [dl]; exact Nat.div_lt_of_lt_mul (by rw [Nat.mul_comm]; exact hj)
      have hjk := Nat.mod_lt j hk0
      have hdj : j / k * k + j % k = j := by rw [Nat.mul_comm]; exact Nat.div_add_mod j k
      have hg1 := d2 (j / k) (j % k) d[j / k] (List.getElem?_eq_getElem hi) hjk
      have hg2 := znN (enc := fun x : zef I e k => x.1.2) (k := k) hkr (dk := d.toArray) (i := j / k) (j := j % k) (x := d[j / k]) (by simp [hi]) hjk
      rw [hdj] at hg2
      constructor
      ·rw [zcH h2]
       rw [show off + j = off + j / k * k + j % k by omega, hg1, ← hg2]; rfl
      ·simp only [World.frozen?, h2]
       have := h3 (off + j) (by omega)
       simpa using this
     have hle : ∀ (m : Nat) (dk : Array (zef I e k)) (os : Array Obj), Le I (zb8 (sortWorldK (fun x : zef I e k => x.1.2) k w b off m dk os)) := fun m dk os =>
      ⟨fun c o ho => by
       have hcb : c ≠ b := fun hh => by
        subst hh
        have := hs.apart c (by simp [blocks, MObj.blocks])
        rw [this] at ho; cases ho
       have h9 := hs.imm c o ho
       show (sortWorldK _ k w b off m dk os).heap[c]? = some o
       rw [zog (zkp.lt_of_get' h9) hcb]; exact h9, hs.os, hs.output, hs.tape, fun ht => Nat.le_trans (hs.low ht) (Nat.le_add_right _ _)⟩
     have hcmp : CmpLays P g cb (fun x : zef I e k => x.1.2) k (fun x y => c x.1.1 y.1.1) b off d.toArray.size w := fun m os dk _ x y => by
      have hI := hle m dk os
      have hxa : ∀ z : zef I e k, V (zb8 (sortWorldK (fun x : zef I e k => x.1.2) k w b off m dk os)) (e z.1.1) (.agg z.1.2.toArray) := fun z => by
       rw [ha]; exact V.mk_agg (by simpa using z.2.2.2.mono hI)
      have e9 : (#[Value.agg x.1.2.toArray, .agg y.1.2.toArray] ++ cb) = (Value.agg x.1.2.toArray :: .agg y.1.2.toArray :: cb.toList).toArray := by simp
      rw [e9]
      refine (@ConP.calls P zdg g _ _ rfl (hc x.1.1 y.1.1) _ (hs.tab.mono hI) _ (VL.cons (hxa x) (VL.cons (hxa y) (f3.mono hI)))).mono ?_
      rintro _ w' ⟨u, rfl, hu, q, os', rfl⟩
      exact ⟨by rw [hu.int_inv], q, os', rfl⟩
     have hO' : SWO (ltOf fun x y : zef I e k => c x.1.1 y.1.1) := ⟨fun x => hO.irrefl x.1.1, fun x y z => hO.trans x.1.1 y.1.1 z.1.1, fun x y z => hO.ntrans x.1.1 y.1.1 z.1.1⟩
     have hrun := AnyQ.slices_SortFunc L k aE zE (fun x : zef I e k => x.1.2) hkr (fun x => x.2.2.1) (fun x y => c x.1.1 y.1.1) hO' g cb b off cp d.toArray w (zfG hg) hcmp hH hblt (by simp; omega)
     rw [List.size_toArray, dl] at hrun
     refine hrun.mono ?_
     rintro _ w' ⟨rfl, d', m, os, ⟨q1, _, q3⟩, q4, rfl⟩
     simp only [List.size_toArray, dl] at q1
     have q3' : d'.toList.Perm d := by
      have e1 : (d'.extract 0 l.length) = d' := by rw [← q1]; exact Array.extract_size
      have e2 : (d.toArray.extract 0 l.length) = d.toArray := by have := Array.extract_size (xs := d.toArray); rw [List.size_toArray, dl] at this; exact this
      rw [e1, e2] at q3; simpa using q3
     refine ⟨_, .tup [], [.arr (.slice (some ⟨b, off, none⟩) l.length cp) k ((d'.toList.map (·.1.1)).map e)], I, rfl, .refl I, ⟨d'.toList.map (·.1.1), rfl, by rw [← d1]; exact q3'.map _, ?_, rfl⟩, .tup (by simp) (fun j c v h _ => by simp at h), ?_⟩
     ·refine List.pairwise_iff_getElem.2 fun i j hi hj hij => ?_
      simp only [List.length_map, Array.length_toList] at hi hj
      have := q4 i j (Nat.zero_le _) hij (by omega)
      rw [getElem!_pos d' i hi, getElem!_pos d' j hj] at this
      simp only [ltOf, decide_eq_false_iff_not] at this
      simpa using this
     ·have hchg : ∀ x, x < w.heap.size → x ∉ (MObj.arr (.slice (some ⟨b, off, none⟩) l.length cp) k (l.map e)).blocks → (sortWorldK (fun x : zef I e k => x.1.2) k w b off m d' os).heap[x]? = w.heap[x]? := fun x hx hnx => zog hx fun hh => hnx (by rw [hh]; simp [MObj.blocks])
      refine hs.change (m' := .arr (.slice (some ⟨b, off, none⟩) l.length cp) k ((d'.toList.map (·.1.1)).map e)) hchg (fun x hx => .inl hx) (by simp [MObj.blocks]) ?_ rfl rfl rfl (fun _ => Nat.le_add_right _ _)
      refine .inr ⟨b, off, cp, putCells id off (flatK (fun x : zef I e k => x.1.2) k d') rc, el, fr, by simp [q1], zkp h2, by simpa [putCells] using h3, ?_, by simp [q1]; exact h5, by simpa [putCells] using h6, ?_⟩
      ·intro y hy; obtain ⟨z, _, rfl⟩ := List.mem_map.1 hy; exact hk z
      ·intro i j y z v a1 a2 a3
       rw [List.map_map, List.getElem?_map] at a1
       cases hq : d'.toList[i]? with
       | none => rw [hq] at a1; simp at a1
       | some r =>
         rw [hq] at a1
         simp only [Option.map_some, Function.comp_apply, Option.some.injEq] at a1
         subst a1
         have hj : j < k := by have := zK a2; rw [hk] at this; exact this
         have hi : i < l.length := by have := zK hq; simp at this; omega
         have hle : (i + 1) * k ≤ l.length * k := Nat.mul_le_mul_right _ hi
         rw [Nat.add_mul, Nat.one_mul] at hle
         have hr : off + i * k + j < rc.size := by omega
         rw [putCells, Array.getElem?_mapIdx, Array.getElem?_eq_getElem hr, Option.map_some, if_pos ⟨by omega, by rw [size_flatK, q1]; omega⟩] at a3
         rw [show off + i * k + j - off = i * k + j by omega] at a3
         have hg2 := znN (enc := fun x : zef I e k => x.1.2) (k := k) hkr (dk := d') (i := i) (j := j) (x := r) (by simpa using hq) hj
         rw [show (id (flatK (fun x : zef I e k => x.1.2) k d')[i * k + j]!) = (flatK (fun x : zef I e k => x.1.2) k d')[i * k + j]! from rfl, hg2] at a3
         exact r.2.2.2.2 j z v a2 a3
end
end
section
open Go.Proofs Go.RowKit Go.Maps Go.Sort Go.Shelf
section
variable {P : Program}
def znz (H : Type) : Value → Option (DataW H × List MemPlace) := fun _ => some (.nil, [])
theorem zt3 {I : Imm} {w : World} {b : Nat} {α : Type} {f : α → HVal} {L : List (Str × α)} (hm : MSat I w (.map b (sk (em f L)))) :
 ∃ es clk, w.heap[b]? = some (.map es clk) ∧ BornOk es clk ∧ es.size = L.length ∧ es.toList.map (·.key) = L.map fun p => encStr p.1 := by
 obtain ⟨es, clk, h1, ⟨h2, h4⟩, h3⟩ := hm
 have hl : es.size = L.length := by rw [h2]; simp [sk]
 refine ⟨es, clk, h1, h4, hl, List.ext_getElem? fun i => ?_⟩
 rw [List.getElem?_map, List.getElem?_map]
 rcases Nat.lt_or_ge i L.length with h | h
 ·have a1 : L[i]? = some L[i] := List.getElem?_eq_getElem h
  have a2 : es[i]? = some es[i] := Array.getElem?_eq_getElem (by omega)
  have a3 : (sk (em f L))[i]? = some (.str L[i].1, f L[i].2) := by simp [sk, a1]
  have a4 := (h3 i _ _ a3 a2).1.str_inv
  rw [a1, Array.getElem?_toList, a2]
  simp only [Option.map_some, Option.some.injEq]
  rw [a4]
  try rfl
 ·rw [List.getElem?_eq_none h, List.getElem?_eq_none (by rw [Array.length_toList]; omega)]; rfl
theorem zrS {es : Array MapEntry} {clk : Nat} (h : BornOk es clk) : (es.toList.map (·.born)).Nodup := by
 refine List.pairwise_iff_getElem.2 fun i j hi hj hij e => ?_
 rw [List.getElem_map, List.getElem_map] at e
 rw [List.length_map, Array.length_toList] at hi hj
 have := h.2 i j es[i] es[j] (Array.getElem?_eq_getElem hi) (Array.getElem?_eq_getElem hj) (by simpa using e)
 omega
theorem zqL {I : Imm} {w : World} {b : Nat} {α : Type} {f : α → HVal} {L : List (Str × α)} {k : TypeId} (hk : P.underlying k = some .string) (hm : MSat I w (.map b (sk (em f L)))) (hn : ANodup L)
 (hl : ∀ p ∈ L, p.1.length ≤ 1000000) (hs : L.length ≤ 1000000) : ∃ D : DataW Unit, w.ownsMap P k (znz Unit) b L.length D ∧ (strKeys D).Perm (L.map (·.1)) ∧ Maps.size D = L.length := by
 obtain ⟨es, clk, h1, h2, h3, h4⟩ := zt3 hm
 have hx : ∀ x ∈ es.toList, ∃ p ∈ L, x.key = encStr p.1 := fun x hx => by
  have := List.mem_map_of_mem (f := (·.key)) hx
  rw [h4] at this
  obtain ⟨p, hp, e⟩ := List.mem_map.1 this
  exact ⟨p, hp, e.symm⟩
 have hrd : ∀ x ∈ es.toList, ∀ p ∈ L, x.key = encStr p.1 → WideElems.rd P k (znz Unit) x = some (.string p.1, .nil) := fun x _ p hp e => by
  have := hl p hp
  have hm : maxLen = 9223372036854775807 := by rfl
  simp [WideElems.rd, keyOf, hk, e, mapKey, encStr, znz, hm]
  rw [if_pos (by show p.1.toArray.size ≤ _; simp; omega)]
  rfl
 have hkeys : es.toList.map (fun x => strOf (WideElems.rg P k (znz Unit) x).1) = L.map (·.1) := by
  have e2 : es.toList.map (fun x => strOf (WideElems.rg P k (znz Unit) x).1) = (es.toList.map (·.key)).map fun v => match v with | .string s => s.data.toList | _ => [] := by
   rw [List.map_map]
   refine List.map_congr_left fun x hx' => ?_
   obtain ⟨p, hp, e⟩ := hx x hx'
   rw [WideElems.rg_of (hrd x hx' p hp e)]
   simp [e, encStr, strOf]
  rw [e2, h4, List.map_map]
  refine List.map_congr_left fun p _ => ?_
  simp [encStr]
 have hml : maxLen = 9223372036854775807 := by rfl
 refine ⟨_, ⟨es, clk, h1, ⟨by omega, ⟨fun x hx' => ?_, zrS h2, ?_⟩, fun x hx' => ?_⟩, by omega, rfl⟩, ?_, ?_⟩
 ·obtain ⟨i, hi⟩ := List.getElem?_of_mem hx'
  exact h2.1 i x (by simpa using hi)
 ·rw [h4]
  have : (L.map fun p => encStr p.1) = (L.map (·.1)).map encStr := by rw [List.map_map]; rfl
  rw [this]
  exact List.Pairwise.map encStr (fun a b hab e => hab (encStr_inj e)) hn
 ·obtain ⟨p, hp, e⟩ := hx x hx'
  exact ⟨_, hrd x hx' p hp e⟩
 ·show ((List.foldr DataW.insert [] _).map fun p => strOf p.1).Perm _
  rw [← hkeys]
  have := (WideShapes.sorted_perm (es.toList.map (WideElems.rg P k (znz Unit)))).map fun p => strOf p.1
  rw [List.map_map] at this
  exact this
 ·show (List.foldr DataW.insert [] _).length = _
  rw [(WideShapes.sorted_perm _).length_eq, List.length_map, Array.length_toList, h3]
theorem zu0 [Tracks] {ρ : Ren} (L : SlLaysZ.n7 P ρ) {b : Nat} : Con P (ρ.f 7) [.raw (.map (some b))] [] fun x M' => ∃ bx, x = .fn (.func (ρ.f 10)) [] [.raw (.pointer (some ⟨bx, 0, none⟩))] ∧ M' = [.cells bx [.raw (.map (some b))]] := by
 intro I F w args ha hs
 obtain ⟨u, rfl, hu⟩ := ha.one
 obtain rfl := hu.raw_inv
 refine ((callsIn_wide (n := 1)).1 (AnyZ.keys_in L Fence.wide 1 trivial rfl (some b) w)).mono ?_
 rintro _ w' ⟨rfl, rfl⟩
 refine ⟨_, _, _, I, rfl, .refl I, ⟨w.heap.size, rfl, rfl⟩, .fn rfl rfl (fun j c v h _ => by simp at h) (fun j c v h1 h2 => ?_), ?_⟩
 ·exact (VL.cons (.raw _ rfl) VL.nil : VL I [.raw (.pointer (some ⟨w.heap.size, 0, none⟩))] [.pointer (some ⟨w.heap.size, 0, none⟩)]).2 j c v h1 (by simpa using h2)
 ·exact hs.new_own _ _ rfl ⟨#[.map (some b)], ρ.t 23, (0, 0), by simp, Free.zero _, VL.cons (.raw _ rfl) VL.nil⟩
theorem zss [Tracks] (hT : Tracks.on = false) {ρ ρk : Ren} (L : SlLaysZ.n6 P ρ) (Lk : SlLaysZ.n7 P ρk) (hsort : ∀ m, AnyZ.SortsIn P ρ Fence.wide m)
 (e9 : ∀ args w, (callFunc (ρ.f 9) args).run P w = .ok (.enter (ρ.f 9) args) w) (eg : ∀ args w, (callFunc (ρk.f 10) args).run P w = .ok (.enter (ρk.f 10) args) w)
 {α : Type} {f : α → HVal} {l : List (Str × α)} (hn : ANodup l) (hl : ∀ p ∈ l, p.1.length ≤ 1000000) (hs : l.length ≤ 1000000) {b bx : Nat} :
 Con P (ρ.f 6) [.fn (.func (ρk.f 10)) [] [.raw (.pointer (some ⟨bx, 0, none⟩))]] [.cells bx [.raw (.map (some b))], .map b (sk (em f l))] fun x M' => ∃ v, x = .raw v ∧ M' = [.arr v 1 ((zaQ (l.map (·.1))).map .str), .map b (sk (em f l))] := by
 intro I F w args ha hsat
 obtain ⟨u, rfl, hu⟩ := ha.one
 obtain ⟨v1, v2, rfl, hv1, hv2, hc⟩ : ∃ v1 v2, u = .func (.func (ρk.f 10)) v1 v2 ∧ v1 = #[] ∧ v2.size = 1 ∧ ∀ (j : Nat) (c : HVal) (v : Value), [HVal.raw (.pointer (some ⟨bx, 0, none⟩))][j]? = some c → v2[j]? = some v → V I c v := by
  cases hu with
  | fn h1 h2 h3 h4 => exact ⟨_, _, rfl, Array.eq_empty_of_size_eq_zero (by simpa using h1), by simpa using h2, h4⟩
 subst hv1
 obtain rfl : v2 = #[.pointer (some ⟨bx, 0, none⟩)] := by
  match v2, hv2 with
  | ⟨[y]⟩, _ => have := (hc 0 _ y rfl rfl).raw_inv; rw [this]
 obtain ⟨rc, el, fr, c1, c2, c3⟩ := hsat.obj (.cells bx [.raw (.map (some b))]) (by simp)
 have hmap := hsat.obj (.map b (sk (em f l))) (by simp)
 obtain ⟨D, d1, d2, d3⟩ := zqL (k := ρk.t 26) (by exact Lk.t26) hmap hn hl hs
 have hbx : bx < w.heap.size := (Array.getElem?_eq_some_iff.1 c1).1
 have hcell : w.cell? ⟨bx, 0, none⟩ = some (.map (some b)) := by
  have := c3.1
  match rc, this, c1, c3 with
  | ⟨[y]⟩, _, c1, c3 =>
    have hy := c3.head.raw_inv
    subst hy
    simp [World.cell?, c1]
 have hseq := AnyZ.keys_gives (ρ := ρk) { Lk with } Fence.wide 2 trivial rfl (by omega) bx b l.length D w hbx hcell d1
 have cS := AnyZ.sorted_in L Fence.wide 5 trivial trivial trivial trivial rfl (by omega) (hsort _) e9 (ρk.f 10) #[.pointer (some ⟨bx, 0, none⟩)] trivial eg _ _ (by rw [d3]; exact Nat.le_trans hs (by decide)) (by rw [d3]; omega) w hseq
 refine ((callsIn_wide (n := 5)).1 cS).mono ?_
 rintro e w' ⟨v, ss, rfl, hS, hrow, hnil, hb⟩
 have hss : (ss.mergeSort fun x y => decide (x ≤ y)) = zaQ (l.map (·.1)) := mergeSort_of_perm (hS.trans d2)
 rw [hss] at hrow
 have hlen : ss.length = (zaQ (l.map (·.1))).length := by rw [zfl, (hS.trans d2).length_eq]
 have hmem : MSat I w' (.arr v 1 ((zaQ (l.map (·.1))).map .str)) := by
  rcases hrow.2 with ⟨rfl, hz⟩ | ⟨gb, cap, cur, rfl, hbase, hgb, r1, r2, r3, r4⟩
  ·refine .inl ⟨rfl, ?_⟩
   have : zaQ (l.map (·.1)) = [] := List.length_eq_zero_iff.1 (by omega)
   rw [this]; rfl
  ·refine .inr ⟨gb, 0, cap, cur, _, _, by rw [List.length_map, ← hlen], hgb, Free.zero _, fun e he => ?_, ⟨by rw [List.length_map]; omega, Nat.le_trans r2 (by decide)⟩, by omega, fun i j e c y h1 h2 h3 => ?_⟩
   ·obtain ⟨s, _, rfl⟩ := List.mem_map.1 he; rfl
   ·rw [List.getElem?_map] at h1
    cases hq : (zaQ (l.map (·.1)))[i]? with
    | none => rw [hq] at h1; cases h1
    | some s =>
      rw [hq] at h1
      simp only [Option.map_some, Option.some.injEq] at h1
      subst h1
      have hj : j = 0 := by
       cases j with
       | zero => rfl
       | succ j => simp [zh] at h2
      subst hj
      simp only [zh, List.getElem?_cons_zero, Option.some.injEq] at h2
      subst h2
      have hi := zK hq
      have h4 : (cur.toList.take (ss.length * 1))[i]? = some (encStr s) := by rw [r4, List.getElem?_map, hq]; rfl
      rw [List.getElem?_take_of_lt (by omega), Array.getElem?_toList] at h4
      have e0 : 0 + i * 1 + 0 = i := by omega
      rw [e0, h4] at h3
      cases h3
      exact .str s
 have hown : ∀ k, v.ownBlock = some k → w.heap.size ≤ k ∧ k < w'.heap.size := hrow.lt
 refine ⟨v, .raw v, _, I, rfl, .refl I, ⟨v, rfl, rfl⟩, ?_, ?_⟩
 ·rcases hrow.2 with ⟨rfl, _⟩ | ⟨gb, cap, cur, rfl, _⟩
  ·exact .raw _ rfl
  ·exact .raw _ rfl
 ·refine hsat.change (m' := .arr v 1 _) (fun k hk _ => hb.block k hk) (fun k hk => .inr ?_) ?_ hmem hb.os hb.output hb.tape (fun ht => by rw [hT] at ht; cases ht)
  ·rcases hrow.2 with ⟨rfl, _⟩ | ⟨gb, cap, cur, rfl, hbase, _⟩
   ·simp [MObj.blocks] at hk
   ·simp [MObj.blocks] at hk; omega
  ·rcases hrow.2 with ⟨rfl, _⟩ | ⟨gb, cap, cur, rfl, hbase, _⟩ <;> simp [MObj.blocks]
theorem zoP [Tracks] (hT : Tracks.on = false) {ρ ρk : Ren} (L : SlLaysZ.n6 P ρ) (Lk : SlLaysZ.n7 P ρk) (hsort : ∀ m, AnyZ.SortsIn P ρ Fence.wide m)
 (e9 : ∀ args w, (callFunc (ρ.f 9) args).run P w = .ok (.enter (ρ.f 9) args) w) (eg : ∀ args w, (callFunc (ρk.f 10) args).run P w = .ok (.enter (ρk.f 10) args) w)
 {S : List Str} (hn : S.Nodup) (hl : ∀ s ∈ S, s.length ≤ 1000000) (hs : S.length ≤ 1000000) {b bx : Nat} :
 Con P (ρ.f 6) [.fn (.func (ρk.f 10)) [] [.raw (.pointer (some ⟨bx, 0, none⟩))]] [.cells bx [.raw (.map (some b))], .map b (sk (zbv S))] fun x M' => ∃ v, x = .raw v ∧ M' = [.arr v 1 ((zaQ S).map .str), .map b (sk (zbv S))] := by
 have e1 : zbv S = em HVal.bool (S.map fun s => (s, true)) := by simp [zbv]
 have e2 : (S.map fun s => (s, true)).map (·.1) = S := by simp [Function.comp_def]
 have := zss hT L Lk hsort e9 eg (f := HVal.bool) (l := S.map fun s => (s, true)) (by unfold ANodup; rw [e2]; exact hn) (fun p hp => by obtain ⟨s, hs, rfl⟩ := List.mem_map.1 hp; exact hl s hs) (by simpa using hs) (b := b) (bx := bx)
 rw [e2, ← e1] at this
 exact this
end
end
section
variable {P : Program}
/-- A frozen map keyed by strings. -/
abbrev hsm (L : zfO) : HVal := .hmap (L.map fun p => .str p.1) (L.map (·.2))
abbrev zrD (S : List (List UInt8)) : HVal := hsm (zbv S)
theorem zwz (L : zfO) : (sk L).map (·.1) = L.map fun p => HVal.str p.1 := by simp [sk, Function.comp_def]
theorem zwK (L : zfO) : (sk L).map (·.2) = L.map (·.2) := by simp [sk, Function.comp_def]
section
variable {e : Env} {dst : Option Tmp} {ty : TypeId} {pos : String} {af : Array Edge} {g : Option (Nat × Bool)}
end
/-- h, seen as h' while it is only read; objects may hold others. -/
inductive Bow (M : List MObj) : HVal → HVal → Prop
 | weak {h h' : HVal} (hw : Weak h h') : Bow M h h'
 | arr {i : Nat} {v : Value} {sz : Nat} {es : List HVal} (hm : M[i]? = some (.arr v sz es)) : Bow M (.raw v) (.slice sz es)
 | cells {i b off : Nat} {cs cs' : List HVal} (hm : M[i]? = some (.cells b cs)) (hl : cs.length = cs'.length) (h : ∀ (j : Nat) (c c' : HVal), cs[j]? = some c → cs'[j]? = some c' → Bow M c c') : Bow M (.raw (.pointer (some ⟨b, off, none⟩))) (.vptr cs' off)
 | map {i b : Nat} {L : zfO} (hm : M[i]? = some (.map b (sk L))) : Bow M (.raw (.map (some b))) (hsm L)
 | vptr {off : Nat} {l l' : List HVal} (hl : l.length = l'.length) (h : ∀ (j : Nat) (c c' : HVal), l[j]? = some c → l'[j]? = some c' → Bow M c c') : Bow M (.vptr l off) (.vptr l' off)
 | fn {f : Fn} {c1 l l' : List HVal} (hl : l.length = l'.length) (h : ∀ (j : Nat) (c c' : HVal), l[j]? = some c → l'[j]? = some c' → Bow M c c') : Bow M (.fn f c1 l) (.fn f c1 l')
def BowL (M : List MObj) : List HVal → List HVal → Prop
 | [], [] => True
 | h :: r, h' :: r' => Bow M h h' ∧ BowL M r r'
 | _, _ => False
theorem BowL.pt {M : List MObj} : ∀ {l l' : List HVal}, BowL M l l' → l.length = l'.length ∧ ∀ (j : Nat) (c c' : HVal), l[j]? = some c → l'[j]? = some c' → Bow M c c'
 | [], [], _ => ⟨rfl, fun j c c' h => by simp at h⟩
 | h :: r, h' :: r', hb => by
   obtain ⟨h1, h2⟩ := BowL.pt hb.2
   refine ⟨by simp [h1], fun j c c' a1 a2 => ?_⟩
   cases j with
   | zero => simp at a1 a2; subst a1 a2; exact hb.1
   | succ j => exact h2 j c c' (by simpa using a1) (by simpa using a2)
 | [], _ :: _, hb => hb.elim
 | _ :: _, [], hb => hb.elim
theorem Bow.refl {M : List MObj} {h : HVal} : Bow M h h := .weak (Weak.refl _)
theorem V.vptr_inv' {I : Imm} {cs : List HVal} {off : Nat} {v : Value} (h : V I (.vptr cs off) v) : ∃ b base rc el fr, v = .pointer (some ⟨b, base + off, none⟩) ∧ I.heap b = some (.cells rc el fr) ∧ base + cs.length ≤ rc.size ∧
 ∀ (j : Nat) (c : HVal) (v : Value), cs[j]? = some c → rc[base + j]? = some v → V I c v := by
 cases h with
 | vptr h1 h2 h3 => exact ⟨_, _, _, _, _, rfl, h1, h2, h3⟩
theorem Bow.v [Tracks] {M : List MObj} {I : Imm} {F : List MObj} {w : World} {h h' : HVal} (hb : Bow M h h') (hs : Sat P I (M ++ F) w) : ∀ {v : Value}, V I h v → V (zb8 w) h' v := by
 induction hb with
 | weak hw => intro v hv; exact hw _ _ (hv.mono hs.le_all)
 | arr hm => intro v hv; exact (Bor.arr hm).v hs hv
 | @cells i b off cs cs' hm hl _ ih =>
   intro v hv
   rw [hv.raw_inv]
   obtain ⟨rc, el, fr, h2, h3, h4⟩ := hs.obj _ (List.mem_append_left _ (List.mem_of_getElem? hm))
   have := V.vptr (I := zb8 w) (cs := cs') (off := off) (base := 0) h2 (by have := h4.1; simp at this; omega) fun j c v a1 a2 => by
    have hj := zK a1
    have hj' := List.getElem?_eq_getElem (l := cs) (i := j) (by omega)
    exact ih j _ c hj' a1 (h4.2 j _ v hj' (by simpa using a2))
   rwa [Nat.zero_add] at this
 | @map i b L hm =>
   intro v hv
   rw [hv.raw_inv]
   obtain ⟨es, clk, h1, h2, h3⟩ := hs.obj _ (List.mem_append_left _ (List.mem_of_getElem? hm))
   have hn : es.size = L.length := by simpa [sk] using h2.1
   refine .hmap (I := zb8 w) h1 (by simp [hn]) (by simp [hn]) (fun j c m a1 a2 => ?_) (fun j c m a1 a2 => ?_)
   ·rw [← zwz, List.getElem?_map] at a1
    cases hq : (sk L)[j]? with
    | none => rw [hq] at a1; simp at a1
    | some p => rw [hq] at a1; simp at a1; subst a1; exact ((h3 j p m hq a2).1).mono hs.le_all
   ·rw [← zwK, List.getElem?_map] at a1
    cases hq : (sk L)[j]? with
    | none => rw [hq] at a1; simp at a1
    | some p => rw [hq] at a1; simp at a1; subst a1; exact ((h3 j p m hq a2).2).mono hs.le_all
 | @vptr off l l' hl _ ih =>
   intro v hv
   obtain ⟨b, base, rc, el, fr, rfl, h1, h2, h3⟩ := hv.vptr_inv'
   refine .vptr (I := zb8 w) (hs.imm _ _ h1) (by omega) fun j c u a1 a2 => ?_
   have hj := zK a1
   have hj' := List.getElem?_eq_getElem (l := l) (i := j) (by omega)
   exact ih j _ c hj' a1 (h3 j _ u hj' a2)
 | @fn f c1 l l' hl _ ih =>
   intro v hv
   cases hv with
   | fn g1 g2 g3 g4 =>
     refine .fn g1 (by omega) (fun j c u a1 a2 => (g3 j c u a1 a2).mono hs.le_all) fun j c u a1 a2 => ?_
     have hj := zK a1
     have hj' := List.getElem?_eq_getElem (l := l) (i := j) (by omega)
     exact ih j _ c hj' a1 (g4 j _ u hj' a2)
end
section
variable {P : Program}
theorem EOp.fz [Tracks] {e : Env} {M : List MObj} {o : Oper} {K : HVal → List MObj → Prop} {sz : Nat} {es : List HVal} (h : EOp P e M o fun x M' => ∃ v, x = .raw v ∧ M' = .arr v sz es :: M) (hk : K (.slice sz es) M) : EOp P e M o K := fun I F a w ho hs =>
 Oper.wp_noQ (fun _ _ ⟨v, x, M', J, h1, h2, ⟨u, h3, h4⟩, h5, h6⟩ => by
  subst h3 h4
  obtain ⟨J', g1, g2, g3⟩ := Sat.freeze_arr (M := M ++ F) h6
  exact ⟨v, _, M, J', h1, h2.trans g1, hk, by rw [h5.raw_inv]; exact g3, g2⟩) (h I F a w ho hs)
theorem EOp.fzi [Tracks] {e : Env} {M N : List MObj} {o : Oper} {K : HVal → List MObj → Prop} {sz : Nat} {es : List HVal} (i : Nat) (h : EOp P e M o fun x M' => ∃ v, x = .raw v ∧ M'[i]? = some (.arr v sz es) ∧ M'.eraseIdx i = N) (hk : K (.slice sz es) N) : EOp P e M o K := fun I F a w ho hs =>
 Oper.wp_noQ (fun _ _ ⟨v, x, M', J, h1, h2, ⟨u, h3, h4, h5⟩, h6, h7⟩ => by
  subst h3 h5
  obtain ⟨J', g1, g2, g3⟩ := (h7.pull h4).freeze_arr
  exact ⟨v, _, _, J', h1, h2.trans g1, hk, by rw [h6.raw_inv]; exact g3, g2⟩) (h I F a w ho hs)
end
end Go.HL
