/- Part 4 of the proof: a program logic, contracts of functions and plain facts; no conditions. -/
import Derived.Test.YtdjpppifnmjhoaaGreatDoorPOffersComeBack3
import Derived.Ground.Names2Prog
import Derived.KernelRfl
import Derived.Lib.AppendStr
import Derived.Lib.AtoiBound
import Derived.Lib.ItoaMem
import Derived.Lib.Join
import Derived.Lib.SplitLaws
import Derived.Lib.Strings
import Derived.Lib.UnsafeStr
import Derived.Shelf.Lay
import Derived.Shelf.LaySoft
import Derived.Shelf.Slices.CompactS
import Derived.Shelf.Slices.Delete
import Derived.Shelf.Small.Wraps
import Derived.Shelf.Sort.Plain
import Derived.Shelf.Strconv.Atoi
import Derived.Shelf.Strconv.Itoa3
import Derived.Shelf.Strings.Builder1
import Derived.Shelf.Strings.Count
import Derived.Shelf.Strings.Cut
import Derived.Shelf.Strings.OnBuilder
import Derived.Shelf.Strings.Prefix
import Derived.Shelf.Strings.Shaped
import Derived.Shelf.Strings.Split
import Derived.Test.YtdjpppifnmjhoaaGreatDoorProg
set_option linter.unusedVariables false
set_option linter.unusedSimpArgs false
section
namespace Go.Proofs.YtdjpppifnmjhoaaGreatDoor
open Go.HL
set_option maxRecDepth 100000
set_option linter.unusedVariables false
set_option linter.unusedSimpArgs false
/-- benchwarmer/value.Fielded -/
theorem c_value_Fielded [Tracks] {l : List Asset} {p : List HL.Place} (hl : l.length ≤ 11) (hp : p.length ≤ 1000000) : ConP Tryz.prog 41 [eAssets l, ePlaces p] (.tup [.int .i64 (if okAP l p != 0 then 0 else sumF l p), eSs (if okAP l p != 0 then [] else namesV (fieldedL (ofP l) p)), .int .i64 (okAP l p)]) := by
 refine Con.of_body Tryz.func41 rfl Tryz.ntmps41 rfl rfl ?_
 refine hw_reg ?_
 refine dp rfl (pop_assign rfl) ?_
 refine dp rfl (pop_assign rfl) ?_
 refine dp rfl (pop_assign rfl) ?_
 refine dn ?_
 refine hw_seq ?_
 refine hw_reg ?_
 refine dp rfl (pop_move rfl) ?_
 refine dp rfl (pop_call ca89 rfl (WeakL.refl _) (c_value_CheckAssets (by omega))) ?_
 refine dp rfl (pop_move rfl) ?_
 refine dp rfl (pop_call ca90 rfl (WeakL.refl _) (c_value_CheckPlaces (by assumption))) ?_
 refine dp rfl (pop_buildSlice (hs := [_, _]) ty161 ty34 rfl rfl (by decide) (by decide) rfl) ?_
 refine dp rfl (pop_call ca62 rfl (WeakL.refl _) (c_base_First (l := [_, _]) (by simp))) ?_
 refine dp rfl (pop_assign rfl) ?_
 refine dn ?_
 refine hw_reg ?_
 refine dp rfl (pop_move rfl) ?_
 refine dp rfl (pop_neq rfl rfl) ?_
 refine dn ?_
 refine hw_cond rfl (fun h1 => ?_) (fun h2 => ?_)
 ·try simp at h1
  refine hw_reg ?_
  refine dp rfl (pop_move rfl) ?_
  refine dp rfl (pop_assign rfl) ?_
  refine dp rfl (pop_assign rfl) ?_
  refine dp rfl (pop_assign rfl) ?_
  refine dn ?_
  refine hw_ret ?_
  (refine ret_w rfl (weak_tup3 ?_ ?_ (Weak.refl _))
   ·rw [if_pos (by simpa [okAP] using h1)]; exact Weak.refl _
   ·rw [if_pos (by simpa [okAP] using h1)]; exact weak_nil 1)
 ·try simp at h2
  refine hw_skip ?_
  refine seqQ_n ?_
  obtain ⟨hca0, hcp0⟩ := okAP_ok (l := l) (p := p) (by simpa [okAP] using h2)
  obtain ⟨hsr, haf⟩ := checkAssets_ok hca0
  obtain ⟨hmm, hp10⟩ := checkPlaces_ok hcp0
  have hvv : ∀ x ∈ l, -1000000 ≤ x.Value ∧ x.Value ≤ 1000000 := fun x hx => (assetFault_ok (haf x hx)).2.2
  refine hw_reg ?_
  refine dp rfl (pop_move rfl) ?_
  refine dp rfl (pop_move rfl) ?_
  refine dp rfl (pop_call ca91 rfl (WeakL.refl _) (c_value_fielded (by omega) (by assumption) (by simp_all) (by assumption))) ?_
  refine dp rfl (pop_move rfl) ?_
  refine dp rfl (pop_extract rfl rfl) ?_
  refine dp rfl (pop_extract rfl rfl) ?_
  refine dp rfl (pop_assign rfl) ?_
  refine dp rfl (pop_assign rfl) ?_
  refine dn ?_
  refine hw_reg ?_
  refine dp rfl (pop_move rfl) ?_
  refine dp rfl (pop_move rfl) ?_
  refine dp rfl (pop_assign rfl) ?_
  refine dp rfl (pop_assign rfl) ?_
  refine dp rfl (pop_assign rfl) ?_
  refine dn ?_
  refine hw_ret ?_
  (refine ret_p rfl ?_
   have h0 : okAP l p = 0 := by simpa [okAP] using h2
   simp [h0, sumF, ofVal, ofVal1])

end Go.Proofs.YtdjpppifnmjhoaaGreatDoor
end
section
namespace Go.Proofs.YtdjpppifnmjhoaaGreatDoor
open Go.HL
set_option maxRecDepth 100000
set_option linter.unusedVariables false
set_option linter.unusedSimpArgs false

end Go.Proofs.YtdjpppifnmjhoaaGreatDoor
end
section
namespace Go.Proofs.YtdjpppifnmjhoaaGreatDoor
open Go.HL
set_option maxRecDepth 100000
set_option linter.unusedVariables false
set_option linter.unusedSimpArgs false

end Go.Proofs.YtdjpppifnmjhoaaGreatDoor
end
section
namespace Go.Proofs.YtdjpppifnmjhoaaGreatDoor
open Go.HL
set_option maxRecDepth 100000
set_option linter.unusedVariables false
set_option linter.unusedSimpArgs false

end Go.Proofs.YtdjpppifnmjhoaaGreatDoor
end
section
namespace Go.HL
def room1 : Room := ⟨[[97], [98]], 2, 2, [[112], [113], [114], [115]], 1000, 0⟩
theorem room1_ok : checkSwaps room1 [] = 0 := by kernel_rfl
theorem room1_turns : turnTeams room1 [] = [[97], [98], [98], [97]] := by kernel_rfl
end Go.HL
end
section
namespace Go.HL
open Op (bytesLess)
abbrev pick0 : Pick := ⟨0, [], [], 0, false⟩
theorem pw_tri {α : Type} {R : α → α → Prop} : ∀ {l : List α}, l.Pairwise R → ∀ x ∈ l, ∀ y ∈ l, x = y ∨ R x y ∨ R y x
 | [], _, x, hx, _, _ => by simp at hx
 | a :: l, h, x, hx, y, hy => by
   obtain ⟨h1, h2⟩ := List.pairwise_cons.1 h
   rcases List.mem_cons.1 hx with e | hx' <;> rcases List.mem_cons.1 hy with e' | hy'
   ·exact .inl (e.trans e'.symm)
   ·exact .inr (.inl (e ▸ h1 y hy'))
   ·exact .inr (.inr (e' ▸ h1 x hx'))
   ·exact pw_tri h2 x hx' y hy'
/-! keeps that are right -/
def kLt (a b : Keep) : Prop := bytesLess a.Team b.Team = true ∨ (a.Team = b.Team ∧ a.Round < b.Round)
structure KeepsOk (r : Room) (k : List Keep) : Prop where
 all : ∀ x ∈ k, x.Team ∈ r.Teams ∧ x.Player ∈ r.Players ∧ 1 ≤ x.Round ∧ x.Round ≤ r.Rounds
 lt : k.Pairwise kLt
theorem risingGo_key {l : List Str} : ∀ (r : List Str) (k : Nat), risingGo l k r = 0 → ∀ s ∈ r, key s = true
 | [], _, _, s, hs => by simp at hs
 | x :: r, k, h, s, hs => by
   simp only [risingGo] at h
   split at h
   ·omega
   ·rename_i h1
    split at h
    ·omega
    ·rcases List.mem_cons.1 hs with rfl | hs
     ·simpa using h1
     ·exact risingGo_key r (k + 1) h s hs
structure RoomOk (r : Room) : Prop where
 sorted : SortedS r.Players
 t20 : r.Teams.length ≤ 20
 t0 : 0 < r.Teams.length
 r1 : 1 ≤ r.Rounds
 r30 : r.Rounds ≤ 30
 p500 : r.Players.length ≤ 500
 ne : ∀ s ∈ r.Players, s ≠ []
 many : (r.Teams.length : Int) * r.Rounds ≤ r.Players.length
 clock : 1000 ≤ r.Clock ∧ r.Clock ≤ 86400000
 start : moment r.Start = true
theorem room_ok {r : Room} (h : checkRoom r = 0) : RoomOk r := by
 obtain ⟨a1, a2, a3, a4, a5, a6⟩ := checkRoom_ok h
 unfold checkRoom at h
 split at h
 ·rename_i hc; simp [h] at hc
 ·split at h
  ·omega
  ·split at h
   ·omega
   ·split at h
    ·rename_i hc; simp [h] at hc
    ·rename_i hp
     split at h
     ·omega
     ·rename_i hcl
      split at h
      ·omega
      ·rename_i hm
       simp at hcl hp
       refine ⟨a1, a2, a3, a4, a5, a6, fun s hs e => ?_, by omega, out_f hcl.1, hcl.2⟩
       unfold playersFault at hp
       split at hp
       ·omega
       ·have := risingGo_key _ 0 hp s hs
        subst e; simp [key, keyHd] at this
def fits (t : Turn) (x : Keep) : Bool := decide (x.Team = t.of ∧ x.Round = t.round)
theorem keepIn_fix (r : Room) (t : Turn) : ∀ (k : List Keep) (p : Pick), (keepIn r t p k).No = p.No ∧ (keepIn r t p k).Team = p.Team
 | [], p => ⟨rfl, rfl⟩
 | x :: k, p => by
   obtain ⟨h1, h2⟩ := keepIn_fix r t k (if x.Team = t.of ∧ x.Round = t.round then { p with Player := x.Player, At := r.Start } else p)
   simp only [keepIn]; rw [h1, h2]
   split <;> exact ⟨rfl, rfl⟩
theorem KeepsOk.one {r : Room} {k : List Keep} (h : KeepsOk r k) {t : Turn} {x y : Keep} (hx : x ∈ k) (hy : y ∈ k) (fx : fits t x = true) (fy : fits t y = true) : y = x := by
 simp [fits] at fx fy
 rcases pw_tri h.lt x hx y hy with e | e | e
 ·exact e.symm
 ·exfalso
  rcases e with e | ⟨e1, e2⟩
  ·rw [fx.1, fy.1, less_irrefl] at e; cases e
  ·omega
 ·exfalso
  rcases e with e | ⟨e1, e2⟩
  ·rw [fx.1, fy.1, less_irrefl] at e; cases e
  ·omega
def freeP (r : Room) (k : List Keep) (s : List Swap) : List Pick := (open1 r k s).filter fun p => p.Player == []
def goneB (k : List Keep) (l : List Pick) (s : Str) : Bool := k.any (fun x => x.Player == s) || l.any (fun p => p.Player == s)
end Go.HL
end
section
namespace Go.HL
def lastAt (r : Room) (l : List Pick) : Int := match l.getLast? with | some p => p.At | none => r.Start
def pkF (r : Room) (k : List Keep) (fr l : List Pick) (p : Pick) : Int :=
 if !(moment p.At) then 1 else if !(p.No == (fr.getD l.length pick0).No) then 7 else if !(p.Team == (fr.getD l.length pick0).Team) then 13
 else if !(r.Players.contains p.Player) then 8 else if goneB k l p.Player then 6 else if p.At < lastAt r l then 11 else 0
def pksGo (r : Room) (k : List Keep) (fr l : List Pick) : Nat → List Pick → Int
 | _, [] => 0
 | i, p :: t => if pkF r k fr (l.take i) p != 0 then pkF r k fr (l.take i) p else pksGo r k fr l (i + 1) t
def pksR (r : Room) (k : List Keep) (s : List Swap) (l : List Pick) : Int := if (freeP r k s).length < l.length then 2 else pksGo r k (freeP r k s) l 0 l
def picksE (r : Room) (k : List Keep) (s : List Swap) (l : List Pick) : Int := if openFault r k s != 0 then openFault r k s else pksR r k s l
theorem pgo_ne {r : Room} {k : List Keep} {fr l : List Pick} {i : Nat} {p : Pick} {t : List Pick} (h : pkF r k fr (l.take i) p ≠ 0) : pksGo r k fr l i (p :: t) = pkF r k fr (l.take i) p := by
 rw [pksGo, if_pos (by simpa using h)]
theorem pgo_z {r : Room} {k : List Keep} {fr l : List Pick} {i : Nat} {p : Pick} {t : List Pick} (h : pkF r k fr (l.take i) p = 0) : pksGo r k fr l i (p :: t) = pksGo r k fr l (i + 1) t := by
 rw [pksGo, if_neg (by simp [h])]
section
variable {r : Room} {k : List Keep} {fr l : List Pick} {p : Pick}
theorem pkF_ok (h : pkF r k fr l p = 0) : moment p.At = true ∧ p.No = (fr.getD l.length pick0).No ∧ p.Team = (fr.getD l.length pick0).Team ∧ p.Player ∈ r.Players ∧ goneB k l p.Player = false := by
 unfold pkF at h
 split at h
 ·omega
 ·rename_i h1
  split at h
  ·omega
  ·rename_i h2
   split at h
   ·omega
   ·rename_i h3
    split at h
    ·omega
    ·rename_i h4
     split at h
     ·omega
     ·rename_i h5
      simp at h1 h2 h3 h4 h5
      exact ⟨h1, h2, h3, h4, h5⟩
end
theorem picksE_ok {r : Room} {k : List Keep} {s : List Swap} {l : List Pick} (h : picksE r k s l = 0) : openFault r k s = 0 ∧ l.length ≤ (freeP r k s).length ∧ pksGo r k (freeP r k s) l 0 l = 0 := by
 unfold picksE at h
 split at h
 ·rename_i hc; simp [h] at hc
 ·rename_i hc
  unfold pksR at h
  split at h
  ·omega
  ·exact ⟨by simpa using hc, by omega, h⟩
theorem pksGo_at {r : Room} {k : List Keep} {fr l : List Pick} : ∀ (t : List Pick) (i : Nat), l.drop i = t → pksGo r k fr l i t = 0 → ∀ (j : Nat) (p : Pick), i ≤ j → l[j]? = some p → pkF r k fr (l.take j) p = 0
 | [], i, hd, _, j, p, hj, hp => by
   have := lt_of_get hp
   have h2 : l.length ≤ i := by rw [← List.drop_eq_nil_iff]; exact hd
   omega
 | x :: t, i, hd, h, j, p, hj, hp => by
   have hk : l[i]? = some x := by
    have := congrArg (fun q => q[0]?) hd
    simpa using this
   have hd' : l.drop (i + 1) = t := by
    have := drop_cons hk
    rw [hd] at this; simp at this; exact this.symm
   by_cases e : pkF r k fr (l.take i) x = 0
   ·rw [pgo_z e] at h
    by_cases hij : i = j
    ·subst hij; rw [hk] at hp; cases hp; exact e
    ·exact pksGo_at t (i + 1) hd' h j p (by omega) hp
   ·rw [pgo_ne e] at h; exact absurd h e
structure Wish where
 Team : Str
 Players : List Str
theorem goneB_snoc (k : List Keep) (l : List Pick) (p : Pick) (s : Str) : goneB k (l ++ [p]) s = (goneB k l s || p.Player == s) := by
 simp [goneB, Bool.or_assoc]
/-! what a run holds -/
structure RunOk (r : Room) (k : List Keep) (s : List Swap) (l : List Pick) (S : List Str) : Prop where
 gone : ∀ x ∈ r.Players, S.contains x = goneB k l x
theorem RunOk.add {r : Room} {k : List Keep} {s : List Swap} {l : List Pick} {S : List Str} (ok : RunOk r k s l S) (p : Pick) : RunOk r k s (l ++ [p]) (sadd p.Player S) :=
 ⟨fun x hx => by rw [goneB_snoc, sadd_contains, ok.gone x hx]⟩
end Go.HL
end
section
namespace Go.HL
section
variable {r : Room} {w : List Wish} {k : Nat} {x : Wish} {t : List Wish}
end
end Go.HL
end
section
namespace Go.Proofs.YtdjpppifnmjhoaaGreatDoor
open Go.HL
set_option maxRecDepth 100000
set_option linter.unusedVariables false
set_option linter.unusedSimpArgs false
end Go.Proofs.YtdjpppifnmjhoaaGreatDoor
end
section
namespace Go.Proofs.YtdjpppifnmjhoaaGreatDoor
open Go.HL
set_option maxRecDepth 100000
set_option linter.unusedVariables false
set_option linter.unusedSimpArgs false

end Go.Proofs.YtdjpppifnmjhoaaGreatDoor
end
section
namespace Go.Proofs.YtdjpppifnmjhoaaGreatDoor
open Go.HL
set_option maxRecDepth 100000
set_option linter.unusedVariables false
set_option linter.unusedSimpArgs false
/-- strconv.Itoa of any number -/
theorem c_Itoa [Tracks] {n : Int} (h0 : -9223372036854775808 ≤ n) (h1 : n ≤ 9223372036854775807) : ConP Tryz.prog 29 [.int .i64 n] (.str (Lib.itoa n)) :=
 conp_itoa (by kernel_rfl) fun w ht => Any.strconv_Itoa Tryz.laysm171 n h0 h1 w ht
end Go.Proofs.YtdjpppifnmjhoaaGreatDoor
end
section
namespace Go.Proofs.YtdjpppifnmjhoaaGreatDoor
open Go.HL
set_option maxRecDepth 100000
set_option linter.unusedVariables false
set_option linter.unusedSimpArgs false

end Go.Proofs.YtdjpppifnmjhoaaGreatDoor
end
section
namespace Go.Proofs.YtdjpppifnmjhoaaGreatDoor
open Go.HL
set_option maxRecDepth 100000
set_option linter.unusedVariables false
set_option linter.unusedSimpArgs false

end Go.Proofs.YtdjpppifnmjhoaaGreatDoor
end
section
namespace Go.Proofs.YtdjpppifnmjhoaaGreatDoor
open Go.HL
set_option maxRecDepth 100000
set_option linter.unusedVariables false
set_option linter.unusedSimpArgs false

end Go.Proofs.YtdjpppifnmjhoaaGreatDoor
end
section
namespace Go.Proofs.YtdjpppifnmjhoaaGreatDoor
open Go.HL
set_option maxRecDepth 100000
set_option linter.unusedVariables false
set_option linter.unusedSimpArgs false

end Go.Proofs.YtdjpppifnmjhoaaGreatDoor
end
section
namespace Go.Proofs.YtdjpppifnmjhoaaGreatDoor
open Go.HL
set_option maxRecDepth 100000
set_option linter.unusedVariables false
set_option linter.unusedSimpArgs false

end Go.Proofs.YtdjpppifnmjhoaaGreatDoor
end
section
namespace Go.HL
section
variable {r : Room} {k : List Keep} {s : List Swap} {l : List Pick} {w : List Wish} {n : Int}
end
end Go.HL
end
section
namespace Go.HL
section
variable {r : Room} {k : List Keep} {s : List Swap} {l : List Pick}
def putNo (A : List Pick) (p : Pick) : List Pick := A.set p.No.toNat p
def NoInc (A : List Pick) : Prop := ∀ (i : Nat) (p : Pick), A[i]? = some p → p.No = (i : Int)
theorem openFrom_no : ∀ (t : List Turn) (i j : Nat) (p : Pick), (openFrom r k i t)[j]? = some p → p.No = ((i + j : Nat) : Int)
 | [], i, j, p, h => by simp [openFrom] at h
 | x :: t, i, 0, p, h => by
   simp only [openFrom, List.getElem?_cons_zero, Option.some.injEq] at h
   subst h; rw [(keepIn_fix r x k _).1]; rfl
 | x :: t, i, j + 1, p, h => by
   simp only [openFrom, List.getElem?_cons_succ] at h
   rw [openFrom_no t (i + 1) j p h]; congr 1; omega
theorem open_no : NoInc (open1 r k s) := fun i p h => by
 have := openFrom_no _ 0 i p h
 rw [this]; congr 1; omega
theorem NoInc.pw {A : List Pick} (h : NoInc A) : A.Pairwise fun a b => a.No < b.No :=
 List.pairwise_iff_getElem.2 fun i j hi hj hij => by
  rw [h i _ (List.getElem?_eq_getElem hi), h j _ (List.getElem?_eq_getElem hj)]; omega
theorem NoInc.put {A : List Pick} (h : NoInc A) {p : Pick} (hp : 0 ≤ p.No) : NoInc (putNo A p) := fun i x hx => by
 unfold putNo at hx
 by_cases e : p.No.toNat = i
 ·subst e
  have hlt := lt_of_get hx
  rw [List.length_set] at hlt
  rw [List.getElem?_set_self hlt] at hx; cases hx; omega
 ·rw [List.getElem?_set_ne e] at hx; exact h i x hx
theorem filter_set {α : Type} (q : α → Bool) {x y : α} (hx : q x = true) (hy : q y = false) : ∀ {A : List α} {j : Nat}, A[j]? = some y → ((A.set j x).filter q).Perm (A.filter q ++ [x])
 | [], j, h => by simp at h
 | a :: A, 0, h => by
   simp at h; subst h
   simp only [List.set_cons_zero, List.filter_cons, hx, hy, if_true, Bool.false_eq_true, if_false]
   exact (List.perm_append_comm (l₁ := [x]))
 | a :: A, j + 1, h => by
   simp only [List.getElem?_cons_succ] at h
   have := filter_set q hx hy h
   simp only [List.set_cons_succ, List.filter_cons]
   split
   ·exact this.cons a
   ·exact this
def isP (p : Pick) : Bool := !(p.Player == [])
structure AllOk (r : Room) (k : List Keep) (s : List Swap) (l : List Pick) (i : Nat) (A : List Pick) : Prop where
 inc : NoInc A
 len : A.length = (open1 r k s).length
 free : ∀ (j : Nat) (p : Pick), i ≤ j → (freeP r k s)[j]? = some p → A[p.No.toNat]? = some p
 perm : (A.filter isP).Perm ((open1 r k s).filter isP ++ l.take i)
theorem free_mem {j : Nat} {p : Pick} (h : (freeP r k s)[j]? = some p) : p ∈ open1 r k s ∧ p.Player = [] := by
 have := List.mem_filter.1 (List.mem_of_getElem? h)
 exact ⟨this.1, by simpa using this.2⟩
theorem free_at {j : Nat} {p : Pick} (h : (freeP r k s)[j]? = some p) : 0 ≤ p.No ∧ (open1 r k s)[p.No.toNat]? = some p := by
 obtain ⟨m, hm⟩ := List.getElem?_of_mem (free_mem h).1
 have := open_no m p hm
 exact ⟨by omega, by rw [this]; simpa using hm⟩
theorem pick_at (h : picksE r k s l = 0) {i : Nat} {x : Pick} (hx : l[i]? = some x) : ∃ p, (freeP r k s)[i]? = some p ∧ x.No = p.No ∧ x.Player ≠ [] := by
 obtain ⟨h1, h2, h3⟩ := picksE_ok h
 have hi := lt_of_get hx
 obtain ⟨_, a2, _, a4, _⟩ := pkF_ok (pksGo_at l 0 rfl h3 i x (Nat.zero_le _) hx)
 have hg := getD_some (d := pick0) (show i < (freeP r k s).length by omega)
 refine ⟨_, hg, ?_, (room_ok (openFault_ok h1).1).ne _ a4⟩
 rw [a2]; congr 2; simp; omega
theorem AllOk.step (h : picksE r k s l = 0) {i : Nat} {x : Pick} (hx : l[i]? = some x) {A : List Pick} (ok : AllOk r k s l i A) : AllOk r k s l (i + 1) (putNo A x) ∧ 0 ≤ x.No ∧ x.No.toNat < A.length ∧ ∃ y, A[x.No.toNat]? = some y := by
 obtain ⟨p, hp, hn, hpl⟩ := pick_at h hx
 obtain ⟨n0, _⟩ := free_at hp
 have hA := ok.free i p (Nat.le_refl _) hp
 have hlt := lt_of_get hA
 refine ⟨⟨ok.inc.put (by omega), by unfold putNo; rw [List.length_set]; exact ok.len, fun j q hj hq => ?_, ?_⟩, by omega, by rw [hn]; exact hlt, p, by rw [hn]; exact hA⟩
 ·have hq1 := ok.free j q (by omega) hq
  have hne : p.No < q.No := by
   have hpw : (freeP r k s).Pairwise fun a b => a.No < b.No := (open_no (r := r) (k := k) (s := s)).pw.sublist List.filter_sublist
   obtain ⟨hi', e1⟩ := List.getElem?_eq_some_iff.1 hp
   obtain ⟨hj', e2⟩ := List.getElem?_eq_some_iff.1 hq
   have := List.pairwise_iff_getElem.1 hpw i j hi' hj' (by omega)
   rw [e1, e2] at this; exact this
  unfold putNo
  rw [List.getElem?_set_ne (by omega)]; exact hq1
 ·have hf := filter_set isP (x := x) (y := p) (by unfold isP; simpa using hpl) (by unfold isP; simp [(free_mem hp).2]) hA
  unfold putNo
  rw [hn, take_snoc' hx, ← List.append_assoc]
  exact hf.trans (ok.perm.append_right _)
end
end Go.HL
end
section
namespace Go.HL
section
variable {P : Program} {e : Env} {dst : Option Tmp} {ty : TypeId} {pos : String} {af : Array Edge} {g : Option (Nat × Bool)} {M : List MObj} {K : HVal → List MObj → Prop}
end
end Go.HL
end
section
namespace Go.Proofs.YtdjpppifnmjhoaaGreatDoor
open Go.HL
set_option maxRecDepth 100000
set_option linter.unusedVariables false
set_option linter.unusedSimpArgs false

end Go.Proofs.YtdjpppifnmjhoaaGreatDoor
end
section
namespace Go.HL
def goalS : Str := [103, 111, 97, 108]
def play1 : Play := ⟨[115], 1, 0, 1, [109], [112], goalS, 2, 0⟩
def line1 : LineS := ⟨[112], 1, [⟨goalS, 2⟩]⟩
theorem ready_ln : lnGo [play1] [[115]] 1 5 [play1] = ⟨[[112]], [(([112], goalS), 2)]⟩ := by kernel_rfl
theorem ready_or : orI [playsE [play1], trustE [[115]]] = 0 := by kernel_rfl
theorem ready_full : fullB [(([112], goalS), 2)] [[112]] = false := by kernel_rfl
theorem ready_stats : statsOf [(([112], goalS), 2)] [112] = [⟨goalS, 2⟩] := by kernel_rfl
theorem ready_E : LinesE [play1] [[115]] 1 5 = 0 := by
 rw [LinesE, ready_or, if_neg (by decide), if_neg (by decide), linesE, ready_ln, clinesE, ready_full]; rfl
theorem ready_L : LinesL [play1] [[115]] 1 5 = [line1] := by
 rw [LinesL, ready_or, if_neg (by decide), if_neg (by decide), linesL, ready_ln, clinesL, ready_full, if_neg (by decide)]
 simp [sortS, ready_stats, line1]
end Go.HL
end
section
namespace Go.Proofs.YtdjpppifnmjhoaaGreatDoor
open Go.HL
set_option maxRecDepth 100000
set_option linter.unusedVariables false
set_option linter.unusedSimpArgs false
/-- benchwarmer/benchkeep1.ready -/
theorem c_benchkeep1_ready [Tracks]  (hT : Tracks.on = false) : ConP Tryz.prog 9 [] (.bool true) := by
 refine Con.of_body Tryz.func9 rfl Tryz.ntmps9 rfl rfl ?_
 refine hw_reg ?_
 refine dp rfl (pop_assign rfl) ?_
 refine dn ?_
 refine hw_reg ?_
 refine dp rfl (pop_build (cs := [_, _, _, _, _, _, _, _, _]) ty85 pl85 rfl) ?_
 refine dp rfl (pop_buildSlice (hs := [_]) ty86 ty85 rfl rfl (by decide) (by decide) rfl) ?_
 refine dp rfl (pop_buildSlice (hs := [_]) ty26 ty9 rfl rfl (by decide) (by decide) rfl) ?_
 refine dp rfl (pop_call (hs' := [ePlays [play1], eSs [[115]], .int .i64 1, .int .i64 5]) ca39 rfl (WeakL.refl _) (c_play_Lines hT (by decide) (by decide))) ?_
 refine dp rfl (pop_move rfl) ?_
 refine dp rfl (pop_extract rfl rfl) ?_
 refine dp rfl (pop_extract rfl rfl) ?_
 refine dp rfl (pop_assign rfl) ?_
 refine dp rfl (pop_assign rfl) ?_
 refine dn ?_
 simp only [ready_E, ready_L]
 refine hw_reg ?_
 refine dp rfl (pop_buildSlice (hs := [_, _]) ty26 ty9 rfl rfl (by decide) (by decide) rfl) ?_
 refine dp rfl (pop_buildSlice (hs := [_, _, _, _]) ty26 ty9 rfl rfl (by decide) (by decide) rfl) ?_
 refine dp rfl (pop_build (cs := [_, _, _, _, _, _]) ty88 pl88 rfl) ?_
 refine de rfl (eop_alloc ty88 rfl fun b3 => ?_)
 refine de0 (eop_storew ty88 rfl rfl rfl rfl rfl ?_)
 refine dn ?_
 refine hw_ghost (Ghost.fc0 3 rfl) ?_
 refine hw_reg ?_
 refine dp rfl (pop_loadw ty88 rfl rfl rfl rfl) ?_
 refine dp rfl (pop_call (hs' := [eRoom room1, eSwaps []]) ca40 rfl ⟨Weak.refl _, weak_nil 3, trivial⟩ (c_draft_Turns (r := room1) (s := []) (by decide) (by decide) (by decide))) ?_
 refine dp rfl (pop_move rfl) ?_
 refine dp rfl (pop_extract rfl rfl) ?_
 refine dp rfl (pop_extract rfl rfl) ?_
 refine dp rfl (pop_assign rfl) ?_
 refine dp rfl (pop_assign rfl) ?_
 refine dn ?_
 simp only [room1_turns, room1_ok]
 refine hw_reg ?_
 refine dp rfl (pop_build (cs := [_, _, _]) ty94 pl94 rfl) ?_
 refine dp rfl (pop_buildSlice (hs := [_]) ty95 ty94 rfl rfl (by decide) (by decide) rfl) ?_
 refine dp rfl (pop_build (cs := [_, _]) ty97 pl97 rfl) ?_
 refine dp rfl (pop_buildSlice (hs := [_]) ty98 ty97 rfl rfl (by decide) (by decide) rfl) ?_
 refine dp rfl (pop_call (hs' := [eAssets [asset1], ePlaces [place1]]) ca41 rfl (WeakL.refl _) (c_value_Fielded (l := [asset1]) (p := [place1]) (by decide) (by decide))) ?_
 refine dp rfl (pop_move rfl) ?_
 refine dp rfl (pop_extract rfl rfl) ?_
 refine dp rfl (pop_extract rfl rfl) ?_
 refine dp rfl (pop_extract rfl rfl) ?_
 refine dp rfl (pop_assign rfl) ?_
 refine dp rfl (pop_assign rfl) ?_
 refine dp rfl (pop_assign rfl) ?_
 refine dn ?_
 simp only [one_ok, one_sum, one_names]
 refine hw_reg ?_
 refine dp rfl (pop_move rfl) ?_
 refine dp rfl (pop_eql rfl rfl) ?_
 refine dp rfl (pop_move rfl) ?_
 refine dg rfl rfl (fun hc => ⟨_, OpenTo.refl _, pop_move rfl⟩) ?_
 refine dg rfl rfl (fun hc => ⟨_, OpenTo.upd (t := 36) rfl (hc) (OpenTo.refl _), pop_lenm ty81 rfl⟩) ?_
 refine dg rfl rfl (fun hc => ⟨_, OpenTo.upd (t := 37) rfl (hc) (OpenTo.refl _), pop_eql rfl rfl⟩) ?_
 refine dp rfl (pop_picko rfl (.inr ⟨_, rfl, fun h => by simp_all⟩) (.inl rfl)) ?_
 refine dp rfl (pop_move rfl) ?_
 refine dg rfl rfl (fun hc => ⟨_, OpenTo.refl _, pop_move rfl⟩) ?_
 refine dg rfl rfl (fun hc => ⟨_, OpenTo.upd (t := 41) rfl (hc) (OpenTo.refl _), pop_idx (j := 0) (a := line1) ty81 ty101 rfl rfl rfl rfl⟩) ?_
 refine dg rfl rfl (fun hc => ⟨_, OpenTo.upd (t := 42) rfl (hc) (OpenTo.refl _), pop_fieldAddr ty101 rfl ty99 (by decide) rfl⟩) ?_
 refine dg rfl rfl (fun hc => ⟨_, OpenTo.upd (t := 43) rfl (hc) (OpenTo.refl _), pop_load ty99 rfl rfl rfl⟩) ?_
 refine dg rfl rfl (fun hc => ⟨_, OpenTo.upd (t := 44) rfl (hc) (OpenTo.refl _), pop_lenm ty99 rfl⟩) ?_
 refine dg rfl rfl (fun hc => ⟨_, OpenTo.upd (t := 45) rfl (hc) (OpenTo.refl _), pop_eql rfl rfl⟩) ?_
 refine dp rfl (pop_picko rfl (.inr ⟨_, rfl, fun h => by simp_all⟩) (.inl rfl)) ?_
 refine dp rfl (pop_move rfl) ?_
 refine dg rfl rfl (fun hc => ⟨_, OpenTo.refl _, pop_move rfl⟩) ?_
 refine dg rfl rfl (fun hc => ⟨_, OpenTo.upd (t := 49) rfl (hc) (OpenTo.refl _), pop_eql rfl rfl⟩) ?_
 refine dp rfl (pop_picko rfl (.inr ⟨_, rfl, fun h => by simp_all⟩) (.inl rfl)) ?_
 refine dp rfl (pop_move rfl) ?_
 refine dg rfl rfl (fun hc => ⟨_, OpenTo.refl _, pop_move rfl⟩) ?_
 refine dg rfl rfl (fun hc => ⟨_, OpenTo.refl _, pop_buildSlice (hs := [_, _, _, _]) ty26 ty9 rfl rfl (by decide) (by decide) rfl⟩) ?_
 refine dg rfl rfl (fun hc => ⟨_, OpenTo.upd (t := 54) rfl (hc) (OpenTo.upd (t := 53) rfl (hc) (OpenTo.refl _)), pop_call ca42 rfl (WeakL.refl _) (c_slices_Equal_string_string (l := [[97], [98], [98], [97]]) (m := [[97], [98], [98], [97]]) (by decide))⟩) ?_
 refine dp rfl (pop_picko rfl (.inr ⟨_, rfl, fun h => by simp_all⟩) (.inl rfl)) ?_
 refine dp rfl (pop_move rfl) ?_
 refine dg rfl rfl (fun hc => ⟨_, OpenTo.refl _, pop_move rfl⟩) ?_
 refine dg rfl rfl (fun hc => ⟨_, OpenTo.upd (t := 58) rfl (hc) (OpenTo.refl _), pop_eql rfl rfl⟩) ?_
 refine dp rfl (pop_picko rfl (.inr ⟨_, rfl, fun h => by simp_all⟩) (.inl rfl)) ?_
 refine dp rfl (pop_move rfl) ?_
 refine dg rfl rfl (fun hc => ⟨_, OpenTo.refl _, pop_move rfl⟩) ?_
 refine dg rfl rfl (fun hc => ⟨_, OpenTo.upd (t := 62) rfl (hc) (OpenTo.refl _), pop_eql rfl rfl⟩) ?_
 refine dp rfl (pop_picko rfl (.inr ⟨_, rfl, fun h => by simp_all⟩) (.inl rfl)) ?_
 refine dp rfl (pop_assign rfl) ?_
 refine dn ?_
 refine hw_ret ?_
 refine ret_p rfl ?_
 rfl
end Go.Proofs.YtdjpppifnmjhoaaGreatDoor
end
section
namespace Go.HL
/-- The slice in a cell of an element of an owned slice. -/
theorem Ghost.farr [Tracks] {e : Env} {M : List MObj} {i k r j : Nat} {u v : Value} {sz sz' : Nat} {es fs cs : List HVal} (hm : M[i]? = some (.arr v sz es)) (hk : (M.eraseIdx i)[k]? = some (.arr u sz' fs)) (hr : fs[r]? = some (.agg cs)) (hj : cs[j]? = some (.raw v)) :
 Ghost e M e ((M.eraseIdx i).set k (.arr u sz' (fs.set r (.agg (cs.set j (.slice sz es)))))) := fun P I F tmps w h1 hs => by
 obtain ⟨J, hl, hs', hv⟩ := (hs.pull hm).freeze_arr
 have hp := hs'.pull hk
 have hnd : (MObj.arr u sz' (fs.set r (.agg (cs.set j (.slice sz es))))).blocks.Nodup := by
  have := hp.nodup
  simp only [blocks, List.flatMap_cons] at this
  have h2 := (List.nodup_append.1 this).1
  have e1 : (MObj.arr u sz' (fs.set r (.agg (cs.set j (.slice sz es))))).blocks = (MObj.arr u sz' fs).blocks := by
   cases u <;> try rfl
   rename_i a _ _; cases a <;> rfl
  rw [e1]; exact h2
 have hbl : ∀ b ∈ (MObj.arr u sz' (fs.set r (.agg (cs.set j (.slice sz es))))).blocks, b ∈ (MObj.arr u sz' fs).blocks ∨ w.heap.size ≤ b := fun b hb => by
  left
  have e1 : (MObj.arr u sz' (fs.set r (.agg (cs.set j (.slice sz es))))).blocks = (MObj.arr u sz' fs).blocks := by
   cases u <;> try rfl
   rename_i a _ _; cases a <;> rfl
  rw [← e1]; exact hb
 refine ⟨J, hl, h1.mono hl, Sat.unpull hk (hp.change (m' := .arr u sz' (fs.set r (.agg (cs.set j (.slice sz es))))) (fun _ _ _ => rfl) hbl hnd ?_ rfl rfl rfl)⟩
 rcases hp.obj _ List.mem_cons_self with ⟨_, h0⟩ | ⟨b, off, cap, rc, el, fr, a1, a2, a3, a4, a5, a6, a7⟩
 ·rw [h0] at hr; simp at hr
 ·refine .inr ⟨b, off, cap, rc, el, fr, by rw [List.length_set]; exact a1, a2, a3, fun x hx => ?_, by rw [List.length_set]; exact a5, a6, fun i' j' e' c' v' b1 b2 b3 => ?_⟩
  ·rcases List.mem_or_eq_of_mem_set hx with hx | hx
   ·exact a4 x hx
   ·have := a4 _ (List.mem_of_getElem? hr)
    rw [hx]; simp only [hcells, List.length_set] at this ⊢; exact this
  ·by_cases hi : i' = r
   ·subst hi
    have hlt := lt_of_get hr
    rw [List.getElem?_set_self hlt] at b1
    obtain rfl := Option.some.inj b1
    simp only [hcells] at b2
    by_cases hj' : j' = j
    ·subst hj'
     have hjl := lt_of_get hj
     rw [List.getElem?_set_self hjl] at b2
     obtain rfl := Option.some.inj b2
     have := a7 i' j' _ _ v' hr hj b3
     rw [this.raw_inv]; exact hv
    ·rw [List.getElem?_set_ne (Ne.symm hj')] at b2
     exact a7 i' j' _ c' v' hr b2 b3
   ·rw [List.getElem?_set_ne (Ne.symm hi)] at b1
    exact a7 i' j' e' c' v' b1 b2 b3
/-- One after the other: the elements from n on hold their slices as owned ones. -/
theorem Ghost.fz_each [Tracks] {e : Env} {α β : Type} {A : List MObj} {u : Value} {sz sz' : Nat} {enc : α → HVal} {raw : α → Value → HVal} {st : α → List β} {eb : β → HVal} {j : Nat} {cs : α → Value → List HVal}
 (h1 : ∀ x v, raw x v = .agg (cs x v)) (h2 : ∀ x v, (cs x v)[j]? = some (.raw v)) (h3 : ∀ x v, HVal.agg ((cs x v).set j (.slice sz ((st x).map eb))) = enc x) :
 ∀ (O : List (α × Value)) (D : List α), Ghost e (A ++ .arr u sz' (D.map enc ++ O.map fun p => raw p.1 p.2) :: O.map fun p => .arr p.2 sz ((st p.1).map eb)) e (A ++ [.arr u sz' ((D ++ O.map (·.1)).map enc)])
 | [], D => by
   refine Ghost.of_eq ?_
   simp
 | p :: O, D => by
   have key := Ghost.fz_each (e := e) (A := A) (u := u) (sz := sz) (sz' := sz') h1 h2 h3 O (D ++ [p.1])
   have e9 : D ++ (p :: O).map (·.1) = (D ++ [p.1]) ++ O.map (·.1) := by simp
   rw [e9]
   refine Ghost.trans ?_ key
   have hm : (A ++ .arr u sz' (D.map enc ++ (p :: O).map fun p => raw p.1 p.2) :: (p :: O).map fun p => MObj.arr p.2 sz ((st p.1).map eb))[A.length + 1]? = some (.arr p.2 sz ((st p.1).map eb)) := by
    rw [List.getElem?_append_right (by omega)]; simp
   have he : (A ++ .arr u sz' (D.map enc ++ (p :: O).map fun p => raw p.1 p.2) :: (p :: O).map fun p => MObj.arr p.2 sz ((st p.1).map eb)).eraseIdx (A.length + 1) = A ++ .arr u sz' (D.map enc ++ (p :: O).map fun p => raw p.1 p.2) :: O.map fun p => MObj.arr p.2 sz ((st p.1).map eb) := by
    rw [List.eraseIdx_append_of_length_le (by omega)]; simp
   have hk : ((A ++ .arr u sz' (D.map enc ++ (p :: O).map fun p => raw p.1 p.2) :: (p :: O).map fun p => MObj.arr p.2 sz ((st p.1).map eb)).eraseIdx (A.length + 1))[A.length]? = some (.arr u sz' (D.map enc ++ (p :: O).map fun p => raw p.1 p.2)) := by
    rw [he]; simp
   have hr : (D.map enc ++ (p :: O).map fun p => raw p.1 p.2)[D.length]? = some (.agg (cs p.1 p.2)) := by
    rw [List.getElem?_append_right (by simp)]; simp [h1]
   have g := Ghost.farr (e := e) hm hk hr (h2 p.1 p.2)
   have e5 : ((A ++ .arr u sz' (D.map enc ++ (p :: O).map fun p => raw p.1 p.2) :: (p :: O).map fun p => MObj.arr p.2 sz ((st p.1).map eb)).eraseIdx (A.length + 1)).set A.length (.arr u sz' ((D.map enc ++ (p :: O).map fun p => raw p.1 p.2).set D.length (.agg ((cs p.1 p.2).set j (.slice sz ((st p.1).map eb)))))) = A ++ .arr u sz' ((D ++ [p.1]).map enc ++ O.map fun p => raw p.1 p.2) :: O.map fun p => MObj.arr p.2 sz ((st p.1).map eb) := by
    rw [he, h3, List.set_append_right _ _ (Nat.le_refl _)]
    simp
   rw [e5] at g
   exact g
end Go.HL
end
section
namespace Go.HL
variable {P : Program}
section
variable {e : Env} {dst : Option Tmp} {ty : TypeId} {pos : String} {af : Array Edge} {g : Option (Nat × Bool)} {M : List MObj} {K : HVal → List MObj → Prop}
end
end Go.HL
end
section
namespace Go.HL
open Go.Proofs Go.Shelf
variable {P : Program}
/-- A string's bytes as cells. -/
def bvs (s : List UInt8) : List Value := s.map fun c => .int .u8 c.toNat
theorem bvs_get {s : List UInt8} {i : Nat} {c : UInt8} (h : s[i]? = some c) : (bvs s)[i]? = some (.int .u8 c.toNat) := by simp [bvs, h]
theorem bvs_len (s : List UInt8) : (bvs s).length = s.length := by simp [bvs]
theorem bvs_str (s : List UInt8) : Lib.strCells ⟨s.toArray⟩ = bvs s := by simp [Lib.strCells, bvs]
/-- A slice's data pointer. -/
def dataP : Value → Value
 | .slice a _ _ => .pointer a
 | _ => .pointer none
theorem MSat.bld_one {I : Imm} {w : World} {b : Nat} {T el : TypeId} {h v : Value} {s : List UInt8} (hm : MSat I w (.bld b T el h v s)) : v.oneCell' = true := by
 rcases hm.2 with ⟨rfl, _⟩ | ⟨g, cap, rc, rfl, _⟩ <;> rfl
theorem MSat.bld_len {I : Imm} {w : World} {b : Nat} {T el : TypeId} {h v : Value} {s : List UInt8} (hm : MSat I w (.bld b T el h v s)) : ∃ a cap, v = .slice a s.length cap := by
 rcases hm.2 with ⟨rfl, rfl⟩ | ⟨g, cap, rc, rfl, _⟩
 ·exact ⟨none, 0, rfl⟩
 ·exact ⟨_, _, rfl⟩
theorem cells_one {u : Value} (h : u.oneCell' = true) : u.cells.toList = [u] := by cases u <;> first | rfl | simp [Value.oneCell'] at h
theorem Sat.bld_nodup [Tracks] {I : Imm} {M : List MObj} {w : World} {b : Nat} {T el : TypeId} {h v : Value} {s : List UInt8} (hs : Sat P I (.bld b T el h v s :: M) w) : (b :: bufB v).Nodup ∧ (∀ k ∈ b :: bufB v, k ∉ blocks M) ∧ ∀ k ∈ b :: bufB v, I.heap k = none := by
 have h1 := hs.nodup
 simp only [blocks, List.flatMap_cons] at h1
 have h2 := List.nodup_append.1 h1
 exact ⟨h2.1, fun k hk hk' => h2.2.2 k hk k hk' rfl, fun k hk => hs.apart k (by simp only [blocks, List.flatMap_cons]; exact List.mem_append_left _ hk)⟩
section
variable {e : Env} {dst : Option Tmp} {ty : TypeId} {pos : String} {af : Array Edge} {g : Option (Nat × Bool)} {M : List MObj} {K : HVal → List MObj → Prop}

theorem eop_allocB [Tracks] {t : TypeId} (el : TypeId) {d : TD} {size bytes : Nat} {zero : Value} (hf : Fits P t d size bytes zero) (hz : zero.cells = #[.pointer none, .slice none 0 0])
 (hk : ∀ b, K (.raw (.pointer (some ⟨b, 0, none⟩))) (.bld b t el (.slice none 0 0) (.slice none 0 0) [] :: M)) : EOp P e M ⟨dst, .alloc t, ty, pos, af, g⟩ K :=
 EOp.of_run fun I F a w ho hs => by
  refine ⟨.pointer (some ⟨w.heap.size, 0, none⟩), _, _, push w (.cells zero.cells t (0, 0)), I, ?_, .refl I, hk w.heap.size, .raw _ rfl, ?_⟩
  ·simp [execOp, Instr.alloc, hf.run_zero, newVar, newRow]
  ·exact hs.new_own _ _ rfl ⟨⟨rfl, _, .inl rfl, by simp [push, hz]⟩, .inl ⟨rfl, rfl⟩⟩

theorem eop_loadB [Tracks] {x : Operand} {t T el tel : TypeId} {size bytes : Nat} {zero : Value} {i b : Nat} {h v : Value} {s : List UInt8} (hf : Fits P t (.slice tel) size bytes zero)
 (hx : evalO e x = some (.raw (.pointer (some ⟨b, 1, none⟩)))) (hm : M[i]? = some (.bld b T el h v s)) (hk : K (.raw h) M) : EOp P e M ⟨dst, .load t x, ty, pos, af, g⟩ K :=
 EOp.of_run fun I F a w ho hs => by
  have h1 := (ho.one (x := x) (by simp [Op.operands]) hx).raw_inv
  obtain ⟨⟨h0, p, hp, h2⟩, h3⟩ := hs.obj _ (List.mem_append_left _ (List.mem_of_getElem? hm))
  have hV : ∀ (j : Nat) (c : HVal) (u : Value), [HVal.junk, .raw h][j]? = some c → (#[p, h] : Array Value)[0 + j]? = some u → V I c u := by
   intro j c u a1 a2
   match j, a1, a2 with
   | 0, a1, a2 => simp at a1; subst a1; exact .junk _
   | 1, a1, a2 => simp at a1 a2; subst a1; subst a2; exact .raw _ h0
   | j + 2, a1, _ => simp at a1
  obtain ⟨u, h5, h6⟩ := run_loadVar (I := I) (o := 1) (cs := [.junk, .raw h]) (off := 1) (base := 0) hf h2 rfl (by simp) hV (.inl ⟨rfl, rfl⟩)
  exact ⟨u, .raw h, M, w, I, by simp [execOp, h1, Instr.loadAt, Instr.sureAddr, h5], .refl I, hk, h6, hs⟩

theorem eop_storeB [Tracks] {x y : Operand} {t T el tel : TypeId} {bytes : Nat} {zero : Value} {i b : Nat} {h v : Value} {s : List UInt8} (hf : Fits P t (.slice tel) 1 bytes zero)
 (hx : evalO e x = some (.raw (.pointer (some ⟨b, 1, none⟩)))) (hy : evalO e y = some (.raw v)) (hm : M[i]? = some (.bld b T el h v s))
 (hk : K .junk (M.set i (.bld b T el v v s))) : EOp P e M ⟨dst, .store t x y, ty, pos, af, g⟩ K :=
 EOp.of_skip fun I F a w hop hs => by
  have h1 := (hop.one (x := x) (by simp [Op.operands]) hx).raw_inv
  have hye := (hop.one (x := y) (by simp [Op.operands]) hy).raw_inv
  have hp := hs.pull hm
  have hobj := hp.obj _ List.mem_cons_self
  have hu1 := hobj.bld_one
  obtain ⟨hnd, _, _⟩ := hp.bld_nodup
  obtain ⟨⟨h0, p, hpp, h2⟩, h3⟩ := hobj
  have hc1 := cells_one hu1
  obtain ⟨w', rc', g1, g2, g3, g4, g5, g6, g7, g8, g9⟩ := run_storeCells (P := P) b T (0, 0) 1 [v] 0 w #[p, h] h2 (Free.zero _) (by simpa using hu1) (by simp)
  have hrc : rc' = #[p, v] := by
   apply Array.ext_getElem?
   intro x
   rw [g4 x]
   match x with
   | 0 => simp
   | 1 => simp
   | x + 2 => simp
  subst hrc
  refine ⟨_, w', I, ?_, .refl I, hk, ?_⟩
  ·simp only [execOp, h1, hye, Instr.storeAt, Instr.sureAddr, Sem.run_bind, Sem.run_pure, Result.andThen_ok, storeVar, hf.run_sizeOf]
   rw [if_neg (by rw [← Array.length_toList, hc1]; simp)]
   simp only [Sem.run_pure, Result.andThen_ok, hc1, g1]
  ·refine Sat.unpull hm (hp.change (m' := .bld b T el v v s) (fun k hk hnk => g5 k (fun e => hnk (e ▸ List.mem_cons_self))) (fun k hk => .inl hk) hnd ?_ g7 g8 g9.1 (fun _ => Nat.le_of_eq g9.2.symm))
   refine ⟨⟨hu1, p, hpp, g2⟩, ?_⟩
   rcases h3 with h3 | ⟨g, cap, rc, rfl, h4, h5, h6⟩
   ·exact .inl h3
   ·refine .inr ⟨g, cap, rc, rfl, ?_, h5, h6⟩
    rw [g5 g (fun e => by subst e; simp [bufB] at hnd)]; exact h4

theorem eop_appendB [Tracks] {x y : Operand} {t el u T : TypeId} {size bytes b2 su bu : Nat} {zero z2 zu : Value} {d : TD} {i b : Nat} {h v : Value} {s r : List UInt8}
 (hf : Fits P t (.slice el) size bytes zero) (hu : Fits P u .str su bu zu) (hel : Fits P el d 1 b2 z2) (hz : z2.cells.size = 1) (hby : Nat.ble b2 100000 = true)
 (hx : evalO e x = some (.raw v)) (hy : evalO e y = some (.str r)) (hm : M[i]? = some (.bld b T el h v s)) (hlen : s.length + r.length ≤ 1000000000)
 (hk : ∀ v', K (.raw v') (M.set i (.bld b T el h v' (s ++ r)))) : EOp P e M ⟨dst, .call ⟨.builtin .append, #[x, y], #[t, u]⟩, ty, pos, af, g⟩ K :=
 EOp.of_run fun I F a w ho hs => by
  have h1 := (ho.one (x := x) (by simp [Op.operands, Call.operands]) hx).raw_inv
  have hyv := ho.one (x := y) (by simp [Op.operands, Call.operands]) hy
  have hye : a.eval y = .string ⟨r.toArray⟩ := hyv.str_inv
  have hp := hs.pull hm
  have hobj := hp.obj _ List.mem_cons_self
  have hu1 := hobj.bld_one
  obtain ⟨hnd, _, _⟩ := hp.bld_nodup
  obtain ⟨⟨h0, p, hpp, h2⟩, h3⟩ := hobj
  have hbl : b < w.heap.size := by
   rcases Nat.lt_or_ge b w.heap.size with h' | h'
   ·exact h'
   ·simp [Array.getElem?_eq_none h'] at h2
  have hsize : (⟨r.toArray⟩ : ByteArray).size = r.length := by simp [ByteArray.size]
  have hnv : ∀ w1 : World, (Builtin.firstCells 1 r.length (a.eval y)).run P w1 = .ok (bvs r).toArray w1 := fun w1 => by
   rw [hye, ← bvs_str, ← hsize]; exact Lib.run_firstCells_string w1 1 _
  have hov : ∀ w1 : World, w1.heap = w.heap → (Builtin.firstCells 1 s.length v).run P w1 = .ok (bvs s).toArray w1 := fun w1 hw1 => by
   rcases h3 with ⟨rfl, rfl⟩ | ⟨g, cap, rc, rfl, h4, h5, h6⟩
   ·simp [Builtin.firstCells, bvs]
   ·have h3' : w1.heap[g]? = some (.cells rc el (0, 0)) := by rw [hw1]; exact h4
    have := run_loadCells_list (P := P) w1 ⟨g, 0, none⟩ (bvs s) fun j c hj => by
     rw [addr_add, cell_of h3']
     rw [bvs, List.getElem?_map] at hj
     cases hq : s[j]? with
     | none => rw [hq] at hj; cases hj
     | some c' => rw [hq] at hj; simp at hj; subst hj; simpa using h6 j c' hq
    rw [bvs_len] at this
    simp only [Builtin.firstCells, Nat.mul_one]
    exact this
  have hboth : ∀ (i : Nat) (c : UInt8), (s ++ r)[i]? = some c → ((bvs s).toArray ++ (bvs r).toArray)[i]? = some (.int .u8 c.toNat) := fun i c hc => by
   have : bvs s ++ bvs r = bvs (s ++ r) := by simp [bvs]
   rw [List.append_toArray, this, List.getElem?_toArray]; exact bvs_get hc
  have done : (∃ v' w', (execOp a.eval ⟨dst, .call ⟨.builtin .append, #[x, y], #[t, u]⟩, ty, pos, af, g⟩).run P w = .ok (.value v') w' ∧ Sat P I (.bld b T el h v' (s ++ r) :: (M.eraseIdx i ++ F)) w') →
   ∃ v h M' w' J, (execOp a.eval ⟨dst, .call ⟨.builtin .append, #[x, y], #[t, u]⟩, ty, pos, af, g⟩).run P w = .ok (.value v) w' ∧ Le I J ∧ K h M' ∧ V J h v ∧ Sat P J (M' ++ F) w' := by
   rintro ⟨v', w', r1, r2⟩
   exact ⟨v', .raw v', _, w', I, r1, .refl I, hk v', .raw _ (r2.obj _ List.mem_cons_self).bld_one, Sat.unpull hm r2⟩
  apply done
  have hlenof : ∀ w1 : World, (Builtin.lenOf (a.eval y)).run P w1 = .ok r.length w1 := fun w1 => by rw [hye, ← hsize]; simp [Builtin.lenOf]
  -- the new block
  have grows : ∀ (base : Option Addr) (cap : Nat), v = .slice base s.length cap → cap < s.length + r.length →
   ∃ v' w', (execOp a.eval ⟨dst, .call ⟨.builtin .append, #[x, y], #[t, u]⟩, ty, pos, af, g⟩).run P w = .ok (.value v') w' ∧ Sat P I (.bld b T el h v' (s ++ r) :: (M.eraseIdx i ++ F)) w' := by
   intro base cap hv hcap
   let nc := (Question.appendCap (s.length + r.length) cap el).cut (w.tape w.drawn (.appendCap (s.length + r.length) cap el))
   have hnc : s.length + r.length ≤ nc := by simp only [nc, Question.cut]; omega
   have hnm : nc ≤ 9223372036854775807 := by
    simp only [nc, Question.cut]
    have := Nat.mod_lt (w.tape w.drawn (.appendCap (s.length + r.length) cap el)) (show 0 < 2 ^ 63 - (s.length + r.length) by omega)
    omega
   let cells : Array Value := (bvs s).toArray ++ (bvs r).toArray ++ Builtin.zeroCells z2.cells (nc - (s.length + r.length))
   refine ⟨.slice (some ⟨w.heap.size, 0, none⟩) (s.length + r.length) nc, { w with heap := w.heap.push (.cells cells el (0, 0)), drawn := w.drawn + 1 }, ?_, ?_⟩
   ·rw [run_append]
    have hb1 : ¬ s.length + r.length ≤ cap := by omega
    have hb2 : ¬ ((((s.length + r.length : Nat) : Int) > IntKind.i64.max) ∧ (False ∨ b2 = 0)) := by
     have : IntKind.i64.max = 9223372036854775807 := by decide
     rw [this]; omega
    have hb3 : ¬ Builtin.nextslicecap (s.length + r.length) cap * b2 > 2 ^ 48 := by
     have e1 := nextslicecap_le hcap
     have e2 : b2 ≤ 100000 := Nat.le_of_ble_eq_true hby
     have : Builtin.nextslicecap (s.length + r.length) cap * b2 ≤ (2 * 1000000000 + 192) * 100000 := Nat.mul_le_mul (by omega) e2
     omega
    obtain ⟨ti, t1, t2, t3, t4⟩ := hel.typeInfo
    have hti : ∀ w1, (Go.typeInfo el).run P w1 = .ok ti w1 := fun w1 => by simp [Go.typeInfo, t1]
    simp only [List.map_toArray, List.map_cons, List.map_nil, h1, Builtin.append_, List.getElem?_toArray, List.getElem?_cons_zero, List.getElem?_cons_succ, hv, Sem.run_bind, run_underlying hf.slice, run_underlying hu.strD, Result.andThen_ok,
     hel.run_sizeOf, Sem.run_pure, Bool.false_eq_true, if_false, hlenof, hb1, hti, t3]
    rw [if_neg (by simpa using hb2)]
    simp only [Sem.run_bind, Sem.run_pure, Result.andThen_ok, hti, t3]
    rw [if_neg hb3]
    have hch : (choose (.appendCap (s.length + r.length) cap el)).run P w = .ok nc { w with drawn := w.drawn + 1 } := by
     simp [Question.forced, nc]
    simp only [Sem.run_pure, Sem.run_bind, Result.andThen_ok, hch, run_askRoom, hti]
    rw [← hv]
    have hov' := hov { w with drawn := w.drawn + 1 } rfl
    have hnv' := hnv { w with drawn := w.drawn + 1 }
    simp only [hov', Bool.not_false, if_true, hnv', Result.andThen_ok, hel.run_zero, newRow, Sem.run_bind, Sem.run_pure, run_newObj]
    rfl
   ·refine hp.change (m' := .bld b T el h (.slice (some ⟨w.heap.size, 0, none⟩) (s.length + r.length) nc) (s ++ r)) (fun k hk hnk => ?_) ?_ ?_ ?_ rfl rfl rfl
    ·simp [Array.getElem?_push, Nat.ne_of_lt hk]
    ·intro k hk
     simp [MObj.blocks, bufB] at hk
     rcases hk with rfl | rfl
     ·exact .inl List.mem_cons_self
     ·exact .inr (Nat.le_refl _)
    ·simp [MObj.blocks, bufB]; omega
    ·refine ⟨⟨h0, p, hpp, ?_⟩, .inr ⟨w.heap.size, nc, cells, by simp, by simp, ⟨by omega, by simpa using hnc, hnm, ?_⟩, fun j c hc => ?_⟩⟩
     ·simp [Array.getElem?_push, Nat.ne_of_lt hbl]; exact h2
     ·simp [cells, zeroCells_size, hz, bvs_len]; omega
     ·have hj := lt_of_get hc
      simp only [List.length_append] at hj
      simp only [cells]
      rw [Array.getElem?_append_left (by simp [bvs_len]; omega)]
      exact hboth j c hc
  rcases h3 with ⟨hv, hs0⟩ | ⟨gb, cap, rc, hv, h4, ⟨h5a, h5b, h5c, h5d⟩, h6⟩
  ·by_cases hr0 : r = []
   ·subst hr0
    refine ⟨v, w, ?_, by rw [List.append_nil]; exact hp⟩
    subst hs0
    have hnv' := hnv w
    have hl0 := hlenof w
    simp only [List.length_nil] at hnv' hl0
    rw [run_append]
    simp only [List.map_toArray, List.map_cons, List.map_nil, h1, Builtin.append_, List.getElem?_toArray, List.getElem?_cons_zero, List.getElem?_cons_succ, hv, Sem.run_bind, run_underlying hf.slice, run_underlying hu.strD, Result.andThen_ok,
     hel.run_sizeOf, Sem.run_pure, Bool.false_eq_true, if_false, hl0, Nat.le_refl, if_true, Bool.not_false, hnv', Nat.add_zero]
   ·have hpos : 0 < r.length := by cases r with | nil => exact absurd rfl hr0 | cons _ _ => simp
    exact grows none 0 (by rw [hv, hs0]; rfl) (by omega)
  ·by_cases hfit : s.length + r.length ≤ cap
   ·obtain ⟨w', rc', g1, g2, g3, g4, g5, g6, g7, g8, g9⟩ := run_storeCells (P := P) gb el (0, 0) s.length (bvs r) 0 w rc h4 (Free.zero _) (fun c hc => by simp only [bvs, List.mem_map] at hc; obtain ⟨c', _, rfl⟩ := hc; rfl) (by rw [bvs_len]; omega)
    refine ⟨.slice (some ⟨gb, 0, none⟩) (s.length + r.length) cap, w', ?_, ?_⟩
    ·rw [run_append]
     have hnv' := hnv w
     have hl0 := hlenof w
     simp only [List.map_toArray, List.map_cons, List.map_nil, h1, Builtin.append_, List.getElem?_toArray, List.getElem?_cons_zero, List.getElem?_cons_succ, hv, Sem.run_bind, run_underlying hf.slice, run_underlying hu.strD, Result.andThen_ok,
      hel.run_sizeOf, Sem.run_pure, Bool.false_eq_true, if_false, hl0, hfit, if_true, Bool.not_false, hnv', addr_add, Nat.mul_one, Nat.zero_add, g1]
    ·have hne : b ≠ gb := fun e => by subst e; rw [hv] at hnd; simp [bufB] at hnd
     refine hp.change (m' := .bld b T el h (.slice (some ⟨gb, 0, none⟩) (s.length + r.length) cap) (s ++ r)) (fun k hk hnk => g5 k ?_) ?_ ?_ ?_ g7 g8 g9.1 (fun _ => Nat.le_of_eq g9.2.symm)
     ·rintro rfl; exact hnk (by rw [hv]; simp [MObj.blocks, bufB])
     ·intro k hk; left; rw [hv]; exact hk
     ·simp [MObj.blocks, bufB]; exact hne
     ·refine ⟨⟨h0, p, hpp, by rw [g5 b hne]; exact h2⟩, .inr ⟨gb, cap, rc', by simp, g2, ⟨h5a, by simpa using hfit, h5c, by rw [g3]; exact h5d⟩, fun j c hc => ?_⟩⟩
      have hj := lt_of_get hc
      simp only [List.length_append] at hj
      rw [g4]
      by_cases hi : j < s.length
      ·rw [List.getElem?_append_left hi] at hc
       rw [if_neg (by omega)]
       exact h6 j c hc
      ·rw [List.getElem?_append_right (by omega)] at hc
       rw [if_pos (by rw [bvs_len]; omega)]
       have := bvs_get hc
       simpa using this
   ·exact grows (some ⟨gb, 0, none⟩) cap hv (by omega)

theorem eop_lenB [Tracks] {x : Operand} {t tel : TypeId} {size bytes : Nat} {zero : Value} {i b : Nat} {T el : TypeId} {h v : Value} {s : List UInt8} (hf : Fits P t (.slice tel) size bytes zero) (hx : evalO e x = some (.raw v))
 (hm : M[i]? = some (.bld b T el h v s)) (hk : K (.int .i64 s.length) M) : EOp P e M ⟨dst, .call ⟨.builtin .len, #[x], #[t]⟩, ty, pos, af, g⟩ K :=
 EOp.of_run fun I F a w ho hs => by
  have h1 := (ho.one (x := x) (by simp [Op.operands, Call.operands]) hx).raw_inv
  obtain ⟨b, cap, h2⟩ := (hs.obj _ (List.mem_append_left _ (List.mem_of_getElem? hm))).bld_len
  exact ⟨.int .i64 s.length, _, M, w, I, by rw [run_len (ats := #[])]; simp [h1, h2, Builtin.len_, run_underlying hf.slice, goInt], .refl I, hk, .int _ _, hs⟩

end

/-- What every writing method calls first. -/
theorem con_copyCheck [Tracks] {ρ : Ren} (L : Lays.n240 P ρ) (X : Builder.X72 P ρ) {b : Nat} {el : TypeId} {h v : Value} {s : List UInt8} :
 Con P (ρ.f 240) [.raw (.pointer (some ⟨b, 0, none⟩))] [.bld b (ρ.t 72) el h v s] fun x M' => x = .tup [] ∧ M' = [.bld b (ρ.t 72) el h v s] := by
 intro I F w args ha hs
 obtain ⟨u, rfl, hu⟩ := ha.one
 obtain rfl := hu.raw_inv
 obtain ⟨hnd, _, _⟩ := Sat.bld_nodup (M := F) hs
 obtain ⟨⟨h0, p, hpp, h2⟩, h3⟩ := hs.obj (.bld b (ρ.t 72) el h v s) (by simp)
 have ht : V I (.tup []) (.tuple #[]) := .tup rfl fun j c v h _ => by simp at h
 rcases hpp with rfl | rfl
 ·refine (Any.Builder_copyCheck_fresh L X b w (by rw [cell_of h2]; rfl) (by simp [World.shape?, h2]) (by simp [World.frozen?, h2])).mono ?_
  rintro _ w' ⟨rfl, rfl⟩
  refine ⟨_, _, _, I, rfl, .refl I, ⟨rfl, rfl⟩, ht, ?_⟩
  have hk : ∀ k, k ≠ b → (w.setCell ⟨b, 0, none⟩ (.pointer (some ⟨b, 0, none⟩))).heap[k]? = w.heap[k]? := fun k hk => by
   simp only [World.setCell, Array.getElem?_modify]
   rw [if_neg (fun e => hk e.symm)]
  refine Sat.change (m' := .bld b (ρ.t 72) el h v s) (M := F) hs (fun k _ hnk => hk k (fun e => hnk (e ▸ List.mem_cons_self))) (fun k hk => .inl hk) hnd ⟨⟨h0, _, .inr rfl, ?_⟩, ?_⟩ rfl rfl rfl
  ·simp [World.setCell, Array.getElem?_modify, h2]
  ·rcases h3 with h3 | ⟨g, cap, rc, rfl, h4, h5, h6⟩
   ·exact .inl h3
   ·exact .inr ⟨g, cap, rc, rfl, by rw [hk g (fun e => by subst e; simp [bufB] at hnd)]; exact h4, h5, h6⟩
 ·refine (Any.Builder_copyCheck_used L X b w (by rw [cell_of h2]; rfl)).mono ?_
  rintro _ w' ⟨rfl, rfl⟩
  exact ⟨_, _, _, I, rfl, .refl I, ⟨rfl, rfl⟩, ht, hs⟩
end Go.HL
end
section
namespace Go.HL
open Go
/-- The pieces of a string between the places where a byte stands. -/
def spl (c : UInt8) : Str → List Str
 | [] => [[]]
 | b :: l => if b = c then [] :: spl c l else match spl c l with
   | [] => [[b]]
   | x :: r => (b :: x) :: r
theorem spl_ne (c : UInt8) (s : Str) : spl c s ≠ [] := by
 cases s with
 | nil => simp [spl]
 | cons b l =>
   simp only [spl]
   split
   ·simp
   ·split <;> simp
theorem spl_cons {c : UInt8} (s : Str) : ∃ x r, spl c s = x :: r := by
 cases h : spl c s with
 | nil => exact absurd h (spl_ne c s)
 | cons x r => exact ⟨x, r, rfl⟩
theorem spl_eq (c : UInt8) (l : Str) : spl c (c :: l) = [] :: spl c l := by simp [spl]
theorem spl_of_ne {b c : UInt8} (h : b ≠ c) {l x : Str} {r : List Str} (hl : spl c l = x :: r) : spl c (b :: l) = (b :: x) :: r := by
 simp only [spl, h, if_false, hl]
theorem spl_len (c : UInt8) : ∀ s : Str, (spl c s).length = s.count c + 1
 | [] => rfl
 | b :: l => by
   have ih := spl_len c l
   by_cases h : b = c
   ·subst h; rw [spl_eq, List.count_cons_self]; simp [ih]
   ·obtain ⟨x, r, hx⟩ := spl_cons (c := c) l
    rw [spl_of_ne h hx, List.count_cons_of_ne h, ← ih, hx]; simp
theorem index_ge0 {s : Str} {c : UInt8} (h : 0 < s.count c) : ∃ i : Nat, Lib.index s [c] = i := by
 rcases Int.lt_or_le (Lib.index s [c]) 0 with h' | h'
 ·have h1 : Lib.index s [c] = -1 := by have := Lib.index_ge s [c]; omega
  have := Lib.count_miss h1
  rw [Lib.count_one] at this
  omega
 ·exact ⟨_, (Int.toNat_of_nonneg h').symm⟩
theorem index_self (c : UInt8) (l : Str) : Lib.index (c :: l) [c] = 0 := by simp [Lib.index]
theorem index_next {b c : UInt8} (h : b ≠ c) (l : Str) {i : Nat} (hi : Lib.index l [c] = i) : Lib.index (b :: l) [c] = ((i + 1 : Nat) : Int) := by
 have h1 : ([c] : Str).isPrefixOf (b :: l) = false := by simp [List.isPrefixOf, Ne.symm h]
 unfold Lib.index
 rw [h1, hi]
 have h2 : ((i : Int) == -1) = false := by simp
 rw [h2]; simp
theorem splitK_spl (c : UInt8) : ∀ s : Str, Lib.splitK [c] 0 (s.count c) s = spl c s
 | [] => rfl
 | b :: l => by
   have ih := splitK_spl c l
   by_cases h : b = c
   ·subst h
    rw [spl_eq, List.count_cons_self, ← ih]
    simp only [Lib.splitK, index_self]
    simp
   ·rw [List.count_cons_of_ne h]
    cases hk : l.count c with
    | zero =>
      rw [hk] at ih
      have h1 : spl c l = [l] := ih.symm
      rw [spl_of_ne h h1]; rfl
    | succ k =>
      obtain ⟨i, hi⟩ := index_ge0 (s := l) (c := c) (by omega)
      have h0 := index_next h l hi
      rw [hk] at ih
      have e1 : Lib.splitK [c] 0 (k + 1) l = l.take i :: Lib.splitK [c] 0 k (l.drop (i + 1)) := by
       simp only [Lib.splitK, hi]
       have h2 : ((i : Int) == -1) = false := by simp
       rw [h2]; simp
      have e2 : Lib.splitK [c] 0 (k + 1) (b :: l) = (b :: l.take i) :: Lib.splitK [c] 0 k (l.drop (i + 1)) := by
       simp only [Lib.splitK, h0]
       have h2 : (((i + 1 : Nat) : Int) == -1) = false := by simp; omega
       rw [h2]; simp
      rw [e1] at ih
      rw [e2, spl_of_ne h ih.symm]
theorem split_spl (s : Str) (c : UInt8) : (Lib.splitB ⟨#[c]⟩ 0 (Lib.countB ⟨s.toArray⟩ ⟨#[c]⟩) ⟨s.toArray⟩).map (·.data.toList) = spl c s := by
 rw [Lib.splitB_data]
 have : Lib.countB ⟨s.toArray⟩ ⟨#[c]⟩ = s.count c := Lib.count_one c s
 rw [this]
 exact splitK_spl c s
theorem spl_mem_len (c : UInt8) : ∀ (s : Str), ∀ x ∈ spl c s, x.length ≤ s.length
 | [], x, hx => by simp [spl] at hx; subst hx; simp
 | b :: l, x, hx => by
   have ih := spl_mem_len c l
   by_cases hb : b = c
   ·subst hb
    rw [spl_eq] at hx
    rcases List.mem_cons.1 hx with rfl | hx
    ·simp
    ·have := ih x hx; simp only [List.length_cons]; omega
   ·obtain ⟨y, r, hy⟩ := spl_cons (c := c) l
    rw [spl_of_ne hb hy] at hx
    rcases List.mem_cons.1 hx with rfl | hx
    ·have := ih y (by rw [hy]; simp); simp only [List.length_cons]; omega
    ·have := ih x (by rw [hy]; simp [hx]); simp only [List.length_cons]; omega
theorem spl_none {c : UInt8} : ∀ {s : Str}, c ∉ s → spl c s = [s]
 | [], _ => rfl
 | b :: l, h => by
   have h1 : b ≠ c := fun e => h (by simp [e])
   exact spl_of_ne h1 (spl_none fun hm => h (by simp [hm]))
/-- Pieces with the byte between. -/
def jn (c : UInt8) : List Str → Str
 | [] => []
 | [x] => x
 | x :: r => x ++ c :: jn c r
theorem jn_cons {c : UInt8} {x : Str} {r : List Str} (h : r ≠ []) : jn c (x :: r) = x ++ c :: jn c r := by
 cases r with
 | nil => exact absurd rfl h
 | cons y r => rfl
theorem spl_app {c : UInt8} : ∀ {x : Str} (s : Str), c ∉ x → spl c (x ++ c :: s) = x :: spl c s
 | [], s, _ => spl_eq c s
 | b :: x, s, h => by
   have h1 : b ≠ c := fun e => h (by simp [e])
   exact spl_of_ne h1 (spl_app s fun hm => h (by simp [hm]))
theorem spl_jn {c : UInt8} : ∀ {l : List Str}, l ≠ [] → (∀ x ∈ l, c ∉ x) → spl c (jn c l) = l
 | [], h, _ => absurd rfl h
 | [x], _, h => spl_none (h x (by simp))
 | x :: y :: r, _, h => by
   rw [jn_cons (by simp), spl_app _ (h x (by simp)), spl_jn (by simp) fun z hz => h z (by simp [hz])]
theorem jn_spl (c : UInt8) : ∀ s : Str, jn c (spl c s) = s
 | [] => rfl
 | b :: l => by
   have ih := jn_spl c l
   by_cases hb : b = c
   ·subst hb; rw [spl_eq, jn_cons (spl_ne b l), ih]; rfl
   ·obtain ⟨y, r, hy⟩ := spl_cons (c := c) l
    rw [spl_of_ne hb hy]
    rw [hy] at ih
    cases r with
    | nil => simp only [jn] at ih ⊢; rw [ih]
    | cons z r => rw [jn_cons (by simp)] at ih ⊢; rw [← ih]; rfl
end Go.HL
end
section
namespace Go.HL
open Go.Proofs Go.Shelf Go.RowKit
variable {P : Program}
theorem VL.two {I : Imm} {c d : HVal} {vs : List Value} (h : VL I [c, d] vs) : ∃ u v, vs = [u, v] ∧ V I c u ∧ V I d v := by
 match vs, h with
 | [u, v], h => exact ⟨u, v, rfl, h.head, h.tail.head⟩
 | [], h => have := h.1; simp at this
 | [_], h => have := h.1; simp at this
 | _ :: _ :: _ :: _, h => have := h.1; simp at this
theorem bsz (s : Str) : (⟨s.toArray⟩ : ByteArray).size = s.length := by simp [ByteArray.size]
/-- A row of strings that the call laid. -/
theorem v_strs [Tracks] {I : Imm} {b : Nat} {l : List Str} {t : TypeId} {fr : Nat × Nat} {xs : List ByteArray} (hx : xs.map (·.data.toList) = l) (hI : I.heap b = some (.cells (xs.map Value.string).toArray t fr)) (n : Nat) (hn : n = l.length) :
 V I (.slice 1 (l.map .str)) (.slice (some ⟨b, 0, none⟩) n n) := by
 have hl : n = (l.map HVal.str).length := by rw [hn, List.length_map]
 rw [hl]
 have hxl : xs.length = l.length := by rw [← hx, List.length_map]
 refine V.slice hI (fun e he => ?_) (Nat.le_refl _) (by simp [hxl]) (fun i j e c v h1 h2 h3 => ?_)
 ·obtain ⟨s, _, rfl⟩ := List.mem_map.1 he; rfl
 ·rw [List.getElem?_map] at h1
  cases hq : l[i]? with
  | none => rw [hq] at h1; cases h1
  | some s =>
    rw [hq] at h1
    simp at h1
    subst h1
    have hj : j = 0 := by
     have := lt_of_get h2
     simp [hcells] at this; omega
    subst hj
    simp [hcells] at h2
    subst h2
    simp only [Nat.zero_add, Nat.mul_one, Nat.add_zero, List.getElem?_toArray, List.getElem?_map] at h3
    rw [← hx, List.getElem?_map] at hq
    cases hr : xs[i]? with
    | none => rw [hr] at hq; cases hq
    | some y =>
      rw [hr] at hq h3
      simp at hq h3
      subst h3
      rw [← hq]
      exact .str _
theorem conp_split [Tracks] {ρ : Ren} (L : Lays.n146 P ρ) (hi9 : (P.info? (ρ.t 9)).map (fun i => (i.zero, i.size, i.bytes)) = some (some (.string ByteArray.empty), 1, 16)) (hg : P.globalNamed "internal/bytealg.MaxLen" = some (ρ.g 1)) {s : Str} {c : UInt8} (hs : s.length < 4294967281) :
 ConP P (ρ.f 146) [.str s, .str [c]] (.slice 1 ((spl c s).map .str)) := by
 intro I F w args ha hs0
 obtain ⟨u, v, rfl, hu, hv⟩ := ha.two
 obtain rfl := hu.str_inv
 obtain rfl := hv.str_inv
 obtain ⟨m, hm⟩ := hs0.maxLen hg
 refine (Any.strings_Split L hi9 ⟨s.toArray⟩ ⟨[c].toArray⟩ m w (by rw [bsz]; exact hs) hm (by rw [bsz]; simp)).mono ?_
 rintro _ w' ⟨rfl, rfl⟩
 obtain ⟨hle, hsat⟩ := Sat.new_imm hs0 (.cells ((Lib.splitB ⟨[c].toArray⟩ 0 (Lib.countB ⟨s.toArray⟩ ⟨[c].toArray⟩) ⟨s.toArray⟩).map Value.string).toArray (ρ.t 9))
 refine ⟨_, _, [], _, rfl, hle, ⟨rfl, rfl⟩, v_strs (split_spl s c) Imm.add_self _ ?_, hsat⟩
 have : Lib.countB ⟨s.toArray⟩ ⟨[c].toArray⟩ = s.count c := Lib.count_one c s
 rw [this, spl_len]
theorem conp_count [Tracks] {ρ : Ren} (L : Lays.n138 P ρ) {s : Str} {c : UInt8} : ConP P (ρ.f 138) [.str s, .str [c]] (.int .i64 ((s.count c : Nat) : Int)) :=
 conp_of_calls fun I w args ha => by
  obtain ⟨u, v, rfl, hu, hv⟩ := ha.two
  obtain rfl := hu.str_inv
  obtain rfl := hv.str_inv
  exact ⟨_, .int _ _, Any.strings_Count_one L ⟨s.toArray⟩ c w⟩
theorem conp_cutSuffix [Tracks] {ρ : Ren} (L : Lays.n104 P ρ) {s p : Str} (hs : s.length ≤ 4294967281) : ConP P (ρ.f 104) [.str s, .str p] (.tup [.str (Lib.trimSuffix s p), .bool (Lib.hasSuffix s p)]) :=
 conp_of_calls fun I w args ha => by
  obtain ⟨u, v, rfl, hu, hv⟩ := ha.two
  obtain rfl := hu.str_inv
  obtain rfl := hv.str_inv
  refine ⟨_, ?_, Any.strings_CutSuffix L ⟨s.toArray⟩ ⟨p.toArray⟩ w (by rw [bsz]; omega)⟩
  have hV := VL.cons (V.str (I := I) (Lib.trimSuffix s p)) (VL.cons (V.bool (Lib.hasSuffix s p)) VL.nil)
  exact .tup hV.1 (by simpa using hV.2)
end Go.HL
end
section
namespace Go.HL
variable {P : Program}
def BufV (s : List UInt8) (v : Value) : Prop := (v = .slice none 0 0 ∧ s = []) ∨ ∃ g cap, 0 < cap ∧ v = .slice (some ⟨g, 0, none⟩) s.length cap
theorem MSat.bufV {I : Imm} {w : World} {b : Nat} {T el : TypeId} {h v : Value} {s : List UInt8} (hm : MSat I w (.bld b T el h v s)) : BufV s v := by
 rcases hm.2 with h | ⟨g, cap, rc, h, _, h5, _⟩
 ·exact .inl h
 ·exact .inr ⟨g, cap, h5.1, h⟩
theorem hw_bldc [Tracks] {n : Nat} {c : Code} {e : Env} {M : List MObj} {Q : Exit → Env → List MObj → Prop} {i b : Nat} {T el : TypeId} {h v : Value} {s : List UInt8} (hm : M[i]? = some (.bld b T el h v s)) (k : BufV s v → HWp P n c e M Q) : HWp P n c e M Q :=
 fun I F a w h1 h2 h3 h4 => k (h4.obj _ (List.mem_append_left _ (List.mem_of_getElem? hm))).bufV I F a w h1 h2 h3 h4
section
variable {e : Env} {dst : Option Tmp} {ty : TypeId} {pos : String} {af : Array Edge} {g : Option (Nat × Bool)} {M : List MObj} {K : HVal → List MObj → Prop}
theorem pop_dataV [Tracks] {x : Operand} {ats : Array TypeId} {v : Value} {s : List UInt8} (hb : BufV s v) (hx : evalO e x = some (.raw v)) : POp P e ⟨dst, .call ⟨.builtin .unsafeSliceData, #[x], ats⟩, ty, pos, af, g⟩ (.raw (dataP v)) :=
 POp.of_run fun I F a w ho hs => by
  have h1 := (ho.one (x := x) (by simp [Op.operands, Call.operands]) hx).raw_inv
  have hr : ∀ r : Sem Value, Builtin.unsafeSliceData_ ats ty #[v] = r → (execOp a.eval ⟨dst, .call ⟨.builtin .unsafeSliceData, #[x], ats⟩, ty, pos, af, g⟩).run P w = (r.run P w).andThen (fun v w => .ok (.value v) w) := by
   rintro r rfl
   simp [execOp, resolve, invoke, builtin, h1]
  refine ⟨dataP v, _, I, ?_, .refl I, .raw _ ?_, hs⟩
  ·rw [hr _ rfl]
   rcases hb with ⟨rfl, _⟩ | ⟨g, cap, h5, rfl⟩
   ·rfl
   ·rw [Lib.run_unsafeSliceData_row w _ _ _ _ _ (by omega)]; rfl
  ·rcases hb with ⟨rfl, _⟩ | ⟨g, cap, h5, rfl⟩ <;> rfl
theorem pop_lenV [Tracks] {x : Operand} {t tel : TypeId} {size bytes : Nat} {zero : Value} {v : Value} {s : List UInt8} (hf : Fits P t (.slice tel) size bytes zero) (hb : BufV s v) (hx : evalO e x = some (.raw v)) : POp P e ⟨dst, .call ⟨.builtin .len, #[x], #[t]⟩, ty, pos, af, g⟩ (.int .i64 s.length) :=
 POp.of_run fun I F a w ho hs => by
  have h1 := (ho.one (x := x) (by simp [Op.operands, Call.operands]) hx).raw_inv
  obtain ⟨a', cap, h2⟩ : ∃ a' cap, v = .slice a' s.length cap := by
   rcases hb with ⟨rfl, rfl⟩ | ⟨g, cap, _, rfl⟩
   ·exact ⟨_, _, rfl⟩
   ·exact ⟨_, _, rfl⟩
  exact ⟨.int .i64 s.length, w, I, by rw [run_len (ats := #[])]; simp [h1, h2, Builtin.len_, run_underlying hf.slice, goInt], .refl I, .int _ _, hs⟩
/-- The builder's bytes as a string; its header stays. -/
theorem eop_strH [Tracks] {x y : Operand} {pt it : TypeId} {i b : Nat} {T el : TypeId} {h v : Value} {s : List UInt8} (hpt : P.underlying pt = some (.pointer el)) (hc : P.cellsOf el = 1)
 (hx : evalO e x = some (.raw (dataP v))) (hy : evalO e y = some (.int .i64 s.length)) (hm : M[i]? = some (.bld b T el h v s))
 (hk : K (.str s) (M.set i (.cells b [.junk, .raw h]))) : EOp P e M ⟨dst, .call ⟨.builtin .unsafeString, #[x, y], #[pt, it]⟩, ty, pos, af, g⟩ K :=
 EOp.of_run fun I F a w ho hs => by
  have h1 := (ho.one (x := x) (by simp [Op.operands, Call.operands]) hx).raw_inv
  have h2 := (ho.one (x := y) (by simp [Op.operands, Call.operands]) hy).int_inv
  have hp := hs.pull hm
  obtain ⟨hnd, hap, him⟩ := hp.bld_nodup
  obtain ⟨⟨h0, p, hpp, hhd⟩, h3⟩ := hp.obj _ List.mem_cons_self
  have hr : ∀ r : Sem Value, Builtin.unsafeString_ #[pt, it] ty #[dataP v, .int .i64 s.length] = r → (execOp a.eval ⟨dst, .call ⟨.builtin .unsafeString, #[x, y], #[pt, it]⟩, ty, pos, af, g⟩).run P w = (r.run P w).andThen (fun v w => .ok (.value v) w) := by
   rintro r rfl
   simp [execOp, resolve, invoke, builtin, h1, h2]
  have key : ∀ w' : World, (∀ k, k ∉ bufB v → w'.heap[k]? = w.heap[k]?) → w'.os = w.os ∧ w'.output = w.output ∧ w'.tape = w.tape ∧ w'.drawn = w.drawn → Sat P I ((M.set i (.cells b [.junk, .raw h])) ++ F) w' := fun w' hk hfo => by
   refine Sat.unpull hm (hp.change (m' := .cells b [.junk, .raw h]) (fun k _ hnk => hk k fun hk' => hnk (by simp only [MObj.blocks]; exact List.mem_cons_of_mem _ hk')) (fun k hk => .inl ?_) (by simp [MObj.blocks]) ?_ hfo.1 hfo.2.1 hfo.2.2.1 (fun _ => Nat.le_of_eq hfo.2.2.2.symm))
   ·simp [MObj.blocks] at hk ⊢; exact .inl hk
   ·refine ⟨#[p, h], T, (0, 0), ?_, Free.zero _, ?_⟩
    ·rw [hk b (List.nodup_cons.1 hnd).1]; exact hhd
    ·exact VL.cons (.junk _) (VL.cons (.raw _ h0) VL.nil)
  by_cases hs0 : s = []
  ·subst hs0
   refine ⟨.string .empty, _, _, w, I, ?_, .refl I, hk, .str [], key w (fun _ _ => rfl) ⟨rfl, rfl, rfl, rfl⟩⟩
   rw [hr _ rfl]
   rcases h3 with ⟨rfl, _⟩ | ⟨g, cap, rc, rfl, h4, h5, h6⟩
   ·simp only [dataP, List.length_nil, Int.ofNat_zero]; erw [Lib.run_unsafeString_none w]; rfl
   ·simp only [dataP, List.length_nil, Int.ofNat_zero]; erw [Lib.run_unsafeString_none w]; rfl
  ·rcases h3 with ⟨rfl, h0⟩ | ⟨g, cap, rc, rfl, h4, h5, h6⟩
   ·exact absurd h0 hs0
   ·refine ⟨.string ⟨s.toArray⟩, _, _, w.freeze ⟨g, 0, none⟩ s.length, I, ?_, .refl I, hk, .str s, ?_⟩
    ·rw [hr _ rfl]
     simp only [dataP]
     rw [Lib.run_unsafeString_row w pt it ty el hpt hc g rc.size (by simp [World.shape?, h4]) s hs0 (by omega) (by omega) (fun j c hj => by rw [addr_add, cell_of h4]; simpa using h6 j c hj)]
     rfl
    ·refine key _ (fun k hk => ?_) ?_
     ·have hkg : k ≠ g := fun e => hk (by simp [bufB, e])
      unfold World.freeze
      split
      ·rfl
      ·simp only [Array.getElem?_modify]
       rw [if_neg (fun e => hkg e.symm)]
     ·unfold World.freeze; split <;> exact ⟨rfl, rfl, rfl, rfl⟩
end
end Go.HL
end
section
namespace Go.Proofs
open Go.Shelf
def Tryz.lays138_ren : Go.Shelf.Ren := ⟨fun | 138 => 55 | 195 => 99 | 218 => 100 | 143 => 101 | 219 => 156 | 217 => 136 | 225 => 190 | 224 => 191 | 267 => 192 | 266 => 178 | 314 => 220 | n => n, fun | 9 => 9 | 3 => 3 | 4 => 4 | 5 => 5 | 0 => 0 | 46 => 139 | 146 => 272 | 51 => 185 | n => n, fun | 1 => 0 | n => n⟩
theorem Tryz.lays138 : Go.Proofs.Lays.n138 Tryz.prog Tryz.lays138_ren := {
 mixed := by kernel_rfl
 f138 := Tryz.func55.trans (congrArg some (by kernel_rfl))
 f143 := Tryz.func101.trans (congrArg some (by kernel_rfl))
 f195 := Tryz.func99.trans (congrArg some (by kernel_rfl))
 f217 := Tryz.func136.trans (congrArg some (by kernel_rfl))
 f218 := Tryz.func100.trans (congrArg some (by kernel_rfl))
 f219 := Tryz.func156.trans (congrArg some (by kernel_rfl))
 f224 := Tryz.func191.trans (congrArg some (by kernel_rfl))
 f225 := Tryz.func190.trans (congrArg some (by kernel_rfl))
 f266 := Tryz.func178.trans (congrArg some (by kernel_rfl))
 f267 := Tryz.func192.trans (congrArg some (by kernel_rfl))
 f314 := Tryz.func220.trans (congrArg some (by kernel_rfl))
 t0 := Tryz.underlying0
 a0 := Tryz.isAgg0
 z0 := Tryz.sizeOf0
 v0 := Tryz.zeroValue0
 t3 := Tryz.underlying3
 a3 := Tryz.isAgg3
 z3 := Tryz.sizeOf3
 v3 := Tryz.zeroValue3
 t4 := Tryz.underlying4
 a4 := Tryz.isAgg4
 z4 := Tryz.sizeOf4
 v4 := Tryz.zeroValue4
 t5 := Tryz.underlying5
 a5 := Tryz.isAgg5
 z5 := Tryz.sizeOf5
 v5 := Tryz.zeroValue5
 t9 := Tryz.underlying9
 a9 := Tryz.isAgg9
 z9 := Tryz.sizeOf9
 v9 := Tryz.zeroValue9
 t46 := Tryz.underlying139
 a46 := Tryz.isAgg139
 z46 := Tryz.sizeOf139
 v46 := Tryz.zeroValue139
 t51 := Tryz.underlying185
 a51 := Tryz.isAgg185
 z51 := Tryz.sizeOf185
 v51 := Tryz.zeroValue185
 t146 := Tryz.underlying272
 a146 := Tryz.isAgg272
 z146 := Tryz.sizeOf272
 v146 := Tryz.zeroValue272
 g1 := by kernel_rfl }
def Tryz.lays146_ren : Go.Shelf.Ren := ⟨fun | 146 => 72 | 221 => 115 | 268 => 164 | 138 => 55 | 143 => 101 | 195 => 99 | 197 => 175 | 218 => 100 | 219 => 156 | 260 => 204 | 217 => 136 | 225 => 190 | 224 => 191 | 267 => 192 | 266 => 178 | 314 => 220 | n => n, fun | 9 => 9 | 31 => 26 | 3 => 3 | 4 => 4 | 0 => 0 | 105 => 238 | 21 => 21 | 5 => 5 | 46 => 139 | 119 => 280 | 139 => 283 | 138 => 282 | 146 => 272 | 51 => 185 | n => n, fun | 1 => 0 | 3 => 2 | 4 => 3 | n => n⟩
theorem Tryz.lays146 : Go.Proofs.Lays.n146 Tryz.prog Tryz.lays146_ren := {
 mixed := by kernel_rfl
 f138 := Tryz.func55.trans (congrArg some (by kernel_rfl))
 f143 := Tryz.func101.trans (congrArg some (by kernel_rfl))
 f146 := Tryz.func72.trans (congrArg some (by kernel_rfl))
 f195 := Tryz.func99.trans (congrArg some (by kernel_rfl))
 f197 := Tryz.func175.trans (congrArg some (by kernel_rfl))
 f217 := Tryz.func136.trans (congrArg some (by kernel_rfl))
 f218 := Tryz.func100.trans (congrArg some (by kernel_rfl))
 f219 := Tryz.func156.trans (congrArg some (by kernel_rfl))
 f221 := Tryz.func115.trans (congrArg some (by kernel_rfl))
 f224 := Tryz.func191.trans (congrArg some (by kernel_rfl))
 f225 := Tryz.func190.trans (congrArg some (by kernel_rfl))
 f260 := Tryz.func204.trans (congrArg some (by kernel_rfl))
 f266 := Tryz.func178.trans (congrArg some (by kernel_rfl))
 f267 := Tryz.func192.trans (congrArg some (by kernel_rfl))
 f268 := Tryz.func164.trans (congrArg some (by kernel_rfl))
 f314 := Tryz.func220.trans (congrArg some (by kernel_rfl))
 t0 := Tryz.underlying0
 a0 := Tryz.isAgg0
 z0 := Tryz.sizeOf0
 v0 := Tryz.zeroValue0
 t3 := Tryz.underlying3
 a3 := Tryz.isAgg3
 z3 := Tryz.sizeOf3
 v3 := Tryz.zeroValue3
 t4 := Tryz.underlying4
 a4 := Tryz.isAgg4
 z4 := Tryz.sizeOf4
 v4 := Tryz.zeroValue4
 t5 := Tryz.underlying5
 a5 := Tryz.isAgg5
 z5 := Tryz.sizeOf5
 v5 := Tryz.zeroValue5
 t9 := Tryz.underlying9
 a9 := Tryz.isAgg9
 z9 := Tryz.sizeOf9
 v9 := Tryz.zeroValue9
 t21 := Tryz.underlying21
 a21 := Tryz.isAgg21
 z21 := Tryz.sizeOf21
 v21 := Tryz.zeroValue21
 t31 := Tryz.underlying26
 a31 := Tryz.isAgg26
 z31 := Tryz.sizeOf26
 v31 := Tryz.zeroValue26
 t46 := Tryz.underlying139
 a46 := Tryz.isAgg139
 z46 := Tryz.sizeOf139
 v46 := Tryz.zeroValue139
 t51 := Tryz.underlying185
 a51 := Tryz.isAgg185
 z51 := Tryz.sizeOf185
 v51 := Tryz.zeroValue185
 t105 := Tryz.underlying238
 a105 := Tryz.isAgg238
 z105 := Tryz.sizeOf238
 v105 := Tryz.zeroValue238
 t119 := Tryz.underlying280
 a119 := Tryz.isAgg280
 z119 := Tryz.sizeOf280
 t138 := Tryz.underlying282
 a138 := Tryz.isAgg282
 z138 := Tryz.sizeOf282
 v138 := Tryz.zeroValue282
 t139 := Tryz.underlying283
 a139 := Tryz.isAgg283
 z139 := Tryz.sizeOf283
 v139 := Tryz.zeroValue283
 t146 := Tryz.underlying272
 a146 := Tryz.isAgg272
 z146 := Tryz.sizeOf272
 v146 := Tryz.zeroValue272
 g1 := by kernel_rfl
 g3 := by kernel_rfl
 g4 := by kernel_rfl }
def Tryz.lays104_ren : Go.Shelf.Ren := ⟨fun | 104 => 155 | 211 => 189 | 207 => 219 | n => n, fun | 9 => 9 | 4 => 4 | 24 => 221 | 3 => 3 | n => n, fun | n => n⟩
theorem Tryz.lays104 : Go.Proofs.Lays.n104 Tryz.prog Tryz.lays104_ren := {
 mixed := by kernel_rfl
 f104 := Tryz.func155.trans (congrArg some (by kernel_rfl))
 f207 := Tryz.func219.trans (congrArg some (by kernel_rfl))
 f211 := Tryz.func189.trans (congrArg some (by kernel_rfl))
 t3 := Tryz.underlying3
 a3 := Tryz.isAgg3
 z3 := Tryz.sizeOf3
 v3 := Tryz.zeroValue3
 t4 := Tryz.underlying4
 a4 := Tryz.isAgg4
 z4 := Tryz.sizeOf4
 v4 := Tryz.zeroValue4
 t9 := Tryz.underlying9
 a9 := Tryz.isAgg9
 z9 := Tryz.sizeOf9
 v9 := Tryz.zeroValue9
 t24 := Tryz.underlying221
 a24 := Tryz.isAgg221
 z24 := Tryz.sizeOf221
 v24 := Tryz.zeroValue221 }
end Go.Proofs
end
section
namespace Go.Proofs
open Go.Shelf
def Tryz.lays240_ren : Go.Shelf.Ren := ⟨fun | 240 => 95 | 276 => 154 | n => n, fun | 0 => 0 | 4 => 4 | 9 => 9 | 20 => 20 | 70 => 107 | 72 => 110 | 164 => 219 | 37 => 108 | n => n, fun n => n⟩
theorem Tryz.lays240 : Go.Proofs.Lays.n240 Tryz.prog Tryz.lays240_ren := {
 mixed := by kernel_rfl
 f240 := Tryz.func95.trans (congrArg some (by kernel_rfl))
 f276 := Tryz.func154.trans (congrArg some (by kernel_rfl))
 t0 := Tryz.underlying0
 a0 := Tryz.isAgg0
 z0 := Tryz.sizeOf0
 v0 := Tryz.zeroValue0
 t4 := Tryz.underlying4
 a4 := Tryz.isAgg4
 z4 := Tryz.sizeOf4
 v4 := Tryz.zeroValue4
 t9 := Tryz.underlying9
 a9 := Tryz.isAgg9
 z9 := Tryz.sizeOf9
 v9 := Tryz.zeroValue9
 t20 := Tryz.underlying20
 a20 := Tryz.isAgg20
 z20 := Tryz.sizeOf20
 v20 := Tryz.zeroValue20
 t70 := Tryz.underlying107
 a70 := Tryz.isAgg107
 z70 := Tryz.sizeOf107
 v70 := Tryz.zeroValue107
 t72 := Tryz.underlying110
 a72 := Tryz.isAgg110
 z72 := Tryz.sizeOf110
 v72 := Tryz.zeroValue110
 t164 := Tryz.underlying219
 a164 := Tryz.isAgg219
 z164 := Tryz.sizeOf219
 v164 := Tryz.zeroValue219
}
end Go.Proofs
end
section
namespace Go.HL
theorem decFrom_app : ∀ (l m : List UInt8) (acc : Nat), Lib.decFrom acc (l ++ m) = (Lib.decFrom acc l).bind fun a => Lib.decFrom a m
 | [], m, acc => rfl
 | b :: l, m, acc => by
   simp only [List.cons_append, Lib.decFrom]
   cases Lib.digitVal b with
   | none => rfl
   | some d => exact decFrom_app l m _
theorem digit_ok : ∀ d, d < 10 → Lib.digitVal (UInt8.ofNat (48 + d)) = some d ∧ dig (UInt8.ofNat (48 + d)) = true ∧ dig10.contains (UInt8.ofNat (48 + d)) = true := by decide
theorem digits_read : ∀ u : Nat, Lib.decFrom 0 (Lib.decDigits u) = some u := fun u => by
 induction u using Nat.strongRecOn with
 | ind u ih =>
   rw [Lib.decDigits]
   by_cases h : u < 10
   ·rw [dif_pos h]
    simp only [Lib.decFrom, (digit_ok u h).1]; simp
   ·rw [dif_neg h, decFrom_app, ih (u / 10) (by omega)]
    simp only [Option.bind_some, Lib.decFrom, (digit_ok (u % 10) (by omega)).1]
    congr 1; omega
theorem digits_mem : ∀ (u : Nat) (c : UInt8), c ∈ Lib.decDigits u → ∃ d, d < 10 ∧ c = UInt8.ofNat (48 + d) := fun u => by
 induction u using Nat.strongRecOn with
 | ind u ih =>
   intro c hc
   rw [Lib.decDigits] at hc
   by_cases h : u < 10
   ·rw [dif_pos h] at hc
    exact ⟨u, h, by simpa using hc⟩
   ·rw [dif_neg h] at hc
    rcases List.mem_append.1 hc with hc | hc
    ·exact ih (u / 10) (by omega) c hc
    ·exact ⟨u % 10, by omega, by simpa using hc⟩
theorem digits_ne (u : Nat) : Lib.decDigits u ≠ [] := by
 rw [Lib.decDigits]; split <;> simp
theorem digits_cons (u : Nat) : ∃ d r, d < 10 ∧ Lib.decDigits u = UInt8.ofNat (48 + d) :: r := by
 cases h : Lib.decDigits u with
 | nil => exact absurd h (digits_ne u)
 | cons c r =>
   obtain ⟨d, hd, e⟩ := digits_mem u c (by rw [h]; exact List.mem_cons_self)
   exact ⟨d, r, hd, by rw [e]⟩
theorem digit_head : ∀ d, d < 10 → (UInt8.ofNat (48 + d) == 45) = false ∧ (UInt8.ofNat (48 + d) == 43) = false ∧ UInt8.ofNat (48 + d) ≠ 45 := by decide
theorem atoi_nat (u : Nat) : Lib.atoi (Lib.decDigits u) = some (u : Int) := by
 obtain ⟨d, r, hd, e⟩ := digits_cons u
 have h := digits_read u
 rw [e] at h ⊢
 simp only [Lib.atoi, (digit_head d hd).1, (digit_head d hd).2.1, Lib.decNat, h]; simp
theorem atoi_itoa (n : Int) : Lib.atoi (Lib.itoa n) = some n := by
 rcases Int.lt_or_le n 0 with h | h
 ·obtain ⟨u, rfl⟩ : ∃ u : Nat, n = -(u : Int) := ⟨n.natAbs, by omega⟩
  rw [Lib.itoa_neg u (by omega)]
  have h2 := digits_read u
  have h3 : (Lib.decDigits u).isEmpty = false := by simpa using digits_ne u
  simp [Lib.atoi, Lib.decNat, h2, h3]
 ·obtain ⟨u, rfl⟩ : ∃ u : Nat, n = (u : Int) := ⟨n.toNat, by omega⟩
  rw [Lib.itoa_nonneg]; exact atoi_nat u
theorem numV_itoa (n : Int) : numV (Lib.itoa n) = n := by unfold numV; rw [atoi_itoa]; rfl
theorem nDigits_le : ∀ (k u : Nat), u < 10 ^ (k + 1) → Lib.nDigits u ≤ k + 1
 | 0, u, h => by rw [Lib.nDigits_small (by simpa using h)]; omega
 | k + 1, u, h => by
   by_cases h1 : u < 10
   ·rw [Lib.nDigits_small h1]; omega
   ·rw [Lib.nDigits_big h1]
    have := nDigits_le k (u / 10) (by rw [Nat.pow_succ] at h; omega)
    omega
theorem dropW_all {p : UInt8 → Bool} : ∀ {s : Str}, (∀ c ∈ s, p c = true) → s.dropWhile p = []
 | [], _ => rfl
 | c :: s, h => by
   rw [List.dropWhile_cons, if_pos (h c List.mem_cons_self)]
   exact dropW_all fun x hx => h x (List.mem_cons_of_mem _ hx)
theorem cut_digits (u : Nat) : cutMinus (Lib.decDigits u) = Lib.decDigits u := by
 obtain ⟨d, r, hd, e⟩ := digits_cons u
 rw [e]
 unfold cutMinus
 split
 ·rename_i heq
  exact absurd (List.cons.inj heq).1 (digit_head d hd).2.2
 ·rfl
theorem dropW_nil {p : UInt8 → Bool} : ∀ {s : Str}, s.dropWhile p = [] → ∀ c ∈ s, p c = true
 | [], _, c, hc => by cases hc
 | x :: s, h, c, hc => by
   rw [List.dropWhile_cons] at h
   split at h
   ·rcases List.mem_cons.1 hc with rfl | hc
    ·assumption
    ·exact dropW_nil h c hc
   ·cases h
theorem dropW_sub {p : UInt8 → Bool} : ∀ {s : Str} (c : UInt8), c ∈ s → p c = true ∨ c ∈ s.dropWhile p
 | x :: s, c, hc => by
   rw [List.dropWhile_cons]
   split
   ·rename_i hx
    rcases List.mem_cons.1 hc with rfl | hc
    ·exact .inl hx
    ·exact dropW_sub c hc
   ·exact .inr hc
theorem trim10_nil {s : Str} (h : trim10 s = []) : ∀ c ∈ s, dig10.contains c = true := fun c hc => by
 unfold trim10 at h
 have h1 := dropW_nil h
 rcases dropW_sub (p := (dig10.contains ·)) (s := s.reverse) c (List.mem_reverse.2 hc) with h2 | h2
 ·exact h2
 ·exact h1 c (by unfold rtrim; exact List.mem_reverse.2 h2)
theorem dig10_val : ∀ c : UInt8, dig10.contains c = true → ∃ d, Lib.digitVal c = some d := fun c h => by
 have : c.toNat < 256 := c.toNat_lt
 simp only [dig10, List.contains_cons, List.contains_nil, Bool.or_false, Bool.or_eq_true, beq_iff_eq] at h
 rcases h with rfl | rfl | rfl | rfl | rfl | rfl | rfl | rfl | rfl | rfl <;> exact ⟨_, rfl⟩
theorem decFrom_some : ∀ (l : List UInt8) (acc : Nat), (∀ c ∈ l, dig10.contains c = true) → ∃ n, Lib.decFrom acc l = some n
 | [], acc, _ => ⟨acc, rfl⟩
 | c :: l, acc, h => by
   obtain ⟨d, hd⟩ := dig10_val c (h c List.mem_cons_self)
   obtain ⟨n, hn⟩ := decFrom_some l (acc * 10 + d) fun x hx => h x (List.mem_cons_of_mem _ hx)
   exact ⟨n, by simp only [Lib.decFrom, hd, hn]⟩
end Go.HL
end
section
namespace Go.HL
end Go.HL
end
section
namespace Go.HL
end Go.HL
end
section
namespace Go.HL
end Go.HL
end
section
namespace Go.Proofs.YtdjpppifnmjhoaaGreatDoor
open Go.HL
set_option maxRecDepth 100000
set_option linter.unusedVariables false
set_option linter.unusedSimpArgs false
/-- what every writing method of a builder calls first -/
theorem c_strings_Builder_copyCheck [Tracks] {b : Nat} {h v : Value} {s : Str} : Con Tryz.prog 95 [.raw (.pointer (some ⟨b, 0, none⟩))] [.bld b 110 5 h v s] (fun x M' => x = .tup [] ∧ M' = [.bld b 110 5 h v s]) :=
 con_copyCheck (ρ := Tryz.lays240_ren) (el := 5) Tryz.lays240 ⟨by kernel_rfl, by kernel_rfl⟩

theorem maxLenIs [Tracks] : Tryz.prog.globalNamed "internal/bytealg.MaxLen" = some (Tryz.lays146_ren.g 1) := by kernel_rfl

theorem c_strings_Split [Tracks] {s : Str} {c : UInt8} (hs : s.length < 4294967281) : ConP Tryz.prog 72 [.str s, .str [c]] (.slice 1 ((spl c s).map .str)) :=
 conp_split Tryz.lays146 (by kernel_rfl) maxLenIs hs

theorem c_strings_Count [Tracks] {s : Str} {c : UInt8} : ConP Tryz.prog 55 [.str s, .str [c]] (.int .i64 ((s.count c : Nat) : Int)) := conp_count Tryz.lays138

theorem c_strings_CutSuffix [Tracks] {s p : Str} (hs : s.length ≤ 4294967281) : ConP Tryz.prog 155 [.str s, .str p] (.tup [.str (Lib.trimSuffix s p), .bool (Lib.hasSuffix s p)]) := conp_cutSuffix Tryz.lays104 hs

/-- (*strings.Builder).WriteString -/
theorem c_strings_Builder_WriteString [Tracks] {b : Nat} {v : Value} {s : Str} {t : Str}  (hl : s.length + t.length ≤ 1000000000) : Con Tryz.prog 48 [pAt b, .str t] [.bld b 110 5 v v s] (fun x M' => ∃ v', x = .tup [.int .i64 (t.length : Int), .raw .nilIface] ∧ M' = [.bld b 110 5 v' v' (s ++ t)]) := by
 refine Con.of_body Tryz.func48 rfl Tryz.ntmps48 rfl rfl ?_
 refine hw_reg ?_
 refine dp rfl (pop_assign rfl) ?_
 refine dp rfl (pop_assign rfl) ?_
 refine dn ?_
 refine hw_reg ?_
 refine dp rfl (pop_move rfl) ?_
 refine de rfl (eop_callx (i := 0) ca95 rfl (WeakL.refl _) rfl c_strings_Builder_copyCheck ?_)
 rintro _ _ ⟨rfl, rfl⟩
 refine dn ?_
 refine hw_reg ?_
 refine dp rfl (pop_move rfl) ?_
 refine dp rfl (pop_move rfl) ?_
 refine dp rfl ((by first | exact pop_nilCheck rfl | exact pop_nilCheck_raw rfl)) ?_
 refine dp rfl (pop_fieldAddr_raw ty110 rfl ty108 (by decide) rfl) ?_
 refine de rfl (eop_loadB (i := 0) ty108 rfl rfl ?_)
 refine dp rfl (pop_move rfl) ?_
 refine de rfl (eop_appendB (i := 0) ty108 ty9 ty5 rfl rfl rfl rfl rfl hl fun v14 => ?_)
 refine dp rfl ((by first | exact pop_nilCheck rfl | exact pop_nilCheck_raw rfl)) ?_
 refine dp rfl (pop_fieldAddr_raw ty110 rfl ty108 (by decide) rfl) ?_
 refine de0 (eop_storeB (i := 0) ty108 rfl rfl rfl ?_)
 refine dn ?_
 refine hw_reg ?_
 refine dp rfl (pop_move rfl) ?_
 refine dp rfl (pop_lens ty9 rfl) ?_
 refine dp rfl (pop_assign rfl) ?_
 refine dp rfl (pop_assign rfl) ?_
 refine dn ?_
 refine hw_ret ?_
 exact ret_q rfl ⟨v14, rfl, rfl⟩

/-- (*strings.Builder).Len -/
theorem c_strings_Builder_Len [Tracks] {b : Nat} {v : Value} {s : Str}   : Con Tryz.prog 49 [pAt b] [.bld b 110 5 v v s] (fun x M' => x = .int .i64 (s.length : Int) ∧ M' = [.bld b 110 5 v v s]) := by
 refine Con.of_body Tryz.func49 rfl Tryz.ntmps49 rfl rfl ?_
 refine hw_reg ?_
 refine dp rfl (pop_assign rfl) ?_
 refine dn ?_
 refine hw_reg ?_
 refine dp rfl (pop_move rfl) ?_
 refine dp rfl ((by first | exact pop_nilCheck rfl | exact pop_nilCheck_raw rfl)) ?_
 refine dp rfl (pop_fieldAddr_raw ty110 rfl ty108 (by decide) rfl) ?_
 refine de rfl (eop_loadB (i := 0) ty108 rfl rfl ?_)
 refine de rfl (eop_lenB (i := 0) ty108 rfl rfl ?_)
 refine dp rfl (pop_assign rfl) ?_
 refine dn ?_
 refine hw_ret ?_
 exact ret_q rfl ⟨rfl, rfl⟩

/-- (*strings.Builder).String -/
theorem c_strings_Builder_String [Tracks] {b : Nat} {v : Value} {s : Str}   : Con Tryz.prog 50 [pAt b] [.bld b 110 5 v v s] (fun x M' => x = .str s ∧ M' = []) := by
 refine Con.of_body Tryz.func50 rfl Tryz.ntmps50 rfl rfl ?_
 refine hw_reg ?_
 refine dp rfl (pop_assign rfl) ?_
 refine dn ?_
 refine hw_bldc (i := 0) rfl fun hbv => ?_
 refine hw_draw (fun M => ∃ i : Nat, (M[i]? = some (.bld b 110 5 v v s)) ∨ ∃ p, M[i]? = some (.cells b [p, .raw v])) [3, 8] mixed ?_
 refine ahp 0 rfl rfl (by kernel_rfl) (by kernel_rfl) (pop_move rfl) ?_
 refine ahp 1 rfl rfl (by kernel_rfl) (by kernel_rfl) ((by first | exact pop_nilCheck rfl | exact pop_nilCheck_raw rfl)) ?_
 refine ahp 2 rfl rfl (by kernel_rfl) (by kernel_rfl) (pop_fieldAddr_raw ty110 rfl ty108 (by decide) rfl) ?_
 refine ahl 3 rfl rfl (by kernel_rfl) (by kernel_rfl) (by simp) ⟨0, .inl rfl⟩ (fun M hM => by obtain ⟨i, hi | ⟨p, hi⟩⟩ := hM; exact eop_loadB (i := i) ty108 rfl hi ⟨rfl, rfl⟩; exact eop_load (i := i) ty108 rfl hi (.inl ⟨rfl, rfl⟩) ⟨rfl, rfl⟩) ?_
 refine ahp 4 rfl rfl (by kernel_rfl) (by kernel_rfl) (pop_dataV hbv rfl) ?_
 refine ahp 5 rfl rfl (by kernel_rfl) (by kernel_rfl) (pop_move rfl) ?_
 refine ahp 6 rfl rfl (by kernel_rfl) (by kernel_rfl) ((by first | exact pop_nilCheck rfl | exact pop_nilCheck_raw rfl)) ?_
 refine ahp 7 rfl rfl (by kernel_rfl) (by kernel_rfl) (pop_fieldAddr_raw ty110 rfl ty108 (by decide) rfl) ?_
 refine ahl 8 rfl rfl (by kernel_rfl) (by kernel_rfl) (by simp) ⟨0, .inl rfl⟩ (fun M hM => by obtain ⟨i, hi | ⟨p, hi⟩⟩ := hM; exact eop_loadB (i := i) ty108 rfl hi ⟨rfl, rfl⟩; exact eop_load (i := i) ty108 rfl hi (.inl ⟨rfl, rfl⟩) ⟨rfl, rfl⟩) ?_
 refine ahp 9 rfl rfl (by kernel_rfl) (by kernel_rfl) (pop_lenV ty108 hbv rfl) ?_
 refine ahe 10 rfl (by kernel_rfl) ?_
 refine hop_e rfl (eop_strH (i := 0) (by kernel_rfl) (by kernel_rfl) rfl rfl rfl ?_)
 refine ⟨fun _ => .inl ⟨0, .inr ⟨_, rfl⟩⟩, ?_⟩
 refine ahp 11 rfl rfl (by kernel_rfl) (by kernel_rfl) (pop_assign rfl) ?_
 refine ahz (by kernel_rfl) ?_
 refine hw_ret ?_
 refine ret_g Ghost.drop rfl ⟨rfl, rfl⟩
end Go.Proofs.YtdjpppifnmjhoaaGreatDoor
end
section
namespace Go.HL
theorem numB_1g {s : Str} {m : Int} (h : (cutMinus s = [] ∨ m < ((cutMinus s).length : Int)) ∨ ((((cutMinus s).head?).getD 0).toNat : Int) = 48 ∧ ((1 : Int) < ((cutMinus s).length : Int) ∨ (cutMinus s).length < s.length)) : numB s m = false := by
 have : numC s m = true := decide_eq_true h
 simp [numB, this]
theorem numC_2g {s : Str} {m : Int} (h : (¬ cutMinus s = [] ∧ ((cutMinus s).length : Int) ≤ m) ∧ (((((cutMinus s).head?).getD 0).toNat : Int) = 48 → ((cutMinus s).length : Int) ≤ 1 ∧ s.length ≤ (cutMinus s).length)) : numC s m = false := by
 refine decide_eq_false ?_
 rintro ((a | a) | ⟨a, b⟩)
 ·exact h.1.1 a
 ·omega
 ·have := h.2 a; omega
set_option maxRecDepth 100000 in
theorem dig_dig10 : ∀ c : UInt8, dig c = dig10.contains c := fun c => by
 have : ∀ n, n < 256 → dig (UInt8.ofNat n) = dig10.contains (UInt8.ofNat n) := by decide
 have h := this c.toNat c.toNat_lt
 simpa using h
theorem digitVal_dig : ∀ c : UInt8, dig c = true → ∃ d, d < 10 ∧ Lib.digitVal c = some d ∧ c = UInt8.ofNat (48 + d) := fun c h => by
 simp only [dig, Bool.and_eq_true, decide_eq_true_eq] at h
 refine ⟨c.toNat - 48, by omega, by unfold Lib.digitVal; rw [if_pos h], ?_⟩
 rw [show 48 + (c.toNat - 48) = c.toNat by omega]; simp
theorem decDigits_big {u : Nat} (h : 10 ≤ u) : Lib.decDigits u = Lib.decDigits (u / 10) ++ [UInt8.ofNat (48 + u % 10)] := by
 rw [Lib.decDigits, dif_neg (by omega)]
theorem decDigits_small {u : Nat} (h : u < 10) : Lib.decDigits u = [UInt8.ofNat (48 + u)] := by
 rw [Lib.decDigits, dif_pos h]
/-- Digits without a nought ahead are the numeral of what they spell. -/
theorem canon_aux : ∀ (n : Nat) (t : Str), t.length = n + 1 → (∀ c ∈ t, dig c = true) → (t.length = 1 ∨ (t.head?).getD 0 ≠ 48) → ∃ v, Lib.decFrom 0 t = some v ∧ Lib.decDigits v = t ∧ ((t.head?).getD 0 ≠ 48 → 1 ≤ v)
 | 0, t, hl, hd, _ => by
   match t, hl with
   | [c], _ =>
     obtain ⟨d, hd1, hd2, hd3⟩ := digitVal_dig c (hd c (by simp))
     refine ⟨d, by simp [Lib.decFrom, hd2], by rw [decDigits_small hd1, hd3], fun h => ?_⟩
     rcases Nat.eq_zero_or_pos d with h0 | h0
     ·subst h0; exact absurd (by simp [hd3]) h
     ·exact h0
 | n + 1, t, hl, hd, hc => by
   obtain ⟨t', c, rfl⟩ : ∃ t' c, t = t' ++ [c] := by
    rcases List.eq_nil_or_concat t with h | ⟨t', c, h⟩
    ·subst h; simp at hl
    ·exact ⟨t', c, by simpa using h⟩
   simp only [List.length_append, List.length_cons, List.length_nil] at hl hc
   have hne : t' ≠ [] := by rintro rfl; simp at hl
   have hhd : ((t' ++ [c]).head?).getD 0 = (t'.head?).getD 0 := by
    cases t' with
    | nil => exact absurd rfl hne
    | cons a r => rfl
   rw [hhd] at hc ⊢
   have hc' : (t'.head?).getD 0 ≠ 48 := by
    rcases hc with h | h
    ·omega
    ·exact h
   obtain ⟨v, h1, h2, h3⟩ := canon_aux n t' (by omega) (fun x hx => hd x (List.mem_append_left _ hx)) (.inr hc')
   have hv := h3 hc'
   obtain ⟨d, hd1, hd2, hd3⟩ := digitVal_dig c (hd c (by simp))
   refine ⟨v * 10 + d, ?_, ?_, fun _ => by omega⟩
   ·rw [decFrom_app, h1]; simp [Lib.decFrom, hd2]
   ·rw [decDigits_big (by omega), show (v * 10 + d) / 10 = v by omega, show (v * 10 + d) % 10 = d by omega, h2, ← hd3]
theorem canon {t : Str} (h0 : t ≠ []) (hd : ∀ c ∈ t, dig c = true) (hc : t.length = 1 ∨ (t.head?).getD 0 ≠ 48) : ∃ v, Lib.decFrom 0 t = some v ∧ Lib.decDigits v = t ∧ ((t.head?).getD 0 ≠ 48 → 1 ≤ v) := by
 obtain ⟨n, hn⟩ : ∃ n, t.length = n + 1 := ⟨t.length - 1, by have := List.length_pos_iff.2 h0; omega⟩
 exact canon_aux n t hn hd hc
theorem head48 : ∀ u : Nat, ((Lib.decDigits u).head?).getD 0 = 48 → u = 0 := fun u => by
 induction u using Nat.strongRecOn with
 | ind u ih =>
   intro h
   by_cases hu : u < 10
   ·rw [decDigits_small hu] at h
    have : ∀ d, d < 10 → (UInt8.ofNat (48 + d)) = 48 → d = 0 := by decide
    exact this u hu (by simpa using h)
   ·rw [decDigits_big (by omega)] at h
    have h2 : ((Lib.decDigits (u / 10)).head?).getD 0 = 48 := by
     cases hq : Lib.decDigits (u / 10) with
     | nil => exact absurd hq (digits_ne _)
     | cons a r => rw [hq] at h; simpa using h
    have := ih (u / 10) (by omega) h2
    omega
theorem head_nat (t : Str) : (((t.head?).getD 0).toNat : Int) = 48 ↔ (t.head?).getD 0 = 48 := by
 constructor
 ·intro h
  have h' : ((t.head?).getD 0).toNat = 48 := by omega
  exact UInt8.toNat_inj.1 (h'.trans rfl)
 ·intro h; rw [h]; rfl
theorem cutMinus_cases (s : Str) : (∃ r, s = 45 :: r ∧ cutMinus s = r) ∨ ((∀ r, s ≠ 45 :: r) ∧ cutMinus s = s) := by
 cases s with
 | nil => exact .inr ⟨fun r h => (by cases h), rfl⟩
 | cons b r =>
   by_cases hb : b = 45
   ·subst hb; exact .inl ⟨r, rfl, rfl⟩
   ·refine .inr ⟨fun r' h => hb (List.cons.inj h).1, ?_⟩
    unfold cutMinus; split
    ·rename_i heq; exact absurd (List.cons.inj heq).1 hb
    ·rfl
theorem dig_not : dig 45 = false ∧ dig 43 = false := by decide
theorem atoi_pos {s : Str} {v : Nat} (h0 : s ≠ []) (hd : ∀ c ∈ s, dig c = true) (hv : Lib.decFrom 0 s = some v) : Lib.atoi s = some (v : Int) := by
 cases s with
 | nil => exact absurd rfl h0
 | cons b r =>
   have hb := hd b List.mem_cons_self
   have e1 : (b == 45) = false := by rw [beq_eq_false_iff_ne]; rintro rfl; rw [dig_not.1] at hb; cases hb
   have e2 : (b == 43) = false := by rw [beq_eq_false_iff_ne]; rintro rfl; rw [dig_not.2] at hb; cases hb
   simp [Lib.atoi, e1, e2, Lib.decNat, hv]
theorem atoi_minus {r : Str} {v : Nat} (h0 : r ≠ []) (hv : Lib.decFrom 0 r = some v) : Lib.atoi (45 :: r) = some (-(v : Int)) := by
 have : r.isEmpty = false := by cases r with
  | nil => exact absurd rfl h0
  | cons _ _ => rfl
 simp [Lib.atoi, Lib.decNat, hv, this]
/-- What is taken for a number strictly is its own numeral. -/
theorem numB_canon {s : Str} {m : Int} (h : numB s m = true) : (cutMinus s ≠ [] ∧ ((cutMinus s).length : Int) ≤ m ∧ ∀ c ∈ cutMinus s, dig c = true) ∧ (Lib.atoi s).isSome = true ∧ Lib.itoa (numV s) = s := by
 unfold numB at h
 rw [Bool.and_eq_true, Bool.not_eq_true'] at h
 obtain ⟨h1, h2⟩ := h
 have hd : ∀ c ∈ cutMinus s, dig c = true := List.all_eq_true.1 h2
 have h3 := of_decide_eq_false h1
 simp only [not_or, not_and] at h3
 obtain ⟨⟨h4, h5⟩, h6⟩ := h3
 rw [head_nat] at h6
 have hc : (cutMinus s).length = 1 ∨ ((cutMinus s).head?).getD 0 ≠ 48 := by
  by_cases e : ((cutMinus s).head?).getD 0 = 48
  ·have := h6 e
   have hp := List.length_pos_iff.2 h4
   left; omega
  ·exact .inr e
 obtain ⟨v, v1, v2, v3⟩ := canon h4 hd hc
 refine ⟨⟨h4, by omega, hd⟩, ?_⟩
 rcases cutMinus_cases s with ⟨r, rfl, hr⟩ | ⟨_, hr⟩
 ·rw [hr] at h4 h6 v1 v2 v3
  have ha := atoi_minus h4 v1
  have hne : (r.head?).getD 0 ≠ 48 := fun e => by have := h6 e; simp at this
  refine ⟨by rw [ha]; rfl, ?_⟩
  unfold numV
  rw [ha]
  show Lib.itoa (-(v : Int)) = _
  rw [Lib.itoa_neg v (v3 hne), v2]
 ·rw [hr] at h4 hd v1 v2
  have ha := atoi_pos h4 hd v1
  refine ⟨by rw [ha]; rfl, ?_⟩
  unfold numV
  rw [ha]
  show Lib.itoa (v : Int) = _
  rw [Lib.itoa_nonneg, v2]
theorem intC_f {s : Str} {m : Int} (h1 : cutMinus s ≠ []) (h2 : ((cutMinus s).length : Int) ≤ m) (h3 : ∀ c ∈ cutMinus s, dig c = true) : intC s m = false := by
 unfold intC
 have hp := List.length_pos_iff.2 h1
 rw [Bool.or_eq_false_iff]
 constructor
 ·simp [out]; omega
 ·have h : ∀ c ∈ cutMinus s, dig10.contains c = true := fun c hc => by rw [← dig_dig10]; exact h3 c hc
  unfold trim10 rtrim
  rw [dropW_all (s := (cutMinus s).reverse) fun c hc => h c (List.mem_reverse.1 hc)]
  rfl
theorem intC_of {s : Str} {m : Int} (h : intC s m = false) : cutMinus s ≠ [] ∧ ((cutMinus s).length : Int) ≤ m ∧ ∀ c ∈ cutMinus s, dig c = true := by
 unfold intC at h
 rw [Bool.or_eq_false_iff] at h
 obtain ⟨h1, h2⟩ := h
 have h1 := out_f h1
 have h3 := trim10_nil (by simpa using h2)
 refine ⟨fun e => by rw [e] at h1; simp at h1, h1.2, fun c hc => by rw [dig_dig10]; exact h3 c hc⟩
/-- Both ways to read a number say the same. -/
theorem num_int (s : Str) (m : Int) : numB s m = intB s m ∧ (numB s m = true → intR s m = numV s ∧ numR s m = numV s) := by
 cases hn : numB s m with
 | true =>
   obtain ⟨⟨a1, a2, a3⟩, _, a4⟩ := numB_canon hn
   have hc := intC_f (m := m) a1 a2 a3
   exact ⟨by simp [intB, hc, a4], fun _ => ⟨by simp [intR, hc], by simp [numR, hn]⟩⟩
 | false =>
   refine ⟨?_, fun h => by cases h⟩
   cases hc : intC s m with
   | true => simp [intB, hc]
   | false =>
     obtain ⟨a1, a2, a3⟩ := intC_of hc
     have hall : (cutMinus s).all dig = true := List.all_eq_true.2 a3
     have hC : numC s m = true := by
      unfold numB at hn
      rw [hall, Bool.and_true, Bool.not_eq_false'] at hn
      exact hn
     have h48 := of_decide_eq_true hC
     rw [head_nat] at h48
     have h48' : ((cutMinus s).head?).getD 0 = 48 ∧ ((1 : Int) < ((cutMinus s).length : Int) ∨ (cutMinus s).length < s.length) := by
      rcases h48 with (h | h) | h
      ·exact absurd h a1
      ·omega
      ·exact h
     have : Lib.itoa (numV s) ≠ s := by
      intro e
      rcases Int.lt_or_le (numV s) 0 with hneg | hpos
      ·obtain ⟨u, hu⟩ : ∃ u : Nat, numV s = -(u : Int) := ⟨(numV s).natAbs, by omega⟩
       rw [hu, Lib.itoa_neg u (by omega)] at e
       have hcut : cutMinus s = Lib.decDigits u := by rw [← e]; rfl
       rw [hcut] at h48'
       have := head48 u h48'.1
       omega
      ·obtain ⟨u, hu⟩ : ∃ u : Nat, numV s = (u : Int) := ⟨(numV s).toNat, by omega⟩
       rw [hu, Lib.itoa_nonneg] at e
       have hcut : cutMinus s = Lib.decDigits u := by rw [← e]; exact cut_digits u
       rw [hcut, ← e] at h48'
       have := head48 u h48'.1
       subst this
       have hl : (Lib.decDigits 0).length = 1 := by rw [decDigits_small (by omega)]; rfl
       omega
     simp [intB, this]
/-- What is taken for a number is read, and is not great. -/
theorem num_read {s : Str} {m : Int} (hm : m ≤ 17) (h : intC s m = false) : (Lib.atoi s).isSome = true ∧ s.length ≤ 18 ∧ -1000000000000000000 < numV s ∧ numV s < 1000000000000000000 := by
 obtain ⟨a1, a2, a3⟩ := intC_of h
 have a4 : ∀ c ∈ cutMinus s, dig10.contains c = true := fun c hc => by rw [← dig_dig10]; exact a3 c hc
 obtain ⟨n, hn⟩ := decFrom_some (cutMinus s) 0 a4
 have hl : s.length ≤ 18 := by
  have : s.length ≤ (cutMinus s).length + 1 := by
   unfold cutMinus; split <;> simp
  omega
 have hs : ∃ z, Lib.atoi s = some z := by
  rcases cutMinus_cases s with ⟨r, rfl, hr⟩ | ⟨_, hr⟩
  ·rw [hr] at a1 hn; exact ⟨_, atoi_minus a1 hn⟩
  ·rw [hr] at a1 a3 hn; exact ⟨_, atoi_pos a1 a3 hn⟩
 obtain ⟨z, hz⟩ := hs
 refine ⟨by rw [hz]; rfl, hl, ?_⟩
 have := Lib.atoi_bound hz hl
 unfold numV; rw [hz]; exact this
theorem numB_intC {s : Str} {m : Int} (h : numB s m = true) : intC s m = false := by
 obtain ⟨⟨a1, a2, a3⟩, _, _⟩ := numB_canon h
 exact intC_f a1 a2 a3
end Go.HL
end
section
namespace Go.HL
def wordsB (line : Str) (many : Int) : Bool := decide (((spl 32 line).length : Int) = many) && (spl 32 line).all (fun w => !w.isEmpty)
def wordsL (line : Str) (many : Int) : List Str := if wordsB line many then spl 32 line else []
theorem wordsB_1 {line : Str} {many : Int} (h : ((spl 32 line).length : Int) ≠ many) : wordsB line many = false := by simp [wordsB, h]
theorem wordsB_2 {line : Str} {many : Int} (h : (spl 32 line).all (fun w => !w.isEmpty) = false) : wordsB line many = false := by simp [wordsB, h]
theorem wordsB_3 {line : Str} {many : Int} (h0 : ((spl 32 line).length : Int) = many) (h : (spl 32 line).all (fun w => !w.isEmpty) = true) : wordsB line many = true := by simp [wordsB, h0, h]
theorem all_nilW {x : Str} {r : List Str} (h : x = []) : (x :: r).all (fun w => !w.isEmpty) = false := by subst h; rfl
def lnsL (text : Str) : List Str := if text = [] then [] else spl 10 (Lib.trimSuffix text [10])
def lnsE (text : Str) : Bool := if text = [] then true else Lib.hasSuffix text [10]
/-- The lines that a line feed ends. -/
def lns (text : Str) : List Str := (spl 10 text).dropLast
def goL (ok : Str → Bool) : Nat → List Str → Int × Bool
 | _, [] => (0, true)
 | k, [s] => if s = [] then (0, true) else ((k : Int), false)
 | k, s :: t :: r => if ok s then goL ok (k + 1) (t :: r) else ((k : Int), false)
def eachP (ok : Str → Bool) (ends : Bool) (n : Nat) : Nat → List Str → Int × Bool
 | _, [] => (0, true)
 | k, s :: r => if (!ends && decide ((k : Int) = (n : Int) - 1)) || !(ok s) then ((k : Int), false) else eachP ok ends n (k + 1) r
theorem eachP_cons (ok : Str → Bool) (ends : Bool) (n k : Nat) (s : Str) (r : List Str) : eachP ok ends n k (s :: r) = if (!ends && decide ((k : Int) = (n : Int) - 1)) || !(ok s) then ((k : Int), false) else eachP ok ends n (k + 1) r := rfl
theorem hasSuffix_iff {t : Str} : Lib.hasSuffix t [10] = true ↔ ∃ body, t = body ++ [10] := by
 unfold Lib.hasSuffix
 rw [List.isSuffixOf_iff_suffix]
 constructor
 ·rintro ⟨b, h⟩; exact ⟨b, h.symm⟩
 ·rintro ⟨b, h⟩; exact ⟨b, h.symm⟩
theorem trimSuffix_app (body : Str) : Lib.trimSuffix (body ++ [10]) [10] = body := by
 have : Lib.hasSuffix (body ++ [10]) [10] = true := hasSuffix_iff.2 ⟨_, rfl⟩
 unfold Lib.trimSuffix
 rw [if_pos this]
 simp
theorem trimSuffix_no {t : Str} (h : Lib.hasSuffix t [10] = false) : Lib.trimSuffix t [10] = t := by
 unfold Lib.trimSuffix
 rw [if_neg (by simp [h])]
theorem spl_snoc (c : UInt8) : ∀ b : Str, spl c (b ++ [c]) = spl c b ++ [[]]
 | [] => by simp [spl]
 | x :: b => by
   by_cases h : x = c
   ·subst h; rw [List.cons_append, spl_eq, spl_eq, spl_snoc x b]; rfl
   ·obtain ⟨y, r, hy⟩ := spl_cons (c := c) b
    have h2 := spl_snoc c b
    rw [hy] at h2
    rw [List.cons_append, spl_of_ne h hy, spl_of_ne h (x := y) (r := r ++ [[]]) (by rw [h2]; rfl)]
    rfl
theorem spl_last (c : UInt8) : ∀ b : Str, (∀ t, b ≠ t ++ [c]) → b ≠ [] → (spl c b).getLast (spl_ne c b) ≠ []
 | [], _, h => absurd rfl h
 | x :: b, h, _ => by
   by_cases hb : b = []
   ·subst hb
    have : x ≠ c := fun e => h [] (by simp [e])
    have h2 : spl c [x] = [[x]] := spl_of_ne this rfl
    simp [h2]
   ·have ih := spl_last c b (fun t e => h (x :: t) (by rw [e]; rfl)) hb
    by_cases hx : x = c
    ·subst hx
     have h2 := spl_eq x b
     simp only [h2]
     rw [List.getLast_cons (spl_ne x b)]; exact ih
    ·obtain ⟨y, r, hy⟩ := spl_cons (c := c) b
     have h2 := spl_of_ne hx hy
     simp only [h2]
     cases r with
     | nil => simp
     | cons z r =>
       simp only [hy] at ih
       rw [List.getLast_cons (by simp)] at ih ⊢
       exact ih
theorem lnsL_ends {text : Str} (h0 : text ≠ []) (h : lnsE text = true) : lnsE text = Lib.hasSuffix text [10] ∧ spl 10 text = lnsL text ++ [[]] ∧ lns text = lnsL text := by
 have e : lnsE text = Lib.hasSuffix text [10] := by unfold lnsE; rw [if_neg h0]
 obtain ⟨body, rfl⟩ := hasSuffix_iff.1 (e ▸ h)
 have h1 : lnsL (body ++ [10]) = spl 10 body := by unfold lnsL; rw [if_neg h0, trimSuffix_app]
 have h2 := spl_snoc 10 body
 refine ⟨e, by rw [h2, h1], ?_⟩
 unfold lns; rw [h2, h1]; simp
theorem lnsL_open {text : Str} (h : lnsE text = false) : text ≠ [] ∧ lnsL text = spl 10 text ∧ (lnsL text).getLast? ≠ some [] := by
 have h0 : text ≠ [] := by rintro rfl; simp [lnsE] at h
 have e : Lib.hasSuffix text [10] = false := by unfold lnsE at h; rw [if_neg h0] at h; exact h
 have h1 : lnsL text = spl 10 text := by unfold lnsL; rw [if_neg h0, trimSuffix_no e]
 refine ⟨h0, h1, ?_⟩
 rw [h1, List.getLast?_eq_some_getLast (spl_ne 10 text)]
 have := spl_last 10 text (fun t et => by rw [hasSuffix_iff.2 ⟨t, et⟩] at e; cases e) h0
 intro hh; exact this (Option.some.inj hh)
theorem eachP_ends (ok : Str → Bool) (n : Nat) : ∀ (l : List Str) (k : Nat), eachP ok true n k l = goL ok k (l ++ [[]])
 | [], k => by simp [eachP, goL]
 | s :: r, k => by
   have ih := eachP_ends ok n r (k + 1)
   obtain ⟨t, q, hq⟩ : ∃ t q, r ++ [[]] = t :: q := by
    cases r with
    | nil => exact ⟨[], [], rfl⟩
    | cons a b => exact ⟨a, b ++ [[]], rfl⟩
   rw [List.cons_append, hq]
   rw [hq] at ih
   simp only [eachP, goL, Bool.not_true, Bool.false_and, Bool.false_or, ih]
   cases ok s <;> simp
theorem eachP_open (ok : Str → Bool) (n : Nat) : ∀ (l : List Str) (k : Nat), l ≠ [] → n = k + l.length → l.getLast? ≠ some [] → eachP ok false n k l = goL ok k l
 | [], k, h, _, _ => absurd rfl h
 | [s], k, _, hn, hl => by
   have : s ≠ [] := fun e => hl (by simp [e])
   simp only [List.length_cons, List.length_nil] at hn
   have h2 : decide ((k : Int) = (n : Int) - 1) = true := decide_eq_true (by omega)
   simp [eachP, goL, this, h2]
 | s :: t :: r, k, _, hn, hl => by
   simp only [List.length_cons] at hn
   have ih := eachP_open ok n (t :: r) (k + 1) (by simp) (by simp only [List.length_cons]; omega) (by simpa using hl)
   have h2 : decide ((k : Int) = (n : Int) - 1) = false := decide_eq_false (by omega)
   rw [eachP, goL, h2, ih]
   cases ok s <;> simp
theorem eachP_goL (ok : Str → Bool) (text : Str) : eachP ok (lnsE text) (lnsL text).length 0 (lnsL text) = goL ok 0 (spl 10 text) := by
 by_cases h0 : text = []
 ·subst h0; simp [lnsL, eachP, goL, spl]
 ·cases he : lnsE text with
  | true =>
    obtain ⟨_, h1, _⟩ := lnsL_ends h0 he
    rw [h1]; exact eachP_ends ok _ _ _
  | false =>
    obtain ⟨_, h1, h2⟩ := lnsL_open he
    rw [eachP_open ok _ _ _ (by rw [h1]; exact spl_ne 10 text) (by omega) h2, h1]
/-- All lines were taken: the text ends with a line feed. -/
theorem eachP_true {ok : Str → Bool} {text : Str} (h : (goL ok 0 (spl 10 text)).2 = true) : lns text = lnsL text := by
 by_cases h0 : text = []
 ·subst h0; rfl
 ·cases he : lnsE text with
  | true => exact (lnsL_ends h0 he).2.2
  | false =>
    exfalso
    rw [← eachP_goL] at h
    obtain ⟨_, h1, h2⟩ := lnsL_open he
    rw [he] at h
    have key : ∀ (l : List Str) (k : Nat), l ≠ [] → (lnsL text).length = k + l.length → (eachP ok false (lnsL text).length k l).2 = false := by
     intro l
     induction l with
     | nil => intro k h; exact absurd rfl h
     | cons s r ih =>
       intro k _ hn
       simp only [List.length_cons] at hn
       simp only [eachP]
       by_cases hr : r = []
       ·subst hr
        simp only [List.length_nil] at hn
        have : decide ((k : Int) = ((lnsL text).length : Int) - 1) = true := decide_eq_true (by omega)
        rw [this]; rfl
       ·split
        ·rfl
        ·exact ih (k + 1) hr (by omega)
    rw [key _ 0 (by rw [h1]; exact spl_ne 10 text) (by omega)] at h
    cases h
theorem trimSuffix_len (text : Str) : (Lib.trimSuffix text [10]).length ≤ text.length := by unfold Lib.trimSuffix; split <;> simp
theorem lnsL_many (text : Str) : (lnsL text).length ≤ text.length := by
 by_cases h0 : text = []
 ·subst h0; simp [lnsL]
 ·cases he : lnsE text with
  | true =>
    obtain ⟨e, h1, _⟩ := lnsL_ends h0 he
    obtain ⟨body, hb⟩ := hasSuffix_iff.1 (e ▸ he)
    have h2 := spl_len 10 text
    rw [h1] at h2
    have h3 := List.count_le_length (a := (10 : UInt8)) (l := text)
    simp at h2; omega
  | false =>
    obtain ⟨_, h1, _⟩ := lnsL_open he
    have e : Lib.hasSuffix text [10] = false := by unfold lnsE at he; rw [if_neg h0] at he; exact he
    rw [h1, spl_len]
    have h4 : text.count 10 ≤ text.length := List.count_le_length
    rcases Nat.lt_or_ge (text.count 10) text.length with h | h
    ·omega
    ·exfalso
     have hall : ∀ c ∈ text, c = 10 := fun c hc => (List.count_eq_length.1 (by omega : text.count 10 = text.length) c hc).symm
     rcases List.eq_nil_or_concat text with h5 | ⟨t', c, h5⟩
     ·exact h0 h5
     ·have : c = 10 := hall c (by rw [h5]; simp)
      subst this
      have h6 : text = t' ++ [10] := by rw [h5]; simp
      rw [hasSuffix_iff.2 ⟨t', h6⟩] at e; cases e
theorem lnsL_len {text : Str} : ∀ x ∈ lnsL text, x.length ≤ text.length := fun x hx => by
 unfold lnsL at hx
 split at hx
 ·cases hx
 ·exact Nat.le_trans (spl_mem_len 10 _ x hx) (trimSuffix_len text)
/-- All is taken where each line is, and the last one is ended. -/
theorem goL_all {ok : Str → Bool} : ∀ (l : List Str) (k : Nat), (∀ s ∈ l, ok s = true) → goL ok k (l ++ [[]]) = (0, true)
 | [], k, _ => by simp [goL]
 | s :: r, k, h => by
   have ih := goL_all r (k + 1) fun x hx => h x (by simp [hx])
   obtain ⟨t, q, hq⟩ : ∃ t q, r ++ [[]] = t :: q := by
    cases r with
    | nil => exact ⟨[], [], rfl⟩
    | cons a b => exact ⟨a, b ++ [[]], rfl⟩
   rw [List.cons_append, hq]
   rw [hq] at ih
   simp only [goL, h s (by simp), if_true, ih]
theorem goL_of {ok : Str → Bool} : ∀ (l : List Str) (k : Nat), l ≠ [] → (goL ok k l).2 = true → (goL ok k l).1 = 0 ∧ (∀ s ∈ l.dropLast, ok s = true) ∧ l.getLast? = some []
 | [], k, h, _ => absurd rfl h
 | [s], k, _, h => by
   simp only [goL] at h ⊢
   split at h
   ·rename_i hs; subst hs; simp
   ·cases h
 | s :: t :: r, k, _, h => by
   simp only [goL] at h ⊢
   split at h
   ·rename_i hs
    rw [if_pos hs]
    obtain ⟨h1, h2, h3⟩ := goL_of (t :: r) (k + 1) (by simp) h
    refine ⟨h1, fun x hx => ?_, by simpa using h3⟩
    rw [List.dropLast_cons_cons] at hx
    rcases List.mem_cons.1 hx with rfl | hx
    ·exact hs
    ·exact h2 x hx
   ·cases h
end Go.HL
end
section
namespace Go.HL
end Go.HL
end
section
namespace Go.HL
theorem ret_gw [Tracks] {rs : List ResultVar} {e e' : Env} {M M' : List MObj} {h h' : HVal} {Q : HVal → List MObj → Prop} (hg : Ghost e M e' M') (hr : resH e' rs = some h) (hw : Weak h h') (hh : Q h' M') : RetQ rs Q .ret e M :=
 ⟨e', M', hg, h, h', hr, hw, hh⟩
theorem weakW [Tracks] {line : Str} {many : Int} (h : wordsB line many = false) : Weak (.tup [.raw (.slice none 0 0), .bool false]) (.tup [eSs (wordsL line many), .bool (wordsB line many)]) := by
 rw [wordsL, h]; exact weak_tup2 (weak_nil 1) (Weak.refl _)
theorem eqW {line : Str} {many : Int} (h : wordsB line many = true) : HVal.tup [eSs (spl 32 line), .bool true] = .tup [eSs (wordsL line many), .bool (wordsB line many)] := by
 rw [wordsL, h]; rfl
theorem weakLn [Tracks] {text : Str} (h : text = []) : Weak (.tup [.raw (.slice none 0 0), .bool true]) (.tup [eSs (lnsL text), .bool (lnsE text)]) := by
 subst h; exact weak_tup2 (weak_nil 1) (Weak.refl _)
theorem eqLn {text : Str} (h : text ≠ []) : HVal.tup [eSs (spl 10 (Lib.trimSuffix text [10])), .bool (Lib.hasSuffix text [10])] = .tup [eSs (lnsL text), .bool (lnsE text)] := by
 rw [lnsL, lnsE, if_neg h, if_neg h]
end Go.HL
end
section
namespace Go.Proofs.YtdjpppifnmjhoaaGreatDoor
open Go.HL
set_option maxRecDepth 100000
set_option linter.unusedVariables false
set_option linter.unusedSimpArgs false
theorem VL_two [Tracks] {I : Imm} {c d : HVal} {vs : List Value} (h : VL I [c, d] vs) : ∃ u v, vs = [u, v] ∧ V I c u ∧ V I d v := by
 have h1 := h.1
 rcases vs with _ | ⟨u, _ | ⟨v, _ | ⟨w, r⟩⟩⟩
 ·simp at h1
 ·simp at h1
 ·exact ⟨u, v, rfl, h.head, h.tail.head⟩
 ·simp at h1
theorem trimMinus [Tracks] (s : Str) : Lib.trimPrefix s [45] = cutMinus s := by
 unfold Lib.trimPrefix Lib.hasPrefix
 cases s with
 | nil => rfl
 | cons c r =>
   by_cases h : c = 45
   ·subst h; simp [cutMinus]
   ·have h' : ¬ (45 : UInt8) = c := fun e => h e.symm
    simp only [List.isPrefixOf, beq_iff_eq, h', Bool.and_eq_true, false_and, if_false]
    unfold cutMinus
    split
    ·rename_i heq; simp at heq; exact absurd heq.1 h
    ·rfl
/-- strings.TrimPrefix of a minus -/
theorem c_strings_TrimPrefix [Tracks] {s : Str} : ConP Tryz.prog 157 [.str s, .str [45]] (.str (cutMinus s)) :=
 conp_of_calls fun I w args ha => by
  obtain ⟨u, v, rfl, hu, hv⟩ := VL_two ha
  obtain rfl := hu.str_inv
  obtain rfl := hv.str_inv
  refine ⟨_, .str _, ?_⟩
  have := Any.strings_TrimPrefix Tryz.lays101 ⟨s.toArray⟩ ⟨[45].toArray⟩ w
  rw [show (⟨s.toArray⟩ : ByteArray).data.toList = s by simp, show (⟨[45].toArray⟩ : ByteArray).data.toList = [45] by simp, trimMinus] at this
  exact this
/-- strconv.Atoi of a short numeral -/
theorem c_strconv_Atoi [Tracks] {s : Str} (hl : s.length ≤ 18) (h : (Lib.atoi s).isSome = true) : ConP Tryz.prog 158 [.str s] (.tup [.int .i64 (numV s), .raw .nilIface]) :=
 conp_atoi fun w => Any.strconv_Atoi Tryz.lays172 ⟨s.toArray⟩ (numV s) (by simpa [ByteArray.size] using hl) (by
  obtain ⟨n, hn⟩ := Option.isSome_iff_exists.1 h
  simp [numV, hn]) w

/-- benchwarmer/base.Words -/
theorem c_base_Words [Tracks] {line : Str} {many : Int} (hl : line.length ≤ 1000000) : ConP Tryz.prog 54 [.str line, .int .i64 many] (.tup [eSs (wordsL line many), .bool (wordsB line many)]) := by
 have hsl := spl_len 32 line
 have hsc := List.count_le_length (a := (32 : UInt8)) (l := line)
 refine Con.of_body Tryz.func54 rfl Tryz.ntmps54 rfl rfl ?_
 refine hw_reg ?_
 refine dp rfl (pop_assign rfl) ?_
 refine dp rfl (pop_assign rfl) ?_
 refine dn ?_
 refine hw_reg ?_
 refine dp rfl (pop_move rfl) ?_
 refine dp rfl (pop_call ca72 rfl (WeakL.refl _) (c_strings_Split (c := 32) (by omega))) ?_
 refine dp rfl (pop_assign rfl) ?_
 refine dn ?_
 refine hw_seq ?_
 refine hw_reg ?_
 refine dp rfl (pop_move rfl) ?_
 refine dp rfl (pop_lenm ty26 rfl) ?_
 refine dp rfl (pop_move rfl) ?_
 refine dp rfl (pop_neq rfl rfl) ?_
 refine dn ?_
 refine hw_cond rfl (fun h1 => ?_) (fun h2 => ?_)
 ·try simp at h1
  refine hw_reg ?_
  refine dp rfl (pop_assign rfl) ?_
  refine dp rfl (pop_assign rfl) ?_
  refine dn ?_
  refine hw_ret ?_
  first
  | exact ret_w rfl (weakW (wordsB_1 h1))
  | exact ret_w rfl (weakW (wordsB_2 (hg.trans (all_nilW h5))))
  | exact ret_p rfl (eqW (wordsB_3 h2 hg))
 ·try simp at h2
  refine hw_skip ?_
  refine seqQ_n ?_
  refine hw_seq ?_
  refine hw_reg ?_
  refine dp rfl (pop_move rfl) ?_
  refine dp rfl (pop_lenm ty26 rfl) ?_
  refine dp rfl (pop_move rfl) ?_
  refine dn ?_
  refine hw_block ?_
  refine hw_loopw [4, 5, 8, 17, 18, 19, 20, 21, 22, 23] (fun (k : Nat) => [(17, .int .i64 k)]) (fun (k : Nat) => []) (fun (k : Nat) => k ≤ (spl 32 line).length ∧ ((spl 32 line).all (fun w => !w.isEmpty) = ((spl 32 line).drop k).all (fun w => !w.isEmpty))) (fun (k : Nat) => (spl 32 line).length - k) (0) ?_ ?_ ?_ ?_
  ·exact ⟨Nat.zero_le _, rfl⟩
  ·exact ⟨rfl, trivial⟩
  ·exact List.Perm.refl _
  ·intro k hinv
   obtain ⟨hk, hg⟩ := hinv
   refine hw_reg ?_
   refine dp rfl (pop_lss rfl rfl) ?_
   refine dn ?_
   refine hw_seq ?_
   refine hw_cond rfl (fun h3 => ?_) (fun h4 => ?_)
   ·try simp at h3
    obtain ⟨x, hx⟩ : ∃ x, (spl 32 line)[k]? = some x := ⟨_, List.getElem?_eq_getElem h3⟩
    have hdx := drop_cons hx
    rw [hdx] at hg
    refine hw_skip ?_
    refine seqQ_n ?_
    refine hw_seq ?_
    refine hw_block ?_
    refine hw_reg ?_
    refine dp rfl (pop_idx ty26 ty9 rfl rfl rfl (by first | assumption | simp_all)) ?_
    refine dp rfl (pop_load ty9 rfl rfl rfl) ?_
    refine dp rfl (pop_assign rfl) ?_
    refine dn ?_
    refine hw_reg ?_
    refine dp rfl (pop_move rfl) ?_
    refine dp rfl (pop_eqls rfl rfl) ?_
    refine dn ?_
    refine hw_cond rfl (fun h5 => ?_) (fun h6 => ?_)
    ·try simp at h5
     refine hw_reg ?_
     refine dp rfl (pop_assign rfl) ?_
     refine dp rfl (pop_assign rfl) ?_
     refine dn ?_
     refine hw_ret ?_
     first
     | exact ret_w rfl (weakW (wordsB_1 h1))
     | exact ret_w rfl (weakW (wordsB_2 (hg.trans (all_nilW h5))))
     | exact ret_p rfl (eqW (wordsB_3 h2 hg))
    ·try simp at h6
     refine hw_skip ?_
     refine blockQ_n ?_
     refine seqQ_n ?_
     refine hw_reg1 ?_
     refine dp rfl (pop_add64 rfl rfl (by omega) (by omega)) ?_
     refine dp rfl (pop_move rfl) ?_
     refine dn ?_
     refine ⟨k + 1, ?_, ?_, ⟨rfl, trivial⟩, (by repeat (first | exact keeps_refl | refine keeps_upd rfl ?_ | refine keeps_loop rfl rfl ?_)), List.Perm.refl _⟩
     ·refine ⟨by omega, ?_⟩
      rw [hg]; simp_all
     ·dsimp only; omega
   ·try simp at h4
    have hnk : (spl 32 line).length ≤ k := by omega
    obtain rfl : k = (spl 32 line).length := by omega
    rw [drop_all (Nat.le_refl _)] at hg
    refine hw_exit ?_
    refine seqQ_x ?_
    refine loopQ_x ?_
    refine blockQ_eq ?_
    refine seqQ_n ?_
    refine hw_reg ?_
    refine dp rfl (pop_move rfl) ?_
    refine dp rfl (pop_assign rfl) ?_
    refine dp rfl (pop_assign rfl) ?_
    refine dn ?_
    refine hw_ret ?_
    first
    | exact ret_w rfl (weakW (wordsB_1 h1))
    | exact ret_w rfl (weakW (wordsB_2 (hg.trans (all_nilW h5))))
    | exact ret_p rfl (eqW (wordsB_3 h2 hg))

/-- benchwarmer/base.Lines -/
theorem c_base_Lines [Tracks] {text : Str} (ht : text.length ≤ 1000000) : ConP Tryz.prog 98 [.str text] (.tup [eSs (lnsL text), .bool (lnsE text)]) := by
 have htl : (Lib.trimSuffix text [10]).length ≤ text.length := by unfold Lib.trimSuffix; split <;> simp
 refine Con.of_body Tryz.func98 rfl Tryz.ntmps98 rfl rfl ?_
 refine hw_reg ?_
 refine dp rfl (pop_assign rfl) ?_
 refine dp rfl (pop_assign rfl) ?_
 refine dn ?_
 refine hw_seq ?_
 refine hw_reg ?_
 refine dp rfl (pop_move rfl) ?_
 refine dp rfl (pop_eqls rfl rfl) ?_
 refine dn ?_
 refine hw_cond rfl (fun h1 => ?_) (fun h2 => ?_)
 ·try simp at h1
  refine hw_reg ?_
  refine dp rfl (pop_assign rfl) ?_
  refine dp rfl (pop_assign rfl) ?_
  refine dn ?_
  refine hw_ret ?_
  first
  | exact ret_w rfl (weakLn h1)
  | exact ret_p rfl (eqLn h2)
 ·try simp at h2
  refine hw_skip ?_
  refine seqQ_n ?_
  refine hw_reg ?_
  refine dp rfl (pop_move rfl) ?_
  refine dp rfl (pop_call ca155 rfl (WeakL.refl _) (c_strings_CutSuffix (p := [10]) (by omega))) ?_
  refine dp rfl (pop_move rfl) ?_
  refine dp rfl (pop_extract rfl rfl) ?_
  refine dp rfl (pop_extract rfl rfl) ?_
  refine dp rfl (pop_assign rfl) ?_
  refine dp rfl (pop_assign rfl) ?_
  refine dn ?_
  refine hw_reg ?_
  refine dp rfl (pop_move rfl) ?_
  refine dp rfl (pop_call ca72 rfl (WeakL.refl _) (c_strings_Split (c := 10) (by omega))) ?_
  refine dp rfl (pop_move rfl) ?_
  refine dp rfl (pop_assign rfl) ?_
  refine dp rfl (pop_assign rfl) ?_
  refine dn ?_
  refine hw_ret ?_
  first
  | exact ret_w rfl (weakLn h1)
  | exact ret_p rfl (eqLn h2)

/-- benchwarmer/base.Number -/
theorem c_base_Number_g [Tracks] {s : Str} {m : Int} (hs : s.length ≤ 1000000) (hm : m ≤ 17) : ConP Tryz.prog 102 [.str s, .int .i64 m] (.tup [.int .i64 (numR s m), .bool (numB s m)]) := by
 have hcl := cutMinus_len s
 refine Con.of_body Tryz.func102 rfl Tryz.ntmps102 rfl rfl ?_
 refine hw_reg ?_
 refine dp rfl (pop_assign rfl) ?_
 refine dp rfl (pop_assign rfl) ?_
 refine dn ?_
 refine hw_reg ?_
 refine dp rfl (pop_move rfl) ?_
 refine dp rfl (pop_call ca157 rfl (WeakL.refl _) c_strings_TrimPrefix) ?_
 refine dp rfl (pop_assign rfl) ?_
 refine dn ?_
 refine hw_seq ?_
 refine hw_reg ?_
 refine dp rfl (pop_move rfl) ?_
 refine dp rfl (pop_eqls rfl rfl) ?_
 refine dp rfl (pop_move rfl) ?_
 refine dg rfl rfl (fun hc => ⟨_, OpenTo.refl _, pop_move rfl⟩) ?_
 refine dg rfl rfl (fun hc => ⟨_, OpenTo.upd (t := 15) rfl (by first | exact hc | simp_all) (OpenTo.refl _), pop_lens ty9 rfl⟩) ?_
 refine dg rfl rfl (fun hc => ⟨_, OpenTo.refl _, pop_move rfl⟩) ?_
 refine dg rfl rfl (fun hc => ⟨_, OpenTo.upd (t := 17) rfl (by first | exact hc | simp_all) (OpenTo.upd (t := 16) rfl (by first | exact hc | simp_all) (OpenTo.refl _)), pop_gtr rfl rfl⟩) ?_
 refine dp rfl (pop_picko rfl (.inl rfl) (.inr ⟨_, rfl, fun h => by simp_all⟩)) ?_
 refine dp rfl (pop_move rfl) ?_
 refine dg rfl rfl (fun hc => ⟨_, OpenTo.refl _, pop_move rfl⟩) ?_
 refine dg rfl rfl (fun hc => ⟨_, OpenTo.upd (t := 21) rfl (by first | exact hc | simp_all) (OpenTo.refl _), pop_indexs (j := 0) (b := (cutMinus s).headD 0) ty9 rfl rfl rfl (hd0 (by simp_all))⟩) ?_
 refine dg rfl rfl (fun hc => ⟨_, OpenTo.upd (t := 22) rfl (by first | exact hc | simp_all) (OpenTo.refl _), pop_eql rfl rfl⟩) ?_
 refine dg rfl rfl (fun hc => ⟨_, OpenTo.upd (t := 23) rfl (by first | exact hc | simp_all) (OpenTo.refl _), pop_move rfl⟩) ?_
 refine dg rfl rfl (fun hc => ⟨_, OpenTo.refl _, pop_move rfl⟩) ?_
 refine dg rfl rfl (fun hc => ⟨_, OpenTo.upd (t := 25) rfl (by first | exact hc | simp_all) (OpenTo.refl _), pop_lens ty9 rfl⟩) ?_
 refine dg rfl rfl (fun hc => ⟨_, OpenTo.upd (t := 26) rfl (by first | exact hc | simp_all) (OpenTo.refl _), pop_gtr rfl rfl⟩) ?_
 refine dg rfl rfl (fun hc => ⟨_, OpenTo.upd (t := 27) rfl (by first | exact hc | simp_all) (OpenTo.refl _), pop_move rfl⟩) ?_
 refine dg rfl rfl (fun hc => ⟨_, OpenTo.refl _, pop_move rfl⟩) ?_
 refine dg rfl rfl (fun hc => ⟨_, OpenTo.upd (t := 29) rfl (by first | exact hc | simp_all) (OpenTo.refl _), pop_lens ty9 rfl⟩) ?_
 refine dg rfl rfl (fun hc => ⟨_, OpenTo.refl _, pop_move rfl⟩) ?_
 refine dg rfl rfl (fun hc => ⟨_, OpenTo.upd (t := 31) rfl (by first | exact hc | simp_all) (OpenTo.refl _), pop_lens ty9 rfl⟩) ?_
 refine dg rfl rfl (fun hc => ⟨_, OpenTo.upd (t := 32) rfl (by first | exact hc | simp_all) (OpenTo.upd (t := 30) rfl (by first | exact hc | simp_all) (OpenTo.refl _)), pop_gtr rfl rfl⟩) ?_
 refine dg rfl rfl (fun hc => ⟨_, OpenTo.upd (t := 28) rfl (by first | exact hc | simp_all) (OpenTo.refl _), pop_picko rfl (.inl rfl) (.inr ⟨_, rfl, fun h => by simp_all⟩)⟩) ?_
 refine dg rfl rfl (fun hc => ⟨_, OpenTo.upd (t := 24) rfl (by first | exact hc | simp_all) (OpenTo.refl _), pop_picko rfl (.inr ⟨_, rfl, fun h => by simp_all⟩) (.inl rfl)⟩) ?_
 refine dp rfl (pop_picko rfl (.inl rfl) (.inr ⟨_, rfl, fun h => by simp_all⟩)) ?_
 refine dn ?_
 refine hw_cond rfl (fun h1 => ?_) (fun h2 => ?_)
 ·try simp at h1
  refine hw_reg ?_
  refine dp rfl (pop_assign rfl) ?_
  refine dp rfl (pop_assign rfl) ?_
  refine dn ?_
  refine hw_ret ?_
  refine ret_p rfl ?_
  show HVal.tup _ = _
  first | (rw [numR, numB_1g h1]; rfl) | (rw [numR, show numB s m = false by rw [numB, hg, List.all_cons, dig_f h5]; simp]; rfl) | (rw [numR, hnb]; rfl)
 ·try simp at h2
  refine hw_skip ?_
  refine seqQ_n ?_
  refine hw_seq ?_
  refine hw_reg ?_
  refine dp rfl (pop_move rfl) ?_
  refine dp rfl (pop_lens ty9 rfl) ?_
  refine dp rfl (pop_move rfl) ?_
  refine dn ?_
  refine hw_block ?_
  refine hw_loopw [4, 5, 7, 39, 40, 41, 42, 43, 44, 45, 46, 47, 48, 49, 50, 51, 52] (fun (k : Nat) => [(39, .int .i64 k)]) (fun (k : Nat) => []) (fun (k : Nat) => k ≤ (cutMinus s).length ∧ (cutMinus s).all dig = ((cutMinus s).drop k).all dig) (fun (k : Nat) => (cutMinus s).length - k) (0) ?_ ?_ ?_ ?_
  ·exact ⟨Nat.zero_le _, rfl⟩
  ·exact ⟨rfl, trivial⟩
  ·exact List.Perm.refl _
  ·intro k hinv
   obtain ⟨hk, hg⟩ := hinv
   refine hw_reg ?_
   refine dp rfl (pop_lss rfl rfl) ?_
   refine dn ?_
   refine hw_seq ?_
   refine hw_cond rfl (fun h3 => ?_) (fun h4 => ?_)
   ·try simp at h3
    obtain ⟨x, hx⟩ : ∃ x, (cutMinus s)[k]? = some x := ⟨_, List.getElem?_eq_getElem h3⟩
    have hd := drop_cons hx
    rw [hd] at hg
    refine hw_skip ?_
    refine seqQ_n ?_
    refine hw_seq ?_
    refine hw_block ?_
    refine hw_reg ?_
    refine dp rfl (pop_move rfl) ?_
    refine dp rfl (pop_assign rfl) ?_
    refine dn ?_
    refine hw_reg ?_
    refine dp rfl (pop_move rfl) ?_
    refine dp rfl (pop_move rfl) ?_
    refine dp rfl (pop_indexs ty9 rfl rfl rfl (by first | assumption | simp_all)) ?_
    refine dp rfl (pop_lss rfl rfl) ?_
    refine dp rfl (pop_move rfl) ?_
    refine dg rfl rfl (fun hc => ⟨_, OpenTo.refl _, pop_move rfl⟩) ?_
    refine dg rfl rfl (fun hc => ⟨_, OpenTo.refl _, pop_move rfl⟩) ?_
    refine dg rfl rfl (fun hc => ⟨_, OpenTo.upd (t := 48) rfl (by first | exact hc | simp_all) (OpenTo.upd (t := 47) rfl (by first | exact hc | simp_all) (OpenTo.refl _)), pop_indexs ty9 rfl rfl rfl (by first | assumption | simp_all)⟩) ?_
    refine dg rfl rfl (fun hc => ⟨_, OpenTo.upd (t := 49) rfl (by first | exact hc | simp_all) (OpenTo.refl _), pop_gtr rfl rfl⟩) ?_
    refine dp rfl (pop_picko rfl (.inl rfl) (.inr ⟨_, rfl, fun h => by simp_all⟩)) ?_
    refine dn ?_
    refine hw_cond rfl (fun h5 => ?_) (fun h6 => ?_)
    ·try simp at h5
     refine hw_reg ?_
     refine dp rfl (pop_assign rfl) ?_
     refine dp rfl (pop_assign rfl) ?_
     refine dn ?_
     refine hw_ret ?_
     refine ret_p rfl ?_
     show HVal.tup _ = _
     first | (rw [numR, numB_1g h1]; rfl) | (rw [numR, show numB s m = false by rw [numB, hg, List.all_cons, dig_f h5]; simp]; rfl) | (rw [numR, hnb]; rfl)
    ·try simp at h6
     refine hw_skip ?_
     refine blockQ_n ?_
     refine seqQ_n ?_
     refine hw_reg1 ?_
     refine dp rfl (pop_add64 rfl rfl (by omega) (by omega)) ?_
     refine dp rfl (pop_move rfl) ?_
     refine dn ?_
     refine ⟨k + 1, ?_, ?_, ⟨rfl, trivial⟩, (by repeat (first | exact keeps_refl | refine keeps_upd rfl ?_ | refine keeps_loop rfl rfl ?_)), List.Perm.refl _⟩
     ·refine ⟨by omega, ?_⟩
      rw [hg, List.all_cons, dig_t h6]; rfl
     ·dsimp only; omega
   ·try simp at h4
    rw [drop_all (by omega)] at hg
    refine hw_exit ?_
    refine seqQ_x ?_
    refine loopQ_x ?_
    refine blockQ_eq ?_
    refine seqQ_n ?_
    refine hw_reg ?_
    refine dp rfl (pop_move rfl) ?_
    have hnb : numB s m = true := by simp [numB, numC_2g h2, hg]
    obtain ⟨hvat, hv18, _, _⟩ := num_read hm (numB_intC hnb)
    refine dp rfl (pop_call ca158 rfl (WeakL.refl _) (c_strconv_Atoi hv18 hvat)) ?_
    refine dp rfl (pop_move rfl) ?_
    refine dp rfl (pop_extract rfl rfl) ?_
    refine dp rfl (pop_extract rfl rfl) ?_
    refine dp rfl (pop_assign rfl) ?_
    refine dp rfl (pop_assign rfl) ?_
    refine dn ?_
    refine hw_draw (fun _ => True) [] mixed ?_
    refine ahp 0 rfl rfl (by kernel_rfl) (by kernel_rfl) (pop_move rfl) ?_
    refine ahp 1 rfl rfl (by kernel_rfl) (by kernel_rfl) (pop_move rfl) ?_
    refine ahp 2 rfl rfl (by kernel_rfl) (by kernel_rfl) (pop_eqnilI Tryz.underlying112 rfl) ?_
    refine ahp 3 rfl rfl (by kernel_rfl) (by kernel_rfl) (pop_assign rfl) ?_
    refine ahp 4 rfl rfl (by kernel_rfl) (by kernel_rfl) (pop_assign rfl) ?_
    refine ahz (by kernel_rfl) ?_
    refine hw_ret ?_
    refine ret_p rfl ?_
    show HVal.tup _ = _
    first | (rw [numR, numB_1g h1]; rfl) | (rw [numR, show numB s m = false by rw [numB, hg, List.all_cons, dig_f h5]; simp]; rfl) | (rw [numR, hnb]; rfl)

end Go.Proofs.YtdjpppifnmjhoaaGreatDoor
end
section
namespace Go.HL
section
variable {κ : Type}
/-- The inner maps by the outer key: block and entries. -/
abbrev GrM (κ : Type) := List (Str × (Nat × List (κ × Int)))
end
end Go.HL
end
section
namespace Go.HL
section
variable {P : Program} {e : Env} {dst : Option Tmp} {ty : TypeId} {pos : String} {af : Array Edge} {g : Option (Nat × Bool)} {M : List MObj} {K : HVal → List MObj → Prop}
end
end Go.HL
end
section
namespace Go.HL
section
variable {P : Program} {e : Env} {dst : Option Tmp} {ty : TypeId} {pos : String} {af : Array Edge} {g : Option (Nat × Bool)}
end
section
variable {P : Program} {n : Nat} {e e' : Env} {M M' : List MObj} {Q Q' : Exit → Env → List MObj → Prop} {c c' : Code}
def LoopW4 {α β γ δ : Type} (e : Env) (ks : List Nat) (W : α → β → γ → δ → List (Nat × HVal)) (MM : α → β → γ → δ → List MObj) (Iv : α → β → γ → δ → Prop) (μ : α → β → γ → δ → Nat) (x : α) (y : β) (u : γ) (v : δ) (Q : Exit → Env → List MObj → Prop) : Exit → Env → List MObj → Prop
 | .normal, e', M => ∃ j k l m, Iv j k l m ∧ μ j k l m < μ x y u v ∧ HoldsW e' (W j k l m) ∧ Keeps ks e e' ∧ M.Perm (MM j k l m)
 | z, e', M => Q z e' M
theorem loopQ4_x {α β γ δ : Type} {e0 : Env} {ks : List Nat} {W : α → β → γ → δ → List (Nat × HVal)} {MM : α → β → γ → δ → List MObj} {Iv : α → β → γ → δ → Prop} {μ : α → β → γ → δ → Nat} {x : α} {y : β} {u : γ} {v : δ} {id : Nat} (h : Q (.exit id) e M) :
 LoopW4 e0 ks W MM Iv μ x y u v Q (.exit id) e M := h
theorem hw_loopw4 [Tracks] {α β γ δ : Type} (ks : List Nat) (W : α → β → γ → δ → List (Nat × HVal)) (MM : α → β → γ → δ → List MObj) (Iv : α → β → γ → δ → Prop) (μ : α → β → γ → δ → Nat) (x : α) (y : β) (u : γ) (v : δ) (h0 : Iv x y u v) (hW : HoldsW e (W x y u v)) (hM : M.Perm (MM x y u v))
 (hb : ∀ x y u v, Iv x y u v → HWp P n c (loopE e ks (W x y u v)) (MM x y u v) (LoopW4 e ks W MM Iv μ x y u v Q)) : HWp P n (.loop c) e M Q := by
 refine hw_loopw (ι := α × β × γ × δ) ks (fun p => W p.1 p.2.1 p.2.2.1 p.2.2.2) (fun p => MM p.1 p.2.1 p.2.2.1 p.2.2.2) (fun p => Iv p.1 p.2.1 p.2.2.1 p.2.2.2) (fun p => μ p.1 p.2.1 p.2.2.1 p.2.2.2) (x, y, u, v) h0 hW hM fun p hp => hw_mono (hb p.1 p.2.1 p.2.2.1 p.2.2.2 hp) ?_
 intro z e1 M1 hq
 cases z with
 | normal => obtain ⟨j, k, l, m, h⟩ := hq; exact ⟨(j, k, l, m), h⟩
 | _ => exact hq
end
end Go.HL
end
section
namespace Go.Proofs.YtdjpppifnmjhoaaGreatDoor
open Go.HL
set_option maxRecDepth 100000
set_option linter.unusedVariables false
set_option linter.unusedSimpArgs false
end Go.Proofs.YtdjpppifnmjhoaaGreatDoor
end
section
namespace Go.HL
def pickF (p : Pick) : Int := if out p.No 0 600 then 1 else if !(key p.Team) || !(key p.Player) then 5 else if !(moment p.At) then 1 else 0
def autoS : Str := [97, 117, 116, 111]
def pickW (p : Pick) : List Str := [Lib.itoa p.No, p.Team, p.Player, Lib.itoa p.At] ++ (if p.Auto then [autoS] else [])
theorem pickF_z {p : Pick} (h : pickF p = 0) : (0 ≤ p.No ∧ p.No ≤ 600) ∧ key p.Team = true ∧ key p.Player = true ∧ (0 ≤ p.At ∧ p.At ≤ 345686399999) := by
 unfold pickF at h
 split at h
 ·cases h
 ·rename_i h1
  split at h
  ·cases h
  ·rename_i h2
   split at h
   ·cases h
   ·rename_i h3
    have a1 := out_f (by simpa using h1 : out p.No 0 600 = false)
    have a3 := out_f (by simpa [moment] using h3 : out p.At 0 345686399999 = false)
    simp at h2
    exact ⟨a1, h2.1, h2.2, a3⟩
theorem keyS_len {s : Str} (h : key s = true) : s.length ≤ 40 := by
 unfold key keyHd at h
 simp only [Bool.and_eq_true, decide_eq_true_eq] at h
 exact h.1.1.1.2
theorem key_ch {s : Str} (h : key s = true) : ∀ c ∈ s, keyCh c = true := by
 unfold key at h
 rw [Bool.and_eq_true] at h
 exact List.all_eq_true.1 h.2
theorem wordsB_n (line : Str) : wordsB line ((line.count 32 : Nat) + 1 : Int) = (spl 32 line).all (fun w => !w.isEmpty) := by
 unfold wordsB; rw [spl_len]; simp
theorem spl_getD_len {line : Str} (j : Nat) : ((spl 32 line).getD j []).length ≤ line.length := by
 rw [List.getD_eq_getElem?_getD]
 cases h : (spl 32 line)[j]? with
 | none => simp
 | some x => exact spl_mem_len 32 line x (List.mem_of_getElem? h)
theorem contains_nil (l : List Str) : l.contains [] = !(l.all fun w => !w.isEmpty) := by
 induction l with
 | nil => rfl
 | cons x r ih =>
   rw [List.contains_cons, ih, List.all_cons]
   cases x <;> simp
end Go.HL
end
section
namespace Go.HL
theorem digits_dig (u : Nat) : ∀ c ∈ Lib.decDigits u, dig c = true := fun c hc => by
 obtain ⟨d, hd, rfl⟩ := digits_mem u c hc
 exact (digit_ok d hd).2.1
theorem itoa_plain {n : Int} (h0 : 0 ≤ n) : (∀ c ∈ Lib.itoa n, dig c = true) ∧ Lib.itoa n ≠ [] ∧ cutMinus (Lib.itoa n) = Lib.itoa n := by
 obtain ⟨u, rfl⟩ : ∃ u : Nat, n = (u : Int) := ⟨n.toNat, by omega⟩
 rw [Lib.itoa_nonneg]
 exact ⟨digits_dig u, digits_ne u, cut_digits u⟩
theorem dig_no {c : UInt8} (h : dig c = true) : c ≠ 32 ∧ c ≠ 10 := by
 constructor <;> · rintro rfl; simp [dig] at h
theorem keyCh_no {c : UInt8} (h : keyCh c = true) : c ≠ 32 ∧ c ≠ 10 := by
 constructor <;> · rintro rfl; simp [keyCh] at h
theorem key_not_nil {s : Str} (h : key s = true) : s ≠ [] := by
 rintro rfl; simp [key, keyHd] at h
theorem pickW_no {p : Pick} (h : pickF p = 0) : ∀ w ∈ pickW p, w ≠ [] ∧ (32 : UInt8) ∉ w ∧ (10 : UInt8) ∉ w := by
 obtain ⟨h1, h2, h3, h4⟩ := pickF_z h
 obtain ⟨a1, a2, _⟩ := itoa_plain h1.1
 obtain ⟨b1, b2, _⟩ := itoa_plain h4.1
 have fd : ∀ s : Str, (∀ c ∈ s, dig c = true) → (32 : UInt8) ∉ s ∧ (10 : UInt8) ∉ s := fun s hs => ⟨fun hm => (dig_no (hs _ hm)).1 rfl, fun hm => (dig_no (hs _ hm)).2 rfl⟩
 have fk : ∀ s : Str, key s = true → (32 : UInt8) ∉ s ∧ (10 : UInt8) ∉ s := fun s hs => ⟨fun hm => (keyCh_no (key_ch hs _ hm)).1 rfl, fun hm => (keyCh_no (key_ch hs _ hm)).2 rfl⟩
 intro w hw
 unfold pickW at hw
 rcases List.mem_append.1 hw with hw | hw
 ·simp only [List.mem_cons, List.not_mem_nil, or_false] at hw
  rcases hw with rfl | rfl | rfl | rfl
  ·exact ⟨a2, fd _ a1⟩
  ·exact ⟨key_not_nil h2, fk _ h2⟩
  ·exact ⟨key_not_nil h3, fk _ h3⟩
  ·exact ⟨b2, fd _ b1⟩
 ·cases hA : p.Auto with
  | false => rw [hA] at hw; simp at hw
  | true => rw [hA] at hw; simp at hw; subst hw; decide
theorem jn_no {c d : UInt8} (hcd : d ≠ c) : ∀ {l : List Str}, (∀ x ∈ l, d ∉ x) → d ∉ jn c l
 | [], _ => by simp [jn]
 | [x], h => h x (by simp)
 | x :: y :: r, h => by
   rw [jn_cons (by simp)]
   simp only [List.mem_append, List.mem_cons, not_or]
   exact ⟨h x (by simp), hcd, jn_no hcd fun z hz => h z (by simp [hz])⟩
theorem jn_lines : ∀ (l : List Str), jn 10 (l ++ [[]]) = (l.map (· ++ [10])).flatten
 | [] => rfl
 | x :: r => by
   rw [List.cons_append, jn_cons (by simp), jn_lines r]; simp
end Go.HL
end
section
namespace Go.HL
theorem itoa_cases (n : Int) : (∃ u : Nat, n = (u : Int) ∧ Lib.itoa n = Lib.decDigits u ∧ cutMinus (Lib.itoa n) = Lib.decDigits u) ∨ (∃ u : Nat, 1 ≤ u ∧ n = -(u : Int) ∧ Lib.itoa n = 45 :: Lib.decDigits u ∧ cutMinus (Lib.itoa n) = Lib.decDigits u) := by
 rcases Int.lt_or_le n 0 with h | h
 ·obtain ⟨u, rfl⟩ : ∃ u : Nat, n = -(u : Int) := ⟨n.natAbs, by omega⟩
  have e := Lib.itoa_neg u (by omega)
  exact .inr ⟨u, by omega, rfl, e, by rw [e]; rfl⟩
 ·obtain ⟨u, rfl⟩ : ∃ u : Nat, n = (u : Int) := ⟨n.toNat, by omega⟩
  have e := Lib.itoa_nonneg u
  exact .inl ⟨u, rfl, e, by rw [e]; exact cut_digits u⟩
theorem cut_itoa (n : Int) : cutMinus (Lib.itoa n) = Lib.decDigits n.natAbs := by
 rcases itoa_cases n with ⟨u, rfl, _, h⟩ | ⟨u, _, rfl, _, h⟩
 ·rw [h]; congr 1
 ·rw [h]; congr 1; omega
theorem itoa_len (n : Int) : (Lib.itoa n).length ≤ (Lib.decDigits n.natAbs).length + 1 := by
 have h := cut_itoa n
 rcases cutMinus_cases (Lib.itoa n) with ⟨r, e1, e2⟩ | ⟨_, e2⟩
 ·rw [e2] at h; rw [e1, h]; simp
 ·rw [e2] at h; rw [h]; omega
theorem itoa_no (n : Int) : Lib.itoa n ≠ [] ∧ (32 : UInt8) ∉ Lib.itoa n ∧ (10 : UInt8) ∉ Lib.itoa n := by
 have fd : ∀ u, (32 : UInt8) ∉ Lib.decDigits u ∧ (10 : UInt8) ∉ Lib.decDigits u := fun u => ⟨fun hm => (dig_no (digits_dig u _ hm)).1 rfl, fun hm => (dig_no (digits_dig u _ hm)).2 rfl⟩
 rcases itoa_cases n with ⟨u, _, e, _⟩ | ⟨u, _, _, e, _⟩
 ·rw [e]; exact ⟨digits_ne u, fd u⟩
 ·rw [e]
  refine ⟨by simp, ?_, ?_⟩ <;> simp only [List.mem_cons, not_or]
  ·exact ⟨by decide, (fd u).1⟩
  ·exact ⟨by decide, (fd u).2⟩
/-- A number of so many digits is read as it was written. -/
theorem num_itoaG {n : Int} {k : Nat} {m : Int} (h : n.natAbs < 10 ^ (k + 1)) (hm : ((k + 1 : Nat) : Int) ≤ m) : numB (Lib.itoa n) m = true ∧ numR (Lib.itoa n) m = n := by
 have hc := cut_itoa n
 have hl : (Lib.decDigits n.natAbs).length ≤ k + 1 := by rw [Lib.decDigits_length]; exact nDigits_le k _ h
 have hi : intC (Lib.itoa n) m = false := intC_f (by rw [hc]; exact digits_ne _) (by rw [hc]; omega) (by rw [hc]; exact digits_dig _)
 have hb : numB (Lib.itoa n) m = true := by
  rw [(num_int _ _).1]; unfold intB; rw [hi, numV_itoa]; simp
 exact ⟨hb, by unfold numR; rw [if_pos hb, numV_itoa]⟩
end Go.HL
end
section
namespace Go.HL
theorem lns_len (text : Str) : (lns text).length ≤ text.length := by
 unfold lns; rw [List.length_dropLast, spl_len]; simp only [Nat.add_sub_cancel]; exact List.count_le_length
theorem lns_mem {text x : Str} (h : x ∈ lns text) : x.length ≤ text.length := spl_mem_len 10 text x (List.dropLast_subset _ h)
end Go.HL
end
section
namespace Go.HL
section
variable {α : Type} (rB : Str → Bool) (rP : Str → α) (F : List α → Int) (W : α → List Str) (enc : α → HVal) (sz : Nat)
end
end Go.HL
end
section
namespace Go.HL
section
variable {α : Type}
def Srt (c : α → α → Int) (l : List α) : Prop := l.Pairwise fun a b => c a b ≤ 0
theorem Cmp.self {c : α → α → Int} (hc : Cmp c fun _ => True) (x : α) : c x x ≤ 0 := by
 have := hc.flip x x trivial trivial; omega
theorem Srt.get {c : α → α → Int} (hc : Cmp c fun _ => True) {l : List α} (h : Srt c l) {i j : Nat} {x y : α} (hij : i ≤ j) (hx : l[i]? = some x) (hy : l[j]? = some y) : c x y ≤ 0 := by
 rcases Nat.lt_or_ge i j with hlt | hge
 ·have h1 := lt_of_get hx
  have h2 := lt_of_get hy
  have := List.pairwise_iff_getElem.1 h i j h1 h2 hlt
  rw [List.getElem?_eq_getElem h1] at hx
  rw [List.getElem?_eq_getElem h2] at hy
  rw [Option.some.inj hx, Option.some.inj hy] at this
  exact this
 ·have e : i = j := by omega
  rw [e, hy] at hx
  rw [Option.some.inj hx]; exact hc.self _
theorem Srt.take {c : α → α → Int} {l : List α} (h : Srt c l) (k : Nat) : Srt c (l.take k) := List.Pairwise.sublist (List.take_sublist k l) h
theorem Srt.drop {c : α → α → Int} {l : List α} (h : Srt c l) (k : Nat) : Srt c (l.drop k) := List.Pairwise.sublist (List.drop_sublist k l) h
theorem Srt.nil {c : α → α → Int} : Srt c [] := List.Pairwise.nil
end
end Go.HL
end
section
namespace Go.HL
section
variable {α : Type} {c : α → α → Int}
/-- Each block of so many elements is sorted. -/
def Blk (c : α → α → Int) (bs : Nat) (l : List α) : Prop := ∀ q, Srt c ((l.drop (bs * q)).take bs)
theorem Blk.all {bs : Nat} {l : List α} (h : Blk c bs l) (hl : l.length ≤ bs) : Srt c l := by
 have := h 0
 rw [Nat.mul_zero, List.drop_zero, List.take_of_length_le hl] at this
 exact this
theorem Blk.nil {bs : Nat} : Blk c bs [] := fun q => by simp [Srt.nil]
theorem Blk.add {bs k : Nat} {Z W : List α} (h : Blk c bs Z) (hZ : Z.length = bs * k) (hW : Srt c W) (hl : W.length ≤ bs) : Blk c bs (Z ++ W) := by
 intro q
 rcases Nat.lt_trichotomy q k with hq | hq | hq
 ·have h1 : bs * q + bs ≤ Z.length := by rw [hZ, ← Nat.mul_succ]; exact Nat.mul_le_mul_left bs hq
  rw [List.drop_append_of_le_length (by omega), List.take_append_of_le_length (by rw [List.length_drop]; omega)]
  exact h q
 ·rw [hq, ← hZ, List.drop_left, List.take_of_length_le hl]; exact hW
 ·have h1 : Z.length + bs ≤ bs * q := by rw [hZ, ← Nat.mul_succ]; exact Nat.mul_le_mul_left bs hq
  rw [List.drop_of_length_le (by rw [List.length_append]; omega)]
  simp [Srt.nil]
theorem Blk.at {bs q a : Nat} {l : List α} (h : Blk c bs l) (ha : a = bs * q) : Srt c ((l.drop a).take bs) := by rw [ha]; exact h q
end
end Go.HL
end
section
namespace Go.HL
section
variable {α : Type} [DecidableEq α]
/-- A list without the things that equal the one before (p ahead of the first). -/
def uniqA (p : Option α) : List α → List α
 | [] => []
 | x :: r => if p = some x then uniqA (some x) r else x :: uniqA (some x) r
theorem uniqA_snoc (x : α) : ∀ (A : List α) (p : Option α), uniqA p (A ++ [x]) = uniqA p A ++ if (A.getLast?.or p) = some x then [] else [x]
 | [], p => by
   by_cases h : p = some x <;> simp [uniqA, h]
 | y :: A, p => by
   have ih := uniqA_snoc x A (some y)
   have e : ((y :: A).getLast?.or p) = (A.getLast?.or (some y)) := by
    cases A with
    | nil => simp
    | cons z A => simp [List.getLast?_cons_cons, List.getLast?_cons]
   simp only [List.cons_append, uniqA]
   rw [e, ih]
   split <;> simp
theorem uniqA_step {l : List α} {k : Nat} {x y : α} (hx : l[k]? = some x) (hy : l[k - 1]? = some y) (h0 : 0 < k) : uniqA none (l.take (k + 1)) = uniqA none (l.take k) ++ if x = y then [] else [x] := by
 have hk := lt_of_get hx
 rw [take_snoc' hx, uniqA_snoc]
 have e : ((l.take k).getLast?.or none) = some y := by
  rw [List.getLast?_eq_getElem?, List.length_take, Nat.min_eq_left (by omega), List.getElem?_take_of_lt (by omega), hy]; rfl
 rw [e]
 by_cases h : x = y
 ·rw [if_pos h, if_pos (by rw [h])]
 ·rw [if_neg h, if_neg (by simpa using fun q : y = x => h q.symm)]
structure CmpA (l : List α) (j : Nat) (D : List α) : Prop where
 len : D.length = l.length
 lo : D.take (uniqA none (l.take j)).length = uniqA none (l.take j)
 lt : (uniqA none (l.take j)).length < j
 hi : ∀ i, j ≤ i + 1 → D[i]? = l[i]?
theorem CmpA.start {l : List α} {k : Nat} {x y : α} (hx : l[k]? = some x) (hy : l[k - 1]? = some y) (h0 : 0 < k) (e : x = y) (h : uniqA none (l.take k) = l.take k) : CmpA l (k + 1) l ∧ (uniqA none (l.take (k + 1))).length = k := by
 have hk := lt_of_get hx
 have h1 : uniqA none (l.take (k + 1)) = l.take k := by rw [uniqA_step hx hy h0, if_pos e, h]; simp
 have h2 : (l.take k).length = k := by rw [List.length_take]; omega
 exact ⟨⟨rfl, by rw [h1, h2], by rw [h1, h2]; omega, fun _ _ => rfl⟩, by rw [h1, h2]⟩
theorem CmpA.same {l D : List α} {j : Nat} (h : CmpA l j D) {x y : α} (hx : l[j]? = some x) (hy : l[j - 1]? = some y) (e : x = y) : CmpA l (j + 1) D ∧ (uniqA none (l.take (j + 1))).length = (uniqA none (l.take j)).length := by
 have h0 := h.lt
 have h1 : uniqA none (l.take (j + 1)) = uniqA none (l.take j) := by rw [uniqA_step hx hy (by omega), if_pos e]; simp
 exact ⟨⟨h.len, by rw [h1]; exact h.lo, by rw [h1]; omega, fun i hi => h.hi i (by omega)⟩, by rw [h1]⟩
variable {c : α → α → Int}
end
end Go.HL
end
section
namespace Go.HL
structure MendS where
 Player : Str
 Week : Int
 Stat : Str
 Count : Int
 At : Int
 Version : Int
 By : Str
abbrev Plc := Str × Int
section
variable {α : Type}
def chkGo (f : α → Int) (c : α → α → Int) (d : α) (l : List α) : Nat → List α → Int
 | _, [] => 0
 | k, x :: r => if f x ≠ 0 then f x else if 0 < k ∧ c x (l.getD (k - 1) d) ≤ 0 then 7 else chkGo f c d l (k + 1) r
theorem chkGo_ne {f : α → Int} {c : α → α → Int} {d : α} {l : List α} {k : Nat} {x : α} {r : List α} (h1 : f x = 0) (h2 : 0 < k → ¬ c x (l.getD (k - 1) d) ≤ 0) : chkGo f c d l k (x :: r) = chkGo f c d l (k + 1) r := by
 rw [chkGo, if_neg (by simp [h1]), if_neg (fun h => h2 h.1 h.2)]
theorem chkGo_bad {f : α → Int} {c : α → α → Int} {d : α} {l : List α} {k : Nat} {x : α} {r : List α} (h1 : f x ≠ 0) : chkGo f c d l k (x :: r) = f x := by
 rw [chkGo, if_pos h1]
theorem chkGo_ord {f : α → Int} {c : α → α → Int} {d : α} {l : List α} {k : Nat} {x : α} {r : List α} (h1 : f x = 0) (h0 : 0 < k) (h2 : c x (l.getD (k - 1) d) ≤ 0) : chkGo f c d l k (x :: r) = 7 := by
 rw [chkGo, if_neg (by simp [h1]), if_pos ⟨h0, h2⟩]
theorem chk_fault {f : α → Int} {c : α → α → Int} {d : α} {l : List α} : ∀ (r : List α) (k : Nat), chkGo f c d l k r = 0 → ∀ x ∈ r, f x = 0
 | [], _, _, x, hx => by cases hx
 | p :: r, k, h, x, hx => by
   rw [chkGo] at h
   split at h
   ·contradiction
   ·split at h
    ·omega
    ·rename_i h1 _
     rcases List.mem_cons.1 hx with rfl | hx
     ·simpa using h1
     ·exact chk_fault r (k + 1) h x hx
/-- Each is behind the one ahead of it. -/
theorem chk_pairs {f : α → Int} {c : α → α → Int} {d : α} (hc : Cmp c fun _ => True) : ∀ (r : List α) (l : List α) (k : Nat), l.drop k = r → k ≤ l.length → (l.take k).Pairwise (fun a b => c a b < 0) → chkGo f c d l k r = 0 → l.Pairwise (fun a b => c a b < 0)
 | [], l, k, hd, hk, hp, _ => by
   have h1 : l.length ≤ k := by simpa using hd
   rw [List.take_of_length_le h1] at hp; exact hp
 | x :: r, l, k, hd, hk, hp, h => by
   rw [chkGo] at h
   split at h
   ·contradiction
   ·split at h
    ·omega
    ·rename_i h2
     have hx : l[k]? = some x := by have := congrArg (fun q : List α => q[0]?) hd; simpa using this
     have hlt := lt_of_get hx
     refine chk_pairs hc r l (k + 1) (by rw [← List.drop_drop (i := 1), hd]; rfl) hlt ?_ h
     rw [take_snoc' hx]
     refine List.pairwise_append.2 ⟨hp, List.pairwise_singleton _ _, fun a ha b hb => ?_⟩
     obtain rfl := List.mem_singleton.1 hb
     obtain ⟨i, hi⟩ := List.getElem?_of_mem ha
     have hik : i < k := by have := lt_of_get hi; rw [List.length_take] at this; omega
     have hy : l[k - 1]? = some (l.getD (k - 1) d) := getD_some (by omega)
     have h3 : c (l.getD (k - 1) d) b < 0 := by
      rw [hc.flip _ _ trivial trivial]
      have : ¬ c b (l.getD (k - 1) d) ≤ 0 := fun e => h2 ⟨by omega, e⟩
      omega
     rcases Nat.lt_or_ge i (k - 1) with hlt' | hge
     ·have hyk : (l.take k)[k - 1]? = some (l.getD (k - 1) d) := by rw [List.getElem?_take_of_lt (by omega)]; exact hy
      have h4 : c a (l.getD (k - 1) d) < 0 := by
       have hi2 := lt_of_get hi
       have hk2 := lt_of_get hyk
       have := List.pairwise_iff_getElem.1 hp i (k - 1) hi2 hk2 hlt'
       rw [List.getElem?_eq_getElem hi2] at hi
       rw [List.getElem?_eq_getElem hk2] at hyk
       rw [Option.some.inj hi, Option.some.inj hyk] at this
       exact this
      have h5 := hc.trans a (l.getD (k - 1) d) b trivial trivial trivial (by omega) (by omega)
      have f1 := hc.flip a (l.getD (k - 1) d) trivial trivial
      have f2 := hc.flip (l.getD (k - 1) d) b trivial trivial
      have f3 := hc.flip a b trivial trivial
      have f4 := hc.flip b a trivial trivial
      rcases Int.lt_or_eq_of_le h5 with e | e
      ·exact e
      ·exfalso
       have := hc.trans b a (l.getD (k - 1) d) trivial trivial trivial (by omega) (by omega)
       omega
     ·have e : i = k - 1 := by omega
      rw [e, List.getElem?_take_of_lt (by omega), hy] at hi
      rw [← Option.some.inj hi]; exact h3
theorem chk_strict {f : α → Int} {c : α → α → Int} {d : α} (hc : Cmp c fun _ => True) {l : List α} (h : chkGo f c d l 0 l = 0) : l.Pairwise (fun a b => c a b < 0) :=
 chk_pairs hc l l 0 rfl (Nat.zero_le _) (by simp) h
theorem cmpS_by (f : α → Str) : Cmp (fun a b => cmpS (f a) (f b)) fun _ => True where
 flip x y _ _ := by rw [cmpS_flip (f x) (f y)]; omega
 trans x y z _ _ _ h1 h2 := cmpS_trans h1 h2
end
theorem or_zero {a b : Int} (h : (if a ≠ 0 then a else b) = 0) : a = 0 ∧ b = 0 := by
 split at h
 ·contradiction
 ·rename_i h1; exact ⟨by simpa using h1, h⟩
theorem leq_cmpS (a b : Str) : (Op.bytesLess a b || a == b) = decide (cmpS a b ≤ 0) := by
 rw [Bool.eq_iff_iff, decide_eq_true_iff, cmpS_le]
 rcases less_total a b with h | h | h
 ·simp [h, less_asymm h]
 ·subst h; simp [less_irrefl]
 ·have hne : a ≠ b := fun e => by subst e; rw [less_irrefl] at h; cases h
  simp [h, less_asymm h, hne]
/-! what is wrong -/
end Go.HL
end
section
namespace Go.HL
section
variable {α : Type} [DecidableEq α]
end
end Go.HL
end
section
namespace Go.HL
end Go.HL
end
section
namespace Go.HL
theorem Cmp.lt_trans {α : Type} {c : α → α → Int} {s : α → Prop} (h : Cmp c s) {x y z : α} (hx : s x) (hy : s y) (hz : s z) (h1 : c x y < 0) (h2 : c y z < 0) : c x z < 0 := by
 rcases Int.lt_or_le (c x z) 0 with q | q
 ·exact q
 ·exfalso
  have a1 := h.flip y z hy hz
  have a2 := h.flip z x hz hx
  have hzx : c z x ≤ 0 := by
   rcases Int.lt_or_le 0 (c z x) with r | r
   ·have := h.flip x z hx hz; omega
   ·exact r
  have := h.trans z x y hz hx hy hzx (by omega)
  omega
theorem cmpS_lt_trans {a b c : Str} (h1 : cmpS a b ≤ 0) (h2 : cmpS b c ≤ 0) (h : cmpS a c = 0) : cmpS a b = 0 ∧ cmpS b c = 0 := by
 have e := cmpS_zero.1 h
 subst e
 rw [cmpS_flip b a] at *
 omega
end Go.HL
end
section
namespace Go.HL
def onceL (l : List Str) : List Str := Lib.compact (sortS l)
/-- The sums of one player. -/
def inner {κ : Type} (c : List ((Str × κ) × Int)) (s : Str) : List (κ × Int) := (c.filter fun e => e.1.1 == s).map fun e => (e.1.2, e.2)
theorem inner_put {κ : Type} [DecidableEq κ] (s : Str) (st : κ) (v : Int) (s' : Str) : ∀ c : List ((Str × κ) × Int), inner (aput (s, st) v c) s' = if s' = s then aput st v (inner c s) else inner c s'
 | [] => by
   by_cases e : s' = s
   ·subst e; simp [inner, aput]
   ·have : ¬ s = s' := fun q => e q.symm
    simp [inner, aput, e, this]
 | p :: r => by
   have ih := inner_put s st v s' r
   obtain ⟨⟨a, b⟩, w⟩ := p
   simp only [aput, Prod.mk.injEq]
   by_cases h1 : s = a
   ·subst h1
    by_cases h2 : st = b
    ·subst h2
     rw [if_pos ⟨rfl, rfl⟩]
     by_cases e : s' = s
     ·subst e; simp [inner, aput]
     ·have : ¬ s = s' := fun q => e q.symm
      simp [inner, e, this]
    ·rw [if_neg (fun q => h2 q.2)]
     by_cases e : s' = s
     ·subst e
      rw [if_pos rfl] at ih ⊢
      simp only [inner, List.filter_cons, beq_self_eq_true, if_true, List.map_cons, aput, if_neg h2] at ih ⊢
      rw [ih]
     ·have : ¬ s = s' := fun q => e q.symm
      rw [if_neg e] at ih ⊢
      simp only [inner, List.filter_cons, beq_iff_eq, if_neg this] at ih ⊢
      exact ih
   ·rw [if_neg (fun q => h1 q.1)]
    by_cases e : s' = s
    ·subst e
     have : ¬ a = s' := fun q => h1 q.symm
     rw [if_pos rfl] at ih ⊢
     simp only [inner, List.filter_cons, beq_iff_eq, if_neg this] at ih ⊢
     exact ih
    ·rw [if_neg e] at ih ⊢
     by_cases h3 : a = s'
     ·simp only [inner, List.filter_cons, beq_iff_eq, if_pos h3, List.map_cons] at ih ⊢
      rw [ih]
     ·simp only [inner, List.filter_cons, beq_iff_eq, if_neg h3] at ih ⊢
      exact ih
end Go.HL
end
section
namespace Go.HL
structure MarketS where
 Teams : List Str
 Vetoes : Int
 Wait : Int
 Deadline : Int
 Least : Int
 Most : Int
structure OwnerS where
 Player : Str
 Team : Str
structure GiveS where
 Player : Str
 From : Str
 To : Str
structure DealS where
 Id : Str
 By : Str
 From : Int
 To : Int
 Gives : List GiveS
structure ReplyS where
 Offer : Str
 Team : Str
 At : Int
 Kind : Int
abbrev eMarket (m : MarketS) : HVal := .agg [eSs m.Teams, .int .i64 m.Vetoes, .int .i64 m.Wait, .int .i64 m.Deadline, .int .i64 m.Least, .int .i64 m.Most]
abbrev eOwner (x : OwnerS) : HVal := .agg [.str x.Player, .str x.Team]
abbrev eOwners (l : List OwnerS) : HVal := .slice 2 (l.map eOwner)
abbrev eGive (x : GiveS) : HVal := .agg [.str x.Player, .str x.From, .str x.To]
abbrev eGives (l : List GiveS) : HVal := .slice 3 (l.map eGive)
abbrev eDeal (x : DealS) : HVal := .agg [.str x.Id, .str x.By, .int .i64 x.From, .int .i64 x.To, eGives x.Gives]
abbrev eDeals (l : List DealS) : HVal := .slice 5 (l.map eDeal)
def owner0 : OwnerS := ⟨[], []⟩
def give0 : GiveS := ⟨[], [], []⟩
def deal0 : DealS := ⟨[], [], 0, 0, []⟩
def reply0 : ReplyS := ⟨[], [], 0, 0⟩
/-! what is wrong -/
def marketE (m : MarketS) : Int :=
 if m.Teams.length = 0 then 8 else if (20 : Int) < m.Teams.length then 2
 else if rising1 m.Teams ≠ 0 then rising1 m.Teams
 else if out m.Vetoes 1 20 || out m.Wait 0 864000000 || out m.Deadline 0 345686400000 || out m.Least 0 m.Most || decide (60 < m.Most) then 1 else 0
structure MarketOk (m : MarketS) : Prop where
 pos : 0 < m.Teams.length
 len : m.Teams.length ≤ 20
 sorted : SortedS m.Teams
 least : 0 ≤ m.Least ∧ m.Least ≤ m.Most
 most : m.Most ≤ 60
theorem marketE_ok {m : MarketS} (h : marketE m = 0) : MarketOk m := by
 unfold marketE at h
 split at h
 ·omega
 split at h
 ·omega
 split at h
 ·rename_i h1 h2 h3; exact absurd h h3
 split at h
 ·omega
 rename_i h1 h2 h3 h4
 simp only [Bool.or_eq_true, not_or, Bool.not_eq_true, decide_eq_true_eq] at h4
 have h5 := out_f h4.1.2
 exact ⟨by omega, by omega, rising1_sorted (by simpa using h3), ⟨h5.1, h5.2⟩, by omega⟩
def byOwn (a b : OwnerS) : Int := cmpS a.Player b.Player
def byGiv (a b : GiveS) : Int := cmpS a.Player b.Player
def byDeal (a b : DealS) : Int := cmpS a.Id b.Id
def byRep (a b : ReplyS) : Int := orI [cmpI a.At b.At, cmpS a.Offer b.Offer, cmpS a.Team b.Team]
theorem byGiv_cmp : Cmp byGiv fun _ => True := cmpS_by GiveS.Player
theorem byDeal_cmp : Cmp byDeal fun _ => True := cmpS_by DealS.Id
def cntO : List OwnerS → Str → Int
 | [], _ => 0
 | x :: r, t => (if x.Team = t then 1 else 0) + cntO r t
def fitsB (m : MarketS) (o : List OwnerS) : Bool := m.Teams.all fun t => !(out (cntO o t) m.Least m.Most)
def ownF (m : MarketS) (x : OwnerS) : Int := if !(key x.Player) then 5 else if !(m.Teams.contains x.Team) then 8 else 0
def ownersC (m : MarketS) (o : List OwnerS) : Int := chkGo (ownF m) byOwn owner0 o 0 o
def ownersR (m : MarketS) (o : List OwnerS) : Int := if 500 < o.length then 2 else if ownersC m o ≠ 0 then ownersC m o else if fitsB m o then 0 else 12
def ownersE (m : MarketS) (o : List OwnerS) : Int := if marketE m ≠ 0 then marketE m else ownersR m o
def givF (m : MarketS) (g : GiveS) : Int := if !(key g.Player) then 5 else if !(m.Teams.contains g.From) || !(m.Teams.contains g.To) then 8 else if g.From = g.To then 16 else 0
def givesE (m : MarketS) (l : List GiveS) : Int := if l.length = 0 then 8 else if 40 < l.length then 2 else chkGo (givF m) byGiv give0 l 0 l
theorem givesE_ok {m : MarketS} {l : List GiveS} (h : givesE m l = 0) : 0 < l.length ∧ l.length ≤ 40 ∧ (∀ x ∈ l, givF m x = 0) ∧ l.Pairwise (fun a b => byGiv a b < 0) := by
 unfold givesE at h
 split at h
 ·omega
 split at h
 ·omega
 ·exact ⟨by omega, by omega, chk_fault l 0 h, chk_strict byGiv_cmp h⟩
def teamsG (l : List GiveS) : List Str := l.flatMap fun g => [g.From, g.To]
theorem teamsG_len (l : List GiveS) : (teamsG l).length = 2 * l.length := by
 induction l with
 | nil => rfl
 | cons g r ih => simp only [teamsG, List.flatMap_cons, List.length_append, List.length_cons, List.length_nil] at ih ⊢; omega
theorem teamsG_take {l : List GiveS} {k : Nat} {g : GiveS} (h : l[k]? = some g) : teamsG (l.take (k + 1)) = teamsG (l.take k) ++ [g.From, g.To] := by
 unfold teamsG; rw [take_snoc' h, List.flatMap_append]; simp
def concL (l : List GiveS) : List Str := onceL (teamsG l)
theorem concL_len (l : List GiveS) : (concL l).length ≤ 2 * l.length := by
 unfold concL onceL
 rw [compact_uniq]
 have := uniqP_le (sortS (teamsG l)) none
 rw [sortS_len, teamsG_len] at this
 exact this
def dealF (m : MarketS) (x : DealS) : Int :=
 if !(key x.Id) then 5 else if !(m.Teams.contains x.By) then 8
 else if out x.To 1 345686400000 || out x.From 0 (x.To - 1) then 1
 else if givesE m x.Gives ≠ 0 then givesE m x.Gives
 else if !((concL x.Gives).contains x.By) then 16 else 0
theorem dealF_ok {m : MarketS} {x : DealS} (h : dealF m x = 0) : givesE m x.Gives = 0 := by
 unfold dealF at h
 split at h
 ·omega
 split at h
 ·omega
 split at h
 ·omega
 exact (or_zero (b := if !((concL x.Gives).contains x.By) then 16 else 0) h).1
theorem window_ref (f t : Int) : (decide (f < 0) || decide (t ≤ f) || decide (345686400000 < t)) = (out t 1 345686400000 || out f 0 (t - 1)) := by
 rw [Bool.eq_iff_iff]; simp [out]; omega
theorem window_t {f t : Int} (h : (f < 0 ∨ t ≤ f) ∨ 345686400000 < t) : (out t 1 345686400000 || out f 0 (t - 1)) = true := by
 rw [← window_ref]; simpa using h
theorem window_f {f t : Int} (h : (0 ≤ f ∧ f < t) ∧ t ≤ 345686400000) : out t 1 345686400000 = false ∧ out f 0 (t - 1) = false := by
 have h1 : (out t 1 345686400000 || out f 0 (t - 1)) = false := by rw [← window_ref]; simpa using h
 simpa using h1
def dealsR (m : MarketS) (l : List DealS) : Int := if 500 < l.length then 2 else chkGo (dealF m) byDeal deal0 l 0 l
def dealsE (m : MarketS) (l : List DealS) : Int := if marketE m ≠ 0 then marketE m else dealsR m l
theorem dealsR_ok {m : MarketS} {l : List DealS} (h : dealsR m l = 0) : l.length ≤ 500 ∧ (∀ x ∈ l, dealF m x = 0) ∧ l.Pairwise (fun a b => byDeal a b < 0) := by
 unfold dealsR at h
 split at h
 ·omega
 ·exact ⟨by omega, chk_fault l 0 h, chk_strict byDeal_cmp h⟩
theorem dealsE_ok {m : MarketS} {l : List DealS} (h : dealsE m l = 0) : marketE m = 0 ∧ dealsR m l = 0 := by
 unfold dealsE at h; exact or_zero h
def repF (m : MarketS) (x : ReplyS) : Int := if !(key x.Offer) then 5 else if !(m.Teams.contains x.Team) then 8 else if !(moment x.At) then 1 else if out x.Kind 1 4 then 4 else 0
def repsR (m : MarketS) (a : List ReplyS) : Int := if 2000 < a.length then 2 else chkGo (repF m) byRep reply0 a 0 a
def repsE (m : MarketS) (a : List ReplyS) : Int := if marketE m ≠ 0 then marketE m else repsR m a
section
variable {α : Type} {f : α → Int} {c : α → α → Int} {d : α} {l r : List α} {k : Nat} {x : α} {e : Int}
theorem chkG_bad (hg : chkGo f c d l 0 l = chkGo f c d l k (x :: r)) (he : e ≠ 0) (hf : f x = e) : chkGo f c d l 0 l = e := by
 rw [hg, chkGo_bad (by rw [hf]; exact he), hf]
theorem chkG_ord (hg : chkGo f c d l 0 l = chkGo f c d l k (x :: r)) (hf : f x = 0) (h0 : 0 < k) (h : c x (l.getD (k - 1) d) ≤ 0) : chkGo f c d l 0 l = 7 := by
 rw [hg, chkGo_ord hf h0 h]
theorem leq_iff {a b : Str} : (Op.bytesLess a b || a == b) = true ↔ cmpS a b ≤ 0 := by rw [leq_cmpS, decide_eq_true_iff]
theorem leq_f {a b : Str} (h : (Op.bytesLess a b || a == b) = false) : ¬ cmpS a b ≤ 0 := by rwa [leq_cmpS, decide_eq_false_iff_not] at h
end
theorem giv_bad {m : MarketS} {l r : List GiveS} {k : Nat} {x : GiveS} {e : Int} (h0 : ¬ l.length = 0) (hl : ¬ 40 < l.length) (hg : chkGo (givF m) byGiv give0 l 0 l = chkGo (givF m) byGiv give0 l k (x :: r)) (he : e ≠ 0) (hf : givF m x = e) : e = givesE m l := by
 rw [givesE, if_neg h0, if_neg hl, chkG_bad hg he hf]
theorem giv_ord {m : MarketS} {l r : List GiveS} {k : Nat} {x : GiveS} (h0 : ¬ l.length = 0) (hl : ¬ 40 < l.length) (hg : chkGo (givF m) byGiv give0 l 0 l = chkGo (givF m) byGiv give0 l k (x :: r)) (hf : givF m x = 0) (hk : 0 < k) (h : (Op.bytesLess x.Player (l.getD (k - 1) give0).Player || x.Player == (l.getD (k - 1) give0).Player) = true) : 7 = givesE m l := by
 rw [givesE, if_neg h0, if_neg hl, chkG_ord hg hf hk (leq_iff.1 h)]
theorem giv_next {m : MarketS} {l r : List GiveS} {k : Nat} {x : GiveS} (hf : givF m x = 0) (h : 0 < k → (Op.bytesLess x.Player (l.getD (k - 1) give0).Player || x.Player == (l.getD (k - 1) give0).Player) = false) : chkGo (givF m) byGiv give0 l k (x :: r) = chkGo (givF m) byGiv give0 l (k + 1) r :=
 chkGo_ne hf fun h0 => leq_f (h h0)
theorem giv_end {m : MarketS} {l : List GiveS} (h0 : ¬ l.length = 0) (hl : ¬ 40 < l.length) (hg : chkGo (givF m) byGiv give0 l 0 l = 0) : 0 = givesE m l := by
 rw [givesE, if_neg h0, if_neg hl, hg]
theorem deal_bad {m : MarketS} {l r : List DealS} {k : Nat} {x : DealS} {e : Int} (hl : ¬ 500 < l.length) (hg : chkGo (dealF m) byDeal deal0 l 0 l = chkGo (dealF m) byDeal deal0 l k (x :: r)) (he : e ≠ 0) (hf : dealF m x = e) : e = dealsR m l := by
 rw [dealsR, if_neg hl, chkG_bad hg he hf]
theorem deal_ord {m : MarketS} {l r : List DealS} {k : Nat} {x : DealS} (hl : ¬ 500 < l.length) (hg : chkGo (dealF m) byDeal deal0 l 0 l = chkGo (dealF m) byDeal deal0 l k (x :: r)) (hf : dealF m x = 0) (hk : 0 < k) (h : (Op.bytesLess x.Id (l.getD (k - 1) deal0).Id || x.Id == (l.getD (k - 1) deal0).Id) = true) : 7 = dealsR m l := by
 rw [dealsR, if_neg hl, chkG_ord hg hf hk (leq_iff.1 h)]
theorem deal_next {m : MarketS} {l r : List DealS} {k : Nat} {x : DealS} (hf : dealF m x = 0) (h : 0 < k → (Op.bytesLess x.Id (l.getD (k - 1) deal0).Id || x.Id == (l.getD (k - 1) deal0).Id) = false) : chkGo (dealF m) byDeal deal0 l k (x :: r) = chkGo (dealF m) byDeal deal0 l (k + 1) r :=
 chkGo_ne hf fun h0 => leq_f (h h0)
theorem deal_big {m : MarketS} {l : List DealS} (h : 500 < l.length) : 2 = dealsR m l := by rw [dealsR, if_pos h]
theorem deal_end {m : MarketS} {l : List DealS} (hl : ¬ 500 < l.length) (hg : chkGo (dealF m) byDeal deal0 l 0 l = 0) : 0 = dealsR m l := by rw [dealsR, if_neg hl, hg]
end Go.HL
end
section
namespace Go.HL
/-! what the next line is -/
theorem lnsL_get {text x : Str} {k : Nat} (h : (lnsL text)[k]? = some x) : (spl 10 text)[k]? = some x := by
 by_cases h0 : text = []
 ·subst h0; simp [lnsL] at h
 ·have hk := lt_of_get h
  cases he : lnsE text with
  | true =>
    obtain ⟨_, h1, _⟩ := lnsL_ends h0 he
    rw [h1, List.getElem?_append_left hk]; exact h
  | false =>
    obtain ⟨_, h1, _⟩ := lnsL_open he
    rw [← h1]; exact h
def offerS : Str := [111, 102, 102, 101, 114]
def givS : Str := [103, 105, 118, 101]
def offW (x : DealS) : List Str := [offerS, x.Id, x.By, Lib.itoa x.From, Lib.itoa x.To]
def givW (g : GiveS) : List Str := [givS, g.Player, g.From, g.To]
def dealW (x : DealS) : List (List Str) := offW x :: x.Gives.map givW
def dlL (l : List DealS) : List Str := (l.flatMap dealW).map (jn 32)
def lnT (l : List Str) : Str := (l.map (· ++ [10])).flatten
def dlT (l : List DealS) : Str := lnT (dlL l)
theorem lnT_app (a b : List Str) : lnT (a ++ b) = lnT a ++ lnT b := by simp [lnT]
theorem dlL_app (a b : List DealS) : dlL (a ++ b) = dlL a ++ dlL b := by simp [dlL]
theorem dlT_snoc (l : List DealS) (x : DealS) : dlT (l ++ [x]) = dlT l ++ (jn 32 (offW x) ++ [10] ++ lnT ((x.Gives.map givW).map (jn 32))) := by
 unfold dlT; rw [dlL_app, lnT_app]; simp [dlL, dealW, lnT]
/-! reading -/
def wordsO (line : Str) : Bool := (spl 32 line).all fun w => !w.isEmpty
def odB (line : Str) : Bool := wordsO line && ((spl 32 line).getD 0 [] == offerS) && ((((spl 32 line).length : Nat) : Int) == 5) && ((spl 32 line).drop 3).all (numB · 15)
def gvB (line : Str) : Bool := wordsO line && ((spl 32 line).getD 0 [] == givS) && ((((spl 32 line).length : Nat) : Int) == 4)
/-- Whether a line is taken, by what the first line of the text is. -/
def okT (s0 s : Str) : Bool := odB s || (gvB s && odB s0)
def odP (line : Str) : DealS := ⟨(spl 32 line).getD 1 [], (spl 32 line).getD 2 [], numR ((spl 32 line).getD 3 []) 15, numR ((spl 32 line).getD 4 []) 15, []⟩
def gvP (line : Str) : GiveS := ⟨(spl 32 line).getD 1 [], (spl 32 line).getD 2 [], (spl 32 line).getD 3 []⟩
def addG (d : DealS) (g : GiveS) : DealS := { d with Gives := d.Gives ++ [g] }
def addLast (ds : List DealS) (g : GiveS) : List DealS := ds.set (ds.length - 1) (addG (ds.getD (ds.length - 1) deal0) g)
def stepD (ds : List DealS) (line : Str) : List DealS := if odB line then ds ++ [odP line] else if gvB line then addLast ds (gvP line) else ds
def rdD (ls : List Str) : List DealS := ls.foldl stepD []
theorem rdD_snoc (ls : List Str) (s : Str) : rdD (ls ++ [s]) = stepD (rdD ls) s := by unfold rdD; rw [List.foldl_append]; rfl
theorem addLast_app (ds : List DealS) (d : DealS) (g : GiveS) : addLast (ds ++ [d]) g = ds ++ [addG d g] := by
 unfold addLast
 have h1 : (ds ++ [d]).length - 1 = ds.length := by simp
 rw [h1]
 have h2 : (ds ++ [d]).getD ds.length deal0 = d := by simp [List.getD]
 rw [h2, List.set_append_right _ _ (Nat.le_refl _)]
 simp
/-! a line is one or the other -/
theorem of_gv {line : Str} (h : odB line = true) : gvB line = false := by
 unfold odB at h
 simp only [Bool.and_eq_true, beq_iff_eq] at h
 unfold gvB
 have : ((spl 32 line).getD 0 [] == givS) = false := by
  rw [h.1.1.2]; rfl
 rw [this]; simp
/-! keys -/
theorem rising_key {l : List Str} : ∀ (r : List Str) (k : Nat), risingGo l k r = 0 → ∀ s ∈ r, key s = true
 | [], _, _, s, hs => by cases hs
 | x :: r, k, h, s, hs => by
   rw [risingGo] at h
   split at h
   ·cases h
   ·rename_i h1
    split at h
    ·cases h
    ·rcases List.mem_cons.1 hs with rfl | hs
     ·simpa using h1
     ·exact rising_key r (k + 1) h s hs
theorem teams_key {m : MarketS} (h : marketE m = 0) : ∀ s ∈ m.Teams, key s = true := by
 unfold marketE at h
 split at h
 ·cases h
 split at h
 ·cases h
 split at h
 ·rename_i h3; exact absurd h h3
 ·rename_i h3
  have h4 : rising1 m.Teams = 0 := by simpa using h3
  exact rising_key _ 0 h4
structure DealK (x : DealS) : Prop where
 id : key x.Id = true
 by' : key x.By = true
 fr : 0 ≤ x.From ∧ x.From ≤ 345686400000
 to : 0 ≤ x.To ∧ x.To ≤ 345686400000
 len : x.Gives.length ≤ 40
 gv : ∀ g ∈ x.Gives, key g.Player = true ∧ key g.From = true ∧ key g.To = true
theorem deal_k {m : MarketS} (hm : marketE m = 0) {x : DealS} (h : dealF m x = 0) : DealK x := by
 have hk := teams_key hm
 obtain ⟨_, hg2, hg3, _⟩ := givesE_ok (dealF_ok h)
 unfold dealF at h
 split at h
 ·cases h
 rename_i h1
 split at h
 ·cases h
 rename_i h2
 split at h
 ·cases h
 rename_i h3
 simp only [Bool.or_eq_true, not_or, Bool.not_eq_true] at h3
 have a1 := out_f h3.1
 have a2 := out_f h3.2
 refine ⟨by simpa using h1, hk _ (by simpa using h2), by omega, by omega, hg2, fun g hg => ?_⟩
 have h4 := hg3 g hg
 unfold givF at h4
 split at h4
 ·cases h4
 rename_i h5
 split at h4
 ·cases h4
 rename_i h6
 simp only [Bool.or_eq_true, not_or] at h6
 exact ⟨by simpa using h5, hk _ (by simpa using h6.1), hk _ (by simpa using h6.2)⟩
theorem deals_k {m : MarketS} {l : List DealS} (h : dealsE m l = 0) : l.length ≤ 500 ∧ ∀ x ∈ l, DealK x := by
 obtain ⟨h1, h2⟩ := dealsE_ok h
 obtain ⟨h3, h4, _⟩ := dealsR_ok h2
 exact ⟨h3, fun x hx => deal_k h1 (h4 x hx)⟩
theorem key_no {s : Str} (hs : key s = true) : s ≠ [] ∧ (32 : UInt8) ∉ s ∧ (10 : UInt8) ∉ s := ⟨key_not_nil hs, fun hm => (keyCh_no (key_ch hs _ hm)).1 rfl, fun hm => (keyCh_no (key_ch hs _ hm)).2 rfl⟩
theorem offW_no {x : DealS} (h : DealK x) : ∀ w ∈ offW x, w ≠ [] ∧ (32 : UInt8) ∉ w ∧ (10 : UInt8) ∉ w := by
 intro w hw
 simp only [offW, List.mem_cons, List.not_mem_nil, or_false] at hw
 rcases hw with rfl | rfl | rfl | rfl | rfl
 ·decide
 ·exact key_no h.id
 ·exact key_no h.by'
 ·exact itoa_no _
 ·exact itoa_no _
theorem givW_no {g : GiveS} (h : key g.Player = true ∧ key g.From = true ∧ key g.To = true) : ∀ w ∈ givW g, w ≠ [] ∧ (32 : UInt8) ∉ w ∧ (10 : UInt8) ∉ w := by
 intro w hw
 simp only [givW, List.mem_cons, List.not_mem_nil, or_false] at hw
 rcases hw with rfl | rfl | rfl | rfl
 ·decide
 ·exact key_no h.1
 ·exact key_no h.2.1
 ·exact key_no h.2.2
theorem all_no {W : List Str} (h : ∀ w ∈ W, w ≠ [] ∧ (32 : UInt8) ∉ w ∧ (10 : UInt8) ∉ w) : W.all (fun w => !w.isEmpty) = true := List.all_eq_true.2 fun w hw => by
 have := (h w hw).1
 cases w with
 | nil => exact absurd rfl this
 | cons _ _ => rfl
theorem of_ln {x : DealS} (h : DealK x) : odB (jn 32 (offW x)) = true ∧ odP (jn 32 (offW x)) = { x with Gives := [] } := by
 have hno := offW_no h
 have hs : spl 32 (jn 32 (offW x)) = offW x := spl_jn (by simp [offW]) fun y hy => (hno y hy).2.1
 obtain ⟨h1, h2⟩ := h.fr
 obtain ⟨h3, h4⟩ := h.to
 obtain ⟨a1, a2⟩ := num_itoaG (n := x.From) (k := 14) (m := 15) (by omega) (by omega)
 obtain ⟨b1, b2⟩ := num_itoaG (n := x.To) (k := 14) (m := 15) (by omega) (by omega)
 unfold odB odP wordsO
 rw [hs, all_no hno]
 simp [offW, a1, a2, b1, b2]
theorem gv_ln {g : GiveS} (h : key g.Player = true ∧ key g.From = true ∧ key g.To = true) : gvB (jn 32 (givW g)) = true ∧ gvP (jn 32 (givW g)) = g ∧ odB (jn 32 (givW g)) = false := by
 have hno := givW_no h
 have hs : spl 32 (jn 32 (givW g)) = givW g := spl_jn (by simp [givW]) fun y hy => (hno y hy).2.1
 have h1 : gvB (jn 32 (givW g)) = true := by
  unfold gvB wordsO
  rw [hs, all_no hno]; simp [givW]
 refine ⟨h1, by unfold gvP; rw [hs]; rfl, ?_⟩
 cases hq : odB (jn 32 (givW g)) with
 | false => rfl
 | true => rw [of_gv hq] at h1; cases h1
theorem fold_gv : ∀ (gs : List GiveS) (acc : List DealS) (d : DealS), (∀ g ∈ gs, key g.Player = true ∧ key g.From = true ∧ key g.To = true) → ((gs.map givW).map (jn 32)).foldl stepD (acc ++ [d]) = acc ++ [{ d with Gives := d.Gives ++ gs }]
 | [], acc, d, _ => by simp
 | g :: gs, acc, d, h => by
   obtain ⟨h1, h2, h3⟩ := gv_ln (h g (by simp))
   have e : stepD (acc ++ [d]) (jn 32 (givW g)) = acc ++ [addG d g] := by
    unfold stepD
    rw [h3, if_neg (by simp), if_pos h1, h2, addLast_app]
   simp only [List.map_cons, List.foldl_cons, e]
   rw [fold_gv gs acc (addG d g) fun x hx => h x (by simp [hx])]
   simp [addG]
theorem fold_dl : ∀ (l acc : List DealS), (∀ x ∈ l, DealK x) → (dlL l).foldl stepD acc = acc ++ l
 | [], acc, _ => by simp [dlL]
 | x :: r, acc, h => by
   have hx := h x (by simp)
   obtain ⟨h1, h2⟩ := of_ln hx
   have e : dlL (x :: r) = jn 32 (offW x) :: ((x.Gives.map givW).map (jn 32) ++ dlL r) := by simp [dlL, dealW]
   have e1 : stepD acc (jn 32 (offW x)) = acc ++ [{ x with Gives := [] }] := by unfold stepD; rw [if_pos h1, h2]
   rw [e, List.foldl_cons, List.foldl_append, e1, fold_gv _ _ _ hx.gv, fold_dl r _ fun y hy => h y (by simp [hy])]
   simp
theorem rd_back {l : List DealS} (h : ∀ x ∈ l, DealK x) : rdD (dlL l) = l := by
 unfold rdD; rw [fold_dl l [] h]; rfl
theorem dlL_ok {l : List DealS} (h : ∀ x ∈ l, DealK x) : ∀ s ∈ dlL l, (10 : UInt8) ∉ s ∧ (odB s = true ∨ gvB s = true) := by
 intro s hs
 unfold dlL at hs
 obtain ⟨W, hW, rfl⟩ := List.mem_map.1 hs
 obtain ⟨x, hx, hW⟩ := List.mem_flatMap.1 hW
 rcases List.mem_cons.1 hW with rfl | hW
 ·exact ⟨jn_no (by decide) fun y hy => (offW_no (h x hx) y hy).2.2, .inl (of_ln (h x hx)).1⟩
 ·obtain ⟨g, hg, rfl⟩ := List.mem_map.1 hW
  exact ⟨jn_no (by decide) fun y hy => (givW_no ((h x hx).gv g hg) y hy).2.2, .inr (gv_ln ((h x hx).gv g hg)).1⟩
theorem spl_lnT : ∀ {l : List Str}, (∀ s ∈ l, (10 : UInt8) ∉ s) → spl 10 (lnT l) = l ++ [[]]
 | [], _ => rfl
 | s :: r, h => by
   have ih := spl_lnT (l := r) fun q hq => h q (by simp [hq])
   have e : lnT (s :: r) = s ++ 10 :: lnT r := by simp [lnT]
   rw [e, spl_app _ (h s (by simp)), ih]; rfl
/-! the whole -/
def dvH (text : Str) : Str := (spl 10 text).headD []
def dvL (text : Str) : List DealS := rdD (lns text)
def dvG (text : Str) : Int × Bool := goL (okT (dvH text)) 0 (spl 10 text)
def dvE (m : MarketS) (text : Str) : Int := if marketE m ≠ 0 then marketE m else if (200000 : Int) < (text.length : Int) then 2 else if (dvG text).2 then dealsE m (dvL text) else 9
def dvI (m : MarketS) (text : Str) : Int := if marketE m ≠ 0 then 0 else if (200000 : Int) < (text.length : Int) then 0 else if (dvG text).2 then 0 else (dvG text).1
def dvP (m : MarketS) (text : Str) : List DealS := if dvE m text = 0 then dvL text else []
def dlE (m : MarketS) (l : List DealS) : Int := if dealsE m l ≠ 0 then dealsE m l else if (200000 : Int) < ((dlT l).length : Int) then 2 else 0
def dlS (m : MarketS) (l : List DealS) : Str := if dlE m l = 0 then dlT l else []
/-- What is written is read as it was. -/
theorem deals_back {m : MarketS} {l : List DealS} (h : dealsE m l = 0) (hl : (dlT l).length ≤ 200000) : dvE m (dlT l) = 0 ∧ dvP m (dlT l) = l := by
 obtain ⟨hm, _⟩ := dealsE_ok h
 obtain ⟨_, hk⟩ := deals_k h
 have ho := dlL_ok hk
 have hs : spl 10 (dlT l) = dlL l ++ [[]] := spl_lnT fun s hs => (ho s hs).1
 have hL : dvL (dlT l) = l := by
  unfold dvL lns; rw [hs, List.dropLast_concat, rd_back hk]
 have hg : dvG (dlT l) = (0, true) := by
  unfold dvG
  rw [hs]
  refine goL_all _ 0 fun s hs' => ?_
  have h0 : odB (dvH (dlT l)) = true := by
   unfold dvH
   rw [hs]
   cases l with
   | nil => simp [dlL] at hs'
   | cons x r => exact (of_ln (hk x (by simp))).1
  unfold okT
  rcases (ho s hs').2 with q | q
  ·rw [q]; rfl
  ·rw [q, h0]; simp
 have hE : dvE m (dlT l) = 0 := by
  unfold dvE
  rw [if_neg (by simp [hm]), if_neg (by omega), hg, if_pos rfl, hL, h]
 exact ⟨hE, by unfold dvP; rw [if_pos hE, hL]⟩
theorem of_line {line : Str} (h : odB line = true) : jn 32 (offW (odP line)) = line := by
 unfold odB at h
 simp only [Bool.and_eq_true, beq_iff_eq] at h
 obtain ⟨⟨⟨_, h0⟩, h5⟩, hn⟩ := h
 have fn : ∀ w, numB w 15 = true → Lib.itoa (numR w 15) = w := fun w n1 => by
  rw [((num_int _ _).2 n1).2]; exact (numB_canon n1).2.2
 have hW : offW (odP line) = spl 32 line := by
  unfold offW odP
  rw [← h0]
  generalize spl 32 line = ws at *
  match ws, h5, hn with
  | [w0, w1, w2, w3, w4], _, hn =>
    simp at hn
    simp [fn _ hn.1, fn _ hn.2]
  | [], h5, _ => simp at h5
  | [_], h5, _ => simp at h5
  | [_, _], h5, _ => simp at h5
  | [_, _, _], h5, _ => simp at h5
  | [_, _, _, _], h5, _ => simp at h5
  | _ :: _ :: _ :: _ :: _ :: _ :: r, h5, _ => simp at h5; omega
 rw [hW, jn_spl]
theorem gv_line {line : Str} (h : gvB line = true) : jn 32 (givW (gvP line)) = line := by
 unfold gvB at h
 simp only [Bool.and_eq_true, beq_iff_eq] at h
 obtain ⟨⟨_, h0⟩, h4⟩ := h
 have hW : givW (gvP line) = spl 32 line := by
  unfold givW gvP
  rw [← h0]
  generalize spl 32 line = ws at *
  match ws, h4 with
  | [w0, w1, w2, w3], _ => simp
  | [], h4 => simp at h4
  | [_], h4 => simp at h4
  | [_, _], h4 => simp at h4
  | [_, _, _], h4 => simp at h4
  | _ :: _ :: _ :: _ :: _ :: r, h4 => simp at h4; omega
 rw [hW, jn_spl]
theorem fold_again : ∀ (ls : List Str) (acc : List DealS), (∀ s ∈ ls, odB s = true ∨ gvB s = true) → (acc ≠ [] ∨ ∀ s, ls.head? = some s → odB s = true) → dlL (ls.foldl stepD acc) = dlL acc ++ ls
 | [], acc, _, _ => by simp
 | s :: r, acc, h, hh => by
   rw [List.foldl_cons]
   have hr := fun x hx => h x (List.mem_cons_of_mem s hx)
   cases hs : odB s with
   | true =>
     have e : stepD acc s = acc ++ [odP s] := by unfold stepD; rw [if_pos hs]
     rw [e, fold_again r _ hr (.inl (by simp)), dlL_app]
     have e2 : dlL [odP s] = [s] := by
      have : (odP s).Gives = [] := rfl
      simp [dlL, dealW, this, of_line hs]
     rw [e2]; simp
   | false =>
     have hg : gvB s = true := (h s (by simp)).resolve_left (by simp [hs])
     have hne : acc ≠ [] := hh.resolve_right fun q => by rw [q s rfl] at hs; cases hs
     rcases List.eq_nil_or_concat acc with q | ⟨a, d, q⟩
     ·exact absurd q hne
     ·rw [List.concat_eq_append] at q
      subst q
      have e : stepD (a ++ [d]) s = a ++ [addG d (gvP s)] := by unfold stepD; rw [hs, if_neg (by simp), if_pos hg, addLast_app]
      rw [e, fold_again r _ hr (.inl (by simp)), dlL_app, dlL_app]
      have e2 : dlL [addG d (gvP s)] = dlL [d] ++ [s] := by
       have e3 : offW (addG d (gvP s)) = offW d := rfl
       have e4 : (addG d (gvP s)).Gives = d.Gives ++ [gvP s] := rfl
       simp [dlL, dealW, e3, e4, gv_line hg]
      rw [e2]; simp
/-- What is read is written so. -/
theorem deals_again {m : MarketS} {text : Str} (h : dvE m text = 0) : dvP m text = dvL text ∧ dealsE m (dvL text) = 0 ∧ dlT (dvL text) = text ∧ text.length ≤ 200000 := by
 have hp : dvP m text = dvL text := by unfold dvP; rw [if_pos h]
 unfold dvE at h
 split at h
 ·rename_i hm; exact absurd h hm
 ·split at h
  ·cases h
  ·rename_i hlen
   split at h
   ·rename_i hb
    refine ⟨hp, h, ?_, by omega⟩
    obtain ⟨_, h2, h3⟩ := goL_of (spl 10 text) 0 (spl_ne 10 text) hb
    have hs : spl 10 text = lns text ++ [[]] := by
     unfold lns
     obtain ⟨r, hr⟩ := List.getLast?_eq_some_iff.1 h3
     rw [hr, List.dropLast_concat]
    have h4 : jn 10 (spl 10 text) = text := jn_spl 10 text
    rw [hs, jn_lines] at h4
    have hok : ∀ s ∈ lns text, odB s = true ∨ gvB s = true := fun s hs' => by
     have := h2 s hs'
     unfold okT at this
     rw [Bool.or_eq_true, Bool.and_eq_true] at this
     rcases this with q | q
     ·exact .inl q
     ·exact .inr q.1
    have hhd : ∀ s, (lns text).head? = some s → odB s = true := fun s hs' => by
     have e : dvH text = s := by
      unfold dvH
      rw [hs]
      cases hl : lns text with
      | nil => rw [hl] at hs'; cases hs'
      | cons a b => rw [hl] at hs'; simp at hs'; simp [hs']
     have hm : s ∈ lns text := List.mem_of_mem_head? hs'
     have := h2 s hm
     unfold okT at this
     rw [e, Bool.or_eq_true, Bool.and_eq_true] at this
     rcases this with q | q
     ·exact q
     ·exact q.2
    unfold dlT dvL rdD
    rw [fold_again _ [] hok (.inr hhd)]
    exact h4
   ·cases h
end Go.HL
end
section
namespace Go.Proofs.YtdjpppifnmjhoaaGreatDoor
open Go.HL
set_option maxRecDepth 100000
set_option linter.unusedVariables false
set_option linter.unusedSimpArgs false
/-- benchwarmer/base.Each -/
theorem c_base_Each_p [Tracks] {σ : Type} {S : σ → List MObj} {Inv : List Str → σ → Prop} {ok : Str → Bool} {fid : FuncId} {caps : List HVal} {st0 : σ} {text : Str}  (hca : Callable Tryz.prog fid) (hp : ∀ (done : List Str) (s : Str) (st : σ), done.length ≤ 1000000 → s.length ≤ 1000000 → (spl 10 text)[done.length]? = some s → Inv done st → Con Tryz.prog fid ([.str s] ++ caps) (S st) fun x M' => ∃ st', x = .bool (ok s) ∧ M' = S st' ∧ (ok s = true → Inv (done ++ [s]) st')) (h0 : Inv [] st0) (ht : text.length ≤ 1000000) : Con Tryz.prog 52 [.str text, .fn (.func fid) [] caps] (S st0) (fun x M' => ∃ st', x = .tup [.int .i64 (goL ok 0 (spl 10 text)).1, .bool (goL ok 0 (spl 10 text)).2] ∧ M' = S st' ∧ ((goL ok 0 (spl 10 text)).2 = true → Inv (lns text) st')) := by
 have hll := lnsL_many text
 refine Con.of_body Tryz.func52 rfl Tryz.ntmps52 rfl rfl ?_
 refine hw_reg ?_
 refine dp rfl (pop_assign rfl) ?_
 refine dp rfl (pop_assign rfl) ?_
 refine dn ?_
 refine hw_reg ?_
 refine dp rfl (pop_move rfl) ?_
 refine dp rfl (pop_call ca98 rfl (WeakL.refl _) (c_base_Lines (by first | assumption | omega | (simp; omega) | simp_all))) ?_
 refine dp rfl (pop_move rfl) ?_
 refine dp rfl (pop_extract rfl rfl) ?_
 refine dp rfl (pop_extract rfl rfl) ?_
 refine dp rfl (pop_assign rfl) ?_
 refine dp rfl (pop_assign rfl) ?_
 refine dn ?_
 refine hw_seq ?_
 refine hw_reg ?_
 refine dp rfl (pop_move rfl) ?_
 refine dp rfl (pop_lenm ty26 rfl) ?_
 refine dp rfl (pop_move rfl) ?_
 refine dn ?_
 refine hw_block ?_
 refine hw_loopw2 [4, 5, 8, 9, 17, 18, 19, 20, 21, 22, 23, 24, 25, 26, 27, 28, 29, 30, 31, 32, 33, 34, 35, 36, 37, 38] (fun (k : Nat) (st : σ) => [(17, .int .i64 k)]) (fun (k : Nat) (st : σ) => (S st)) (fun (k : Nat) (st : σ) => k ≤ (lnsL text).length ∧ (Inv ((lnsL text).take k) st ∧ goL ok 0 (spl 10 text) = eachP ok (lnsE text) (lnsL text).length k ((lnsL text).drop k))) (fun (k : Nat) (st : σ) => (lnsL text).length - k) (0) (st0) ?_ ?_ ?_ ?_
 ·exact ⟨Nat.zero_le _, h0, (eachP_goL ok text).symm⟩
 ·exact ⟨rfl, trivial⟩
 ·exact perm_eq rfl
 ·intro k st hinv
  obtain ⟨hk, ⟨hq, hg⟩⟩ := hinv
  refine hw_reg ?_
  refine dp rfl (pop_lss rfl rfl) ?_
  refine dn ?_
  refine hw_seq ?_
  refine hw_cond rfl (fun h1 => ?_) (fun h2 => ?_)
  ·try simp at h1
   obtain ⟨x, hx⟩ : ∃ x, (lnsL text)[k]? = some x := ⟨_, List.getElem?_eq_getElem h1⟩
   have hdx := drop_cons hx
   rw [hdx, eachP_cons] at hg
   refine hw_skip ?_
   refine seqQ_n ?_
   refine hw_seq ?_
   refine hw_block ?_
   refine hw_reg ?_
   refine dp rfl (pop_move rfl) ?_
   refine dp rfl (pop_idx ty26 ty9 rfl rfl rfl (by first | assumption | simp_all)) ?_
   refine dp rfl (pop_load ty9 rfl rfl rfl) ?_
   refine dp rfl (pop_assign rfl) ?_
   refine dp rfl (pop_assign rfl) ?_
   refine dn ?_
   refine hw_reg ?_
   refine dp rfl (pop_move rfl) ?_
   refine dp rfl (pop_not rfl) ?_
   refine dp rfl (pop_move rfl) ?_
   refine dg rfl rfl (fun hc => ⟨_, OpenTo.refl _, pop_move rfl⟩) ?_
   refine dg rfl rfl (fun hc => ⟨_, OpenTo.refl _, pop_move rfl⟩) ?_
   refine dg rfl rfl (fun hc => ⟨_, OpenTo.upd (t := 26) rfl (by first | exact hc | simp_all) (OpenTo.refl _), pop_lenm ty26 rfl⟩) ?_
   refine dg rfl rfl (fun hc => by have hq := hc; (try simp at hq); exact ⟨_, OpenTo.upd (t := 27) rfl (by first | exact hc | simp_all) (OpenTo.refl _), pop_sub64 rfl rfl (by omega) (by omega)⟩) ?_
   refine dg rfl rfl (fun hc => ⟨_, OpenTo.upd (t := 28) rfl (by first | exact hc | simp_all) (OpenTo.upd (t := 25) rfl (by first | exact hc | simp_all) (OpenTo.refl _)), pop_eql rfl rfl⟩) ?_
   refine dp rfl (pop_picko rfl (.inr ⟨_, rfl, fun h => by simp_all⟩) (.inl rfl)) ?_
   refine dp rfl (pop_move rfl) ?_
   refine dg rfl rfl (fun hc => ⟨_, OpenTo.refl _, pop_move rfl⟩) ?_
   refine dg rfl rfl (fun hc => ⟨_, OpenTo.refl _, pop_move rfl⟩) ?_
   refine dgx (fun xq M' => ∃ st', xq = .bool (ok x) ∧ M' = S st' ∧ ((!(lnsE text) && decide ((k : Int) = ((lnsL text).length : Int) - 1)) = false → ok x = true → Inv ((lnsL text).take k ++ [x]) st')) rfl rfl (fun hc => ⟨_, st, rfl, rfl, fun h => (by simp_all)⟩) (fun hc => ⟨_, OpenTo.upd (t := 33) rfl (by first | exact hc | simp_all) (OpenTo.upd (t := 32) rfl (by first | exact hc | simp_all) (OpenTo.refl _)), EOp.mono (fun _ _ ⟨st', h1, h2, h3⟩ => ⟨st', h1, h2, fun _ => h3⟩) (eop_callv hca rfl rfl (WeakL.refl _) (hp ((lnsL text).take k) x st (by rw [List.length_take]; omega) (Nat.le_trans (lnsL_len x (List.mem_of_getElem? hx)) ht) (by rw [List.length_take, Nat.min_eq_left hk]; exact lnsL_get hx) hq))⟩) ?_
   rintro _ _ ⟨st2, rfl, rfl, hst2⟩
   refine dg rfl rfl (fun hc => ⟨_, OpenTo.upd (t := 34) rfl (by first | exact hc | simp_all) (OpenTo.refl _), pop_not rfl⟩) ?_
   refine dp rfl (pop_picko rfl (.inl rfl) (.inr ⟨_, rfl, fun h => by simp_all⟩)) ?_
   refine dn ?_
   refine hw_cond rfl (fun h3 => ?_) (fun h4 => ?_)
   ·try simp at h3
    refine hw_reg ?_
    refine dp rfl (pop_move rfl) ?_
    refine dp rfl (pop_assign rfl) ?_
    refine dp rfl (pop_assign rfl) ?_
    refine dn ?_
    refine hw_ret ?_
    first
    | (have hgf : goL ok 0 (spl 10 text) = ((k : Int), false) := hg.trans (if_pos (by simp; simpa using h3))
       exact ret_q rfl ⟨st2, by rw [hgf]; rfl, rfl, fun h => by rw [hgf] at h; cases h⟩)
    | (refine ret_q rfl ⟨st, ?_, rfl, fun h => ?_⟩
       ·rw [hg]; rfl
       ·rw [eachP_true h]; exact hq)
   ·try simp at h4
    refine hw_skip ?_
    refine blockQ_n ?_
    refine seqQ_n ?_
    refine hw_reg1 ?_
    refine dp rfl (pop_add64 rfl rfl (by omega) (by omega)) ?_
    refine dp rfl (pop_move rfl) ?_
    refine dn ?_
    exact ⟨k + 1, st2, ⟨by omega, (by simp_all [take_snoc' hx]), (by simp_all)⟩, by dsimp only; omega, ⟨rfl, trivial⟩, (by repeat (first | exact keeps_refl | refine keeps_upd rfl ?_ | refine keeps_loop rfl rfl ?_)), perm_eq rfl⟩
  ·try simp at h2
   have hnk : (lnsL text).length ≤ k := by omega
   obtain rfl : k = (lnsL text).length := by omega
   rw [drop_all (Nat.le_refl _)] at hg
   rw [List.take_length] at hq
   refine hw_exit ?_
   refine seqQ_x ?_
   refine loopQ2_x ?_
   refine blockQ_eq ?_
   refine seqQ_n ?_
   refine hw_reg ?_
   refine dp rfl (pop_assign rfl) ?_
   refine dp rfl (pop_assign rfl) ?_
   refine dn ?_
   refine hw_ret ?_
   first
   | (have hgf : goL ok 0 (spl 10 text) = ((k : Int), false) := hg.trans (if_pos (by simp; simpa using h3))
      exact ret_q rfl ⟨st2, by rw [hgf]; rfl, rfl, fun h => by rw [hgf] at h; cases h⟩)
   | (refine ret_q rfl ⟨st, ?_, rfl, fun h => ?_⟩
      ·rw [hg]; rfl
      ·rw [eachP_true h]; exact hq)

end Go.Proofs.YtdjpppifnmjhoaaGreatDoor
end
section
namespace Go.HL
structure GoodM (m : MarketS) : Prop where
 pos : 0 < m.Teams.length
 len : m.Teams.length ≤ 5
 sh : ∀ s ∈ m.Teams, s.length ≤ 10
def team4 : List Str := [[116, 97], [116, 98], [116, 99], [116, 100]]
theorem team4_len : ∀ s ∈ team4, s.length ≤ 10 := by decide
def GoodOw1 (x : OwnerS) : Prop := Sh x.Player ∧ Sh x.Team
structure GoodOw (l : List OwnerS) : Prop where
 len : l.length ≤ 13
 all : ∀ x ∈ l, Sh x.Player ∧ Sh x.Team
structure GoodDl1 (x : DealS) : Prop where
 id : Sh x.Id
 len : x.Gives.length ≤ 3
 all : ∀ g ∈ x.Gives, Sh g.Player
structure GoodDl (l : List DealS) : Prop where
 len : l.length ≤ 5
 all : ∀ x ∈ l, GoodDl1 x
theorem sh_of {s : Str} {n : Nat} (h : s.length ≤ n) (hn : n ≤ 1000000) : Sh s := by unfold Sh; omega
/-- What is left of a list, some of it gone. -/
structure LeftOf {α : Type} (l k : List α) : Prop where
 len : k.length ≤ l.length
 sub : ∀ x ∈ k, x ∈ l
theorem LeftOf.take {α : Type} {l D : List α} (n : Nat) (hl : D.length = l.length) (h : ∀ x ∈ D, x ∈ l) : LeftOf l (D.take n) :=
 ⟨by rw [List.length_take]; omega, fun x hx => h x (List.mem_of_mem_take hx)⟩
theorem LeftOf.refl {α : Type} (l : List α) : LeftOf l l := ⟨Nat.le_refl _, fun _ h => h⟩
end Go.HL
end
section
namespace Go.Proofs.YtdjpppifnmjhoaaGreatDoor
open Go.HL
set_option maxRecDepth 100000
set_option linter.unusedVariables false
set_option linter.unusedSimpArgs false
/-- benchwarmer/trade.isTeam -/
theorem c_trade_isTeam [Tracks] {m : MarketS} {t : Str} (hm : MarketOk m) : ConP Tryz.prog 107 [.vptr (hcells (eMarket m)) 0, .str t] (.bool (m.Teams.contains t)) := by
 refine Con.of_body Tryz.func107 rfl Tryz.ntmps107 rfl rfl ?_
 refine hw_reg ?_
 refine dp rfl (pop_assign rfl) ?_
 refine dn ?_
 refine hw_reg ?_
 refine dp rfl (pop_move rfl) ?_
 refine dp rfl ((by first | exact pop_nilCheck rfl | exact pop_nilCheck_raw rfl)) ?_
 refine dp rfl (pop_fieldAddr ty28 rfl ty26 (by decide) rfl) ?_
 refine dp rfl (pop_load ty26 rfl rfl rfl) ?_
 refine dp rfl (pop_move rfl) ?_
 refine dp rfl (pop_call ca160 rfl (WeakL.refl _) (c_slices_BinarySearch_string_string (l := m.Teams) (s := t) (by have := hm.len; omega) hm.sorted)) ?_
 refine dp rfl (pop_move rfl) ?_
 refine dp rfl (pop_extract rfl rfl) ?_
 refine dp rfl (pop_extract rfl rfl) ?_
 refine dp rfl (pop_assign rfl) ?_
 refine dp rfl (pop_assign rfl) ?_
 refine dn ?_
 refine hw_reg ?_
 refine dp rfl (pop_move rfl) ?_
 refine dp rfl (pop_assign rfl) ?_
 refine dn ?_
 refine hw_ret ?_
 refine ret_p rfl ?_
 rfl

/-- benchwarmer/trade.CheckMarket -/
theorem c_trade_CheckMarket [Tracks] {m : MarketS} (ht : m.Teams.length ≤ 1000000) : ConP Tryz.prog 51 [eMarket m] (.int .i64 (marketE m)) := by
 refine Con.of_body Tryz.func51 rfl Tryz.ntmps51 rfl rfl ?_
 refine hw_reg ?_
 refine dp rfl (pop_box rfl rfl) ?_
 refine dp rfl (pop_assign rfl) ?_
 refine dn ?_
 refine hw_seq ?_
 refine hw_block ?_
 refine hw_reg ?_
 refine dp rfl (pop_fieldAddr ty28 rfl ty26 (by decide) rfl) ?_
 refine dp rfl (pop_load ty26 rfl rfl rfl) ?_
 refine dp rfl (pop_lenm ty26 rfl) ?_
 refine dp rfl (pop_eql rfl rfl) ?_
 refine dp rfl (pop_assign rfl) ?_
 refine dn ?_
 refine hw_cond rfl (fun h1 => ?_) (fun h2 => ?_)
 ·try simp at h1
  refine hw_reg ?_
  refine dp rfl (pop_assign rfl) ?_
  refine dn ?_
  refine hw_ret ?_
  refine ret_p rfl ?_
  show HVal.int .i64 _ = _
  first
  | (rw [marketE, if_pos (by simpa using h1)]; done)
  | (rw [marketE, if_neg (by simpa using h2), if_pos (by omega)]; done)
  | (rw [marketE, if_neg (by simpa using h2), if_neg (by omega)]; simp_all; done)
 ·try simp at h2
  refine hw_reg ?_
  refine dp rfl (pop_fieldAddr ty28 rfl ty26 (by decide) rfl) ?_
  refine dp rfl (pop_load ty26 rfl rfl rfl) ?_
  refine dp rfl (pop_lenm ty26 rfl) ?_
  refine dp rfl (pop_gtr rfl rfl) ?_
  refine dp rfl (pop_assign rfl) ?_
  refine dn ?_
  refine hw_cond rfl (fun h3 => ?_) (fun h4 => ?_)
  ·try simp at h3
   refine hw_reg ?_
   refine dp rfl (pop_assign rfl) ?_
   refine dn ?_
   refine hw_ret ?_
   refine ret_p rfl ?_
   show HVal.int .i64 _ = _
   first
   | (rw [marketE, if_pos (by simpa using h1)]; done)
   | (rw [marketE, if_neg (by simpa using h2), if_pos (by omega)]; done)
   | (rw [marketE, if_neg (by simpa using h2), if_neg (by omega)]; simp_all; done)
  ·try simp at h4
   refine hw_skip ?_
   refine blockQ_n ?_
   refine seqQ_n ?_
   refine hw_seq ?_
   refine hw_reg ?_
   refine dp rfl (pop_fieldAddr ty28 rfl ty26 (by decide) rfl) ?_
   refine dp rfl (pop_load ty26 rfl rfl rfl) ?_
   refine dp rfl (pop_call ca96 rfl (WeakL.refl _) (c_base_Rising (by first | assumption | omega | (simp; omega) | simp_all))) ?_
   refine dp rfl (pop_assign rfl) ?_
   refine dn ?_
   refine hw_reg ?_
   refine dp rfl (pop_move rfl) ?_
   refine dp rfl (pop_neq rfl rfl) ?_
   refine dn ?_
   refine hw_cond rfl (fun h5 => ?_) (fun h6 => ?_)
   ·try simp at h5
    refine hw_reg ?_
    refine dp rfl (pop_move rfl) ?_
    refine dp rfl (pop_assign rfl) ?_
    refine dn ?_
    refine hw_ret ?_
    refine ret_p rfl ?_
    show HVal.int .i64 _ = _
    first
    | (rw [marketE, if_pos (by simpa using h1)]; done)
    | (rw [marketE, if_neg (by simpa using h2), if_pos (by omega)]; done)
    | (rw [marketE, if_neg (by simpa using h2), if_neg (by omega)]; simp_all; done)
   ·try simp at h6
    refine hw_skip ?_
    refine seqQ_n ?_
    refine hw_seq ?_
    refine hw_reg ?_
    refine dp rfl (pop_fieldAddr ty28 rfl ty3 (by decide) rfl) ?_
    refine dp rfl (pop_load ty3 rfl rfl rfl) ?_
    refine dp rfl (pop_call ca97 rfl (WeakL.refl _) c_base_Out) ?_
    refine dp rfl (pop_move rfl) ?_
    refine dg rfl rfl (fun hc => ⟨_, OpenTo.refl _, pop_fieldAddr ty28 rfl ty3 (by decide) rfl⟩) ?_
    refine dg rfl rfl (fun hc => ⟨_, OpenTo.upd (t := 24) rfl (by first | exact hc | simp_all) (OpenTo.refl _), pop_load ty3 rfl rfl rfl⟩) ?_
    refine dg rfl rfl (fun hc => ⟨_, OpenTo.upd (t := 25) rfl (by first | exact hc | simp_all) (OpenTo.refl _), pop_call ca97 rfl (WeakL.refl _) c_base_Out⟩) ?_
    refine dp rfl (pop_picko rfl (.inl rfl) (.inr ⟨_, rfl, fun h => by simp_all⟩)) ?_
    refine dp rfl (pop_move rfl) ?_
    refine dg rfl rfl (fun hc => ⟨_, OpenTo.refl _, pop_fieldAddr ty28 rfl ty3 (by decide) rfl⟩) ?_
    refine dg rfl rfl (fun hc => ⟨_, OpenTo.upd (t := 29) rfl (by first | exact hc | simp_all) (OpenTo.refl _), pop_load ty3 rfl rfl rfl⟩) ?_
    refine dg rfl rfl (fun hc => ⟨_, OpenTo.upd (t := 30) rfl (by first | exact hc | simp_all) (OpenTo.refl _), pop_call ca97 rfl (WeakL.refl _) c_base_Out⟩) ?_
    refine dp rfl (pop_picko rfl (.inl rfl) (.inr ⟨_, rfl, fun h => by simp_all⟩)) ?_
    refine dp rfl (pop_move rfl) ?_
    refine dg rfl rfl (fun hc => ⟨_, OpenTo.refl _, pop_fieldAddr ty28 rfl ty3 (by decide) rfl⟩) ?_
    refine dg rfl rfl (fun hc => ⟨_, OpenTo.upd (t := 34) rfl (by first | exact hc | simp_all) (OpenTo.refl _), pop_load ty3 rfl rfl rfl⟩) ?_
    refine dg rfl rfl (fun hc => ⟨_, OpenTo.refl _, pop_fieldAddr ty28 rfl ty3 (by decide) rfl⟩) ?_
    refine dg rfl rfl (fun hc => ⟨_, OpenTo.upd (t := 36) rfl (by first | exact hc | simp_all) (OpenTo.refl _), pop_load ty3 rfl rfl rfl⟩) ?_
    refine dg rfl rfl (fun hc => ⟨_, OpenTo.upd (t := 37) rfl (by first | exact hc | simp_all) (OpenTo.upd (t := 35) rfl (by first | exact hc | simp_all) (OpenTo.refl _)), pop_call ca97 rfl (WeakL.refl _) c_base_Out⟩) ?_
    refine dp rfl (pop_picko rfl (.inl rfl) (.inr ⟨_, rfl, fun h => by simp_all⟩)) ?_
    refine dp rfl (pop_move rfl) ?_
    refine dg rfl rfl (fun hc => ⟨_, OpenTo.refl _, pop_fieldAddr ty28 rfl ty3 (by decide) rfl⟩) ?_
    refine dg rfl rfl (fun hc => ⟨_, OpenTo.upd (t := 41) rfl (by first | exact hc | simp_all) (OpenTo.refl _), pop_load ty3 rfl rfl rfl⟩) ?_
    refine dg rfl rfl (fun hc => ⟨_, OpenTo.upd (t := 42) rfl (by first | exact hc | simp_all) (OpenTo.refl _), pop_gtr rfl rfl⟩) ?_
    refine dp rfl (pop_picko rfl (.inl rfl) (.inr ⟨_, rfl, fun h => by simp_all⟩)) ?_
    refine dn ?_
    refine hw_cond rfl (fun h7 => ?_) (fun h8 => ?_)
    ·try simp at h7
     refine hw_reg ?_
     refine dp rfl (pop_assign rfl) ?_
     refine dn ?_
     refine hw_ret ?_
     refine ret_p rfl ?_
     show HVal.int .i64 _ = _
     first
     | (rw [marketE, if_pos (by simpa using h1)]; done)
     | (rw [marketE, if_neg (by simpa using h2), if_pos (by omega)]; done)
     | (rw [marketE, if_neg (by simpa using h2), if_neg (by omega)]; simp_all; done)
    ·try simp at h8
     refine hw_skip ?_
     refine seqQ_n ?_
     refine hw_reg ?_
     refine dp rfl (pop_assign rfl) ?_
     refine dn ?_
     refine hw_ret ?_
     refine ret_p rfl ?_
     show HVal.int .i64 _ = _
     first
     | (rw [marketE, if_pos (by simpa using h1)]; done)
     | (rw [marketE, if_neg (by simpa using h2), if_pos (by omega)]; done)
     | (rw [marketE, if_neg (by simpa using h2), if_neg (by omega)]; simp_all; done)

/-- benchwarmer/trade.givesFault -/
theorem c_trade_givesFault [Tracks] {m : MarketS} {l : List GiveS} (hm : MarketOk m) (hl : l.length ≤ 1000000) : ConP Tryz.prog 152 [.vptr (hcells (eMarket m)) 0, eGives l] (.int .i64 (givesE m l)) := by
 refine Con.of_body Tryz.func152 rfl Tryz.ntmps152 rfl rfl ?_
 refine hw_reg ?_
 refine dp rfl (pop_assign rfl) ?_
 refine dn ?_
 refine hw_seq ?_
 refine hw_block ?_
 refine hw_reg ?_
 refine dp rfl (pop_move rfl) ?_
 refine dp rfl (pop_lenm ty45 rfl) ?_
 refine dp rfl (pop_eql rfl rfl) ?_
 refine dp rfl (pop_assign rfl) ?_
 refine dn ?_
 refine hw_cond rfl (fun h1 => ?_) (fun h2 => ?_)
 ·try simp at h1
  refine hw_reg ?_
  refine dp rfl (pop_assign rfl) ?_
  refine dn ?_
  refine hw_ret ?_
  refine ret_p rfl ?_
  show HVal.int .i64 _ = _
  first
  | (rw [givesE, if_pos (by simpa using h1)]; done)
  | (rw [givesE, if_neg (by simpa using h2), if_pos (by omega)]; done)
  | (exact congrArg _ (giv_end (by simpa using h2) (by omega) hg))
  | (refine congrArg _ (giv_bad (e := 5) (by simpa using h2) (by omega) hg (by decide) ?_)
     rw [givF, if_pos]
     simp_all
     done)
  | (refine congrArg _ (giv_bad (e := 8) (by simpa using h2) (by omega) hg (by decide) ?_)
     rw [givF, if_neg, if_pos]
     all_goals simp_all
     done)
  | (refine congrArg _ (giv_bad (e := 16) (by simpa using h2) (by omega) hg (by decide) ?_)
     rw [givF, if_neg, if_neg, if_pos]
     all_goals simp_all
     done)
  | (refine congrArg _ (giv_ord (by simpa using h2) (by omega) hg ?_ ?_ ?_)
     ·rw [givF, if_neg, if_neg, if_neg] <;> simp_all
     ·simp_all
     ·simp_all)
 ·try simp at h2
  refine hw_reg ?_
  refine dp rfl (pop_move rfl) ?_
  refine dp rfl (pop_lenm ty45 rfl) ?_
  refine dp rfl (pop_gtr rfl rfl) ?_
  refine dp rfl (pop_assign rfl) ?_
  refine dn ?_
  refine hw_cond rfl (fun h3 => ?_) (fun h4 => ?_)
  ·try simp at h3
   refine hw_reg ?_
   refine dp rfl (pop_assign rfl) ?_
   refine dn ?_
   refine hw_ret ?_
   refine ret_p rfl ?_
   show HVal.int .i64 _ = _
   first
   | (rw [givesE, if_pos (by simpa using h1)]; done)
   | (rw [givesE, if_neg (by simpa using h2), if_pos (by omega)]; done)
   | (exact congrArg _ (giv_end (by simpa using h2) (by omega) hg))
   | (refine congrArg _ (giv_bad (e := 5) (by simpa using h2) (by omega) hg (by decide) ?_)
      rw [givF, if_pos]
      simp_all
      done)
   | (refine congrArg _ (giv_bad (e := 8) (by simpa using h2) (by omega) hg (by decide) ?_)
      rw [givF, if_neg, if_pos]
      all_goals simp_all
      done)
   | (refine congrArg _ (giv_bad (e := 16) (by simpa using h2) (by omega) hg (by decide) ?_)
      rw [givF, if_neg, if_neg, if_pos]
      all_goals simp_all
      done)
   | (refine congrArg _ (giv_ord (by simpa using h2) (by omega) hg ?_ ?_ ?_)
      ·rw [givF, if_neg, if_neg, if_neg] <;> simp_all
      ·simp_all
      ·simp_all)
  ·try simp at h4
   refine hw_skip ?_
   refine blockQ_n ?_
   refine seqQ_n ?_
   refine hw_seq ?_
   refine hw_reg ?_
   refine dp rfl (pop_move rfl) ?_
   refine dp rfl (pop_lenm ty45 rfl) ?_
   refine dp rfl (pop_move rfl) ?_
   refine dn ?_
   refine hw_block ?_
   refine hw_loopw [4, 5, 6, 17, 18, 19, 20, 21, 22, 23, 24, 25, 26, 27, 28, 29, 30, 31, 32, 33, 34, 35, 36, 37, 38, 39, 40, 41, 42, 43, 44, 45, 46, 47, 48, 49, 50, 51, 52, 53, 54, 55, 56, 57, 58, 59, 60] (fun (k : Nat) => [(17, .int .i64 k)]) (fun (k : Nat) => []) (fun (k : Nat) => k ≤ l.length ∧ (chkGo (givF m) byGiv give0 l 0 l = chkGo (givF m) byGiv give0 l k (l.drop k))) (fun (k : Nat) => l.length - k) (0) ?_ ?_ ?_ ?_
   ·exact ⟨Nat.zero_le _, rfl⟩
   ·exact ⟨rfl, trivial⟩
   ·exact List.Perm.refl _
   ·intro k hinv
    obtain ⟨hk, hg⟩ := hinv
    refine hw_reg ?_
    refine dp rfl (pop_lss rfl rfl) ?_
    refine dn ?_
    refine hw_seq ?_
    refine hw_cond rfl (fun h5 => ?_) (fun h6 => ?_)
    ·try simp at h5
     obtain ⟨x, hx⟩ : ∃ x, l[k]? = some x := ⟨_, List.getElem?_eq_getElem h5⟩
     have hdx := drop_cons hx
     rw [hdx] at hg
     refine hw_skip ?_
     refine seqQ_n ?_
     refine hw_seq ?_
     refine hw_block ?_
     refine hw_reg ?_
     refine dp rfl (pop_move rfl) ?_
     refine dp rfl (pop_idx ty45 ty69 rfl rfl rfl (by first | assumption | simp_all)) ?_
     refine dp rfl (pop_loadw ty69 rfl rfl rfl rfl) ?_
     refine de rfl (eop_alloc ty69 rfl fun b6 => ?_)
     refine dp rfl (pop_assign rfl) ?_
     refine de0 (eop_storew ty69 rfl rfl rfl rfl rfl ?_)
     refine dn ?_
     refine hw_ghost (Ghost.fc0 6 rfl) ?_
     refine hw_block ?_
     refine hw_reg ?_
     refine dp rfl (pop_fieldAddr ty69 rfl ty9 (by decide) rfl) ?_
     refine dp rfl (pop_load ty9 rfl rfl rfl) ?_
     refine dp rfl (pop_call ca106 rfl (WeakL.refl _) c_base_Key) ?_
     refine dp rfl (pop_not rfl) ?_
     refine dp rfl (pop_assign rfl) ?_
     refine dn ?_
     refine hw_cond rfl (fun h7 => ?_) (fun h8 => ?_)
     ·try simp at h7
      refine hw_reg ?_
      refine dp rfl (pop_assign rfl) ?_
      refine dn ?_
      refine hw_ret ?_
      refine ret_p rfl ?_
      show HVal.int .i64 _ = _
      first
      | (rw [givesE, if_pos (by simpa using h1)]; done)
      | (rw [givesE, if_neg (by simpa using h2), if_pos (by omega)]; done)
      | (exact congrArg _ (giv_end (by simpa using h2) (by omega) hg))
      | (refine congrArg _ (giv_bad (e := 5) (by simpa using h2) (by omega) hg (by decide) ?_)
         rw [givF, if_pos]
         simp_all
         done)
      | (refine congrArg _ (giv_bad (e := 8) (by simpa using h2) (by omega) hg (by decide) ?_)
         rw [givF, if_neg, if_pos]
         all_goals simp_all
         done)
      | (refine congrArg _ (giv_bad (e := 16) (by simpa using h2) (by omega) hg (by decide) ?_)
         rw [givF, if_neg, if_neg, if_pos]
         all_goals simp_all
         done)
      | (refine congrArg _ (giv_ord (by simpa using h2) (by omega) hg ?_ ?_ ?_)
         ·rw [givF, if_neg, if_neg, if_neg] <;> simp_all
         ·simp_all
         ·simp_all)
     ·try simp at h8
      refine hw_reg ?_
      refine dp rfl (pop_move rfl) ?_
      refine dp rfl (pop_fieldAddr ty69 rfl ty9 (by decide) rfl) ?_
      refine dp rfl (pop_load ty9 rfl rfl rfl) ?_
      refine dp rfl (pop_call ca107 rfl (WeakL.refl _) (c_trade_isTeam hm)) ?_
      refine dp rfl (pop_not rfl) ?_
      refine dp rfl (pop_move rfl) ?_
      refine dg rfl rfl (fun hc => ⟨_, OpenTo.refl _, pop_move rfl⟩) ?_
      refine dg rfl rfl (fun hc => ⟨_, OpenTo.refl _, pop_fieldAddr ty69 rfl ty9 (by decide) rfl⟩) ?_
      refine dg rfl rfl (fun hc => ⟨_, OpenTo.upd (t := 35) rfl (by first | exact hc | simp_all) (OpenTo.refl _), pop_load ty9 rfl rfl rfl⟩) ?_
      refine dg rfl rfl (fun hc => ⟨_, OpenTo.upd (t := 36) rfl (by first | exact hc | simp_all) (OpenTo.upd (t := 34) rfl (by first | exact hc | simp_all) (OpenTo.refl _)), pop_call ca107 rfl (WeakL.refl _) (c_trade_isTeam hm)⟩) ?_
      refine dg rfl rfl (fun hc => ⟨_, OpenTo.upd (t := 37) rfl (by first | exact hc | simp_all) (OpenTo.refl _), pop_not rfl⟩) ?_
      refine dp rfl (pop_picko rfl (.inl rfl) (.inr ⟨_, rfl, fun h => by simp_all⟩)) ?_
      refine dp rfl (pop_assign rfl) ?_
      refine dn ?_
      refine hw_cond rfl (fun h9 => ?_) (fun h10 => ?_)
      ·try simp at h9
       refine hw_reg ?_
       refine dp rfl (pop_assign rfl) ?_
       refine dn ?_
       refine hw_ret ?_
       refine ret_p rfl ?_
       show HVal.int .i64 _ = _
       first
       | (rw [givesE, if_pos (by simpa using h1)]; done)
       | (rw [givesE, if_neg (by simpa using h2), if_pos (by omega)]; done)
       | (exact congrArg _ (giv_end (by simpa using h2) (by omega) hg))
       | (refine congrArg _ (giv_bad (e := 5) (by simpa using h2) (by omega) hg (by decide) ?_)
          rw [givF, if_pos]
          simp_all
          done)
       | (refine congrArg _ (giv_bad (e := 8) (by simpa using h2) (by omega) hg (by decide) ?_)
          rw [givF, if_neg, if_pos]
          all_goals simp_all
          done)
       | (refine congrArg _ (giv_bad (e := 16) (by simpa using h2) (by omega) hg (by decide) ?_)
          rw [givF, if_neg, if_neg, if_pos]
          all_goals simp_all
          done)
       | (refine congrArg _ (giv_ord (by simpa using h2) (by omega) hg ?_ ?_ ?_)
          ·rw [givF, if_neg, if_neg, if_neg] <;> simp_all
          ·simp_all
          ·simp_all)
      ·try simp at h10
       refine hw_reg ?_
       refine dp rfl (pop_fieldAddr ty69 rfl ty9 (by decide) rfl) ?_
       refine dp rfl (pop_load ty9 rfl rfl rfl) ?_
       refine dp rfl (pop_fieldAddr ty69 rfl ty9 (by decide) rfl) ?_
       refine dp rfl (pop_load ty9 rfl rfl rfl) ?_
       refine dp rfl (pop_eqls rfl rfl) ?_
       refine dp rfl (pop_assign rfl) ?_
       refine dn ?_
       refine hw_cond rfl (fun h11 => ?_) (fun h12 => ?_)
       ·try simp at h11
        refine hw_reg ?_
        refine dp rfl (pop_assign rfl) ?_
        refine dn ?_
        refine hw_ret ?_
        refine ret_p rfl ?_
        show HVal.int .i64 _ = _
        first
        | (rw [givesE, if_pos (by simpa using h1)]; done)
        | (rw [givesE, if_neg (by simpa using h2), if_pos (by omega)]; done)
        | (exact congrArg _ (giv_end (by simpa using h2) (by omega) hg))
        | (refine congrArg _ (giv_bad (e := 5) (by simpa using h2) (by omega) hg (by decide) ?_)
           rw [givF, if_pos]
           simp_all
           done)
        | (refine congrArg _ (giv_bad (e := 8) (by simpa using h2) (by omega) hg (by decide) ?_)
           rw [givF, if_neg, if_pos]
           all_goals simp_all
           done)
        | (refine congrArg _ (giv_bad (e := 16) (by simpa using h2) (by omega) hg (by decide) ?_)
           rw [givF, if_neg, if_neg, if_pos]
           all_goals simp_all
           done)
        | (refine congrArg _ (giv_ord (by simpa using h2) (by omega) hg ?_ ?_ ?_)
           ·rw [givF, if_neg, if_neg, if_neg] <;> simp_all
           ·simp_all
           ·simp_all)
       ·try simp at h12
        refine hw_draw (fun _ => True) [] mixed ?_
        refine ahp 0 rfl rfl (by kernel_rfl) (by kernel_rfl) (pop_move rfl) ?_
        refine ahp 1 rfl rfl (by kernel_rfl) (by kernel_rfl) (pop_gtr rfl rfl) ?_
        refine ahp 2 rfl rfl (by kernel_rfl) (by kernel_rfl) (pop_move rfl) ?_
        refine ahg 3 rfl rfl (by kernel_rfl) (by kernel_rfl) rfl (fun hc => ⟨_, OpenTo.refl _, pop_fieldAddr ty69 rfl ty9 (by decide) rfl⟩) ?_
        refine ahg 4 rfl rfl (by kernel_rfl) (by kernel_rfl) rfl (fun hc => ⟨_, OpenTo.upd (t := 50) rfl (by first | exact hc | simp_all) (OpenTo.refl _), pop_load ty9 rfl rfl rfl⟩) ?_
        refine ahg 5 rfl rfl (by kernel_rfl) (by kernel_rfl) rfl (fun hc => ⟨_, OpenTo.refl _, pop_move rfl⟩) ?_
        refine ahg 6 rfl rfl (by kernel_rfl) (by kernel_rfl) rfl (fun hc => ⟨_, OpenTo.refl _, pop_move rfl⟩) ?_
        refine ahg 7 rfl rfl (by kernel_rfl) (by kernel_rfl) rfl (fun hc => by have hq := hc; (try simp at hq); exact ⟨_, OpenTo.upd (t := 53) rfl (by first | exact hc | simp_all) (OpenTo.refl _), pop_sub64 rfl rfl (by omega) (by omega)⟩) ?_
        refine ahg 8 rfl rfl (by kernel_rfl) (by kernel_rfl) rfl (fun hc => by have hq := hc; (try simp at hq); exact ⟨_, OpenTo.upd (t := 54) rfl (by first | exact hc | simp_all) (OpenTo.upd (t := 52) rfl (by first | exact hc | simp_all) (OpenTo.refl _)), pop_idx (j := k - 1) (a := l.getD (k - 1) give0) ty45 ty69 rfl rfl (by omega) (getD_some (by omega))⟩) ?_
        refine ahg 9 rfl rfl (by kernel_rfl) (by kernel_rfl) rfl (fun hc => ⟨_, OpenTo.upd (t := 55) rfl (by first | exact hc | simp_all) (OpenTo.refl _), pop_fieldAddr ty69 rfl ty9 (by decide) rfl⟩) ?_
        refine ahg 10 rfl rfl (by kernel_rfl) (by kernel_rfl) rfl (fun hc => ⟨_, OpenTo.upd (t := 56) rfl (by first | exact hc | simp_all) (OpenTo.refl _), pop_load ty9 rfl rfl rfl⟩) ?_
        refine ahg 11 rfl rfl (by kernel_rfl) (by kernel_rfl) rfl (fun hc => ⟨_, OpenTo.upd (t := 57) rfl (by first | exact hc | simp_all) (OpenTo.upd (t := 51) rfl (by first | exact hc | simp_all) (OpenTo.refl _)), pop_leqs rfl rfl⟩) ?_
        refine ahp 12 rfl rfl (by kernel_rfl) (by kernel_rfl) (pop_picko rfl (.inr ⟨_, rfl, fun h => by simp_all⟩) (.inl rfl)) ?_
        refine ahp 13 rfl rfl (by kernel_rfl) (by kernel_rfl) (pop_assign rfl) ?_
        refine ahz (by kernel_rfl) ?_
        refine hw_cond rfl (fun h13 => ?_) (fun h14 => ?_)
        ·try simp at h13
         refine hw_reg ?_
         refine dp rfl (pop_assign rfl) ?_
         refine dn ?_
         refine hw_ret ?_
         refine ret_p rfl ?_
         show HVal.int .i64 _ = _
         first
         | (rw [givesE, if_pos (by simpa using h1)]; done)
         | (rw [givesE, if_neg (by simpa using h2), if_pos (by omega)]; done)
         | (exact congrArg _ (giv_end (by simpa using h2) (by omega) hg))
         | (refine congrArg _ (giv_bad (e := 5) (by simpa using h2) (by omega) hg (by decide) ?_)
            rw [givF, if_pos]
            simp_all
            done)
         | (refine congrArg _ (giv_bad (e := 8) (by simpa using h2) (by omega) hg (by decide) ?_)
            rw [givF, if_neg, if_pos]
            all_goals simp_all
            done)
         | (refine congrArg _ (giv_bad (e := 16) (by simpa using h2) (by omega) hg (by decide) ?_)
            rw [givF, if_neg, if_neg, if_pos]
            all_goals simp_all
            done)
         | (refine congrArg _ (giv_ord (by simpa using h2) (by omega) hg ?_ ?_ ?_)
            ·rw [givF, if_neg, if_neg, if_neg] <;> simp_all
            ·simp_all
            ·simp_all)
        ·try simp at h14
         refine hw_skip ?_
         refine blockQ_n ?_
         refine blockQ_n ?_
         refine seqQ_n ?_
         refine hw_reg1 ?_
         refine dp rfl (pop_add64 rfl rfl (by omega) (by omega)) ?_
         refine dp rfl (pop_move rfl) ?_
         refine dn ?_
         refine ⟨k + 1, ?_, ?_, ⟨rfl, trivial⟩, (by repeat (first | exact keeps_refl | refine keeps_upd rfl ?_ | refine keeps_loop rfl rfl ?_)), List.Perm.refl _⟩
         ·refine ⟨by omega, ?_⟩
          rw [hg, giv_next (by rw [givF, if_neg (by simp_all), if_neg (by simp_all), if_neg (by simp_all)]) (by intro hk0; simp_all)]
         ·dsimp only; omega
    ·try simp at h6
     have hnk : l.length ≤ k := by omega
     obtain rfl : k = l.length := by omega
     rw [drop_all (Nat.le_refl _)] at hg
     refine hw_exit ?_
     refine seqQ_x ?_
     refine loopQ_x ?_
     refine blockQ_eq ?_
     refine seqQ_n ?_
     refine hw_reg ?_
     refine dp rfl (pop_assign rfl) ?_
     refine dn ?_
     refine hw_ret ?_
     refine ret_p rfl ?_
     show HVal.int .i64 _ = _
     first
     | (rw [givesE, if_pos (by simpa using h1)]; done)
     | (rw [givesE, if_neg (by simpa using h2), if_pos (by omega)]; done)
     | (exact congrArg _ (giv_end (by simpa using h2) (by omega) hg))
     | (refine congrArg _ (giv_bad (e := 5) (by simpa using h2) (by omega) hg (by decide) ?_)
        rw [givF, if_pos]
        simp_all
        done)
     | (refine congrArg _ (giv_bad (e := 8) (by simpa using h2) (by omega) hg (by decide) ?_)
        rw [givF, if_neg, if_pos]
        all_goals simp_all
        done)
     | (refine congrArg _ (giv_bad (e := 16) (by simpa using h2) (by omega) hg (by decide) ?_)
        rw [givF, if_neg, if_neg, if_pos]
        all_goals simp_all
        done)
     | (refine congrArg _ (giv_ord (by simpa using h2) (by omega) hg ?_ ?_ ?_)
        ·rw [givF, if_neg, if_neg, if_neg] <;> simp_all
        ·simp_all
        ·simp_all)

/-- benchwarmer/trade.concerned -/
theorem c_trade_concerned [Tracks] {x : DealS} (hx : x.Gives.length ≤ 1000) : ConP Tryz.prog 153 [eDeal x] (eSs (concL x.Gives)) := by
 refine Con.of_body Tryz.func153 rfl Tryz.ntmps153 rfl rfl ?_
 refine hw_reg ?_
 refine dp rfl (pop_box rfl rfl) ?_
 refine dp rfl (pop_assign rfl) ?_
 refine dn ?_
 refine hw_reg ?_
 refine dp rfl (pop_assign rfl) ?_
 refine dn ?_
 refine hw_ghost (Ghost.arr_nil 1) ?_
 refine hw_seq ?_
 refine hw_reg ?_
 refine dp rfl ((by first | exact pop_fieldAddr ty47 rfl ty45 (by decide) rfl | exact pop_fieldAddr_raw ty47 rfl ty45 (by decide) rfl)) ?_
 refine dp rfl (pop_load ty45 rfl rfl rfl) ?_
 refine dp rfl (pop_lenm ty45 rfl) ?_
 refine dp rfl (pop_move rfl) ?_
 refine dn ?_
 refine hw_block ?_
 refine hw_loopw2 [3, 5, 9, 10, 11, 12, 13, 14, 15, 16, 17, 18, 19, 20] (fun (k : Nat) (u : Value) => [(9, .int .i64 k), (3, .raw u)]) (fun (k : Nat) (u : Value) => [.arr u 1 ((teamsG (x.Gives.take k)).map .str)]) (fun (k : Nat) (u : Value) => k ≤ x.Gives.length ∧ (True)) (fun (k : Nat) (u : Value) => x.Gives.length - k) (0) (.slice none 0 0) ?_ ?_ ?_ ?_
 ·exact ⟨Nat.zero_le _, trivial⟩
 ·exact ⟨rfl, rfl, trivial⟩
 ·exact perm_eq (by simp [teamsG])
 ·intro k u hinv
  obtain ⟨hk, -⟩ := hinv
  refine hw_reg ?_
  refine dp rfl (pop_lss rfl rfl) ?_
  refine dn ?_
  refine hw_seq ?_
  refine hw_cond rfl (fun h1 => ?_) (fun h2 => ?_)
  ·try simp at h1
   obtain ⟨g, hg⟩ : ∃ g, x.Gives[k]? = some g := ⟨_, List.getElem?_eq_getElem h1⟩
   have hdg := drop_cons hg
   refine hw_skip ?_
   refine seqQ_n ?_
   refine hw_seq ?_
   refine hw_block ?_
   refine hw_reg ?_
   refine dp rfl (pop_idx ty45 ty69 rfl rfl rfl (by first | assumption | simp_all)) ?_
   refine dp rfl (pop_loadw ty69 rfl rfl rfl rfl) ?_
   refine de rfl (eop_alloc ty69 rfl fun b5 => ?_)
   refine de0 (eop_storew ty69 rfl rfl rfl rfl rfl ?_)
   refine dn ?_
   refine hw_ghost (Ghost.fc0 5 rfl) ?_
   refine hw_reg1 ?_
   refine dp rfl (pop_move rfl) ?_
   refine dp rfl ((by first | exact pop_fieldAddr ty69 rfl ty9 (by decide) rfl | exact pop_fieldAddr_raw ty69 rfl ty9 (by decide) rfl)) ?_
   refine dp rfl (pop_load ty9 rfl rfl rfl) ?_
   refine dp rfl ((by first | exact pop_fieldAddr ty69 rfl ty9 (by decide) rfl | exact pop_fieldAddr_raw ty69 rfl ty9 (by decide) rfl)) ?_
   refine dp rfl (pop_load ty9 rfl rfl rfl) ?_
   refine dp rfl (pop_buildSlice (hs := [_, _]) ty26 ty9 rfl rfl (by decide) (by decide) rfl) ?_
   refine de rfl (eop_append (i := 0) ty26 ty9 rfl rfl rfl rfl rfl (by simp [flat, hcells]) (by have := teamsG_len (x.Gives.take k); simp only [List.length_map, List.length_cons, List.length_nil, List.length_take] at *; omega) fun v19 => ?_)
   refine dp rfl (pop_assign rfl) ?_
   refine dn ?_
   refine blockQ_n ?_
   refine seqQ_n ?_
   refine hw_reg1 ?_
   refine dp rfl (pop_add64 rfl rfl (by omega) (by omega)) ?_
   refine dp rfl (pop_move rfl) ?_
   refine dn ?_
   exact ⟨k + 1, v19, ⟨by omega, trivial⟩, by dsimp only; omega, ⟨rfl, rfl, trivial⟩, (by repeat (first | exact keeps_refl | refine keeps_upd rfl ?_ | refine keeps_loop rfl rfl ?_)), perm_eq (by dsimp only; rw [teamsG_take hg]; simp)⟩
  ·try simp at h2
   have hnk : x.Gives.length ≤ k := by omega
   obtain rfl : k = x.Gives.length := by omega
   rw [List.take_length]
   refine hw_exit ?_
   refine seqQ_x ?_
   refine loopQ2_x ?_
   refine blockQ_eq ?_
   refine seqQ_n ?_
   refine hw_reg ?_
   refine dp rfl (pop_move rfl) ?_
   refine de rfl (eop_callf (M1 := [_]) (R := []) ca150 rfl (WeakL.refl _) (List.Perm.refl _) (c_slices_Sort (l := teamsG x.Gives) (by rw [teamsG_len]; omega)) ?_)
   rintro _ _ ⟨rfl, rfl⟩
   refine dn ?_
   refine hw_reg ?_
   refine dp rfl (pop_move rfl) ?_
   refine de rfl (eop_callf (M1 := [_]) (R := []) ca151 rfl (WeakL.refl _) (List.Perm.refl _) (c_slices_Compact (l := sortS (teamsG x.Gives)) (by rw [sortS_len, teamsG_len]; omega)) ?_)
   rintro _ _ ⟨u24, rfl, rfl⟩
   refine dp rfl (pop_assign rfl) ?_
   refine dn ?_
   refine hw_ret ?_
   exact ret_fa (M := []) 2 rfl rfl rfl

/-- benchwarmer/trade.offerFault -/
theorem c_trade_offerFault [Tracks] {m : MarketS} {x : DealS} (hm : MarketOk m) (hx : x.Gives.length ≤ 1000000) : ConP Tryz.prog 94 [.vptr (hcells (eMarket m)) 0, eDeal x] (.int .i64 (dealF m x)) := by
 refine Con.of_body Tryz.func94 rfl Tryz.ntmps94 rfl rfl ?_
 refine hw_reg ?_
 refine dp rfl (pop_box rfl rfl) ?_
 refine dp rfl (pop_assign rfl) ?_
 refine dn ?_
 refine hw_seq ?_
 refine hw_block ?_
 refine hw_reg ?_
 refine dp rfl (pop_fieldAddr ty47 rfl ty9 (by decide) rfl) ?_
 refine dp rfl (pop_load ty9 rfl rfl rfl) ?_
 refine dp rfl (pop_call ca106 rfl (WeakL.refl _) c_base_Key) ?_
 refine dp rfl (pop_not rfl) ?_
 refine dp rfl (pop_assign rfl) ?_
 refine dn ?_
 refine hw_cond rfl (fun h1 => ?_) (fun h2 => ?_)
 ·try simp at h1
  refine hw_reg ?_
  refine dp rfl (pop_assign rfl) ?_
  refine dn ?_
  refine hw_ret ?_
  refine ret_p rfl ?_
  show HVal.int .i64 _ = _
  simp_all [dealF]
 ·try simp at h2
  refine hw_reg ?_
  refine dp rfl (pop_move rfl) ?_
  refine dp rfl (pop_fieldAddr ty47 rfl ty9 (by decide) rfl) ?_
  refine dp rfl (pop_load ty9 rfl rfl rfl) ?_
  refine dp rfl (pop_call ca107 rfl (WeakL.refl _) (c_trade_isTeam hm)) ?_
  refine dp rfl (pop_not rfl) ?_
  refine dp rfl (pop_assign rfl) ?_
  refine dn ?_
  refine hw_cond rfl (fun h3 => ?_) (fun h4 => ?_)
  ·try simp at h3
   refine hw_reg ?_
   refine dp rfl (pop_assign rfl) ?_
   refine dn ?_
   refine hw_ret ?_
   refine ret_p rfl ?_
   show HVal.int .i64 _ = _
   simp_all [dealF]
  ·try simp at h4
   refine hw_reg ?_
   refine dp rfl (pop_fieldAddr ty47 rfl ty44 (by decide) rfl) ?_
   refine dp rfl (pop_fieldAddr ty44 rfl ty3 (by decide) rfl) ?_
   refine dp rfl (pop_load ty3 rfl rfl rfl) ?_
   refine dp rfl (pop_call ca97 rfl (WeakL.refl _) c_base_Out) ?_
   refine dp rfl (pop_move rfl) ?_
   refine dg rfl rfl (fun hc => ⟨_, OpenTo.refl _, pop_fieldAddr ty47 rfl ty44 (by decide) rfl⟩) ?_
   refine dg rfl rfl (fun hc => ⟨_, OpenTo.upd (t := 23) rfl (by first | exact hc | simp_all) (OpenTo.refl _), pop_fieldAddr ty44 rfl ty3 (by decide) rfl⟩) ?_
   refine dg rfl rfl (fun hc => ⟨_, OpenTo.upd (t := 24) rfl (by first | exact hc | simp_all) (OpenTo.refl _), pop_load ty3 rfl rfl rfl⟩) ?_
   refine dg rfl rfl (fun hc => ⟨_, OpenTo.refl _, pop_fieldAddr ty47 rfl ty44 (by decide) rfl⟩) ?_
   refine dg rfl rfl (fun hc => ⟨_, OpenTo.upd (t := 26) rfl (by first | exact hc | simp_all) (OpenTo.refl _), pop_fieldAddr ty44 rfl ty3 (by decide) rfl⟩) ?_
   refine dg rfl rfl (fun hc => ⟨_, OpenTo.upd (t := 27) rfl (by first | exact hc | simp_all) (OpenTo.refl _), pop_load ty3 rfl rfl rfl⟩) ?_
   refine dg rfl rfl (fun hc => by
    have hxo := out_f (n := x.To) (lo := 1) (hi := 345686400000) (by simpa using hc)
    exact ⟨_, OpenTo.upd (t := 28) rfl (by first | exact hc | simp_all) (OpenTo.refl _), pop_sub64 rfl rfl (by omega) (by omega)⟩) ?_
   refine dg rfl rfl (fun hc => ⟨_, OpenTo.upd (t := 29) rfl (by first | exact hc | simp_all) (OpenTo.upd (t := 25) rfl (by first | exact hc | simp_all) (OpenTo.refl _)), pop_call ca97 rfl (WeakL.refl _) c_base_Out⟩) ?_
   refine dp rfl (pop_picko rfl (.inl rfl) (.inr ⟨_, rfl, fun h => by simp_all⟩)) ?_
   refine dp rfl (pop_assign rfl) ?_
   refine dn ?_
   refine hw_cond rfl (fun h5 => ?_) (fun h6 => ?_)
   ·try simp at h5
    refine hw_reg ?_
    refine dp rfl (pop_assign rfl) ?_
    refine dn ?_
    refine hw_ret ?_
    refine ret_p rfl ?_
    show HVal.int .i64 _ = _
    simp_all [dealF]
   ·try simp at h6
    refine hw_skip ?_
    refine blockQ_n ?_
    refine seqQ_n ?_
    refine hw_seq ?_
    refine hw_reg ?_
    refine dp rfl (pop_move rfl) ?_
    refine dp rfl (pop_fieldAddr ty47 rfl ty45 (by decide) rfl) ?_
    refine dp rfl (pop_load ty45 rfl rfl rfl) ?_
    refine dp rfl (pop_call ca152 rfl (WeakL.refl _) (c_trade_givesFault (by first | assumption | omega | (simp; omega) | simp_all) (by first | assumption | omega | (simp; omega) | simp_all))) ?_
    refine dp rfl (pop_assign rfl) ?_
    refine dn ?_
    refine hw_reg ?_
    refine dp rfl (pop_move rfl) ?_
    refine dp rfl (pop_neq rfl rfl) ?_
    refine dn ?_
    refine hw_cond rfl (fun h7 => ?_) (fun h8 => ?_)
    ·try simp at h7
     refine hw_reg ?_
     refine dp rfl (pop_move rfl) ?_
     refine dp rfl (pop_assign rfl) ?_
     refine dn ?_
     refine hw_ret ?_
     refine ret_p rfl ?_
     show HVal.int .i64 _ = _
     simp_all [dealF]
    ·try simp at h8
     refine hw_skip ?_
     refine seqQ_n ?_
     refine hw_seq ?_
     obtain ⟨hgo1, hgo2, _⟩ := givesE_ok (m := m) (l := x.Gives) (by simp_all)
     refine hw_draw (fun _ => True) [] mixed ?_
     refine ahp 0 rfl rfl (by kernel_rfl) (by kernel_rfl) (pop_loadw ty47 rfl rfl rfl rfl) ?_
     refine ahp 1 rfl rfl (by kernel_rfl) (by kernel_rfl) (pop_call ca153 rfl (WeakL.refl _) (c_trade_concerned (by first | assumption | omega | (simp; omega) | simp_all))) ?_
     refine ahp 2 rfl rfl (by kernel_rfl) (by kernel_rfl) (pop_fieldAddr ty47 rfl ty9 (by decide) rfl) ?_
     refine ahp 3 rfl rfl (by kernel_rfl) (by kernel_rfl) (pop_load ty9 rfl rfl rfl) ?_
     refine ahp 4 rfl rfl (by kernel_rfl) (by kernel_rfl) (pop_call ca45 rfl (WeakL.refl _) (c_slices_Contains_string_string (l := concL x.Gives) (s := x.By) (by have := concL_len x.Gives; omega))) ?_
     refine ahp 5 rfl rfl (by kernel_rfl) (by kernel_rfl) (pop_not rfl) ?_
     refine ahz (by kernel_rfl) ?_
     refine hw_cond rfl (fun h9 => ?_) (fun h10 => ?_)
     ·try simp at h9
      refine hw_reg ?_
      refine dp rfl (pop_assign rfl) ?_
      refine dn ?_
      refine hw_ret ?_
      refine ret_p rfl ?_
      show HVal.int .i64 _ = _
      simp_all [dealF]
     ·try simp at h10
      refine hw_skip ?_
      refine seqQ_n ?_
      refine hw_reg ?_
      refine dp rfl (pop_assign rfl) ?_
      refine dn ?_
      refine hw_ret ?_
      refine ret_p rfl ?_
      show HVal.int .i64 _ = _
      simp_all [dealF]

/-- benchwarmer/trade.CheckOffers -/
theorem c_trade_CheckOffers [Tracks] {m : MarketS} {l : List DealS} (ht : m.Teams.length ≤ 1000000) (hl : l.length ≤ 1000000) (hx : ∀ x ∈ l, x.Gives.length ≤ 1000000) : ConP Tryz.prog 47 [eMarket m, eDeals l] (.int .i64 (dealsE m l)) := by
 refine Con.of_body Tryz.func47 rfl Tryz.ntmps47 rfl rfl ?_
 refine hw_reg ?_
 refine dp rfl (pop_box rfl rfl) ?_
 refine dp rfl (pop_assign rfl) ?_
 refine dn ?_
 refine hw_seq ?_
 refine hw_reg ?_
 refine dp rfl (pop_loadw ty28 rfl rfl rfl rfl) ?_
 refine dp rfl (pop_call ca51 rfl (WeakL.refl _) (c_trade_CheckMarket (by first | assumption | omega | (simp; omega) | simp_all))) ?_
 refine dp rfl (pop_assign rfl) ?_
 refine dn ?_
 refine hw_reg ?_
 refine dp rfl (pop_move rfl) ?_
 refine dp rfl (pop_neq rfl rfl) ?_
 refine dn ?_
 refine hw_cond rfl (fun h1 => ?_) (fun h2 => ?_)
 ·try simp at h1
  refine hw_reg ?_
  refine dp rfl (pop_move rfl) ?_
  refine dp rfl (pop_assign rfl) ?_
  refine dn ?_
  refine hw_ret ?_
  refine ret_p rfl ?_
  show HVal.int .i64 _ = _
  first
  | (rw [dealsE, if_pos (by simpa using h1)]; done)
  | (rw [hE]; exact congrArg _ (deal_big (by omega)))
  | (rw [hE]; exact congrArg _ (deal_end (by omega) hg))
  | (rw [hE]
     refine congrArg _ (deal_bad (by omega) hg ?_ rfl)
     simp_all
     done)
  | (rw [hE]
     refine congrArg _ (deal_ord (by omega) hg ?_ ?_ ?_)
     ·simp_all
     ·simp_all
     ·simp_all)
 ·try simp at h2
  refine hw_skip ?_
  refine seqQ_n ?_
  refine hw_seq ?_
  have hz : marketE m = 0 := by simpa using h2
  have hm := marketE_ok hz
  have ht20 := hm.len
  have hE : dealsE m l = dealsR m l := by rw [dealsE, if_neg (by simp [hz])]
  refine hw_reg ?_
  refine dp rfl (pop_move rfl) ?_
  refine dp rfl (pop_lenm ty30 rfl) ?_
  refine dp rfl (pop_gtr rfl rfl) ?_
  refine dn ?_
  refine hw_cond rfl (fun h3 => ?_) (fun h4 => ?_)
  ·try simp at h3
   refine hw_reg ?_
   refine dp rfl (pop_assign rfl) ?_
   refine dn ?_
   refine hw_ret ?_
   refine ret_p rfl ?_
   show HVal.int .i64 _ = _
   first
   | (rw [dealsE, if_pos (by simpa using h1)]; done)
   | (rw [hE]; exact congrArg _ (deal_big (by omega)))
   | (rw [hE]; exact congrArg _ (deal_end (by omega) hg))
   | (rw [hE]
      refine congrArg _ (deal_bad (by omega) hg ?_ rfl)
      simp_all
      done)
   | (rw [hE]
      refine congrArg _ (deal_ord (by omega) hg ?_ ?_ ?_)
      ·simp_all
      ·simp_all
      ·simp_all)
  ·try simp at h4
   refine hw_skip ?_
   refine seqQ_n ?_
   refine hw_seq ?_
   refine hw_reg ?_
   refine dp rfl (pop_move rfl) ?_
   refine dp rfl (pop_lenm ty30 rfl) ?_
   refine dp rfl (pop_move rfl) ?_
   refine dn ?_
   refine hw_block ?_
   refine hw_loopw [4, 6, 7, 8, 19, 20, 21, 22, 23, 24, 25, 26, 27, 28, 29, 30, 31, 32, 33, 34, 35, 36, 37, 38, 39, 40, 41, 42] (fun (k : Nat) => [(19, .int .i64 k)]) (fun (k : Nat) => []) (fun (k : Nat) => k ≤ l.length ∧ (chkGo (dealF m) byDeal deal0 l 0 l = chkGo (dealF m) byDeal deal0 l k (l.drop k))) (fun (k : Nat) => l.length - k) (0) ?_ ?_ ?_ ?_
   ·exact ⟨Nat.zero_le _, rfl⟩
   ·exact ⟨rfl, trivial⟩
   ·exact List.Perm.refl _
   ·intro k hinv
    obtain ⟨hk, hg⟩ := hinv
    refine hw_reg ?_
    refine dp rfl (pop_lss rfl rfl) ?_
    refine dn ?_
    refine hw_seq ?_
    refine hw_cond rfl (fun h5 => ?_) (fun h6 => ?_)
    ·try simp at h5
     obtain ⟨y, hy⟩ : ∃ y, l[k]? = some y := ⟨_, List.getElem?_eq_getElem h5⟩
     have hdy := drop_cons hy
     rw [hdy] at hg
     refine hw_skip ?_
     refine seqQ_n ?_
     refine hw_seq ?_
     refine hw_block ?_
     refine hw_reg ?_
     refine dp rfl (pop_move rfl) ?_
     refine dp rfl (pop_idx ty30 ty47 rfl rfl rfl (by first | assumption | simp_all)) ?_
     refine dp rfl (pop_loadw ty47 rfl rfl rfl rfl) ?_
     refine de rfl (eop_alloc ty47 rfl fun b7 => ?_)
     refine dp rfl (pop_assign rfl) ?_
     refine de0 (eop_storew ty47 rfl rfl rfl rfl rfl ?_)
     refine dn ?_
     refine hw_ghost (Ghost.fc0 7 rfl) ?_
     refine hw_seq ?_
     refine hw_reg ?_
     refine dp rfl (pop_loadw ty47 rfl rfl rfl rfl) ?_
     refine dp rfl (pop_call ca94 rfl (WeakL.refl _) (c_trade_offerFault (x := y) hm (hx y (List.mem_of_getElem? hy)))) ?_
     refine dp rfl (pop_assign rfl) ?_
     refine dn ?_
     refine hw_reg ?_
     refine dp rfl (pop_move rfl) ?_
     refine dp rfl (pop_neq rfl rfl) ?_
     refine dn ?_
     refine hw_cond rfl (fun h7 => ?_) (fun h8 => ?_)
     ·try simp at h7
      refine hw_reg ?_
      refine dp rfl (pop_move rfl) ?_
      refine dp rfl (pop_assign rfl) ?_
      refine dn ?_
      refine hw_ret ?_
      refine ret_p rfl ?_
      show HVal.int .i64 _ = _
      first
      | (rw [dealsE, if_pos (by simpa using h1)]; done)
      | (rw [hE]; exact congrArg _ (deal_big (by omega)))
      | (rw [hE]; exact congrArg _ (deal_end (by omega) hg))
      | (rw [hE]
         refine congrArg _ (deal_bad (by omega) hg ?_ rfl)
         simp_all
         done)
      | (rw [hE]
         refine congrArg _ (deal_ord (by omega) hg ?_ ?_ ?_)
         ·simp_all
         ·simp_all
         ·simp_all)
     ·try simp at h8
      refine hw_skip ?_
      refine seqQ_n ?_
      refine hw_draw (fun _ => True) [] mixed ?_
      refine ahp 0 rfl rfl (by kernel_rfl) (by kernel_rfl) (pop_move rfl) ?_
      refine ahp 1 rfl rfl (by kernel_rfl) (by kernel_rfl) (pop_gtr rfl rfl) ?_
      refine ahp 2 rfl rfl (by kernel_rfl) (by kernel_rfl) (pop_move rfl) ?_
      refine ahg 3 rfl rfl (by kernel_rfl) (by kernel_rfl) rfl (fun hc => ⟨_, OpenTo.refl _, pop_fieldAddr ty47 rfl ty9 (by decide) rfl⟩) ?_
      refine ahg 4 rfl rfl (by kernel_rfl) (by kernel_rfl) rfl (fun hc => ⟨_, OpenTo.upd (t := 32) rfl (by first | exact hc | simp_all) (OpenTo.refl _), pop_load ty9 rfl rfl rfl⟩) ?_
      refine ahg 5 rfl rfl (by kernel_rfl) (by kernel_rfl) rfl (fun hc => ⟨_, OpenTo.refl _, pop_move rfl⟩) ?_
      refine ahg 6 rfl rfl (by kernel_rfl) (by kernel_rfl) rfl (fun hc => ⟨_, OpenTo.refl _, pop_move rfl⟩) ?_
      refine ahg 7 rfl rfl (by kernel_rfl) (by kernel_rfl) rfl (fun hc => by have hq := hc; (try simp at hq); exact ⟨_, OpenTo.upd (t := 35) rfl (by first | exact hc | simp_all) (OpenTo.refl _), pop_sub64 rfl rfl (by omega) (by omega)⟩) ?_
      refine ahg 8 rfl rfl (by kernel_rfl) (by kernel_rfl) rfl (fun hc => by have hq := hc; (try simp at hq); exact ⟨_, OpenTo.upd (t := 36) rfl (by first | exact hc | simp_all) (OpenTo.upd (t := 34) rfl (by first | exact hc | simp_all) (OpenTo.refl _)), pop_idx (j := k - 1) (a := l.getD (k - 1) deal0) ty30 ty47 rfl rfl (by omega) (getD_some (by omega))⟩) ?_
      refine ahg 9 rfl rfl (by kernel_rfl) (by kernel_rfl) rfl (fun hc => ⟨_, OpenTo.upd (t := 37) rfl (by first | exact hc | simp_all) (OpenTo.refl _), pop_fieldAddr ty47 rfl ty9 (by decide) rfl⟩) ?_
      refine ahg 10 rfl rfl (by kernel_rfl) (by kernel_rfl) rfl (fun hc => ⟨_, OpenTo.upd (t := 38) rfl (by first | exact hc | simp_all) (OpenTo.refl _), pop_load ty9 rfl rfl rfl⟩) ?_
      refine ahg 11 rfl rfl (by kernel_rfl) (by kernel_rfl) rfl (fun hc => ⟨_, OpenTo.upd (t := 39) rfl (by first | exact hc | simp_all) (OpenTo.upd (t := 33) rfl (by first | exact hc | simp_all) (OpenTo.refl _)), pop_leqs rfl rfl⟩) ?_
      refine ahp 12 rfl rfl (by kernel_rfl) (by kernel_rfl) (pop_picko rfl (.inr ⟨_, rfl, fun h => by simp_all⟩) (.inl rfl)) ?_
      refine ahz (by kernel_rfl) ?_
      refine hw_cond rfl (fun h9 => ?_) (fun h10 => ?_)
      ·try simp at h9
       refine hw_reg ?_
       refine dp rfl (pop_assign rfl) ?_
       refine dn ?_
       refine hw_ret ?_
       refine ret_p rfl ?_
       show HVal.int .i64 _ = _
       first
       | (rw [dealsE, if_pos (by simpa using h1)]; done)
       | (rw [hE]; exact congrArg _ (deal_big (by omega)))
       | (rw [hE]; exact congrArg _ (deal_end (by omega) hg))
       | (rw [hE]
          refine congrArg _ (deal_bad (by omega) hg ?_ rfl)
          simp_all
          done)
       | (rw [hE]
          refine congrArg _ (deal_ord (by omega) hg ?_ ?_ ?_)
          ·simp_all
          ·simp_all
          ·simp_all)
      ·try simp at h10
       refine hw_skip ?_
       refine blockQ_n ?_
       refine seqQ_n ?_
       refine hw_reg1 ?_
       refine dp rfl (pop_add64 rfl rfl (by omega) (by omega)) ?_
       refine dp rfl (pop_move rfl) ?_
       refine dn ?_
       refine ⟨k + 1, ?_, ?_, ⟨rfl, trivial⟩, (by repeat (first | exact keeps_refl | refine keeps_upd rfl ?_ | refine keeps_loop rfl rfl ?_)), List.Perm.refl _⟩
       ·refine ⟨by omega, ?_⟩
        rw [hg, deal_next (by simp_all) (by intro hk0; simp_all)]
       ·dsimp only; omega
    ·try simp at h6
     have hnk : l.length ≤ k := by omega
     obtain rfl : k = l.length := by omega
     rw [drop_all (Nat.le_refl _)] at hg
     refine hw_exit ?_
     refine seqQ_x ?_
     refine loopQ_x ?_
     refine blockQ_eq ?_
     refine seqQ_n ?_
     refine hw_reg ?_
     refine dp rfl (pop_assign rfl) ?_
     refine dn ?_
     refine hw_ret ?_
     refine ret_p rfl ?_
     show HVal.int .i64 _ = _
     first
     | (rw [dealsE, if_pos (by simpa using h1)]; done)
     | (rw [hE]; exact congrArg _ (deal_big (by omega)))
     | (rw [hE]; exact congrArg _ (deal_end (by omega) hg))
     | (rw [hE]
        refine congrArg _ (deal_bad (by omega) hg ?_ rfl)
        simp_all
        done)
     | (rw [hE]
        refine congrArg _ (deal_ord (by omega) hg ?_ ?_ ?_)
        ·simp_all
        ·simp_all
        ·simp_all)
end Go.Proofs.YtdjpppifnmjhoaaGreatDoor
end
section
namespace Go.Proofs.YtdjpppifnmjhoaaGreatDoor
open Go.HL
set_option maxRecDepth 100000
set_option linter.unusedVariables false
set_option linter.unusedSimpArgs false
/-- benchwarmer/benchref1.MarketFault -/
theorem c_benchref1_MarketFault [Tracks] {m : MarketS} (ht : m.Teams.length ≤ 1000000) (hs : ∀ s ∈ m.Teams, s.length ≤ 1000000) : ConP Tryz.prog 8 [eMarket m] (.int .i64 (marketE m)) := by
 refine Con.of_body Tryz.func8 rfl Tryz.ntmps8 rfl rfl ?_
 refine hw_reg ?_
 refine dp rfl (pop_box rfl rfl) ?_
 refine dp rfl (pop_assign rfl) ?_
 refine dn ?_
 refine hw_seq ?_
 refine hw_block ?_
 refine hw_reg ?_
 refine dp rfl (pop_fieldAddr ty28 rfl ty26 (by decide) rfl) ?_
 refine dp rfl (pop_load ty26 rfl rfl rfl) ?_
 refine dp rfl (pop_lenm ty26 rfl) ?_
 refine dp rfl (pop_eql rfl rfl) ?_
 refine dp rfl (pop_assign rfl) ?_
 refine dn ?_
 refine hw_cond rfl (fun h1 => ?_) (fun h2 => ?_)
 ·try simp at h1
  refine hw_reg ?_
  refine dp rfl (pop_assign rfl) ?_
  refine dn ?_
  refine hw_ret ?_
  refine ret_p rfl ?_
  show HVal.int .i64 _ = _
  first
  | (rw [marketE, if_pos (by simpa using h1)]; done)
  | (rw [marketE, if_neg (by simpa using h2), if_pos (by omega)]; done)
  | (rw [marketE, if_neg (by simpa using h2), if_neg (by omega), hg]; simp_all [risingGo, leS]; done)
 ·try simp at h2
  refine hw_reg ?_
  refine dp rfl (pop_fieldAddr ty28 rfl ty26 (by decide) rfl) ?_
  refine dp rfl (pop_load ty26 rfl rfl rfl) ?_
  refine dp rfl (pop_lenm ty26 rfl) ?_
  refine dp rfl (pop_gtr rfl rfl) ?_
  refine dp rfl (pop_assign rfl) ?_
  refine dn ?_
  refine hw_cond rfl (fun h3 => ?_) (fun h4 => ?_)
  ·try simp at h3
   refine hw_reg ?_
   refine dp rfl (pop_assign rfl) ?_
   refine dn ?_
   refine hw_ret ?_
   refine ret_p rfl ?_
   show HVal.int .i64 _ = _
   first
   | (rw [marketE, if_pos (by simpa using h1)]; done)
   | (rw [marketE, if_neg (by simpa using h2), if_pos (by omega)]; done)
   | (rw [marketE, if_neg (by simpa using h2), if_neg (by omega), hg]; simp_all [risingGo, leS]; done)
  ·try simp at h4
   refine hw_skip ?_
   refine blockQ_n ?_
   refine seqQ_n ?_
   refine hw_seq ?_
   refine hw_reg ?_
   refine dp rfl (pop_fieldAddr ty28 rfl ty26 (by decide) rfl) ?_
   refine dp rfl (pop_load ty26 rfl rfl rfl) ?_
   refine dp rfl (pop_lenm ty26 rfl) ?_
   refine dp rfl (pop_move rfl) ?_
   refine dn ?_
   refine hw_block ?_
   refine hw_loopw [2, 3, 4, 18, 19, 20, 21, 22, 23, 24, 25, 26, 27, 28, 29, 30, 31, 32, 33, 34, 35, 36, 37, 38, 39, 40] (fun (k : Nat) => [(18, .int .i64 k)]) (fun (k : Nat) => []) (fun (k : Nat) => k ≤ m.Teams.length ∧ (rising1 m.Teams = risingGo m.Teams k (m.Teams.drop k))) (fun (k : Nat) => m.Teams.length - k) (0) ?_ ?_ ?_ ?_
   ·exact ⟨Nat.zero_le _, rfl⟩
   ·exact ⟨rfl, trivial⟩
   ·exact List.Perm.refl _
   ·intro k hinv
    obtain ⟨hk, hg⟩ := hinv
    refine hw_reg ?_
    refine dp rfl (pop_lss rfl rfl) ?_
    refine dn ?_
    refine hw_seq ?_
    refine hw_cond rfl (fun h5 => ?_) (fun h6 => ?_)
    ·try simp at h5
     obtain ⟨x, hx⟩ : ∃ x, m.Teams[k]? = some x := ⟨_, List.getElem?_eq_getElem h5⟩
     have hdx := drop_cons hx
     rw [hdx] at hg
     refine hw_skip ?_
     refine seqQ_n ?_
     refine hw_seq ?_
     refine hw_block ?_
     refine hw_reg ?_
     refine dp rfl (pop_move rfl) ?_
     refine dp rfl (pop_idx ty26 ty9 rfl rfl rfl (by first | assumption | simp_all)) ?_
     refine dp rfl (pop_load ty9 rfl rfl rfl) ?_
     refine dp rfl (pop_assign rfl) ?_
     refine dp rfl (pop_assign rfl) ?_
     refine dn ?_
     refine hw_block ?_
     refine hw_reg ?_
     refine dp rfl (pop_move rfl) ?_
     refine dp rfl (pop_call ca37 rfl (WeakL.refl _) (c_benchref1_Key (hs x (List.mem_of_getElem? hx)))) ?_
     refine dp rfl (pop_not rfl) ?_
     refine dp rfl (pop_assign rfl) ?_
     refine dn ?_
     refine hw_cond rfl (fun h7 => ?_) (fun h8 => ?_)
     ·try simp at h7
      refine hw_reg ?_
      refine dp rfl (pop_assign rfl) ?_
      refine dn ?_
      refine hw_ret ?_
      refine ret_p rfl ?_
      show HVal.int .i64 _ = _
      first
      | (rw [marketE, if_pos (by simpa using h1)]; done)
      | (rw [marketE, if_neg (by simpa using h2), if_pos (by omega)]; done)
      | (rw [marketE, if_neg (by simpa using h2), if_neg (by omega), hg]; simp_all [risingGo, leS]; done)
     ·try simp at h8
      refine hw_reg ?_
      refine dp rfl (pop_move rfl) ?_
      refine dp rfl (pop_gtr rfl rfl) ?_
      refine dp rfl (pop_move rfl) ?_
      refine dg rfl rfl (fun hc => ⟨_, OpenTo.refl _, pop_move rfl⟩) ?_
      refine dg rfl rfl (fun hc => ⟨_, OpenTo.refl _, pop_fieldAddr ty28 rfl ty26 (by decide) rfl⟩) ?_
      refine dg rfl rfl (fun hc => ⟨_, OpenTo.upd (t := 32) rfl (by first | exact hc | simp_all) (OpenTo.refl _), pop_load ty26 rfl rfl rfl⟩) ?_
      refine dg rfl rfl (fun hc => ⟨_, OpenTo.refl _, pop_move rfl⟩) ?_
      refine dg rfl rfl (fun hc => by have hq := hc; (try simp at hq); exact ⟨_, OpenTo.upd (t := 34) rfl (by first | exact hc | simp_all) (OpenTo.refl _), pop_sub64 rfl rfl (by omega) (by omega)⟩) ?_
      refine dg rfl rfl (fun hc => by have hq := hc; (try simp at hq); exact ⟨_, OpenTo.upd (t := 35) rfl (by first | exact hc | simp_all) (OpenTo.upd (t := 33) rfl (by first | exact hc | simp_all) (OpenTo.refl _)), pop_idx (j := k - 1) (a := m.Teams.getD (k - 1) []) ty26 ty9 rfl rfl (by omega) (getD_some (by omega))⟩) ?_
      refine dg rfl rfl (fun hc => ⟨_, OpenTo.upd (t := 36) rfl (by first | exact hc | simp_all) (OpenTo.refl _), pop_load ty9 rfl rfl rfl⟩) ?_
      refine dg rfl rfl (fun hc => ⟨_, OpenTo.upd (t := 37) rfl (by first | exact hc | simp_all) (OpenTo.upd (t := 31) rfl (by first | exact hc | simp_all) (OpenTo.refl _)), pop_leqs rfl rfl⟩) ?_
      refine dp rfl (pop_picko rfl (.inr ⟨_, rfl, fun h => by simp_all⟩) (.inl rfl)) ?_
      refine dp rfl (pop_assign rfl) ?_
      refine dn ?_
      refine hw_cond rfl (fun h9 => ?_) (fun h10 => ?_)
      ·try simp at h9
       refine hw_reg ?_
       refine dp rfl (pop_assign rfl) ?_
       refine dn ?_
       refine hw_ret ?_
       refine ret_p rfl ?_
       show HVal.int .i64 _ = _
       first
       | (rw [marketE, if_pos (by simpa using h1)]; done)
       | (rw [marketE, if_neg (by simpa using h2), if_pos (by omega)]; done)
       | (rw [marketE, if_neg (by simpa using h2), if_neg (by omega), hg]; simp_all [risingGo, leS]; done)
      ·try simp at h10
       refine hw_skip ?_
       refine blockQ_n ?_
       refine blockQ_n ?_
       refine seqQ_n ?_
       refine hw_reg1 ?_
       refine dp rfl (pop_add64 rfl rfl (by omega) (by omega)) ?_
       refine dp rfl (pop_move rfl) ?_
       refine dn ?_
       refine ⟨k + 1, ?_, ?_, ⟨rfl, trivial⟩, (by repeat (first | exact keeps_refl | refine keeps_upd rfl ?_ | refine keeps_loop rfl rfl ?_)), List.Perm.refl _⟩
       ·refine ⟨by omega, ?_⟩
        rw [hg]; simp_all [risingGo, leS]
       ·dsimp only; omega
    ·try simp at h6
     have hnk : m.Teams.length ≤ k := by omega
     obtain rfl : k = m.Teams.length := by omega
     rw [drop_all (Nat.le_refl _)] at hg
     refine hw_exit ?_
     refine seqQ_x ?_
     refine loopQ_x ?_
     refine blockQ_eq ?_
     refine seqQ_n ?_
     refine hw_seq ?_
     refine hw_reg ?_
     refine dp rfl (pop_fieldAddr ty28 rfl ty3 (by decide) rfl) ?_
     refine dp rfl (pop_load ty3 rfl rfl rfl) ?_
     refine dp rfl (pop_call ca38 rfl (WeakL.refl _) c_benchref1_in) ?_
     refine dp rfl (pop_not rfl) ?_
     refine dp rfl (pop_move rfl) ?_
     refine dg rfl rfl (fun hc => ⟨_, OpenTo.refl _, pop_fieldAddr ty28 rfl ty3 (by decide) rfl⟩) ?_
     refine dg rfl rfl (fun hc => ⟨_, OpenTo.upd (t := 46) rfl (by first | exact hc | simp_all) (OpenTo.refl _), pop_load ty3 rfl rfl rfl⟩) ?_
     refine dg rfl rfl (fun hc => ⟨_, OpenTo.upd (t := 47) rfl (by first | exact hc | simp_all) (OpenTo.refl _), pop_call ca38 rfl (WeakL.refl _) c_benchref1_in⟩) ?_
     refine dg rfl rfl (fun hc => ⟨_, OpenTo.upd (t := 48) rfl (by first | exact hc | simp_all) (OpenTo.refl _), pop_not rfl⟩) ?_
     refine dp rfl (pop_picko rfl (.inl rfl) (.inr ⟨_, rfl, fun h => by simp_all⟩)) ?_
     refine dp rfl (pop_move rfl) ?_
     refine dg rfl rfl (fun hc => ⟨_, OpenTo.refl _, pop_fieldAddr ty28 rfl ty3 (by decide) rfl⟩) ?_
     refine dg rfl rfl (fun hc => ⟨_, OpenTo.upd (t := 52) rfl (by first | exact hc | simp_all) (OpenTo.refl _), pop_load ty3 rfl rfl rfl⟩) ?_
     refine dg rfl rfl (fun hc => ⟨_, OpenTo.upd (t := 53) rfl (by first | exact hc | simp_all) (OpenTo.refl _), pop_call ca38 rfl (WeakL.refl _) c_benchref1_in⟩) ?_
     refine dg rfl rfl (fun hc => ⟨_, OpenTo.upd (t := 54) rfl (by first | exact hc | simp_all) (OpenTo.refl _), pop_not rfl⟩) ?_
     refine dp rfl (pop_picko rfl (.inl rfl) (.inr ⟨_, rfl, fun h => by simp_all⟩)) ?_
     refine dp rfl (pop_move rfl) ?_
     refine dg rfl rfl (fun hc => ⟨_, OpenTo.refl _, pop_fieldAddr ty28 rfl ty3 (by decide) rfl⟩) ?_
     refine dg rfl rfl (fun hc => ⟨_, OpenTo.upd (t := 58) rfl (by first | exact hc | simp_all) (OpenTo.refl _), pop_load ty3 rfl rfl rfl⟩) ?_
     refine dg rfl rfl (fun hc => ⟨_, OpenTo.refl _, pop_fieldAddr ty28 rfl ty3 (by decide) rfl⟩) ?_
     refine dg rfl rfl (fun hc => ⟨_, OpenTo.upd (t := 60) rfl (by first | exact hc | simp_all) (OpenTo.refl _), pop_load ty3 rfl rfl rfl⟩) ?_
     refine dg rfl rfl (fun hc => ⟨_, OpenTo.upd (t := 61) rfl (by first | exact hc | simp_all) (OpenTo.upd (t := 59) rfl (by first | exact hc | simp_all) (OpenTo.refl _)), pop_call ca38 rfl (WeakL.refl _) c_benchref1_in⟩) ?_
     refine dg rfl rfl (fun hc => ⟨_, OpenTo.upd (t := 62) rfl (by first | exact hc | simp_all) (OpenTo.refl _), pop_not rfl⟩) ?_
     refine dp rfl (pop_picko rfl (.inl rfl) (.inr ⟨_, rfl, fun h => by simp_all⟩)) ?_
     refine dp rfl (pop_move rfl) ?_
     refine dg rfl rfl (fun hc => ⟨_, OpenTo.refl _, pop_fieldAddr ty28 rfl ty3 (by decide) rfl⟩) ?_
     refine dg rfl rfl (fun hc => ⟨_, OpenTo.upd (t := 66) rfl (by first | exact hc | simp_all) (OpenTo.refl _), pop_load ty3 rfl rfl rfl⟩) ?_
     refine dg rfl rfl (fun hc => ⟨_, OpenTo.upd (t := 67) rfl (by first | exact hc | simp_all) (OpenTo.refl _), pop_gtr rfl rfl⟩) ?_
     refine dp rfl (pop_picko rfl (.inl rfl) (.inr ⟨_, rfl, fun h => by simp_all⟩)) ?_
     refine dn ?_
     refine hw_cond rfl (fun h11 => ?_) (fun h12 => ?_)
     ·try simp at h11
      refine hw_reg ?_
      refine dp rfl (pop_assign rfl) ?_
      refine dn ?_
      refine hw_ret ?_
      refine ret_p rfl ?_
      show HVal.int .i64 _ = _
      first
      | (rw [marketE, if_pos (by simpa using h1)]; done)
      | (rw [marketE, if_neg (by simpa using h2), if_pos (by omega)]; done)
      | (rw [marketE, if_neg (by simpa using h2), if_neg (by omega), hg]; simp_all [risingGo, leS]; done)
     ·try simp at h12
      refine hw_skip ?_
      refine seqQ_n ?_
      refine hw_reg ?_
      refine dp rfl (pop_assign rfl) ?_
      refine dn ?_
      refine hw_ret ?_
      refine ret_p rfl ?_
      show HVal.int .i64 _ = _
      first
      | (rw [marketE, if_pos (by simpa using h1)]; done)
      | (rw [marketE, if_neg (by simpa using h2), if_pos (by omega)]; done)
      | (rw [marketE, if_neg (by simpa using h2), if_neg (by omega), hg]; simp_all [risingGo, leS]; done)

/-- benchwarmer/benchref1.hasTeam -/
theorem c_benchref1_hasTeam [Tracks] {m : MarketS} {t : Str} (ht : m.Teams.length ≤ 1000000) : ConP Tryz.prog 43 [eMarket m, .str t] (.bool (m.Teams.contains t)) := by
 refine Con.of_body Tryz.func43 rfl Tryz.ntmps43 rfl rfl ?_
 refine hw_reg ?_
 refine dp rfl (pop_box rfl rfl) ?_
 refine dp rfl (pop_assign rfl) ?_
 refine dn ?_
 refine hw_reg ?_
 refine dp rfl (pop_fieldAddr ty28 rfl ty26 (by decide) rfl) ?_
 refine dp rfl (pop_load ty26 rfl rfl rfl) ?_
 refine dp rfl (pop_move rfl) ?_
 refine dp rfl (pop_call ca45 rfl (WeakL.refl _) (c_slices_Contains_string_string (l := m.Teams) (s := t) (by omega))) ?_
 refine dp rfl (pop_assign rfl) ?_
 refine dn ?_
 refine hw_ret ?_
 refine ret_p rfl ?_
 rfl

/-- benchwarmer/benchref1.givesFault -/
theorem c_benchref1_givesFault [Tracks] {m : MarketS} {l : List GiveS} (ht : m.Teams.length ≤ 1000000) (hl : l.length ≤ 1000000) (hs : ∀ x ∈ l, x.Player.length ≤ 1000000) : ConP Tryz.prog 44 [eMarket m, eGives l] (.int .i64 (givesE m l)) := by
 refine Con.of_body Tryz.func44 rfl Tryz.ntmps44 rfl rfl ?_
 refine hw_reg ?_
 refine dp rfl (pop_box rfl rfl) ?_
 refine dp rfl (pop_assign rfl) ?_
 refine dn ?_
 refine hw_seq ?_
 refine hw_block ?_
 refine hw_reg ?_
 refine dp rfl (pop_move rfl) ?_
 refine dp rfl (pop_lenm ty45 rfl) ?_
 refine dp rfl (pop_eql rfl rfl) ?_
 refine dp rfl (pop_assign rfl) ?_
 refine dn ?_
 refine hw_cond rfl (fun h1 => ?_) (fun h2 => ?_)
 ·try simp at h1
  refine hw_reg ?_
  refine dp rfl (pop_assign rfl) ?_
  refine dn ?_
  refine hw_ret ?_
  refine ret_p rfl ?_
  show HVal.int .i64 _ = _
  first
  | (rw [givesE, if_pos (by simpa using h1)]; done)
  | (rw [givesE, if_neg (by simpa using h2), if_pos (by omega)]; done)
  | (exact congrArg _ (giv_end (by simpa using h2) (by omega) hg))
  | (refine congrArg _ (giv_bad (e := 5) (by simpa using h2) (by omega) hg (by decide) ?_)
     rw [givF, if_pos]
     simp_all
     done)
  | (refine congrArg _ (giv_bad (e := 8) (by simpa using h2) (by omega) hg (by decide) ?_)
     rw [givF, if_neg, if_pos]
     all_goals simp_all
     done)
  | (refine congrArg _ (giv_bad (e := 16) (by simpa using h2) (by omega) hg (by decide) ?_)
     rw [givF, if_neg, if_neg, if_pos]
     all_goals simp_all
     done)
  | (refine congrArg _ (giv_ord (by simpa using h2) (by omega) hg ?_ ?_ ?_)
     ·rw [givF, if_neg, if_neg, if_neg] <;> simp_all
     ·simp_all
     ·simp_all)
 ·try simp at h2
  refine hw_reg ?_
  refine dp rfl (pop_move rfl) ?_
  refine dp rfl (pop_lenm ty45 rfl) ?_
  refine dp rfl (pop_gtr rfl rfl) ?_
  refine dp rfl (pop_assign rfl) ?_
  refine dn ?_
  refine hw_cond rfl (fun h3 => ?_) (fun h4 => ?_)
  ·try simp at h3
   refine hw_reg ?_
   refine dp rfl (pop_assign rfl) ?_
   refine dn ?_
   refine hw_ret ?_
   refine ret_p rfl ?_
   show HVal.int .i64 _ = _
   first
   | (rw [givesE, if_pos (by simpa using h1)]; done)
   | (rw [givesE, if_neg (by simpa using h2), if_pos (by omega)]; done)
   | (exact congrArg _ (giv_end (by simpa using h2) (by omega) hg))
   | (refine congrArg _ (giv_bad (e := 5) (by simpa using h2) (by omega) hg (by decide) ?_)
      rw [givF, if_pos]
      simp_all
      done)
   | (refine congrArg _ (giv_bad (e := 8) (by simpa using h2) (by omega) hg (by decide) ?_)
      rw [givF, if_neg, if_pos]
      all_goals simp_all
      done)
   | (refine congrArg _ (giv_bad (e := 16) (by simpa using h2) (by omega) hg (by decide) ?_)
      rw [givF, if_neg, if_neg, if_pos]
      all_goals simp_all
      done)
   | (refine congrArg _ (giv_ord (by simpa using h2) (by omega) hg ?_ ?_ ?_)
      ·rw [givF, if_neg, if_neg, if_neg] <;> simp_all
      ·simp_all
      ·simp_all)
  ·try simp at h4
   refine hw_skip ?_
   refine blockQ_n ?_
   refine seqQ_n ?_
   refine hw_seq ?_
   refine hw_reg ?_
   refine dp rfl (pop_move rfl) ?_
   refine dp rfl (pop_lenm ty45 rfl) ?_
   refine dp rfl (pop_move rfl) ?_
   refine dn ?_
   refine hw_block ?_
   refine hw_loopw [4, 5, 6, 17, 18, 19, 20, 21, 22, 23, 24, 25, 26, 27, 28, 29, 30, 31, 32, 33, 34, 35, 36, 37, 38, 39, 40, 41, 42, 43, 44, 45, 46, 47, 48, 49, 50, 51, 52, 53, 54, 55, 56, 57, 58, 59, 60] (fun (k : Nat) => [(17, .int .i64 k)]) (fun (k : Nat) => []) (fun (k : Nat) => k ≤ l.length ∧ (chkGo (givF m) byGiv give0 l 0 l = chkGo (givF m) byGiv give0 l k (l.drop k))) (fun (k : Nat) => l.length - k) (0) ?_ ?_ ?_ ?_
   ·exact ⟨Nat.zero_le _, rfl⟩
   ·exact ⟨rfl, trivial⟩
   ·exact List.Perm.refl _
   ·intro k hinv
    obtain ⟨hk, hg⟩ := hinv
    refine hw_reg ?_
    refine dp rfl (pop_lss rfl rfl) ?_
    refine dn ?_
    refine hw_seq ?_
    refine hw_cond rfl (fun h5 => ?_) (fun h6 => ?_)
    ·try simp at h5
     obtain ⟨x, hx⟩ : ∃ x, l[k]? = some x := ⟨_, List.getElem?_eq_getElem h5⟩
     have hdx := drop_cons hx
     rw [hdx] at hg
     refine hw_skip ?_
     refine seqQ_n ?_
     refine hw_seq ?_
     refine hw_block ?_
     refine hw_reg ?_
     refine dp rfl (pop_move rfl) ?_
     refine dp rfl (pop_idx ty45 ty69 rfl rfl rfl (by first | assumption | simp_all)) ?_
     refine dp rfl (pop_loadw ty69 rfl rfl rfl rfl) ?_
     refine de rfl (eop_alloc ty69 rfl fun b6 => ?_)
     refine dp rfl (pop_assign rfl) ?_
     refine de0 (eop_storew ty69 rfl rfl rfl rfl rfl ?_)
     refine dn ?_
     refine hw_ghost (Ghost.fc0 6 rfl) ?_
     refine hw_block ?_
     refine hw_reg ?_
     refine dp rfl (pop_fieldAddr ty69 rfl ty9 (by decide) rfl) ?_
     refine dp rfl (pop_load ty9 rfl rfl rfl) ?_
     refine dp rfl (pop_call ca37 rfl (WeakL.refl _) (c_benchref1_Key (hs x (List.mem_of_getElem? hx)))) ?_
     refine dp rfl (pop_not rfl) ?_
     refine dp rfl (pop_assign rfl) ?_
     refine dn ?_
     refine hw_cond rfl (fun h7 => ?_) (fun h8 => ?_)
     ·try simp at h7
      refine hw_reg ?_
      refine dp rfl (pop_assign rfl) ?_
      refine dn ?_
      refine hw_ret ?_
      refine ret_p rfl ?_
      show HVal.int .i64 _ = _
      first
      | (rw [givesE, if_pos (by simpa using h1)]; done)
      | (rw [givesE, if_neg (by simpa using h2), if_pos (by omega)]; done)
      | (exact congrArg _ (giv_end (by simpa using h2) (by omega) hg))
      | (refine congrArg _ (giv_bad (e := 5) (by simpa using h2) (by omega) hg (by decide) ?_)
         rw [givF, if_pos]
         simp_all
         done)
      | (refine congrArg _ (giv_bad (e := 8) (by simpa using h2) (by omega) hg (by decide) ?_)
         rw [givF, if_neg, if_pos]
         all_goals simp_all
         done)
      | (refine congrArg _ (giv_bad (e := 16) (by simpa using h2) (by omega) hg (by decide) ?_)
         rw [givF, if_neg, if_neg, if_pos]
         all_goals simp_all
         done)
      | (refine congrArg _ (giv_ord (by simpa using h2) (by omega) hg ?_ ?_ ?_)
         ·rw [givF, if_neg, if_neg, if_neg] <;> simp_all
         ·simp_all
         ·simp_all)
     ·try simp at h8
      refine hw_reg ?_
      refine dp rfl (pop_loadw ty28 rfl rfl rfl rfl) ?_
      refine dp rfl (pop_fieldAddr ty69 rfl ty9 (by decide) rfl) ?_
      refine dp rfl (pop_load ty9 rfl rfl rfl) ?_
      refine dp rfl (pop_call ca43 rfl (WeakL.refl _) (c_benchref1_hasTeam (by first | assumption | omega | (simp; omega) | simp_all))) ?_
      refine dp rfl (pop_not rfl) ?_
      refine dp rfl (pop_move rfl) ?_
      refine dg rfl rfl (fun hc => ⟨_, OpenTo.refl _, pop_loadw ty28 rfl rfl rfl rfl⟩) ?_
      refine dg rfl rfl (fun hc => ⟨_, OpenTo.refl _, pop_fieldAddr ty69 rfl ty9 (by decide) rfl⟩) ?_
      refine dg rfl rfl (fun hc => ⟨_, OpenTo.upd (t := 35) rfl (by first | exact hc | simp_all) (OpenTo.refl _), pop_load ty9 rfl rfl rfl⟩) ?_
      refine dg rfl rfl (fun hc => by have hq := hc; (try simp at hq); exact ⟨_, OpenTo.upd (t := 36) rfl (by first | exact hc | simp_all) (OpenTo.upd (t := 34) rfl (by first | exact hc | simp_all) (OpenTo.refl _)), pop_call ca43 rfl (WeakL.refl _) (c_benchref1_hasTeam (by first | assumption | omega | (simp; omega) | simp_all))⟩) ?_
      refine dg rfl rfl (fun hc => ⟨_, OpenTo.upd (t := 37) rfl (by first | exact hc | simp_all) (OpenTo.refl _), pop_not rfl⟩) ?_
      refine dp rfl (pop_picko rfl (.inl rfl) (.inr ⟨_, rfl, fun h => by simp_all⟩)) ?_
      refine dp rfl (pop_assign rfl) ?_
      refine dn ?_
      refine hw_cond rfl (fun h9 => ?_) (fun h10 => ?_)
      ·try simp at h9
       refine hw_reg ?_
       refine dp rfl (pop_assign rfl) ?_
       refine dn ?_
       refine hw_ret ?_
       refine ret_p rfl ?_
       show HVal.int .i64 _ = _
       first
       | (rw [givesE, if_pos (by simpa using h1)]; done)
       | (rw [givesE, if_neg (by simpa using h2), if_pos (by omega)]; done)
       | (exact congrArg _ (giv_end (by simpa using h2) (by omega) hg))
       | (refine congrArg _ (giv_bad (e := 5) (by simpa using h2) (by omega) hg (by decide) ?_)
          rw [givF, if_pos]
          simp_all
          done)
       | (refine congrArg _ (giv_bad (e := 8) (by simpa using h2) (by omega) hg (by decide) ?_)
          rw [givF, if_neg, if_pos]
          all_goals simp_all
          done)
       | (refine congrArg _ (giv_bad (e := 16) (by simpa using h2) (by omega) hg (by decide) ?_)
          rw [givF, if_neg, if_neg, if_pos]
          all_goals simp_all
          done)
       | (refine congrArg _ (giv_ord (by simpa using h2) (by omega) hg ?_ ?_ ?_)
          ·rw [givF, if_neg, if_neg, if_neg] <;> simp_all
          ·simp_all
          ·simp_all)
      ·try simp at h10
       refine hw_reg ?_
       refine dp rfl (pop_fieldAddr ty69 rfl ty9 (by decide) rfl) ?_
       refine dp rfl (pop_load ty9 rfl rfl rfl) ?_
       refine dp rfl (pop_fieldAddr ty69 rfl ty9 (by decide) rfl) ?_
       refine dp rfl (pop_load ty9 rfl rfl rfl) ?_
       refine dp rfl (pop_eqls rfl rfl) ?_
       refine dp rfl (pop_assign rfl) ?_
       refine dn ?_
       refine hw_cond rfl (fun h11 => ?_) (fun h12 => ?_)
       ·try simp at h11
        refine hw_reg ?_
        refine dp rfl (pop_assign rfl) ?_
        refine dn ?_
        refine hw_ret ?_
        refine ret_p rfl ?_
        show HVal.int .i64 _ = _
        first
        | (rw [givesE, if_pos (by simpa using h1)]; done)
        | (rw [givesE, if_neg (by simpa using h2), if_pos (by omega)]; done)
        | (exact congrArg _ (giv_end (by simpa using h2) (by omega) hg))
        | (refine congrArg _ (giv_bad (e := 5) (by simpa using h2) (by omega) hg (by decide) ?_)
           rw [givF, if_pos]
           simp_all
           done)
        | (refine congrArg _ (giv_bad (e := 8) (by simpa using h2) (by omega) hg (by decide) ?_)
           rw [givF, if_neg, if_pos]
           all_goals simp_all
           done)
        | (refine congrArg _ (giv_bad (e := 16) (by simpa using h2) (by omega) hg (by decide) ?_)
           rw [givF, if_neg, if_neg, if_pos]
           all_goals simp_all
           done)
        | (refine congrArg _ (giv_ord (by simpa using h2) (by omega) hg ?_ ?_ ?_)
           ·rw [givF, if_neg, if_neg, if_neg] <;> simp_all
           ·simp_all
           ·simp_all)
       ·try simp at h12
        refine hw_draw (fun _ => True) [] mixed ?_
        refine ahp 0 rfl rfl (by kernel_rfl) (by kernel_rfl) (pop_move rfl) ?_
        refine ahp 1 rfl rfl (by kernel_rfl) (by kernel_rfl) (pop_gtr rfl rfl) ?_
        refine ahp 2 rfl rfl (by kernel_rfl) (by kernel_rfl) (pop_move rfl) ?_
        refine ahg 3 rfl rfl (by kernel_rfl) (by kernel_rfl) rfl (fun hc => ⟨_, OpenTo.refl _, pop_fieldAddr ty69 rfl ty9 (by decide) rfl⟩) ?_
        refine ahg 4 rfl rfl (by kernel_rfl) (by kernel_rfl) rfl (fun hc => ⟨_, OpenTo.upd (t := 50) rfl (by first | exact hc | simp_all) (OpenTo.refl _), pop_load ty9 rfl rfl rfl⟩) ?_
        refine ahg 5 rfl rfl (by kernel_rfl) (by kernel_rfl) rfl (fun hc => ⟨_, OpenTo.refl _, pop_move rfl⟩) ?_
        refine ahg 6 rfl rfl (by kernel_rfl) (by kernel_rfl) rfl (fun hc => ⟨_, OpenTo.refl _, pop_move rfl⟩) ?_
        refine ahg 7 rfl rfl (by kernel_rfl) (by kernel_rfl) rfl (fun hc => by have hq := hc; (try simp at hq); exact ⟨_, OpenTo.upd (t := 53) rfl (by first | exact hc | simp_all) (OpenTo.refl _), pop_sub64 rfl rfl (by omega) (by omega)⟩) ?_
        refine ahg 8 rfl rfl (by kernel_rfl) (by kernel_rfl) rfl (fun hc => by have hq := hc; (try simp at hq); exact ⟨_, OpenTo.upd (t := 54) rfl (by first | exact hc | simp_all) (OpenTo.upd (t := 52) rfl (by first | exact hc | simp_all) (OpenTo.refl _)), pop_idx (j := k - 1) (a := l.getD (k - 1) give0) ty45 ty69 rfl rfl (by omega) (getD_some (by omega))⟩) ?_
        refine ahg 9 rfl rfl (by kernel_rfl) (by kernel_rfl) rfl (fun hc => ⟨_, OpenTo.upd (t := 55) rfl (by first | exact hc | simp_all) (OpenTo.refl _), pop_fieldAddr ty69 rfl ty9 (by decide) rfl⟩) ?_
        refine ahg 10 rfl rfl (by kernel_rfl) (by kernel_rfl) rfl (fun hc => ⟨_, OpenTo.upd (t := 56) rfl (by first | exact hc | simp_all) (OpenTo.refl _), pop_load ty9 rfl rfl rfl⟩) ?_
        refine ahg 11 rfl rfl (by kernel_rfl) (by kernel_rfl) rfl (fun hc => ⟨_, OpenTo.upd (t := 57) rfl (by first | exact hc | simp_all) (OpenTo.upd (t := 51) rfl (by first | exact hc | simp_all) (OpenTo.refl _)), pop_leqs rfl rfl⟩) ?_
        refine ahp 12 rfl rfl (by kernel_rfl) (by kernel_rfl) (pop_picko rfl (.inr ⟨_, rfl, fun h => by simp_all⟩) (.inl rfl)) ?_
        refine ahp 13 rfl rfl (by kernel_rfl) (by kernel_rfl) (pop_assign rfl) ?_
        refine ahz (by kernel_rfl) ?_
        refine hw_cond rfl (fun h13 => ?_) (fun h14 => ?_)
        ·try simp at h13
         refine hw_reg ?_
         refine dp rfl (pop_assign rfl) ?_
         refine dn ?_
         refine hw_ret ?_
         refine ret_p rfl ?_
         show HVal.int .i64 _ = _
         first
         | (rw [givesE, if_pos (by simpa using h1)]; done)
         | (rw [givesE, if_neg (by simpa using h2), if_pos (by omega)]; done)
         | (exact congrArg _ (giv_end (by simpa using h2) (by omega) hg))
         | (refine congrArg _ (giv_bad (e := 5) (by simpa using h2) (by omega) hg (by decide) ?_)
            rw [givF, if_pos]
            simp_all
            done)
         | (refine congrArg _ (giv_bad (e := 8) (by simpa using h2) (by omega) hg (by decide) ?_)
            rw [givF, if_neg, if_pos]
            all_goals simp_all
            done)
         | (refine congrArg _ (giv_bad (e := 16) (by simpa using h2) (by omega) hg (by decide) ?_)
            rw [givF, if_neg, if_neg, if_pos]
            all_goals simp_all
            done)
         | (refine congrArg _ (giv_ord (by simpa using h2) (by omega) hg ?_ ?_ ?_)
            ·rw [givF, if_neg, if_neg, if_neg] <;> simp_all
            ·simp_all
            ·simp_all)
        ·try simp at h14
         refine hw_skip ?_
         refine blockQ_n ?_
         refine blockQ_n ?_
         refine seqQ_n ?_
         refine hw_reg1 ?_
         refine dp rfl (pop_add64 rfl rfl (by omega) (by omega)) ?_
         refine dp rfl (pop_move rfl) ?_
         refine dn ?_
         refine ⟨k + 1, ?_, ?_, ⟨rfl, trivial⟩, (by repeat (first | exact keeps_refl | refine keeps_upd rfl ?_ | refine keeps_loop rfl rfl ?_)), List.Perm.refl _⟩
         ·refine ⟨by omega, ?_⟩
          rw [hg, giv_next (by rw [givF, if_neg (by simp_all), if_neg (by simp_all), if_neg (by simp_all)]) (by intro hk0; simp_all)]
         ·dsimp only; omega
    ·try simp at h6
     have hnk : l.length ≤ k := by omega
     obtain rfl : k = l.length := by omega
     rw [drop_all (Nat.le_refl _)] at hg
     refine hw_exit ?_
     refine seqQ_x ?_
     refine loopQ_x ?_
     refine blockQ_eq ?_
     refine seqQ_n ?_
     refine hw_reg ?_
     refine dp rfl (pop_assign rfl) ?_
     refine dn ?_
     refine hw_ret ?_
     refine ret_p rfl ?_
     show HVal.int .i64 _ = _
     first
     | (rw [givesE, if_pos (by simpa using h1)]; done)
     | (rw [givesE, if_neg (by simpa using h2), if_pos (by omega)]; done)
     | (exact congrArg _ (giv_end (by simpa using h2) (by omega) hg))
     | (refine congrArg _ (giv_bad (e := 5) (by simpa using h2) (by omega) hg (by decide) ?_)
        rw [givF, if_pos]
        simp_all
        done)
     | (refine congrArg _ (giv_bad (e := 8) (by simpa using h2) (by omega) hg (by decide) ?_)
        rw [givF, if_neg, if_pos]
        all_goals simp_all
        done)
     | (refine congrArg _ (giv_bad (e := 16) (by simpa using h2) (by omega) hg (by decide) ?_)
        rw [givF, if_neg, if_neg, if_pos]
        all_goals simp_all
        done)
     | (refine congrArg _ (giv_ord (by simpa using h2) (by omega) hg ?_ ?_ ?_)
        ·rw [givF, if_neg, if_neg, if_neg] <;> simp_all
        ·simp_all
        ·simp_all)

/-- benchwarmer/benchref1.concerned -/
theorem c_benchref1_concerned [Tracks] {x : DealS} (hx : x.Gives.length ≤ 1000) : ConP Tryz.prog 46 [eDeal x] (eSs (concL x.Gives)) := by
 refine Con.of_body Tryz.func46 rfl Tryz.ntmps46 rfl rfl ?_
 refine hw_reg ?_
 refine dp rfl (pop_box rfl rfl) ?_
 refine dp rfl (pop_assign rfl) ?_
 refine dn ?_
 refine hw_reg ?_
 refine dp rfl (pop_assign rfl) ?_
 refine dn ?_
 refine hw_ghost (Ghost.arr_nil 1) ?_
 refine hw_seq ?_
 refine hw_reg ?_
 refine dp rfl ((by first | exact pop_fieldAddr ty47 rfl ty45 (by decide) rfl | exact pop_fieldAddr_raw ty47 rfl ty45 (by decide) rfl)) ?_
 refine dp rfl (pop_load ty45 rfl rfl rfl) ?_
 refine dp rfl (pop_lenm ty45 rfl) ?_
 refine dp rfl (pop_move rfl) ?_
 refine dn ?_
 refine hw_block ?_
 refine hw_loopw2 [3, 5, 9, 10, 11, 12, 13, 14, 15, 16, 17, 18, 19, 20] (fun (k : Nat) (u : Value) => [(9, .int .i64 k), (3, .raw u)]) (fun (k : Nat) (u : Value) => [.arr u 1 ((teamsG (x.Gives.take k)).map .str)]) (fun (k : Nat) (u : Value) => k ≤ x.Gives.length ∧ (True)) (fun (k : Nat) (u : Value) => x.Gives.length - k) (0) (.slice none 0 0) ?_ ?_ ?_ ?_
 ·exact ⟨Nat.zero_le _, trivial⟩
 ·exact ⟨rfl, rfl, trivial⟩
 ·exact perm_eq (by simp [teamsG])
 ·intro k u hinv
  obtain ⟨hk, -⟩ := hinv
  refine hw_reg ?_
  refine dp rfl (pop_lss rfl rfl) ?_
  refine dn ?_
  refine hw_seq ?_
  refine hw_cond rfl (fun h1 => ?_) (fun h2 => ?_)
  ·try simp at h1
   obtain ⟨g, hg⟩ : ∃ g, x.Gives[k]? = some g := ⟨_, List.getElem?_eq_getElem h1⟩
   have hdg := drop_cons hg
   refine hw_skip ?_
   refine seqQ_n ?_
   refine hw_seq ?_
   refine hw_block ?_
   refine hw_reg ?_
   refine dp rfl (pop_idx ty45 ty69 rfl rfl rfl (by first | assumption | simp_all)) ?_
   refine dp rfl (pop_loadw ty69 rfl rfl rfl rfl) ?_
   refine de rfl (eop_alloc ty69 rfl fun b5 => ?_)
   refine de0 (eop_storew ty69 rfl rfl rfl rfl rfl ?_)
   refine dn ?_
   refine hw_ghost (Ghost.fc0 5 rfl) ?_
   refine hw_reg1 ?_
   refine dp rfl (pop_move rfl) ?_
   refine dp rfl ((by first | exact pop_fieldAddr ty69 rfl ty9 (by decide) rfl | exact pop_fieldAddr_raw ty69 rfl ty9 (by decide) rfl)) ?_
   refine dp rfl (pop_load ty9 rfl rfl rfl) ?_
   refine dp rfl ((by first | exact pop_fieldAddr ty69 rfl ty9 (by decide) rfl | exact pop_fieldAddr_raw ty69 rfl ty9 (by decide) rfl)) ?_
   refine dp rfl (pop_load ty9 rfl rfl rfl) ?_
   refine dp rfl (pop_buildSlice (hs := [_, _]) ty26 ty9 rfl rfl (by decide) (by decide) rfl) ?_
   refine de rfl (eop_append (i := 0) ty26 ty9 rfl rfl rfl rfl rfl (by simp [flat, hcells]) (by have := teamsG_len (x.Gives.take k); simp only [List.length_map, List.length_cons, List.length_nil, List.length_take] at *; omega) fun v19 => ?_)
   refine dp rfl (pop_assign rfl) ?_
   refine dn ?_
   refine blockQ_n ?_
   refine seqQ_n ?_
   refine hw_reg1 ?_
   refine dp rfl (pop_add64 rfl rfl (by omega) (by omega)) ?_
   refine dp rfl (pop_move rfl) ?_
   refine dn ?_
   exact ⟨k + 1, v19, ⟨by omega, trivial⟩, by dsimp only; omega, ⟨rfl, rfl, trivial⟩, (by repeat (first | exact keeps_refl | refine keeps_upd rfl ?_ | refine keeps_loop rfl rfl ?_)), perm_eq (by dsimp only; rw [teamsG_take hg]; simp)⟩
  ·try simp at h2
   have hnk : x.Gives.length ≤ k := by omega
   obtain rfl : k = x.Gives.length := by omega
   rw [List.take_length]
   refine hw_exit ?_
   refine seqQ_x ?_
   refine loopQ2_x ?_
   refine blockQ_eq ?_
   refine seqQ_n ?_
   refine hw_ghost (Ghost.fa 3 (i := 0) rfl rfl) ?_
   refine hw_reg ?_
   refine dp rfl (pop_move rfl) ?_
   refine de rfl (eop_calla ca93 rfl (WeakL.refl _) (c_benchref1_once (l := teamsG x.Gives) (by rw [teamsG_len]; omega)) fun v22 => ?_)
   refine dp rfl (pop_assign rfl) ?_
   refine dn ?_
   refine hw_ret ?_
   exact ret_fa (M := []) 2 rfl rfl rfl

/-- benchwarmer/benchref1.OffersFault -/
theorem c_benchref1_OffersFault [Tracks] {m : MarketS} {l : List DealS} (ht : m.Teams.length ≤ 1000000) (hl : l.length ≤ 1000000) (hx : ∀ x ∈ l, x.Id.length ≤ 1000000 ∧ x.Gives.length ≤ 1000000 ∧ ∀ g ∈ x.Gives, g.Player.length ≤ 1000000) : ConP Tryz.prog 10 [eMarket m, eDeals l] (.int .i64 (dealsR m l)) := by
 refine Con.of_body Tryz.func10 rfl Tryz.ntmps10 rfl rfl ?_
 refine hw_reg ?_
 refine dp rfl (pop_box rfl rfl) ?_
 refine dp rfl (pop_assign rfl) ?_
 refine dn ?_
 refine hw_seq ?_
 refine hw_reg ?_
 refine dp rfl (pop_move rfl) ?_
 refine dp rfl (pop_lenm ty30 rfl) ?_
 refine dp rfl (pop_gtr rfl rfl) ?_
 refine dn ?_
 refine hw_cond rfl (fun h1 => ?_) (fun h2 => ?_)
 ·try simp at h1
  refine hw_reg ?_
  refine dp rfl (pop_assign rfl) ?_
  refine dn ?_
  refine hw_ret ?_
  refine ret_p rfl ?_
  show HVal.int .i64 _ = _
  first
  | (exact congrArg _ (deal_big (by omega)))
  | (exact congrArg _ (deal_end (by omega) hg))
  | (refine congrArg _ (deal_bad (by omega) hg (by decide) ?_)
     rw [dealF]; simp_all
     done)
  | (refine congrArg _ (deal_bad (by omega) hg ?_ ?_)
     ·simp_all
     ·rw [dealF]; simp_all
     done)
  | (refine congrArg _ (deal_ord (by omega) hg ?_ ?_ ?_)
     ·rw [dealF]; simp_all
     ·simp_all
     ·simp_all)
 ·try simp at h2
  refine hw_skip ?_
  refine seqQ_n ?_
  refine hw_seq ?_
  refine hw_reg ?_
  refine dp rfl (pop_move rfl) ?_
  refine dp rfl (pop_lenm ty30 rfl) ?_
  refine dp rfl (pop_move rfl) ?_
  refine dn ?_
  refine hw_block ?_
  refine hw_loopw (4 :: 5 :: 6 :: 7 :: 8 :: 14 :: 15 :: 16 :: 17 :: 18 :: 19 :: 20 :: 21 :: 22 :: 23 :: 24 :: 25 :: 26 :: 27 :: 28 :: 29 :: 30 :: 31 :: 32 :: 33 :: 34 :: 35 :: 36 :: 37 :: 38 :: 39 :: 40 :: 41 :: 42 :: 43 :: 44 :: 45 :: 46 :: 47 :: 48 :: 49 :: 50 :: 51 :: 52 :: 53 :: 54 :: 55 :: 56 :: 57 :: 58 :: 59 :: 60 :: 61 :: 62 :: 63 :: 64 :: 65 :: 66 :: 67 :: 68 :: 69 :: 70 :: 71 :: 72 :: 73 :: 74 :: 75 :: 76 :: []) (fun (k : Nat) => [(14, .int .i64 k)]) (fun (k : Nat) => []) (fun (k : Nat) => k ≤ l.length ∧ (chkGo (dealF m) byDeal deal0 l 0 l = chkGo (dealF m) byDeal deal0 l k (l.drop k))) (fun (k : Nat) => l.length - k) (0) ?_ ?_ ?_ ?_
  ·exact ⟨Nat.zero_le _, rfl⟩
  ·exact ⟨rfl, trivial⟩
  ·exact List.Perm.refl _
  ·intro k hinv
   obtain ⟨hk, hg⟩ := hinv
   refine hw_reg ?_
   refine dp rfl (pop_lss rfl rfl) ?_
   refine dn ?_
   refine hw_seq ?_
   refine hw_cond rfl (fun h3 => ?_) (fun h4 => ?_)
   ·try simp at h3
    obtain ⟨y, hy⟩ : ∃ y, l[k]? = some y := ⟨_, List.getElem?_eq_getElem h3⟩
    have hdy := drop_cons hy
    rw [hdy] at hg
    refine hw_skip ?_
    refine seqQ_n ?_
    refine hw_seq ?_
    refine hw_block ?_
    refine hw_reg ?_
    refine dp rfl (pop_move rfl) ?_
    refine dp rfl (pop_idx ty30 ty47 rfl rfl rfl (by first | assumption | simp_all)) ?_
    refine dp rfl (pop_loadw ty47 rfl rfl rfl rfl) ?_
    refine de rfl (eop_alloc ty47 rfl fun b6 => ?_)
    refine dp rfl (pop_assign rfl) ?_
    refine de0 (eop_storew ty47 rfl rfl rfl rfl rfl ?_)
    refine dn ?_
    refine hw_ghost (Ghost.fc0 6 rfl) ?_
    refine hw_reg ?_
    refine dp rfl (pop_fieldAddr ty47 rfl ty44 (by decide) rfl) ?_
    refine dp rfl (pop_eq (h' := .agg [.int .i64 y.From, .int .i64 y.To]) (pop_loada ty44 rfl rfl (Nat.le_of_ble_eq_true rfl)) rfl) ?_
    refine de rfl (eop_alloc ty44 rfl fun b7 => ?_)
    refine de0 (eop_storew ty44 rfl rfl rfl rfl rfl ?_)
    refine dn ?_
    refine hw_ghost (Ghost.fc0 7 rfl) ?_
    refine hw_seq ?_
    refine hw_block ?_
    refine hw_reg ?_
    refine dp rfl (pop_fieldAddr ty47 rfl ty9 (by decide) rfl) ?_
    refine dp rfl (pop_load ty9 rfl rfl rfl) ?_
    refine dp rfl (pop_call ca37 rfl (WeakL.refl _) (c_benchref1_Key (hx y (List.mem_of_getElem? hy)).1)) ?_
    refine dp rfl (pop_not rfl) ?_
    refine dp rfl (pop_assign rfl) ?_
    refine dn ?_
    refine hw_cond rfl (fun h5 => ?_) (fun h6 => ?_)
    ·try simp at h5
     refine hw_reg ?_
     refine dp rfl (pop_assign rfl) ?_
     refine dn ?_
     refine hw_ret ?_
     refine ret_p rfl ?_
     show HVal.int .i64 _ = _
     first
     | (exact congrArg _ (deal_big (by omega)))
     | (exact congrArg _ (deal_end (by omega) hg))
     | (refine congrArg _ (deal_bad (by omega) hg (by decide) ?_)
        rw [dealF]; simp_all
        done)
     | (refine congrArg _ (deal_bad (by omega) hg ?_ ?_)
        ·simp_all
        ·rw [dealF]; simp_all
        done)
     | (refine congrArg _ (deal_ord (by omega) hg ?_ ?_ ?_)
        ·rw [dealF]; simp_all
        ·simp_all
        ·simp_all)
    ·try simp at h6
     refine hw_reg ?_
     refine dp rfl (pop_loadw ty28 rfl rfl rfl rfl) ?_
     refine dp rfl (pop_fieldAddr ty47 rfl ty9 (by decide) rfl) ?_
     refine dp rfl (pop_load ty9 rfl rfl rfl) ?_
     refine dp rfl (pop_call ca43 rfl (WeakL.refl _) (c_benchref1_hasTeam (by first | assumption | omega | (simp; omega) | simp_all))) ?_
     refine dp rfl (pop_not rfl) ?_
     refine dp rfl (pop_assign rfl) ?_
     refine dn ?_
     refine hw_cond rfl (fun h7 => ?_) (fun h8 => ?_)
     ·try simp at h7
      refine hw_reg ?_
      refine dp rfl (pop_assign rfl) ?_
      refine dn ?_
      refine hw_ret ?_
      refine ret_p rfl ?_
      show HVal.int .i64 _ = _
      first
      | (exact congrArg _ (deal_big (by omega)))
      | (exact congrArg _ (deal_end (by omega) hg))
      | (refine congrArg _ (deal_bad (by omega) hg (by decide) ?_)
         rw [dealF]; simp_all
         done)
      | (refine congrArg _ (deal_bad (by omega) hg ?_ ?_)
         ·simp_all
         ·rw [dealF]; simp_all
         done)
      | (refine congrArg _ (deal_ord (by omega) hg ?_ ?_ ?_)
         ·rw [dealF]; simp_all
         ·simp_all
         ·simp_all)
     ·try simp at h8
      refine hw_reg ?_
      refine dp rfl (pop_fieldAddr ty44 rfl ty3 (by decide) rfl) ?_
      refine dp rfl (pop_load ty3 rfl rfl rfl) ?_
      refine dp rfl (pop_lss rfl rfl) ?_
      refine dp rfl (pop_move rfl) ?_
      refine dg rfl rfl (fun hc => ⟨_, OpenTo.refl _, pop_fieldAddr ty44 rfl ty3 (by decide) rfl⟩) ?_
      refine dg rfl rfl (fun hc => ⟨_, OpenTo.upd (t := 37) rfl (by first | exact hc | simp_all) (OpenTo.refl _), pop_load ty3 rfl rfl rfl⟩) ?_
      refine dg rfl rfl (fun hc => ⟨_, OpenTo.refl _, pop_fieldAddr ty44 rfl ty3 (by decide) rfl⟩) ?_
      refine dg rfl rfl (fun hc => ⟨_, OpenTo.upd (t := 39) rfl (by first | exact hc | simp_all) (OpenTo.refl _), pop_load ty3 rfl rfl rfl⟩) ?_
      refine dg rfl rfl (fun hc => ⟨_, OpenTo.upd (t := 40) rfl (by first | exact hc | simp_all) (OpenTo.upd (t := 38) rfl (by first | exact hc | simp_all) (OpenTo.refl _)), pop_geq rfl rfl⟩) ?_
      refine dp rfl (pop_picko rfl (.inl rfl) (.inr ⟨_, rfl, fun h => by simp_all⟩)) ?_
      refine dp rfl (pop_move rfl) ?_
      refine dg rfl rfl (fun hc => ⟨_, OpenTo.refl _, pop_fieldAddr ty44 rfl ty3 (by decide) rfl⟩) ?_
      refine dg rfl rfl (fun hc => ⟨_, OpenTo.upd (t := 44) rfl (by first | exact hc | simp_all) (OpenTo.refl _), pop_load ty3 rfl rfl rfl⟩) ?_
      refine dg rfl rfl (fun hc => ⟨_, OpenTo.upd (t := 45) rfl (by first | exact hc | simp_all) (OpenTo.refl _), pop_gtr rfl rfl⟩) ?_
      refine dp rfl (pop_picko rfl (.inl rfl) (.inr ⟨_, rfl, fun h => by simp_all⟩)) ?_
      refine dp rfl (pop_assign rfl) ?_
      refine dn ?_
      refine hw_cond rfl (fun h9 => ?_) (fun h10 => ?_)
      ·try simp at h9
       have hw := window_t h9
       refine hw_reg ?_
       refine dp rfl (pop_assign rfl) ?_
       refine dn ?_
       refine hw_ret ?_
       refine ret_p rfl ?_
       show HVal.int .i64 _ = _
       first
       | (exact congrArg _ (deal_big (by omega)))
       | (exact congrArg _ (deal_end (by omega) hg))
       | (refine congrArg _ (deal_bad (by omega) hg (by decide) ?_)
          rw [dealF]; simp_all
          done)
       | (refine congrArg _ (deal_bad (by omega) hg ?_ ?_)
          ·simp_all
          ·rw [dealF]; simp_all
          done)
       | (refine congrArg _ (deal_ord (by omega) hg ?_ ?_ ?_)
          ·rw [dealF]; simp_all
          ·simp_all
          ·simp_all)
      ·try simp at h10
       refine hw_skip ?_
       refine blockQ_n ?_
       refine seqQ_n ?_
       refine hw_seq ?_
       obtain ⟨hw1, hw2⟩ := window_f h10
       refine hw_reg ?_
       refine dp rfl (pop_loadw ty28 rfl rfl rfl rfl) ?_
       refine dp rfl (pop_fieldAddr ty47 rfl ty45 (by decide) rfl) ?_
       refine dp rfl (pop_load ty45 rfl rfl rfl) ?_
       refine dp rfl (pop_call ca44 rfl (WeakL.refl _) (c_benchref1_givesFault (l := y.Gives) ht (hx y (List.mem_of_getElem? hy)).2.1 (hx y (List.mem_of_getElem? hy)).2.2)) ?_
       refine dp rfl (pop_assign rfl) ?_
       refine dn ?_
       refine hw_reg ?_
       refine dp rfl (pop_move rfl) ?_
       refine dp rfl (pop_neq rfl rfl) ?_
       refine dn ?_
       refine hw_cond rfl (fun h11 => ?_) (fun h12 => ?_)
       ·try simp at h11
        refine hw_reg ?_
        refine dp rfl (pop_move rfl) ?_
        refine dp rfl (pop_assign rfl) ?_
        refine dn ?_
        refine hw_ret ?_
        refine ret_p rfl ?_
        show HVal.int .i64 _ = _
        first
        | (exact congrArg _ (deal_big (by omega)))
        | (exact congrArg _ (deal_end (by omega) hg))
        | (refine congrArg _ (deal_bad (by omega) hg (by decide) ?_)
           rw [dealF]; simp_all
           done)
        | (refine congrArg _ (deal_bad (by omega) hg ?_ ?_)
           ·simp_all
           ·rw [dealF]; simp_all
           done)
        | (refine congrArg _ (deal_ord (by omega) hg ?_ ?_ ?_)
           ·rw [dealF]; simp_all
           ·simp_all
           ·simp_all)
       ·try simp at h12
        refine hw_skip ?_
        refine seqQ_n ?_
        refine hw_block ?_
        obtain ⟨hgo1, hgo2, _⟩ := givesE_ok (m := m) (l := y.Gives) (by simp_all)
        refine hw_draw (fun _ => True) [] mixed ?_
        refine ahp 0 rfl rfl (by kernel_rfl) (by kernel_rfl) (pop_loadw ty47 rfl rfl rfl rfl) ?_
        refine ahp 1 rfl rfl (by kernel_rfl) (by kernel_rfl) (pop_call ca46 rfl (WeakL.refl _) (c_benchref1_concerned (by first | assumption | omega | (simp; omega) | simp_all))) ?_
        refine ahp 2 rfl rfl (by kernel_rfl) (by kernel_rfl) (pop_fieldAddr ty47 rfl ty9 (by decide) rfl) ?_
        refine ahp 3 rfl rfl (by kernel_rfl) (by kernel_rfl) (pop_load ty9 rfl rfl rfl) ?_
        refine ahp 4 rfl rfl (by kernel_rfl) (by kernel_rfl) (pop_call ca45 rfl (WeakL.refl _) (c_slices_Contains_string_string (l := concL y.Gives) (s := y.By) (by have := concL_len y.Gives; omega))) ?_
        refine ahp 5 rfl rfl (by kernel_rfl) (by kernel_rfl) (pop_not rfl) ?_
        refine ahp 6 rfl rfl (by kernel_rfl) (by kernel_rfl) (pop_assign rfl) ?_
        refine ahz (by kernel_rfl) ?_
        refine hw_cond rfl (fun h13 => ?_) (fun h14 => ?_)
        ·try simp at h13
         refine hw_reg ?_
         refine dp rfl (pop_assign rfl) ?_
         refine dn ?_
         refine hw_ret ?_
         refine ret_p rfl ?_
         show HVal.int .i64 _ = _
         first
         | (exact congrArg _ (deal_big (by omega)))
         | (exact congrArg _ (deal_end (by omega) hg))
         | (refine congrArg _ (deal_bad (by omega) hg (by decide) ?_)
            rw [dealF]; simp_all
            done)
         | (refine congrArg _ (deal_bad (by omega) hg ?_ ?_)
            ·simp_all
            ·rw [dealF]; simp_all
            done)
         | (refine congrArg _ (deal_ord (by omega) hg ?_ ?_ ?_)
            ·rw [dealF]; simp_all
            ·simp_all
            ·simp_all)
        ·try simp at h14
         refine hw_draw (fun _ => True) [] mixed ?_
         refine ahp 0 rfl rfl (by kernel_rfl) (by kernel_rfl) (pop_move rfl) ?_
         refine ahp 1 rfl rfl (by kernel_rfl) (by kernel_rfl) (pop_gtr rfl rfl) ?_
         refine ahp 2 rfl rfl (by kernel_rfl) (by kernel_rfl) (pop_move rfl) ?_
         refine ahg 3 rfl rfl (by kernel_rfl) (by kernel_rfl) rfl (fun hc => ⟨_, OpenTo.refl _, pop_fieldAddr ty47 rfl ty9 (by decide) rfl⟩) ?_
         refine ahg 4 rfl rfl (by kernel_rfl) (by kernel_rfl) rfl (fun hc => ⟨_, OpenTo.upd (t := 66) rfl (by first | exact hc | simp_all) (OpenTo.refl _), pop_load ty9 rfl rfl rfl⟩) ?_
         refine ahg 5 rfl rfl (by kernel_rfl) (by kernel_rfl) rfl (fun hc => ⟨_, OpenTo.refl _, pop_move rfl⟩) ?_
         refine ahg 6 rfl rfl (by kernel_rfl) (by kernel_rfl) rfl (fun hc => ⟨_, OpenTo.refl _, pop_move rfl⟩) ?_
         refine ahg 7 rfl rfl (by kernel_rfl) (by kernel_rfl) rfl (fun hc => by have hq := hc; (try simp at hq); exact ⟨_, OpenTo.upd (t := 69) rfl (by first | exact hc | simp_all) (OpenTo.refl _), pop_sub64 rfl rfl (by omega) (by omega)⟩) ?_
         refine ahg 8 rfl rfl (by kernel_rfl) (by kernel_rfl) rfl (fun hc => by have hq := hc; (try simp at hq); exact ⟨_, OpenTo.upd (t := 70) rfl (by first | exact hc | simp_all) (OpenTo.upd (t := 68) rfl (by first | exact hc | simp_all) (OpenTo.refl _)), pop_idx (j := k - 1) (a := l.getD (k - 1) deal0) ty30 ty47 rfl rfl (by omega) (getD_some (by omega))⟩) ?_
         refine ahg 9 rfl rfl (by kernel_rfl) (by kernel_rfl) rfl (fun hc => ⟨_, OpenTo.upd (t := 71) rfl (by first | exact hc | simp_all) (OpenTo.refl _), pop_fieldAddr ty47 rfl ty9 (by decide) rfl⟩) ?_
         refine ahg 10 rfl rfl (by kernel_rfl) (by kernel_rfl) rfl (fun hc => ⟨_, OpenTo.upd (t := 72) rfl (by first | exact hc | simp_all) (OpenTo.refl _), pop_load ty9 rfl rfl rfl⟩) ?_
         refine ahg 11 rfl rfl (by kernel_rfl) (by kernel_rfl) rfl (fun hc => ⟨_, OpenTo.upd (t := 73) rfl (by first | exact hc | simp_all) (OpenTo.upd (t := 67) rfl (by first | exact hc | simp_all) (OpenTo.refl _)), pop_leqs rfl rfl⟩) ?_
         refine ahp 12 rfl rfl (by kernel_rfl) (by kernel_rfl) (pop_picko rfl (.inr ⟨_, rfl, fun h => by simp_all⟩) (.inl rfl)) ?_
         refine ahp 13 rfl rfl (by kernel_rfl) (by kernel_rfl) (pop_assign rfl) ?_
         refine ahz (by kernel_rfl) ?_
         refine hw_cond rfl (fun h15 => ?_) (fun h16 => ?_)
         ·try simp at h15
          refine hw_reg ?_
          refine dp rfl (pop_assign rfl) ?_
          refine dn ?_
          refine hw_ret ?_
          refine ret_p rfl ?_
          show HVal.int .i64 _ = _
          first
          | (exact congrArg _ (deal_big (by omega)))
          | (exact congrArg _ (deal_end (by omega) hg))
          | (refine congrArg _ (deal_bad (by omega) hg (by decide) ?_)
             rw [dealF]; simp_all
             done)
          | (refine congrArg _ (deal_bad (by omega) hg ?_ ?_)
             ·simp_all
             ·rw [dealF]; simp_all
             done)
          | (refine congrArg _ (deal_ord (by omega) hg ?_ ?_ ?_)
             ·rw [dealF]; simp_all
             ·simp_all
             ·simp_all)
         ·try simp at h16
          refine hw_skip ?_
          refine blockQ_n ?_
          refine blockQ_n ?_
          refine seqQ_n ?_
          refine hw_reg1 ?_
          refine dp rfl (pop_add64 rfl rfl (by omega) (by omega)) ?_
          refine dp rfl (pop_move rfl) ?_
          refine dn ?_
          refine ⟨k + 1, ?_, ?_, ⟨rfl, trivial⟩, (by repeat (first | exact keeps_refl | refine keeps_upd rfl ?_ | refine keeps_loop rfl rfl ?_)), List.Perm.refl _⟩
          ·refine ⟨by omega, ?_⟩
           rw [hg, deal_next ?_ (by intro hk0; simp_all)]
           rw [dealF]; simp_all
          ·dsimp only; omega
   ·try simp at h4
    have hnk : l.length ≤ k := by omega
    obtain rfl : k = l.length := by omega
    rw [drop_all (Nat.le_refl _)] at hg
    refine hw_exit ?_
    refine seqQ_x ?_
    refine loopQ_x ?_
    refine blockQ_eq ?_
    refine seqQ_n ?_
    refine hw_reg ?_
    refine dp rfl (pop_assign rfl) ?_
    refine dn ?_
    refine hw_ret ?_
    refine ret_p rfl ?_
    show HVal.int .i64 _ = _
    first
    | (exact congrArg _ (deal_big (by omega)))
    | (exact congrArg _ (deal_end (by omega) hg))
    | (refine congrArg _ (deal_bad (by omega) hg (by decide) ?_)
       rw [dealF]; simp_all
       done)
    | (refine congrArg _ (deal_bad (by omega) hg ?_ ?_)
       ·simp_all
       ·rw [dealF]; simp_all
       done)
    | (refine congrArg _ (deal_ord (by omega) hg ?_ ?_ ?_)
       ·rw [dealF]; simp_all
       ·simp_all
       ·simp_all)

end Go.Proofs.YtdjpppifnmjhoaaGreatDoor
end
section
namespace Go.Proofs.YtdjpppifnmjhoaaGreatDoor
open Go.HL
set_option maxRecDepth 100000
set_option linter.unusedVariables false
set_option linter.unusedSimpArgs false
end Go.Proofs.YtdjpppifnmjhoaaGreatDoor
end
section
namespace Go.Proofs.YtdjpppifnmjhoaaGreatDoor
open Go.HL
set_option maxRecDepth 100000
set_option linter.unusedVariables false
set_option linter.unusedSimpArgs false
end Go.Proofs.YtdjpppifnmjhoaaGreatDoor
end
