/- The statement is proved: the card of the law, out of its function's contract; no conditions. -/
import Derived.Test.YtkcnenknbbcoiaaGreatDoorQTopDraftedCanTrade4
import Derived.Handed
import Derived.KernelRfl
import Derived.LaidMore
import Derived.Lay
import Derived.Lib.AtoiBound
import Derived.Lib.ItoaMem
import Derived.Lib.Join
import Derived.Lib.SplitLaws
import Derived.Lib.Strings
import Derived.OpenShut
import Derived.ProofKit
import Derived.SevenTiedAt
import Derived.Shelf.Slices.CompactI
import Derived.Shelf.Slices.In.SortNone
import Derived.Shelf.Sort.Plain
import Derived.Shelf.Vars
import Derived.Stop.Joined
import Derived.Test.YtkcnenknbbcoiaaGreatDoorCards
import Derived.Test.YtkcnenknbbcoiaaGreatDoorTie
set_option linter.unusedVariables false
set_option linter.unusedSimpArgs false
namespace Go.HL
section
theorem zsd {α β : Type} {f : α → β} {l : List α} (h : (l.map f).Nodup) {x y : α} (hx : x ∈ l) (hy : y ∈ l) (e : f x = f y) : x = y := by
 have h1 : l.Pairwise fun a b => f a ≠ f b := List.pairwise_map.1 h
 rcases znb h1 x hx y hy with q | q | q
 ·exact q
 ·exact absurd e q
 ·exact absurd e.symm q
theorem zhC {l : List Str} : ∀ (t : List Str) (k : Nat), l.drop k = t → zbC l k t = 0 → (l.take k).Nodup → l.Nodup
 | [], k, hd, _, hn => by
   have : l.length ≤ k := by simpa using hd
   rwa [List.take_of_length_le this] at hn
 | x :: t, k, hd, h, hn => by
   have hx : l[k]? = some x := by
    have := congrArg (fun q => q[0]?) hd
    simpa [List.getElem?_drop] using this
   have hd' : l.drop (k + 1) = t := by
    have := zI hx
    rw [hd] at this
    exact (List.cons.inj this).2.symm
   rw [zbC] at h
   split at h
   ·omega
   ·split at h
    ·omega
    ·rename_i hc
     refine zhC t (k + 1) hd' h ?_
     rw [zae hx]
     refine List.nodup_append.2 ⟨hn, by simp, fun a ha b hb e => ?_⟩
     rw [List.mem_singleton] at hb
     subst hb e
     exact hc (by simpa using ha)
theorem zfp {r : Room} (h : zQ r = 0) : r.Teams.Nodup := by
 unfold zQ at h
 have h1 : teamsFault r.Teams = 0 := by
  refine Classical.byContradiction fun hc => ?_
  rw [if_pos (by simpa using hc)] at h; exact hc h
 unfold teamsFault at h1
 split at h1
 ·omega
 ·split at h1
  ·omega
  ·exact zhC r.Teams 0 rfl h1 (by simp)
theorem zhF {r : Room} {l : List Keep} : ∀ (t : List Keep) (k : Nat) (kept : List Str) (tw : Bool), zbJ r l k kept tw t = 0 → tw = false ∧ (t.map (·.Player)).Nodup ∧ ∀ x ∈ t, x.Player ∉ kept
 | [], k, kept, tw, h => by
   unfold zbJ at h
   cases tw with
   | false => exact ⟨rfl, by simp, by simp⟩
   | true => simp at h
 | x :: t, k, kept, tw, h => by
   rw [zbJ] at h
   split at h
   ·omega
   split at h
   ·omega
   split at h
   ·omega
   obtain ⟨h1, h2, h3⟩ := zhF t _ _ _ h
   simp only [Bool.or_eq_false_iff] at h1
   have h4 : x.Player ∉ kept := by have := h1.2; simpa using this
   refine ⟨h1.1, ?_, fun y hy => ?_⟩
   ·rw [List.map_cons, List.nodup_cons]
    refine ⟨fun hm => ?_, h2⟩
    obtain ⟨y, hy, e⟩ := List.mem_map.1 hm
    exact h3 y hy ((zmQ _ _ _).2 (.inl e))
   ·rcases List.mem_cons.1 hy with rfl | hy
    ·exact h4
    ·exact fun hk => h3 y hy ((zmQ _ _ _).2 (.inr hk))
theorem zn0 {r : Room} {k : List Keep} (h : zaT r k = 0) : (k.map (·.Player)).Nodup := by
 unfold zaT at h
 split at h
 ·rename_i hc; simp [h] at hc
 ·split at h
  ·omega
  ·exact (zhF k 0 [] false h).2.1
theorem zjx {r : Room} {s : List Swap} (hn : r.Teams.Nodup) : ∀ n, ((zay r s n).map fun t => (t.round, t.of)).Nodup ∧ ∀ t ∈ zay r s n, t.round ≤ n
 | 0 => ⟨by simp [zay], fun t h => by simp [zay] at h⟩
 | n + 1 => by
   obtain ⟨h1, h2⟩ := zjx (s := s) hn n
   have hT : (if backwards r.Way ((n : Int) + 1) then r.Teams.reverse else r.Teams).Nodup := by
    split
    ·exact (List.reverse_perm _).nodup_iff.2 hn
    ·exact hn
   have e1 : (zbL r s ((n : Int) + 1)).map (fun t => (t.round, t.of)) = (if backwards r.Way ((n : Int) + 1) then r.Teams.reverse else r.Teams).map fun t => ((n : Int) + 1, t) := by
    unfold zbL; rw [List.map_map]; rfl
   refine ⟨?_, fun t ht => ?_⟩
   ·rw [zay, List.map_append, e1]
    refine List.nodup_append.2 ⟨h1, ?_, fun a ha b hb e => ?_⟩
    ·exact List.pairwise_map.2 (hT.imp fun {a b} hab e => hab (Prod.mk.inj e).2)
    ·subst e
     obtain ⟨t, ht, rfl⟩ := List.mem_map.1 ha
     obtain ⟨u, _, e⟩ := List.mem_map.1 hb
     have := h2 t ht
     have := (Prod.mk.inj e).1
     omega
   ·rw [zay] at ht
    rcases List.mem_append.1 ht with ht | ht
    ·have := h2 t ht; omega
    ·unfold zbL at ht
     obtain ⟨u, _, rfl⟩ := List.mem_map.1 ht
     dsimp only; omega
theorem zfl (r : Room) (k : List Keep) : ∀ (t : List Turn) (i : Nat), (zak r k i t).map (·.Team) = t.map (·.team)
 | [], i => rfl
 | x :: t, i => by rw [zak, List.map_cons, List.map_cons, zfl r k t (i + 1), (zg4 r x k _).2]
theorem zid {r : Room} {k : List Keep} {p : Pick} {i : Nat} {ts : List Turn} (hp : p ∈ zak r k i ts) (hi : isP p = true) : ∃ t ∈ ts, ∃ x ∈ k, zcr t x = true ∧ p.Player = x.Player := by
 obtain ⟨j, t, ht, rfl⟩ := zfR ts i hp
 rcases zeC r t k ⟨j, t.team, [], 0, false⟩ with h | ⟨x, hx, hf, e⟩
 ·unfold isP at hi; rw [h] at hi; simp at hi
 ·exact ⟨t, ht, x, hx, hf, e⟩
theorem zkF {r : Room} {k : List Keep} (hk : (k.map (·.Player)).Nodup) : ∀ (ts : List Turn) (i : Nat), (ts.map fun t => (t.round, t.of)).Nodup → (((zak r k i ts).filter isP).map (·.Player)).Nodup
 | [], i, _ => by simp [zak]
 | t :: ts, i, hn => by
   have h1 := List.nodup_cons.1 hn
   have ih := zkF (r := r) hk ts (i + 1) h1.2
   rw [zak, List.filter_cons]
   split
   ·rename_i hp
    rw [List.map_cons, List.nodup_cons]
    refine ⟨fun hm => ?_, ih⟩
    obtain ⟨q, hq, e⟩ := List.mem_map.1 hm
    obtain ⟨hq1, hq2⟩ := List.mem_filter.1 hq
    obtain ⟨t', ht', y, hy, fy, ey⟩ := zid hq1 hq2
    rcases zeC r t k ⟨i, t.team, [], 0, false⟩ with h | ⟨x, hx, fx, ex⟩
    ·unfold isP at hp; rw [h] at hp; simp at hp
    ·have hxy : x = y := zsd hk hx hy (by rw [← ex, ← ey, e])
     subst hxy
     simp only [zcr, decide_eq_true_eq] at fx fy
     exact h1.1 (List.mem_map.2 ⟨t', ht', by show (t'.round, t'.of) = (t.round, t.of); rw [← fx.1, ← fx.2, fy.1, fy.2]⟩)
   ·exact ih
theorem zkJ : ∀ {T : List Str} {A : List Pick}, T.Nodup → (∀ p ∈ A, p.Team ∈ T) → (T.flatMap fun t => A.filter fun p => p.Team == t).Perm A
 | [], A, _, h => by
   cases A with
   | nil => exact List.Perm.refl _
   | cons p A => exact absurd (h p List.mem_cons_self) (by simp)
 | t :: T, A, hn, h => by
   have h1 := List.nodup_cons.1 hn
   rw [List.flatMap_cons]
   have e : (T.flatMap fun u => A.filter fun p => p.Team == u) = T.flatMap fun u => (A.filter fun p => !(p.Team == t)).filter fun p => p.Team == u := by
    have key : ∀ U : List Str, (∀ u ∈ U, u ≠ t) → (U.flatMap fun u => A.filter fun p => p.Team == u) = U.flatMap fun u => (A.filter fun p => !(p.Team == t)).filter fun p => p.Team == u := fun U => by
     induction U with
     | nil => intro _; rfl
     | cons u U ih =>
       intro hU
       rw [List.flatMap_cons, List.flatMap_cons, ih fun v hv => hU v (List.mem_cons_of_mem _ hv), List.filter_filter]
       congr 1
       refine List.filter_congr fun p _ => ?_
       by_cases hp : p.Team = u
       ·have := hU u List.mem_cons_self; simp [hp, this]
       ·simp [hp]
    exact key T fun u hu e => h1.1 (e ▸ hu)
   rw [e]
   have ih := zkJ (A := A.filter fun p => !(p.Team == t)) h1.2 fun p hp => by
    obtain ⟨a, b⟩ := List.mem_filter.1 hp
    rcases List.mem_cons.1 (h p a) with q | q
    ·simp [q] at b
    ·exact q
   exact (ih.append_left _).trans (List.filter_append_perm _ _)
def cntT (l : List Str) (t : Str) : Int := ((l.filter fun o => o == t).length : Int)
section
variable {r : Room} {k : List Keep} {s : List Swap} {l : List Pick} {w : List Wish}
theorem zjK (h : zaf r k s l = 0) : ∀ i, i ≤ l.length → (zdh (z8 r k s) (l.take i)).map (·.Team) = (turns r s).map (·.team)
 | 0, _ => by simp [zdh, z8, zfl]
 | i + 1, hi => by
   obtain ⟨x, hx⟩ : ∃ x, l[i]? = some x := ⟨_, List.getElem?_eq_getElem (by omega)⟩
   rw [zlQ hx, zfo, List.map_set, zjK h i (by omega)]
   obtain ⟨h1, h2, h3⟩ := zbF h
   obtain ⟨_, a2, a3, _, _⟩ := zhV (zed l 0 rfl h3 i x (Nat.zero_le _) hx)
   have hl : (l.take i).length = i := by rw [List.length_take]; omega
   rw [hl] at a2 a3
   have hg := getD_some (d := za3) (show i < (zX r k s).length by omega)
   have hA := (zif h i (by omega)).free i _ (Nat.le_refl _) hg
   rw [← a2] at hA
   have e : ((turns r s).map (·.team))[x.No.toNat]? = some x.Team := by
    rw [← zjK h i (by omega), List.getElem?_map, hA, a3]; rfl
   exact setM_id e
where
 setM_id {α : Type} : ∀ {M : List α} {i : Nat} {m : α}, M[i]? = some m → M.set i m = M
 | [], i, m, h => by simp at h
 | x :: M, 0, m, h => by simp at h; simp [h]
 | x :: M, i + 1, m, h => by simp at h; simp [setM_id h]
theorem zjG (h : zaf r k s l = 0) : (l.map (·.Player)).Nodup ∧ ∀ p ∈ l, p.Player ∈ r.Players ∧ k.any (fun x => x.Player == p.Player) = false := by
 obtain ⟨h1, h2, h3⟩ := zbF h
 have key : ∀ (j : Nat) (p : Pick), l[j]? = some p → p.Player ∈ r.Players ∧ zba k (l.take j) p.Player = false := fun j p hp => by
  obtain ⟨_, _, _, a4, a5⟩ := zhV (zed l 0 rfl h3 j p (Nat.zero_le _) hp)
  exact ⟨a4, a5⟩
 refine ⟨List.pairwise_map.2 (List.pairwise_iff_getElem.2 fun i j hi hj hij e => ?_), fun p hp => ?_⟩
 ·obtain ⟨_, b⟩ := key j l[j] (List.getElem?_eq_getElem hj)
  simp only [zba, Bool.or_eq_false_iff] at b
  have b2 := b.2
  rw [List.any_eq_false] at b2
  have hm : l[i] ∈ l.take j := List.mem_of_getElem? (i := i) (by rw [List.getElem?_take_of_lt hij]; exact List.getElem?_eq_getElem hi)
  exact b2 l[i] hm (by simpa using e)
 ·obtain ⟨j, hj⟩ := List.getElem?_of_mem hp
  obtain ⟨a, b⟩ := key j p hj
  simp only [zba, Bool.or_eq_false_iff] at b
  exact ⟨a, b.1⟩
theorem zjZ (h : zaf r k s l = 0) (hl : l.length = (zX r k s).length) : (zdh (z8 r k s) l).filter isP = zdh (z8 r k s) l := by
 have ok := zif h l.length (Nat.le_refl _)
 rw [List.take_length] at ok
 have e1 := ok.perm.length_eq
 rw [List.take_length, List.length_append, hl] at e1
 have e2 : ((z8 r k s).filter isP).length + (zX r k s).length = (z8 r k s).length := by
  have := (List.filter_append_perm isP (z8 r k s)).length_eq
  rw [List.length_append] at this
  have e3 : (z8 r k s).filter (fun a => !isP a) = zX r k s := by
   unfold zX; refine List.filter_congr fun p _ => ?_; simp [isP]
  rw [e3] at this; exact this
 have e3 := ok.len
 exact List.Sublist.eq_of_length List.filter_sublist (by omega)
theorem znP (h : zaf r k s l = 0) (hl : l.length = (zX r k s).length) : ((zdh (z8 r k s) l).map (·.Player)).Nodup ∧ ∀ n ∈ r.Players, (n ∈ (zdh (z8 r k s) l).map (·.Player) ↔ zba k l n = true) := by
 have ok := zif h l.length (Nat.le_refl _)
 rw [List.take_length] at ok
 have hp := ok.perm
 rw [List.take_length, zjZ h hl] at hp
 have ho := (zbF h).1
 obtain ⟨o1, o2, o3⟩ := zaQ ho
 have hro := zcE o1
 have hkn := zn0 o3
 have hpairs := (zjx (s := s) (zfp o1) r.Rounds.toNat).1
 obtain ⟨n1, n2⟩ := zjG h
 have hmap := hp.map (·.Player)
 rw [List.map_append] at hmap
 have hk1 : (((z8 r k s).filter isP).map (·.Player)).Nodup := zkF hkn (turns r s) 0 hpairs
 refine ⟨hmap.nodup_iff.2 (List.nodup_append.2 ⟨hk1, n1, fun a ha b hb e => ?_⟩), fun n hn => ?_⟩
 ·subst e
  obtain ⟨p, hp1, rfl⟩ := List.mem_map.1 ha
  obtain ⟨hp2, hp3⟩ := List.mem_filter.1 hp1
  obtain ⟨t, _, x, hx, _, ex⟩ := zid hp2 hp3
  obtain ⟨q, hq, eq'⟩ := List.mem_map.1 hb
  have := (n2 q hq).2
  rw [List.any_eq_false] at this
  exact this x hx (by rw [← ex, ← eq']; simp)
 ·rw [hmap.mem_iff, List.mem_append]
  have hne := hro.ne n hn
  have ha := zmC ho hne
  unfold zba
  rw [Bool.or_eq_true, ← ha]
  refine or_congr ?_ ?_
  ·rw [List.any_eq_true, List.mem_map]
   constructor
   ·rintro ⟨p, hp1, rfl⟩
    exact ⟨p, (List.mem_filter.1 hp1).1, by simp⟩
   ·rintro ⟨p, hp1, e⟩
    have e := by simpa using e
    exact ⟨p, List.mem_filter.2 ⟨hp1, by unfold isP; rw [e]; simpa using hne⟩, e⟩
  ·rw [List.any_eq_true, List.mem_map]
   constructor
   ·rintro ⟨p, hp1, rfl⟩; exact ⟨p, hp1, by simp⟩
   ·rintro ⟨p, hp1, e⟩; exact ⟨p, hp1, by simpa using e⟩
theorem zsr (h : zaf r k s l = 0) (hl : l.length = (zX r k s).length) : ∀ n ∈ (zdh (z8 r k s) l).map (·.Player), n ∈ r.Players := by
 have ok := zif h l.length (Nat.le_refl _)
 rw [List.take_length] at ok
 have hp := ok.perm
 rw [List.take_length, zjZ h hl] at hp
 obtain ⟨o1, o2, o3⟩ := zaQ (zbF h).1
 intro n hn
 rw [(hp.map (·.Player)).mem_iff, List.map_append, List.mem_append] at hn
 rcases hn with hn | hn
 ·obtain ⟨p, hp1, rfl⟩ := List.mem_map.1 hn
  obtain ⟨hp2, hp3⟩ := List.mem_filter.1 hp1
  obtain ⟨t, _, x, hx, _, ex⟩ := zid hp2 hp3
  rw [ex]; exact ((zeq o3).all x hx).2.1
 ·obtain ⟨p, hp1, rfl⟩ := List.mem_map.1 hn
  exact ((zjG h).2 p hp1).1
theorem zpd {P : List Str} (hP : P.Nodup) {B : List Str} (hB : B.Nodup) (hin : ∀ n ∈ B, n ∈ P) {g : Str → Bool} (hg : ∀ n ∈ P, (n ∈ B ↔ g n = true)) : (P.filter fun n => !(g n)).length + B.length = P.length := by
 have h1 : (P.filter g).Perm B := (List.perm_ext_iff_of_nodup (hP.sublist List.filter_sublist) hB).2 fun n => by
  rw [List.mem_filter]
  exact ⟨fun h => (hg n h.1).2 h.2, fun h => ⟨hin n h, (hg n (hin n h)).1 h⟩⟩
 have h2 := (List.filter_append_perm g P).length_eq
 rw [List.length_append, h1.length_eq] at h2
 omega
theorem znt {round : Int} {of : Str} {T : List Str} (ho : of ∈ T) : ∀ {s : List Swap}, (∀ x ∈ s, x.Team ∈ T) → owner round of s ∈ T
 | [], _ => ho
 | x :: s, h => by
   unfold owner; split
   ·exact h x List.mem_cons_self
   ·exact znt ho fun y hy => h y (List.mem_cons_of_mem _ hy)
theorem zkS {l : List Swap} : ∀ (t : List Swap) (i : Nat), zdd r l i t = 0 → ∀ x ∈ t, x.Team ∈ r.Teams
 | [], _, _, x, hx => by cases hx
 | y :: t, i, h, x, hx => by
   rw [zdd] at h
   split at h
   ·omega
   split at h
   ·omega
   split at h
   ·omega
   rename_i hc _
   rcases List.mem_cons.1 hx with rfl | hx
   ·simp only [Bool.or_eq_true, Bool.not_eq_true', not_or, Bool.not_eq_false] at hc
    simpa using hc.2
   ·exact zkS t (i + 1) h x hx
theorem zry (h : zaI r s = 0) : ∀ x ∈ s, x.Team ∈ r.Teams := by
 unfold zaI at h
 split at h
 ·rename_i hc; simp [h] at hc
 ·split at h
  ·omega
  ·exact zkS s 0 h
theorem znh (h : ∀ x ∈ s, x.Team ∈ r.Teams) : ∀ n, ∀ t ∈ zay r s n, t.team ∈ r.Teams
 | 0, t, ht => by simp [zay] at ht
 | n + 1, t, ht => by
   rw [zay] at ht
   rcases List.mem_append.1 ht with ht | ht
   ·exact znh h n t ht
   ·unfold zbL at ht
    obtain ⟨u, hu, rfl⟩ := List.mem_map.1 ht
    refine znt ?_ h
    split at hu
    ·simpa using hu
    ·exact hu
/-- The law on a finished draft, from its parts. -/
theorem zps (h : zaf r k s l = 0) (hv : zad r w = 0) :
 zbc r k s l w = 0 ∧ zaf r k s (fiL r k s l w) = 0 ∧ nxB r k s (fiL r k s l w) = false ∧ zaI r s = 0 ∧ (teA r k s (fiL r k s l w)).length = r.Teams.length ∧
 (∀ t ∈ teA r k s (fiL r k s l w), (t.Players.length : Int) = cntT (zcd r s) t.Team) ∧ ((teA r k s (fiL r k s l w)).flatMap (·.Players)).Nodup ∧
 ((teA r k s (fiL r k s l w)).flatMap (·.Players)).length = (zcd r s).length ∧
 ((leA r k s (fiL r k s l w)).length : Int) = r.Players.length - ((teA r k s (fiL r k s l w)).flatMap (·.Players)).length := by
 have hw : ∀ y ∈ w, ∀ x ∈ y.Players, x ∈ r.Players := fun y hy => (zlH hv y hy).1
 have e1 : zbc r k s l w = 0 := by unfold zbc; rw [if_neg (by simp [h]), hv]
 have e2 : fiL r k s l w = zjR r k s w l := by unfold fiL; rw [if_neg (by simp [e1])]
 obtain ⟨f1, f2⟩ := zol h hw
 rw [← e2] at f1 f2
 generalize fiL r k s l w = x at *
 obtain ⟨o1, o2, o3⟩ := zaQ (zbF h).1
 have hro := zcE o1
 have hA := zjZ f1 f2
 have hT := zjK f1 x.length (Nat.le_refl _)
 rw [List.take_length] at hT
 have hte : teA r k s x = zkN r (zdh (z8 r k s) x) := by
  unfold teA zqb zkN
  rw [if_neg (by simp [f1])]
  refine List.map_congr_left fun t _ => ?_
  have : (zdh (z8 r k s) x).filter (fun p => p.Team == t && !(p.Player == [])) = (zdh (z8 r k s) x).filter (fun p => p.Team == t) := by
   refine List.filter_congr fun p hp => ?_
   rw [← hA] at hp
   have := (List.mem_filter.1 hp).2
   unfold isP at this; rw [this]; simp
  rw [this]
 have htt : zcd r s = (turns r s).map (·.team) := by unfold zcd; rw [if_neg (by simp [o2])]
 have hin : ∀ p ∈ zdh (z8 r k s) x, p.Team ∈ r.Teams := fun p hp => by
  have := List.mem_map_of_mem (f := (·.Team)) hp
  rw [hT] at this
  obtain ⟨t, ht, e⟩ := List.mem_map.1 this
  have := znh (zry o2) _ t ht
  rw [← e]; exact this
 have hfl : ((teA r k s x).flatMap (·.Players)).Perm ((zdh (z8 r k s) x).map (·.Player)) := by
  have := (zkJ (zfp o1) hin).map (·.Player)
  rw [hte]
  unfold zkN
  rw [List.flatMap_map]
  rw [List.map_flatMap] at this
  exact this
 obtain ⟨p1, p2⟩ := znP f1 f2
 have hlen : ((teA r k s x).flatMap (·.Players)).length = (zcd r s).length := by
  rw [hfl.length_eq, List.length_map, htt, ← hT, List.length_map]
 refine ⟨e1, f1, ?_, o2, by rw [hte]; simp [zkN], fun t ht => ?_, hfl.nodup_iff.2 p1, hlen, ?_⟩
 ·unfold nxB; rw [if_neg (by simp [f1])]; simp; omega
 ·rw [hte] at ht
  obtain ⟨u, _, rfl⟩ := List.mem_map.1 ht
  unfold cntT
  rw [htt, ← hT, List.filter_map, List.length_map, List.length_map]; rfl
 ·rw [zsV f1]
  have := zpd (zh3 hro.sorted) p1 (zsr f1 f2) p2
  rw [hfl.length_eq]
  unfold zi2
  omega
end
end
section

end
section

end
section
open Go
/-- The pieces of a string between the places where a byte stands. -/
def spl (c : UInt8) : Str → List Str
 | [] => [[]]
 | b :: l => if b = c then [] :: spl c l else match spl c l with
   | [] => [[b]]
   | x :: r => (b :: x) :: r
theorem zsZ (c : UInt8) (s : Str) : spl c s ≠ [] := by
 cases s with
 | nil => simp [spl]
 | cons b l =>
   simp only [spl]
   split
   ·simp
   ·split <;> simp
theorem zrB {c : UInt8} (s : Str) : ∃ x r, spl c s = x :: r := by
 cases h : spl c s with
 | nil => exact absurd h (zsZ c s)
 | cons x r => exact ⟨x, r, rfl⟩
theorem zsU (c : UInt8) (l : Str) : spl c (c :: l) = [] :: spl c l := by simp [spl]
theorem zp5 {b c : UInt8} (h : b ≠ c) {l x : Str} {r : List Str} (hl : spl c l = x :: r) : spl c (b :: l) = (b :: x) :: r := by
 simp only [spl, h, if_false, hl]
theorem zjB (c : UInt8) : ∀ (s : Str), ∀ x ∈ spl c s, x.length ≤ s.length
 | [], x, hx => by simp [spl] at hx; subst hx; simp
 | b :: l, x, hx => by
   have ih := zjB c l
   by_cases hb : b = c
   ·subst hb
    rw [zsU] at hx
    rcases List.mem_cons.1 hx with rfl | hx
    ·simp
    ·have := ih x hx; simp only [List.length_cons]; omega
   ·obtain ⟨y, r, hy⟩ := zrB (c := c) l
    rw [zp5 hb hy] at hx
    rcases List.mem_cons.1 hx with rfl | hx
    ·have := ih y (by rw [hy]; simp); simp only [List.length_cons]; omega
    ·have := ih x (by rw [hy]; simp [hx]); simp only [List.length_cons]; omega
end
section

end
section

end
section
theorem ziu {line : Str} (j : Nat) : ((spl 32 line).getD j []).length ≤ line.length := by
 rw [List.getD_eq_getElem?_getD]
 cases h : (spl 32 line)[j]? with
 | none => simp
 | some x => exact zjB 32 line x (List.mem_of_getElem? h)
end
section

end
section

end
section

end
section

end
section
section
variable {α : Type} (rB : Str → Bool) (rP : Str → α) (F : List α → Int) (W : α → List Str) (enc : α → HVal) (sz : Nat)
end
end
section
/-! what the next line is -/
def zsF : Str := [111, 102, 102, 101, 114]
def givS : Str := [103, 105, 118, 101]
def zp6 (line : Str) : Bool := (spl 32 line).all fun w => !w.isEmpty
def odB (line : Str) : Bool := zp6 line && ((spl 32 line).getD 0 [] == zsF) && ((((spl 32 line).length : Nat) : Int) == 5) && ((spl 32 line).drop 3).all (zpy · 15)
def gvB (line : Str) : Bool := zp6 line && ((spl 32 line).getD 0 [] == givS) && ((((spl 32 line).length : Nat) : Int) == 4)
/-- Whether a line is taken, by what the first line of the text is. -/
def okT (s0 s : Str) : Bool := odB s || (gvB s && odB s0)
def odP (line : Str) : DealS := ⟨(spl 32 line).getD 1 [], (spl 32 line).getD 2 [], zpD ((spl 32 line).getD 3 []) 15, zpD ((spl 32 line).getD 4 []) 15, []⟩
def gvP (line : Str) : GiveS := ⟨(spl 32 line).getD 1 [], (spl 32 line).getD 2 [], (spl 32 line).getD 3 []⟩
def addG (d : DealS) (g : GiveS) : DealS := { d with Gives := d.Gives ++ [g] }
def ziZ (ds : List DealS) (g : GiveS) : List DealS := ds.set (ds.length - 1) (addG (ds.getD (ds.length - 1) zbQ) g)
def zdL (ds : List DealS) (line : Str) : List DealS := if odB line then ds ++ [odP line] else if gvB line then ziZ ds (gvP line) else ds
def rdD (ls : List Str) : List DealS := ls.foldl zdL []
theorem zrb (ls : List Str) (s : Str) : rdD (ls ++ [s]) = zdL (rdD ls) s := by unfold rdD; rw [List.foldl_append]; rfl
def dvH (text : Str) : Str := (spl 10 text).headD []
end
section
/-- What is left of a list, some of it gone. -/
structure LeftOf {α : Type} (l k : List α) : Prop where
 len : k.length ≤ l.length
 sub : ∀ x ∈ k, x ∈ l
theorem LeftOf.take {α : Type} {l D : List α} (n : Nat) (hl : D.length = l.length) (h : ∀ x ∈ D, x ∈ l) : LeftOf l (D.take n) :=
 ⟨by rw [List.length_take]; omega, fun x hx => h x (List.mem_of_mem_take hx)⟩
theorem LeftOf.refl {α : Type} (l : List α) : LeftOf l l := ⟨Nat.le_refl _, fun _ h => h⟩
end
section

end
section
abbrev DlV := DealS × Value
end
section

end
section

end
section

end
section
def zj4 (a b : Of2) : Int := orI [zaH a.1 b.1, zaH a.2 b.2]
theorem zsc (a b : Of2) : zj4 a b = if zaH a.1 b.1 ≠ 0 then zaH a.1 b.1 else zaH a.2 b.2 := by unfold zj4; rw [zqP]
theorem zqc (a b : Of2) : zj4 a b = -zj4 b a := by
 unfold zj4
 rw [zdx a.1, zdx a.2, zqN]
theorem zro : Cmp zj4 (fun _ => True) where
 flip x y _ _ := by rw [zqc x y]; omega
 trans x y z _ _ _ h1 h2 := by
  rw [zsc] at *
  have k1 : zaH x.1 y.1 ≤ 0 := by split at h1 <;> omega
  have k2 : zaH y.1 z.1 ≤ 0 := by split at h2 <;> omega
  have k3 := zfv k1 k2
  split
  ·exact k3
  ·rename_i hz
   have hz' : zaH x.1 z.1 = 0 := by simpa using hz
   obtain ⟨e1, e2⟩ := zl9 k1 k2 hz'
   rw [if_neg (by simp [e1])] at h1
   rw [if_neg (by simp [e2])] at h2
   exact zfv h1 h2
def OLt (a b : Of2) : Prop := zj4 a b < 0
end
section
section
variable {κ : Type}
/-- The zb8 maps by the outer key: block and entries. -/
abbrev GrM (κ : Type) := List (Str × (Nat × List (κ × Int)))
end
end
section
theorem zhm {α : Type} {s : Str} {v : α} : ∀ {G : List (Str × α)}, (zai s v G).map (·.1) = zaY s (G.map (·.1))
 | [] => by simp [zai, zaY]
 | p :: r => by
   have ih := zhm (s := s) (v := v) (G := r)
   simp only [zai]
   by_cases h : s = p.1
   ·rw [if_pos h]
    unfold zaY
    rw [if_pos (by simp [h])]
    simp [h]
   ·rw [if_neg h, List.map_cons, ih]
    unfold zaY
    by_cases hc : (r.map (·.1)).contains s = true
    ·rw [if_pos hc, if_pos (by simp at hc ⊢; exact .inr hc)]; rfl
    ·rw [if_neg hc, if_neg (by simp at hc ⊢; exact ⟨h, hc⟩)]; rfl
theorem zhS {α : Type} {s : Str} {v : α} {p : Str × α} : ∀ {G : List (Str × α)}, ANodup G → p ∈ zai s v G → p = (s, v) ∨ (p ∈ G ∧ p.1 ≠ s)
 | [], _, h => by simp [zai] at h; exact .inl h
 | q :: r, hn, h => by
   have h1 := List.nodup_cons.1 hn
   simp only [zai] at h
   by_cases hs : s = q.1
   ·rw [if_pos hs] at h
    rcases List.mem_cons.1 h with h | h
    ·exact .inl h
    ·refine .inr ⟨List.mem_cons_of_mem _ h, fun e => h1.1 ?_⟩
     show q.1 ∈ r.map (·.1)
     rw [← hs, ← e]; exact List.mem_map_of_mem h
   ·rw [if_neg hs] at h
    rcases List.mem_cons.1 h with h | h
    ·subst h; exact .inr ⟨by simp, fun e => hs e.symm⟩
    ·rcases zhS h1.2 h with e | e
     ·exact .inl e
     ·exact .inr ⟨List.mem_cons_of_mem _ e.1, e.2⟩
section
variable {κ : Type}
/-- The maps of maps hold the za6 sums. -/
structure GrOk (S : List Str) (c : List ((Str × κ) × Int)) (G : GrM κ) : Prop where
 keys : G.map (·.1) = S
 nodup : S.Nodup
 val : ∀ p ∈ G, p.2.2 = zb8 c p.1
 inS : ∀ e ∈ c, e.1.1 ∈ S
theorem GrOk.anodup {S : List Str} {c : List ((Str × κ) × Int)} {G : GrM κ} (h : GrOk S c G) : ANodup G := by unfold ANodup; rw [h.keys]; exact h.nodup
theorem GrOk.nil : GrOk ([] : List Str) ([] : List ((Str × κ) × Int)) [] := ⟨rfl, List.nodup_nil, (fun p h => by cases h), (fun e h => by cases h)⟩
theorem GrOk.get {S : List Str} {c : List ((Str × κ) × Int)} {G : GrM κ} (h : GrOk S c G) {s : Str} {b : Nat} {L : List (κ × Int)} (hq : alk s G = some (b, L)) : L = zb8 c s := h.val _ (zc3 hq)
theorem GrOk.none {S : List Str} {c : List ((Str × κ) × Int)} {G : GrM κ} (h : GrOk S c G) {s : Str} : alk s G = none ↔ s ∉ S := by rw [zec, h.keys]
theorem zpW {S : List Str} {c : List ((Str × κ) × Int)} {s : Str} (h : ∀ e ∈ c, e.1.1 ∈ S) (hs : s ∉ S) : zb8 c s = [] := by
 unfold zb8
 rw [List.map_eq_nil_iff, List.filter_eq_nil_iff]
 intro e he hq
 exact hs ((eq_of_beq hq) ▸ h e he)
theorem GrOk.add {S : List Str} {c : List ((Str × κ) × Int)} {G : GrM κ} (h : GrOk S c G) {s : Str} (b : Nat) (hs : alk s G = Option.none) : GrOk (zaY s S) c (zai s (b, []) G) := by
 have hn := h.none.1 hs
 refine ⟨by rw [zhm, h.keys], zg6 h.nodup, fun p hp => ?_, fun e he => zjI.2 (.inr (h.inS e he))⟩
 rcases zhS h.anodup hp with rfl | ⟨hp, _⟩
 ·exact (zpW h.inS hn).symm
 ·exact h.val p hp
variable [DecidableEq κ]
theorem GrOk.put {S : List Str} {c : List ((Str × κ) × Int)} {G : GrM κ} (h : GrOk S c G) {s : Str} {b : Nat} {L : List (κ × Int)} (hq : alk s G = some (b, L)) (k : κ) (v : Int) : GrOk S (zai (s, k) v c) (zai s (b, zai k v L) G) := by
 have hs : s ∈ S := by
  refine Decidable.not_not.1 fun hn => ?_
  have := h.none.2 hn
  rw [this] at hq; cases hq
 refine ⟨?_, h.nodup, fun p hp => ?_, fun e he => ?_⟩
 ·rw [zhm, h.keys]
  unfold zaY
  rw [if_pos (by simpa using hs)]
 ·rw [zlA]
  rcases zhS h.anodup hp with rfl | ⟨hp, hne⟩
  ·rw [if_pos rfl, ← h.get hq]
  ·rw [if_neg hne]; exact h.val p hp
 ·rcases zcX he with rfl | he
  ·exact hs
  ·exact h.inS e he
end
end
section

end
section
theorem OLt.trans {a b c : Of2} (h1 : OLt a b) (h2 : OLt b c) : OLt a c := zro.lt_trans trivial trivial trivial h1 h2
end
section
/-- The plays of the sources that count. -/
def ztq (l : List Play) (trust : List Str) (n : Int) (x : Play) : Bool := decide (zje l trust n x.Match = some x.Source)
def kept (l : List Play) (trust : List Str) (n : Int) : List Play := l.filter (ztq l trust n)
end
section
structure ChkIs (q : ChkS) (l : List Play) : Prop where
 sn : q.S.Nodup
 s : ∀ s, s ∈ q.S ↔ ∃ x ∈ l, x.Source = s
 wn : ANodup q.W
 w : ∀ m, m ∈ q.W.map (·.1) ↔ ∃ x ∈ l, x.Match = m
 wv : ∀ m v, alk m q.W = some v → ∃ x ∈ l, x.Match = m ∧ x.Week = v
 c : q.c = false ↔ ∀ x ∈ l, ∀ y ∈ l, x.Match = y.Match → x.Week = y.Week
theorem ChkIs.step {q : ChkS} {l : List Play} (h : ChkIs q l) (p : Play) : ChkIs (zgV q p) (l ++ [p]) where
 sn := zg6 h.sn
 s s := by
  show s ∈ zaY p.Source q.S ↔ _
  rw [zjI, h.s]
  constructor
  ·rintro (rfl | ⟨x, hx, e⟩)
   ·exact ⟨p, by simp, rfl⟩
   ·exact ⟨x, List.mem_append_left _ hx, e⟩
  ·rintro ⟨x, hx, e⟩
   rcases List.mem_append.1 hx with hx | hx
   ·exact .inr ⟨x, hx, e⟩
   ·rw [List.mem_singleton.1 hx] at e; exact .inl e.symm
 wn := h.wn.put
 w m := by
  show m ∈ (zai p.Match p.Week q.W).map (·.1) ↔ _
  rw [zir, h.w]
  constructor
  ·rintro (rfl | ⟨x, hx, e⟩)
   ·exact ⟨p, by simp, rfl⟩
   ·exact ⟨x, List.mem_append_left _ hx, e⟩
  ·rintro ⟨x, hx, e⟩
   rcases List.mem_append.1 hx with hx | hx
   ·exact .inr ⟨x, hx, e⟩
   ·rw [List.mem_singleton.1 hx] at e; exact .inl e.symm
 wv m v hv := by
  have hv' : alk m (zai p.Match p.Week q.W) = some v := hv
  rw [zlo] at hv'
  by_cases e : m = p.Match
  ·rw [if_pos e] at hv'; cases hv'
   exact ⟨p, by simp, e.symm, rfl⟩
  ·rw [if_neg e] at hv'
   obtain ⟨x, hx, e1⟩ := h.wv m v hv'
   exact ⟨x, List.mem_append_left _ hx, e1⟩
 c := by
  show (q.c || ((alk p.Match q.W).isSome && ((alk p.Match q.W).getD 0 != p.Week))) = false ↔ _
  rw [Bool.or_eq_false_iff, h.c]
  constructor
  ·rintro ⟨h1, h2⟩
   have hp : ∀ x ∈ l, x.Match = p.Match → x.Week = p.Week := fun x hx e => by
    have hk : p.Match ∈ q.W.map (·.1) := (h.w _).2 ⟨x, hx, e⟩
    have hne : ¬ alk p.Match q.W = none := by rw [zec]; exact fun z => z hk
    obtain ⟨v, hv⟩ := Option.ne_none_iff_exists'.1 hne
    rw [hv] at h2
    simp at h2
    obtain ⟨y, hy, e1, e2⟩ := h.wv _ _ hv
    rw [h1 x hx y hy (by rw [e, e1]), e2, h2]
   intro x hx y hy e
   rcases List.mem_append.1 hx with hx | hx <;> rcases List.mem_append.1 hy with hy | hy
   ·exact h1 x hx y hy e
   ·rw [List.mem_singleton.1 hy] at e ⊢; exact hp x hx e
   ·rw [List.mem_singleton.1 hx] at e ⊢; exact (hp y hy e.symm).symm
   ·rw [List.mem_singleton.1 hx, List.mem_singleton.1 hy]
  ·intro hall
   refine ⟨fun x hx y hy e => hall x (List.mem_append_left _ hx) y (List.mem_append_left _ hy) e, ?_⟩
   cases hv : alk p.Match q.W with
   | none => rfl
   | some v =>
     obtain ⟨y, hy, e1, e2⟩ := h.wv _ _ hv
     have := hall y (List.mem_append_left _ hy) p (by simp) e1
     simp
     rw [← e2, this]
end
section

end
section

end
section
section
variable {κ : Type}
end
end
section
section
variable {P : Program} {e : Env} {dst : Option Tmp} {ty : TypeId} {pos : String} {af : Array Edge} {g : Option (Nat × Bool)} {M : List MObj} {K : HVal → List MObj → Prop}
end
end
section
variable {P : Program}
open Go.Sort Go.Proofs
end
section
section
variable {κ : Type} [DecidableEq κ] {β : Type}
end
section
variable {P : Program} {e : Env} {κ : Type} [DecidableEq κ] {β : Type} {eb : β → HVal}
end
end
section
/-! lines by their places, with mends -/
abbrev GrS := List (Plc × List StatS)
def zo4 (x : MendS) (l : List StatS) : List StatS := l.filter fun s => !(s.Name == x.Stat)
def zf5 (x : MendS) (l : List StatS) : List StatS := zo4 x l ++ if x.Count ≠ 0 then [⟨x.Stat, x.Count⟩] else []
def zfb (n : Int) (G : GrS) (x : MendS) : GrS := if n < x.At then G else zai (x.Player, x.Week) (zf5 x ((alk (x.Player, x.Week) G).getD [])) G
def GLen (b : Nat) (G : GrS) : Prop := ∀ q ∈ G, q.2.length ≤ b
theorem GLen.put {b : Nat} {G : GrS} {p : Plc} {l : List StatS} (h : GLen b G) (hl : l.length ≤ b) : GLen b (zai p l G) := fun q hq => by
 rcases zcX hq with rfl | hq
 ·exact hl
 ·exact h q hq
theorem GLen.get {b : Nat} {G : GrS} (h : GLen b G) (p : Plc) : ((alk p G).getD []).length ≤ b := by
 cases hq : alk p G with
 | none => simp
 | some l => exact h _ (zc3 hq)
theorem GLen.up {b c : Nat} {G : GrS} (h : GLen b G) (hb : b ≤ c) : GLen c G := fun q hq => Nat.le_trans (h q hq) hb
theorem zp1 (x : MendS) (l : List StatS) : (zo4 x l).length ≤ l.length := List.length_filter_le _ _
theorem zqx (x : MendS) (l : List StatS) : (zf5 x l).length ≤ l.length + 1 := by
 have := zp1 x l
 unfold zf5; rw [List.length_append]; split
 ·simp only [List.length_cons, List.length_nil]; omega
 ·simp only [List.length_nil]; omega
theorem GLen.step {b : Nat} {n : Int} {G : GrS} {x : MendS} (h : GLen b G) : GLen (b + 1) (zfb n G x) := by
 unfold zfb; split
 ·exact h.up (by omega)
 ·refine (h.up (by omega)).put ?_
  have h1 := zqx x ((alk (x.Player, x.Week) G).getD [])
  have h2 := h.get (x.Player, x.Week)
  omega
def GNm (G : GrS) : Prop := ∀ q ∈ G, (q.2.map (·.Name)).Nodup
theorem GNm.put {G : GrS} {p : Plc} {l : List StatS} (h : GNm G) (hl : (l.map (·.Name)).Nodup) : GNm (zai p l G) := fun q hq => by
 rcases zcX hq with rfl | hq
 ·exact hl
 ·exact h q hq
theorem GNm.get {G : GrS} (h : GNm G) (p : Plc) : (((alk p G).getD []).map (·.Name)).Nodup := by
 cases hq : alk p G with
 | none => exact List.nodup_nil
 | some l => exact h _ (zc3 hq)
theorem zjq {x : MendS} {l : List StatS} (h : (l.map (·.Name)).Nodup) : ((zf5 x l).map (·.Name)).Nodup := by
 have h1 : ((zo4 x l).map (·.Name)).Nodup := h.sublist ((List.filter_sublist).map _)
 unfold zf5
 split
 ·rw [List.map_append]
  refine List.nodup_append.2 ⟨h1, by simp, fun a ha b hb => ?_⟩
  simp at hb; subst hb
  obtain ⟨s, hs, rfl⟩ := List.mem_map.1 ha
  have := (List.mem_filter.1 hs).2
  simpa using this
 ·rw [List.append_nil]; exact h1
theorem GNm.step {n : Int} {G : GrS} {x : MendS} (h : GNm G) : GNm (zfb n G x) := by
 unfold zfb; split
 ·exact h
 ·exact h.put (zjq (h.get _))
end
section

end
section

end
section
structure GdN (n k : Nat) (ds : List DealS) : Prop where
 len : ds.length ≤ k
 all : ∀ x ∈ ds, x.Id.length ≤ n ∧ x.Gives.length ≤ k ∧ ∀ g ∈ x.Gives, g.Player.length ≤ n
theorem GdN.step {n k : Nat} {ds : List DealS} {s : Str} (h : GdN n k ds) (hs : s.length ≤ n) : GdN n (k + 1) (zdL ds s) := by
 obtain ⟨h1, h2⟩ := h
 have h2' : ∀ x ∈ ds, x.Id.length ≤ n ∧ x.Gives.length ≤ k + 1 ∧ ∀ g ∈ x.Gives, g.Player.length ≤ n := fun x hx => ⟨(h2 x hx).1, by have := (h2 x hx).2.1; omega, (h2 x hx).2.2⟩
 unfold zdL
 split
 ·refine ⟨by simp; omega, fun x hx => ?_⟩
  rcases List.mem_append.1 hx with hx | hx
  ·exact h2' x hx
  ·rw [List.mem_singleton.1 hx]
   exact ⟨Nat.le_trans (ziu 1) hs, Nat.zero_le _, fun g hg => by cases hg⟩
 split
 ·unfold ziZ
  refine ⟨by simp; omega, fun x hx => ?_⟩
  rcases List.mem_or_eq_of_mem_set hx with hx | hx
  ·exact h2' x hx
  ·subst hx
   have hy : (ds.getD (ds.length - 1) zbQ).Id.length ≤ n ∧ (ds.getD (ds.length - 1) zbQ).Gives.length ≤ k ∧ ∀ g ∈ (ds.getD (ds.length - 1) zbQ).Gives, g.Player.length ≤ n := by
    rw [List.getD_eq_getElem?_getD]
    cases hq : ds[ds.length - 1]? with
    | none => exact ⟨Nat.zero_le _, Nat.zero_le _, fun g hg => by cases hg⟩
    | some y => exact h2 y (List.mem_of_getElem? hq)
   refine ⟨hy.1, by show ((_ : List GiveS) ++ [_]).length ≤ _; rw [List.length_append]; have := hy.2.1; simp only [List.length_cons, List.length_nil]; omega, fun g hg => ?_⟩
   rcases List.mem_append.1 hg with hg | hg
   ·exact hy.2.2 g hg
   ·rw [List.mem_singleton.1 hg]; exact Nat.le_trans (ziu 1) hs
 ·exact ⟨by omega, h2'⟩
theorem zsh {ds : List DealS} {s : Str} {k : Nat} (h1 : ds.length ≤ k) (h2 : ∀ x ∈ ds, x.Gives.length ≤ k) : (zdL ds s).length ≤ ds.length + 1 ∧ ∀ x ∈ zdL ds s, x.Gives.length ≤ k + 1 := by
 unfold zdL
 split
 ·refine ⟨by simp, fun x hx => ?_⟩
  rcases List.mem_append.1 hx with hx | hx
  ·exact Nat.le_succ_of_le (h2 x hx)
  ·rw [List.mem_singleton.1 hx]; exact Nat.zero_le _
 split
 ·unfold ziZ
  refine ⟨by simp, fun x hx => ?_⟩
  rcases List.mem_or_eq_of_mem_set hx with hx | hx
  ·exact Nat.le_succ_of_le (h2 x hx)
  ·subst hx
   have hy : (ds.getD (ds.length - 1) zbQ).Gives.length ≤ k := by
    rw [List.getD_eq_getElem?_getD]
    cases hq : ds[ds.length - 1]? with
    | none => exact Nat.zero_le _
    | some y => exact h2 y (List.mem_of_getElem? hq)
   show ((_ : List GiveS) ++ [_]).length ≤ _
   rw [List.length_append]; simp only [List.length_cons, List.length_nil]; omega
 ·exact ⟨by omega, fun x hx => Nat.le_succ_of_le (h2 x hx)⟩
/-! the state of a reader -/
def InvD (text : Str) (done : List Str) (st : Value × List DlV) : Prop := st.2.map (·.1) = rdD done ∧ (done ≠ [] → odB (dvH text) = true ∧ st.2 ≠ []) ∧ st.2.length ≤ done.length ∧ ∀ p ∈ st.2, p.1.Gives.length ≤ done.length
/-- Whether a line is taken, by whether offers are there. -/
def okS (ds : List DlV) (s : Str) : Bool := odB s || (gvB s && !ds.isEmpty)
theorem ztp {text s : Str} {done : List Str} {st : Value × List DlV} (hq : (spl 10 text)[done.length]? = some s) (h : InvD text done st) : okS st.2 s = okT (dvH text) s := by
 obtain ⟨h1, h2, h3, _⟩ := h
 unfold okS okT
 by_cases hd : done = []
 ·have h0 : st.2 = [] := by
   have : st.2.length ≤ 0 := by rw [hd] at h3; simpa using h3
   exact List.length_eq_zero_iff.1 (by omega)
  have hs : dvH text = s := by
   unfold dvH
   rw [hd] at hq
   cases hl : spl 10 text with
   | nil => rw [hl] at hq; cases hq
   | cons a b => rw [hl] at hq; simpa using hq
  rw [h0, hs]
  cases odB s <;> simp
 ·obtain ⟨a1, a2⟩ := h2 hd
  have : st.2.isEmpty = false := by
   cases hq2 : st.2 with
   | nil => exact absurd hq2 a2
   | cons _ _ => rfl
  rw [a1, this]; rfl
theorem InvD.next {text s : Str} {done : List Str} {st st' : Value × List DlV} (hq : (spl 10 text)[done.length]? = some s) (h : InvD text done st) (hok : okS st.2 s = true) (h1 : st'.2.map (·.1) = zdL (st.2.map (·.1)) s) : InvD text (done ++ [s]) st' := by
 have hT := ztp hq h
 obtain ⟨a1, a2, a3, a4⟩ := h
 have hlen : (zdL (st.2.map (·.1)) s).length ≤ st.2.length + 1 ∧ 0 < (zdL (st.2.map (·.1)) s).length ∧ ∀ x ∈ zdL (st.2.map (·.1)) s, x.Gives.length ≤ done.length + 1 := by
  have h5 := zsh (k := done.length) (ds := st.2.map (·.1)) (s := s) (by simpa using a3) (fun x hx => by obtain ⟨p, hp, rfl⟩ := List.mem_map.1 hx; exact a4 p hp)
  refine ⟨by simpa using h5.1, ?_, h5.2⟩
  ·unfold okS at hok
   unfold zdL
   cases ho : odB s with
   | true => simp
   | false =>
     rw [ho, Bool.false_or, Bool.and_eq_true] at hok
     rw [if_neg (by simp), if_pos hok.1]
     unfold ziZ
     rw [List.length_set, List.length_map]
     cases hq2 : st.2 with
     | nil => rw [hq2] at hok; simp at hok
     | cons _ _ => simp
 have hl' : st'.2.length = (zdL (st.2.map (·.1)) s).length := by rw [← h1, List.length_map]
 refine ⟨by rw [h1, a1, zrb], fun _ => ⟨?_, fun e => ?_⟩, ?_, fun p hp => ?_⟩
 ·by_cases hd : done = []
  ·rw [hT] at hok
   unfold okT at hok
   have hs : dvH text = s := by
    unfold dvH
    rw [hd] at hq
    cases hl : spl 10 text with
    | nil => rw [hl] at hq; cases hq
    | cons a b => rw [hl] at hq; simpa using hq
   rw [hs] at hok ⊢
   cases ho : odB s with
   | true => rfl
   | false => rw [ho] at hok; simp at hok
  ·exact (a2 hd).1
 ·rw [e] at hl'; simp at hl'; omega
 ·rw [List.length_append, List.length_cons, List.length_nil]; omega
 ·rw [List.length_append, List.length_cons, List.length_nil]
  exact hlen.2.2 p.1 (by rw [← h1]; exact List.mem_map_of_mem hp)
end
end Go.HL
section
namespace Go.HL
theorem ziU {o : List OwnerS} : ∀ (l : List GiveS) (p d : List OwnerS), p.map (·.Player) = o.map (·.Player) → zbl p l = some d → d.map (·.Player) = o.map (·.Player)
 | [], p, d, hp, h => by rw [zbl] at h; cases h; exact hp
 | g :: r, p, d, hp, h => by
   rw [zbl] at h
   cases hs : zdn p g with
   | none => rw [hs] at h; cases h
   | some q =>
     rw [hs] at h
     refine ziU r q d ?_ h
     unfold zdn at hs
     split at hs
     ·rename_i y hy
      split at hs
      ·cases hs; rw [zkC hy, hp]
      ·cases hs
     ·cases hs
theorem zix {m : MarketS} {o : List OwnerS} {x : DealS} (h : zea m o x.Gives = true) : (zeL o x.Gives).map (·.Player) = o.map (·.Player) := by
 unfold zea at h
 cases hd : zbl o x.Gives with
 | none => rw [hd] at h; cases h
 | some d => unfold zeL; rw [hd]; exact ziU x.Gives o d rfl hd
end Go.HL
namespace Go.HL
end Go.HL
namespace Go.HL
end Go.HL
end
namespace Go.HL
section
/-- How an offer stands: 0 not yet, 1 open, 2 waits, 3 done, 4 refused, 5 back, 6 stopped, 7 late, 8 broken. -/
structure Dst where
 how : Int
 since : Int
 yes : List Str
 veto : List Str
abbrev DD := DealS × Dst
structure FS where
 o : List OwnerS
 ds : List DD
 log : List (DealS × List OwnerS)
def zlh (p : DD) (how t : Int) : DD := (p.1, ⟨how, t, p.2.yes, p.2.veto⟩)
def zrF (m : MarketS) (a : ReplyS) (p : DD) : DD :=
 if p.2.how ≠ 1 ∧ p.2.how ≠ 2 then p
 else if a.Kind = 1 ∧ (zdM p.1.Gives).contains a.Team = true ∧ p.2.how = 1 then
  if ((zaY a.Team p.2.yes).length : Int) = (zdM p.1.Gives).length then (p.1, ⟨2, a.At, zaY a.Team p.2.yes, p.2.veto⟩) else (p.1, ⟨p.2.how, p.2.since, zaY a.Team p.2.yes, p.2.veto⟩)
 else if a.Kind = 2 ∧ (zdM p.1.Gives).contains a.Team = true then zlh p 4 a.At
 else if a.Kind = 4 ∧ a.Team = p.1.By then zlh p 5 a.At
 else if a.Kind = 3 ∧ (zdM p.1.Gives).contains a.Team = false ∧ p.2.how = 2 then
  if ((zaY a.Team p.2.veto).length : Int) = m.Vetoes then (p.1, ⟨6, a.At, p.2.yes, zaY a.Team p.2.veto⟩) else (p.1, ⟨p.2.how, p.2.since, p.2.yes, zaY a.Team p.2.veto⟩)
 else p
def znA (m : MarketS) (a : ReplyS) : List DD → List DD
 | [] => []
 | p :: r => if p.1.Id = a.Offer then zrF m a p :: r else p :: znA m a r
def zer (m : MarketS) (t : Int) (o : List OwnerS) (p : DD) : List OwnerS × DD × List (DealS × List OwnerS) :=
 if p.2.how = 2 ∧ p.2.since + m.Wait ≤ t then
  if m.Deadline ≤ t then (o, zlh p 7 t, [])
  else if zea m o p.1.Gives = true then (zeL o p.1.Gives, zlh p 3 t, [(p.1, zeL o p.1.Gives)])
  else (o, zlh p 8 t, [])
 else if p.2.how = 1 ∧ (p.1.To ≤ t ∨ m.Deadline ≤ t) then (o, zlh p 7 t, [])
 else (o, p, [])
def zfh (m : MarketS) (t : Int) : List OwnerS → List DD → FS
 | o, [] => ⟨o, [], []⟩
 | o, p :: r => ⟨(zfh m t (zer m t o p).1 r).o, (zer m t o p).2.1 :: (zfh m t (zer m t o p).1 r).ds, (zer m t o p).2.2 ++ (zfh m t (zer m t o p).1 r).log⟩
def zqM (m : MarketS) (rs : List ReplyS) (ds : List DD) : List DD := rs.foldl (fun d r => znA m r d) ds
def atL (a : List ReplyS) (t : Int) : List ReplyS := a.filter fun r => decide (r.At = t)
theorem zrh (m : MarketS) (a : ReplyS) (p : DD) : (zrF m a p).1 = p.1 := by
 unfold zrF
 split
 ·rfl
 split
 ·split <;> rfl
 split
 ·rfl
 split
 ·rfl
 split
 ·split <;> rfl
 ·rfl
theorem zmB (m : MarketS) (a : ReplyS) : ∀ ds : List DD, (znA m a ds).map (·.1) = ds.map (·.1)
 | [] => rfl
 | p :: r => by
   rw [znA]
   split
   ·simp [zrh]
   ·simp [zmB m a r]
end
section
structure DV where
 p : DD
 b : Nat
 my : Nat
 mv : Nat
def cD (d : DV) : List HVal := [.str d.p.1.Id, .str d.p.1.By, .int .i64 d.p.1.From, .int .i64 d.p.1.To, znH d.p.1.Gives, .int .i64 d.p.2.how, .int .i64 d.p.2.since, eSs (zdM d.p.1.Gives), .raw (.map (some d.my)), .raw (.map (some d.mv))]
def o3 (d : DV) : List MObj := [.cells d.b (cD d), .map d.my (sk (zaP d.p.2.yes)), .map d.mv (sk (zaP d.p.2.veto))]
section
variable {bf : Nat} {m : MarketS} {o : List OwnerS} {fn : HVal} {E : List DV} {k : Nat} {d : DV} {S : List MObj}
end
/-! walks over all offers -/
end
section

end
end Go.HL
section
namespace Go.HL
section
variable {P : Program} {e : Env} {dst : Option Tmp} {ty : TypeId} {pos : String} {af : Array Edge} {g : Option (Nat × Bool)}
end
end Go.HL
namespace Go.HL
end Go.HL
end
namespace Go.HL
section
section
variable {P : Program} {e : Env} {dst : Option Tmp} {ty : TypeId} {pos : String} {af : Array Edge} {g : Option (Nat × Bool)}
end
def dP (d : DV) (p : DD) : DV := { d with p := p }
section
variable {bf : Nat} {m : MarketS} {o : List OwnerS} {fn : HVal} {E : List DV} {k : Nat} {d : DV} {S : List MObj} {a : ReplyS}
theorem zsB {x : DV} (h : E[k]? = some d) : (E.set k x)[k]? = some x := List.getElem?_set_self (zC h)
end
end
section
section
variable {P : Program} {e : Env} {dst : Option Tmp} {ty : TypeId} {pos : String} {af : Array Edge} {g : Option (Nat × Bool)}
end
section
variable {P : Program} {n : Nat} {e e' : Env} {M M' : List MObj} {Q Q' : Exit → Env → List MObj → Prop} {c c' : Code}
end
end
end Go.HL
section
namespace Go.HL
structure PInv (m : MarketS) (t : Int) (o : List OwnerS) (E : List DV) (k : Nat) (o1 : List OwnerS) (D : List DV) (l1 : List (DealS × List OwnerS)) : Prop where
 eq : zfh m t o (E.map (·.p)) = ⟨(zfh m t o1 ((E.drop k).map (·.p))).o, (D.take k).map (·.p) ++ (zfh m t o1 ((E.drop k).map (·.p))).ds, l1 ++ (zfh m t o1 ((E.drop k).map (·.p))).log⟩
 rest : D.drop k = E.drop k
 pl : o1.map (·.Player) = o.map (·.Player)
 len : D.length = E.length
 ll : l1.length ≤ k
theorem znO {m : MarketS} {t : Int} {o : List OwnerS} {p : DD} : (zer m t o p).1.map (·.Player) = o.map (·.Player) := by
 unfold zer
 split
 ·split
  ·rfl
  split
  ·rename_i hb; exact zix hb
  ·rfl
 split <;> rfl
theorem zrc (m : MarketS) (t : Int) (o : List OwnerS) (p : DD) : (zer m t o p).2.2.length ≤ 1 := by
 unfold zer
 split
 ·split
  ·simp
  split <;> simp
 split <;> simp
theorem PInv.get {m : MarketS} {t : Int} {o o1 : List OwnerS} {E D : List DV} {k : Nat} {l1 : List (DealS × List OwnerS)} {d : DV} (h : PInv m t o E k o1 D l1) (hd : E[k]? = some d) : D[k]? = some d := by
 have h1 : (D.drop k)[0]? = (E.drop k)[0]? := by rw [h.rest]
 rw [List.getElem?_drop, List.getElem?_drop, Nat.add_zero, hd] at h1
 exact h1
theorem PInv.step {m : MarketS} {t : Int} {o o1 : List OwnerS} {E D : List DV} {k : Nat} {l1 : List (DealS × List OwnerS)} {d : DV} (h : PInv m t o E k o1 D l1) (hd : E[k]? = some d) :
 PInv m t o E (k + 1) (zer m t o1 d.p).1 (D.set k (dP d (zer m t o1 d.p).2.1)) (l1 ++ (zer m t o1 d.p).2.2) := by
 have hD := h.get hd
 have hk := zC hD
 refine ⟨?_, ?_, by rw [znO, h.pl], by simpa using h.len, ?_⟩
 ·rw [h.eq, zI hd]
  show (⟨(zfh m t o1 (d.p :: (E.drop (k + 1)).map (·.p))).o, _ ++ (zfh m t o1 (d.p :: (E.drop (k + 1)).map (·.p))).ds, _ ++ (zfh m t o1 (d.p :: (E.drop (k + 1)).map (·.p))).log⟩ : FS) = _
  rw [zfh]
  have e : (D.set k (dP d (zer m t o1 d.p).2.1)).take (k + 1) = D.take k ++ [dP d (zer m t o1 d.p).2.1] := by
   rw [zae (zsB hD), List.take_set_of_le (Nat.le_refl _)]
  rw [e]
  simp [dP]
 ·rw [List.drop_set_of_lt (by omega)]
  have h1 := congrArg (List.drop 1) h.rest
  rw [List.drop_drop, List.drop_drop] at h1
  exact h1
 ·have := zrc m t o1 d.p
  have := h.ll
  rw [List.length_append]; omega
theorem PInv.fin {m : MarketS} {t : Int} {o o1 : List OwnerS} {E D : List DV} {l1 : List (DealS × List OwnerS)} (h : PInv m t o E E.length o1 D l1) : zfh m t o (E.map (·.p)) = ⟨o1, D.map (·.p), l1⟩ := by
 have e := h.eq
 have hl := h.len
 rw [List.drop_length, List.take_of_length_le (by omega)] at e
 rw [e]
 show (⟨o1, _ ++ [], _ ++ []⟩ : FS) = _
 simp
section
variable {m : MarketS} {t : Int} {o : List OwnerS} {d : DV} {E : List DV} {k : Nat}
end
/-! from zaL to zaL -/
def SrtA (a : List ReplyS) : Prop := a.Pairwise fun x y => x.At ≤ y.At
structure AI (m : MarketS) (a : List ReplyS) (p : Int) (qs : List DD) (j : Nat) (ps : List DD) : Prop where
 eq : zqM m (atL a p) qs = zqM m (atL (a.drop j) p) ps
 bef : ∀ r ∈ a.take j, r.At ≤ p
 aft : ∀ r ∈ a.drop j, p ≤ r.At
 fst : ps.map (·.1) = qs.map (·.1)
theorem AI.step {m : MarketS} {a : List ReplyS} {p : Int} {qs ps : List DD} {j : Nat} {x : ReplyS} (h : AI m a p qs j ps) (hx : a[j]? = some x) (hp : x.At = p) : AI m a p qs (j + 1) (znA m x ps) := by
 refine ⟨?_, fun r hr => ?_, fun r hr => h.aft r (by rw [zI hx]; exact List.mem_cons_of_mem x hr), by rw [zmB, h.fst]⟩
 ·rw [h.eq, zI hx]
  unfold atL
  rw [List.filter_cons_of_pos (by simpa using hp)]; rfl
 ·rw [zae hx] at hr
  rcases List.mem_append.1 hr with hr | hr
  ·exact h.bef r hr
  ·rw [List.mem_singleton.1 hr, hp]; exact Int.le_refl _
theorem AI.fin {m : MarketS} {a : List ReplyS} {p : Int} {qs ps : List DD} {j : Nat} (hs : SrtA a) (h : AI m a p qs j ps) (hx : ∀ x, a[j]? = some x → x.At ≠ p) : zqM m (atL a p) qs = ps ∧ ∀ r ∈ a.drop j, p < r.At := by
 have hsd : (a.drop j).Pairwise fun x y => x.At ≤ y.At := hs.sublist (List.drop_sublist j a)
 have hl : ∀ r ∈ a.drop j, p < r.At := by
  cases hc : a.drop j with
  | nil => intro r hr; cases hr
  | cons x y =>
    have hj : a[j]? = some x := by
     have : (a.drop j)[0]? = some x := by rw [hc]; rfl
     rwa [List.getElem?_drop, Nat.add_zero] at this
    have h1 := hx x hj
    have h2 := h.aft x (by rw [hc]; simp)
    rw [hc] at hsd
    intro r hr
    rcases List.mem_cons.1 hr with rfl | hr
    ·omega
    ·have := (List.pairwise_cons.1 hsd).1 r hr; omega
 refine ⟨?_, hl⟩
 rw [h.eq]
 have e : atL (a.drop j) p = [] := List.filter_eq_nil_iff.2 fun r hr => by have := hl r hr; simp; omega
 rw [e]; rfl
end Go.HL
namespace Go.HL
end Go.HL
end
namespace Go.HL
section
/-! how often owners change -/
def c3 (ds : List DD) : Nat := ds.countP fun p => p.2.how == 3
section
variable {m : MarketS} {o : List OwnerS} {l : List DealS} {a : List ReplyS} {E : List DV}
end
end
end Go.HL
section
namespace Go.HL
section
variable (m : MarketS) (o : List OwnerS) (l : List DealS) (a : List ReplyS) (u : Int) (s : Str)
end
/-! what no fault gives -/
end Go.HL
namespace Go.HL
end Go.HL
end
section
namespace Go.HL
/-! owners stay right -/
structure OwnOk (m : MarketS) (o : List OwnerS) : Prop where
 f : ∀ x ∈ o, zaW m x = 0
 fit : zep m o = true
theorem zsu {m : MarketS} {p q : List OwnerS} {g : GiveS} (hg : zaG m g = 0) (hp : ∀ x ∈ p, zaW m x = 0) (h : zdn p g = some q) : ∀ x ∈ q, zaW m x = 0 := by
 unfold zdn at h
 split at h
 ·rename_i y hy
  split at h
  ·cases h
   intro x hx
   rcases List.mem_or_eq_of_mem_set hx with hx | hx
   ·exact hp x hx
   ·subst hx
    have h1 := hp y (List.mem_of_getElem? hy)
    unfold zaW at h1 ⊢
    dsimp only
    split at h1
    ·cases h1
    ·rename_i hk
     rw [if_neg hk]
     unfold zaG at hg
     split at hg
     ·cases hg
     split at hg
     ·cases hg
     rename_i ht
     simp only [Bool.or_eq_true, not_or] at ht
     rw [if_neg ht.2]
  ·cases h
 ·cases h
theorem zpX {m : MarketS} : ∀ (l : List GiveS) (p d : List OwnerS), (∀ g ∈ l, zaG m g = 0) → (∀ x ∈ p, zaW m x = 0) → zbl p l = some d → ∀ x ∈ d, zaW m x = 0
 | [], p, d, _, hp, h => by rw [zbl] at h; cases h; exact hp
 | g :: r, p, d, hg, hp, h => by
   rw [zbl] at h
   cases hs : zdn p g with
   | none => rw [hs] at h; cases h
   | some q => rw [hs] at h; exact zpX r q d (fun x hx => hg x (List.mem_cons_of_mem g hx)) (zsu (hg g (by simp)) hp hs) h
theorem zsC {m : MarketS} {o : List OwnerS} {x : DealS} (hx : zaM m x.Gives = 0) (ho : OwnOk m o) (h : zea m o x.Gives = true) : OwnOk m (zeL o x.Gives) := by
 unfold zea at h
 cases hd : zbl o x.Gives with
 | none => rw [hd] at h; cases h
 | some d =>
   rw [hd] at h
   unfold zeL
   rw [hd]
   exact ⟨zpX _ _ _ (zh4 hx).2.2.1 ho.f hd, h⟩
theorem zqw {o : List OwnerS} (h : SortedS (o.map (·.Player))) : o.Pairwise fun a b => zaR a b < 0 :=
 (List.pairwise_map.1 h).imp fun {a b} hab => by
   unfold zaR
   exact zgP.2 hab
structure Mono (p q : DD) : Prop where
 fst : q.1 = p.1
 nz : p.2.how ≠ 0 → q.2.how ≠ 0
 fin : 2 < p.2.how → q.2.how = p.2.how ∧ q.2.since = p.2.since
theorem Mono.refl (p : DD) : Mono p p := ⟨rfl, id, fun _ => ⟨rfl, rfl⟩⟩
theorem Mono.trans {p q r : DD} (h1 : Mono p q) (h2 : Mono q r) : Mono p r :=
 ⟨h2.fst.trans h1.fst, fun h => h2.nz (h1.nz h), fun h => by
  obtain ⟨a1, a2⟩ := h1.fin h
  obtain ⟨b1, b2⟩ := h2.fin (by omega)
  exact ⟨b1.trans a1, b2.trans a2⟩⟩
def MonoL : List DD → List DD → Prop
 | [], [] => True
 | p :: r, q :: s => Mono p q ∧ MonoL r s
 | _, _ => False
theorem MonoL.refl : ∀ l, MonoL l l
 | [] => trivial
 | p :: r => ⟨Mono.refl p, MonoL.refl r⟩
theorem MonoL.trans : ∀ {a b c : List DD}, MonoL a b → MonoL b c → MonoL a c
 | [], [], [], _, _ => trivial
 | p :: r, q :: s, x :: t, h1, h2 => ⟨h1.1.trans h2.1, MonoL.trans h1.2 h2.2⟩
 | [], _ :: _, _, h, _ => h.elim
 | _ :: _, [], _, h, _ => h.elim
 | _, [], _ :: _, _, h => h.elim
 | _, _ :: _, [], _, h => h.elim
end Go.HL
namespace Go.HL
end Go.HL
end
namespace Go.HL
section
section
variable {r : Room}
theorem zs1 (h : zQ r = 0) : openFault r [] [] = 0 ∧ zaf r [] [] [] = 0 ∧ zad r [] = 0 := by
 have e1 : openFault r [] [] = 0 := by simp [openFault, zaT, zaI, h, zbJ, zdd, orI, zfC]
 refine ⟨e1, by simp [zaf, e1, zhs, zd6], by simp [zad, h, zdf, zdD]⟩
theorem ziw (r : Room) : ∀ (l : List Turn) (i : Nat), (zak r [] i l).filter (fun p => p.Player == []) = zak r [] i l
 | [], _ => rfl
 | t :: l, i => by
   rw [zak, List.filter_cons, if_pos (by simp [zbb]), ziw r l (i + 1)]
theorem zm6 : zX r [] [] = z8 r [] [] := ziw r _ _
theorem zlz : ∀ n, ∀ t ∈ zay r [] n, t.team ∈ r.Teams
 | 0, t, h => by cases h
 | n + 1, t, h => by
   rw [zay] at h
   rcases List.mem_append.1 h with h | h
   ·exact zlz n t h
   ·unfold zbL at h
    obtain ⟨s, hs, rfl⟩ := List.mem_map.1 h
    show owner ((n : Int) + 1) s [] ∈ r.Teams
    rw [owner]
    split at hs
    ·exact List.mem_reverse.1 hs
    ·exact hs
def za7 (r : Room) : List Pick := fiL r [] [] [] []
theorem zrV (h : zQ r = 0) : zbc r [] [] [] [] = 0 ∧ zaf r [] [] (za7 r) = 0 ∧ (za7 r).length = r.Rounds.toNat * r.Teams.length := by
 obtain ⟨h1, h2, h3⟩ := zs1 h
 obtain ⟨q1, q2, _⟩ := zps (w := []) h2 h3
 refine ⟨q1, q2, ?_⟩
 have e2 : za7 r = zjR r [] [] [] [] := by unfold za7 fiL; rw [if_neg (by simp [q1])]
 obtain ⟨_, f2⟩ := zol (w := []) h2 (fun y hy => by cases hy)
 rw [e2, f2, zm6]
 unfold z8
 rw [zdC]
 unfold turns
 rw [zcb]
theorem zkf (h : zQ r = 0) {j : Nat} {p : Pick} (hp : (za7 r)[j]? = some p) : p.Player ∈ r.Players ∧ p.Team ∈ r.Teams ∧ ∀ q ∈ (za7 r).take j, q.Player ≠ p.Player := by
 obtain ⟨_, q2, q3⟩ := zrV h
 obtain ⟨_, f2, f3⟩ := zbF q2
 obtain ⟨_, _, a3, a4, a5⟩ := zhV (zed (za7 r) 0 rfl f3 j p (Nat.zero_le _) hp)
 have hj := zC hp
 have hl : ((za7 r).take j).length = j := by rw [List.length_take]; omega
 refine ⟨a4, ?_, fun q hq e => ?_⟩
 ·rw [a3]
  show ((zX r [] []).getD ((za7 r).take j).length za3).Team ∈ r.Teams
  rw [hl]
  have hjf : j < (zX r [] []).length := by omega
  have hm : ((zX r [] []).map (·.Team))[j]? = some ((zX r [] []).getD j za3).Team := by rw [List.getElem?_map, getD_some hjf]; rfl
  rw [zm6] at hm ⊢
  unfold z8 at hm ⊢
  rw [zfl, List.getElem?_map] at hm
  cases ht : (turns r [])[j]? with
  | none => rw [ht] at hm; cases hm
  | some t =>
    rw [ht] at hm
    rw [← Option.some.inj hm]
    exact zlz _ t (List.mem_of_getElem? ht)
 ·unfold zba at a5
  simp only [List.any_nil, Bool.false_or] at a5
  have h5 : ((za7 r).take j).any (fun z => z.Player == p.Player) = true := List.any_eq_true.2 ⟨q, hq, by simpa using e⟩
  have h6 : ((za7 r).take j).any (fun z => z.Player == p.Player) = false := a5
  rw [h5] at h6; cases h6
theorem zmL (h : zQ r = 0) : ((za7 r).map (·.Player)).Nodup := by
 refine List.pairwise_iff_getElem.2 fun i j hi hj hij => ?_
 rw [List.length_map] at hi hj
 simp only [List.getElem_map]
 have hp : (za7 r)[j]? = some (za7 r)[j] := List.getElem?_eq_getElem hj
 refine (zkf h hp).2.2 _ (List.mem_iff_getElem?.2 ⟨i, ?_⟩)
 rw [List.getElem?_take_of_lt hij, List.getElem?_eq_getElem hi]
end
/-! a comparison that never says the same -/
def cP (a b : OwnerS) : Int := if Op.bytesLess a.Player b.Player = true then -1 else 1
theorem zrY {a b : OwnerS} : cP a b < 0 ↔ zaR a b < 0 := by
 unfold cP zaR
 rw [zgP]
 split <;> simp_all
theorem zkE {l : List OwnerS} (hn : (l.map (·.Player)).Nodup) : (za0 zaR l).Pairwise fun a b => zaR a b < 0 := by
 have h1 := zic zem (l := l) fun _ _ => trivial
 have h2 : (za0 zaR l).Pairwise fun a b => a.Player ≠ b.Player := by
  have : ((za0 zaR l).map (·.Player)).Nodup := ((zc5 zaR l).map _).nodup_iff.2 hn
  exact List.pairwise_map.1 this
 exact (h1.and h2).imp fun ⟨a, b⟩ => by
  have : ¬ zaR _ _ = 0 := fun e => b (zcc.1 e)
  omega
end
section
/-! one list of statistics by name -/
abbrev stA (l : List StatS) : List (Str × Int) := l.map fun s => (s.Name, s.Count)
def sv (l : List StatS) (s : Str) : Int := (alk s (stA l)).getD 0
structure StOk (l : List StatS) : Prop where
 nd : (l.map (·.Name)).Nodup
 nz : ∀ x ∈ l, x.Count ≠ 0
theorem StOk.nodup {l : List StatS} (h : StOk l) : l.Nodup := (List.pairwise_map.1 h.nd).imp fun h e => h (congrArg _ e)
theorem StOk.put {x : MendS} {l : List StatS} (h : StOk l) : StOk (zf5 x l) where
 nd := zjq h.nd
 nz y hy := by
  unfold zf5 at hy
  rcases List.mem_append.1 hy with hy | hy
  ·exact h.nz y (List.mem_filter.1 hy).1
  ·split at hy
   ·rename_i hc; rw [List.mem_singleton.1 hy]; exact hc
   ·cases hy
theorem StOk.nil : StOk [] := ⟨List.nodup_nil, fun x h => by cases h⟩
/-! all lists by place -/
structure GSOk (G : GrS) : Prop where
 nd : ANodup G
 ok : ∀ q ∈ G, StOk q.2
theorem GSOk.get {G : GrS} (h : GSOk G) (p : Plc) : StOk ((alk p G).getD []) := by
 cases hq : alk p G with
 | none => exact StOk.nil
 | some l => exact h.ok _ (zc3 hq)
theorem GSOk.step {n : Int} {G : GrS} {x : MendS} (h : GSOk G) : GSOk (zfb n G x) := by
 unfold zfb; split
 ·exact h
 ·refine ⟨h.nd.put, fun q hq => ?_⟩
  rcases zcX hq with rfl | hq
  ·exact (h.get _).put
  ·exact h.ok q hq
structure GVal (G : GrS) : Prop where
 pl : ∀ q ∈ G, key q.1.1 = true ∧ zf6 q.1.2 = true
 st : ∀ q ∈ G, ∀ s ∈ q.2, key s.Name = true ∧ (-100000 ≤ s.Count ∧ s.Count ≤ 100000)
theorem GVal.step {n : Int} {G : GrS} {x : MendS} (h : GVal G) (hx : zik x = 0) : GVal (zfb n G x) := by
 obtain ⟨k1, k2, k3, k4, _⟩ := znI hx
 unfold zfb; split
 ·exact h
 ·refine ⟨fun q hq => ?_, fun q hq s hs => ?_⟩
  ·rcases zcX hq with rfl | hq
   ·exact ⟨k1, k3⟩
   ·exact h.pl q hq
  ·rcases zcX hq with rfl | hq
   ·unfold zf5 at hs
    rcases List.mem_append.1 hs with hs | hs
    ·have h1 := (List.mem_filter.1 hs).1
     cases ha : alk (x.Player, x.Week) G with
     | none => rw [ha] at h1; cases h1
     | some l => rw [ha] at h1; exact h.st _ (zc3 ha) s h1
    ·split at hs
     ·rw [List.mem_singleton.1 hs]; exact ⟨k2, k4⟩
     ·cases hs
   ·exact h.st q hq s hs
end
section
/-! mends as they are made up -/
end
section
theorem zmI : ∀ a b : Str, Op.bytesLess a b = decide (a < b)
 | [], [] => by simp [Op.bytesLess]
 | _ :: _, [] => by simp [Op.bytesLess]
 | [], _ :: _ => by simp [Op.bytesLess]
 | a :: x, b :: y => by
   have ih := zmI x y
   rw [Bool.eq_iff_iff, decide_eq_true_iff, List.cons_lt_cons_iff]
   unfold Op.bytesLess
   rw [ih]
   simp
theorem zsv {a b : Str} (h : SLt a b) : zaH a b < 0 := by
 have h1 : zaH a b ≤ 0 := by
  rw [ze0, zmI, decide_eq_false_iff_not]
  exact List.not_lt.2 h.1
 have h2 : zaH a b ≠ 0 := fun e => h.2 (zcc.1 e)
 omega
/-! the lines of right plays are right -/
structure Half (a b l : List Play) : Prop where
 sa : a.Sublist l
 sb : b.Sublist l
 all : ∀ x ∈ l, x ∈ a ∨ x ∈ b
theorem Half.nil : Half [] [] [] := ⟨List.Sublist.refl _, List.Sublist.refl _, fun x h => by cases h⟩
theorem Half.left {a b l : List Play} (h : Half a b l) (x : Play) : Half (a ++ [x]) b (l ++ [x]) :=
 ⟨h.sa.append (List.Sublist.refl _), h.sb.trans (List.sublist_append_left _ _), fun y hy => by
  rcases List.mem_append.1 hy with hy | hy
  ·rcases h.all y hy with q | q
   ·exact .inl (List.mem_append_left _ q)
   ·exact .inr q
  ·exact .inl (List.mem_append_right _ hy)⟩
end
section
theorem zjA {l : List Str} (hk : ∀ s ∈ l, key s = true) (hs : SortedS l) : ∀ (t : List Str) (k : Nat), l.drop k = t → zaX l k t = 0
 | [], _, _ => rfl
 | s :: r, k, h => by
   have hks : l[k]? = some s := by
    have := congrArg (fun q => q[0]?) h
    simpa using this
   have hr : l.drop (k + 1) = r := by
    have := congrArg List.tail h
    simpa [List.tail_drop] using this
   rw [zaX, if_neg (by simp [hk s (List.mem_of_getElem? hks)]), if_neg, zjA hk hs r (k + 1) hr]
   intro hc
   simp only [Bool.and_eq_true, decide_eq_true_eq] at hc
   have hlt := zC hks
   have ha : l[k - 1]? = some (l.getD (k - 1) []) := getD_some (by omega)
   have h1 := hs.get (i := k - 1) (j := k) (by omega) ha hks
   obtain ⟨_, h2⟩ := hc
   unfold leS at h2
   rcases Bool.or_eq_true _ _ |>.mp h2 with h3 | h3
   ·rw [zaU h1] at h3; cases h3
   ·have := eq_of_beq h3
    rw [← this, zag] at h1; cases h1
theorem zqu {r : Room} (h : zQ r = 0) : ∀ s ∈ r.Teams, key s = true := by
 unfold zQ at h
 have h1 : teamsFault r.Teams = 0 := by
  refine Classical.byContradiction fun hc => ?_
  rw [if_pos (by simpa using hc)] at h; exact hc h
 unfold teamsFault at h1
 split at h1
 ·omega
 ·split at h1
  ·omega
  ·exact zjr _ 0 h1
theorem zl1 {r : Room} (h : zQ r = 0) : ∀ s ∈ r.Players, key s = true := by
 unfold zQ at h
 split at h
 ·rename_i hc; simp [h] at hc
 split at h
 ·omega
 split at h
 ·omega
 split at h
 ·rename_i hc; simp [h] at hc
 ·rename_i hc
  have h1 : playersFault r.Players = 0 := by simpa using hc
  unfold playersFault at h1
  split at h1
  ·omega
  ·exact zfT _ 0 h1
def mkT (r : Room) : MarketS := ⟨zar r.Teams, 1, 0, 345686400000, 0, 60⟩
theorem zf9 {l : List Str} {s : Str} : s ∈ zar l ↔ s ∈ l := List.mem_mergeSort
theorem zrg {a b : Str} (h : SLt a b) : Op.bytesLess a b = true := zgP.1 (zsv h)
theorem zqh {r : Room} (h : zQ r = 0) : zaB (mkT r) = 0 := by
 obtain ⟨_, t20, t0, _⟩ := zb6 h
 have hl : (mkT r).Teams.length = r.Teams.length := zch _
 have hk : ∀ s ∈ (mkT r).Teams, key s = true := fun s hs => zqu h s (zf9.1 hs)
 have hs : SortedS (mkT r).Teams := (zm9 (zfp h)).imp fun q => zrg q
 have hr : zdK (mkT r).Teams = 0 := zjA hk hs _ 0 rfl
 unfold zaB
 rw [if_neg (by omega), if_neg (by omega), if_neg (by simp [hr]), if_neg]
 simp [mkT, out]
end
section
theorem zpf (y : OwnerS) (r : List OwnerS) (g : GiveS) : zdn (y :: r) g = if y.Player = g.Player then (if y.Team = g.From then some (⟨y.Player, g.To⟩ :: r) else none) else (zdn r g).map (y :: ·) := by
 unfold zdn
 by_cases e : y.Player = g.Player
 ·rw [if_pos e, List.findIdx_cons]
  simp only [e, beq_self_eq_true, cond_true, List.getElem?_cons_zero, List.set_cons_zero]
 ·rw [if_neg e, List.findIdx_cons]
  have hb : (y.Player == g.Player) = false := by simpa using e
  simp only [hb, cond_false, List.getElem?_cons_succ, List.set_cons_succ]
  cases r[r.findIdx fun y => y.Player == g.Player]? with
  | none => rfl
  | some z =>
    dsimp only
    split <;> rfl
end
section
theorem znq (t : Str) : ∀ o : List OwnerS, 0 ≤ zb9 o t ∧ zb9 o t ≤ o.length
 | [] => by simp [zb9]
 | x :: r => by
   have := znq t r
   rw [zb9, List.length_cons]
   split <;> omega
theorem zjU {m : MarketS} {o : List OwnerS} (h1 : m.Least = 0) (h2 : m.Most = 60) (h : o.length ≤ 60) : zep m o = true := by
 unfold zep
 refine List.all_eq_true.2 fun t _ => ?_
 have := znq t o
 simp [out, h1, h2]
 omega
def zjX (r : Room) : List OwnerS := (za7 r).map fun p => ⟨p.Player, p.Team⟩
def zbI (r : Room) : List OwnerS := za0 zaR (zjX r)
section
variable {r : Room}
theorem zot : (zjX r).map (·.Player) = (za7 r).map (·.Player) := by unfold zjX; rw [List.map_map]; rfl
theorem zjp (h : zQ r = 0) : (zbI r).Pairwise fun a b => zaR a b < 0 := zkE (by rw [zot]; exact zmL h)
theorem zm4 : (zbI r).length = (za7 r).length := by unfold zbI; rw [zek]; unfold zjX; rw [List.length_map]
theorem zpZ (h : zQ r = 0) : ∀ x ∈ zbI r, zaW (mkT r) x = 0 := fun x hx => by
 obtain ⟨p, hp, rfl⟩ := List.mem_map.1 ((zgf zaR).1 hx)
 obtain ⟨j, hj⟩ := List.mem_iff_getElem?.1 hp
 obtain ⟨h1, h2, _⟩ := zkf h hj
 unfold zaW
 rw [if_neg (by simp [zl1 h _ h1]), if_neg]
 simp only [Bool.not_eq_true', Bool.not_eq_false]
 exact List.contains_iff_mem.2 (zf9.2 h2)
theorem zm8 {m : MarketS} {o : List OwnerS} (hm : zaB m = 0) (hl : o.length ≤ 60) (hf : ∀ x ∈ o, zaW m x = 0) (hs : o.Pairwise fun a b => zaR a b < 0) (h1 : m.Least = 0) (h2 : m.Most = 60) : zbu m o = 0 := by
 have hc : zcz m o = 0 := zqt zem hf hs _ 0 rfl
 unfold zbu
 rw [if_neg (by simp [hm])]
 unfold zbN
 rw [if_neg (by omega), if_neg (by simp [hc]), if_pos (zjU h1 h2 hl)]
def zdB (p : Pick) (to : Str) : DealS := ⟨[111], to, 0, 1, [⟨p.Player, p.Team, to⟩]⟩
theorem zsT (h : zQ r = 0) {p : Pick} {to : Str} (hp : p ∈ za7 r) (ht : to ∈ r.Teams) (hn : p.Team ≠ to) : zcf (mkT r) [zdB p to] = 0 := by
 obtain ⟨j, hj⟩ := List.mem_iff_getElem?.1 hp
 obtain ⟨h1, h2, _⟩ := zkf h hj
 have k1 : (mkT r).Teams.contains p.Team = true := List.contains_iff_mem.2 (zf9.2 h2)
 have k2 : (mkT r).Teams.contains to = true := List.contains_iff_mem.2 (zf9.2 ht)
 have hg : zaG (mkT r) ⟨p.Player, p.Team, to⟩ = 0 := by
  unfold zaG
  rw [if_neg (by simp [zl1 h _ h1]), if_neg (by simp only [k1, k2]; simp), if_neg hn]
 have hgs : zaM (mkT r) [⟨p.Player, p.Team, to⟩] = 0 := by
  unfold zaM
  rw [if_neg (by simp), if_neg (by simp), zas, if_neg (by simp [hg]), if_neg (by simp)]; rfl
 have hc : (zdM [⟨p.Player, p.Team, to⟩]).contains to = true := List.contains_iff_mem.2 (by unfold zdM; rw [zqm]; simp [zc8])
 have hd : zbs (mkT r) (zdB p to) = 0 := by
  unfold zbs zdB
  dsimp only
  rw [if_neg (by decide), if_neg (by simp only [k2]; simp), if_neg (by simp [out]), if_neg (by simp [hgs]), if_neg (by simp only [hc]; simp)]
 unfold zcf
 rw [if_neg (by simp [zqh h])]
 unfold zcl
 rw [if_neg (by simp), zas, if_neg (by simp [hd]), if_neg (by simp)]; rfl
theorem zon {o : List OwnerS} {g : GiveS} : ∀ {o : List OwnerS}, SortedS (o.map (·.Player)) → (⟨g.Player, g.From⟩ : OwnerS) ∈ o → ∃ q, zdn o g = some q ∧ q.length = o.length ∧ (⟨g.Player, g.To⟩ : OwnerS) ∈ q
 | [], _, h => by cases h
 | y :: r, hs, h => by
   have hs' : (y.Player :: r.map (·.Player)).Pairwise _ := hs
   obtain ⟨h1, h2⟩ := List.pairwise_cons.1 hs'
   rw [zpf]
   rcases List.mem_cons.1 h with e | hm
   ·subst e
    rw [if_pos rfl, if_pos rfl]
    exact ⟨_, rfl, by simp, by simp⟩
   ·have hne : y.Player ≠ g.Player := fun e => by
     have := h1 g.Player (List.mem_map.2 ⟨_, hm, rfl⟩)
     rw [e, zag] at this; cases this
    obtain ⟨q, q1, q2, q3⟩ := zon (o := o) h2 hm
    rw [if_neg hne, q1]
    exact ⟨y :: q, rfl, by simp [q2], List.mem_cons_of_mem y q3⟩
/-- The law on drafts and trades, from its parts. -/
theorem zmk (h : zQ r = 0) (h60 : (za7 r).length ≤ 60) {p : Pick} {to : Str} (hp : p ∈ za7 r) (ht : to ∈ r.Teams) (hn : p.Team ≠ to) :
 ziM (mkT r) (zbI r) (zdB p to) = 0 ∧ (zeT (mkT r) (zbI r) (zdB p to)).length = (zbI r).length ∧ (⟨p.Player, to⟩ : OwnerS) ∈ zeT (mkT r) (zbI r) (zdB p to) ∧ zbu (mkT r) (zeT (mkT r) (zbI r) (zdB p to)) = 0 := by
 have hm := zqh h
 have hl : (zbI r).length ≤ 60 := by rw [zm4]; exact h60
 have ho : zbu (mkT r) (zbI r) = 0 := zm8 hm hl (zpZ h) (zjp h) rfl rfl
 have hd := zsT h hp ht hn
 have hT : zcj (mkT r) (zbI r) (zdB p to) = 0 := by unfold zcj; rw [ho, hd]; rfl
 have hsr := zkW (zjp h)
 have hin : (⟨p.Player, p.Team⟩ : OwnerS) ∈ zbI r := (zgf zaR).2 (List.mem_map.2 ⟨p, hp, rfl⟩)
 obtain ⟨q, q1, q2, q3⟩ := zon (o := zbI r) (g := ⟨p.Player, p.Team, to⟩) hsr hin
 have hF : zbl (zbI r) (zdB p to).Gives = some q := by
  show zbl (zbI r) [_] = _
  rw [zbl, q1]; rfl
 obtain ⟨b1, b2⟩ := zlG (m := mkT r) hF
 have hB : zea (mkT r) (zbI r) (zdB p to).Gives = true := by rw [b1]; exact zjU rfl rfl (by omega)
 obtain ⟨e1, e2⟩ := zhy hT hB
 have hgE : zaM (mkT r) (zdB p to).Gives = 0 := by
  obtain ⟨_, h5⟩ := zl7 hd
  obtain ⟨_, d2, _⟩ := zlI h5
  exact znj (d2 _ (by simp))
 have hk := zsC hgE (⟨zpZ h, zjU rfl rfl hl⟩ : OwnOk (mkT r) (zbI r)) hB
 have hpl := zix (m := mkT r) (x := zdB p to) hB
 rw [e1, b2]
 rw [b2] at hk hpl
 exact ⟨e2, q2, q3, zm8 hm (by omega) hk.f (zqw (by rw [hpl]; exact hsr)) rfl rfl⟩
end
end
section
theorem zsL : Go.Sort.SWO (Go.Proofs.ltOf cP) := by
 have e : Go.Proofs.ltOf cP = Go.Proofs.ltOf zaR := by
  funext a b
  show decide (cP a b < 0) = decide (zaR a b < 0)
  rw [decide_eq_decide]; exact zrY
 rw [e]; exact zop zem
theorem zpH {l l' : List OwnerS} (hp : l'.Perm l) (hs : l'.Pairwise fun a b => ¬ cP b a < 0) (hn : (l.map (·.Player)).Nodup) : l' = za0 zaR l := by
 have h2 : l'.Pairwise fun a b => a.Player ≠ b.Player := List.pairwise_map.1 ((hp.map _).nodup_iff.2 hn)
 have h3 : l'.Pairwise fun a b => zaR a b < 0 := (hs.and h2).imp fun {a b} ⟨h, q⟩ => by
  have h1 : ¬ zaR b a < 0 := fun e => h (zrY.2 e)
  have hf := zem.flip b a trivial trivial
  have h0 : ¬ zaR a b = 0 := fun e => q (zcc.1 e)
  omega
 refine List.Perm.eq_of_pairwise (le := fun a b => zaR a b < 0) (fun a b _ _ h1 h2 => ?_) h3 (zkE hn) (hp.trans (zc5 zaR l).symm)
 have hf := zem.flip a b trivial trivial
 omega
theorem zqB {r : Room} {k : Nat} {p : Pick} (h : (za7 r)[k]? = some p) : ((za7 r).take (k + 1)).map (fun p => (⟨p.Player, p.Team⟩ : OwnerS)) = ((za7 r).take k).map (fun p => (⟨p.Player, p.Team⟩ : OwnerS)) ++ [⟨p.Player, p.Team⟩] := by
 rw [List.take_add_one, h]; simp
theorem zs2 {r : Room} (h : zQ r = 0) : (za7 r).length ≤ r.Players.length := by
 have h1 := zmL h
 have : ((za7 r).map (·.Player)).length ≤ r.Players.length := zgK h1 fun s hs => by
  obtain ⟨p, hp, rfl⟩ := List.mem_map.1 hs
  obtain ⟨j, hj⟩ := List.getElem?_of_mem hp
  exact (zkf h hj).1
 simpa using this
/-! where an owner stands -/
def ze5 (s : OwnerS) : List OwnerS → Int → Int
 | [], _ => -1
 | x :: t, i => if zie zaZ s x = true then i else ze5 s t (i + 1)
theorem zih {s : OwnerS} (hs : zie zaZ s s = true) : ∀ {l : List OwnerS} {i : Int}, 0 ≤ i → s ∈ l → 0 ≤ ze5 s l i
 | x :: t, i, hi, h => by
   rw [ze5]
   split
   ·exact hi
   ·rename_i hne
    rcases List.mem_cons.1 h with rfl | h
    ·exact absurd hs hne
    ·exact zih hs (by omega) h
end
end Go.HL
namespace Go.Proofs.YtkcnenknbbcoiaaGreatDoor
set_option maxRecDepth 100000
set_option linter.unusedVariables false
set_option linter.unusedSimpArgs false
section
open Go.HL
theorem zpI [Tracks] {r : Room} (ht : r.Teams.length ≤ 1000000) (hp : r.Players.length ≤ 1000000) : ConP Tryz.prog 7 [zby r, zeE [], zb7 [], zdb [], zel []] (.tup [zdb (za7 r), .int .i64 (zbc r [] [] [] [])]) := zle (k := []) (s := []) (l := []) (w := []) ht hp (by simp) (by simp) (by simp) (by simp) (by simp)

attribute [local go_sem] Oper.semAt_some
set_option maxRecDepth 100000 in
set_option maxHeartbeats 2000000 in
theorem zmV [Tracks] {l : List Str} (hl : l.length ≤ 1000000) {bx : Nat} (sv : Value) (w : World) (hbx : bx < w.heap.size) (hc : w.cell? ⟨bx, 0, none⟩ = some sv) (hs : zmW w sv l) : zmR Fence.wide 2 Tryz.prog 36 #[.pointer (some ⟨bx, 0, none⟩)] l w := fun i J W hW _ hJB hY h0 => by
 have hro : Fence.wide.round = none := rfl
 have hc' := (hW.cell (p := ⟨bx, 0, none⟩) hbx).trans hc
 rcases hs with ⟨a, cap, rfl, rfl⟩ | ⟨b, off, cap, rfl, hb, hcs⟩
 ·refine callsIn_of_wp Tryz.func36 rfl trivial ?_ hro
  simp only [Tryz.ntmps36, List.size_toArray, List.length_cons, List.length_nil, Nat.reduceAdd, Nat.reduceSub, Array.replicate_succ, Array.replicate_zero, List.push_toArray, List.append_toArray, List.nil_append, List.cons_append]
  gi_wp2
  gi_loopw [7] (fun i wr => i = .int .i64 0 ∧ J [] wr) (fun _ _ => 0)
  case atStart => exact ⟨rfl, h0⟩
  case round =>
   obtain ⟨rfl, hJs⟩ := hrel
   gi_wp2
   go_end0
   exact ⟨⟨_, rfl⟩, hJs⟩
 ·refine callsIn_of_wp Tryz.func36 rfl trivial ?_ hro
  simp only [Tryz.ntmps36, List.size_toArray, List.length_cons, List.length_nil, Nat.reduceAdd, Nat.reduceSub, Array.replicate_succ, Array.replicate_zero, List.push_toArray, List.append_toArray, List.nil_append, List.cons_append]
  gi_wp2
  gi_loopw [7] (fun i wr => ∃ k : Nat, k ≤ l.length ∧ i = .int .i64 k ∧ J (l.take k) wr) (fun i _ => l.length - (intOf i).toNat)
  case atStart => exact ⟨0, Nat.zero_le _, rfl, h0⟩
  case round =>
   obtain ⟨k, hk, rfl, hJs⟩ := hrel
   have hcx : k < l.length → wr.cell? ⟨b, off + k, none⟩ = some (encStr (l[k]?.getD [])) := fun h => ((hJB _ _ hJs).cell (p := ⟨b, off + k, none⟩) hb).trans (hcs k h)
   by_cases hlt : k < l.length
   ·obtain ⟨x, hx⟩ : ∃ x, l[k]? = some x := ⟨_, List.getElem?_eq_getElem hlt⟩
    obtain ⟨fn, tmps, assign, body, hy, hR⟩ := hY _ x wr hJs (by rw [List.length_take]; omega)
    have hcx' : wr.cell? ⟨b, off + k, none⟩ = some (encStr x) := by have := hcx hlt; rwa [hx] at this
    clear hcx
    gi_wp2
    refine hR.mono ?_
    rintro e W3 ⟨rfl, hJ3, hk3⟩
    gi_wp2
    go_roundw
    case rel => exact ⟨k + 1, by omega, by simp, by rw [List.take_add_one, hx]; exact hJ3⟩
    case measure => simp [intOf]; omega
   ·obtain rfl : k = l.length := by omega
    gi_wp2
    go_end0
    exact ⟨⟨_, rfl⟩, by simpa using hJs⟩
set_option maxHeartbeats 1000000 in
theorem zp3 [Tracks] (a : Option Addr) (len cap : Nat) (w : World) :
 CallsIn Fence.wide 1 Tryz.prog 9 #[.slice a len cap] w fun e w' => e = .returned (.func (.func 36) #[] #[.pointer (some ⟨w.heap.size, 0, none⟩)]) ∧ w' = w.alloc (.cells #[.slice a len cap] 26) := by
 refine callsIn_of_wp Tryz.func9 rfl trivial ?_ rfl
 simp only [Tryz.ntmps9, List.size_toArray, List.length_cons, List.length_nil, Nat.reduceAdd, Nat.reduceSub, Array.replicate_succ, Array.replicate_zero, List.push_toArray, List.append_toArray, List.nil_append, List.cons_append]
 gi_wp2
 go_ret
 exact ⟨rfl, rfl⟩
theorem zkj [Tracks] {l : List Str} : Con Tryz.prog 9 [eSs l] [] fun x M' => ∃ bx, x = .fn (.func 36) [] [.raw (.pointer (some ⟨bx, 0, none⟩))] ∧ M' = [.cells bx [eSs l]] := by
 intro I F w args ha hs
 obtain ⟨u, rfl, hu⟩ := ha.one
 obtain ⟨a, len, cap, rfl⟩ : ∃ a len cap, u = .slice a len cap := by
  generalize hc : eSs l = c at hu
  cases hu with
  | slice0 sz a cap => exact ⟨_, _, _, rfl⟩
  | slice => exact ⟨_, _, _, rfl⟩
  | _ => cases hc
 refine ((callsIn_wide (n := 1)).1 (zp3 a len cap w)).mono ?_
 rintro _ w' ⟨rfl, rfl⟩
 refine ⟨_, _, _, I, rfl, .refl I, ⟨w.heap.size, rfl, rfl⟩, .fn rfl rfl (fun j c v h _ => by simp at h) (fun j c v h1 h2 => ?_), ?_⟩
 ·exact (VL.cons (.raw _ rfl) VL.nil : VL I [.raw (.pointer (some ⟨w.heap.size, 0, none⟩))] [.pointer (some ⟨w.heap.size, 0, none⟩)]).2 j c v h1 (by simpa using h2)
 ·exact hs.new_own _ _ rfl ⟨#[.slice a len cap], 26, (0, 0), by simp, Free.zero _, VL.cons hu VL.nil⟩
theorem zj8 [Tracks] (hT : Tracks.on = false) {l : List Str} (hl : l.length ≤ 1000000) {bx : Nat} :
 Con Tryz.prog 8 [.fn (.func 36) [] [.raw (.pointer (some ⟨bx, 0, none⟩))]] [.cells bx [eSs l]] fun x M' => ∃ v, x = .raw v ∧ M' = [.arr v 1 ((zar l).map .str)] :=
 zn8 hT (ρ := Tryz.g8_ren) Tryz.g8 zoj (enters_of Tryz.func35 (by kernel_rfl) rfl) (enters_of Tryz.func36 (by kernel_rfl) rfl) hl fun sv w h1 h2 h3 => zmV hl sv w h1 h2 h3

/-- slices.SortFunc -/
theorem zns [Tracks] {c : OwnerS → OwnerS → Int} (hO : Go.Sort.SWO (Go.Proofs.ltOf c)) {g : FuncId} (hg : Callable Tryz.prog g) {cap : List HVal} (hc : ∀ x y, @ConP zfB Tryz.prog g (zaZ x :: zaZ y :: cap) (.int .i64 (c x y))) {l : List OwnerS} (hl : l.length ≤ 1000000) {v : Value} :
 Con Tryz.prog 10 [.raw v, .fn (.func g) [] cap] [.arr v 2 (l.map zaZ)] fun x M' => ∃ l' : List OwnerS, x = .tup [] ∧ l'.Perm l ∧ l'.Pairwise (fun a b => ¬ c b a < 0) ∧ M' = [.arr v 2 (l'.map zaZ)] :=
 zl4 (e := zaZ) Tryz.g10 (Tryz.isAgg46) (Tryz.sizeOf46) (fun _ => rfl) (fun _ => rfl) (fun _ => rfl) hO hg hc hl

/-- benchwarmer/benchtop.TopDraftedCanTrade$1 -/
theorem zeo [Tracks] {a b : OwnerS}  : ConP Tryz.prog 11 [zaZ a, zaZ b] (.int .i64 (cP a b)) := by
 refine Con.of_body Tryz.func11 rfl Tryz.ntmps11 rfl rfl ?_
 refine za ?_
 refine dq (zam rfl rfl) ?_
 refine dq (zam rfl rfl) ?_
 refine das rfl ?_
 refine dn ?_
 refine zf ?_
 refine za ?_
 refine dq (zb za1 rfl ty9 (by decide) rfl) ?_
 refine dq (zc ty9 rfl rfl rfl) ?_
 refine dq (zb za1 rfl ty9 (by decide) rfl) ?_
 refine dq (zc ty9 rfl rfl rfl) ?_
 refine dq (znr rfl rfl) ?_
 refine dn ?_
 refine ze rfl (fun h1 => ?_) (fun h2 => ?_)
 ·try simp at h1
  refine za ?_
  refine das rfl ?_
  refine dn ?_
  refine zg ?_
  refine zm rfl ?_
  first
  | (rw [cP, if_pos (by simpa using h1)]; rfl)
  | (rw [cP, if_neg (by simpa using h2)]; rfl)
 ·try simp at h2
  refine zi ?_
  refine zd ?_
  refine za ?_
  refine das rfl ?_
  refine dn ?_
  refine zg ?_
  refine zm rfl ?_
  first
  | (rw [cP, if_pos (by simpa using h1)]; rfl)
  | (rw [cP, if_neg (by simpa using h2)]; rfl)

/-- slices.Index[[]benchwarmer/api.Owner,benchwarmer/api.Owner] -/
theorem zdU [Tracks] {l : List OwnerS} {s : OwnerS} (hl : l.length ≤ 1000000) : ConP Tryz.prog 42 [zcD l, zaZ s] (.int .i64 (ze5 s l 0)) := by
 refine Con.of_body Tryz.func42 rfl Tryz.ntmps42 rfl rfl ?_
 refine za ?_
 refine dq (zam rfl rfl) ?_
 refine das rfl ?_
 refine dn ?_
 refine zf ?_
 refine za ?_
 refine dmv rfl ?_
 refine dq (zv zcC rfl) ?_
 refine dmv rfl ?_
 refine dn ?_
 refine zk ?_
 refine zab [4, 5, 8, 9, 10, 11, 12, 13, 14, 15, 16, 17, 18] (fun (k : Nat) => [(8, .int .i64 k)]) (fun (k : Nat) => []) (fun (k : Nat) => k ≤ l.length ∧ (ze5 s l 0 = ze5 s (l.drop k) k)) (fun (k : Nat) => l.length - k) (0) ?_ ?_ ?_ ?_
 ·exact ⟨Nat.zero_le _, rfl⟩
 ·exact ⟨rfl, trivial⟩
 ·exact List.Perm.refl _
 ·intro k hinv
  obtain ⟨hk, hg⟩ := hinv
  refine za ?_
  refine dq (zK rfl rfl) ?_
  refine dn ?_
  refine zf ?_
  refine ze rfl (fun h1 => ?_) (fun h2 => ?_)
  ·try simp at h1
   obtain ⟨x, hx⟩ : ∃ x, l[k]? = some x := ⟨_, List.getElem?_eq_getElem h1⟩
   have hdx := zI hx
   rw [hdx] at hg
   refine zi ?_
   refine zd ?_
   refine zf ?_
   refine zk ?_
   refine za ?_
   refine dmv rfl ?_
   refine das rfl ?_
   refine dn ?_
   refine zaF (fun _ => True) [] mixed ?_
   refine ahp 0 rfl rfl (by kernel_rfl) (by kernel_rfl) (zB za1 rfl rfl rfl rfl) ?_
   refine ahp 1 rfl rfl (by kernel_rfl) (by kernel_rfl) (zh rfl) ?_
   refine ahp 2 rfl rfl (by kernel_rfl) (by kernel_rfl) (zh rfl) ?_
   refine ahp 3 rfl rfl (by kernel_rfl) (by kernel_rfl) (zH zcC za1 rfl rfl rfl (by first | assumption | simp_all)) ?_
   refine ahp 4 rfl rfl (by kernel_rfl) (by kernel_rfl) (zB za1 rfl rfl rfl rfl) ?_
   refine ahp 5 rfl rfl (by kernel_rfl) (by kernel_rfl) (zrD za1 eq46 rfl rfl ⟨rfl, ⟨_, _, _, _, ty9, rfl⟩, ⟨rfl, ⟨_, _, _, _, ty9, rfl⟩, trivial⟩⟩) ?_
   refine ahz (by kernel_rfl) ?_
   refine ze rfl (fun h3 => ?_) (fun h4 => ?_)
   ·try simp at h3
    refine za ?_
    refine dmv rfl ?_
    refine das rfl ?_
    refine dn ?_
    refine zg ?_
    refine zm rfl ?_
    first | (rw [hg, ze5, if_pos (show zie zaZ s x = true from h3)]) | (rw [hg, zaq (Nat.le_refl _)]; rfl)
   ·try simp at h4
    refine zi ?_
    refine zu ?_
    refine zd ?_
    refine zy ?_
    refine dq (zx rfl rfl (by omega) (by omega)) ?_
    refine dmv rfl ?_
    refine dn ?_
    refine ⟨k + 1, ?_, ?_, ⟨rfl, trivial⟩, (by repeat (first | exact zo | refine zt rfl ?_ | refine zp rfl rfl ?_)), List.Perm.refl _⟩
    ·refine ⟨by omega, ?_⟩
     rw [hg, ze5, if_neg (show ¬ zie zaZ s x = true by rw [show zie zaZ s x = false from h4]; simp)]; rfl
    ·dsimp only; omega
  ·try simp at h2
   have hnk : l.length ≤ k := by omega
   obtain rfl : k = l.length := by omega
   refine zL ?_
   refine zS ?_
   refine zap ?_
   refine zD ?_
   refine zd ?_
   refine za ?_
   refine das rfl ?_
   refine dn ?_
   refine zg ?_
   refine zm rfl ?_
   first | (rw [hg, ze5, if_pos (show zie zaZ s x = true from h3)]) | (rw [hg, zaq (Nat.le_refl _)]; rfl)

/-- slices.Contains[[]benchwarmer/api.Owner,benchwarmer/api.Owner] -/
theorem zdp [Tracks] {l : List OwnerS} {s : OwnerS} (hl : l.length ≤ 1000000) : ConP Tryz.prog 14 [zcD l, zaZ s] (.bool (decide (0 ≤ ze5 s l 0))) := by
 refine Con.of_body Tryz.func14 rfl Tryz.ntmps14 rfl rfl ?_
 refine za ?_
 refine dq (zam rfl rfl) ?_
 refine das rfl ?_
 refine dn ?_
 refine za ?_
 refine dmv rfl ?_
 refine dq (zB za1 rfl rfl rfl rfl) ?_
 refine dq (zj ca42 rfl (WeakL.refl _) (zdU (by first | assumption | omega | (simp; omega) | simp_all))) ?_
 refine dq (zbD rfl rfl) ?_
 refine das rfl ?_
 refine dn ?_
 refine zg ?_
 refine zm rfl ?_
 rfl

/-- benchwarmer/benchtop.h06facts -/
theorem zeJ [Tracks]  (hT : Tracks.on = false) : ConP Tryz.prog 6 [] (.bool true) := by
 refine Con.of_body Tryz.func6 rfl Tryz.ntmps6 rfl rfl ?_
 refine za ?_
 refine das rfl ?_
 refine dn ?_
 refine za ?_
 refine dq (zau (cs := [_, _, _, _, _, _, _, _, _]) zY pl75 rfl) ?_
 refine dq (zG (hs := [_]) zeP zY rfl rfl (by decide) (by decide) rfl) ?_
 refine dq (zG (hs := [_]) zA ty9 rfl rfl (by decide) (by decide) rfl) ?_
 refine dq (zj (hs' := [zgO [zjc], eSs [[115]], .int .i64 1, .int .i64 5]) ca27 rfl (WeakL.refl _) (znC hT (by decide) (by decide))) ?_
 refine dmv rfl ?_
 refine dq (zJ rfl rfl) ?_
 refine dq (zJ rfl rfl) ?_
 refine das rfl ?_
 refine das rfl ?_
 refine dn ?_
 simp only [zsn, zsl]
 refine za ?_
 refine dq (zG (hs := [_, _]) zA ty9 rfl rfl (by decide) (by decide) rfl) ?_
 refine dq (zG (hs := [_, _, _, _]) zA ty9 rfl rfl (by decide) (by decide) rfl) ?_
 refine dq (zau (cs := [_, _, _, _, _, _]) zV zjY rfl) ?_
 refine de rfl (zO zV rfl fun b3 => ?_)
 refine de0 (zR zV rfl rfl rfl rfl rfl ?_)
 refine dn ?_
 refine zF (Ghost.fc0 3 rfl) ?_
 refine za ?_
 refine dq (zB zV rfl rfl rfl rfl) ?_
 refine dq (zj (hs' := [zby zmx, zb7 []]) ca28 rfl ⟨Weak.refl _, zaV 3, trivial⟩ (zmi (r := zmx) (s := []) (by decide) (by decide) (by decide))) ?_
 refine dmv rfl ?_
 refine dq (zJ rfl rfl) ?_
 refine dq (zJ rfl rfl) ?_
 refine das rfl ?_
 refine das rfl ?_
 refine dn ?_
 simp only [zoa, zqY]
 refine za ?_
 refine dq (zau (cs := [_, _, _]) zaN pl82 rfl) ?_
 refine dq (zG (hs := [_]) zcL zaN rfl rfl (by decide) (by decide) rfl) ?_
 refine dq (zau (cs := [_, _]) zdE pl85 rfl) ?_
 refine dq (zG (hs := [_]) zjV zdE rfl rfl (by decide) (by decide) rfl) ?_
 refine dq (zj (hs' := [zfD [ze7], zi5 [zgW]]) ca29 rfl (WeakL.refl _) (zkt (l := [ze7]) (p := [zgW]) (by decide) (by decide))) ?_
 refine dmv rfl ?_
 refine dq (zJ rfl rfl) ?_
 refine dq (zJ rfl rfl) ?_
 refine dq (zJ rfl rfl) ?_
 refine das rfl ?_
 refine das rfl ?_
 refine das rfl ?_
 refine dn ?_
 simp only [zsH, zsp, zqr]
 refine za ?_
 refine dmv rfl ?_
 refine dq (zaz rfl rfl) ?_
 refine dmv rfl ?_
 refine dg rfl rfl (fun hc => ⟨_, OpenTo.refl _, zh rfl⟩) ?_
 refine dg rfl rfl (fun hc => ⟨_, OpenTo.upd (t := 36) rfl (by first | exact hc | simp_all) (OpenTo.refl _), zv zpl rfl⟩) ?_
 refine dg rfl rfl (fun hc => ⟨_, OpenTo.upd (t := 37) rfl (by first | exact hc | simp_all) (OpenTo.refl _), zaz rfl rfl⟩) ?_
 refine dq (zw rfl (.inr ⟨_, rfl, fun h => by simp_all⟩) (.inl rfl)) ?_
 refine dmv rfl ?_
 refine dg rfl rfl (fun hc => ⟨_, OpenTo.refl _, zh rfl⟩) ?_
 refine dg rfl rfl (fun hc => ⟨_, OpenTo.upd (t := 41) rfl (by first | exact hc | simp_all) (OpenTo.refl _), zH (j := 0) (a := zpo) zpl znD rfl rfl rfl rfl⟩) ?_
 refine dg rfl rfl (fun hc => ⟨_, OpenTo.upd (t := 42) rfl (by first | exact hc | simp_all) (OpenTo.refl _), zb znD rfl zg1 (by decide) rfl⟩) ?_
 refine dg rfl rfl (fun hc => ⟨_, OpenTo.upd (t := 43) rfl (by first | exact hc | simp_all) (OpenTo.refl _), zc zg1 rfl rfl rfl⟩) ?_
 refine dg rfl rfl (fun hc => ⟨_, OpenTo.upd (t := 44) rfl (by first | exact hc | simp_all) (OpenTo.refl _), zv zg1 rfl⟩) ?_
 refine dg rfl rfl (fun hc => ⟨_, OpenTo.upd (t := 45) rfl (by first | exact hc | simp_all) (OpenTo.refl _), zaz rfl rfl⟩) ?_
 refine dq (zw rfl (.inr ⟨_, rfl, fun h => by simp_all⟩) (.inl rfl)) ?_
 refine dmv rfl ?_
 refine dg rfl rfl (fun hc => ⟨_, OpenTo.refl _, zh rfl⟩) ?_
 refine dg rfl rfl (fun hc => ⟨_, OpenTo.upd (t := 49) rfl (by first | exact hc | simp_all) (OpenTo.refl _), zaz rfl rfl⟩) ?_
 refine dq (zw rfl (.inr ⟨_, rfl, fun h => by simp_all⟩) (.inl rfl)) ?_
 refine dmv rfl ?_
 refine dg rfl rfl (fun hc => ⟨_, OpenTo.refl _, zh rfl⟩) ?_
 refine dg rfl rfl (fun hc => ⟨_, OpenTo.refl _, zG (hs := [_, _, _, _]) zA ty9 rfl rfl (by decide) (by decide) rfl⟩) ?_
 refine dg rfl rfl (fun hc => ⟨_, OpenTo.upd (t := 54) rfl (by first | exact hc | simp_all) (OpenTo.upd (t := 53) rfl (by first | exact hc | simp_all) (OpenTo.refl _)), zj ca30 rfl (WeakL.refl _) (zeR (l := [[97], [98], [98], [97]]) (m := [[97], [98], [98], [97]]) (by decide))⟩) ?_
 refine dq (zw rfl (.inr ⟨_, rfl, fun h => by simp_all⟩) (.inl rfl)) ?_
 refine dmv rfl ?_
 refine dg rfl rfl (fun hc => ⟨_, OpenTo.refl _, zh rfl⟩) ?_
 refine dg rfl rfl (fun hc => ⟨_, OpenTo.upd (t := 58) rfl (by first | exact hc | simp_all) (OpenTo.refl _), zaz rfl rfl⟩) ?_
 refine dq (zw rfl (.inr ⟨_, rfl, fun h => by simp_all⟩) (.inl rfl)) ?_
 refine dmv rfl ?_
 refine dg rfl rfl (fun hc => ⟨_, OpenTo.refl _, zh rfl⟩) ?_
 refine dg rfl rfl (fun hc => ⟨_, OpenTo.upd (t := 62) rfl (by first | exact hc | simp_all) (OpenTo.refl _), zaz rfl rfl⟩) ?_
 refine dq (zw rfl (.inr ⟨_, rfl, fun h => by simp_all⟩) (.inl rfl)) ?_
 refine das rfl ?_
 refine dn ?_
 refine zg ?_
 refine zm rfl ?_
 rfl

set_option maxHeartbeats 2000000 in
/-- benchwarmer/benchtop.TopDraftedCanTrade -/
theorem zct [Tracks] {l : List Int} (hT : Tracks.on = false) : ConP Tryz.prog 3 [.slice 1 (l.map (.int .i64))] (.bool true) := by
 refine Con.of_body Tryz.func3 rfl Tryz.ntmps3 rfl rfl ?_
 refine za ?_
 refine das rfl ?_
 refine dn ?_
 refine za ?_
 refine dmv rfl ?_
 refine dq (zau (cs := [_, _]) zgy pl25 rfl) ?_
 refine de rfl (zoG rfl rfl fun b => ?_)
 refine zsX (M' := [St b l 0]) rfl ?_
 refine das rfl ?_
 refine dn ?_
 refine za ?_
 refine dmv rfl ?_
 first
 | refine de rfl (zN (i := 0) ca4 rfl (WeakL.refl _) rfl (zbz (by first | assumption | omega | (simp; omega) | simp_all)) ?_)
 | refine de rfl (zN (i := 1) ca4 rfl (WeakL.refl _) rfl (zbz (by first | assumption | omega | (simp; omega) | simp_all)) ?_)
 | refine de rfl (zN (i := 2) ca4 rfl (WeakL.refl _) rfl (zbz (by first | assumption | omega | (simp; omega) | simp_all)) ?_)
 | refine de rfl (zN (i := 3) ca4 rfl (WeakL.refl _) rfl (zbz (by first | assumption | omega | (simp; omega) | simp_all)) ?_)
 rintro _ _ ⟨r18, a18, rfl, hr18, ha18, rfl⟩
 refine de rfl (zO zV rfl fun b4 => ?_)
 refine de0 (zR zV rfl rfl rfl rfl rfl ?_)
 refine dn ?_
 refine zF (Ghost.fc0 4 rfl) ?_
 have ht1 : r18.Teams.length ≤ 1000000 := Nat.le_trans hr18.t4 (by omega)
 have hp1 : r18.Players.length ≤ 1000000 := Nat.le_trans hr18.p20 (by omega)
 refine zf ?_
 refine za ?_
 refine dq (zB zV rfl rfl rfl rfl) ?_
 refine dq (zj ca5 rfl (WeakL.refl _) (zgQ ht1 hp1 hr18.ts hr18.ps)) ?_
 refine dq (zah rfl rfl) ?_
 refine dmv rfl ?_
 refine dg rfl rfl (fun hc => ⟨_, OpenTo.refl _, zb zV rfl zA (by decide) rfl⟩) ?_
 refine dg rfl rfl (fun hc => ⟨_, OpenTo.upd (t := 23) rfl (by first | exact hc | simp_all) (OpenTo.refl _), zc zA rfl rfl rfl⟩) ?_
 refine dg rfl rfl (fun hc => ⟨_, OpenTo.upd (t := 24) rfl (by first | exact hc | simp_all) (OpenTo.refl _), zv zA rfl⟩) ?_
 refine dg rfl rfl (fun hc => ⟨_, OpenTo.upd (t := 25) rfl (by first | exact hc | simp_all) (OpenTo.refl _), zK rfl rfl⟩) ?_
 refine dq (zw rfl (.inl rfl) (.inr ⟨_, rfl, fun h => by simp_all⟩)) ?_
 refine dn ?_
 refine ze rfl (fun h1 => ?_) (fun h2 => ?_)
 ·try simp at h1
  refine za ?_
  refine dq (zj ca6 rfl (WeakL.refl _) (zeJ hT)) ?_
  refine das rfl ?_
  refine dn ?_
  refine zg ?_
  first
  | exact za2 Ghost.clear rfl ⟨rfl, rfl⟩
  | (refine za2 Ghost.clear rfl ⟨?_, rfl⟩
     show HVal.bool _ = _
     have hi := zih (s := ⟨z.Player, to⟩) (by simp [zie, zl, ze3, eqH]) (Int.le_refl 0) d3
     rw [d4]
     simp [hi])
 ·try simp at h2
  refine zi ?_
  refine zd ?_
  have hq : zQ r18 = 0 := by simp_all
  have ht2 : 2 ≤ r18.Teams.length := by simp_all; omega
  obtain ⟨e1, e2, e3⟩ := zrV hq
  obtain ⟨_, _, _, q4, q5, _⟩ := zb6 hq
  have hfl := zs2 hq
  have hp20 := hr18.p20
  have ht4 := hr18.t4
  have hmul : (((za7 r18).length : Nat) : Int) = (r18.Teams.length : Int) * r18.Rounds := by rw [e3, Int.natCast_mul, Int.toNat_of_nonneg (by omega), Int.mul_comm]
  have hm1 : -9223372036854775808 ≤ (r18.Teams.length : Int) * r18.Rounds := by omega
  have hm2 : (r18.Teams.length : Int) * r18.Rounds ≤ 9223372036854775807 := by omega
  refine za ?_
  refine dq (zB zV rfl rfl rfl rfl) ?_
  refine dq (zj (hs' := [zby r18, zeE [], zb7 [], zdb [], zel []]) ca7 rfl ⟨Weak.refl _, zaV 3, zaV 3, zaV 5, zaV 2, trivial⟩ (zpI ht1 hp1)) ?_
  refine dmv rfl ?_
  refine dq (zJ rfl rfl) ?_
  refine dq (zJ rfl rfl) ?_
  refine das rfl ?_
  refine das rfl ?_
  refine dn ?_
  refine zf ?_
  refine za ?_
  refine dmv rfl ?_
  refine dq (zah rfl rfl) ?_
  refine dmv rfl ?_
  refine dg rfl rfl (fun hc => ⟨_, OpenTo.refl _, zh rfl⟩) ?_
  refine dg rfl rfl (fun hc => ⟨_, OpenTo.upd (t := 37) rfl (by first | exact hc | simp_all) (OpenTo.refl _), zv zaw rfl⟩) ?_
  refine dg rfl rfl (fun hc => ⟨_, OpenTo.refl _, zb zV rfl zA (by decide) rfl⟩) ?_
  refine dg rfl rfl (fun hc => ⟨_, OpenTo.upd (t := 39) rfl (by first | exact hc | simp_all) (OpenTo.refl _), zc zA rfl rfl rfl⟩) ?_
  refine dg rfl rfl (fun hc => ⟨_, OpenTo.upd (t := 40) rfl (by first | exact hc | simp_all) (OpenTo.refl _), zv zA rfl⟩) ?_
  refine dg rfl rfl (fun hc => ⟨_, OpenTo.refl _, zb zV rfl ty3 (by decide) rfl⟩) ?_
  refine dg rfl rfl (fun hc => ⟨_, OpenTo.upd (t := 42) rfl (by first | exact hc | simp_all) (OpenTo.refl _), zc ty3 rfl rfl rfl⟩) ?_
  refine dg rfl rfl (fun hc => ⟨_, OpenTo.upd (t := 43) rfl (by first | exact hc | simp_all) (OpenTo.upd (t := 41) rfl (by first | exact hc | simp_all) (OpenTo.refl _)), zgh rfl rfl hm1 hm2⟩) ?_
  refine dg rfl rfl (fun hc => ⟨_, OpenTo.upd (t := 44) rfl (by first | exact hc | simp_all) (OpenTo.upd (t := 38) rfl (by first | exact hc | simp_all) (OpenTo.refl _)), zah rfl rfl⟩) ?_
  refine dq (zw rfl (.inl rfl) (.inr ⟨_, rfl, fun h => by simp_all⟩)) ?_
  refine dn ?_
  refine ze rfl (fun h3 => ?_) (fun h3 => ?_)
  ·exfalso
   try simp at h3
   rw [e1, hmul] at h3
   simp at h3
  ·try simp at h3
   refine zi ?_
   refine zd ?_
   refine za ?_
   refine dq (zb zV rfl zA (by decide) rfl) ?_
   refine dq (zc zA rfl rfl rfl) ?_
   refine de rfl (zaK (M1 := []) (R := _) ca9 rfl (WeakL.refl _) (List.Perm.refl _) (zkj (l := r18.Teams)) ?_)
   rintro _ _ ⟨bx, rfl, rfl⟩
   refine de rfl (EOp.fzi (N := [St b l a18]) (sz := 1) (es := (zar r18.Teams).map .str) 0 (zaK (M1 := [.cells bx [eSs r18.Teams]]) (R := [St b l a18]) ca8 rfl (WeakL.refl _) (List.Perm.refl _) (zj8 hT ht1) (by rintro _ _ ⟨v, rfl, rfl⟩; exact ⟨v, rfl, rfl, rfl⟩)) ?_)
   refine dq (zau (cs := [_, _, _, _, _, _]) zb5 pl41 rfl) ?_
   refine de rfl (zO zb5 rfl fun b7 => ?_)
   refine de0 (zR zb5 rfl rfl rfl rfl rfl ?_)
   refine dn ?_
   refine zF (Ghost.fc0 7 rfl) ?_
   refine za ?_
   refine das rfl ?_
   refine dn ?_
   refine zF (Ghost.arr_nil 2) ?_
   refine zf ?_
   refine za ?_
   refine dmv rfl ?_
   refine dq (zv zaw rfl) ?_
   refine dmv rfl ?_
   refine dn ?_
   refine zk ?_
   refine zaS [8, 10, 54, 55, 56, 57, 58, 59, 60, 61, 62, 63, 64, 65, 66] (fun (k : Nat) (v : Value) => [(54, .int .i64 k), (8, .raw v)]) (fun (k : Nat) (v : Value) => [.arr v 2 ((((za7 r18).take k).map fun p => (⟨p.Player, p.Team⟩ : OwnerS)).map zaZ), St b l a18]) (fun (k : Nat) (v : Value) => k ≤ (za7 r18).length ∧ (True)) (fun (k : Nat) (v : Value) => (za7 r18).length - k) (0) (.slice none 0 0) ?_ ?_ ?_ ?_
   ·exact ⟨Nat.zero_le _, trivial⟩
   ·exact ⟨rfl, rfl, trivial⟩
   ·exact List.Perm.refl _
   ·intro k v hinv
    obtain ⟨hk, -⟩ := hinv
    refine za ?_
    refine dq (zK rfl rfl) ?_
    refine dn ?_
    refine zf ?_
    refine ze rfl (fun h4 => ?_) (fun h5 => ?_)
    ·try simp at h4
     obtain ⟨x, hx⟩ : ∃ x, (za7 r18)[k]? = some x := ⟨_, List.getElem?_eq_getElem h4⟩
     have hdx := zI hx
     refine zi ?_
     refine zd ?_
     refine zf ?_
     refine zk ?_
     refine za ?_
     refine dq (zH zaw zan rfl rfl rfl (by first | assumption | simp_all)) ?_
     refine dq (zB zan rfl rfl rfl rfl) ?_
     refine de rfl (zO zan rfl fun b10 => ?_)
     refine de0 (zR zan rfl rfl rfl rfl rfl ?_)
     refine dn ?_
     refine zF (Ghost.fc0 10 rfl) ?_
     refine zy ?_
     refine dmv rfl ?_
     refine dq (zb zan rfl ty9 (by decide) rfl) ?_
     refine dq (zc ty9 rfl rfl rfl) ?_
     refine dq (zb zan rfl ty9 (by decide) rfl) ?_
     refine dq (zc ty9 rfl rfl rfl) ?_
     refine dq (zau (cs := [_, _]) za1 pl46 rfl) ?_
     refine dq (zG (hs := [_]) zcC za1 rfl rfl (by decide) (by decide) rfl) ?_
     refine de rfl (zaO (i := 0) zcC za1 rfl rfl rfl rfl rfl (by simp [za6, zl]) (by simp; omega) fun v65 => ?_)
     refine das rfl ?_
     refine dn ?_
     refine zu ?_
     refine zd ?_
     refine zy ?_
     refine dq (zx rfl rfl (by omega) (by omega)) ?_
     refine dmv rfl ?_
     refine dn ?_
     exact ⟨k + 1, v65, ⟨by omega, trivial⟩, by dsimp only; omega, ⟨rfl, rfl, trivial⟩, (by repeat (first | exact zo | refine zt rfl ?_ | refine zp rfl rfl ?_)), zU (by dsimp only; rw [zqB hx]; simp)⟩
    ·try simp at h5
     have hnk : (za7 r18).length ≤ k := by omega
     obtain rfl : k = (za7 r18).length := by omega
     refine zL ?_
     refine zS ?_
     refine za8 ?_
     refine zD ?_
     refine zd ?_
     rw [List.take_length]
     have hol : (zjX r18).length ≤ 1000000 := by unfold zjX; rw [List.length_map]; omega
     refine za ?_
     refine dmv rfl ?_
     refine de rfl (zN (i := 0) ca10 rfl (WeakL.refl _) rfl (zns (c := cP) zsL ca11 (fun _ _ => @zeo zfB _ _) (l := zjX r18) hol) ?_)
     rintro _ _ ⟨Y, rfl, hYp, hYs, rfl⟩
     obtain rfl : Y = zbI r18 := zpH hYp hYs (by rw [zot]; exact zmL hq)
     refine dn ?_
     refine zF (Ghost.fa 8 (i := 0) rfl rfl) ?_
     have hx0 : 0 < (za7 r18).length := by
      have h2 := Int.mul_le_mul (a := 2) (b := 1) (c := (r18.Teams.length : Int)) (d := r18.Rounds) (by omega) q4 (by omega) (by omega)
      omega
     refine za ?_
     refine dmv rfl ?_
     refine dmv rfl ?_
     refine dmv rfl ?_
     refine dq (zv zaw rfl) ?_
     first
     | refine de rfl (zN (i := 0) zhk rfl (WeakL.refl _) rfl (zax (by first | assumption | omega | (simp; omega) | simp_all) (by first | assumption | omega | (simp; omega) | simp_all)) ?_)
     | refine de rfl (zN (i := 1) zhk rfl (WeakL.refl _) rfl (zax (by first | assumption | omega | (simp; omega) | simp_all) (by first | assumption | omega | (simp; omega) | simp_all)) ?_)
     | refine de rfl (zN (i := 2) zhk rfl (WeakL.refl _) rfl (zax (by first | assumption | omega | (simp; omega) | simp_all) (by first | assumption | omega | (simp; omega) | simp_all)) ?_)
     | refine de rfl (zN (i := 3) zhk rfl (WeakL.refl _) rfl (zax (by first | assumption | omega | (simp; omega) | simp_all) (by first | assumption | omega | (simp; omega) | simp_all)) ?_)
     rintro _ _ ⟨y73, rfl, hy73, rfl⟩
     obtain ⟨z, hz⟩ : ∃ z, (za7 r18)[y73]? = some z := ⟨_, List.getElem?_eq_getElem (by omega)⟩
     have hzm := List.mem_of_getElem? hz
     refine dq (zH (j := y73) (a := z) zaw zan rfl rfl rfl hz) ?_
     refine dq (zB zan rfl rfl rfl rfl) ?_
     refine de rfl (zO zan rfl fun b11 => ?_)
     refine de0 (zR zan rfl rfl rfl rfl rfl ?_)
     refine dn ?_
     refine zF (Ghost.fc0 11 rfl) ?_
     obtain ⟨ta, hta⟩ : ∃ x, r18.Teams[0]? = some x := ⟨_, List.getElem?_eq_getElem (by omega)⟩
     obtain ⟨tb, htb⟩ : ∃ x, r18.Teams[1]? = some x := ⟨_, List.getElem?_eq_getElem (by omega)⟩
     have hab : ta ≠ tb := fun e => by
      have h01 : (0 : Nat) = 1 := (List.getElem?_inj (l := r18.Teams) (by omega) (zfp hq)).1 (by rw [hta, htb, e])
      omega
     refine za ?_
     refine dq (zb zV rfl zA (by decide) rfl) ?_
     refine dq (zc zA rfl rfl rfl) ?_
     refine dq (zH (j := 0) (a := ta) zA ty9 rfl rfl rfl hta) ?_
     refine dq (zc ty9 rfl rfl rfl) ?_
     refine das rfl ?_
     refine dn ?_
     refine zk4 [12, 80, 81, 82, 83, 84, 85, 86, 87] (fun (to : Str) => [(12, .str to)]) (fun (to : Str) => [St b l (a18 + 1)]) (fun (to : Str) => to ∈ r18.Teams ∧ z.Team ≠ to) ?_ ?_
     ·skip
      refine za ?_
      refine dmv rfl ?_
      refine dq (zb zan rfl ty9 (by decide) rfl) ?_
      refine dq (zc ty9 rfl rfl rfl) ?_
      refine dq (zbh rfl rfl) ?_
      refine dn ?_
      refine ze rfl (fun h6 => ?_) (fun h7 => ?_)
      ·try simp at h6
       refine zy ?_
       refine dq (zb zV rfl zA (by decide) rfl) ?_
       refine dq (zc zA rfl rfl rfl) ?_
       refine dq (zH (j := 1) (a := tb) zA ty9 rfl rfl rfl htb) ?_
       refine dq (zc ty9 rfl rfl rfl) ?_
       refine das rfl ?_
       refine dn ?_
       exact ⟨tb, ⟨List.mem_of_getElem? htb, fun e => hab (h6.trans e)⟩, ⟨rfl, trivial⟩, (by repeat (first | exact zo | refine zt rfl ?_ | refine zp rfl rfl ?_)), List.Perm.refl _⟩
      ·try simp at h7
       refine zi ?_
       exact ⟨ta, ⟨List.mem_of_getElem? hta, fun e => h7 e.symm⟩, ⟨rfl, trivial⟩, (by repeat (first | exact zo | refine zt rfl ?_ | refine zp rfl rfl ?_)), List.Perm.refl _⟩
     ·intro to hto
      have hos : (zbI r18).length = (za7 r18).length := zm4
      have h60 : (za7 r18).length ≤ 60 := by omega
      obtain ⟨d1, d2, d3, d4⟩ := zmk hq h60 hzm hto.1 hto.2
      have hmt : (mkT r18).Teams.length ≤ 1000000 := by show (zar r18.Teams).length ≤ _; rw [zch]; omega
      have h0o : 0 < (zbI r18).length := by omega
      have hoo : (zbI r18).length ≤ 1000000 := by omega
      have hgo : (zdB z to).Gives.length ≤ 1000000 := by show (1 : Nat) ≤ _; omega
      have hdl : (zeT (mkT r18) (zbI r18) (zdB z to)).length ≤ 1000000 := by omega
      refine za ?_
      refine dq (zB zb5 rfl rfl rfl rfl) ?_
      refine dmv rfl ?_
      refine dmv rfl ?_
      refine dq (zau (cs := [_, _]) ziG pl53 rfl) ?_
      refine dq (zb zan rfl ty9 (by decide) rfl) ?_
      refine dq (zc ty9 rfl rfl rfl) ?_
      refine dq (zb zan rfl ty9 (by decide) rfl) ?_
      refine dq (zc ty9 rfl rfl rfl) ?_
      refine dmv rfl ?_
      refine dq (zau (cs := [_, _, _]) zbp pl55 rfl) ?_
      refine dq (zG (hs := [_]) zc0 zbp rfl rfl (by decide) (by decide) rfl) ?_
      refine dq (zau (cs := [_, _, _, _, _]) zbS pl58 rfl) ?_
      refine dq (zj ca13 rfl (WeakL.refl _) (znV (m := (mkT r18)) (o := (zbI r18)) (x := zdB z to) hmt h0o hoo hgo)) ?_
      refine dmv rfl ?_
      refine dq (zJ rfl rfl) ?_
      refine dq (zJ rfl rfl) ?_
      refine das rfl ?_
      refine das rfl ?_
      refine dn ?_
      refine zf ?_
      refine za ?_
      refine dmv rfl ?_
      refine dq (zah rfl rfl) ?_
      refine dmv rfl ?_
      refine dg rfl rfl (fun hc => ⟨_, OpenTo.refl _, zh rfl⟩) ?_
      refine dg rfl rfl (fun hc => ⟨_, OpenTo.upd (t := 107) rfl (by first | exact hc | simp_all) (OpenTo.refl _), zv zcC rfl⟩) ?_
      refine dg rfl rfl (fun hc => ⟨_, OpenTo.refl _, zh rfl⟩) ?_
      refine dg rfl rfl (fun hc => ⟨_, OpenTo.upd (t := 109) rfl (by first | exact hc | simp_all) (OpenTo.refl _), zv (f := zaZ) (l := zbI r18) zcC rfl⟩) ?_
      refine dg rfl rfl (fun hc => ⟨_, OpenTo.upd (t := 110) rfl (by first | exact hc | simp_all) (OpenTo.upd (t := 108) rfl (by first | exact hc | simp_all) (OpenTo.refl _)), zah rfl rfl⟩) ?_
      refine dq (zw rfl (.inl rfl) (.inr ⟨_, rfl, fun h => by simp_all⟩)) ?_
      refine dn ?_
      refine ze rfl (fun h8 => ?_) (fun h8 => ?_)
      ·exfalso
       try simp at h8
       rw [d1, d2] at h8
       simp at h8
      ·try simp at h8
       refine zi ?_
       refine zd ?_
       refine za ?_
       refine dmv rfl ?_
       refine dq (zb zan rfl ty9 (by decide) rfl) ?_
       refine dq (zc ty9 rfl rfl rfl) ?_
       refine dmv rfl ?_
       refine dq (zau (cs := [_, _]) za1 pl46 rfl) ?_
       refine dq (zj ca14 rfl (WeakL.refl _) (zdp (l := zeT (mkT r18) (zbI r18) (zdB z to)) (s := ⟨z.Player, to⟩) hdl)) ?_
       refine dmv rfl ?_
       refine dg rfl rfl (fun hc => ⟨_, OpenTo.refl _, zB zb5 rfl rfl rfl rfl⟩) ?_
       refine dg rfl rfl (fun hc => ⟨_, OpenTo.refl _, zh rfl⟩) ?_
       refine dg rfl rfl (fun hc => ⟨_, OpenTo.upd (t := 121) rfl (by first | exact hc | simp_all) (OpenTo.upd (t := 120) rfl (by first | exact hc | simp_all) (OpenTo.refl _)), zj ca15 rfl (WeakL.refl _) (zeI (m := (mkT r18)) (o := zeT (mkT r18) (zbI r18) (zdB z to)) hmt hdl)⟩) ?_
       refine dg rfl rfl (fun hc => ⟨_, OpenTo.upd (t := 122) rfl (by first | exact hc | simp_all) (OpenTo.refl _), zaz rfl rfl⟩) ?_
       refine dq (zw rfl (.inr ⟨_, rfl, fun h => by simp_all⟩) (.inl rfl)) ?_
       refine dmv rfl ?_
       refine dg rfl rfl (fun hc => ⟨_, OpenTo.refl _, zj ca6 rfl (WeakL.refl _) (zeJ hT)⟩) ?_
       refine dq (zw rfl (.inr ⟨_, rfl, fun h => by simp_all⟩) (.inl rfl)) ?_
       refine das rfl ?_
       refine dn ?_
       refine zg ?_
       first
       | exact za2 Ghost.clear rfl ⟨rfl, rfl⟩
       | (refine za2 Ghost.clear rfl ⟨?_, rfl⟩
          show HVal.bool _ = _
          have hi := zih (s := ⟨z.Player, to⟩) (by simp [zie, zl, ze3, eqH]) (Int.le_refl 0) d3
          rw [d4]
          simp [hi])
end
end Go.Proofs.YtkcnenknbbcoiaaGreatDoor
namespace Go.HL
section
open Go
theorem zmm {H : Type} {enc : TypeId × Value → H} {a : Assume} {C : Checked} {os : Os} {f : FuncId} {fn : Func} {s : ChangeSpec} {conds : List PathCond} {apart fresh handsOn again : Bool} {X : World → Array Value → Prop}
 (hX : ∀ (w w' : World) (args : Array Value), w.heap = w'.heap → X w args → X w' args)
 (own : ownKnob C.prog.godebug = none) (started : os.Started) (noInit : C.prog.inits.idxOf? f = none) (hfn : C.prog.funcs[f]? = some fn)
 (witness : ∃ (w : World) (tape : Tape) (i : Input), w.os = os ∧ (w.forCall tape i).Shaped C.prog ∧ i.vars = [] ∧ Input.okWide C.prog (w.forCall tape i) .any w.heap.size f i ∧
   ((s.pre enc C.prog fn conds apart (w.forCall tape i).memory i.args ∧ X (w.forCall tape i).memory i.args) ∧ sizedMet enc C.prog fn (OpenSpec.ofChange s) apart (w.forCall tape i).memory i.args) ∧ a.holds C.prog (lone (Frame.enter C.prog f i.args .normal) [] (w.forCall tape i)))
 (contract : ∀ (W : World) (base : Nat) (args : Array Value) (ds gs : List (DataW H)) (before : List MemPlace),
   (∀ (j : Nat) t v, fn.params[j]? = some t → args[j]? = some v → Value.okWide C.prog W .any base t v) → DataW.Whole enc C.prog fn.params.toList s.vars apart W args.toList ds gs before →
   X W args → W.ShapedOpen C.prog → Calls C.prog f args W fun e W' => ∃ v, e = .returned v ∧ s.post enc C.prog fn apart fresh handsOn again W args v W') :
 ReturnsInHanded a C os f .any (fun w args => (s.pre enc C.prog fn conds apart w args ∧ X w args) ∧ sizedMet enc C.prog fn (OpenSpec.ofChange s) apart w args) (s.post enc C.prog fn apart fresh handsOn again) := by
 refine returnsInHanded_of_calls own started noInit witness fun w tape i _ hsh _ hok hpre _ => ?_
 obtain ⟨_, _, _, fn', hfn', _, _, _, _, hval⟩ := hok
 obtain rfl : fn' = fn := Option.some.inj (hfn'.symm.trans hfn)
 obtain ⟨⟨⟨ds, gs, before, hw, _⟩, hx⟩, _⟩ := hpre
 refine (contract (w.forCall tape i) w.heap.size i.args ds gs before hval (DataW.Whole.of_heap (w' := w.forCall tape i) (by rfl) hw) (hX _ _ _ (by rfl) hx) hsh).mono fun e W' ⟨v, he, hp⟩ => ?_
 subst he
 exact ChangeSpec.post_blind hp
end
end Go.HL
namespace Go.Proofs.YtkcnenknbbcoiaaGreatDoor
section
open Go.ChangeShapes Go.WideShapes Go.ChangeAt Go.RowKit Go.HL
theorem zgR : ownKnob Tryz.prog.godebug = none := by kernel_rfl
theorem zdm : laidOutB Tryz.prog = true := by kernel_rfl
theorem zf0 : Tryz.prog.cellsOf 3 = 1 := by kernel_rfl
theorem zgX {W : World} (h : laidMetH Tryz.prog Rows.topDraftedCanTradeRow.laid W) (hsh : W.ShapedOpen Tryz.prog) : TabI Tryz.prog (zbr W) := by
 rw [MakeChecks.laidMetH_plain _ _ _ (by kernel_rfl)] at h
 letI : Tracks := ⟨false⟩
 exact znv (i := 2) (g := 1) (t := 239) h (by kernel_rfl) (by kernel_rfl) (by kernel_rfl) Tryz.underlying239 Tryz.underlying146 (by kernel_rfl) (by kernel_rfl) (fun g hg => by
  obtain rfl : 0 = g := Option.some.inj ((show Tryz.prog.globalNamed "internal/bytealg.MaxLen" = some 0 by kernel_rfl).symm.trans hg)
  exact Go.Proofs.cell_of_shapedOpen_int (zero := #[.int .i64 0]) (t := 3) hsh (of_decide_eq_true (by kernel_rfl)) (by kernel_rfl) rfl (by kernel_rfl) (by kernel_rfl) Tryz.underlying3)
theorem zf1 {W : World} (ht : TabI Tryz.prog (zbr W)) {a : Option Addr} {len cap : Nat} {H : Type} {enc : TypeId × Value → H} {d0 : DataW H} {p : List MemPlace} (h : DataW.Trod enc Tryz.prog W 0 (fun _ => true) true 22 (.slice a len cap) d0 p) :
 Calls Tryz.prog 3 #[.slice a len cap] W fun e W' => e = .returned (.bool true) ∧ Below W.heap.size W W' := by
 obtain ⟨fuel, hf⟩ := h
 rcases open_ints Tryz.underlying22 Tryz.underlying3 zf0 hf with ⟨hcs, hx⟩ | ⟨a', len', cap', zs, hcs, _, hl, hm, hz, hx, hcell, hwz⟩
 ·simp [Value.cells] at hcs
  obtain ⟨rfl, rfl, rfl⟩ := hcs
  letI : Tracks := ⟨false⟩
  exact zm5 (l := []) (zct rfl) ht (.slice0 _ _ _)
 ·simp [Value.cells] at hcs
  obtain ⟨rfl, rfl, rfl⟩ := hcs
  simp only [if_true] at hz
  letI : Tracks := ⟨false⟩
  exact zm5 (l := zs.take len) (zct rfl) ht (zsI hcell (by omega) hl)
set_option maxRecDepth 100000 in
theorem zfI (os : Os) (started : os.Started) (H : Type) (enc : TypeId × Value → H) :
 ReturnsInHanded {} Tryz.checked os 3 .any (fun w args => (Rows.topDraftedCanTradeSpec.pre enc Tryz.prog Tryz.f3 Rows.topDraftedCanTradeRow.domain false w args ∧ laidMetH Tryz.prog Rows.topDraftedCanTradeRow.laid w) ∧ sizedMet enc Tryz.prog Tryz.f3 (OpenSpec.ofChange Rows.topDraftedCanTradeSpec) false w args)
  (Rows.topDraftedCanTradeSpec.post enc Tryz.prog Tryz.f3 false true false false) := by
 refine zmm (C := Tryz.checked) (X := fun w _ => laidMetH Tryz.prog Rows.topDraftedCanTradeRow.laid w) (fun _ _ _ hh h => h.of_heap hh) zgR started (by kernel_rfl) Tryz.func3
  (ChangeSpec.witness_shaped (enc := enc) (C := Tryz.checked) (os := os) (X := fun w _ => laidMetH Tryz.prog Rows.topDraftedCanTradeRow.laid w) false (World.laidAll Tryz.prog os Rows.topDraftedCanTradeRow.laid) #[.slice none 0 0] 8 (World.laidAll_os _ _ _)
    (World.shaped_of_ZipB (by kernel_rfl) (by kernel_rfl)) (by kernel_rfl) (by kernel_rfl) (by kernel_rfl)
    (by rw [MakeChecks.laidMetH_plain _ _ _ (by kernel_rfl)]; exact laidMet_laidAll _ (by kernel_rfl) (by kernel_rfl))) ?_
 intro W base args ds gs before hval0 hW hL hsh
 have hval : ∀ (j : Nat) t v, Tryz.f3.params[j]? = some t → args[j]? = some v → Value.okWide Tryz.prog W .any base t v := hval0
 have hW' := hW
 obtain ⟨p, q, hA0, hV, rfl, _, _⟩ := hW
 have hA : DataW.TrodAll enc Tryz.prog W 0 (fun _ => true) true Tryz.f3.params.toList args.toList ds p := hA0
 rw [Tryz.params3] at hA hval
 obtain ⟨v0, d0, rfl, rfl, h0⟩ := trodAll_one hA
 obtain ⟨rfl, rfl⟩ := trodVars_none hV
 obtain ⟨a0, len, cap, rfl⟩ := okWide_slice Tryz.underlying22 (hval 0 22 v0 rfl rfl)
 simp only [List.append_nil] at hW'
 have hlt : ∀ x ∈ p, x.block < W.heap.size := fun x hx => by simpa using hW'.lt x hx
 refine (zf1 (zgX hL hsh) h0).mono fun e W' ⟨he, hb⟩ => ?_
 subst he
 have hargs : DataW.Trod enc Tryz.prog W' 0 (fun b => decide (b < W.heap.size)) true 22 (.slice a0 len cap) d0 p :=
  Below.trod zdm (by kernel_rfl) (of_decide_eq_true (by kernel_rfl)) h0 hb hlt
 exact ⟨_, rfl, _, _, _, [], p, [], hW', trodAll_mk1 (shut_bool Tryz.underlying4 _), trodAll_mk1 hargs, rfl, hb.frame _, fun h => by cases h⟩
theorem zgD : mapsRowed Tryz.prog = true := by kernel_rfl
theorem zgB : (Rows.topDraftedCanTradeRow.inPlace == Tryz.prog.inPlace 3) = true := by kernel_rfl
theorem zgu : (Rows.topDraftedCanTradeRow.unfollowed == Tryz.prog.unfollowed 3) = true := by kernel_rfl
theorem zgz : (Rows.topDraftedCanTradeRow.recurses == Tryz.prog.recurses 3) = true := by kernel_rfl
theorem zgC : (Rows.topDraftedCanTradeRow.named == Tryz.prog.varsNamed 3) = true := by kernel_rfl
theorem zgi : joinedFacts Tryz.prog 3 Tryz.f3 Rows.topDraftedCanTradeSpec Rows.topDraftedCanTradeRow = true := by
 simp only [joinedFacts, Bool.and_eq_true]
 repeat' apply And.intro
 all_goals first
  | with_reducible exact zdm
  | with_reducible exact zgD
  | with_reducible exact zgB
  | with_reducible exact zgu
  | with_reducible exact zgz
  | with_reducible exact zgC
  | kernel_rfl
theorem zgn : false = Tryz.prog.looks [] := by kernel_rfl
theorem zgx : false = Rows.topDraftedCanTradeRow.goesBy Tryz.prog := by kernel_rfl
theorem zgp : Rows.topDraftedCanTradeRow.wfByText (OpenSpec.ofChange Rows.topDraftedCanTradeSpec) = true := by kernel_rfl
theorem zgE : Tryz.prog.mainIs = some ("6e252fbc02bcac1bd22a1a07b590699562d777e7fda75b625eb4f273dc7d0b52" |> fun h => (true, h.toList)) := by kernel_rfl
theorem zgt : ([22].all fun u => !Tryz.prog.wantsStandIn u) = true := by kernel_rfl
theorem zdY : Tryz.prog.funcNamed Rows.topDraftedCanTradeRow.func = some 3 := by kernel_rfl
theorem zfX : Rows.TopDraftedCanTradeSaid :=
 OpenClaim.holds_of_wide 3 Tryz.f3 rfl rfl rfl rfl rfl rfl rfl ⟨rfl, rfl, rfl, rfl, rfl⟩ rfl rfl rfl rfl rfl zdY Tryz.func3 zgi
  (of_decide_eq_true (by kernel_rfl)) (by unfold Func.isWrapper; first | (rw [if_pos (by decide +kernel)]; kernel_rfl) | (rw [if_neg (by decide +kernel)]; exact ⟨rfl, rfl⟩))
  (fun os started H enc _ => zfI os started H enc)
theorem cardTopDraftedCanTrade : Rows.TopDraftedCanTradeCardSaid :=
 Claim7.holds_tied_plain_at .later [] [.data, .data, .data, .data, .pinned] true (true, "6e252fbc02bcac1bd22a1a07b590699562d777e7fda75b625eb4f273dc7d0b52") false zfX (fun _ h => by cases h) zgp (fun _ h => by cases h) topDraftedCanTrade_row_tie rfl ⟨rfl, rfl⟩ zgE rfl
  (fun f fn hf hfn => by
    obtain rfl : f = 3 := Option.some.inj (zdY.symm.trans hf) |>.symm
    obtain rfl : fn = Tryz.f3 := (Option.some.inj (Tryz.func3.symm.trans hfn)).symm
    exact ⟨zgn, fun j t ht => by
     rw [Tryz.params3] at ht
     have hm : t ∈ [22] := by simpa using Array.mem_of_getElem? ht
     have hall := zgt
     exact (show Tryz.prog.wantsStandIn t = false by simpa using List.all_eq_true.1 hall t hm)⟩)
  zgx
end
end Go.Proofs.YtkcnenknbbcoiaaGreatDoor
