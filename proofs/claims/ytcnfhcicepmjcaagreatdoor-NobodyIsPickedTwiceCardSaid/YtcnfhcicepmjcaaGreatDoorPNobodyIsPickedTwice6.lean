/- The statement is proved: the card of the law, out of its function's contract; no conditions. -/
import Derived.Test.YtcnfhcicepmjcaaGreatDoorPNobodyIsPickedTwice5
import Derived.LaidMore
import Derived.Lay
import Derived.OpenShut
import Derived.ProofKit
import Derived.SevenTiedAt
import Derived.Stop.Joined
import Derived.Test.YtcnfhcicepmjcaaGreatDoorCards
import Derived.Test.YtcnfhcicepmjcaaGreatDoorTie
set_option linter.unusedVariables false
set_option linter.unusedSimpArgs false
section
namespace Go.HL
theorem map_inj {α β : Type} {f : α → β} {l : List α} (h : (l.map f).Nodup) {x y : α} (hx : x ∈ l) (hy : y ∈ l) (e : f x = f y) : x = y := by
 have h1 : l.Pairwise fun a b => f a ≠ f b := List.pairwise_map.1 h
 rcases pw_tri h1 x hx y hy with q | q | q
 ·exact q
 ·exact absurd e q
 ·exact absurd e.symm q
theorem teamsGo_nodup {l : List Str} : ∀ (t : List Str) (k : Nat), l.drop k = t → teamsGo l k t = 0 → (l.take k).Nodup → l.Nodup
 | [], k, hd, _, hn => by
   have : l.length ≤ k := by simpa using hd
   rwa [List.take_of_length_le this] at hn
 | x :: t, k, hd, h, hn => by
   have hx : l[k]? = some x := by
    have := congrArg (fun q => q[0]?) hd
    simpa [List.getElem?_drop] using this
   have hd' : l.drop (k + 1) = t := by
    have := drop_cons hx
    rw [hd] at this
    exact (List.cons.inj this).2.symm
   rw [teamsGo] at h
   split at h
   ·omega
   ·split at h
    ·omega
    ·rename_i hc
     refine teamsGo_nodup t (k + 1) hd' h ?_
     rw [take_snoc' hx]
     refine List.nodup_append.2 ⟨hn, by simp, fun a ha b hb e => ?_⟩
     rw [List.mem_singleton] at hb
     subst hb e
     exact hc (by simpa using ha)
theorem room_teams {r : Room} (h : checkRoom r = 0) : r.Teams.Nodup := by
 unfold checkRoom at h
 have h1 : teamsFault r.Teams = 0 := by
  refine Classical.byContradiction fun hc => ?_
  rw [if_pos (by simpa using hc)] at h; exact hc h
 unfold teamsFault at h1
 split at h1
 ·omega
 ·split at h1
  ·omega
  ·exact teamsGo_nodup r.Teams 0 rfl h1 (by simp)
theorem keepsGo_nodup {r : Room} {l : List Keep} : ∀ (t : List Keep) (k : Nat) (kept : List Str) (tw : Bool), keepsGo r l k kept tw t = 0 → tw = false ∧ (t.map (·.Player)).Nodup ∧ ∀ x ∈ t, x.Player ∉ kept
 | [], k, kept, tw, h => by
   unfold keepsGo at h
   cases tw with
   | false => exact ⟨rfl, by simp, by simp⟩
   | true => simp at h
 | x :: t, k, kept, tw, h => by
   rw [keepsGo] at h
   split at h
   ·omega
   split at h
   ·omega
   split at h
   ·omega
   obtain ⟨h1, h2, h3⟩ := keepsGo_nodup t _ _ _ h
   simp only [Bool.or_eq_false_iff] at h1
   have h4 : x.Player ∉ kept := by have := h1.2; simpa using this
   refine ⟨h1.1, ?_, fun y hy => ?_⟩
   ·rw [List.map_cons, List.nodup_cons]
    refine ⟨fun hm => ?_, h2⟩
    obtain ⟨y, hy, e⟩ := List.mem_map.1 hm
    exact h3 y hy ((sadd_mem _ _ _).2 (.inl e))
   ·rcases List.mem_cons.1 hy with rfl | hy
    ·exact h4
    ·exact fun hk => h3 y hy ((sadd_mem _ _ _).2 (.inr hk))
theorem keeps_nodup {r : Room} {k : List Keep} (h : checkKeeps r k = 0) : (k.map (·.Player)).Nodup := by
 unfold checkKeeps at h
 split at h
 ·rename_i hc; simp [h] at hc
 ·split at h
  ·omega
  ·exact (keepsGo_nodup k 0 [] false h).2.1
theorem turns_pairs {r : Room} {s : List Swap} (hn : r.Teams.Nodup) : ∀ n, ((turnsFrom r s n).map fun t => (t.round, t.of)).Nodup ∧ ∀ t ∈ turnsFrom r s n, t.round ≤ n
 | 0 => ⟨by simp [turnsFrom], fun t h => by simp [turnsFrom] at h⟩
 | n + 1 => by
   obtain ⟨h1, h2⟩ := turns_pairs (s := s) hn n
   have hT : (if backwards r.Way ((n : Int) + 1) then r.Teams.reverse else r.Teams).Nodup := by
    split
    ·exact (List.reverse_perm _).nodup_iff.2 hn
    ·exact hn
   have e1 : (roundTurns r s ((n : Int) + 1)).map (fun t => (t.round, t.of)) = (if backwards r.Way ((n : Int) + 1) then r.Teams.reverse else r.Teams).map fun t => ((n : Int) + 1, t) := by
    unfold roundTurns; rw [List.map_map]; rfl
   refine ⟨?_, fun t ht => ?_⟩
   ·rw [turnsFrom, List.map_append, e1]
    refine List.nodup_append.2 ⟨h1, ?_, fun a ha b hb e => ?_⟩
    ·exact List.pairwise_map.2 (hT.imp fun {a b} hab e => hab (Prod.mk.inj e).2)
    ·subst e
     obtain ⟨t, ht, rfl⟩ := List.mem_map.1 ha
     obtain ⟨u, _, e⟩ := List.mem_map.1 hb
     have := h2 t ht
     have := (Prod.mk.inj e).1
     omega
   ·rw [turnsFrom] at ht
    rcases List.mem_append.1 ht with ht | ht
    ·have := h2 t ht; omega
    ·unfold roundTurns at ht
     obtain ⟨u, _, rfl⟩ := List.mem_map.1 ht
     dsimp only; omega
theorem openFrom_team (r : Room) (k : List Keep) : ∀ (t : List Turn) (i : Nat), (openFrom r k i t).map (·.Team) = t.map (·.team)
 | [], i => rfl
 | x :: t, i => by rw [openFrom, List.map_cons, List.map_cons, openFrom_team r k t (i + 1), (keepIn_fix r x k _).2]
theorem kept_from {r : Room} {k : List Keep} {p : Pick} {i : Nat} {ts : List Turn} (hp : p ∈ openFrom r k i ts) (hi : isP p = true) : ∃ t ∈ ts, ∃ x ∈ k, fits t x = true ∧ p.Player = x.Player := by
 obtain ⟨j, t, ht, rfl⟩ := mem_openFrom ts i hp
 rcases keepIn_mem r t k ⟨j, t.team, [], 0, false⟩ with h | ⟨x, hx, hf, e⟩
 ·unfold isP at hi; rw [h] at hi; simp at hi
 ·exact ⟨t, ht, x, hx, hf, e⟩
theorem kept_nodup {r : Room} {k : List Keep} (hk : (k.map (·.Player)).Nodup) : ∀ (ts : List Turn) (i : Nat), (ts.map fun t => (t.round, t.of)).Nodup → (((openFrom r k i ts).filter isP).map (·.Player)).Nodup
 | [], i, _ => by simp [openFrom]
 | t :: ts, i, hn => by
   have h1 := List.nodup_cons.1 hn
   have ih := kept_nodup (r := r) hk ts (i + 1) h1.2
   rw [openFrom, List.filter_cons]
   split
   ·rename_i hp
    rw [List.map_cons, List.nodup_cons]
    refine ⟨fun hm => ?_, ih⟩
    obtain ⟨q, hq, e⟩ := List.mem_map.1 hm
    obtain ⟨hq1, hq2⟩ := List.mem_filter.1 hq
    obtain ⟨t', ht', y, hy, fy, ey⟩ := kept_from hq1 hq2
    rcases keepIn_mem r t k ⟨i, t.team, [], 0, false⟩ with h | ⟨x, hx, fx, ex⟩
    ·unfold isP at hp; rw [h] at hp; simp at hp
    ·have hxy : x = y := map_inj hk hx hy (by rw [← ex, ← ey, e])
     subst hxy
     simp only [fits, decide_eq_true_eq] at fx fy
     exact h1.1 (List.mem_map.2 ⟨t', ht', by show (t'.round, t'.of) = (t.round, t.of); rw [← fx.1, ← fx.2, fy.1, fy.2]⟩)
   ·exact ih
theorem group_perm : ∀ {T : List Str} {A : List Pick}, T.Nodup → (∀ p ∈ A, p.Team ∈ T) → (T.flatMap fun t => A.filter fun p => p.Team == t).Perm A
 | [], A, _, h => by
   cases A with
   | nil => exact List.Perm.refl _
   | cons p A => exact absurd (h p List.mem_cons_self) (by simp)
 | t :: T, A, hn, h => by
   have h1 := List.nodup_cons.1 hn
   rw [List.flatMap_cons]
   have e : (T.flatMap fun u => A.filter fun p => p.Team == u) = T.flatMap fun u => (A.filter fun p => !(p.Team == t)).filter fun p => p.Team == u := by
    have key : ∀ U : List Str, (∀ u ∈ U, u ≠ t) → (U.flatMap fun u => A.filter fun p => p.Team == u) = U.flatMap fun u => (A.filter fun p => !(p.Team == t)).filter fun p => p.Team == u := fun U => by
     induction U with
     | nil => intro _; rfl
     | cons u U ih =>
       intro hU
       rw [List.flatMap_cons, List.flatMap_cons, ih fun v hv => hU v (List.mem_cons_of_mem _ hv), List.filter_filter]
       congr 1
       refine List.filter_congr fun p _ => ?_
       by_cases hp : p.Team = u
       ·have := hU u List.mem_cons_self; simp [hp, this]
       ·simp [hp]
    exact key T fun u hu e => h1.1 (e ▸ hu)
   rw [e]
   have ih := group_perm (A := A.filter fun p => !(p.Team == t)) h1.2 fun p hp => by
    obtain ⟨a, b⟩ := List.mem_filter.1 hp
    rcases List.mem_cons.1 (h p a) with q | q
    ·simp [q] at b
    ·exact q
   exact (ih.append_left _).trans (List.filter_append_perm _ _)
def cntT (l : List Str) (t : Str) : Int := ((l.filter fun o => o == t).length : Int)
section
variable {r : Room} {k : List Keep} {s : List Swap} {l : List Pick} {w : List Wish}
theorem all_team (h : picksE r k s l = 0) : ∀ i, i ≤ l.length → (allP (open1 r k s) (l.take i)).map (·.Team) = (turns r s).map (·.team)
 | 0, _ => by simp [allP, open1, openFrom_team]
 | i + 1, hi => by
   obtain ⟨x, hx⟩ : ∃ x, l[i]? = some x := ⟨_, List.getElem?_eq_getElem (by omega)⟩
   rw [allP_snoc hx, putNo, List.map_set, all_team h i (by omega)]
   obtain ⟨h1, h2, h3⟩ := picksE_ok h
   obtain ⟨_, a2, a3, _, _⟩ := pkF_ok (pksGo_at l 0 rfl h3 i x (Nat.zero_le _) hx)
   have hl : (l.take i).length = i := by rw [List.length_take]; omega
   rw [hl] at a2 a3
   have hg := getD_some (d := pick0) (show i < (freeP r k s).length by omega)
   have hA := (all_ok h i (by omega)).free i _ (Nat.le_refl _) hg
   rw [← a2] at hA
   have e : ((turns r s).map (·.team))[x.No.toNat]? = some x.Team := by
    rw [← all_team h i (by omega), List.getElem?_map, hA, a3]; rfl
   exact setM_id e
where
 setM_id {α : Type} : ∀ {M : List α} {i : Nat} {m : α}, M[i]? = some m → M.set i m = M
 | [], i, m, h => by simp at h
 | x :: M, 0, m, h => by simp at h; simp [h]
 | x :: M, i + 1, m, h => by simp at h; simp [setM_id h]
theorem picks_nodup (h : picksE r k s l = 0) : (l.map (·.Player)).Nodup ∧ ∀ p ∈ l, p.Player ∈ r.Players ∧ k.any (fun x => x.Player == p.Player) = false := by
 obtain ⟨h1, h2, h3⟩ := picksE_ok h
 have key : ∀ (j : Nat) (p : Pick), l[j]? = some p → p.Player ∈ r.Players ∧ goneB k (l.take j) p.Player = false := fun j p hp => by
  obtain ⟨_, _, _, a4, a5⟩ := pkF_ok (pksGo_at l 0 rfl h3 j p (Nat.zero_le _) hp)
  exact ⟨a4, a5⟩
 refine ⟨List.pairwise_map.2 (List.pairwise_iff_getElem.2 fun i j hi hj hij e => ?_), fun p hp => ?_⟩
 ·obtain ⟨_, b⟩ := key j l[j] (List.getElem?_eq_getElem hj)
  simp only [goneB, Bool.or_eq_false_iff] at b
  have b2 := b.2
  rw [List.any_eq_false] at b2
  have hm : l[i] ∈ l.take j := List.mem_of_getElem? (i := i) (by rw [List.getElem?_take_of_lt hij]; exact List.getElem?_eq_getElem hi)
  exact b2 l[i] hm (by simpa using e)
 ·obtain ⟨j, hj⟩ := List.getElem?_of_mem hp
  obtain ⟨a, b⟩ := key j p hj
  simp only [goneB, Bool.or_eq_false_iff] at b
  exact ⟨a, b.1⟩
theorem full_all (h : picksE r k s l = 0) (hl : l.length = (freeP r k s).length) : (allP (open1 r k s) l).filter isP = allP (open1 r k s) l := by
 have ok := all_ok h l.length (Nat.le_refl _)
 rw [List.take_length] at ok
 have e1 := ok.perm.length_eq
 rw [List.take_length, List.length_append, hl] at e1
 have e2 : ((open1 r k s).filter isP).length + (freeP r k s).length = (open1 r k s).length := by
  have := (List.filter_append_perm isP (open1 r k s)).length_eq
  rw [List.length_append] at this
  have e3 : (open1 r k s).filter (fun a => !isP a) = freeP r k s := by
   unfold freeP; refine List.filter_congr fun p _ => ?_; simp [isP]
  rw [e3] at this; exact this
 have e3 := ok.len
 exact List.Sublist.eq_of_length List.filter_sublist (by omega)
theorem full_players (h : picksE r k s l = 0) (hl : l.length = (freeP r k s).length) : ((allP (open1 r k s) l).map (·.Player)).Nodup ∧ ∀ n ∈ r.Players, (n ∈ (allP (open1 r k s) l).map (·.Player) ↔ goneB k l n = true) := by
 have ok := all_ok h l.length (Nat.le_refl _)
 rw [List.take_length] at ok
 have hp := ok.perm
 rw [List.take_length, full_all h hl] at hp
 have ho := (picksE_ok h).1
 obtain ⟨o1, o2, o3⟩ := openFault_ok ho
 have hro := room_ok o1
 have hkn := keeps_nodup o3
 have hpairs := (turns_pairs (s := s) (room_teams o1) r.Rounds.toNat).1
 obtain ⟨n1, n2⟩ := picks_nodup h
 have hmap := hp.map (·.Player)
 rw [List.map_append] at hmap
 have hk1 : (((open1 r k s).filter isP).map (·.Player)).Nodup := kept_nodup hkn (turns r s) 0 hpairs
 refine ⟨hmap.nodup_iff.2 (List.nodup_append.2 ⟨hk1, n1, fun a ha b hb e => ?_⟩), fun n hn => ?_⟩
 ·subst e
  obtain ⟨p, hp1, rfl⟩ := List.mem_map.1 ha
  obtain ⟨hp2, hp3⟩ := List.mem_filter.1 hp1
  obtain ⟨t, _, x, hx, _, ex⟩ := kept_from hp2 hp3
  obtain ⟨q, hq, eq'⟩ := List.mem_map.1 hb
  have := (n2 q hq).2
  rw [List.any_eq_false] at this
  exact this x hx (by rw [← ex, ← eq']; simp)
 ·rw [hmap.mem_iff, List.mem_append]
  have hne := hro.ne n hn
  have ha := open_any ho hne
  unfold goneB
  rw [Bool.or_eq_true, ← ha]
  refine or_congr ?_ ?_
  ·rw [List.any_eq_true, List.mem_map]
   constructor
   ·rintro ⟨p, hp1, rfl⟩
    exact ⟨p, (List.mem_filter.1 hp1).1, by simp⟩
   ·rintro ⟨p, hp1, e⟩
    have e := by simpa using e
    exact ⟨p, List.mem_filter.2 ⟨hp1, by unfold isP; rw [e]; simpa using hne⟩, e⟩
  ·rw [List.any_eq_true, List.mem_map]
   constructor
   ·rintro ⟨p, hp1, rfl⟩; exact ⟨p, hp1, by simp⟩
   ·rintro ⟨p, hp1, e⟩; exact ⟨p, hp1, by simpa using e⟩
theorem full_in (h : picksE r k s l = 0) (hl : l.length = (freeP r k s).length) : ∀ n ∈ (allP (open1 r k s) l).map (·.Player), n ∈ r.Players := by
 have ok := all_ok h l.length (Nat.le_refl _)
 rw [List.take_length] at ok
 have hp := ok.perm
 rw [List.take_length, full_all h hl] at hp
 obtain ⟨o1, o2, o3⟩ := openFault_ok (picksE_ok h).1
 intro n hn
 rw [(hp.map (·.Player)).mem_iff, List.map_append, List.mem_append] at hn
 rcases hn with hn | hn
 ·obtain ⟨p, hp1, rfl⟩ := List.mem_map.1 hn
  obtain ⟨hp2, hp3⟩ := List.mem_filter.1 hp1
  obtain ⟨t, _, x, hx, _, ex⟩ := kept_from hp2 hp3
  rw [ex]; exact ((checkKeeps_good o3).all x hx).2.1
 ·obtain ⟨p, hp1, rfl⟩ := List.mem_map.1 hn
  exact ((picks_nodup h).2 p hp1).1
theorem filter_len {P : List Str} (hP : P.Nodup) {B : List Str} (hB : B.Nodup) (hin : ∀ n ∈ B, n ∈ P) {g : Str → Bool} (hg : ∀ n ∈ P, (n ∈ B ↔ g n = true)) : (P.filter fun n => !(g n)).length + B.length = P.length := by
 have h1 : (P.filter g).Perm B := (List.perm_ext_iff_of_nodup (hP.sublist List.filter_sublist) hB).2 fun n => by
  rw [List.mem_filter]
  exact ⟨fun h => (hg n h.1).2 h.2, fun h => ⟨hin n h, (hg n (hin n h)).1 h⟩⟩
 have h2 := (List.filter_append_perm g P).length_eq
 rw [List.length_append, h1.length_eq] at h2
 omega
theorem owner_in {round : Int} {of : Str} {T : List Str} (ho : of ∈ T) : ∀ {s : List Swap}, (∀ x ∈ s, x.Team ∈ T) → owner round of s ∈ T
 | [], _ => ho
 | x :: s, h => by
   unfold owner; split
   ·exact h x List.mem_cons_self
   ·exact owner_in ho fun y hy => h y (List.mem_cons_of_mem _ hy)
theorem swapsGo_in {l : List Swap} : ∀ (t : List Swap) (i : Nat), swapsGo r l i t = 0 → ∀ x ∈ t, x.Team ∈ r.Teams
 | [], _, _, x, hx => by cases hx
 | y :: t, i, h, x, hx => by
   rw [swapsGo] at h
   split at h
   ·omega
   split at h
   ·omega
   split at h
   ·omega
   rename_i hc _
   rcases List.mem_cons.1 hx with rfl | hx
   ·simp only [Bool.or_eq_true, Bool.not_eq_true', not_or, Bool.not_eq_false] at hc
    simpa using hc.2
   ·exact swapsGo_in t (i + 1) h x hx
theorem swaps_in (h : checkSwaps r s = 0) : ∀ x ∈ s, x.Team ∈ r.Teams := by
 unfold checkSwaps at h
 split at h
 ·rename_i hc; simp [h] at hc
 ·split at h
  ·omega
  ·exact swapsGo_in s 0 h
theorem turns_in (h : ∀ x ∈ s, x.Team ∈ r.Teams) : ∀ n, ∀ t ∈ turnsFrom r s n, t.team ∈ r.Teams
 | 0, t, ht => by simp [turnsFrom] at ht
 | n + 1, t, ht => by
   rw [turnsFrom] at ht
   rcases List.mem_append.1 ht with ht | ht
   ·exact turns_in h n t ht
   ·unfold roundTurns at ht
    obtain ⟨u, hu, rfl⟩ := List.mem_map.1 ht
    refine owner_in ?_ h
    split at hu
    ·simpa using hu
    ·exact hu
theorem cntT_snoc {l : List Str} {t o : Str} {j : Nat} (ho : l[j]? = some o) : cntT (l.take (j + 1)) t = cntT (l.take j) t + if o = t then 1 else 0 := by
 unfold cntT
 rw [take_snoc' ho, List.filter_append, List.length_append, List.filter_cons]
 by_cases e : o = t
 ·rw [if_pos e, if_pos (by simpa using e)]; simp
 ·rw [if_neg e, if_neg (by simpa using e)]; simp
theorem cntT_le (l : List Str) (t : Str) : 0 ≤ cntT l t ∧ cntT l t ≤ l.length := by
 unfold cntT
 have := List.length_filter_le (fun o => o == t) l
 omega
theorem turnTeams_len (h : checkSwaps r s = 0) : (turnTeams r s).length ≤ 600 := by
 unfold turnTeams; rw [if_neg (by simp [h]), List.length_map]; exact turns_len (checkSwaps_ok h).1
theorem flat_pl {T : List Wish} {k : Nat} {x : Wish} (hx : T[k]? = some x) : ((T.take k).flatMap (·.Players)).length + x.Players.length ≤ (T.flatMap (·.Players)).length := by
 have h1 : (T.take (k + 1)).flatMap (·.Players) = (T.take k).flatMap (·.Players) ++ x.Players := by rw [take_snoc' hx, List.flatMap_append]; simp
 have h2 : T.flatMap (·.Players) = (T.take (k + 1)).flatMap (·.Players) ++ (T.drop (k + 1)).flatMap (·.Players) := by rw [← List.flatMap_append, List.take_append_drop]
 rw [h2, h1, List.length_append, List.length_append]; omega
theorem compact_nodup {l : List Str} (h : l.Nodup) : (Lib.compact (sortS l)).length = l.length := by
 have h1 := isTwice_eq l
 unfold isTwice at h1
 have h2 := compact_le (sortS l)
 rw [sortS_len] at h2
 have h3 : ¬ (Lib.compact (sortS l)).length < l.length := by
  intro hc
  rw [decide_eq_true hc] at h1
  simp [h] at h1
 omega
/-- The law on a finished draft, from its parts. -/
theorem finish_law (h : picksE r k s l = 0) (hv : wishesE r w = 0) :
 wishedE r k s l w = 0 ∧ picksE r k s (fiL r k s l w) = 0 ∧ nxB r k s (fiL r k s l w) = false ∧ checkSwaps r s = 0 ∧ (teA r k s (fiL r k s l w)).length = r.Teams.length ∧
 (∀ t ∈ teA r k s (fiL r k s l w), (t.Players.length : Int) = cntT (turnTeams r s) t.Team) ∧ ((teA r k s (fiL r k s l w)).flatMap (·.Players)).Nodup ∧
 ((teA r k s (fiL r k s l w)).flatMap (·.Players)).length = (turnTeams r s).length ∧
 ((leA r k s (fiL r k s l w)).length : Int) = r.Players.length - ((teA r k s (fiL r k s l w)).flatMap (·.Players)).length := by
 have hw : ∀ y ∈ w, ∀ x ∈ y.Players, x ∈ r.Players := fun y hy => (wishes_in hv y hy).1
 have e1 : wishedE r k s l w = 0 := by unfold wishedE; rw [if_neg (by simp [h]), hv]
 have e2 : fiL r k s l w = finL r k s w l := by unfold fiL; rw [if_neg (by simp [e1])]
 obtain ⟨f1, f2⟩ := finL_ok h hw
 rw [← e2] at f1 f2
 generalize fiL r k s l w = x at *
 obtain ⟨o1, o2, o3⟩ := openFault_ok (picksE_ok h).1
 have hro := room_ok o1
 have hA := full_all f1 f2
 have hT := all_team f1 x.length (Nat.le_refl _)
 rw [List.take_length] at hT
 have hte : teA r k s x = teamsB r (allP (open1 r k s) x) := by
  unfold teA teamsA teamsB
  rw [if_neg (by simp [f1])]
  refine List.map_congr_left fun t _ => ?_
  have : (allP (open1 r k s) x).filter (fun p => p.Team == t && !(p.Player == [])) = (allP (open1 r k s) x).filter (fun p => p.Team == t) := by
   refine List.filter_congr fun p hp => ?_
   rw [← hA] at hp
   have := (List.mem_filter.1 hp).2
   unfold isP at this; rw [this]; simp
  rw [this]
 have htt : turnTeams r s = (turns r s).map (·.team) := by unfold turnTeams; rw [if_neg (by simp [o2])]
 have hin : ∀ p ∈ allP (open1 r k s) x, p.Team ∈ r.Teams := fun p hp => by
  have := List.mem_map_of_mem (f := (·.Team)) hp
  rw [hT] at this
  obtain ⟨t, ht, e⟩ := List.mem_map.1 this
  have := turns_in (swaps_in o2) _ t ht
  rw [← e]; exact this
 have hfl : ((teA r k s x).flatMap (·.Players)).Perm ((allP (open1 r k s) x).map (·.Player)) := by
  have := (group_perm (room_teams o1) hin).map (·.Player)
  rw [hte]
  unfold teamsB
  rw [List.flatMap_map]
  rw [List.map_flatMap] at this
  exact this
 obtain ⟨p1, p2⟩ := full_players f1 f2
 have hlen : ((teA r k s x).flatMap (·.Players)).length = (turnTeams r s).length := by
  rw [hfl.length_eq, List.length_map, htt, ← hT, List.length_map]
 refine ⟨e1, f1, ?_, o2, by rw [hte]; simp [teamsB], fun t ht => ?_, hfl.nodup_iff.2 p1, hlen, ?_⟩
 ·unfold nxB; rw [if_neg (by simp [f1])]; simp; omega
 ·rw [hte] at ht
  obtain ⟨u, _, rfl⟩ := List.mem_map.1 ht
  unfold cntT
  rw [htt, ← hT, List.filter_map, List.length_map, List.length_map]; rfl
 ·rw [le_ref f1]
  have := filter_len (sorted_nodup hro.sorted) p1 (full_in f1 f2) p2
  rw [hfl.length_eq]
  unfold leftL
  omega
end
end Go.HL
end
section
namespace Go.Proofs.YtcnfhcicepmjcaaGreatDoor
open Go.HL
set_option maxRecDepth 100000
set_option linter.unusedVariables false
set_option linter.unusedSimpArgs false
set_option maxHeartbeats 2000000 in
/-- benchwarmer/benchkeep1.NobodyIsPickedTwice -/
theorem c_benchkeep1_NobodyIsPickedTwice [Tracks] {l : List Int} (hT : Tracks.on = false) : ConP Tryz.prog 4 [.slice 1 (l.map (.int .i64))] (.bool true) := by
 refine Con.of_body Tryz.func4 rfl Tryz.ntmps4 rfl rfl ?_
 refine hw_reg ?_
 refine dp rfl (pop_assign rfl) ?_
 refine dn ?_
 refine hw_reg ?_
 refine dp rfl (pop_move rfl) ?_
 refine dp rfl (pop_build (cs := [_, _]) ty25 pl25 rfl) ?_
 refine de rfl (eop_box rfl rfl fun b => ?_)
 refine dghost (M' := [St b l 0]) rfl ?_
 refine dp rfl (pop_assign rfl) ?_
 refine dn ?_
 refine hw_reg ?_
 refine dp rfl (pop_move rfl) ?_
 refine de rfl (eop_callx (i := 0) ca32 rfl (WeakL.refl _) rfl (c_benchmake_Stream_RoomOf (by omega)) ?_)
 rintro _ _ ⟨r28, a28, rfl, hr28, ha28, rfl⟩
 refine de rfl (eop_alloc ty64 rfl fun b4 => ?_)
 refine de0 (eop_storew ty64 rfl rfl rfl rfl rfl ?_)
 refine dn ?_
 refine hw_ghost (Ghost.fc0 4 rfl) ?_
 refine hw_draw (fun _ => True) [] mixed ?_
 refine ahp 0 rfl rfl (by kernel_rfl) (by kernel_rfl) (pop_move rfl) ?_
 refine ahp 1 rfl rfl (by kernel_rfl) (by kernel_rfl) (pop_loadw ty64 rfl rfl rfl rfl) ?_
 refine ahp 3 rfl rfl (by kernel_rfl) (by kernel_rfl) (pop_move rfl) ?_
 refine ahp 4 rfl rfl (by kernel_rfl) (by kernel_rfl) (pop_loadw ty64 rfl rfl rfl rfl) ?_
 refine ahp 6 rfl rfl (by kernel_rfl) (by kernel_rfl) (pop_move rfl) ?_
 refine ahp 7 rfl rfl (by kernel_rfl) (by kernel_rfl) (pop_loadw ty64 rfl rfl rfl rfl) ?_
 refine ahe 2 rfl (by kernel_rfl) ?_
 refine hop_e rfl (eop_callx (i := 0) ca33 rfl (WeakL.refl _) rfl (c_benchmake_Stream_KeepList (by omega) (by assumption)) ?_)
 rintro _ _ ⟨k31, a31, rfl, hk31, ha31, rfl⟩
 refine ⟨fun _ => .inl trivial, ?_⟩
 refine ahe 5 rfl (by kernel_rfl) ?_
 refine hop_e rfl (eop_callx (i := 0) ca34 rfl (WeakL.refl _) rfl (c_benchmake_Stream_SwapList (by omega) (by assumption)) ?_)
 rintro _ _ ⟨k34, a34, rfl, hk34, ha34, rfl⟩
 refine ⟨fun _ => .inl trivial, ?_⟩
 refine ahe 8 rfl (by kernel_rfl) ?_
 refine hop_e rfl (eop_callx (i := 0) ca35 rfl (WeakL.refl _) rfl (c_benchmake_Stream_WishList (by omega) (by assumption)) ?_)
 rintro _ _ ⟨w37, a37, rfl, hw37, ha37, rfl⟩
 refine ⟨fun _ => .inl trivial, ?_⟩
 refine ahp 9 rfl rfl (by kernel_rfl) (by kernel_rfl) (pop_assign rfl) ?_
 refine ahp 10 rfl rfl (by kernel_rfl) (by kernel_rfl) (pop_assign rfl) ?_
 refine ahp 11 rfl rfl (by kernel_rfl) (by kernel_rfl) (pop_assign rfl) ?_
 refine ahz (by kernel_rfl) ?_
 have ht1 : r28.Teams.length ≤ 1000000 := Nat.le_trans hr28.t4 (by omega)
 have hp1 : r28.Players.length ≤ 1000000 := Nat.le_trans hr28.p20 (by omega)
 have hk1 : k31.length ≤ 1000000 := Nat.le_trans hk31.len (by omega)
 have hk2 : k34.length ≤ 1000000 := Nat.le_trans hk34.len (by omega)
 have hw1 : w37.length ≤ 1000000 := Nat.le_trans hw37.len (by omega)
 have hw2 : ∀ y ∈ w37, y.Players.length ≤ 1000000 := fun y hy => Nat.le_trans (hw37.all y hy) (by omega)
 refine hw_reg ?_
 refine dp rfl (pop_move rfl) ?_
 refine dp rfl (pop_loadw ty64 rfl rfl rfl rfl) ?_
 refine dp rfl (pop_move rfl) ?_
 refine dp rfl (pop_move rfl) ?_
 refine de rfl (eop_callx (i := 0) ca36 rfl (WeakL.refl _) rfl (c_benchmake_Stream_PickList (by omega) (by assumption) (by assumption) (by assumption)) ?_)
 rintro _ _ ⟨p42, a42, rfl, hp42, ha42, rfl⟩
 refine dp rfl (pop_assign rfl) ?_
 refine dn ?_
 have hl1 : p42.length ≤ 1000 := Nat.le_trans hp42.len (by omega)
 refine hw_seq ?_
 refine hw_reg ?_
 refine dp rfl (pop_loadw ty64 rfl rfl rfl rfl) ?_
 refine dp rfl (pop_move rfl) ?_
 refine dp rfl (pop_move rfl) ?_
 refine dp rfl (pop_move rfl) ?_
 refine dp rfl (pop_call ca37 rfl (WeakL.refl _) (c_benchref1_PicksFault ht1 hp1 hk1 hk2 hr28.ts hr28.ps hl1)) ?_
 refine dp rfl (pop_neq rfl rfl) ?_
 refine dp rfl (pop_move rfl) ?_
 refine dg rfl rfl (fun hc => ⟨_, OpenTo.refl _, pop_loadw ty64 rfl rfl rfl rfl⟩) ?_
 refine dg rfl rfl (fun hc => ⟨_, OpenTo.refl _, pop_move rfl⟩) ?_
 refine dg rfl rfl (fun hc => by
  have hck : checkRoom r28 = 0 := (openFault_ok (picksE_ok (k := k31) (s := k34) (l := p42) (by simpa using hc)).1).1
  exact ⟨_, OpenTo.upd (t := 51) rfl (hc) (OpenTo.upd (t := 50) rfl (hc) (OpenTo.refl _)), pop_call ca38 rfl (WeakL.refl _) (w_WishesFault ht1 hp1 hw1 hw2 hck)⟩) ?_
 refine dg rfl rfl (fun hc => ⟨_, OpenTo.upd (t := 52) rfl (hc) (OpenTo.refl _), pop_neq rfl rfl⟩) ?_
 refine dp rfl (pop_picko rfl (.inl rfl) (.inr ⟨_, rfl, fun h => by simp_all⟩)) ?_
 refine dn ?_
 refine hw_cond rfl (fun h1 => ?_) (fun h2 => ?_)
 ·try simp at h1
  refine hw_reg ?_
  refine dp rfl (pop_call ca39 rfl (WeakL.refl _) (c_benchkeep1_ready hT)) ?_
  refine dp rfl (pop_assign rfl) ?_
  refine dn ?_
  refine hw_ret ?_
  refine ret_g Ghost.clear rfl ⟨?_, rfl⟩
  show HVal.bool _ = _
  rfl
 ·try simp at h2
  refine hw_skip ?_
  refine seqQ_n ?_
  obtain ⟨q1, q2, q3, q4, q5, q6, q7, q8, q9⟩ := finish_law h2.1 h2.2
  have hxl : (fiL r28 k31 k34 p42 w37).length ≤ 1000 := Nat.le_trans (picks_600 q2) (by omega)
  have htl : (turnTeams r28 k34).length ≤ 1000 := Nat.le_trans (turnTeams_len q4) (by omega)
  refine hw_reg ?_
  refine dp rfl (pop_loadw ty64 rfl rfl rfl rfl) ?_
  refine dp rfl (pop_move rfl) ?_
  refine dp rfl (pop_move rfl) ?_
  refine dp rfl (pop_move rfl) ?_
  refine dp rfl (pop_move rfl) ?_
  refine dp rfl (pop_call ca40 rfl (WeakL.refl _) (w_Finish ht1 hp1 hk1 hk2 hl1 hw1 hw2)) ?_
  refine dp rfl (pop_move rfl) ?_
  refine dp rfl (pop_extract rfl rfl) ?_
  refine dp rfl (pop_extract rfl rfl) ?_
  refine dp rfl (pop_assign rfl) ?_
  refine dp rfl (pop_assign rfl) ?_
  refine dn ?_
  refine hw_seq ?_
  simp only [q1]
  refine hw_reg ?_
  refine dp rfl (pop_move rfl) ?_
  refine dp rfl (pop_neq rfl rfl) ?_
  refine dp rfl (pop_move rfl) ?_
  refine dg rfl rfl (fun hc => ⟨_, OpenTo.refl _, pop_loadw ty64 rfl rfl rfl rfl⟩) ?_
  refine dg rfl rfl (fun hc => ⟨_, OpenTo.refl _, pop_move rfl⟩) ?_
  refine dg rfl rfl (fun hc => ⟨_, OpenTo.refl _, pop_move rfl⟩) ?_
  refine dg rfl rfl (fun hc => ⟨_, OpenTo.refl _, pop_move rfl⟩) ?_
  refine dg rfl rfl (fun hc => ⟨_, OpenTo.upd (t := 71) rfl (hc) (OpenTo.upd (t := 70) rfl (hc) (OpenTo.upd (t := 69) rfl (hc) (OpenTo.upd (t := 68) rfl (hc) (OpenTo.refl _)))), pop_call ca41 rfl (WeakL.refl _) (c_draft_CheckPicks ht1 hp1 hk1 hk2 hxl)⟩) ?_
  refine dg rfl rfl (fun hc => ⟨_, OpenTo.upd (t := 72) rfl (hc) (OpenTo.refl _), pop_neq rfl rfl⟩) ?_
  refine dp rfl (pop_picko rfl (.inl rfl) (.inr ⟨_, rfl, fun h => by simp_all⟩)) ?_
  refine dn ?_
  refine hw_cond rfl (fun h3 => ?_) (fun h3 => ?_)
  ·exfalso
   try simp at h3
   simp_all
  ·try simp at h3
   refine hw_skip ?_
   refine seqQ_n ?_
   refine hw_reg ?_
   refine dp rfl (pop_loadw ty64 rfl rfl rfl rfl) ?_
   refine dp rfl (pop_move rfl) ?_
   refine dp rfl (pop_move rfl) ?_
   refine dp rfl (pop_move rfl) ?_
   refine dp rfl (pop_call ca42 rfl (WeakL.refl _) (c_draft_Next ht1 hp1 hk1 hk2 hxl)) ?_
   refine dp rfl (pop_move rfl) ?_
   refine dp rfl (pop_extract rfl rfl) ?_
   refine dp rfl (pop_extract rfl rfl) ?_
   refine dp rfl (pop_extract rfl rfl) ?_
   refine de rfl (eop_alloc ty79 rfl fun b11 => ?_)
   refine de0 (eop_storew ty79 rfl rfl rfl rfl rfl ?_)
   refine dp rfl (pop_assign rfl) ?_
   refine dp rfl (pop_assign rfl) ?_
   refine dn ?_
   refine hw_ghost (Ghost.fc0 11 rfl) ?_
   refine hw_reg ?_
   refine dp rfl (pop_loadw ty64 rfl rfl rfl rfl) ?_
   refine dp rfl (pop_move rfl) ?_
   refine dp rfl (pop_call ca43 rfl (WeakL.refl _) (c_draft_Turns ht1 hp1 hk2)) ?_
   refine dp rfl (pop_move rfl) ?_
   refine dp rfl (pop_extract rfl rfl) ?_
   refine dp rfl (pop_extract rfl rfl) ?_
   refine dp rfl (pop_assign rfl) ?_
   refine dp rfl (pop_assign rfl) ?_
   refine dn ?_
   refine hw_reg ?_
   refine dp rfl (pop_loadw ty64 rfl rfl rfl rfl) ?_
   refine dp rfl (pop_move rfl) ?_
   refine dp rfl (pop_move rfl) ?_
   refine dp rfl (pop_move rfl) ?_
   refine dp rfl (pop_call ca44 rfl (WeakL.refl _) (c_draft_Teams ht1 hp1 hk1 hk2 hxl)) ?_
   refine dp rfl (pop_move rfl) ?_
   refine dp rfl (pop_extract rfl rfl) ?_
   refine dp rfl (pop_extract rfl rfl) ?_
   refine dp rfl (pop_assign rfl) ?_
   refine dp rfl (pop_assign rfl) ?_
   refine dn ?_
   refine hw_seq ?_
   simp only [q2, q3, q4]
   refine hw_reg ?_
   refine dp rfl (pop_move rfl) ?_
   refine dp rfl (pop_neq rfl rfl) ?_
   refine dp rfl (pop_move rfl) ?_
   refine dg rfl rfl (fun hc => ⟨_, OpenTo.refl _, pop_move rfl⟩) ?_
   refine dg rfl rfl (fun hc => ⟨_, OpenTo.upd (t := 101) rfl (hc) (OpenTo.refl _), pop_neq rfl rfl⟩) ?_
   refine dp rfl (pop_picko rfl (.inl rfl) (.inr ⟨_, rfl, fun h => by simp_all⟩)) ?_
   refine dp rfl (pop_move rfl) ?_
   refine dg rfl rfl (fun hc => ⟨_, OpenTo.refl _, pop_move rfl⟩) ?_
   refine dg rfl rfl (fun hc => ⟨_, OpenTo.upd (t := 105) rfl (hc) (OpenTo.refl _), pop_neq rfl rfl⟩) ?_
   refine dp rfl (pop_picko rfl (.inl rfl) (.inr ⟨_, rfl, fun h => by simp_all⟩)) ?_
   refine dp rfl (pop_move rfl) ?_
   refine dg rfl rfl (fun hc => ⟨_, OpenTo.refl _, pop_move rfl⟩) ?_
   refine dp rfl (pop_picko rfl (.inl rfl) (.inr ⟨_, rfl, fun h => by simp_all⟩)) ?_
   refine dp rfl (pop_move rfl) ?_
   refine dg rfl rfl (fun hc => ⟨_, OpenTo.refl _, pop_move rfl⟩) ?_
   refine dg rfl rfl (fun hc => ⟨_, OpenTo.upd (t := 112) rfl (hc) (OpenTo.refl _), pop_lenm ty70 rfl⟩) ?_
   refine dg rfl rfl (fun hc => ⟨_, OpenTo.refl _, (pop_fieldAddr ty64 rfl ty28 (by decide) rfl)⟩) ?_
   refine dg rfl rfl (fun hc => ⟨_, OpenTo.upd (t := 114) rfl (hc) (OpenTo.refl _), pop_load ty28 rfl rfl rfl⟩) ?_
   refine dg rfl rfl (fun hc => ⟨_, OpenTo.upd (t := 115) rfl (hc) (OpenTo.refl _), pop_lenm ty28 rfl⟩) ?_
   refine dg rfl rfl (fun hc => ⟨_, OpenTo.upd (t := 116) rfl (hc) (OpenTo.upd (t := 113) rfl (hc) (OpenTo.refl _)), pop_neq rfl rfl⟩) ?_
   refine dp rfl (pop_picko rfl (.inl rfl) (.inr ⟨_, rfl, fun h => by simp_all⟩)) ?_
   refine dn ?_
   refine hw_cond rfl (fun h4 => ?_) (fun h4 => ?_)
   ·exfalso
    try simp at h4
    rw [q5] at h4; simp at h4
   ·try simp at h4
    refine hw_skip ?_
    refine seqQ_n ?_
    refine hw_reg ?_
    refine dp rfl (pop_assign rfl) ?_
    refine dn ?_
    refine hw_ghost (Ghost.arr_nil 1) ?_
    refine hw_seq ?_
    refine hw_reg ?_
    refine dp rfl (pop_move rfl) ?_
    refine dp rfl (pop_lenm ty70 rfl) ?_
    refine dp rfl (pop_move rfl) ?_
    refine dn ?_
    refine hw_block ?_
    refine hw_loopw2 [2, 17, 19, 20, 22, 121, 122, 123, 124, 125, 126, 127, 128, 129, 130, 131, 132, 133, 134, 135, 136, 137, 138, 139, 140, 141, 142, 143, 144, 145, 146, 147] (fun (k : Nat) (v : Value) => [(121, .int .i64 k), (17, .raw v)]) (fun (k : Nat) (v : Value) => [.arr v 1 ((((teA r28 k31 k34 (fiL r28 k31 k34 p42 w37)).take k).flatMap (·.Players)).map .str), St b l a42]) (fun (k : Nat) (v : Value) => k ≤ (teA r28 k31 k34 (fiL r28 k31 k34 p42 w37)).length ∧ (True)) (fun (k : Nat) (v : Value) => (teA r28 k31 k34 (fiL r28 k31 k34 p42 w37)).length - k) (0) (.slice none 0 0) ?_ ?_ ?_ ?_
    ·exact ⟨Nat.zero_le _, trivial⟩
    ·exact ⟨rfl, rfl, trivial⟩
    ·exact List.Perm.refl _
    ·intro k v hinv
     obtain ⟨hk, -⟩ := hinv
     refine hw_reg ?_
     refine dp rfl (pop_lss rfl rfl) ?_
     refine dn ?_
     refine hw_seq ?_
     refine hw_cond rfl (fun h5 => ?_) (fun h6 => ?_)
     ·try simp at h5
      obtain ⟨x, hx⟩ : ∃ x, (teA r28 k31 k34 (fiL r28 k31 k34 p42 w37))[k]? = some x := ⟨_, List.getElem?_eq_getElem h5⟩
      have hdx := drop_cons hx
      refine hw_skip ?_
      refine seqQ_n ?_
      refine hw_seq ?_
      refine hw_block ?_
      refine hw_reg ?_
      refine dp rfl (pop_idx ty70 ty87 rfl rfl rfl (by assumption)) ?_
      refine dp rfl (pop_loadw ty87 rfl rfl rfl rfl) ?_
      refine de rfl (eop_alloc ty87 rfl fun b19 => ?_)
      refine de0 (eop_storew ty87 rfl rfl rfl rfl rfl ?_)
      refine dn ?_
      refine hw_ghost (Ghost.fc0 19 rfl) ?_
      refine hw_reg ?_
      refine dp rfl (pop_assign rfl) ?_
      refine dn ?_
      refine hw_seq ?_
      have hfk := flat_pl (k := k) hx
      refine hw_reg ?_
      refine dp rfl (pop_move rfl) ?_
      refine dp rfl (pop_lenm ty28 rfl) ?_
      refine dp rfl (pop_move rfl) ?_
      refine dn ?_
      refine hw_block ?_
      refine hw_loopw [20, 22, 127, 128, 129, 130, 131, 132, 133, 134, 135, 136, 137] (fun (j : Nat) => [(127, .int .i64 j), (20, .int .i64 (cntT ((turnTeams r28 k34).take j) x.Team))]) (fun (j : Nat) => [.arr v 1 ((((teA r28 k31 k34 (fiL r28 k31 k34 p42 w37)).take k).flatMap (·.Players)).map .str), St b l a42]) (fun (j : Nat) => j ≤ (turnTeams r28 k34).length ∧ (True)) (fun (j : Nat) => (turnTeams r28 k34).length - j) (0) ?_ ?_ ?_ ?_
      ·exact ⟨Nat.zero_le _, trivial⟩
      ·exact ⟨rfl, rfl, trivial⟩
      ·exact List.Perm.refl _
      ·intro j hinv
       obtain ⟨hj, -⟩ := hinv
       refine hw_reg ?_
       refine dp rfl (pop_lss rfl rfl) ?_
       refine dn ?_
       refine hw_seq ?_
       refine hw_cond rfl (fun h7 => ?_) (fun h8 => ?_)
       ·try simp at h7
        obtain ⟨o, ho⟩ : ∃ o, (turnTeams r28 k34)[j]? = some o := ⟨_, List.getElem?_eq_getElem h7⟩
        have hdo := drop_cons ho
        refine hw_skip ?_
        refine seqQ_n ?_
        refine hw_seq ?_
        refine hw_block ?_
        refine hw_reg ?_
        refine dp rfl (pop_idx ty28 ty9 rfl rfl rfl (by assumption)) ?_
        refine dp rfl (pop_load ty9 rfl rfl rfl) ?_
        refine dp rfl (pop_assign rfl) ?_
        refine dn ?_
        have hcb := cntT_le ((turnTeams r28 k34).take j) x.Team
        have hcj : ((turnTeams r28 k34).take j).length ≤ j := by rw [List.length_take]; omega
        refine hw_reg ?_
        refine dp rfl (pop_move rfl) ?_
        refine dp rfl ((pop_fieldAddr ty87 rfl ty9 (by decide) rfl)) ?_
        refine dp rfl (pop_load ty9 rfl rfl rfl) ?_
        refine dp rfl (pop_eqls rfl rfl) ?_
        refine dn ?_
        refine hw_cond rfl (fun h9 => ?_) (fun h10 => ?_)
        ·try simp at h9
         refine hw_reg1 ?_
         refine dp rfl (pop_move rfl) ?_
         refine dp rfl (pop_add64 rfl rfl (by omega) (by omega)) ?_
         refine dp rfl (pop_assign rfl) ?_
         refine dn ?_
         refine blockQ_n ?_
         refine seqQ_n ?_
         refine hw_reg1 ?_
         refine dp rfl (pop_add64 rfl rfl (by omega) (by omega)) ?_
         refine dp rfl (pop_move rfl) ?_
         refine dn ?_
         exact ⟨j + 1, ⟨by omega, trivial⟩, by dsimp only; omega, ⟨rfl, some_int (by rw [cntT_snoc ho, if_pos (by simpa using h9)]), trivial⟩, (by repeat (first | exact keeps_refl | refine keeps_upd rfl ?_ | refine keeps_loop rfl rfl ?_)), List.Perm.refl _⟩
        ·try simp at h10
         refine hw_skip ?_
         refine blockQ_n ?_
         refine seqQ_n ?_
         refine hw_reg1 ?_
         refine dp rfl (pop_add64 rfl rfl (by omega) (by omega)) ?_
         refine dp rfl (pop_move rfl) ?_
         refine dn ?_
         exact ⟨j + 1, ⟨by omega, trivial⟩, by dsimp only; omega, ⟨rfl, some_int (by rw [cntT_snoc ho, if_neg (by simpa using h10)]; omega), trivial⟩, (by repeat (first | exact keeps_refl | refine keeps_upd rfl ?_ | refine keeps_loop rfl rfl ?_)), List.Perm.refl _⟩
       ·try simp at h8
        have hnj : (turnTeams r28 k34).length ≤ j := by omega
        obtain rfl : j = (turnTeams r28 k34).length := by omega
        refine hw_exit ?_
        refine seqQ_x ?_
        refine loopQ_x ?_
        refine blockQ_eq ?_
        refine seqQ_n ?_
        refine hw_seq ?_
        refine hw_reg ?_
        refine dp rfl ((pop_fieldAddr ty87 rfl ty28 (by decide) rfl)) ?_
        refine dp rfl (pop_load ty28 rfl rfl rfl) ?_
        refine dp rfl (pop_lenm ty28 rfl) ?_
        refine dp rfl (pop_move rfl) ?_
        refine dp rfl (pop_neq rfl rfl) ?_
        refine dn ?_
        refine hw_cond rfl (fun h11 => ?_) (fun h11 => ?_)
        ·exfalso
         try simp at h11
         exact h11 (q6 x (List.mem_of_getElem? hx))
        ·try simp at h11
         refine hw_skip ?_
         refine seqQ_n ?_
         refine hw_reg1 ?_
         refine dp rfl (pop_move rfl) ?_
         refine dp rfl ((pop_fieldAddr ty87 rfl ty28 (by decide) rfl)) ?_
         refine dp rfl (pop_load ty28 rfl rfl rfl) ?_
         refine de rfl (eop_append (i := 0) ty28 ty9 rfl rfl rfl rfl rfl (by simp [flat, hcells]) (by simp only [List.length_map]; omega) fun v146 => ?_)
         refine dp rfl (pop_assign rfl) ?_
         refine dn ?_
         refine blockQ_n ?_
         refine seqQ_n ?_
         refine hw_reg1 ?_
         refine dp rfl (pop_add64 rfl rfl (by omega) (by omega)) ?_
         refine dp rfl (pop_move rfl) ?_
         refine dn ?_
         exact ⟨k + 1, v146, ⟨by omega, trivial⟩, by dsimp only; omega, ⟨rfl, rfl, trivial⟩, (by repeat (first | exact keeps_refl | refine keeps_upd rfl ?_ | refine keeps_loop rfl rfl ?_)), perm_eq (by dsimp only; rw [take_snoc' hx, List.flatMap_append, List.map_append]; simp)⟩
     ·try simp at h6
      have hnk : (teA r28 k31 k34 (fiL r28 k31 k34 p42 w37)).length ≤ k := by omega
      obtain rfl : k = (teA r28 k31 k34 (fiL r28 k31 k34 p42 w37)).length := by omega
      refine hw_exit ?_
      refine seqQ_x ?_
      refine loopQ2_x ?_
      refine blockQ_eq ?_
      refine seqQ_n ?_
      rw [List.take_length]
      refine hw_reg ?_
      refine dp rfl (pop_loadw ty64 rfl rfl rfl rfl) ?_
      refine dp rfl (pop_move rfl) ?_
      refine dp rfl (pop_move rfl) ?_
      refine dp rfl (pop_move rfl) ?_
      refine dp rfl (pop_call ca45 rfl (WeakL.refl _) (c_draft_Left ht1 hp1 hk1 hk2 hxl)) ?_
      refine dp rfl (pop_move rfl) ?_
      refine dp rfl (pop_extract rfl rfl) ?_
      refine dp rfl (pop_extract rfl rfl) ?_
      refine dp rfl (pop_assign rfl) ?_
      refine dp rfl (pop_assign rfl) ?_
      refine dn ?_
      refine hw_reg ?_
      refine dp rfl (pop_move rfl) ?_
      refine de rfl (eop_callf (M1 := [_]) (R := [_]) ca46 rfl (WeakL.refl _) (List.Perm.refl _) (c_slices_Sort (l := ((teA r28 k31 k34 (fiL r28 k31 k34 p42 w37)).flatMap (·.Players))) (by omega)) ?_)
      rintro _ _ ⟨rfl, rfl⟩
      refine dn ?_
      have hss : (sortS ((teA r28 k31 k34 (fiL r28 k31 k34 p42 w37)).flatMap (·.Players))).length = ((teA r28 k31 k34 (fiL r28 k31 k34 p42 w37)).flatMap (·.Players)).length := sortS_len _
      have hcc : (Lib.compact (sortS ((teA r28 k31 k34 (fiL r28 k31 k34 p42 w37)).flatMap (·.Players)))).length = ((teA r28 k31 k34 (fiL r28 k31 k34 p42 w37)).flatMap (·.Players)).length := compact_nodup q7
      refine hw_ghost (Ghost.fa 17 (i := 0) rfl rfl) ?_
      simp only [q2]
      refine hw_reg ?_
      refine dp rfl (pop_move rfl) ?_
      refine dp rfl (pop_eql rfl rfl) ?_
      refine dp rfl (pop_move rfl) ?_
      refine dgt rfl rfl (POp.eop (pop_move rfl) ?_)
      refine dgt rfl rfl (eop_calla ca48 rfl (WeakL.refl _) (c_slices_Clone_string_string (l := sortS ((teA r28 k31 k34 (fiL r28 k31 k34 p42 w37)).flatMap (·.Players))) (by rw [sortS_len]; omega)) fun v162 => ?_)
      refine dgt rfl rfl (eop_callf (M1 := [_]) (R := [_]) ca47 rfl (WeakL.refl _) (List.Perm.refl _) (c_slices_Compact (l := sortS ((teA r28 k31 k34 (fiL r28 k31 k34 p42 w37)).flatMap (·.Players))) (by rw [sortS_len]; omega)) ?_)
      rintro _ _ ⟨u163, rfl, rfl⟩
      refine dgt rfl rfl (eop_len (i := 0) ty28 rfl rfl ?_)
      refine dg rfl rfl (fun hc => ⟨_, OpenTo.refl _, pop_move rfl⟩) ?_
      refine dg rfl rfl (fun hc => ⟨_, OpenTo.upd (t := 165) rfl (hc) (OpenTo.refl _), pop_lenm ty28 rfl⟩) ?_
      refine dg rfl rfl (fun hc => ⟨_, OpenTo.upd (t := 166) rfl (hc) (OpenTo.refl _), pop_eql rfl rfl⟩) ?_
      refine dp rfl (pop_picko rfl (.inr ⟨_, rfl, fun h => by simp_all⟩) (.inl rfl)) ?_
      refine dp rfl (pop_move rfl) ?_
      refine dg rfl rfl (fun hc => ⟨_, OpenTo.refl _, pop_move rfl⟩) ?_
      refine dg rfl rfl (fun hc => ⟨_, OpenTo.upd (t := 170) rfl (hc) (OpenTo.refl _), pop_lenm ty28 rfl⟩) ?_
      refine dg rfl rfl (fun hc => ⟨_, OpenTo.refl _, pop_move rfl⟩) ?_
      refine dg rfl rfl (fun hc => ⟨_, OpenTo.upd (t := 172) rfl (hc) (OpenTo.refl _), pop_lenm ty28 rfl⟩) ?_
      refine dg rfl rfl (fun hc => ⟨_, OpenTo.upd (t := 173) rfl (hc) (OpenTo.upd (t := 171) rfl (hc) (OpenTo.refl _)), pop_eql rfl rfl⟩) ?_
      refine dp rfl (pop_picko rfl (.inr ⟨_, rfl, fun h => by simp_all⟩) (.inl rfl)) ?_
      refine dp rfl (pop_move rfl) ?_
      refine dg rfl rfl (fun hc => ⟨_, OpenTo.refl _, pop_move rfl⟩) ?_
      refine dg rfl rfl (fun hc => ⟨_, OpenTo.upd (t := 177) rfl (hc) (OpenTo.refl _), pop_lenm ty28 rfl⟩) ?_
      refine dg rfl rfl (fun hc => ⟨_, OpenTo.refl _, (pop_fieldAddr ty64 rfl ty28 (by decide) rfl)⟩) ?_
      refine dg rfl rfl (fun hc => ⟨_, OpenTo.upd (t := 179) rfl (hc) (OpenTo.refl _), pop_load ty28 rfl rfl rfl⟩) ?_
      refine dg rfl rfl (fun hc => ⟨_, OpenTo.upd (t := 180) rfl (hc) (OpenTo.refl _), pop_lenm ty28 rfl⟩) ?_
      refine dg rfl rfl (fun hc => ⟨_, OpenTo.refl _, pop_move rfl⟩) ?_
      refine dg rfl rfl (fun hc => ⟨_, OpenTo.upd (t := 182) rfl (hc) (OpenTo.refl _), pop_lenm ty28 rfl⟩) ?_
      refine dg rfl rfl (fun hc => by have hq := hc; (try simp at hq); exact ⟨_, OpenTo.upd (t := 183) rfl (hc) (OpenTo.upd (t := 181) rfl (hc) (OpenTo.refl _)), pop_sub64 rfl rfl (by omega) (by omega)⟩) ?_
      refine dg rfl rfl (fun hc => ⟨_, OpenTo.upd (t := 184) rfl (hc) (OpenTo.upd (t := 178) rfl (hc) (OpenTo.refl _)), pop_eql rfl rfl⟩) ?_
      refine dp rfl (pop_picko rfl (.inr ⟨_, rfl, fun h => by simp_all⟩) (.inl rfl)) ?_
      refine dp rfl (pop_move rfl) ?_
      refine dg rfl rfl (fun hc => ⟨_, OpenTo.refl _, pop_call ca39 rfl (WeakL.refl _) (c_benchkeep1_ready hT)⟩) ?_
      refine dp rfl (pop_picko rfl (.inr ⟨_, rfl, fun h => by simp_all⟩) (.inl rfl)) ?_
      refine dp rfl (pop_assign rfl) ?_
      refine dn ?_
      refine hw_ret ?_
      refine ret_g Ghost.clear rfl ⟨?_, rfl⟩
      show HVal.bool _ = _
      (simp only [List.length_map, sortS_len, hcc, q8, q9]; simp; done)
end Go.Proofs.YtcnfhcicepmjcaaGreatDoor
end
section
namespace Go.Proofs.YtcnfhcicepmjcaaGreatDoor
open Go.ChangeShapes Go.WideShapes Go.ChangeAt Go.RowKit Go.HL
theorem ownNobodyIsPickedTwice : ownKnob Tryz.prog.godebug = none := by kernel_rfl
theorem laidOutNobodyIsPickedTwice : laidOutB Tryz.prog = true := by kernel_rfl
theorem cellsNobodyIsPickedTwice : Tryz.prog.cellsOf 3 = 1 := by kernel_rfl
theorem tabNobodyIsPickedTwice {W : World} (h : laidMetH Tryz.prog Rows.nobodyIsPickedTwiceRow.laid W) : TabI Tryz.prog (allI W) := by
 rw [MakeChecks.laidMetH_plain _ _ _ (by kernel_rfl)] at h
 letI : Tracks := ⟨false⟩
 exact tabI_of_laid (i := 2) (g := 3) (t := 417) h (by kernel_rfl) (by kernel_rfl) (by kernel_rfl) Tryz.underlying417 Tryz.underlying308 (by kernel_rfl) (by kernel_rfl)
theorem callsNobodyIsPickedTwice {W : World} (ht : TabI Tryz.prog (allI W)) {a : Option Addr} {len cap : Nat} {H : Type} {enc : TypeId × Value → H} {d0 : DataW H} {p : List MemPlace} (h : DataW.Trod enc Tryz.prog W 0 (fun _ => true) true 22 (.slice a len cap) d0 p) :
 Calls Tryz.prog 4 #[.slice a len cap] W fun e W' => e = .returned (.bool true) ∧ Below W.heap.size W W' := by
 obtain ⟨fuel, hf⟩ := h
 rcases open_ints Tryz.underlying22 Tryz.underlying3 cellsNobodyIsPickedTwice hf with ⟨hcs, hx⟩ | ⟨a', len', cap', zs, hcs, _, hl, hm, hz, hx, hcell, hwz⟩
 ·simp [Value.cells] at hcs
  obtain ⟨rfl, rfl, rfl⟩ := hcs
  letI : Tracks := ⟨false⟩
  exact conp_law (l := []) (c_benchkeep1_NobodyIsPickedTwice rfl) ht (.slice0 _ _ _)
 ·simp [Value.cells] at hcs
  obtain ⟨rfl, rfl, rfl⟩ := hcs
  simp only [if_true] at hz
  letI : Tracks := ⟨false⟩
  exact conp_law (l := zs.take len) (c_benchkeep1_NobodyIsPickedTwice rfl) ht (v_ints hcell (by omega) hl)
set_option maxRecDepth 100000 in
theorem liftedNobodyIsPickedTwice (os : Os) (started : os.Started) (H : Type) (enc : TypeId × Value → H) :
 ReturnsInHanded {} Tryz.checked os 4 .any (fun w args => (Rows.nobodyIsPickedTwiceSpec.pre enc Tryz.prog Tryz.f4 Rows.nobodyIsPickedTwiceRow.domain false w args ∧ laidMetH Tryz.prog Rows.nobodyIsPickedTwiceRow.laid w) ∧ sizedMet enc Tryz.prog Tryz.f4 (OpenSpec.ofChange Rows.nobodyIsPickedTwiceSpec) false w args)
  (Rows.nobodyIsPickedTwiceSpec.post enc Tryz.prog Tryz.f4 false true false false) := by
 refine returnsInHanded_of_change_and (C := Tryz.checked) (X := fun w _ => laidMetH Tryz.prog Rows.nobodyIsPickedTwiceRow.laid w) (fun _ _ _ hh h => h.of_heap hh) ownNobodyIsPickedTwice started (by kernel_rfl) Tryz.func4
  (ChangeSpec.witness_shaped (enc := enc) (C := Tryz.checked) (os := os) (X := fun w _ => laidMetH Tryz.prog Rows.nobodyIsPickedTwiceRow.laid w) false (World.laidAll Tryz.prog os Rows.nobodyIsPickedTwiceRow.laid) #[.slice none 0 0] 8 (World.laidAll_os _ _ _)
    (World.shaped_of_ZipB (by kernel_rfl) (by kernel_rfl)) (by kernel_rfl) (by kernel_rfl) (by kernel_rfl)
    (by rw [MakeChecks.laidMetH_plain _ _ _ (by kernel_rfl)]; exact laidMet_laidAll _ (by kernel_rfl) (by kernel_rfl))) ?_
 intro W base args ds gs before hval0 hW _ _ hL _
 have hval : ∀ (j : Nat) t v, Tryz.f4.params[j]? = some t → args[j]? = some v → Value.okWide Tryz.prog W .any base t v := hval0
 have hW' := hW
 obtain ⟨p, q, hA0, hV, rfl, _, _⟩ := hW
 have hA : DataW.TrodAll enc Tryz.prog W 0 (fun _ => true) true Tryz.f4.params.toList args.toList ds p := hA0
 rw [Tryz.params4] at hA hval
 obtain ⟨v0, d0, rfl, rfl, h0⟩ := trodAll_one hA
 obtain ⟨rfl, rfl⟩ := trodVars_none hV
 obtain ⟨a0, len, cap, rfl⟩ := okWide_slice Tryz.underlying22 (hval 0 22 v0 rfl rfl)
 simp only [List.append_nil] at hW'
 have hlt : ∀ x ∈ p, x.block < W.heap.size := fun x hx => by simpa using hW'.lt x hx
 refine (callsNobodyIsPickedTwice (tabNobodyIsPickedTwice hL) h0).mono fun e W' ⟨he, hb⟩ => ?_
 subst he
 have hargs : DataW.Trod enc Tryz.prog W' 0 (fun b => decide (b < W.heap.size)) true 22 (.slice a0 len cap) d0 p :=
  Below.trod laidOutNobodyIsPickedTwice (by kernel_rfl) (of_decide_eq_true (by kernel_rfl)) h0 hb hlt
 exact ⟨_, rfl, _, _, _, [], p, [], hW', trodAll_mk1 (shut_bool Tryz.underlying4 _), trodAll_mk1 hargs, rfl, hb.frame _, fun h => by cases h⟩
theorem mapsNobodyIsPickedTwice : mapsRowed Tryz.prog = true := by kernel_rfl
theorem inplNobodyIsPickedTwice : (Rows.nobodyIsPickedTwiceRow.inPlace == Tryz.prog.inPlace 4) = true := by kernel_rfl
theorem unfoNobodyIsPickedTwice : (Rows.nobodyIsPickedTwiceRow.unfollowed == Tryz.prog.unfollowed 4) = true := by kernel_rfl
theorem recuNobodyIsPickedTwice : (Rows.nobodyIsPickedTwiceRow.recurses == Tryz.prog.recurses 4) = true := by kernel_rfl
theorem varsNobodyIsPickedTwice : (Rows.nobodyIsPickedTwiceRow.named == Tryz.prog.varsNamed 4) = true := by kernel_rfl
theorem joinNobodyIsPickedTwice : joinedFacts Tryz.prog 4 Tryz.f4 Rows.nobodyIsPickedTwiceSpec Rows.nobodyIsPickedTwiceRow = true := by
 simp only [joinedFacts, Bool.and_eq_true]
 repeat' apply And.intro
 all_goals first
  | with_reducible exact laidOutNobodyIsPickedTwice
  | with_reducible exact mapsNobodyIsPickedTwice
  | with_reducible exact inplNobodyIsPickedTwice
  | with_reducible exact unfoNobodyIsPickedTwice
  | with_reducible exact recuNobodyIsPickedTwice
  | with_reducible exact varsNobodyIsPickedTwice
  | kernel_rfl
theorem lookNobodyIsPickedTwice : true = Tryz.prog.looks [] := by kernel_rfl
theorem goesNobodyIsPickedTwice : false = Rows.nobodyIsPickedTwiceRow.goesBy Tryz.prog := by kernel_rfl
theorem wfbtNobodyIsPickedTwice : Rows.nobodyIsPickedTwiceRow.wfByText (OpenSpec.ofChange Rows.nobodyIsPickedTwiceSpec) = true := by kernel_rfl
theorem mainNobodyIsPickedTwice : Tryz.prog.mainIs = some ("c10688da5c0affb0e5611adcc8e2c63f8c4a2cc29d8e1b38022dd36eb1f7a5f6" |> fun h => (true, h.toList)) := by kernel_rfl
theorem stanNobodyIsPickedTwice : ([22].all fun u => !Tryz.prog.wantsStandIn u) = true := by kernel_rfl
theorem fnamNobodyIsPickedTwice : Tryz.prog.funcNamed Rows.nobodyIsPickedTwiceRow.func = some 4 := by kernel_rfl
theorem holdsNobodyIsPickedTwice : Rows.NobodyIsPickedTwiceSaid :=
 OpenClaim.holds_of_wide 4 Tryz.f4 rfl rfl rfl rfl rfl rfl rfl ⟨rfl, rfl, rfl, rfl, rfl⟩ rfl rfl rfl rfl rfl fnamNobodyIsPickedTwice Tryz.func4 joinNobodyIsPickedTwice
  (of_decide_eq_true (by kernel_rfl)) (by unfold Func.isWrapper; first | (rw [if_pos (by decide +kernel)]; kernel_rfl) | (rw [if_neg (by decide +kernel)]; exact ⟨rfl, rfl⟩))
  (fun os started H enc _ => liftedNobodyIsPickedTwice os started H enc)
theorem cardNobodyIsPickedTwice : Rows.NobodyIsPickedTwiceCardSaid :=
 Claim7.holds_tied_plain_at .later [] [.data, .data, .data, .data, .pinned] true (true, "c10688da5c0affb0e5611adcc8e2c63f8c4a2cc29d8e1b38022dd36eb1f7a5f6") true holdsNobodyIsPickedTwice (fun _ h => by cases h) wfbtNobodyIsPickedTwice (fun _ h => by cases h) nobodyIsPickedTwice_row_tie rfl ⟨rfl, rfl⟩ mainNobodyIsPickedTwice rfl
  (fun f fn hf hfn => by
    obtain rfl : f = 4 := Option.some.inj (fnamNobodyIsPickedTwice.symm.trans hf) |>.symm
    obtain rfl : fn = Tryz.f4 := (Option.some.inj (Tryz.func4.symm.trans hfn)).symm
    exact ⟨lookNobodyIsPickedTwice, fun j t ht => by
     rw [Tryz.params4] at ht
     have hm : t ∈ [22] := by simpa using Array.mem_of_getElem? ht
     have hall := stanNobodyIsPickedTwice
     exact (show Tryz.prog.wantsStandIn t = false by simpa using List.all_eq_true.1 hall t hm)⟩)
  goesNobodyIsPickedTwice
end Go.Proofs.YtcnfhcicepmjcaaGreatDoor
end
