/- Part 2 of the proof: a program logic, contracts of functions and plain facts; no conditions. -/
import Derived.Test.YtpcaaekefgkhjaaGreatDoorQWaysEndWithOwners1
import Derived.Carry
import Derived.Ground.GgzProg
import Derived.Ground.Names2Prog
import Derived.Ground.SlgmProg
import Derived.Ground.SlmcProg
import Derived.Ground.SlsfProg
import Derived.Laws.MakeOwn
import Derived.Lib.Bytealg
import Derived.Lib.LaidTab
import Derived.Lib.SlicesCompact
import Derived.OpenShut
import Derived.Shelf.SlIter.Collect
import Derived.Shelf.SlIter.Keys
import Derived.Shelf.SlIter.Sorted
import Derived.Shelf.SlMaps.Clone
import Derived.Shelf.SlSortCmp.Insertion
import Derived.Shelf.SlSortCmp.NoneTotal
import Derived.Shelf.Slices.CompactS
import Derived.Shelf.Slices.Delete
import Derived.Shelf.Sort.Plain
import Derived.Shelf.SortM.Plain
import Derived.Shelf.Strconv.Atoi
import Derived.Shelf.Strconv.Itoa3
import Derived.Shelf.Strings.Prefix
import Derived.Sort.EncStr
import Derived.Sort.Grow
import Derived.Test.YtpcaaekefgkhjaaGreatDoorProg
import Derived.WideKeyRuns
import GoSem.ClaimJoined
set_option linter.unusedVariables false
set_option linter.unusedSimpArgs false
namespace Go.Proofs.YtpcaaekefgkhjaaGreatDoor
set_option maxRecDepth 100000
set_option linter.unusedVariables false
set_option linter.unusedSimpArgs false
section
open Go.HL
/-- benchwarmer/base.Rising -/
theorem zix [Tracks] {l : List Str} (hl : l.length ≤ 1000000) : ConP Tryz.prog 108 [eSs l] (.int .i64 (zdX l)) := by
 refine Con.of_body Tryz.func108 rfl Tryz.ntmps108 rfl rfl ?_
 refine za ?_
 refine das rfl ?_
 refine dn ?_
 refine zj ?_
 refine za ?_
 refine dmv rfl ?_
 refine dq (zK zP rfl) ?_
 refine dmv rfl ?_
 refine dn ?_
 refine zq ?_
 refine zak [2, 3, 4, 7, 8, 9, 10, 11, 12, 13, 14, 15, 16, 17, 18, 19, 20, 21, 22, 23, 24, 25, 26] (fun (k : Nat) => [(7, .int .i64 k)]) (fun (k : Nat) => []) (fun (k : Nat) => k ≤ l.length ∧ (zdX l = zbk l k (l.drop k))) (fun (k : Nat) => l.length - k) (0) ?_ ?_ ?_ ?_
 ·exact ⟨Nat.zero_le _, rfl⟩
 ·exact ⟨rfl, trivial⟩
 ·exact List.Perm.refl _
 ·intro k hinv
  obtain ⟨hk, hg⟩ := hinv
  refine za ?_
  refine dq (zS rfl rfl) ?_
  refine dn ?_
  refine zj ?_
  refine zi rfl (fun h1 => ?_) (fun h2 => ?_)
  ·try simp at h1
   obtain ⟨x, hx⟩ : ∃ x, l[k]? = some x := ⟨_, List.getElem?_eq_getElem h1⟩
   have hdx := zU hx
   rw [hdx] at hg
   refine zm ?_
   refine zh ?_
   refine zj ?_
   refine zq ?_
   refine za ?_
   refine dmv rfl ?_
   refine dq (zW zP ty9 rfl rfl rfl (by assumption)) ?_
   refine dq (zg ty9 rfl rfl rfl) ?_
   refine das rfl ?_
   refine das rfl ?_
   refine dn ?_
   refine zj ?_
   refine za ?_
   refine dmv rfl ?_
   refine dq (zo ze9 rfl (WeakL.refl _) zbH) ?_
   refine dq (zac rfl) ?_
   refine dn ?_
   refine zi rfl (fun h3 => ?_) (fun h4 => ?_)
   ·try simp at h3
    refine za ?_
    refine das rfl ?_
    refine dn ?_
    refine zl ?_
    refine zD rfl ?_
    show HVal.int .i64 _ = _
    rw [hg]; simp_all [zbk, leS]
   ·try simp at h4
    refine zm ?_
    refine zh ?_
    refine za ?_
    refine dmv rfl ?_
    refine dq (zae rfl rfl) ?_
    refine dmv rfl ?_
    refine dg rfl rfl (fun hc => ⟨_, OpenTo.refl _, zf rfl⟩) ?_
    refine dg rfl rfl (fun hc => ⟨_, OpenTo.refl _, zf rfl⟩) ?_
    refine dg rfl rfl (fun hc => ⟨_, OpenTo.refl _, zf rfl⟩) ?_
    refine dg rfl rfl (fun hc => by have hq := hc; (try simp at hq); exact ⟨_, OpenTo.upd (t := 20) rfl (hc) (OpenTo.refl _), zap rfl rfl (by omega) (by omega)⟩) ?_
    refine dg rfl rfl (fun hc => by have hq := hc; (try simp at hq); exact ⟨_, OpenTo.upd (t := 21) rfl (hc) (OpenTo.upd (t := 19) rfl (hc) (OpenTo.refl _)), zW (j := k - 1) (a := l.getD (k - 1) []) zP ty9 rfl rfl (by omega) (getD_some (by omega))⟩) ?_
    refine dg rfl rfl (fun hc => ⟨_, OpenTo.upd (t := 22) rfl (hc) (OpenTo.refl _), zg ty9 rfl rfl rfl⟩) ?_
    refine dg rfl rfl (fun hc => ⟨_, OpenTo.upd (t := 23) rfl (hc) (OpenTo.upd (t := 18) rfl (hc) (OpenTo.refl _)), zdt rfl rfl⟩) ?_
    refine dq (zA rfl (.inr ⟨_, rfl, fun h => by simp_all⟩) (.inl rfl)) ?_
    refine dn ?_
    refine zi rfl (fun h5 => ?_) (fun h6 => ?_)
    ·try simp at h5
     refine za ?_
     refine das rfl ?_
     refine dn ?_
     refine zl ?_
     refine zD rfl ?_
     show HVal.int .i64 _ = _
     rw [hg]; simp_all [zbk, leS]
    ·try simp at h6
     refine zm ?_
     refine zy ?_
     refine zh ?_
     refine zC ?_
     refine dq (zB rfl rfl (by omega) (by omega)) ?_
     refine dmv rfl ?_
     refine dn ?_
     refine ⟨k + 1, ?_, ?_, ⟨rfl, trivial⟩, (by repeat (first | exact zt | refine zw rfl ?_ | refine zu rfl rfl ?_)), List.Perm.refl _⟩
     ·refine ⟨by omega, ?_⟩
      rw [hg]; simp_all [zbk, leS]
     ·dsimp only; omega
  ·try simp at h2
   have hnk : l.length ≤ k := by omega
   obtain rfl : k = l.length := by omega
   rw [zaV (Nat.le_refl _)] at hg
   refine zX ?_
   refine z7 ?_
   refine zaw ?_
   refine zO ?_
   refine zh ?_
   refine za ?_
   refine das rfl ?_
   refine dn ?_
   refine zl ?_
   refine zD rfl ?_
   show HVal.int .i64 _ = _
   rw [hg]; simp_all [zbk, leS]

/-- benchwarmer/draft.teamsFault -/
theorem zjp [Tracks] {l : List Str} (hl : l.length ≤ 1000000) : ConP Tryz.prog 186 [eSs l] (.int .i64 (teamsFault l)) := by
 refine Con.of_body Tryz.func186 rfl Tryz.ntmps186 rfl rfl ?_
 refine za ?_
 refine das rfl ?_
 refine dn ?_
 refine zj ?_
 refine zq ?_
 refine za ?_
 refine dmv rfl ?_
 refine dq (zK zP rfl) ?_
 refine dq (zau rfl rfl) ?_
 refine das rfl ?_
 refine dn ?_
 refine zi rfl (fun h1 => ?_) (fun h2 => ?_)
 ·try simp at h1
  refine za ?_
  refine das rfl ?_
  refine dn ?_
  refine zl ?_
  refine zD rfl ?_
  show HVal.int .i64 _ = _
  (rw [teamsFault, if_pos (by simp_all)]; done)
 ·try simp at h2
  refine za ?_
  refine dmv rfl ?_
  refine dq (zK zP rfl) ?_
  refine dq (zae rfl rfl) ?_
  refine das rfl ?_
  refine dn ?_
  refine zi rfl (fun h3 => ?_) (fun h4 => ?_)
  ·try simp at h3
   refine za ?_
   refine das rfl ?_
   refine dn ?_
   refine zl ?_
   refine zD rfl ?_
   show HVal.int .i64 _ = _
   (rw [teamsFault, if_neg (by simp_all), if_pos (by omega)]; done)
  ·try simp at h4
   refine zm ?_
   refine zy ?_
   refine zh ?_
   refine zj ?_
   refine za ?_
   refine dmv rfl ?_
   refine dq (zK zP rfl) ?_
   refine dmv rfl ?_
   refine dn ?_
   refine zq ?_
   refine zak [2, 3, 4, 15, 16, 17, 18, 19, 20, 21, 22, 23, 24, 25, 26, 27, 28] (fun (k : Nat) => [(15, .int .i64 k)]) (fun (k : Nat) => []) (fun (k : Nat) => k ≤ l.length ∧ (teamsFault l = zfx l k (l.drop k))) (fun (k : Nat) => l.length - k) (0) ?_ ?_ ?_ ?_
   ·refine ⟨Nat.zero_le _, ?_⟩
    rw [teamsFault, if_neg (by simp_all), if_neg (by omega)]; rfl
   ·exact ⟨rfl, trivial⟩
   ·exact List.Perm.refl _
   ·intro k hinv
    obtain ⟨hk, hg⟩ := hinv
    refine za ?_
    refine dq (zS rfl rfl) ?_
    refine dn ?_
    refine zj ?_
    refine zi rfl (fun h5 => ?_) (fun h6 => ?_)
    ·try simp at h5
     obtain ⟨x, hx⟩ : ∃ x, l[k]? = some x := ⟨_, List.getElem?_eq_getElem h5⟩
     have hdx := zU hx
     rw [hdx] at hg
     refine zm ?_
     refine zh ?_
     refine zj ?_
     refine zq ?_
     refine za ?_
     refine dmv rfl ?_
     refine dq (zW zP ty9 rfl rfl rfl (by assumption)) ?_
     refine dq (zg ty9 rfl rfl rfl) ?_
     refine das rfl ?_
     refine das rfl ?_
     refine dn ?_
     refine zj ?_
     refine za ?_
     refine dmv rfl ?_
     refine dq (zo ze9 rfl (WeakL.refl _) zbH) ?_
     refine dq (zac rfl) ?_
     refine dn ?_
     refine zi rfl (fun h7 => ?_) (fun h8 => ?_)
     ·try simp at h7
      refine za ?_
      refine das rfl ?_
      refine dn ?_
      refine zl ?_
      refine zD rfl ?_
      show HVal.int .i64 _ = _
      (rw [hg]; simp_all [zfx]; done)
     ·try simp at h8
      refine zm ?_
      refine zh ?_
      refine za ?_
      refine dmv rfl ?_
      refine dmv rfl ?_
      refine dq (zer zP ty9 rfl rfl ⟨_, _, rfl, rfl⟩ (by omega) (by omega)) ?_
      refine dmv rfl ?_
      refine dq (zo ziZ rfl (WeakL.refl _) (zaL (by simp; omega))) ?_
      refine dn ?_
      refine zi rfl (fun h9 => ?_) (fun h10 => ?_)
      ·try simp at h9
       refine za ?_
       refine das rfl ?_
       refine dn ?_
       refine zl ?_
       refine zD rfl ?_
       show HVal.int .i64 _ = _
       (rw [hg]; simp_all [zfx]; done)
      ·try simp at h10
       refine zm ?_
       refine zy ?_
       refine zh ?_
       refine zC ?_
       refine dq (zB rfl rfl (by omega) (by omega)) ?_
       refine dmv rfl ?_
       refine dn ?_
       refine ⟨k + 1, ?_, ?_, ⟨rfl, trivial⟩, (by repeat (first | exact zt | refine zw rfl ?_ | refine zu rfl rfl ?_)), List.Perm.refl _⟩
       ·refine ⟨by omega, ?_⟩
        rw [hg]; simp_all [zfx]
       ·dsimp only; omega
    ·try simp at h6
     have hnk : l.length ≤ k := by omega
     obtain rfl : k = l.length := by omega
     rw [zaV (Nat.le_refl _)] at hg
     refine zX ?_
     refine z7 ?_
     refine zaw ?_
     refine zO ?_
     refine zh ?_
     refine za ?_
     refine das rfl ?_
     refine dn ?_
     refine zl ?_
     refine zD rfl ?_
     show HVal.int .i64 _ = _
     (rw [hg]; simp_all [zfx]; done)

/-- benchwarmer/draft.playersFault -/
theorem zhX [Tracks] {l : List Str} (hl : l.length ≤ 1000000) : ConP Tryz.prog 187 [eSs l] (.int .i64 (playersFault l)) := by
 refine Con.of_body Tryz.func187 rfl Tryz.ntmps187 rfl rfl ?_
 refine za ?_
 refine das rfl ?_
 refine dn ?_
 refine zj ?_
 refine za ?_
 refine dmv rfl ?_
 refine dq (zK zP rfl) ?_
 refine dq (zae rfl rfl) ?_
 refine dn ?_
 refine zi rfl (fun h1 => ?_) (fun h2 => ?_)
 ·try simp at h1
  refine za ?_
  refine das rfl ?_
  refine dn ?_
  refine zl ?_
  refine zD rfl ?_
  show HVal.int .i64 _ = _
  unfold playersFault
  split <;> first | rfl | (exfalso; omega)
 ·try simp at h2
  refine zm ?_
  refine zh ?_
  refine za ?_
  refine dmv rfl ?_
  refine dq (zo zsE rfl (WeakL.refl _) (zix (by assumption))) ?_
  refine das rfl ?_
  refine dn ?_
  refine zl ?_
  refine zD rfl ?_
  show HVal.int .i64 _ = _
  unfold playersFault
  split <;> first | rfl | (exfalso; omega)

/-- benchwarmer/draft.CheckRoom -/
theorem zjX [Tracks] {r : Room} (ht : r.Teams.length ≤ 1000000) (hp : r.Players.length ≤ 1000000) : ConP Tryz.prog 151 [zlj r] (.int .i64 (zbn r)) := by
 refine Con.of_body Tryz.func151 rfl Tryz.ntmps151 rfl rfl ?_
 refine za ?_
 refine dq (zas rfl rfl) ?_
 refine das rfl ?_
 refine dn ?_
 refine zj ?_
 refine za ?_
 refine dq (zb zcu rfl zP (by decide) rfl) ?_
 refine dq (zg zP rfl rfl rfl) ?_
 refine dq (zo zuW rfl (WeakL.refl _) (zjp (by assumption))) ?_
 refine das rfl ?_
 refine dn ?_
 refine za ?_
 refine dmv rfl ?_
 refine dq (zaD rfl rfl) ?_
 refine dn ?_
 refine zi rfl (fun h1 => ?_) (fun h2 => ?_)
 ·try simp at h1
  refine za ?_
  refine dmv rfl ?_
  refine das rfl ?_
  refine dn ?_
  refine zl ?_
  refine zD rfl ?_
  show HVal.int .i64 _ = _
  simp_all [zbn]
 ·try simp at h2
  refine zm ?_
  refine zh ?_
  refine zj ?_
  refine zq ?_
  refine za ?_
  refine dq (zb zcu rfl ty3 (by decide) rfl) ?_
  refine dq (zg ty3 rfl rfl rfl) ?_
  refine dq (zo zdD rfl (WeakL.refl _) zbc) ?_
  refine das rfl ?_
  refine dn ?_
  refine zi rfl (fun h3 => ?_) (fun h4 => ?_)
  ·try simp at h3
   refine za ?_
   refine das rfl ?_
   refine dn ?_
   refine zl ?_
   refine zD rfl ?_
   show HVal.int .i64 _ = _
   simp_all [zbn]
  ·try simp at h4
   refine za ?_
   refine dq (zb zcu rfl ty3 (by decide) rfl) ?_
   refine dq (zg ty3 rfl rfl rfl) ?_
   refine dq (zo zdD rfl (WeakL.refl _) zbc) ?_
   refine das rfl ?_
   refine dn ?_
   refine zi rfl (fun h5 => ?_) (fun h6 => ?_)
   ·try simp at h5
    refine za ?_
    refine das rfl ?_
    refine dn ?_
    refine zl ?_
    refine zD rfl ?_
    show HVal.int .i64 _ = _
    simp_all [zbn]
   ·try simp at h6
    refine zm ?_
    refine zy ?_
    refine zh ?_
    refine zj ?_
    refine za ?_
    refine dq (zb zcu rfl zP (by decide) rfl) ?_
    refine dq (zg zP rfl rfl rfl) ?_
    refine dq (zo zuo rfl (WeakL.refl _) (zhX (by assumption))) ?_
    refine das rfl ?_
    refine dn ?_
    refine za ?_
    refine dmv rfl ?_
    refine dq (zaD rfl rfl) ?_
    refine dn ?_
    refine zi rfl (fun h7 => ?_) (fun h8 => ?_)
    ·try simp at h7
     refine za ?_
     refine dmv rfl ?_
     refine das rfl ?_
     refine dn ?_
     refine zl ?_
     refine zD rfl ?_
     show HVal.int .i64 _ = _
     simp_all [zbn]
    ·try simp at h8
     refine zm ?_
     refine zh ?_
     refine zj ?_
     refine zq ?_
     refine za ?_
     refine dq (zb zcu rfl ty3 (by decide) rfl) ?_
     refine dq (zg ty3 rfl rfl rfl) ?_
     refine dq (zo zdD rfl (WeakL.refl _) zbc) ?_
     refine dmv rfl ?_
     refine dg rfl rfl (fun hc => ⟨_, OpenTo.refl _, zb zcu rfl ty3 (by decide) rfl⟩) ?_
     refine dg rfl rfl (fun hc => ⟨_, OpenTo.upd (t := 30) rfl (hc) (OpenTo.refl _), zg ty3 rfl rfl rfl⟩) ?_
     refine dg rfl rfl (fun hc => ⟨_, OpenTo.upd (t := 31) rfl (hc) (OpenTo.refl _), zo zlV rfl (WeakL.refl _) zde⟩) ?_
     refine dg rfl rfl (fun hc => ⟨_, OpenTo.upd (t := 32) rfl (hc) (OpenTo.refl _), zac rfl⟩) ?_
     refine dq (zA rfl (.inl rfl) (.inr ⟨_, rfl, fun h => by simp_all⟩)) ?_
     refine das rfl ?_
     refine dn ?_
     refine zi rfl (fun h9 => ?_) (fun h10 => ?_)
     ·try simp at h9
      refine za ?_
      refine das rfl ?_
      refine dn ?_
      refine zl ?_
      refine zD rfl ?_
      show HVal.int .i64 _ = _
      simp_all [zbn]
     ·try simp at h10
      refine za ?_
      refine dq (zb zcu rfl zP (by decide) rfl) ?_
      refine dq (zg zP rfl rfl rfl) ?_
      refine dq (zK zP rfl) ?_
      refine dq (zb zcu rfl zP (by decide) rfl) ?_
      refine dq (zg zP rfl rfl rfl) ?_
      refine dq (zK zP rfl) ?_
      refine dq (zb zcu rfl ty3 (by decide) rfl) ?_
      refine dq (zg ty3 rfl rfl rfl) ?_
      have hR := zdK (n := r.Rounds) (lo := 1) (hi := 30) (by simp_all)
      have hm := zt7 (a := (r.Teams.length : Int)) (b := r.Rounds) (A := 1000000) (B := 30) (by omega) (by omega) (by omega) (by omega)
      refine dq (zqD rfl rfl (by omega) (by omega)) ?_
      refine dq (zS rfl rfl) ?_
      refine das rfl ?_
      refine dn ?_
      refine zi rfl (fun h11 => ?_) (fun h12 => ?_)
      ·try simp at h11
       refine za ?_
       refine das rfl ?_
       refine dn ?_
       refine zl ?_
       refine zD rfl ?_
       show HVal.int .i64 _ = _
       simp_all [zbn]
      ·try simp at h12
       refine zm ?_
       refine zy ?_
       refine zh ?_
       refine za ?_
       refine das rfl ?_
       refine dn ?_
       refine zl ?_
       refine zD rfl ?_
       show HVal.int .i64 _ = _
       simp_all [zbn]

/-- benchwarmer/draft.backwards -/
theorem zjU [Tracks] {way round : Int}  : ConP Tryz.prog 152 [.int .i64 way, .int .i64 round] (.bool (backwards way round)) := by
 refine Con.of_body Tryz.func152 rfl Tryz.ntmps152 rfl rfl ?_
 refine za ?_
 refine das rfl ?_
 refine dn ?_
 refine zj ?_
 refine za ?_
 refine dmv rfl ?_
 refine dn ?_
 refine zq ?_
 refine za ?_
 refine dq (zau rfl rfl) ?_
 refine das rfl ?_
 refine dn ?_
 refine zi rfl (fun h1 => ?_) (fun h2 => ?_)
 ·try simp at h1
  refine za ?_
  refine dmv rfl ?_
  refine dq (zjJ rfl rfl (by omega)) ?_
  refine dq (zau rfl rfl) ?_
  refine das rfl ?_
  refine dn ?_
  refine zl ?_
  refine zD rfl ?_
  show HVal.bool _ = _
  simp_all [backwards]
 ·try simp at h2
  refine za ?_
  refine dq (zau rfl rfl) ?_
  refine das rfl ?_
  refine dn ?_
  refine zi rfl (fun h3 => ?_) (fun h4 => ?_)
  ·try simp at h3
   refine za ?_
   refine dmv rfl ?_
   refine dq (zau rfl rfl) ?_
   refine dmv rfl ?_
   refine dg rfl rfl (fun hc => ⟨_, OpenTo.refl _, zf rfl⟩) ?_
   refine dg rfl rfl (fun hc => ⟨_, OpenTo.upd (t := 16) rfl (hc) (OpenTo.refl _), zae rfl rfl⟩) ?_
   refine dg rfl rfl (fun hc => ⟨_, OpenTo.upd (t := 17) rfl (hc) (OpenTo.refl _), zf rfl⟩) ?_
   refine dg rfl rfl (fun hc => ⟨_, OpenTo.refl _, zf rfl⟩) ?_
   refine dg rfl rfl (fun hc => by have hq := hc; (try simp at hq); exact ⟨_, OpenTo.upd (t := 19) rfl (hc) (OpenTo.refl _), zjJ rfl rfl (by omega)⟩) ?_
   refine dg rfl rfl (fun hc => ⟨_, OpenTo.upd (t := 20) rfl (hc) (OpenTo.refl _), zau rfl rfl⟩) ?_
   refine dg rfl rfl (fun hc => ⟨_, OpenTo.upd (t := 18) rfl (hc) (OpenTo.refl _), zA rfl (.inr ⟨_, rfl, fun h => by simp_all⟩) (.inl rfl)⟩) ?_
   refine dq (zA rfl (.inl rfl) (.inr ⟨_, rfl, fun h => by simp_all⟩)) ?_
   refine das rfl ?_
   refine dn ?_
   refine zl ?_
   refine zD rfl ?_
   show HVal.bool _ = _
   simp_all [backwards]
  ·try simp at h4
   refine zm ?_
   refine zy ?_
   refine zh ?_
   refine za ?_
   refine das rfl ?_
   refine dn ?_
   refine zl ?_
   refine zD rfl ?_
   show HVal.bool _ = _
   simp_all [backwards]

/-- benchwarmer/draft.owner -/
theorem zm8 [Tracks] {l : List Swap} {round : Int} {of : Str} (hl : l.length ≤ 1000000) : ConP Tryz.prog 154 [ziM l, .int .i64 round, .str of] (.str (owner round of l)) := by
 refine Con.of_body Tryz.func154 rfl Tryz.ntmps154 rfl rfl ?_
 refine za ?_
 refine das rfl ?_
 refine dn ?_
 refine zj ?_
 refine za ?_
 refine dmv rfl ?_
 refine dq (zK zh0 rfl) ?_
 refine dmv rfl ?_
 refine dn ?_
 refine zq ?_
 refine zak [6, 8, 11, 12, 13, 14, 15, 16, 17, 18, 19, 20, 21, 22, 23, 24, 25, 26, 27] (fun (k : Nat) => [(11, .int .i64 k)]) (fun (k : Nat) => []) (fun (k : Nat) => k ≤ l.length ∧ (owner round of l = owner round of (l.drop k))) (fun (k : Nat) => l.length - k) (0) ?_ ?_ ?_ ?_
 ·exact ⟨Nat.zero_le _, by simp_all⟩
 ·exact ⟨rfl, trivial⟩
 ·exact List.Perm.refl _
 ·intro k hinv
  obtain ⟨hk, hg⟩ := hinv
  refine za ?_
  refine dq (zS rfl rfl) ?_
  refine dn ?_
  refine zj ?_
  refine zi rfl (fun h1 => ?_) (fun h2 => ?_)
  ·try simp at h1
   obtain ⟨x, hx⟩ : ∃ x, l[k]? = some x := ⟨_, List.getElem?_eq_getElem h1⟩
   have hdx := zU hx
   rw [hdx] at hg
   refine zm ?_
   refine zh ?_
   refine zj ?_
   refine zq ?_
   refine za ?_
   refine dq (zW zh0 zcy rfl rfl rfl (by assumption)) ?_
   refine dq (zH zcy rfl rfl rfl rfl) ?_
   refine de rfl (zY zcy rfl fun b8 => ?_)
   refine de0 (zad zcy rfl rfl rfl rfl rfl ?_)
   refine dn ?_
   refine zL (Ghost.fc0 8 rfl) ?_
   refine za ?_
   refine dq (zb zcy rfl ty3 (by decide) rfl) ?_
   refine dq (zg ty3 rfl rfl rfl) ?_
   refine dmv rfl ?_
   refine dq (zau rfl rfl) ?_
   refine dmv rfl ?_
   refine dg rfl rfl (fun hc => ⟨_, OpenTo.refl _, zb zcy rfl ty9 (by decide) rfl⟩) ?_
   refine dg rfl rfl (fun hc => ⟨_, OpenTo.upd (t := 20) rfl (hc) (OpenTo.refl _), zg ty9 rfl rfl rfl⟩) ?_
   refine dg rfl rfl (fun hc => ⟨_, OpenTo.refl _, zf rfl⟩) ?_
   refine dg rfl rfl (fun hc => ⟨_, OpenTo.upd (t := 22) rfl (hc) (OpenTo.upd (t := 21) rfl (hc) (OpenTo.refl _)), zbt rfl rfl⟩) ?_
   refine dq (zA rfl (.inr ⟨_, rfl, fun h => by simp_all⟩) (.inl rfl)) ?_
   refine dn ?_
   refine zi rfl (fun h3 => ?_) (fun h4 => ?_)
   ·try simp at h3
    refine za ?_
    refine dq (zb zcy rfl ty9 (by decide) rfl) ?_
    refine dq (zg ty9 rfl rfl rfl) ?_
    refine das rfl ?_
    refine dn ?_
    refine zl ?_
    refine zD rfl ?_
    show HVal.str _ = _
    rw [hg]; simp_all [owner]
   ·try simp at h4
    refine zm ?_
    refine zy ?_
    refine zh ?_
    refine zC ?_
    refine dq (zB rfl rfl (by omega) (by omega)) ?_
    refine dmv rfl ?_
    refine dn ?_
    refine ⟨k + 1, ?_, ?_, ⟨rfl, trivial⟩, (by repeat (first | exact zt | refine zw rfl ?_ | refine zu rfl rfl ?_)), List.Perm.refl _⟩
    ·refine ⟨by omega, ?_⟩
     rw [hg]; simp_all [owner]
    ·dsimp only; omega
  ·try simp at h2
   have hnk : l.length ≤ k := by omega
   obtain rfl : k = l.length := by omega
   rw [zaV (Nat.le_refl _)] at hg
   refine zX ?_
   refine z7 ?_
   refine zaw ?_
   refine zO ?_
   refine zh ?_
   refine za ?_
   refine dmv rfl ?_
   refine das rfl ?_
   refine dn ?_
   refine zl ?_
   refine zD rfl ?_
   show HVal.str _ = _
   rw [hg]; simp_all [owner]
end
end Go.Proofs.YtpcaaekefgkhjaaGreatDoor
namespace Go.HL
section
open Op (bytesLess)
def zdF (a b : Int) : Int := if a < b then -1 else if b < a then 1 else 0
def orI : List Int → Int
 | [] => 0
 | x :: r => if x ≠ 0 then x else orI r
abbrev zbg (a b : Str) : Int := Lib.compareBytes a b

theorem zaX : ∀ a : Str, bytesLess a a = false
 | [] => rfl
 | x :: r => by simp [bytesLess, zaX r]
theorem zew : ∀ {a b c : Str}, bytesLess a b = true → bytesLess b c = true → bytesLess a c = true
 | _, [], _, h, _ => by simp [bytesLess] at h
 | _, _ :: _, [], _, h => by simp [bytesLess] at h
 | [], _ :: _, _ :: _, _, _ => by simp [bytesLess]
 | x :: a, y :: b, z :: c, h1, h2 => by
   simp only [bytesLess, Bool.or_eq_true, decide_eq_true_eq, Bool.and_eq_true, beq_iff_eq] at h1 h2 ⊢
   rcases h1 with h1 | ⟨rfl, h1⟩
   ·rcases h2 with h2 | ⟨rfl, h2⟩
    ·exact .inl (UInt8.lt_trans h1 h2)
    ·exact .inl h1
   ·rcases h2 with h2 | ⟨rfl, h2⟩
    ·exact .inl h2
    ·exact .inr ⟨rfl, zew h1 h2⟩
theorem zct : ∀ a b : Str, bytesLess a b = true ∨ a = b ∨ bytesLess b a = true
 | [], [] => .inr (.inl rfl)
 | [], _ :: _ => .inl (by simp [bytesLess])
 | _ :: _, [] => .inr (.inr (by simp [bytesLess]))
 | x :: a, y :: b => by
   rcases UInt8.lt_or_lt_of_ne' x y with h | h | h
   ·exact .inl (by simp [bytesLess, h])
   ·subst h
    rcases zct a b with h | h | h
    ·exact .inl (by simp [bytesLess, h])
    ·exact .inr (.inl (by rw [h]))
    ·exact .inr (.inr (by simp [bytesLess, h]))
   ·exact .inr (.inr (by simp [bytesLess, h]))
where
 UInt8.lt_or_lt_of_ne' (x y : UInt8) : x < y ∨ x = y ∨ y < x := by
  rcases Nat.lt_trichotomy x.toNat y.toNat with h | h | h
  ·exact .inl (UInt8.lt_iff_toNat_lt.2 h)
  ·exact .inr (.inl (UInt8.toNat_inj.1 h))
  ·exact .inr (.inr (UInt8.lt_iff_toNat_lt.2 h))
theorem zbD {a b : Str} (h : bytesLess a b = true) : bytesLess b a = false := by
 cases h2 : bytesLess b a with
 | false => rfl
 | true => have := zew h h2; rw [zaX] at this; cases this
theorem zsY {a b : Str} : leS a b = !(bytesLess b a) := by
 unfold leS
 rcases zct a b with h | h | h
 ·simp [h, zbD h]
 ·subst h; simp [zaX]
 ·have hne : a ≠ b := fun e => by subst e; rw [zaX] at h; cases h
  simp [h, zbD h, hne]
theorem zhI : ∀ a b : Str, zbg a b = if bytesLess a b then -1 else if a = b then 0 else 1
 | [], [] => rfl
 | [], _ :: _ => rfl
 | _ :: _, [] => rfl
 | x :: a, y :: b => by
   have ih := zhI a b
   simp only [zbg, Lib.compareBytes] at ih ⊢
   by_cases h1 : x < y
   ·simp [bytesLess, h1]
   ·by_cases h2 : y < x
    ·have hne : ¬ x = y := fun e => by subst e; exact absurd h2 h1
     simp [bytesLess, h1, h2, hne]
    ·have he : x = y := by
      rcases Nat.lt_trichotomy x.toNat y.toNat with h | h | h
      ·exact absurd (UInt8.lt_iff_toNat_lt.2 h) h1
      ·exact UInt8.toNat_inj.1 h
      ·exact absurd (UInt8.lt_iff_toNat_lt.2 h) h2
     subst he
     simp [bytesLess, h1, ih]

theorem zqL {i j : Nat} (h : i + j ≤ 2000000) : HVal.int .i64 (IntKind.wrap .i64 ((IntKind.wrap .u64 ((i : Int) + (j : Int))).fdiv (2 ^ min (Int.toNat 1) (IntKind.bits .u64)))) = .int .i64 (((i + j) / 2 : Nat) : Int) := by
 have h1 : IntKind.wrap .u64 ((i : Int) + (j : Int)) = ((i + j : Nat) : Int) := by simp [IntKind.wrap, IntKind.bits, IntKind.signed]; omega
 have h2 : min (Int.toNat 1) (IntKind.bits .u64) = 1 := by decide
 rw [h1, h2]
 have h3 : (((i + j : Nat) : Int).fdiv (2 ^ 1)) = (((i + j) / 2 : Nat) : Int) := by
  rw [Int.fdiv_eq_ediv_of_nonneg _ (by decide)]; rfl
 rw [h3, zk3 (by omega) (by omega)]

def SortedS (l : List Str) : Prop := List.Pairwise (fun a b => bytesLess a b = true) l
theorem SortedS.get {l : List Str} (h : SortedS l) {i j : Nat} {a b : Str} (hij : i < j) (ha : l[i]? = some a) (hb : l[j]? = some b) : bytesLess a b = true := by
 have h1 := zN ha
 have h2 := zN hb
 have := List.pairwise_iff_getElem.1 h i j h1 h2 hij
 rw [List.getElem?_eq_getElem h1] at ha
 rw [List.getElem?_eq_getElem h2] at hb
 simp at ha hb
 rw [← ha, ← hb]; exact this
theorem zst {l : List Str} (hs : SortedS l) {s x : Str} {m : Nat} (hx : l[m]? = some x) (h : Op.bytesLess x s = true) : ∀ (k : Nat) (y : Str), k < m + 1 → l[k]? = some y → Op.bytesLess y s = true := fun k y hk hy => by
 by_cases e : k = m
 ·subst e; rw [hx] at hy; cases hy; exact h
 ·exact zew (hs.get (by omega : k < m) hy hx) h
theorem zsu {l : List Str} (hs : SortedS l) {s x : Str} {m : Nat} (hx : l[m]? = some x) (h : Op.bytesLess x s = false) : ∀ (k : Nat) (y : Str), m ≤ k → l[k]? = some y → Op.bytesLess y s = false := fun k y hk hy => by
 by_cases e : k = m
 ·subst e; rw [hx] at hy; cases hy; exact h
 ·cases hq : Op.bytesLess y s with
  | false => rfl
  | true => have := zew (hs.get (by omega : m < k) hx hy) hq; rw [h] at this; cases this
theorem zrI {l : List Str} {s : Str} {i : Nat} (b : Bool) : (bif decide ((i : Int) < (l.length : Int)) then bif l.getD i [] == s then true else bif false then b else false else false) = (l[i]? == some s) := by
 by_cases h : i < l.length
 ·have h' : (i : Int) < (l.length : Int) := by omega
  simp only [h', decide_true, cond_true, cond_false, getD_some (d := []) h]
  cases hb : l.getD i [] == s with
  | true => simp at hb; simp [hb]
  | false => simp at hb; simp [hb]
 ·have h' : ¬ (i : Int) < (l.length : Int) := by omega
  simp [h', List.getElem?_eq_none (by omega : l.length ≤ i)]
/-- where s stands, or would stand -/
def zdL (l : List Str) (s : Str) : Nat := l.countP fun x => bytesLess x s
theorem zlS {l : List Str} {s : Str} {i : Nat} (hi : i ≤ l.length) (h1 : ∀ (k : Nat) (x : Str), k < i → l[k]? = some x → bytesLess x s = true) (h2 : ∀ (k : Nat) (x : Str), i ≤ k → l[k]? = some x → bytesLess x s = false) :
 zdL l s = i := by
 unfold zdL
 have e : l = l.take i ++ l.drop i := (List.take_append_drop i l).symm
 rw [e, List.countP_append]
 have a1 : (l.take i).countP (fun x => bytesLess x s) = (l.take i).length := by
  rw [List.countP_eq_length]
  intro x hx
  obtain ⟨k, hk, rfl⟩ := List.getElem_of_mem hx
  simp only [List.length_take] at hk
  refine h1 k _ (by omega) ?_
  rw [List.getElem_take]
  exact List.getElem?_eq_getElem (by omega)
 have a2 : (l.drop i).countP (fun x => bytesLess x s) = 0 := by
  rw [List.countP_eq_zero]
  intro x hx
  obtain ⟨k, hk, rfl⟩ := List.getElem_of_mem hx
  simp at hk
  have := h2 (i + k) (l[i + k]) (by omega) (List.getElem?_eq_getElem (by omega))
  rw [List.getElem_drop]
  simp [this]
 rw [a1, a2]
 simp; omega
theorem zoe {l : List Str} {s : Str} (hs : SortedS l) {i : Nat} (hi : i ≤ l.length) (h1 : ∀ (k : Nat) (x : Str), k < i → l[k]? = some x → bytesLess x s = true) (h2 : ∀ (k : Nat) (x : Str), i ≤ k → l[k]? = some x → bytesLess x s = false) :
 (l[i]? == some s) = l.contains s := by
 rw [Bool.eq_iff_iff]
 simp
 constructor
 ·intro h; exact List.mem_of_getElem? h
 ·intro h
  obtain ⟨k, hk, rfl⟩ := List.getElem_of_mem h
  have hk' := List.getElem?_eq_getElem hk
  rcases Nat.lt_trichotomy k i with h3 | h3 | h3
  ·have := h1 k _ h3 hk'; rw [zaX] at this; cases this
  ·subst h3; exact hk'
  ·have hii : i < l.length := by omega
   have hlt := hs.get h3 (List.getElem?_eq_getElem hii) hk'
   have := h2 i _ (Nat.le_refl _) (List.getElem?_eq_getElem hii)
   rw [hlt] at this; cases this
/-- slices.IndexFunc -/
def zdZ {α : Type} (p : α → Bool) : List α → Int → Int
 | [], _ => -1
 | x :: r, k => if p x then k else zdZ p r (k + 1)
theorem zhd {α : Type} (p : α → Bool) : ∀ (l : List α) (k : Int), 0 ≤ k → decide (0 ≤ zdZ p l k) = l.any p
 | [], k, h => by simp [zdZ]
 | x :: r, k, h => by
   have ih := zhd p r (k + 1) (by omega)
   by_cases hx : p x = true
   ·simp [zdZ, hx, h]
   ·have e1 : zdZ p (x :: r) k = zdZ p r (k + 1) := by simp [zdZ, hx]
    rw [e1, ih]; simp [hx]
end
end Go.HL
namespace Go.Proofs.YtpcaaekefgkhjaaGreatDoor
set_option maxRecDepth 100000
set_option linter.unusedVariables false
set_option linter.unusedSimpArgs false
section
open Go.HL
/-- cmp.isNaN[int] -/
theorem zg3 [Tracks] {n : Int}  : ConP Tryz.prog 175 [.int .i64 n] (.bool false) := by
 refine Con.of_body Tryz.func175 rfl Tryz.ntmps175 rfl rfl ?_
 refine za ?_
 refine das rfl ?_
 refine dn ?_
 refine za ?_
 refine dmv rfl ?_
 refine dmv rfl ?_
 refine dq (zaD rfl rfl) ?_
 refine das rfl ?_
 refine dn ?_
 refine zl ?_
 refine zD rfl ?_
 simp

/-- cmp.isNaN[string] -/
theorem zfI [Tracks] {s : Str}  : ConP Tryz.prog 177 [.str s] (.bool false) := by
 refine Con.of_body Tryz.func177 rfl Tryz.ntmps177 rfl rfl ?_
 refine za ?_
 refine das rfl ?_
 refine dn ?_
 refine za ?_
 refine dmv rfl ?_
 refine dmv rfl ?_
 refine dq (zdN rfl rfl) ?_
 refine das rfl ?_
 refine dn ?_
 refine zl ?_
 refine zD rfl ?_
 simp

/-- slices.isNaN[string] -/
theorem ze4 [Tracks] {s : Str}  : ConP Tryz.prog 130 [.str s] (.bool false) := by
 refine Con.of_body Tryz.func130 rfl Tryz.ntmps130 rfl rfl ?_
 refine za ?_
 refine das rfl ?_
 refine dn ?_
 refine za ?_
 refine dmv rfl ?_
 refine dmv rfl ?_
 refine dq (zdN rfl rfl) ?_
 refine das rfl ?_
 refine dn ?_
 refine zl ?_
 refine zD rfl ?_
 simp

/-- cmp.Compare[int] -/
theorem zcL [Tracks] {a b : Int}  : ConP Tryz.prog 126 [.int .i64 a, .int .i64 b] (.int .i64 (zdF a b)) := by
 refine Con.of_body Tryz.func126 rfl Tryz.ntmps126 rfl rfl ?_
 refine za ?_
 refine das rfl ?_
 refine dn ?_
 refine za ?_
 refine dmv rfl ?_
 refine dq (zo zsD rfl (WeakL.refl _) zg3) ?_
 refine das rfl ?_
 refine dn ?_
 refine za ?_
 refine dmv rfl ?_
 refine dq (zo zsD rfl (WeakL.refl _) zg3) ?_
 refine das rfl ?_
 refine dn ?_
 refine zj ?_
 refine za ?_
 refine dmv rfl ?_
 refine dn ?_
 refine zdI rfl ?_
 refine zm ?_
 refine zh ?_
 refine zj ?_
 refine za ?_
 refine dmv rfl ?_
 refine dn ?_
 refine zdI rfl ?_
 refine zm ?_
 refine zh ?_
 refine zj ?_
 refine za ?_
 refine dmv rfl ?_
 refine dmv rfl ?_
 refine dq (zS rfl rfl) ?_
 refine dn ?_
 refine zi rfl (fun h1 => ?_) (fun h2 => ?_)
 ·try simp at h1
  refine za ?_
  refine das rfl ?_
  refine dn ?_
  refine zl ?_
  refine zD rfl ?_
  show HVal.int .i64 _ = _
  unfold zdF; (repeat' split) <;> first | rfl | omega
 ·try simp at h2
  refine zm ?_
  refine zh ?_
  refine zj ?_
  refine za ?_
  refine dmv rfl ?_
  refine dmv rfl ?_
  refine dq (zae rfl rfl) ?_
  refine dn ?_
  refine zi rfl (fun h3 => ?_) (fun h4 => ?_)
  ·try simp at h3
   refine za ?_
   refine das rfl ?_
   refine dn ?_
   refine zl ?_
   refine zD rfl ?_
   show HVal.int .i64 _ = _
   unfold zdF; (repeat' split) <;> first | rfl | omega
  ·try simp at h4
   refine zm ?_
   refine zh ?_
   refine za ?_
   refine das rfl ?_
   refine dn ?_
   refine zl ?_
   refine zD rfl ?_
   show HVal.int .i64 _ = _
   unfold zdF; (repeat' split) <;> first | rfl | omega

/-- cmp.Or[int] -/
theorem zel [Tracks] {l : List Int} (hl : l.length ≤ 1000000) : ConP Tryz.prog 125 [eIs l] (.int .i64 (orI l)) := by
 refine Con.of_body Tryz.func125 rfl Tryz.ntmps125 rfl rfl ?_
 refine za ?_
 refine das rfl ?_
 refine dn ?_
 refine za ?_
 refine das rfl ?_
 refine dn ?_
 refine zj ?_
 refine za ?_
 refine dmv rfl ?_
 refine dq (zK zbL rfl) ?_
 refine dmv rfl ?_
 refine dn ?_
 refine zq ?_
 refine zak [2, 5, 8, 9, 10, 11, 12, 13, 14, 15, 16] (fun (k : Nat) => [(8, .int .i64 k)]) (fun (k : Nat) => []) (fun (k : Nat) => k ≤ l.length ∧ (orI l = orI (l.drop k))) (fun (k : Nat) => l.length - k) (0) ?_ ?_ ?_ ?_
 ·exact ⟨Nat.zero_le _, by simp_all⟩
 ·exact ⟨rfl, trivial⟩
 ·exact List.Perm.refl _
 ·intro k hinv
  obtain ⟨hk, hg⟩ := hinv
  refine za ?_
  refine dq (zS rfl rfl) ?_
  refine dn ?_
  refine zj ?_
  refine zi rfl (fun h1 => ?_) (fun h2 => ?_)
  ·try simp at h1
   obtain ⟨x, hx⟩ : ∃ x, l[k]? = some x := ⟨_, List.getElem?_eq_getElem h1⟩
   have hdx := zU hx
   rw [hdx] at hg
   refine zm ?_
   refine zh ?_
   refine zj ?_
   refine zq ?_
   refine za ?_
   refine dq (zW zbL ty3 rfl rfl rfl (by assumption)) ?_
   refine dq (zg ty3 rfl rfl rfl) ?_
   refine das rfl ?_
   refine dn ?_
   refine za ?_
   refine dmv rfl ?_
   refine dmv rfl ?_
   refine dq (zaD rfl rfl) ?_
   refine dn ?_
   refine zi rfl (fun h3 => ?_) (fun h4 => ?_)
   ·try simp at h3
    refine za ?_
    refine dmv rfl ?_
    refine das rfl ?_
    refine dn ?_
    refine zl ?_
    refine zD rfl ?_
    show HVal.int .i64 _ = _
    rw [hg]; simp_all [orI]
   ·try simp at h4
    refine zm ?_
    refine zy ?_
    refine zh ?_
    refine zC ?_
    refine dq (zB rfl rfl (by omega) (by omega)) ?_
    refine dmv rfl ?_
    refine dn ?_
    refine ⟨k + 1, ?_, ?_, ⟨rfl, trivial⟩, (by repeat (first | exact zt | refine zw rfl ?_ | refine zu rfl rfl ?_)), List.Perm.refl _⟩
    ·refine ⟨by omega, ?_⟩
     rw [hg]; simp_all [orI]
    ·dsimp only; omega
  ·try simp at h2
   have hnk : l.length ≤ k := by omega
   obtain rfl : k = l.length := by omega
   rw [zaV (Nat.le_refl _)] at hg
   refine zX ?_
   refine z7 ?_
   refine zaw ?_
   refine zO ?_
   refine zh ?_
   refine za ?_
   refine dmv rfl ?_
   refine das rfl ?_
   refine dn ?_
   refine zl ?_
   refine zD rfl ?_
   show HVal.int .i64 _ = _
   rw [hg]; simp_all [orI]

/-- cmp.Or[benchwarmer/api.Errno] -/
theorem zi0 [Tracks] {l : List Int} (hl : l.length ≤ 1000000) : ConP Tryz.prog 17 [eIs l] (.int .i64 (orI l)) := by
 refine Con.of_body Tryz.func17 rfl Tryz.ntmps17 rfl rfl ?_
 refine za ?_
 refine das rfl ?_
 refine dn ?_
 refine za ?_
 refine das rfl ?_
 refine dn ?_
 refine zj ?_
 refine za ?_
 refine dmv rfl ?_
 refine dq (zK zg0 rfl) ?_
 refine dmv rfl ?_
 refine dn ?_
 refine zq ?_
 refine zak [2, 5, 8, 9, 10, 11, 12, 13, 14, 15, 16] (fun (k : Nat) => [(8, .int .i64 k)]) (fun (k : Nat) => []) (fun (k : Nat) => k ≤ l.length ∧ (orI l = orI (l.drop k))) (fun (k : Nat) => l.length - k) (0) ?_ ?_ ?_ ?_
 ·exact ⟨Nat.zero_le _, by simp_all⟩
 ·exact ⟨rfl, trivial⟩
 ·exact List.Perm.refl _
 ·intro k hinv
  obtain ⟨hk, hg⟩ := hinv
  refine za ?_
  refine dq (zS rfl rfl) ?_
  refine dn ?_
  refine zj ?_
  refine zi rfl (fun h1 => ?_) (fun h2 => ?_)
  ·try simp at h1
   obtain ⟨x, hx⟩ : ∃ x, l[k]? = some x := ⟨_, List.getElem?_eq_getElem h1⟩
   have hdx := zU hx
   rw [hdx] at hg
   refine zm ?_
   refine zh ?_
   refine zj ?_
   refine zq ?_
   refine za ?_
   refine dq (zW zg0 zjm rfl rfl rfl (by assumption)) ?_
   refine dq (zg zjm rfl rfl rfl) ?_
   refine das rfl ?_
   refine dn ?_
   refine za ?_
   refine dmv rfl ?_
   refine dmv rfl ?_
   refine dq (zaD rfl rfl) ?_
   refine dn ?_
   refine zi rfl (fun h3 => ?_) (fun h4 => ?_)
   ·try simp at h3
    refine za ?_
    refine dmv rfl ?_
    refine das rfl ?_
    refine dn ?_
    refine zl ?_
    refine zD rfl ?_
    show HVal.int .i64 _ = _
    rw [hg]; simp_all [orI]
   ·try simp at h4
    refine zm ?_
    refine zy ?_
    refine zh ?_
    refine zC ?_
    refine dq (zB rfl rfl (by omega) (by omega)) ?_
    refine dmv rfl ?_
    refine dn ?_
    refine ⟨k + 1, ?_, ?_, ⟨rfl, trivial⟩, (by repeat (first | exact zt | refine zw rfl ?_ | refine zu rfl rfl ?_)), List.Perm.refl _⟩
    ·refine ⟨by omega, ?_⟩
     rw [hg]; simp_all [orI]
    ·dsimp only; omega
  ·try simp at h2
   have hnk : l.length ≤ k := by omega
   obtain rfl : k = l.length := by omega
   rw [zaV (Nat.le_refl _)] at hg
   refine zX ?_
   refine z7 ?_
   refine zaw ?_
   refine zO ?_
   refine zh ?_
   refine za ?_
   refine dmv rfl ?_
   refine das rfl ?_
   refine dn ?_
   refine zl ?_
   refine zD rfl ?_
   show HVal.int .i64 _ = _
   rw [hg]; simp_all [orI]

/-- benchwarmer/base.First -/
theorem zgF [Tracks] {l : List Int} (hl : l.length ≤ 1000000) : ConP Tryz.prog 81 [eIs l] (.int .i64 (orI l)) := by
 refine Con.of_body Tryz.func81 rfl Tryz.ntmps81 rfl rfl ?_
 refine za ?_
 refine das rfl ?_
 refine dn ?_
 refine zj ?_
 refine za ?_
 refine dmv rfl ?_
 refine dq (zK zg0 rfl) ?_
 refine dmv rfl ?_
 refine dn ?_
 refine zq ?_
 refine zak [2, 4, 7, 8, 9, 10, 11, 12, 13, 14] (fun (k : Nat) => [(7, .int .i64 k)]) (fun (k : Nat) => []) (fun (k : Nat) => k ≤ l.length ∧ (orI l = orI (l.drop k))) (fun (k : Nat) => l.length - k) (0) ?_ ?_ ?_ ?_
 ·exact ⟨Nat.zero_le _, by simp_all⟩
 ·exact ⟨rfl, trivial⟩
 ·exact List.Perm.refl _
 ·intro k hinv
  obtain ⟨hk, hg⟩ := hinv
  refine za ?_
  refine dq (zS rfl rfl) ?_
  refine dn ?_
  refine zj ?_
  refine zi rfl (fun h1 => ?_) (fun h2 => ?_)
  ·try simp at h1
   obtain ⟨x, hx⟩ : ∃ x, l[k]? = some x := ⟨_, List.getElem?_eq_getElem h1⟩
   have hdx := zU hx
   rw [hdx] at hg
   refine zm ?_
   refine zh ?_
   refine zj ?_
   refine zq ?_
   refine za ?_
   refine dq (zW zg0 zjm rfl rfl rfl (by assumption)) ?_
   refine dq (zg zjm rfl rfl rfl) ?_
   refine das rfl ?_
   refine dn ?_
   refine za ?_
   refine dmv rfl ?_
   refine dq (zaD rfl rfl) ?_
   refine dn ?_
   refine zi rfl (fun h3 => ?_) (fun h4 => ?_)
   ·try simp at h3
    refine za ?_
    refine dmv rfl ?_
    refine das rfl ?_
    refine dn ?_
    refine zl ?_
    refine zD rfl ?_
    show HVal.int .i64 _ = _
    rw [hg]; simp_all [orI]
   ·try simp at h4
    refine zm ?_
    refine zy ?_
    refine zh ?_
    refine zC ?_
    refine dq (zB rfl rfl (by omega) (by omega)) ?_
    refine dmv rfl ?_
    refine dn ?_
    refine ⟨k + 1, ?_, ?_, ⟨rfl, trivial⟩, (by repeat (first | exact zt | refine zw rfl ?_ | refine zu rfl rfl ?_)), List.Perm.refl _⟩
    ·refine ⟨by omega, ?_⟩
     rw [hg]; simp_all [orI]
    ·dsimp only; omega
  ·try simp at h2
   have hnk : l.length ≤ k := by omega
   obtain rfl : k = l.length := by omega
   rw [zaV (Nat.le_refl _)] at hg
   refine zX ?_
   refine z7 ?_
   refine zaw ?_
   refine zO ?_
   refine zh ?_
   refine za ?_
   refine das rfl ?_
   refine dn ?_
   refine zl ?_
   refine zD rfl ?_
   show HVal.int .i64 _ = _
   rw [hg]; simp_all [orI]

/-- internal/bytealg.CompareString -/
theorem zeT [Tracks] {a b : Str}  : ConP Tryz.prog 74 [.str a, .str b] (.int .i64 (zbg a b)) := by
 refine Con.of_body Tryz.func74 rfl Tryz.ntmps74 rfl rfl ?_
 refine za ?_
 refine das rfl ?_
 refine dn ?_
 refine za ?_
 refine dmv rfl ?_
 refine dmv rfl ?_
 refine dq (zp2 Tryz.func124 (by kernel_rfl) (by kernel_rfl) (by kernel_rfl) (by kernel_rfl) rfl rfl rfl) ?_
 refine das rfl ?_
 refine dn ?_
 refine zl ?_
 refine zD rfl ?_
 rfl

/-- strings.Compare -/
theorem zbp [Tracks] {a b : Str}  : ConP Tryz.prog 43 [.str a, .str b] (.int .i64 (zbg a b)) := by
 refine Con.of_body Tryz.func43 rfl Tryz.ntmps43 rfl rfl ?_
 refine za ?_
 refine das rfl ?_
 refine dn ?_
 refine za ?_
 refine dmv rfl ?_
 refine dmv rfl ?_
 refine dq (zo ca74 rfl (WeakL.refl _) zeT) ?_
 refine das rfl ?_
 refine dn ?_
 refine zl ?_
 refine zD rfl ?_
 rfl

/-- cmp.Less[string] -/
theorem zjZ [Tracks] {a b : Str}  : ConP Tryz.prog 129 [.str a, .str b] (.bool (Op.bytesLess a b)) := by
 refine Con.of_body Tryz.func129 rfl Tryz.ntmps129 rfl rfl ?_
 refine za ?_
 refine das rfl ?_
 refine dn ?_
 refine za ?_
 refine dmv rfl ?_
 refine dq (zo zsK rfl (WeakL.refl _) zfI) ?_
 refine dmv rfl ?_
 refine dg rfl rfl (fun hc => ⟨_, OpenTo.refl _, zf rfl⟩) ?_
 refine dg rfl rfl (fun hc => ⟨_, OpenTo.upd (t := 8) rfl (hc) (OpenTo.refl _), zo zsK rfl (WeakL.refl _) zfI⟩) ?_
 refine dg rfl rfl (fun hc => ⟨_, OpenTo.upd (t := 9) rfl (hc) (OpenTo.refl _), zac rfl⟩) ?_
 refine dq (zA rfl (.inr ⟨_, rfl, fun h => by simp_all⟩) (.inl rfl)) ?_
 refine dmv rfl ?_
 refine dg rfl rfl (fun hc => ⟨_, OpenTo.refl _, zf rfl⟩) ?_
 refine dg rfl rfl (fun hc => ⟨_, OpenTo.refl _, zf rfl⟩) ?_
 refine dg rfl rfl (fun hc => ⟨_, OpenTo.upd (t := 14) rfl (hc) (OpenTo.upd (t := 13) rfl (hc) (OpenTo.refl _)), znR rfl rfl⟩) ?_
 refine dq (zA rfl (.inl rfl) (.inr ⟨_, rfl, fun h => by simp_all⟩)) ?_
 refine das rfl ?_
 refine dn ?_
 refine zl ?_
 refine zD rfl ?_
 rfl

/-- slices.Equal[[]string,string] -/
theorem zfq [Tracks] {l m : List Str} (hl : l.length ≤ 1000000) : ConP Tryz.prog 27 [eSs l, eSs m] (.bool (l == m)) := by
 refine Con.of_body Tryz.func27 rfl Tryz.ntmps27 rfl rfl ?_
 refine za ?_
 refine das rfl ?_
 refine dn ?_
 refine zj ?_
 refine za ?_
 refine dmv rfl ?_
 refine dq (zK zP rfl) ?_
 refine dmv rfl ?_
 refine dq (zK zP rfl) ?_
 refine dq (zaD rfl rfl) ?_
 refine dn ?_
 refine zi rfl (fun h1 => ?_) (fun h2 => ?_)
 ·try simp at h1
  refine za ?_
  refine das rfl ?_
  refine dn ?_
  refine zl ?_
  refine zD rfl ?_
  show HVal.bool _ = _
  (congr 1; symm; rw [beq_eq_false_iff_ne]; intro h; subst h; omega)
 ·try simp at h2
  refine zm ?_
  refine zh ?_
  refine zj ?_
  refine za ?_
  refine dmv rfl ?_
  refine dq (zK zP rfl) ?_
  refine dmv rfl ?_
  refine dn ?_
  refine zq ?_
  refine zak [4, 5, 13, 14, 15, 16, 17, 18, 19, 20, 21, 22, 23, 24, 25] (fun (k : Nat) => [(13, .int .i64 k)]) (fun (k : Nat) => []) (fun (k : Nat) => k ≤ l.length ∧ (l.length = m.length ∧ (l == m) = (l.drop k == m.drop k))) (fun (k : Nat) => l.length - k) (0) ?_ ?_ ?_ ?_
  ·refine ⟨Nat.zero_le _, ?_, rfl⟩
   omega
  ·exact ⟨rfl, trivial⟩
  ·exact List.Perm.refl _
  ·intro k hinv
   obtain ⟨hk, hg⟩ := hinv
   refine za ?_
   refine dq (zS rfl rfl) ?_
   refine dn ?_
   refine zj ?_
   refine zi rfl (fun h3 => ?_) (fun h4 => ?_)
   ·try simp at h3
    obtain ⟨x, hx⟩ : ∃ x, l[k]? = some x := ⟨_, List.getElem?_eq_getElem h3⟩
    have hdx := zU hx
    obtain ⟨y, hy⟩ : ∃ y, m[k]? = some y := ⟨_, List.getElem?_eq_getElem (by omega)⟩
    rw [hdx, zU hy] at hg
    refine zm ?_
    refine zh ?_
    refine zj ?_
    refine zq ?_
    refine za ?_
    refine dmv rfl ?_
    refine das rfl ?_
    refine dn ?_
    refine zaF (fun _ => True) [] mixed ?_
    refine ahp 0 rfl rfl (by kernel_rfl) (by kernel_rfl) (zf rfl) ?_
    refine ahp 1 rfl rfl (by kernel_rfl) (by kernel_rfl) (zf rfl) ?_
    refine ahp 2 rfl rfl (by kernel_rfl) (by kernel_rfl) (zW zP ty9 rfl rfl rfl (by assumption)) ?_
    refine ahp 3 rfl rfl (by kernel_rfl) (by kernel_rfl) (zg ty9 rfl rfl rfl) ?_
    refine ahp 4 rfl rfl (by kernel_rfl) (by kernel_rfl) (zf rfl) ?_
    refine ahp 5 rfl rfl (by kernel_rfl) (by kernel_rfl) (zf rfl) ?_
    refine ahp 6 rfl rfl (by kernel_rfl) (by kernel_rfl) (zW zP ty9 rfl rfl rfl (by assumption)) ?_
    refine ahp 7 rfl rfl (by kernel_rfl) (by kernel_rfl) (zg ty9 rfl rfl rfl) ?_
    refine ahp 8 rfl rfl (by kernel_rfl) (by kernel_rfl) (zdN rfl rfl) ?_
    refine ahz (by kernel_rfl) ?_
    refine zi rfl (fun h5 => ?_) (fun h6 => ?_)
    ·try simp at h5
     refine za ?_
     refine das rfl ?_
     refine dn ?_
     refine zl ?_
     refine zD rfl ?_
     show HVal.bool _ = _
     (rw [hg.2]; simp_all; done)
    ·try simp at h6
     refine zm ?_
     refine zy ?_
     refine zh ?_
     refine zC ?_
     refine dq (zB rfl rfl (by omega) (by omega)) ?_
     refine dmv rfl ?_
     refine dn ?_
     refine ⟨k + 1, ?_, ?_, ⟨rfl, trivial⟩, (by repeat (first | exact zt | refine zw rfl ?_ | refine zu rfl rfl ?_)), List.Perm.refl _⟩
     ·refine ⟨by omega, hg.1, ?_⟩
      rw [hg.2]; simp_all
     ·dsimp only; omega
   ·try simp at h4
    have hnk : l.length ≤ k := by omega
    obtain rfl : k = l.length := by omega
    rw [zaV (Nat.le_refl _)] at hg
    refine zX ?_
    refine z7 ?_
    refine zaw ?_
    refine zO ?_
    refine zh ?_
    refine za ?_
    refine das rfl ?_
    refine dn ?_
    refine zl ?_
    refine zD rfl ?_
    show HVal.bool _ = _
    (rw [hg.2]; simp_all; done)
end
end Go.Proofs.YtpcaaekefgkhjaaGreatDoor
namespace Go.HL
section
def zfB (r : Room) (l : List Swap) : Nat → List Swap → Int
 | _, [] => 0
 | k, x :: t => if out x.Round 1 r.Rounds then 1 else if !(r.Teams.contains x.Of) || !(r.Teams.contains x.Team) then 8
   else if decide (0 < k) && decide (orI [zdF x.Round (l.getD (k - 1) zng).Round, zbg x.Of (l.getD (k - 1) zng).Of] ≤ 0) then 7 else zfB r l (k + 1) t
def zbK (r : Room) (l : List Swap) : Int := if zbn r != 0 then zbn r else if 600 < l.length then 2 else zfB r l 0 l
def zpf (r : Room) (l : List Keep) : Nat → List Str → Bool → List Keep → Int
 | _, _, tw, [] => if tw then 6 else 0
 | k, kept, tw, x :: t => if !(r.Teams.contains x.Team) || !(r.Players.contains x.Player) then 8 else if out x.Round 1 r.Rounds then 1
   else if decide (0 < k) && decide (orI [zbg x.Team (l.getD (k - 1) zss).Team, zdF x.Round (l.getD (k - 1) zss).Round] ≤ 0) then 7
   else zpf r l (k + 1) (zaR x.Player kept) (tw || kept.contains x.Player) t
def zgc (r : Room) (l : List Keep) : Int := if zbn r != 0 then zbn r else if 600 < l.length then 2 else zpf r l 0 [] false l
def zut (x : Keep) (y : Swap) : Bool := y.Round == x.Round && y.Of == x.Team
def zo9 (s : List Swap) : List Keep → Int
 | [] => 0
 | x :: r => if s.any (zut x) then 13 else zo9 s r
def zfT (r : Room) (k : List Keep) (s : List Swap) : Int :=
 if orI [zgc r k, zbK r s] != 0 then orI [zgc r k, zbK r s] else zo9 s k
def zf5 (r : Room) (sw : List Swap) (round : Int) : List Turn :=
 (if backwards r.Way round then r.Teams.reverse else r.Teams).map fun t => ⟨round, t, owner round t sw⟩
def zdo (r : Room) (sw : List Swap) : Nat → List Turn
 | 0 => []
 | n + 1 => zdo r sw n ++ zf5 r sw (n + 1)
def turns (r : Room) (sw : List Swap) : List Turn := zdo r sw r.Rounds.toNat
theorem zfX (r : Room) (sw : List Swap) : ∀ n, (zdo r sw n).length = n * r.Teams.length
 | 0 => by simp [zdo]
 | n + 1 => by
   have : (zf5 r sw ((n : Int) + 1)).length = r.Teams.length := by unfold zf5; split <;> simp
   simp only [zdo, List.length_append, zfX r sw n, this, Nat.succ_mul]
def zja (r : Room) (t : Turn) (p : Pick) : List Keep → Pick
 | [] => p
 | x :: k => zja r t (if x.Team = t.of ∧ x.Round = t.round then { p with Player := x.Player, At := r.Start } else p) k
def zfu (r : Room) (k : List Keep) : Nat → List Turn → List Pick
 | _, [] => []
 | i, t :: l => zja r t ⟨i, t.team, [], 0, false⟩ k :: zfu r k (i + 1) l
def zjL (r : Room) (k : List Keep) (s : List Swap) : List Pick := zfu r k 0 (turns r s)
theorem zla {l : List Str} : ∀ (k : Nat), k ≤ l.length → zbk l k (l.drop k) = 0 → ∀ (i j : Nat) (a b : Str), k ≤ j → i + 1 = j → l[i]? = some a → l[j]? = some b → Op.bytesLess a b = true := by
 intro k hk
 generalize hm : l.length - k = m
 induction m generalizing k with
 | zero =>
   intro _ i j a b h1 h2 ha hb
   have := zN hb; omega
 | succ m ih =>
   intro h i j a b h1 h2 ha hb
   have hlt : k < l.length := by omega
   have hx := List.getElem?_eq_getElem hlt
   rw [zU hx, zbk] at h
   by_cases hkey : key l[k] = true
   ·simp only [hkey, Bool.not_true, Bool.false_eq_true, if_false] at h
    by_cases hle : (decide (0 < k) && leS l[k] (l.getD (k - 1) [])) = true
    ·rw [if_pos hle] at h; omega
    ·rw [if_neg hle] at h
     by_cases hj : k + 1 ≤ j
     ·exact ih (k + 1) (by omega) (by omega) h i j a b hj h2 ha hb
     ·obtain rfl : j = k := by omega
      have h0 : 0 < j := by omega
      simp only [h0, decide_true, Bool.true_and] at hle
      have e1 : l.getD (j - 1) [] = a := by
       have : j - 1 = i := by omega
       rw [this]; simp [List.getD, ha]
      have e2 : l[j] = b := by rw [hx] at hb; simpa using hb
      rw [e1, e2, zsY] at hle
      simpa using hle
   ·simp [hkey] at h
theorem zfA {l : List Str} (h : zdX l = 0) : SortedS l := by
 have hadj := zla (l := l) 0 (Nat.zero_le _) (by simpa [zdX] using h)
 have key : ∀ (d i : Nat) (a b : Str), l[i]? = some a → l[i + d + 1]? = some b → Op.bytesLess a b = true := by
  intro d
  induction d with
  | zero => intro i a b ha hb; exact hadj i (i + 1) a b (by omega) rfl ha hb
  | succ d ih =>
    intro i a b ha hb
    have hlt := zN hb
    have hc := List.getElem?_eq_getElem (l := l) (i := i + d + 1) (by omega)
    have h1 := ih i a _ ha hc
    have h2 := hadj (i + d + 1) (i + (d + 1) + 1) _ b (by omega) (by omega) hc hb
    exact zew h1 h2
 refine List.pairwise_iff_getElem.2 fun i j hi hj hij => ?_
 refine key (j - i - 1) i _ _ (List.getElem?_eq_getElem hi) ?_
 have : i + (j - i - 1) + 1 = j := by omega
 rw [this]; exact List.getElem?_eq_getElem hj
theorem zgw {r : Room} (h : zbn r = 0) : SortedS r.Players ∧ r.Teams.length ≤ 20 ∧ 0 < r.Teams.length ∧ 1 ≤ r.Rounds ∧ r.Rounds ≤ 30 ∧ r.Players.length ≤ 500 := by
 unfold zbn at h
 by_cases h1 : teamsFault r.Teams = 0
 ·rw [if_neg (by simp [h1])] at h
  by_cases h2 : out r.Rounds 1 30 = true
  ·rw [if_pos h2] at h; omega
  ·rw [if_neg h2] at h
   by_cases h3 : out r.Way 1 3 = true
   ·rw [if_pos h3] at h; omega
   ·rw [if_neg h3] at h
    by_cases h4 : playersFault r.Players = 0
    ·have h2' := zdK (by simpa using h2)
     unfold teamsFault at h1
     unfold playersFault at h4
     split at h4
     ·omega
     ·split at h1
      ·omega
      ·split at h1
       ·omega
       ·exact ⟨zfA h4, by omega, by omega, h2'.1, h2'.2, by omega⟩
    ·rw [if_pos (by simpa using h4)] at h; exact absurd h h4
 ·rw [if_pos (by simpa using h1)] at h; exact absurd h h1
end
section
/-- after i swaps -/
def Rev (l c : List Str) (i : Nat) : Prop := c.length = l.length ∧ ∀ k, k < l.length → c[k]? = if k < i ∨ l.length - i ≤ k then l[l.length - 1 - k]? else l[k]?
theorem zqF (l : List Str) : Rev l l 0 := ⟨rfl, fun k hk => by rw [if_neg (by omega)]⟩
theorem zrT {l c : List Str} {i : Nat} {a b : Str} (h : Rev l c i) (hi : i < l.length - 1 - i) (ha : c[i]? = some a) (hb : c[l.length - 1 - i]? = some b) : Rev l ((c.set i b).set (l.length - 1 - i) a) (i + 1) := by
 obtain ⟨h1, h2⟩ := h
 refine ⟨by simp [h1], fun k hk => ?_⟩
 have ea := h2 i (by omega)
 have eb := h2 (l.length - 1 - i) (by omega)
 rw [if_neg (by omega), ha] at ea
 rw [if_neg (by omega), hb] at eb
 by_cases e1 : k = l.length - 1 - i
 ·subst e1
  rw [if_pos (by omega)]
  have : l.length - 1 - (l.length - 1 - i) = i := by omega
  rw [this, ← ea, List.getElem?_set_self (by simp; omega)]
 ·rw [List.getElem?_set_ne (by omega)]
  by_cases e2 : k = i
  ·subst e2
   rw [if_pos (by omega), ← eb, List.getElem?_set_self (by omega)]
  ·rw [List.getElem?_set_ne (by omega), h2 k hk]
   by_cases e3 : k < i ∨ l.length - i ≤ k
   ·rw [if_pos e3, if_pos (by omega)]
   ·rw [if_neg e3, if_neg (by omega)]
theorem ztC {l c : List Str} {i : Nat} (h : Rev l c i) (hi : l.length ≤ 2 * i + 1) : c = l.reverse := by
 obtain ⟨h1, h2⟩ := h
 apply List.ext_getElem?
 intro k
 by_cases hk : k < l.length
 ·rw [h2 k hk]
  rw [List.getElem?_reverse hk]
  by_cases e : k < i ∨ l.length - i ≤ k
  ·rw [if_pos e]
  ·rw [if_neg e]
   congr 1; omega
 ·rw [List.getElem?_eq_none (by omega), List.getElem?_eq_none (by simp; omega)]
end
section
def zgW (r : Room) (s : List Swap) : List Str := if zbK r s != 0 then [] else (turns r s).map (·.team)
theorem zfV {r : Room} {l : List Swap} (h : zbK r l = 0) : zbn r = 0 ∧ l.length ≤ 600 := by
 unfold zbK at h
 by_cases h1 : zbn r = 0
 ·rw [if_neg (by simp [h1])] at h
  split at h
  ·omega
  ·exact ⟨h1, by omega⟩
 ·rw [if_pos (by simpa using h1)] at h; exact absurd h h1
theorem zod {a b : Int} (h : orI [a, b] = 0) : a = 0 ∧ b = 0 := by
 simp only [orI] at h
 split at h <;> simp_all
theorem zoc {r : Room} {k : List Keep} {s : List Swap} (h : zfT r k s = 0) : zbn r = 0 ∧ zbK r s = 0 ∧ zgc r k = 0 := by
 unfold zfT at h
 by_cases h1 : orI [zgc r k, zbK r s] = 0
 ·obtain ⟨h2, h3⟩ := zod h1
  exact ⟨(zfV h3).1, h3, h2⟩
 ·rw [if_pos (by simpa using h1)] at h; exact absurd h h1
theorem zq5 {r : Room} {s : List Swap} (h : zbn r = 0) : (turns r s).length ≤ 600 := by
 obtain ⟨_, h1, _, h2, h3, _⟩ := zgw h
 unfold turns
 rw [zfX]
 have := Nat.mul_le_mul (show r.Rounds.toNat ≤ 30 by omega) h1
 omega
end
section
def zot (P : Program) (e : Env) : List ResultVar → List HVal → Prop
 | [], [] => True
 | .tmp t :: r, h :: l => e t = some h ∧ zot P e r l
 | .cell a t :: r, h :: l => (∃ cs d size bytes zero, e a = some (.vptr cs 0) ∧ Fits P t d size bytes zero ∧ ((d.isAgg = false ∧ cs[0]? = some h) ∨ (d.isAgg = true ∧ size = cs.length ∧ h = .agg cs))) ∧ zot P e r l
 | _, _ => False
def zsw : List HVal → HVal
 | [h] => h
 | l => .tup l
def RetC [Tracks] (P : Program) (rs : List ResultVar) (Q : HVal → List MObj → Prop) : Exit → Env → List MObj → Prop
 | .normal, e, M | .ret, e, M => ∃ e' M', Ghost e M e' M' ∧ ∃ l h', zot P e' rs l ∧ Weak (zsw l) h' ∧ Q h' M'
 | _, _, _ => False
theorem zrq [Tracks] {P : Program} {I : Imm} {e : Env} {tmps : Array Value} (he : EnvV I e tmps) {M : List MObj} {w : World} (hs : Sat P I M w) : ∀ (rs : List ResultVar) (l : List HVal), zot P e rs l →
 ∃ vs : List Value, (rs.mapM (zfM tmps)).run P w = .ok vs w ∧ VL I l vs := by
 intro rs
 induction rs with
 | nil =>
   intro l h
   cases l with
   | nil => exact ⟨[], by simp, VL.nil⟩
   | cons _ _ => exact h.elim
 | cons r rs ih =>
   intro l h
   cases l with
   | nil => cases r <;> exact h.elim
   | cons x l =>
     cases r with
     | tmp t =>
       obtain ⟨h1, h2⟩ := h
       obtain ⟨vs, h3, h4⟩ := ih l h2
       obtain ⟨v, h5, h6⟩ := he t x h1
       refine ⟨v :: vs, ?_, VL.cons h6 h4⟩
       simp only [List.mapM_cons, zfM, Sem.run_bind, Sem.run_pure, Result.andThen_ok, h3]
       simp [h5]
     | cell a t =>
       obtain ⟨⟨cs, d, size, bytes, zero, h1, hf, hh⟩, h2⟩ := h
       obtain ⟨vs, h3, h4⟩ := ih l h2
       obtain ⟨v, h5, h6⟩ := he a _ h1
       obtain ⟨b, base, rc, el, fr, g1, g2, g3, g4⟩ := h6.vptr_inv
       obtain ⟨v', h7, h8⟩ := zeH (I := I) (h := x) (o := base + 0) (off := 0) (base := base) hf (hs.imm _ _ g2) rfl g3 g4 (by
        rcases hh with hh | ⟨p1, p2, p3⟩
        ·exact .inl hh
        ·exact .inr ⟨p1, by omega, by rw [p2]; simpa using p3⟩)
       refine ⟨v' :: vs, ?_, VL.cons h8 h4⟩
       have hg : tmps.getD a undef = .pointer (some ⟨b, base + 0, none⟩) := by simp [h5, g1]
       simp only [List.mapM_cons, zfM, Sem.run_bind, Sem.run_pure, Result.andThen_ok, hg, asAddr, h7, h3]

theorem Con.of_bodyc [Tracks] {P : Program} {f : FuncId} {fn : Func} {c : Code} {hargs : List HVal} {M : List MObj} {Q : HVal → List MObj → Prop}
 {n : Nat} (hf : P.funcs[f]? = some fn) (hb : fn.body = some c) (hnt : fn.ntmps = n) (hn' : Nat.ble hargs.length n = true) {rs : List ResultVar} (hrs : fn.results.toList = rs) (h : HWp P n c (zsI hargs) M (RetC P rs Q)) : Con P f hargs M Q := by
 have hn := Nat.le_of_ble_eq_true hn'
 subst hnt hrs
 intro I F w args h1 h2
 refine calls_of_wp hf hb ?_
 have hlen := h1.1
 refine wp_mono (h I F _ w rfl (by simp; omega) ?_ h2) ?_
 ·intro t x hx
  obtain ⟨v, h3, h4⟩ := h1.get hx
  have hlt : t < args.length := zN h3
  refine ⟨v, ?_, h4⟩
  rw [Array.getElem?_append_left (by simpa using hlt)]
  simpa using h3
 ·have key : ∀ (a' : Act) (w' : World), a'.defers = [] → (∃ J e M', Le I J ∧ (∃ e' M'', Ghost e M' e' M'' ∧ ∃ l h', zot P e' fn.results.toList l ∧ Weak (zsw l) h' ∧ Q h' M'') ∧ EnvV J e a'.tmps ∧ Sat P J (M' ++ F) w') →
   a'.defers = [] ∧ ∃ v, (results fn a'.tmps).run P w' = .ok v w' ∧ (∃ v_1 h M' J, Ending.returned v = Ending.returned v_1 ∧ Le I J ∧ Q h M' ∧ V J h v_1 ∧ Sat P J (M' ++ F) w') := by
   rintro a' w' hd ⟨J, e, M', hl, ⟨e', M'', hg, l, h', hr, hw, hq⟩, he, hs⟩
   obtain ⟨J2, hl2, he2, hs2⟩ := hg J F a'.tmps w' he hs
   refine ⟨hd, ?_⟩
   obtain ⟨vs, h3, h4⟩ := zrq he2 hs2 _ _ hr
   have hrun : (results fn a'.tmps).run P w' = .ok (if h : vs.length = 1 then vs[0] else .tuple vs.toArray) w' := by
    rw [zlv]
    have hm : (fn.results.mapM (zfM a'.tmps)).run P w' = .ok vs.toArray w' := by
     rw [Array.mapM_eq_mapM_toList]
     simp only [Sem.run_map, h3, Result.andThen_ok]
    simp only [Sem.run_bind, Sem.run_pure]
    rw [hm]
    simp
   refine ⟨_, hrun, _, h', M'', J2, rfl, hl.trans hl2, hq, ?_, hs2⟩
   apply hw
   match l, h4 with
   | [], h4 =>
     have : vs = [] := by have := h4.1; simpa using this
     subst this
     exact .tup (by simp) (fun j c v h _ => by simp at h)
   | [x], h4 =>
     have hl1 : vs.length = 1 := by have := h4.1; simpa using this
     match vs, hl1, h4 with
     | [v], _, h4 => exact h4.head
   | x :: y :: r, h4 =>
     have hl1 : vs.length = r.length + 2 := by have := h4.1; simpa using this
     rw [dif_neg (by omega)]
     exact .tup (by simp [hl1]) (fun j c v h1 h2 => h4.2 j c v h1 (by simpa using h2))
  rintro x a' w' ⟨p1, p2, J, e, M', p3, p4, p5, p6⟩
  cases x with
  | normal => exact key a' w' p1 ⟨J, e, M', p3, p4, p5, p6⟩
  | ret => exact key a' w' p1 ⟨J, e, M', p3, p4, p5, p6⟩
  | exit id => exact p4.elim
  | goto l => exact p4.elim
  | panic ch => exact p4.elim
  | outgrown => exact p4.elim

section
variable {P : Program} {e : Env} {dst : Option Tmp} {ty : TypeId} {pos : String} {af : Array Edge} {g : Option (Nat × Bool)} {M : List MObj} {K : HVal → List MObj → Prop}
theorem Fits.arrD [Tracks] {t : TypeId} {n el size bytes : Nat} {zero : Value} (h : Fits P t (.arr n el) size bytes zero) : P.underlying t = some (.array n el) := by
 obtain ⟨x, h1, h2⟩ := h.underlying
 cases x <;> simp [zeL] at h2
 obtain ⟨rfl, rfl⟩ := h2
 exact h1
theorem ziE [Tracks] {t el : TypeId} {n size bytes sz b2 : Nat} {zero z2 : Value} {d : TD} (hf : Fits P t (.arr n el) size bytes zero) (hel : Fits P el d sz b2 z2) {k : IntKind} {j b o : Nat} (hj : j < n) (w : World) :
 (Instr.indexAt t (.pointer (some ⟨b, o, none⟩)) (.int k (j : Int))).run P w = .ok (.pointer (some ⟨b, o + j * sz, none⟩)) w := by
 have h1 : (0 : Int) ≤ (j : Int) ∧ (j : Int) < (n : Int) := by omega
 simp [Instr.indexAt, asIntOf, run_underlying hf.arrD, h1, hel.run_sizeOf, zc2, Instr.sureAddr]
 intro h; omega
/-- An element of an array. -/
theorem zrr [Tracks] {x y : Operand} {t el : TypeId} {n size bytes sz b2 : Nat} {zero z2 : Value} {d : TD} {cs : List HVal} {off : Nat} {k : IntKind} {i : Int} {j : Nat}
 (hf : Fits P t (.arr n el) size bytes zero) (hel : Fits P el d sz b2 z2) (hx : zF e x = some (.vptr cs off)) (hy : zF e y = some (.int k i)) (hi : i = (j : Int)) (hj : j < n) :
 POp P e ⟨dst, .indexAddr t x y, ty, pos, af, g⟩ (.vptr cs (off + j * sz)) :=
 POp.of_val fun I a w ho => by
  subst hi
  obtain ⟨b, base, rc, el, fr, h1, h2, h3, h4⟩ := (ho.one (x := x) (by simp [Op.operands]) hx).vptr_inv
  have h5 := (ho.one (x := y) (by simp [Op.operands]) hy).int_inv
  refine ⟨.pointer (some ⟨b, base + off + j * sz, none⟩), by simp [execOp, h1, h5, ziE hf hel hj], ?_⟩
  rw [Nat.add_assoc]; exact .vptr h2 h3 h4
theorem znw [Tracks] {x y : Operand} {t el : TypeId} {n size bytes sz b2 : Nat} {zero z2 : Value} {d : TD} {b o : Nat} {k : IntKind} {i : Int} {j : Nat}
 (hf : Fits P t (.arr n el) size bytes zero) (hel : Fits P el d sz b2 z2) (hx : zF e x = some (.raw (.pointer (some ⟨b, o, none⟩)))) (hy : zF e y = some (.int k i)) (hi : i = (j : Int)) (hj : j < n) :
 POp P e ⟨dst, .indexAddr t x y, ty, pos, af, g⟩ (.raw (.pointer (some ⟨b, o + j * sz, none⟩))) :=
 POp.of_val fun I a w ho => by
  subst hi
  have h1 := (ho.one (x := x) (by simp [Op.operands]) hx).raw_inv
  have h5 := (ho.one (x := y) (by simp [Op.operands]) hy).int_inv
  exact ⟨_, by simp [execOp, h1, h5, ziE hf hel hj], .raw _ rfl⟩

theorem zm7 [Tracks] {f : FuncId} {fn : Func} {args : Array Operand} {ats : Array TypeId} {x y : Operand} {s : List UInt8} {c : Int} (hf : P.funcs[f]? = some fn) (h1 : (fn.name == "runtime.NumGoroutine") = false) (h2 : fn.body.isNone = true)
 (h3 : (Extern.findNext fn).isNone = true) (h4 : Extern.find fn = some Extern.BytealgIndexByte.indexByte) (ha : args = #[x, y]) (hx : zF e x = some (.str s)) (hy : zF e y = some (.int .u8 c)) :
 POp P e ⟨dst, .call ⟨.value (.func f), args, ats⟩, ty, pos, af, g⟩ (.int .i64 (Lib.indexByte s c.toNat.toUInt8)) :=
 POp.of_val fun I a w ho => by
  subst ha
  have e1 := (ho.one (x := x) (by simp [Op.operands, Call.operands]) hx).str_inv
  have e2 := (ho.one (x := y) (by simp [Op.operands, Call.operands]) hy).int_inv
  refine ⟨_, ?_, .int _ _⟩
  have h3' : Extern.findNext fn = none := by cases h : Extern.findNext fn with | none => rfl | some _ => rw [h] at h3; simp at h3
  have hcmp : (Extern.BytealgIndexByte.indexByte #[.string ⟨s.toArray⟩, .int .u8 c]).run P w = .ok (.int .i64 (Lib.indexByte s c.toNat.toUInt8)) w := by
   have := Lib.run_indexByteString (P := P) ⟨s.toArray⟩ c w
   simpa using this
  have hev : a.eval (.func f) = .func (.func f) #[] #[] := rfl
  have hmap : (#[x, y] : Array Operand).map a.eval = #[.string ⟨s.toArray⟩, .int .u8 c] := by simp [e1, e2]
  have hargs : (#[] : Array Value) ++ #[.string ⟨s.toArray⟩, .int .u8 c] ++ #[] = #[.string ⟨s.toArray⟩, .int .u8 c] := rfl
  simp only [execOp, resolve, hev, hmap, Deferred.ofValue, invoke, callFunc, Sem.run_bind, Sem.run_pure, Result.andThen_ok, run_program, hf, h1, h2, h3', h4, Bool.false_eq_true, if_false, if_true, run_mark, hargs, hcmp]
end
end
section
def asciiSet (l : List UInt8) : List HVal := (List.range 256).map fun i => .bool (l.contains (UInt8.ofNat i))
theorem zc0 (l : List UInt8) : (asciiSet l).length = 256 := by simp [asciiSet]
theorem zi1 (l : List UInt8) (c : UInt8) : (asciiSet l)[c.toNat]? = some (.bool (l.contains c)) := by
 have := c.toNat_lt
 simp [asciiSet, List.getElem?_range, this]
theorem zly {α : Type} (f : α → Bool) : ∀ l : List α, zbe (l.map fun i => .bool (f i)) = true
 | [] => rfl
 | x :: l => by simp only [List.map_cons, zbe]; exact zly f l
theorem zm2 (l : List UInt8) : zbe (asciiSet l) = true := zly _ _
theorem znE (l : List UInt8) (c : UInt8) : zZ (asciiSet l) (0 + c.toNat * 1) [.bool true] = asciiSet (l ++ [c]) := by
 have hc := c.toNat_lt
 have hl : 0 + c.toNat * 1 = c.toNat := by omega
 rw [hl]
 apply List.ext_getElem?
 intro i
 have hlen := zc0 l
 simp only [zZ, List.length_singleton]
 by_cases hi : i < c.toNat
 ·rw [List.getElem?_append_left (by simp; omega), List.getElem?_append_left (by simp [hlen]; omega), List.getElem?_take_of_lt hi]
  have h256 : i < 256 := by omega
  have hne : UInt8.ofNat i ≠ c := fun h => by
   have := congrArg UInt8.toNat h
   rw [UInt8.toNat_ofNat_of_lt' (by simpa [UInt8.size] using h256)] at this; omega
  simp [asciiSet, List.getElem?_range, h256, hne]
 ·by_cases he : i = c.toNat
  ·subst he
   rw [List.getElem?_append_left (by simp [hlen]; omega), List.getElem?_append_right (by simp [hlen]; omega)]
   rw [zi1]
   simp [hlen, Nat.min_eq_left (Nat.le_of_lt hc)]
  ·rw [List.getElem?_append_right (by simp [hlen]; omega), List.getElem?_drop]
   have e1 : c.toNat + 1 + (i - ((asciiSet l).take c.toNat ++ [HVal.bool true]).length) = i := by simp [hlen]; omega
   rw [e1]
   by_cases h256 : i < 256
   ·have hne : UInt8.ofNat i ≠ c := fun h => by
     have := congrArg UInt8.toNat h
     rw [UInt8.toNat_ofNat_of_lt' (by simpa [UInt8.size] using h256)] at this; omega
    simp [asciiSet, List.getElem?_range, h256, hne]
   ·rw [List.getElem?_eq_none (by rw [zc0]; omega), List.getElem?_eq_none (by rw [zc0]; omega)]
def zeO (p : UInt8 → Bool) (s : Str) : Str := (s.reverse.dropWhile p).reverse
theorem zf3 (p : UInt8 → Bool) (s : Str) (c : UInt8) : zeO p (s ++ [c]) = if p c then zeO p s else s ++ [c] := by
 unfold zeO
 rw [List.reverse_append]
 simp only [List.reverse_cons, List.reverse_nil, List.nil_append, List.singleton_append, List.dropWhile_cons]
 split <;> simp
theorem zrg (p : UInt8 → Bool) : ∀ s : Str, (s.dropWhile p).length ≤ s.length
 | [] => Nat.le_refl _
 | x :: s => by
   rw [List.dropWhile_cons]
   split
   ·exact Nat.le_succ_of_le (zrg p s)
   ·exact Nat.le_refl _
theorem zqC (p : UInt8 → Bool) (s : Str) : (zeO p s).length ≤ s.length := by
 unfold zeO
 rw [List.length_reverse]
 have := zrg p s.reverse
 rwa [List.length_reverse] at this
theorem zqT (p : UInt8 → Bool) : ∀ s : Str, s.dropWhile p = [] → ∀ c ∈ s, p c = true
 | [], _, c, h => by cases h
 | x :: s, h, c, hc => by
   rw [List.dropWhile_cons] at h
   by_cases hx : p x = true
   ·rw [if_pos hx] at h
    rcases List.mem_cons.1 hc with rfl | hc
    ·exact hx
    ·exact zqT p s h c hc
   ·rw [if_neg hx] at h; cases h
theorem zse (p : UInt8 → Bool) (s : Str) : ((zeO p s).dropWhile p == []) = s.all p := by
 induction s using List.reverseRecOn' with
 | nil => rfl
 | snoc s c ih =>
   rw [zf3]
   by_cases hc : p c = true
   ·rw [if_pos hc, ih]; simp [hc]
   ·rw [if_neg hc]
    have : (s ++ [c]).all p = false := by simp [hc]
    rw [this]
    cases hd : (s ++ [c]).dropWhile p with
    | nil => exact absurd (zqT _ _ hd c (by simp)) hc
    | cons _ _ => rfl
where
 List.reverseRecOn' {motive : Str → Prop} (nil : motive []) (snoc : ∀ s c, motive s → motive (s ++ [c])) (l : Str) : motive l := by
  have : ∀ n (l : Str), l.length = n → motive l := by
   intro n
   induction n with
   | zero => intro l h; rw [List.length_eq_zero_iff.1 h]; exact nil
   | succ n ih =>
     intro l h
     have hne : l ≠ [] := fun h0 => by subst h0; simp at h
     rw [← List.dropLast_concat_getLast hne]
     exact snoc _ _ (ih _ (by simp [h]))
  exact this l.length l rfl
def zh4 : Str := [97, 98, 99, 100, 101, 102, 103, 104, 105, 106, 107, 108, 109, 110, 111, 112, 113, 114, 115, 116, 117, 118, 119, 120, 121, 122, 48, 49, 50, 51, 52, 53, 54, 55, 56, 57, 45, 95]
def zjE : Str := [97, 98, 99, 100, 101, 102, 103, 104, 105, 106, 107, 108, 109, 110, 111, 112, 113, 114, 115, 116, 117, 118, 119, 120, 121, 122]
theorem zqm {p : UInt8 → Bool} (h : (List.range 256).all (fun i => p (UInt8.ofNat i)) = true) (c : UInt8) : p c = true := by
 have := List.all_eq_true.1 h c.toNat (List.mem_range.2 c.toNat_lt)
 simpa using this
theorem zrO (c : UInt8) : zh4.contains c = zga c := by
 have := zqm (p := fun c => zh4.contains c == zga c) (by kernel_rfl) c
 simpa using this
theorem zp0 (c : UInt8) : decide (0 ≤ Lib.indexByte zjE c) = (decide (97 ≤ c.toNat) && decide (c.toNat ≤ 122)) := by
 have := zqm (p := fun c => decide (0 ≤ Lib.indexByte zjE c) == (decide (97 ≤ c.toNat) && decide (c.toNat ≤ 122))) (by kernel_rfl) c
 simpa using this
theorem ztv (s : Str) : key s = ((!(out s.length 1 40) && ((zeO (zh4.contains ·) s).dropWhile (zh4.contains ·) == [])) && decide (0 ≤ Lib.indexByte zjE (s.headD 0))) := by
 rw [zse, zp0]
 have : (fun x => zh4.contains x) = zga := funext zrO
 rw [this]
 unfold key zf4
 cases s with
 | nil => simp [out]
 | cons x r =>
   simp only [List.headD_cons]
   have h1 : (!(out ((x :: r).length : Int) 1 40)) = decide ((x :: r).length ≤ 40) := by
    simp only [out, List.length_cons]
    rw [Bool.eq_iff_iff]; simp; omega
   rw [h1]
   have h2 : ((x :: r) != []) = true := rfl
   rw [h2]
   have hb : ∀ a b c d : Bool, (true && a && c && d && b) = (a && b && (c && d)) := by decide
   exact hb _ _ _ _
theorem zp1 (n : Int) : (if out n 0 345686399999 then (1 : Int) else 0) = if za4 n then 0 else 1 := by
 have : out n 0 345686399999 = !(za4 n) := by
  simp only [out, za4]; rw [Bool.eq_iff_iff]; simp; try omega
 rw [this]; cases za4 n <;> rfl
end
section
variable {P : Program}
open Go.Sort Go.Proofs
theorem zgH [Tracks] {I : Imm} {F : List MObj} {w : World} {b off n cap sz : Nat} {es : List HVal} (h : Sat P I (.arr (.slice (some ⟨b, off, none⟩) n cap) sz es :: F) w) :
 n = es.length ∧ ∃ rc el fr, w.heap[b]? = some (.cells rc el fr) ∧ Free fr rc.size ∧ (∀ e ∈ es, (zn e).length = sz) ∧ (es.length ≤ cap ∧ cap ≤ 9223372036854775807) ∧ off + cap * sz ≤ rc.size ∧
  (∀ (i j : Nat) (e c : HVal) (v : Value), es[i]? = some e → (zn e)[j]? = some c → rc[off + i * sz + j]? = some v → V I c v) := by
 rcases h.obj _ List.mem_cons_self with ⟨h0, _⟩ | ⟨b', off', cap', rc, el, fr, h1, h2, h3, h4, h5, h6, h7⟩
 ·cases h0
 ·cases h1
  exact ⟨rfl, rc, el, fr, h2, h3, h4, h5, h6, h7⟩
theorem zmm [Tracks] {I : Imm} {F : List MObj} {w : World} {b off n cap : Nat} {l : List (List UInt8)} (h : Sat P I (.arr (.slice (some ⟨b, off, none⟩) n cap) 1 (l.map .str) :: F) w) :
 Holds encStr w b off l.toArray ∧ b < w.heap.size ∧ l.length ≤ cap ∧ n = l.length := by
 obtain ⟨h0, rc, el, fr, h2, h3, h4, h5, h6, h7⟩ := zgH h
 simp only [List.length_map] at h0 h5
 refine ⟨fun j hj => ?_, ?_, h5.1, h0⟩
 ·have hj' : j < l.length := by simpa using hj
  have hlt : off + j < rc.size := by omega
  constructor
  ·rw [zfv h2, Array.getElem?_eq_getElem hlt]
   have hv := h7 j 0 (.str l[j]) (.str l[j]) rc[off + j] (by simp [hj']) (by simp [zn]) (by simp [Array.getElem?_eq_getElem hlt])
   rw [hv.str_inv]
   simp [hj', encStr]
  ·simp only [World.frozen?, h2]
   have := h3 (off + j) hlt
   simpa using this
 ·rcases Nat.lt_or_ge b w.heap.size with h' | h'
  ·exact h'
  ·simp [Array.getElem?_eq_none h'] at h2
theorem zpj [Tracks] {I : Imm} {F : List MObj} {w : World} {b off n cap n' k : Nat} {os : Array Obj} {l zs : List (List UInt8)} (h : Sat P I (.arr (.slice (some ⟨b, off, none⟩) n cap) 1 (l.map .str) :: F) w) (hz : zs.length = l.length) (hn : n' ≤ l.length) :
 Sat P I (.arr (.slice (some ⟨b, off, none⟩) n' cap) 1 ((zs.take n').map .str) :: F) (grow (putRow encStr (Sort.ahead w k) b off zs.toArray) os) := by
 obtain ⟨h0, rc, el, fr, h2, h3, h4, h5, h6, h7⟩ := zgH h
 simp only [List.length_map] at h0 h5
 have hlt : b < w.heap.size := by
  rcases Nat.lt_or_ge b w.heap.size with h' | h'
  ·exact h'
  ·simp [Array.getElem?_eq_none h'] at h2
 have hheap : ∀ c, c < w.heap.size → (grow (putRow encStr (Sort.ahead w k) b off zs.toArray) os).heap[c]? = (w.heap.modify b (onCells (putCells encStr off zs.toArray)))[c]? := fun c hc => by
  simp only [grow, putRow, mapBlock, Sort.ahead]
  rw [Array.getElem?_append_left (by simpa using hc)]
 refine h.change (m' := .arr (.slice (some ⟨b, off, none⟩) n' cap) 1 ((zs.take n').map .str)) (fun c hc hnc => ?_) (fun c hc => .inl hc) (by simp [MObj.blocks]) ?_ rfl rfl rfl
 ·rw [hheap c hc, Array.getElem?_modify]
  have : b ≠ c := fun hh => hnc (by subst hh; simp [MObj.blocks])
  rw [if_neg this]
 ·refine .inr ⟨b, off, cap, putCells encStr off zs.toArray rc, el, fr, ?_, ?_, ?_, ?_, ?_, ?_, ?_⟩
  ·simp [hz, Nat.min_eq_left hn]
  ·rw [hheap b hlt, Array.getElem?_modify, if_pos rfl, h2]; rfl
  ·simpa [putCells] using h3
  ·intro e he; obtain ⟨a, _, rfl⟩ := List.mem_map.1 he; simp [zn]
  ·simp; omega
  ·simpa [putCells] using h6
  ·intro i j e c v a1 a2 a3
   have hi : i < n' := by
    have := zN a1; simp at this; omega
   rw [List.getElem?_map, List.getElem?_take_of_lt hi] at a1
   cases hq : zs[i]? with
   | none => rw [hq] at a1; simp at a1
   | some s =>
     rw [hq] at a1; simp at a1; subst a1
     have hj : j = 0 := by have := zN a2; simp [zn] at this; omega
     subst hj
     simp [zn] at a2; subst a2
     have hil : i < zs.length := zN hq
     have hr : off + i * 1 + 0 < rc.size := by omega
     rw [putCells, Array.getElem?_mapIdx, Array.getElem?_eq_getElem hr, Option.map_some, if_pos ⟨by omega, by simp; omega⟩] at a3
     have e1 : off + i * 1 + 0 - off = i := by omega
     rw [e1] at a3
     have e2 : zs.toArray[i]! = s := by
      rw [getElem!_pos zs.toArray i (by simpa using hil)]
      have := List.getElem?_eq_getElem hil
      rw [hq] at this; simpa using (Option.some.inj this).symm
     rw [e2] at a3
     cases a3
     exact .str s

theorem VL.one {I : Imm} {h : HVal} {args : List Value} (hv : VL I [h] args) : ∃ v, args = [v] ∧ V I h v := by
 obtain ⟨h1, h2⟩ := hv
 match args, h1 with
 | [v], _ => exact ⟨v, rfl, h2 0 h v rfl rfl⟩

def zbj (l : List (List UInt8)) : List (List UInt8) := l.mergeSort fun x y => decide (x ≤ y)
theorem zee (l : List (List UInt8)) : (zbj l).length = l.length := by simp [zbj]

/-- A function that works on a slice of strings in place and hands on nothing. -/
theorem ztn [Tracks] {P : Program} {f : FuncId} {l zs : List (List UInt8)} {v : Value} (hz : zs.length = l.length)
 (h1 : ∀ (b off cap : Nat) (w : World), Holds encStr w b off l.toArray → b < w.heap.size → l.length ≤ cap → Calls P f #[.slice (some ⟨b, off, none⟩) l.length cap] w fun e w' => e = .returned (.tuple #[]) ∧ ∃ n os, w' = grow (putRow encStr (Sort.ahead w n) b off zs.toArray) os)
 (h0 : l = [] → ConP P f [.slice 1 []] (.tup [])) : Con P f [.raw v] [.arr v 1 (l.map .str)] fun x M' => x = .tup [] ∧ M' = [.arr v 1 (zs.map .str)] := by
 intro I F w args ha hs
 obtain ⟨u, rfl, hu⟩ := ha.one
 obtain rfl : u = v := hu.raw_inv
 rcases hs.obj (.arr u 1 (l.map .str)) (by simp) with ⟨rfl, hn⟩ | ⟨b, off, cap, rc, el, fr, rfl, _⟩
 ·have hl : l = [] := by simpa using hn
  subst hl
  have hz0 : zs = [] := List.length_eq_zero_iff.1 hz
  subst hz0
  refine (h0 rfl I (.arr (.slice none 0 0) 1 [] :: F) w [.slice none 0 0] (VL.cons (.slice0 _ _ _) VL.nil) (by simpa using hs)).mono ?_
  rintro _ w' ⟨v, h, M', J, rfl, hle, ⟨rfl, rfl⟩, hv, hsat⟩
  exact ⟨v, _, [.arr (.slice none 0 0) 1 []], J, rfl, hle, ⟨rfl, rfl⟩, hv, by simpa using hsat⟩
 ·rw [List.length_map] at hs ⊢
  obtain ⟨g1, g2, g3, g4⟩ := zmm hs
  refine (h1 b off cap w g1 g2 g3).mono ?_
  rintro _ w' ⟨rfl, n, os, rfl⟩
  refine ⟨_, .tup [], _, I, rfl, .refl I, ⟨rfl, rfl⟩, .tup (by simp) (fun j c v h _ => by simp at h), ?_⟩
  have := zpj (n' := l.length) (k := n) (os := os) hs hz (Nat.le_refl _)
  rw [← hz, List.take_length, hz] at this
  exact this
/-- The same, where the slice comes back, cut. -/
theorem zsa [Tracks] {P : Program} {f : FuncId} {l zs : List (List UInt8)} {v : Value} (hz : zs.length ≤ l.length)
 (h1 : ∀ (b off cap : Nat) (w : World), Holds encStr w b off l.toArray → b < w.heap.size → l.length ≤ cap → Calls P f #[.slice (some ⟨b, off, none⟩) l.length cap] w fun e w' => e = .returned (.slice (some ⟨b, off, none⟩) zs.length cap) ∧ ∃ n, w' = putRow encStr (Sort.ahead w n) b off (zs ++ List.replicate (l.length - zs.length) []).toArray)
 (h0 : l = [] → ∀ w, Calls P f #[.slice none 0 0] w fun e w' => e = .returned (.slice none 0 0) ∧ w' = w) : Con P f [.raw v] [.arr v 1 (l.map .str)] fun x M' => ∃ u, x = .raw u ∧ M' = [.arr u 1 (zs.map .str)] := by
 intro I F w args ha hs
 obtain ⟨u, rfl, hu⟩ := ha.one
 obtain rfl : u = v := hu.raw_inv
 rcases hs.obj (.arr u 1 (l.map .str)) (by simp) with ⟨rfl, hn⟩ | ⟨b, off, cap, rc, el, fr, rfl, _⟩
 ·have hl : l = [] := by simpa using hn
  subst hl
  have hz0 : zs = [] := List.length_eq_zero_iff.1 (by simpa using hz)
  subst hz0
  refine (h0 rfl w).mono ?_
  rintro _ w' ⟨rfl, rfl⟩
  exact ⟨_, .raw (.slice none 0 0), _, I, rfl, .refl I, ⟨_, rfl, rfl⟩, .raw _ rfl, hs⟩
 ·rw [List.length_map] at hs ⊢
  obtain ⟨g1, g2, g3, g4⟩ := zmm hs
  refine (h1 b off cap w g1 g2 g3).mono ?_
  rintro _ w' ⟨rfl, n, rfl⟩
  refine ⟨_, .raw (.slice (some ⟨b, off, none⟩) zs.length cap), _, I, rfl, .refl I, ⟨_, rfl, rfl⟩, .raw _ rfl, ?_⟩
  have := zpj (zs := zs ++ List.replicate (l.length - zs.length) []) (n' := zs.length) (k := n) (os := #[]) hs (by simp; omega) hz
  rw [List.take_left' rfl, grow_empty] at this
  exact this
end
section
theorem zlZ {α : Type} [BEq α] [LawfulBEq α] [Inhabited α] [DecidableEq α] (d : Array α) (m : Nat) : (Lib.compactUpTo d m).length ≤ m := by
 unfold Lib.compactUpTo
 rw [List.length_map]
 have := List.length_filter_le (Lib.keeps d) (List.range m)
 simpa using this
theorem zqj (l : List Str) : (Lib.compact l).length ≤ l.length := zlZ _ _
end
section
open Op (bytesLess)
theorem zq2 (a b : Int) : zdF a b = -zdF b a := by
 unfold zdF; split <;> split <;> (try split) <;> omega
theorem zek (a b : Str) : zbg a b = -zbg b a := by
 rw [zhI, zhI]
 rcases zct a b with h | h | h
 ·have hne : a ≠ b := fun e => by subst e; rw [zaX] at h; cases h
  simp [h, zbD h, hne.symm]
 ·subst h; simp [zaX]
 ·have hne : a ≠ b := fun e => by subst e; rw [zaX] at h; cases h
  simp [h, zbD h, hne]
theorem zsk (a b : Int) : orI [-a, -b] = -orI [a, b] := by
 by_cases h1 : a = 0 <;> by_cases h2 : b = 0 <;> simp [orI, h1, h2]
end
section
section
variable {α : Type} (c : α → α → Int)
def zh6 (x : α) : List α → List α
 | [] => [x]
 | y :: t => if c x y < 0 then y :: zh6 x t else x :: y :: t
def zdb (x : α) (S : List α) : List α := (zh6 c x S.reverse).reverse
def zbf (l : List α) : List α := l.foldl (fun S x => zdb c x S) []
theorem zsn (x : α) : zdb c x [] = [x] := rfl
theorem zmH (x y : α) (S : List α) : zdb c x (S ++ [y]) = if c x y < 0 then zdb c x S ++ [y] else S ++ [y, x] := by
 unfold zdb
 rw [List.reverse_append]
 simp only [List.reverse_cons, List.reverse_nil, List.nil_append, List.singleton_append, zh6]
 split <;> simp
theorem zlF (l : List α) (x : α) : zbf c (l ++ [x]) = zdb c x (zbf c l) := by simp [zbf, List.foldl_append]
theorem ziL (x : α) : ∀ l, (zh6 c x l).Perm (x :: l)
 | [] => .refl _
 | y :: t => by
   simp only [zh6]; split
   ·exact ((ziL x t).cons y).trans (.swap _ _ _)
   ·exact .refl _
theorem zqZ (x : α) (S : List α) : (zdb c x S).Perm (x :: S) := by
 unfold zdb
 exact (List.reverse_perm _).trans ((ziL c x _).trans ((List.reverse_perm S).cons x))
theorem zlp : ∀ (l S : List α), (l.foldl (fun S x => zdb c x S) S).Perm (S ++ l)
 | [], S => by simp
 | x :: l, S => by
   simp only [List.foldl_cons]
   refine (zlp l _).trans ?_
   refine ((zqZ c x S).append_right l).trans ?_
   exact (List.perm_middle (a := x) (l₁ := S) (l₂ := l)).symm
theorem zes (l : List α) : (zbf c l).Perm l := by
 have := zlp c l []
 simpa [zbf] using this
theorem zcw (l : List α) : (zbf c l).length = l.length := (zes c l).length_eq
theorem zmY {l : List α} {x : α} : x ∈ zbf c l ↔ x ∈ l := (zes c l).mem_iff
/-- A comparison by which things stand in one line, as far as they are in s. -/
structure Cmp (s : α → Prop) : Prop where
 flip : ∀ x y, s x → s y → (c x y < 0 ↔ 0 < c y x)
 trans : ∀ x y z, s x → s y → s z → c x y ≤ 0 → c y z ≤ 0 → c x z ≤ 0
variable {c}
theorem zkb {s : α → Prop} (hc : Cmp c s) {x : α} (hx : s x) : ∀ {l : List α}, (∀ y ∈ l, s y) → l.Pairwise (fun a b => c b a ≤ 0) → (zh6 c x l).Pairwise (fun a b => c b a ≤ 0)
 | [], _, _ => by simp [zh6]
 | y :: t, hs, hp => by
   have hy := hs y (by simp)
   have ht : ∀ z ∈ t, s z := fun z hz => hs z (List.mem_cons_of_mem _ hz)
   obtain ⟨h1, h2⟩ := List.pairwise_cons.1 hp
   simp only [zh6]
   split
   ·rename_i hlt
    refine List.pairwise_cons.2 ⟨fun z hz => ?_, zkb hc hx ht h2⟩
    rcases List.mem_cons.1 ((ziL c x t).mem_iff.1 hz) with rfl | hz
    ·omega
    ·exact h1 z hz
   ·rename_i hge
    have hyx : c y x ≤ 0 := by
     have := (hc.flip x y hx hy)
     omega
    refine List.pairwise_cons.2 ⟨fun z hz => ?_, hp⟩
    rcases List.mem_cons.1 hz with rfl | hz
    ·exact hyx
    ·exact hc.trans z y x (ht z hz) hy hx (h1 z hz) hyx
theorem zoH {s : α → Prop} (hc : Cmp c s) {x : α} (hx : s x) {l : List α} (hs : ∀ y ∈ l, s y) (hp : l.Pairwise (fun a b => c a b ≤ 0)) : (zdb c x l).Pairwise (fun a b => c a b ≤ 0) := by
 unfold zdb
 rw [List.pairwise_reverse]
 exact zkb hc hx (fun y hy => hs y (List.mem_reverse.1 hy)) (List.pairwise_reverse.2 hp)
theorem znV {s : α → Prop} (hc : Cmp c s) {l : List α} (hs : ∀ y ∈ l, s y) : (zbf c l).Pairwise (fun a b => c a b ≤ 0) := by
 have key : ∀ (n : Nat), n ≤ l.length → (zbf c (l.take n)).Pairwise (fun a b => c a b ≤ 0) := by
  intro n
  induction n with
  | zero => intro _; simp [zbf]
  | succ n ih =>
    intro hn
    have hx := List.getElem?_eq_getElem (l := l) (i := n) (by omega)
    rw [zaI hx, zlF]
    exact zoH hc (hs _ (List.mem_of_getElem? hx)) (fun y hy => hs y (List.mem_of_mem_take ((zes c _).mem_iff.1 hy))) (ih (by omega))
 have := key l.length (Nat.le_refl _)
 rwa [List.take_length] at this
end
end
section
variable {P : Program}
section
variable {P : Program} {e : Env} {dst : Option Tmp} {ty : TypeId} {pos : String} {af : Array Edge} {g : Option (Nat × Bool)} {M : List MObj} {K : HVal → List MObj → Prop}
theorem ze8 {α : Type} : ∀ {l : List α} {i : Nat} {x : α}, l[i]? = some x → l.Perm (x :: l.eraseIdx i)
 | [], i, x, h => by simp at h
 | y :: l, 0, x, h => by simp at h; subst h; exact .refl _
 | y :: l, i + 1, x, h => by
   have := ze8 (l := l) (i := i) (x := x) (by simpa using h)
   exact (this.cons y).trans (.swap _ _ _)
/-- A call on one of the owned objects. -/
theorem zd [Tracks] {f : FuncId} {args : Array Operand} {ats : Array TypeId} {hs hs' : List HVal} {i : Nat} {m : MObj} {Q : HVal → List MObj → Prop} (hc : Callable P f) (ha : zdh e args.toList = some hs) (hw : WeakL hs hs') (hm : M[i]? = some m)
 (hp : Con P f hs' [m] Q) (hk : ∀ h M', Q h M' → K h (M' ++ M.eraseIdx i)) : EOp P e M ⟨dst, .call ⟨.value (.func f), args, ats⟩, ty, pos, af, g⟩ K :=
 zbl (M1 := [m]) hc ha hw (ze8 hm) hp hk
/-- The length of an owned slice. -/
theorem zaG [Tracks] {α : Type} {f : α → HVal} {x : Operand} {t el : TypeId} {size bytes : Nat} {zero : Value} {i : Nat} {v : Value} {sz : Nat} {es : List α} (hf : Fits P t (.slice el) size bytes zero) (hx : zF e x = some (.raw v))
 (hm : M[i]? = some (.arr v sz (es.map f))) (hk : K (.int .i64 es.length) M) : EOp P e M ⟨dst, .call ⟨.builtin .len, #[x], #[t]⟩, ty, pos, af, g⟩ K := by
 refine zpr hf hx hm ?_
 rw [List.length_map]; exact hk
/-- An element of an owned slice is loaded, whole or in part, through its address. -/
theorem za7 [Tracks] {α : Type} {f : α → HVal} {x : Operand} {t : TypeId} {d : TD} {size bytes : Nat} {zero : Value} {i b off cap n sz j o : Nat} {es : List α} {y : α} (k : Nat) {h : HVal} (hf : Fits P t d size bytes zero)
 (hx : zF e x = some (.raw (.pointer (some ⟨b, o, none⟩)))) (ho' : o = off + j * sz + k) (hm : M[i]? = some (.arr (.slice (some ⟨b, off, none⟩) n cap) sz (es.map f))) (hj : es[j]? = some y)
 (hd : d.isAgg = false) (hh : (zn (f y))[k]? = some h) (hk : K h M) : EOp P e M ⟨dst, .load t x, ty, pos, af, g⟩ K :=
 zfb (j := j) (f := k) (y := f y) hf hx ho' hm (by rw [List.getElem?_map, hj]; rfl) (.inl ⟨hd, hh⟩) hk
end
section
variable {P : Program} {ops : Array Oper} {n : Nat} {K : Env → List MObj → Prop} {rest : List Oper} {e : Env} {M : List MObj} {d : Nat} {op : Op} {ty : TypeId} {pos : String} {af : Array Edge}
/-- An operation with an effect under a guard: what it brings about holds where it is not carried out as well. -/
theorem dgx [Tracks] {j : Nat} {want c : Bool} (Q : HVal → List MObj → Prop) (hd : Nat.blt d n = true) (hg : zeJ ops e j want = some c) (hn : c = false → ∃ x, Q x M)
 (hp : c = true → ∃ e2, OpenTo e e2 ∧ EOp P e2 M ⟨some d, op, ty, pos, af, some (j, want)⟩ Q)
 (k : ∀ x M', Q x M' → Der P ops n K rest (upd e d (.opt c x)) M') : Der P ops n K (⟨some d, op, ty, pos, af, some (j, want)⟩ :: rest) e M :=
 ⟨fun t ht => by simp at ht; subst ht; exact zeG hd, c, hg, fun hc => by
  obtain ⟨e2, h1, h2⟩ := hp hc
  intro I F a w ho hs
  exact Oper.wp_noQ (fun _ _ ⟨v, x, M', J, h3, h4, h5, h7, h8⟩ => ⟨v, .opt c x, M', J, h3, h4, k x M' h5, .opt (fun _ => h7) (fun hf => by rw [hc] at hf; cases hf), h8⟩) (h2 I F a w (ho.open h1) hs),
  fun hc => by
   obtain ⟨x, hx⟩ := hn hc
   subst hc
   exact ⟨x, k x M hx⟩⟩
end
section
variable {P : Program} {e : Env} {dst : Option Tmp} {ty : TypeId} {pos : String} {af : Array Edge} {g : Option (Nat × Bool)}
end
end
section
abbrev pAt (b : Nat) : HVal := .raw (.pointer (some ⟨b, 0, none⟩))
/-- A stream of numbers of which a have been drawn. -/
abbrev St (b : Nat) (l : List Int) (a : Nat) : MObj := .cells b [.slice 1 (l.map (.int .i64)), .int .i64 (a : Int)]
def zeN (x n : Int) : Int := if n < 1 then 0 else if x.tmod n < 0 then x.tmod n + n else x.tmod n
theorem zi9 (x n : Int) : ∃ y : Nat, zeN x n = (y : Int) ∧ (y : Int) < max n 1 := by
 have h : 0 ≤ zeN x n ∧ zeN x n < max n 1 := by
  unfold zeN
  split
  ·omega
  ·have h1 := Int.tmod_lt_of_pos x (show 0 < n by omega)
   have h2 : -n < x.tmod n := by
    have := Int.neg_lt_tmod_of_pos' x n (by omega)
    exact this
   split <;> omega
 exact ⟨(zeN x n).toNat, by omega, by omega⟩
where
 Int.neg_lt_tmod_of_pos' (x n : Int) (h : 0 < n) : -n < x.tmod n := by
  rcases Int.le_total 0 x with hx | hx
  ·have := Int.tmod_nonneg n hx; omega
  ·have e : x.tmod n = -((-x).tmod n) := by rw [Int.neg_tmod]; simp
   have := Int.tmod_lt_of_pos (-x) h
   omega
theorem getI {L : List Int} {y : Nat} (h : (y : Int) < max (L.length : Int) 1) (h0 : 0 < L.length) : ∃ z, L[y]? = some z ∧ z ∈ L :=
 ⟨L[y]'(by omega), List.getElem?_eq_getElem _, List.getElem_mem _⟩
theorem getS {L : List Str} {y : Nat} (h : (y : Int) < max (L.length : Int) 1) (h0 : 0 < L.length) : ∃ z, L[y]? = some z ∧ z ∈ L :=
 ⟨L[y]'(by omega), List.getElem?_eq_getElem _, List.getElem_mem _⟩
theorem zsm (a b : Nat) : ((a : Int)).tmod (b : Int) = ((a % b : Nat) : Int) := by
 exact (Int.ofNat_tmod a b).symm
end
section
variable {P : Program}
open Go.Sort Go.Proofs
section
variable {P : Program} {n : Nat} {e : Env} {M : List MObj} {Q : Exit → Env → List MObj → Prop} {c c' : Code}
def znl [Tracks] {ι : Type} (e : Env) (ks : List Nat) (W : ι → List (Nat × HVal)) (MM : ι → List MObj) (Iv : ι → Prop) (Q : Exit → Env → List MObj → Prop) : Exit → Env → List MObj → Prop
 | .normal, e', M => ∃ e2 M2, Ghost e' M e2 M2 ∧ ∃ j, Iv j ∧ zdi e2 (W j) ∧ zey ks e e2 ∧ M2.Perm (MM j)
 | x, e', M => Q x e' M
theorem zr1 [Tracks] {ι : Type} (ks : List Nat) (W : ι → List (Nat × HVal)) (MM : ι → List MObj) (Iv : ι → Prop) (h1 : HWp P n c e M (znl e ks W MM Iv Q))
 (h2 : ∀ i, Iv i → HWp P n c' (loopE e ks (W i)) (MM i) Q) : HWp P n (.seq c c') e M Q := by
 refine zj (zgp h1 ?_)
 intro x e1 M1 hq
 cases x with
 | normal =>
   obtain ⟨e2, M2, hg, j, a1, a2, a3, a4⟩ := hq
   exact zL (hg.trans ((Ghost.sub (Sub.loopE a2 a3)).trans (Ghost.perm a4))) (h2 j a1)
 | _ => exact hq
theorem zcd [Tracks] {ι : Type} {e0 e2 : Env} {M2 : List MObj} {ks : List Nat} {W : ι → List (Nat × HVal)} {MM : ι → List MObj} {Iv : ι → Prop} (hg : Ghost e M e2 M2) (h : znl e0 ks W MM Iv Q .normal e2 M2) : znl e0 ks W MM Iv Q .normal e M := by
 obtain ⟨e3, M3, g, r⟩ := h
 exact ⟨e3, M3, hg.trans g, r⟩
theorem zpu [Tracks] {ι : Type} {e0 : Env} {ks : List Nat} {W : ι → List (Nat × HVal)} {MM : ι → List MObj} {Iv : ι → Prop} (j : ι) (h : Iv j) (hW : zdi e (W j)) (hk : zey ks e0 e) (hM : M.Perm (MM j)) : znl e0 ks W MM Iv Q .normal e M :=
 ⟨e, M, Ghost.sub (Sub.refl _), j, h, hW, hk, hM⟩
end
/-- Another view of the state within a region. -/
theorem zq3 [Tracks] {P : Program} {ops : Array Oper} {n : Nat} {K : Env → List MObj → Prop} {rest : List Oper} {e : Env} {M M' : List MObj} (hm : M = M') (k : Der P ops n K rest e M') : Der P ops n K rest e M := hm ▸ k
/-- The header of an owned slice, with its capacity. -/
theorem zdc [Tracks] {P : Program} {n : Nat} {e : Env} {M : List MObj} {c : Code} {Q : Exit → Env → List MObj → Prop} {i : Nat} {v : Value} {sz : Nat} {es : List HVal} (hm : M[i]? = some (.arr v sz es))
 (h0 : v = .slice none 0 0 → es = [] → HWp P n c e M Q) (h1 : ∀ b off cap, v = .slice (some ⟨b, off, none⟩) es.length cap → es.length ≤ cap → HWp P n c e M Q) : HWp P n c e M Q := fun I F a w a1 a2 a3 a4 => by
 rcases a4.obj _ (List.mem_append_left _ (List.mem_of_getElem? hm)) with ⟨g1, g2⟩ | ⟨b, off, cap, rc, el, fr, g1, _, _, _, g5, _⟩
 ·exact h0 g1 g2 I F a w a1 a2 a3 a4
 ·exact h1 b off cap g1 g5.1 I F a w a1 a2 a3 a4
theorem zQ [Tracks] {α : Type} {l r : List α} {x : α} (i : Nat) (h : l[i]? = some x) (hr : (l.eraseIdx i).Perm r) : l.Perm (x :: r) := (ze8 h).trans (hr.cons x)
theorem zM [Tracks] {α : Type} {l r : List α} {x y : α} (i : Nat) (h : l[i]? = some y) (hy : y = x) (hr : (l.eraseIdx i).Perm r) : l.Perm (x :: r) := hy ▸ zQ i h hr
theorem zm9 [Tracks] {P : Program} {f : FuncId} {hargs : List HVal} {h : HVal} (hc : ∀ (I : Imm) (w : World) (args : List Value), VL I hargs args → ∃ v, V I h v ∧ Calls P f args.toArray w fun e w' => e = .returned v ∧ w' = w) : ConP P f hargs h := by
 intro I F w args ha hs
 obtain ⟨v, hv, hcalls⟩ := hc I w args ha
 refine hcalls.mono ?_
 rintro _ w' ⟨rfl, rfl⟩
 exact ⟨v, h, [], I, rfl, .refl I, ⟨rfl, rfl⟩, hv, hs⟩
end
section
abbrev nilS : HVal := .raw (.slice none 0 0)
theorem zph {i : Nat} (h : i < 100) : (Lib.decDigits i).length ≤ 10 := by
 have : (List.range 100).all (fun i => decide ((Lib.decDigits i).length ≤ 10)) = true := by kernel_rfl
 have := List.all_eq_true.1 this i (List.mem_range.2 h)
 simpa using this
end
section
open Op (bytesLess)
/-- A list without the elements that equal the one before (p ahead of the first). -/
def zdq (p : Option Str) : List Str → List Str
 | [] => []
 | x :: r => if p = some x then zdq (some x) r else x :: zdq (some x) r
theorem zln (x : Str) : ∀ (l : List Str) (p : Option Str), zdq p (l ++ [x]) = zdq p l ++ if (l.getLast?.or p) = some x then [] else [x]
 | [], p => by
   by_cases h : p = some x
   ·simp only [List.nil_append, zdq]
    rw [if_pos h, if_pos (by simpa using h)]
   ·simp only [List.nil_append, zdq]
    rw [if_neg h, if_neg (by simpa using h)]
 | y :: l, p => by
   have ih := zln x l (some y)
   have e : (y :: l).getLast?.or p = l.getLast?.or (some y) := by
    cases l with
    | nil => simp
    | cons z r => simp [List.getLast?_cons_cons]; rw [List.getLast?_eq_some_getLast (by simp)]; simp
   rw [e]
   simp only [List.cons_append, zdq, ih]
   split <;> simp
theorem zgO (l : List Str) : ∀ m, m ≤ l.length → Lib.compactUpTo l.toArray m = zdq none (l.take m)
 | 0, _ => by simp [Lib.compactUpTo, zdq]
 | m + 1, h => by
   have hm : m < l.length := by omega
   have hx := List.getElem?_eq_getElem hm
   rw [Lib.compactUpTo_succ, zgO l m (by omega), zaI hx, zln]
   congr 1
   have e1 : l.toArray[m]! = l[m] := by simp [getElem!_pos, hm]
   rw [e1]
   cases m with
   | zero => simp [Lib.keeps]
   | succ m =>
     have hl : (l.take (m + 1)).getLast? = some l[m] := by
      rw [zaI (List.getElem?_eq_getElem (show m < l.length by omega)), List.getLast?_append]; rfl
     have e2 : l.toArray[m]! = l[m] := by simp [getElem!_pos, show m < l.length by omega]
     rw [hl]
     simp only [Lib.keeps, e1, Nat.add_sub_cancel, e2]
     by_cases hh : l[m] = l[m + 1]
     ·simp [hh]
     ·have hh' : ¬ l[m + 1] = l[m] := fun h => hh h.symm
      simp [hh, hh']
theorem zgz (l : List Str) : Lib.compact l = zdq none l := by
 unfold Lib.compact
 rw [zgO l _ (Nat.le_refl _), List.take_length]
theorem zoi : ∀ (l : List Str) (p : Option Str), (zdq p l).length ≤ l.length
 | [], _ => Nat.le_refl _
 | x :: r, p => by
   have := zoi r (some x)
   simp only [zdq]; split <;> simp <;> omega
end
section
def Sh (s : Str) : Prop := s.length ≤ 1000000
/-- The state of KeepList's loops. -/
structure KLs where
 u : Value
 out : List Keep
 lv : Value
 left : List Str
 a : Nat
structure KLok (n a : Nat) (q : KLs) : Prop where
 out : q.out.length ≤ n
 left : q.left.length ≤ 20
 ls : ∀ s ∈ q.left, Sh s
 os : ∀ x ∈ q.out, Sh x.Team ∧ Sh x.Player
 a : q.a ≤ a + 2 * n
theorem ziK : ∀ (l : List Str) (p : Option Str) (s : Str), s ∈ zdq p l → s ∈ l
 | [], _, s, h => by simp [zdq] at h
 | x :: r, p, s, h => by
   simp only [zdq] at h
   split at h
   ·exact List.mem_cons_of_mem _ (ziK r _ s h)
   ·rcases List.mem_cons.1 h with h | h
    ·subst h; simp
    ·exact List.mem_cons_of_mem _ (ziK r _ s h)
theorem ztN {l : List Str} {s : Str} (h : s ∈ Lib.compact (zbj l)) : s ∈ l := by
 rw [zgz] at h
 have := ziK _ _ _ h
 exact (List.mergeSort_perm _ _).mem_iff.1 this
theorem KLok.add {n a : Nat} {u u' lv lv' : Value} {out : List Keep} {left : List Str} {a1 a2 k : Nat} {t p : Str} {rd : Int} (h : KLok n a ⟨u, out, lv, left, a1⟩) (h1 : a2 ≤ a1 + 2) (ht : Sh t) (hp : left[k]? = some p) :
 KLok (n + 1) a ⟨u', out ++ [⟨t, p, rd⟩], lv', left.eraseIdx k, a2⟩ :=
 ⟨by have := h.out; simp at *; omega, by have := h.left; have := List.length_eraseIdx_le left k; dsimp only at *; omega, fun s hs => h.ls s (List.mem_of_mem_eraseIdx hs), fun x hx => by
  rcases List.mem_append.1 hx with hx | hx
  ·exact h.os x hx
  ·simp at hx; subst hx; exact ⟨ht, h.ls p (List.mem_of_getElem? hp)⟩, by have := h.a; dsimp only at *; omega⟩
theorem zcc {α : Type} {l : List α} {j : Nat} {x y : α} (h : l[j]? = some y) : (l.set j x)[j]? = some x := by
 rw [List.getElem?_set_self (zN h)]
theorem zcf {α β : Type} {f : α → β} {l : List α} {j : Nat} {x : α} (h : l[j]? = some x) : (l.map f)[j]? = some (f x) := by
 rw [List.getElem?_map, h]; rfl
theorem zpz {α : Type} {l : List α} {j : Nat} {x y : α} (h : x ∈ l.set j y) : x = y ∨ x ∈ l := by
 rcases List.mem_or_eq_of_mem_set h with h | h
 ·exact .inr h
 ·exact .inl h
/-- The state of SwapList's loops: what is out, the row of teams, the draws. -/
structure SLs where
 u : Value
 out : List Swap
 row : List Str
 a : Nat
structure SLok (n a : Nat) (q : SLs) : Prop where
 out : q.out.length ≤ n
 row : q.row.length ≤ 4
 rs : ∀ s ∈ q.row, Sh s
 os : ∀ x ∈ q.out, Sh x.Of ∧ Sh x.Team
 a : q.a ≤ a + 2 * n
theorem SLok.add {n a : Nat} {u u' : Value} {out : List Swap} {row : List Str} {a1 a2 : Nat} {t p : Str} {rd : Int} (h : SLok n a ⟨u, out, row, a1⟩) (h1 : a2 ≤ a1 + 2) (ht : Sh t) (hp : Sh p) :
 SLok (n + 1) a ⟨u', out ++ [⟨rd, t, p⟩], row, a2⟩ :=
 ⟨by have := h.out; simp at *; omega, h.row, h.rs, fun x hx => by
  rcases List.mem_append.1 hx with hx | hx
  ·exact h.os x hx
  ·simp at hx; subst hx; exact ⟨ht, hp⟩, by have := h.a; dsimp only at *; omega⟩
end
section
open Op (bytesLess)
structure Asset where
 Player : Str
 Position : Str
 Value : Int
structure Place where
 Position : Str
 Many : Int
abbrev zbM (x : Asset) : HVal := .agg [.str x.Player, .str x.Position, .int .i64 x.Value]
abbrev zt9 (x : Place) : HVal := .agg [.str x.Position, .int .i64 x.Many]
abbrev zgi (l : List Asset) : HVal := .slice 3 (l.map zbM)
abbrev zjN (l : List Place) : HVal := .slice 2 (l.map zt9)
def ziU : Asset := ⟨[], [], 0⟩
def zn5 : Place := ⟨[], 0⟩
def assetFault (x : Asset) : Int := if !(key x.Player) || !(key x.Position) then 5 else if out x.Value (-1000000) 1000000 then 1 else 0
def zdR (l : List Asset) : Nat → List Asset → Int
 | _, [] => 0
 | k, x :: t => if assetFault x != 0 then assetFault x else if decide (0 < k) && leS x.Player (l.getD (k - 1) ziU).Player then 7 else zdR l (k + 1) t
def zcT (l : List Asset) : Int := if 300 < l.length then 2 else zdR l 0 l
def zdr (l : List Place) : Nat → List Place → Int
 | _, [] => 0
 | k, x :: t => if !(key x.Position) then 5 else if out x.Many 0 12 then 1 else if decide (0 < k) && leS x.Position (l.getD (k - 1) zn5).Position then 7 else zdr l (k + 1) t
def zcU (l : List Place) : Int := if 10 < l.length then 2 else zdr l 0 l
def byValue (a b : Asset) : Int := orI [zdF b.Value a.Value, zbg a.Player b.Player]
def zfh (l : List Asset) (pos : Str) : List Asset := l.filter (fun x => x.Position == pos)
def ofP (l : List Asset) (pos : Str) : List Asset := zbf byValue (zfh l pos)
def zed (o : List Asset) (many : Int) : List Asset := (o.take (min many o.length).toNat).filter (fun y => decide (0 < y.Value))
def zaZ (of : Str → List Asset) (p : List Place) : List Asset := p.flatMap fun x => zed (of x.Position) x.Many
def zdy (l : List Asset) : Int := (l.map (·.Value)).sum
def zli (l : List Asset) : List Str := zbj (l.map (·.Player))
theorem zlB {l : List Asset} {k : Nat} {x : Asset} {pos : Str} (h : l[k]? = some x) : zfh (l.take (k + 1)) pos = zfh (l.take k) pos ++ if x.Position == pos then [x] else [] := by
 rw [zaI h]; unfold zfh; rw [List.filter_append]
 by_cases hx : x.Position == pos <;> simp [hx]
theorem zke (l : List Asset) (pos : Str) : (zfh l pos).length ≤ l.length := List.length_filter_le _ _
theorem zth (l : List Asset) (pos : Str) : (ofP l pos).length ≤ l.length := by unfold ofP; rw [zcw]; exact zke l pos
end
section
open Op (bytesLess)
theorem zsf {l : List Asset} {k : Nat} : (l.map (·.Player)).getD k [] = (l.getD k ziU).Player := by
 by_cases h : k < l.length
 ·simp [List.getD, List.getElem?_eq_getElem h]
 ·simp [List.getD, List.getElem?_eq_none (Nat.le_of_not_lt h), ziU]
theorem ziy {x : Asset} (h : assetFault x = 0) : key x.Player = true ∧ key x.Position = true ∧ -1000000 ≤ x.Value ∧ x.Value ≤ 1000000 := by
 unfold assetFault at h
 by_cases h1 : (!(key x.Player) || !(key x.Position)) = true
 ·rw [if_pos h1] at h; omega
 ·rw [if_neg h1] at h
  by_cases h2 : out x.Value (-1000000) 1000000 = true
  ·rw [if_pos h2] at h; omega
  ·have := zdK (by simpa using h2)
   simp at h1
   exact ⟨h1.1, h1.2, this.1, this.2⟩
theorem zj7 (l : List Asset) : ∀ (t : List Asset) (k : Nat), zdR l k t = 0 → zbk (l.map (·.Player)) k (t.map (·.Player)) = 0 ∧ ∀ x ∈ t, assetFault x = 0
 | [], _, _ => ⟨rfl, fun x h => by cases h⟩
 | x :: t, k, h => by
   simp only [zdR] at h
   by_cases h1 : assetFault x = 0
   ·rw [if_neg (by simpa using h1)] at h
    by_cases h2 : (decide (0 < k) && leS x.Player (l.getD (k - 1) ziU).Player) = true
    ·rw [if_pos h2] at h; omega
    ·rw [if_neg h2] at h
     obtain ⟨h3, h4⟩ := zj7 l t (k + 1) h
     refine ⟨?_, fun y hy => ?_⟩
     ·simp only [List.map_cons, zbk, zsf]
      rw [if_neg (by simp [(ziy h1).1]), if_neg h2]
      exact h3
     ·rcases List.mem_cons.1 hy with rfl | hy
      ·exact h1
      ·exact h4 y hy
   ·rw [if_pos (by simpa using h1)] at h; exact absurd h h1
theorem zlU {l : List Asset} (h : zcT l = 0) : SortedS (l.map (·.Player)) ∧ ∀ x ∈ l, assetFault x = 0 := by
 unfold zcT at h
 split at h
 ·omega
 ·obtain ⟨h1, h2⟩ := zj7 l l 0 h
  exact ⟨zfA (by simpa [zdX] using h1), h2⟩
theorem zj3 (l : List Place) : ∀ (t : List Place) (k : Nat), zdr l k t = 0 → ∀ x ∈ t, 0 ≤ x.Many ∧ x.Many ≤ 12
 | [], _, _ => fun x h => by cases h
 | x :: t, k, h => by
   simp only [zdr] at h
   by_cases h1 : (!(key x.Position)) = true
   ·rw [if_pos h1] at h; omega
   ·rw [if_neg h1] at h
    by_cases h2 : out x.Many 0 12 = true
    ·rw [if_pos h2] at h; omega
    ·rw [if_neg h2] at h
     by_cases h3 : (decide (0 < k) && leS x.Position (l.getD (k - 1) zn5).Position) = true
     ·rw [if_pos h3] at h; omega
     ·rw [if_neg h3] at h
      intro y hy
      rcases List.mem_cons.1 hy with rfl | hy
      ·exact zdK (by simpa using h2)
      ·exact zj3 l t (k + 1) h y hy
theorem zlR {l : List Place} (h : zcU l = 0) : (∀ x ∈ l, 0 ≤ x.Many ∧ x.Many ≤ 12) ∧ l.length ≤ 10 := by
 unfold zcU at h
 split at h
 ·omega
 ·exact ⟨zj3 l l 0 h, by omega⟩
theorem zgm {a b : Str} : zbg a b ≤ 0 ↔ bytesLess b a = false := by
 rw [zhI]
 rcases zct a b with h | h | h
 ·simp [h, zbD h]
 ·subst h; simp [zaX]
 ·have hne : a ≠ b := fun e => by subst e; rw [zaX] at h; cases h
  simp [h, zbD h, hne]
theorem zeZ {a b : Str} : zbg a b = 0 ↔ a = b := by
 rw [zhI]
 rcases zct a b with h | h | h
 ·have hne : a ≠ b := fun e => by subst e; rw [zaX] at h; cases h
  simp [h, hne]
 ·subst h; simp [zaX]
 ·have hne : a ≠ b := fun e => by subst e; rw [zaX] at h; cases h
  simp [zbD h, hne]
theorem zf9 {a b c : Str} (h1 : zbg a b ≤ 0) (h2 : zbg b c ≤ 0) : zbg a c ≤ 0 := by
 rw [zgm] at *
 rcases zct a b with h | h | h
 ·rcases zct b c with h' | h' | h'
  ·exact zbD (zew h h')
  ·subst h'; exact zbD h
  ·rw [h'] at h2; cases h2
 ·subst h; exact h2
 ·rw [h] at h1; cases h1
theorem zsl (a b : Int) : orI [a, b] = if a ≠ 0 then a else b := by
 simp only [orI]
 by_cases ha : a = 0 <;> by_cases hb : b = 0 <;> simp [ha, hb]
theorem ztu {a b : Int} : zdF a b ≤ 0 ↔ a ≤ b := by unfold zdF; split <;> (try split) <;> omega
end
section
variable {P : Program}
section
variable {P : Program} {e : Env} {dst : Option Tmp} {ty : TypeId} {pos : String} {af : Array Edge} {g : Option (Nat × Bool)} {M : List MObj} {K : HVal → List MObj → Prop}
/-- A whole element of an owned slice is loaded. -/
theorem zb0 [Tracks] {α : Type} {f : α → HVal} {x : Operand} {t : TypeId} {d : TD} {size bytes : Nat} {zero : Value} {i b off cap n sz j o : Nat} {es : List α} {y : α} (hf : Fits P t d size bytes zero)
 (hx : zF e x = some (.raw (.pointer (some ⟨b, o, none⟩)))) (ho' : o = off + j * sz) (hm : M[i]? = some (.arr (.slice (some ⟨b, off, none⟩) n cap) sz (es.map f))) (hj : es[j]? = some y)
 (hd : d.isAgg = true) (hs : size = (zn (f y)).length) (hv : f y = .agg (zn (f y))) (hk : K (f y) M) : EOp P e M ⟨dst, .load t x, ty, pos, af, g⟩ K :=
 zfb (j := j) (f := 0) (y := f y) hf hx (by omega) hm (by rw [List.getElem?_map, hj]; rfl) (.inr ⟨hd, by omega, by rw [List.drop_zero, hs, List.take_length]; exact hv⟩) hk
/-- A whole element of an owned slice is stored. -/
theorem zdV [Tracks] {α : Type} {f : α → HVal} {x z : Operand} {t : TypeId} {d : TD} {size bytes : Nat} {zero : Value} {i b off cap n sz j o : Nat} {es : List α} {y y' : α} (hf : Fits P t d size bytes zero)
 (hx : zF e x = some (.raw (.pointer (some ⟨b, o, none⟩)))) (ho' : o = off + j * sz) (hz : zF e z = some (f y')) (hm : M[i]? = some (.arr (.slice (some ⟨b, off, none⟩) n cap) sz (es.map f))) (hj : es[j]? = some y)
 (hok : zdT size (f y') = true) (hfl : zbe (zn (f y')) = true) (hle : (zn (f y')).length = (zn (f y)).length)
 (hk : K .junk (M.set i (.arr (.slice (some ⟨b, off, none⟩) n cap) sz ((es.set j y').map f)))) : EOp P e M ⟨dst, .store t x z, ty, pos, af, g⟩ K := by
 have h0 := (zc4 hok).1
 refine zaQ (j := j) (f := 0) (y := f y) (y' := f y') hf hx (by omega) hz hm (by rw [List.getElem?_map, hj]; rfl) hok hfl (by omega) ?_ ?_
 ·rw [znX hle]
 ·rw [List.map_set] at hk; exact hk
end
theorem Sat.arr_take [Tracks] {I : Imm} {F : List MObj} {w : World} {b off n cap sz m : Nat} {es : List HVal} (hm : m ≤ es.length) (h : Sat P I (.arr (.slice (some ⟨b, off, none⟩) n cap) sz es :: F) w) :
 Sat P I (.arr (.slice (some ⟨b, off, none⟩) m cap) sz (es.take m) :: F) w := by
 obtain ⟨_, rc, el, fr, h2, h3, h4, h5, h6, h7⟩ := zgH h
 refine h.change (m' := .arr (.slice (some ⟨b, off, none⟩) m cap) sz (es.take m)) (fun _ _ _ => rfl) (fun c hc => .inl hc) (by simp [MObj.blocks]) ?_ rfl rfl rfl
 have hl : (es.take m).length = m := by simp; omega
 refine .inr ⟨b, off, cap, rc, el, fr, by rw [hl], h2, h3, fun e he => h4 e (List.mem_of_mem_take he), by omega, h6, fun i j e c v a1 a2 a3 => ?_⟩
 have hi := zN a1
 rw [List.getElem?_take_of_lt (by omega)] at a1
 exact h7 i j e c v a1 a2 a3
theorem Ghost.take [Tracks] {e : Env} {M : List MObj} {b off n cap sz m : Nat} {es : List HVal} (hm : m ≤ es.length) : Ghost e (.arr (.slice (some ⟨b, off, none⟩) n cap) sz es :: M) e (.arr (.slice (some ⟨b, off, none⟩) m cap) sz (es.take m) :: M) :=
 fun _ I F tmps w h1 h2 => ⟨I, .refl I, h1, h2.arr_take hm⟩
def zg5 (cap off sz lo : Nat) : Nat := if cap = lo then off else off + lo * sz
section
variable {P : Program} {e : Env} {dst : Option Tmp} {ty : TypeId} {pos : String} {af : Array Edge} {g : Option (Nat × Bool)} {M : List MObj} {K : HVal → List MObj → Prop}
/-- A slice whose header is known is cut. -/
theorem zqJ [Tracks] {x : Operand} {lo hi : Option Operand} {t el : TypeId} {size bytes sz b2 : Nat} {zero z2 : Value} {d : TD} {b off n cap l h : Nat}
 (hf : Fits P t (.slice el) size bytes zero) (hel : Fits P el d sz b2 z2) (hx : zF e x = some (.raw (.slice (some ⟨b, off, none⟩) n cap))) (hlo : zbF e lo 0 l) (hhi : zbF e hi n h) (h1 : l ≤ h) (h2 : h ≤ n) (hc : n ≤ cap) :
 POp P e ⟨dst, .slice t x lo hi none, ty, pos, af, g⟩ (.raw (.slice (some ⟨b, zg5 cap off sz l, none⟩) (h - l) (cap - l))) :=
 POp.of_val fun I a w ho => by
  have h3 := (ho.one (x := x) (by simp [Op.operands]) hx).raw_inv
  have hb : (Instr.sliceBounds true n cap (Option.map a.eval lo) (Option.map a.eval hi) none).run P w = .ok (l, h, cap) w :=
   zgb (P := P) (e := e) (lo := lo) (hi := hi) (l := l) (h := h) (len := n) (cap := cap) ho (by intro y hy; simp [Op.operands, hy]) (by intro y hy; simp [Op.operands, hy]) hlo hhi h1 h2 hc true w
  refine ⟨_, ?_, .raw _ rfl⟩
  simp [execOp, Instr.sliceAt, run_underlying hf.slice, h3, Instr.slice, hb, hel.run_sizeOf, zg5]
  try (split <;> simp_all [zc2])
  try omega
/-- Cells of an owned slice behind the first m' elements are cleared: what stays are these. -/
theorem znM [Tracks] {x : Operand} {t el : TypeId} {size bytes sz b2 : Nat} {zero z2 : Value} {d : TD} {i b off n cap m q o c2 : Nat} {es : List HVal} (m' : Nat)
 (hf : Fits P t (.slice el) size bytes zero) (hel : Fits P el d sz b2 z2) (hz : z2.cells.size = sz) (hz1 : z2.cells.toList.all Value.oneCell' = true)
 (hx : zF e x = some (.raw (.slice (some ⟨b, o, none⟩) q c2))) (ho' : q = 0 ∨ o = off + m * sz) (hm : M[i]? = some (.arr (.slice (some ⟨b, off, none⟩) n cap) sz es)) (hmq : m + q ≤ cap) (hmm : m' ≤ m) (hme : m' ≤ es.length)
 (hk : K .junk (M.set i (.arr (.slice (some ⟨b, off, none⟩) m' cap) sz (es.take m')))) : EOp P e M ⟨dst, .call ⟨.builtin .clear, #[x], #[t]⟩, ty, pos, af, g⟩ K :=
 EOp.of_run fun I F a w ho hs => by
  have h1 := (ho.one (x := x) (by simp [Op.operands, Call.operands]) hx).raw_inv
  have hp := hs.pull hm
  obtain ⟨_, rc, el', fr, h2, h3, h4, h5, h6, h7⟩ := zgH hp
  have hrun : (execOp a.eval ⟨dst, .call ⟨.builtin .clear, #[x], #[t]⟩, ty, pos, af, g⟩).run P w = ((Builtin.clear_ #[t] ty #[a.eval x]).run P w).andThen fun v w => .ok (.value v) w := by
   simp [execOp, resolve, invoke, builtin]
  rcases Nat.eq_zero_or_pos q with h0 | h0
  ·refine ⟨.tuple #[], .junk, _, w, I, ?_, .refl I, hk, .junk _, ?_⟩
   ·rw [hrun, h1, h0]
    simp [Builtin.clear_, run_underlying hf.slice]
   ·exact Sat.unpull hm (hp.arr_take hme)
  ·have hso : o = off + m * sz := by rcases ho' with h | h; omega; exact h
   have hmul : (m + q) * sz ≤ cap * sz := Nat.mul_le_mul_right _ hmq
   rw [Nat.add_mul] at hmul
   have hlen : (Builtin.zeroCells z2.cells q).toList.length = q * sz := by rw [Array.length_toList, zhp, hz]
   have hone : ∀ v ∈ (Builtin.zeroCells z2.cells q).toList, v.oneCell' = true := fun v hv => by
    simp only [Builtin.zeroCells, Array.toList_map, List.mem_map] at hv
    obtain ⟨r, hr, rfl⟩ := hv
    have hq' : r < q * z2.cells.size := by simpa using hr
    have hpos : 0 < z2.cells.size := by
     rcases Nat.eq_zero_or_pos z2.cells.size with h | h
     ·rw [h] at hq'; simp at hq'
     ·exact h
    have hlt : r % z2.cells.size < z2.cells.size := Nat.mod_lt _ hpos
    rw [getElem!_pos z2.cells _ hlt]
    exact List.all_eq_true.1 hz1 _ (by simp)
   obtain ⟨w', rc', g1, g2, g3, g4, g5, g6, g7, g8, g9⟩ := zdz (P := P) b el' fr (off + m * sz) (Builtin.zeroCells z2.cells q).toList 0 w rc h2 h3 hone (by rw [hlen]; omega)
   refine ⟨.tuple #[], .junk, _, w', I, ?_, .refl I, hk, .junk _, ?_⟩
   ·rw [hrun, h1, hso]
    obtain ⟨r, rfl⟩ : ∃ r, q = r + 1 := ⟨q - 1, by omega⟩
    simp [Builtin.clear_, run_underlying hf.slice, hel.run_zero, g1]
   ·refine Sat.unpull hm (hp.change (m' := .arr (.slice (some ⟨b, off, none⟩) m' cap) sz (es.take m')) (fun k hk hnk => g5 k (by simpa [MObj.blocks] using hnk)) (fun k hk => .inl hk) (by simp [MObj.blocks]) ?_ g7 g8 g9.1 (fun _ => Nat.le_of_eq g9.2.symm))
    have hl : (es.take m').length = m' := by simp; omega
    refine .inr ⟨b, off, cap, rc', el', fr, by rw [hl], g2, by rw [g3]; exact h3, fun e he => h4 e (List.mem_of_mem_take he), by omega, by rw [g3]; exact h6, fun p q' y c v a1 a2 a3 => ?_⟩
    have hi := zN a1
    rw [List.getElem?_take_of_lt (by omega)] at a1
    have hq := zN a2
    rw [h4 y (List.mem_of_getElem? a1)] at hq
    have hpm : (p + 1) * sz ≤ m * sz := Nat.mul_le_mul_right _ (by omega)
    rw [Nat.add_mul] at hpm
    rw [g4, if_neg (by omega)] at a3
    exact h7 p q' y c v a1 a2 a3
theorem zoX [Tracks] {I : Imm} {a : Act} {o : Oper} (ho : Opds I e a o) {lo hi : Option Operand} (hlo : ∀ x, lo = some x → x ∈ o.op.operands) (hhi : ∀ x, hi = some x → x ∈ o.op.operands)
 {len cap l h : Nat} (h1 : zbF e lo 0 l) (h2 : zbF e hi len h) (h3 : l ≤ h) (h4 : h ≤ cap) (b : Bool) (w : World) :
 (Instr.sliceBounds b len cap (lo.map a.eval) (hi.map a.eval) none).run P w = .ok (l, h, cap) w := by
 unfold Instr.sliceBounds
 cases lo with
 | none =>
   simp only [zbF] at h1
   subst h1
   cases hi with
   | none => simp only [zbF] at h2; subst h2; simp
   | some y =>
     obtain ⟨k, i, h6, rfl⟩ := h2
     have h7 := (ho.one (hhi y rfl) h6).int_inv
     simp [h7, zb6 h4]
 | some x =>
   obtain ⟨k', i', h8, rfl⟩ := h1
   have h9 := (ho.one (hlo x rfl) h8).int_inv
   cases hi with
   | none => simp only [zbF] at h2; subst h2; simp [h9, zb6 h3]
   | some y =>
     obtain ⟨k, i, h6, rfl⟩ := h2
     have h7 := (ho.one (hhi y rfl) h6).int_inv
     simp [h7, h9, zb6 h4, zb6 h3]
/-- A slice whose header is known is cut, within its capacity. -/
theorem zpS [Tracks] {x : Operand} {lo hi : Option Operand} {t el : TypeId} {size bytes sz b2 : Nat} {zero z2 : Value} {d : TD} {b off n cap l h : Nat}
 (hf : Fits P t (.slice el) size bytes zero) (hel : Fits P el d sz b2 z2) (hx : zF e x = some (.raw (.slice (some ⟨b, off, none⟩) n cap))) (hlo : zbF e lo 0 l) (hhi : zbF e hi n h) (h1 : l ≤ h) (h2 : h ≤ cap) :
 POp P e ⟨dst, .slice t x lo hi none, ty, pos, af, g⟩ (.raw (.slice (some ⟨b, zg5 cap off sz l, none⟩) (h - l) (cap - l))) :=
 POp.of_val fun I a w ho => by
  have h3 := (ho.one (x := x) (by simp [Op.operands]) hx).raw_inv
  have hb : (Instr.sliceBounds true n cap (Option.map a.eval lo) (Option.map a.eval hi) none).run P w = .ok (l, h, cap) w :=
   zoX (P := P) (e := e) (lo := lo) (hi := hi) (l := l) (h := h) (len := n) (cap := cap) ho (by intro y hy; simp [Op.operands, hy]) (by intro y hy; simp [Op.operands, hy]) hlo hhi h1 h2 true w
  refine ⟨_, ?_, .raw _ rfl⟩
  simp [execOp, Instr.sliceAt, run_underlying hf.slice, h3, Instr.slice, hb, hel.run_sizeOf, zg5]
  try (split <;> simp_all [zc2])
  try omega
/-- s[:h] -/
theorem zqe [Tracks] {x : Operand} {hi : Option Operand} {t el : TypeId} {size bytes sz b2 : Nat} {zero z2 : Value} {d : TD} {b off n cap h : Nat}
 (hf : Fits P t (.slice el) size bytes zero) (hel : Fits P el d sz b2 z2) (hx : zF e x = some (.raw (.slice (some ⟨b, off, none⟩) n cap))) (hhi : zbF e hi n h) (h2 : h ≤ cap) :
 POp P e ⟨dst, .slice t x none hi none, ty, pos, af, g⟩ (.raw (.slice (some ⟨b, off, none⟩) h cap)) := by
 have := zpS (P := P) (dst := dst) (ty := ty) (pos := pos) (af := af) (g := g) (lo := none) (l := 0) hf hel hx rfl hhi (Nat.zero_le _) h2
 have e1 : zg5 cap off sz 0 = off := by unfold zg5; split <;> omega
 rwa [e1, Nat.sub_zero, Nat.sub_zero] at this
end
end
section
variable {P : Program}
open Go.ChangeShapes Go.WideShapes Go.RowKit
theorem zi6 [Tracks] {W W' : World} {J : Imm} {M : List MObj} (hl : Le (zbY W) J) (hs : Sat P J M W') : Below W.heap.size W W' := by
 have hb : ∀ k, k < W.heap.size → W'.heap[k]? = W.heap[k]? := fun k hk => by
  have h1 : W.heap[k]? = some W.heap[k] := by simp [hk]
  rw [h1]
  exact hs.imm _ _ (hl.heap _ _ h1)
 exact {
  os := hs.os.trans hl.os
  tape := hs.tape.trans hl.tape
  output := hs.output.trans hl.output
  size := by
   rcases Nat.eq_zero_or_pos W.heap.size with h | h
   ·omega
   ·have h1 := hb (W.heap.size - 1) (by omega)
    have h2 : W.heap[W.heap.size - 1]? = some (W.heap[W.heap.size - 1]'(by omega)) := by simp
    rw [h2] at h1
    rcases Nat.lt_or_ge (W.heap.size - 1) W'.heap.size with h3 | h3
    ·omega
    ·rw [Array.getElem?_eq_none h3] at h1; cases h1
  block := hb }
theorem zpo [Tracks] {W : World} (ht : TabI P (zbY W)) : Sat P (zbY W) [] W := ⟨fun _ _ h => h, fun _ h => by simp at h, by simp [blocks], fun _ h => by simp [blocks] at h, rfl, rfl, rfl, ht, fun _ => Nat.le_refl _⟩
theorem znU [Tracks] {P : Program} {f : FuncId} {l : List Int} (hc : ConP P f [.slice 1 (l.map (.int .i64))] (.bool true)) {W : World} (ht : TabI P (zbY W)) {v : Value} (hv : V (zbY W) (.slice 1 (l.map (.int .i64))) v) :
 Calls P f #[v] W fun e W' => e = .returned (.bool true) ∧ Below W.heap.size W W' := by
 refine (hc (zbY W) [] W [v] (VL.cons hv VL.nil) (zpo ht)).mono ?_
 rintro e W' ⟨u, h, M', J, rfl, hle, ⟨rfl, rfl⟩, hV, hs⟩
 exact ⟨by rw [hV.bool_inv], zi6 hle hs⟩
theorem zua [Tracks] {W : World} {a : Addr} {len cap : Nat} {zs : List Int} (hcell : ∀ i, i < zs.length → W.cell? (a.add i) = some (.int .i64 (zs.getD i 0))) (hl : len ≤ zs.length) (hc : len ≤ cap) :
 V (zbY W) (.slice 1 ((zs.take len).map (.int .i64))) (.slice (some a) len cap) := by
 rcases Nat.eq_zero_or_pos len with h0 | h0
 ·subst h0; exact .slice0 _ _ _
 ·obtain ⟨b, off, rfl, hj⟩ := ints_at hcell (by omega)
  have hc0 := hj 0 (by omega)
  unfold World.cell? at hc0
  cases hh : W.heap[b]? with
  | none => rw [hh] at hc0; simp at hc0
  | some o =>
    cases o with
    | cells rc el fr =>
      have hrc : ∀ j, j < zs.length → rc[off + j]? = some (.int .i64 (zs.getD j 0)) := fun j hj' => by
       have := hj j hj'
       unfold World.cell? at this
       simpa [hh] using this
      have hlen : ((zs.take len).map (HVal.int .i64)).length = len := by simp; omega
      have hsz : off + zs.length ≤ rc.size := by
       have := hrc (zs.length - 1) (by omega)
       rcases Nat.lt_or_ge (off + (zs.length - 1)) rc.size with h3 | h3
       ·omega
       ·rw [Array.getElem?_eq_none h3] at this; cases this
      have := V.slice (I := zbY W) (sz := 1) (es := (zs.take len).map (.int .i64)) (b := b) (off := off) (cap := cap) (rc := rc) (el := el) (fr := fr) hh
       (fun e he => by obtain ⟨n, _, rfl⟩ := List.mem_map.1 he; rfl) (by omega) (by omega) (fun i j e c v h1 h2 h3 => by
         have hi := zN h1
         rw [hlen] at hi
         rw [List.getElem?_map, List.getElem?_take_of_lt hi] at h1
         have e1 : zs[i]? = some zs[i] := List.getElem?_eq_getElem (by omega)
         rw [e1] at h1
         simp only [Option.map_some, Option.some.injEq] at h1
         subst h1
         cases j with
         | succ j => simp [zn] at h2
         | zero =>
           simp only [zn, List.getElem?_cons_zero, Option.some.injEq] at h2
           subst h2
           have h4 := hrc i (by omega)
           rw [Nat.mul_one, Nat.add_zero, h4] at h3
           simp only [Option.some.injEq] at h3
           subst h3
           have : zs.getD i 0 = zs[i] := by simp [List.getD, e1]
           rw [this]
           exact .int _ _)
      rw [hlen] at this
      exact this
    | _ => rw [hh] at hc0; simp at hc0
end
section
open Go.Sort Go.Proofs Go.RowKit
variable {P : Program}
theorem zo8 {w : World} {name : String} {d : DataW Unit} : ∀ {laid : List (String × DataW Unit)} {ps : List MemPlace}, DataW.LaidVars P w laid ps → ∀ (i : Nat), laid[i]? = some (name, d) →
 ∃ g t cs fuel p, P.globalNamed name = some g ∧ (P.globals[g]?).map (·.type) = some t ∧ w.var? P name = some cs ∧ DataW.trod (fun _ => ()) P w 0 (fun _ => true) false fuel t cs.toList = some (d, p)
 | [], _, _, i, h => by simp at h
 | (n, x) :: r, ps, h, 0, hi => by
   simp at hi
   obtain ⟨rfl, rfl⟩ := hi
   obtain ⟨g, t, cs, fuel, p, q, h1, h2, h3, h4, _, _⟩ := h
   exact ⟨g, t, cs, fuel, p, h1, h2, h3, h4⟩
 | (n, x) :: r, ps, h, i + 1, hi => by
   obtain ⟨g, t, cs, fuel, p, q, _, _, _, _, h5, _⟩ := h
   exact zo8 h5 i (by simpa using hi)
theorem znO [Tracks] {W : World} {laid : List (String × DataW Unit)} {i g : Nat} {t e : TypeId} {n : Nat} (h : laidMet P laid W) (hi : laid[i]? = some ("internal/strconv.uint64pow10", Lib.tabData .u64 Lib.pow10Tab))
 (hg : P.globalNamed "internal/strconv.uint64pow10" = some g) (hty : (P.globals[g]?).map (·.type) = some t) (ht : P.underlying t = some (.array n e)) (he : P.underlying e = some (.int .u64)) (hce : P.cellsOf e = 1) (hct : P.cellsOf t = n)
 (hl : ∀ g, P.globalNamed "internal/bytealg.MaxLen" = some g → ∃ m, W.cell? ⟨g, 0, none⟩ = some (.int .i64 m)) : TabI P (zbY W) := by
 refine ⟨?_, fun g hg => ?_⟩
 rotate_left
 ·obtain ⟨m, hm⟩ := hl g hg
  unfold World.cell? at hm
  cases hh : W.heap[g]? with
  | none => rw [hh] at hm; cases hm
  | some o =>
    rw [hh] at hm
    cases o with
    | cells c t fr => exact ⟨c, t, fr, m, hh, by simpa using hm⟩
    | _ => cases hm
 obtain ⟨ps, h1, _⟩ := h
 obtain ⟨g', t', cs, fuel, p, a1, a2, a3, a4⟩ := zo8 h1 i hi
 obtain rfl := Option.some.inj (hg.symm.trans a1)
 obtain rfl := Option.some.inj (hty.symm.trans a2)
 intro g' hg'
 obtain rfl := Option.some.inj (hg.symm.trans hg')
 have hc := Lib.cells_of_tab ht he hce hct a4
 have hv := a3
 unfold World.var? at hv
 rw [hg] at hv
 simp only [Option.bind_some] at hv
 cases hh : W.heap[g]? with
 | none => rw [hh] at hv; cases hv
 | some o =>
   cases o with
   | cells c ty fr =>
     rw [hh] at hv
     simp only [Option.some.injEq] at hv
     subst hv
     refine ⟨ty, fr, ?_⟩
     show W.heap[g]? = _
     rw [hh, ← hc]
   | _ => rw [hh] at hv; cases hv
theorem Sat.lt [Tracks] {I : Imm} {M : List MObj} {w : World} (hs : Sat P I M w) : (∀ b, (∃ o, I.heap b = some o) → b < w.heap.size) ∧ ∀ b ∈ blocks M, b < w.heap.size := by
 have key : ∀ b o, w.heap[b]? = some o → b < w.heap.size := fun b o h => by
  rcases Nat.lt_or_ge b w.heap.size with h' | h'
  ·exact h'
  ·simp [Array.getElem?_eq_none h'] at h
 refine ⟨fun b ⟨o, h⟩ => key b o (hs.imm b o h), fun b hb => ?_⟩
 simp only [blocks, List.mem_flatMap] at hb
 obtain ⟨m, hm, hb⟩ := hb
 obtain ⟨o, ho⟩ := (hs.obj m hm).lies hb
 exact key b o ho
end
section
section
variable {P : Program} {e : Env} {dst : Option Tmp} {ty : TypeId} {pos : String} {af : Array Edge} {g : Option (Nat × Bool)} {M : List MObj} {K : HVal → List MObj → Prop}
end
end
section
section
variable {P : Program} {e : Env} {dst : Option Tmp} {ty : TypeId} {pos : String} {af : Array Edge} {g : Option (Nat × Bool)} {M : List MObj} {K : HVal → List MObj → Prop}
theorem V.tup2 [Tracks] {I : Imm} {c d : HVal} {u v : Value} (h1 : V I c u) (h2 : V I d v) : V I (.tup [c, d]) (.tuple #[u, v]) :=
 .tup (by simp) (fun j c v h3 h4 => (VL.cons h1 (VL.cons h2 VL.nil)).2 j c v h3 (by simpa using h4))
theorem zoY [Tracks] {x y : Operand} {t kt et : TypeId} {size bytes s2 b2 s3 b3 : Nat} {zero z2 z3 : Value} {d : TD} {i b : Nat} {ls : List (List UInt8 × HVal)} {s : List UInt8}
 (hf : Fits P t (.map kt et) size bytes zero) (hkt : Fits P kt .str s2 b2 z2) (het : Fits P et d s3 b3 z3) (hx : zF e x = some (.raw (.map (some b)))) (hy : zF e y = some (.str s)) (hm : M[i]? = some (.map b (sk ls)))
 (hk : K (.tup [match zav s ls with | some p => p.2 | none => zbV z3, .bool (zav s ls).isSome]) M) : EOp P e M ⟨dst, .lookup t x y true, ty, pos, af, g⟩ K :=
 EOp.of_run fun I F a w ho hs => by
  have h1 := (ho.one (x := x) (by simp [Op.operands]) hx).raw_inv
  have h2 := (ho.one (x := y) (by simp [Op.operands]) hy).str_inv
  obtain ⟨es, clk, h3, h4, h5⟩ := hs.obj _ (List.mem_append_left _ (List.mem_of_getElem? hm))
  obtain ⟨h6, h7⟩ := zfe h4.1 h5
  obtain ⟨n1, n2⟩ := zfQ (I := I) (s := s) es.toList ls 0 h6 h7
  cases hq : zav s ls with
  | none =>
    rw [hq] at hk
    refine ⟨.tuple #[z3, .bool false], _, M, w, I, ?_, .refl I, hk, V.tup2 (zdY I z3) (.bool _), hs⟩
    simp only [execOp, h1, h2, Instr.lookup, Sem.run_bind, run_underlying hf.mapD, Result.andThen_ok, za5 h3, Sem.run_pure, zb8 hkt.strD, Instr.findKey, run_underlying hkt.strD, n1 hq, het.run_zero]
    simp
  | some p =>
    obtain ⟨j, h⟩ := p
    rw [hq] at hk
    obtain ⟨v, g1, g2⟩ := n2 j h hq
    refine ⟨.tuple #[v, .bool true], _, M, w, I, ?_, .refl I, hk, V.tup2 g2 (.bool _), hs⟩
    simp only [execOp, h1, h2, Instr.lookup, Sem.run_bind, run_underlying hf.mapD, Result.andThen_ok, za5 h3, Sem.run_pure, zb8 hkt.strD, Instr.findKey, run_underlying hkt.strD, g1]
    simp
end
section
variable {P : Program}
end
end
section
section
variable {κ : Type} [DecidableEq κ]
def kk (ek : κ → HVal) (l : List (κ × HVal)) : List (HVal × HVal) := l.map fun p => (ek p.1, p.2)
def zbP (x : κ) : List (κ × HVal) → Option Nat
 | [] => none
 | p :: r => if x = p.1 then some 0 else (zbP x r).map (· + 1)
def klk (x : κ) : List (κ × HVal) → Option HVal
 | [] => none
 | p :: r => if x = p.1 then some p.2 else klk x r
def zc5 (x : κ) (h : HVal) : List (κ × HVal) → List (κ × HVal)
 | [] => [(x, h)]
 | p :: r => if x = p.1 then (x, h) :: r else p :: zc5 x h r
theorem zdn {x : κ} : ∀ {l : List (κ × HVal)} {j : Nat}, zbP x l = some j → ∃ h, l[j]? = some (x, h) ∧ klk x l = some h ∧ ∀ h', zc5 x h' l = l.set j (x, h')
 | [], j, h => by simp [zbP] at h
 | p :: r, j, h => by
   simp only [zbP] at h
   by_cases e : x = p.1
   ·rw [if_pos e] at h
    simp at h; subst h
    exact ⟨p.2, by simp [e], by simp [klk, e], fun h' => by simp [zc5, e]⟩
   ·rw [if_neg e] at h
    cases hr : zbP x r with
    | none => rw [hr] at h; simp at h
    | some j' =>
      rw [hr] at h; simp at h; subst h
      obtain ⟨y, h1, h2, h3⟩ := zdn hr
      exact ⟨y, by simpa using h1, by simp [klk, e, h2], fun h' => by simp [zc5, e, h3]⟩
theorem zdJ {x : κ} : ∀ {l : List (κ × HVal)}, zbP x l = none → klk x l = none ∧ ∀ h', zc5 x h' l = l ++ [(x, h')]
 | [], _ => ⟨rfl, fun _ => rfl⟩
 | p :: r, h => by
   simp only [zbP] at h
   by_cases e : x = p.1
   ·rw [if_pos e] at h; simp at h
   ·rw [if_neg e] at h
    have hr : zbP x r = none := by cases hq : zbP x r with | none => rfl | some j => rw [hq] at h; simp at h
    obtain ⟨h1, h2⟩ := zdJ hr
    exact ⟨by simp [klk, e, h1], fun h' => by simp [zc5, e, h2]⟩
def KNodup (l : List (κ × HVal)) : Prop := (l.map (·.1)).Nodup
theorem zmw {x y : κ} {h : HVal} : ∀ {l : List (κ × HVal)}, y ∈ (zc5 x h l).map (·.1) ↔ y = x ∨ y ∈ l.map (·.1)
 | [] => by simp [zc5]
 | p :: r => by
   simp only [zc5]
   split
   ·rename_i e; subst e; simp
   ·simp only [List.map_cons, List.mem_cons, zmw]
    constructor
    ·rintro (a | a | a)
     ·exact .inr (.inl a)
     ·exact .inl a
     ·exact .inr (.inr a)
    ·rintro (a | a | a)
     ·exact .inr (.inl a)
     ·exact .inl a
     ·exact .inr (.inr a)
theorem KNodup.put {x : κ} {h : HVal} : ∀ {l : List (κ × HVal)}, KNodup l → KNodup (zc5 x h l)
 | [], _ => by simp [KNodup, zc5]
 | p :: r, hn => by
   unfold KNodup at *
   simp only [List.map_cons, List.nodup_cons] at hn
   simp only [zc5]
   split
   ·rename_i e; subst e; simpa using hn
   ·rename_i e
    simp only [List.map_cons, List.nodup_cons]
    refine ⟨fun q => ?_, KNodup.put (l := r) hn.2⟩
    rcases zmw.1 q with q | q
    ·exact e q.symm
    ·exact hn.1 q
structure KeyOk (P : Program) (kt : TypeId) (ek : κ → HVal) : Prop where
 check : ∀ (I : Imm) (x : κ) (v : Value) (b : Bool) (w : World), V I (ek x) v → (Instr.checkKey b 10000 kt v).run P w = .ok () w
 eq : ∀ (I : Imm) (x y : κ) (u v : Value) (w : World), V I (ek x) u → V I (ek y) v → (Op.equal kt u v).run P w = .ok (decide (x = y)) w
 find : ∀ (I : Imm) (x : κ) (v : Value) (es : List MapEntry) (w : World), V I (ek x) v → (∀ m ∈ es, ∃ y, V I (ek y) m.key) → (Instr.findKey kt v es).run P w = (Instr.findAsking kt v es).run P w
 same : ∀ (I : Imm) (x : κ) (u v : Value), V I (ek x) u → V I (ek x) v → Instr.sameBits 10000 u v = true
variable {P : Program} {kt : TypeId} {ek : κ → HVal}
theorem KeyOk.run_key (ok : KeyOk P kt ek) {I : Imm} {x : κ} {v : Value} (hv : V I (ek x) v) (w : World) (es : List MapEntry) (ls : List (κ × HVal)) (hl : es.length = ls.length)
 (hV : ∀ (j : Nat) (p : κ × HVal) (m : MapEntry), ls[j]? = some p → es[j]? = some m → V I (ek p.1) m.key ∧ V I p.2 m.val) : (Instr.findKey kt v es).run P w = (Instr.findAsking kt v es).run P w :=
 ok.find I x v es w hv fun m hm => by
  obtain ⟨j, hj⟩ := List.getElem?_of_mem hm
  have h1 := zN hj
  exact ⟨_, (hV j _ m (List.getElem?_eq_getElem (by omega)) hj).1⟩
theorem zfE (ok : KeyOk P kt ek) {I : Imm} {x : κ} {v : Value} (hv : V I (ek x) v) (w : World) : ∀ (es : List MapEntry) (ls : List (κ × HVal)) (i : Nat), es.length = ls.length →
 (∀ (j : Nat) (p : κ × HVal) (m : MapEntry), ls[j]? = some p → es[j]? = some m → V I (ek p.1) m.key ∧ V I p.2 m.val) →
 (zbP x ls = none → (Instr.findAsking kt v es i).run P w = .ok none w) ∧ ∀ j, zbP x ls = some j → ∃ m h, es[j]? = some m ∧ ls[j]? = some (x, h) ∧ V I h m.val ∧ (Instr.findAsking kt v es i).run P w = .ok (some (i + j, m.val)) w
 | [], [], i, _, _ => ⟨fun _ => by simp [Instr.findAsking], fun j h => by simp [zbP] at h⟩
 | [], _ :: _, i, hl, _ => by simp at hl
 | _ :: _, [], i, hl, _ => by simp at hl
 | m :: es, p :: ls, i, hl, hV => by
   obtain ⟨h1, h2⟩ := hV 0 p m rfl rfl
   obtain ⟨ih1, ih2⟩ := zfE ok hv w es ls (i + 1) (by simpa using hl) fun j q n a b => hV (j + 1) q n (by simpa using a) (by simpa using b)
   simp only [Instr.findAsking, Sem.run_bind, ok.eq I x p.1 v m.key w hv h1, Result.andThen_ok, zbP]
   by_cases e : x = p.1
   ·rw [if_pos e]
    simp only [e, decide_true, if_true, Sem.run_pure]
    refine ⟨fun h => by simp at h, fun j h => ?_⟩
    simp at h; subst h
    exact ⟨m, p.2, rfl, by simp, h2, by simp⟩
   ·rw [if_neg e]
    simp only [e, decide_false, Bool.false_eq_true, if_false]
    refine ⟨fun h => ih1 (by cases hq : zbP x ls with | none => rfl | some j => rw [hq] at h; simp at h), fun j h => ?_⟩
    cases hq : zbP x ls with
    | none => rw [hq] at h; simp at h
    | some j' =>
      rw [hq] at h; simp at h; subst h
      obtain ⟨n, y, g1, g2, g3, g4⟩ := ih2 j' hq
      exact ⟨n, y, by simpa using g1, by simpa using g2, g3, by rw [g4]; congr 3; omega⟩
theorem ziO {A : Type} {eA : A → HVal} {I : Imm} {ls : List (A × HVal)} {es : Array MapEntry} (hl : es.size = (kk eA ls).length)
 (hv : ∀ (i : Nat) (p : HVal × HVal) (m : MapEntry), (kk eA ls)[i]? = some p → es[i]? = some m → V I p.1 m.key ∧ V I p.2 m.val) :
 es.toList.length = ls.length ∧ ∀ (j : Nat) (p : A × HVal) (m : MapEntry), ls[j]? = some p → es.toList[j]? = some m → V I (eA p.1) m.key ∧ V I p.2 m.val := by
 refine ⟨by simpa [kk] using hl, fun j p m a b => ?_⟩
 exact hv j (eA p.1, p.2) m (by simp [kk, a]) (by simpa using b)
variable [Tracks] {e : Env} {dst : Option Tmp} {ty : TypeId} {pos : String} {af : Array Edge} {g : Option (Nat × Bool)} {M : List MObj} {K : HVal → List MObj → Prop}
theorem zoT {x y : Operand} {t et : TypeId} {size bytes s3 b3 : Nat} {zero z3 : Value} {d : TD} {i b : Nat} {ls : List (κ × HVal)} {s : κ}
 (hf : Fits P t (.map kt et) size bytes zero) (ok : KeyOk P kt ek) (het : Fits P et d s3 b3 z3) (hx : zF e x = some (.raw (.map (some b)))) (hy : zF e y = some (ek s)) (hm : M[i]? = some (.map b (kk ek ls)))
 (hk : K ((klk s ls).getD (zbV z3)) M) : EOp P e M ⟨dst, .lookup t x y false, ty, pos, af, g⟩ K :=
 EOp.of_run fun I F a w ho hs => by
  have h1 := (ho.one (x := x) (by simp [Op.operands]) hx).raw_inv
  have h2 := ho.one (x := y) (by simp [Op.operands]) hy
  obtain ⟨es, clk, h3, h4, h5⟩ := hs.obj _ (List.mem_append_left _ (List.mem_of_getElem? hm))
  obtain ⟨h6, h7⟩ := ziO h4.1 h5
  obtain ⟨n1, n2⟩ := zfE ok h2 w es.toList ls 0 h6 h7
  have hfk := ok.run_key h2 w es.toList ls h6 h7
  cases hq : zbP s ls with
  | none =>
    rw [(zdJ hq).1] at hk
    refine ⟨z3, _, M, w, I, ?_, .refl I, hk, zdY I z3, hs⟩
    simp only [execOp, h1, Instr.lookup, Sem.run_bind, run_underlying hf.mapD, Result.andThen_ok, za5 h3, Sem.run_pure, ok.check I s _ _ w h2, hfk, n1 hq, het.run_zero]
    simp
  | some j =>
    obtain ⟨m, h, g1, g2, g3, g4⟩ := n2 j hq
    obtain ⟨h', g5, g6, _⟩ := zdn hq
    rw [g5] at g2; cases g2
    rw [g6] at hk
    refine ⟨m.val, _, M, w, I, ?_, .refl I, hk, g3, hs⟩
    simp only [execOp, h1, Instr.lookup, Sem.run_bind, run_underlying hf.mapD, Result.andThen_ok, za5 h3, Sem.run_pure, ok.check I s _ _ w h2, hfk, g4]
    simp
theorem znY {x y : Operand} {t et : TypeId} {size bytes s3 b3 : Nat} {zero z3 : Value} {d : TD} {i b : Nat} {ls : List (κ × HVal)} {s : κ}
 (hf : Fits P t (.map kt et) size bytes zero) (ok : KeyOk P kt ek) (het : Fits P et d s3 b3 z3) (hx : zF e x = some (.raw (.map (some b)))) (hy : zF e y = some (ek s)) (hm : M[i]? = some (.map b (kk ek ls)))
 (hk : K (.tup [(klk s ls).getD (zbV z3), .bool (klk s ls).isSome]) M) : EOp P e M ⟨dst, .lookup t x y true, ty, pos, af, g⟩ K :=
 EOp.of_run fun I F a w ho hs => by
  have h1 := (ho.one (x := x) (by simp [Op.operands]) hx).raw_inv
  have h2 := ho.one (x := y) (by simp [Op.operands]) hy
  obtain ⟨es, clk, h3, h4, h5⟩ := hs.obj _ (List.mem_append_left _ (List.mem_of_getElem? hm))
  obtain ⟨h6, h7⟩ := ziO h4.1 h5
  obtain ⟨n1, n2⟩ := zfE ok h2 w es.toList ls 0 h6 h7
  have hfk := ok.run_key h2 w es.toList ls h6 h7
  cases hq : zbP s ls with
  | none =>
    rw [(zdJ hq).1] at hk
    refine ⟨.tuple #[z3, .bool false], _, M, w, I, ?_, .refl I, hk, V.tup2 (zdY I z3) (.bool _), hs⟩
    simp only [execOp, h1, Instr.lookup, Sem.run_bind, run_underlying hf.mapD, Result.andThen_ok, za5 h3, Sem.run_pure, ok.check I s _ _ w h2, hfk, n1 hq, het.run_zero]
    simp
  | some j =>
    obtain ⟨m, h, g1, g2, g3, g4⟩ := n2 j hq
    obtain ⟨h', g5, g6, _⟩ := zdn hq
    rw [g5] at g2; cases g2
    rw [g6] at hk
    refine ⟨.tuple #[m.val, .bool true], _, M, w, I, ?_, .refl I, hk, V.tup2 g3 (.bool _), hs⟩
    simp only [execOp, h1, Instr.lookup, Sem.run_bind, run_underlying hf.mapD, Result.andThen_ok, za5 h3, Sem.run_pure, ok.check I s _ _ w h2, hfk, g4]
    simp
theorem zoM {x y z : Operand} {t et : TypeId} {size bytes : Nat} {zero : Value} {i b : Nat} {ls : List (κ × HVal)} {s : κ} {h : HVal}
 (hf : Fits P t (.map kt et) size bytes zero) (ok : KeyOk P kt ek) (hx : zF e x = some (.raw (.map (some b)))) (hy : zF e y = some (ek s)) (hz : zF e z = some h) (hm : M[i]? = some (.map b (kk ek ls)))
 (hk : K .junk (M.set i (.map b (kk ek (zc5 s h ls))))) : EOp P e M ⟨dst, .mapUpdate t x y z, ty, pos, af, g⟩ K :=
 EOp.of_skip fun I F a w ho hs => by
  have h1 := (ho.one (x := x) (by simp [Op.operands]) hx).raw_inv
  have h2 := ho.one (x := y) (by simp [Op.operands]) hy
  have h0 := ho.one (x := z) (by simp [Op.operands]) hz
  have hp := hs.pull hm
  obtain ⟨es, clk, h3, h4, h5⟩ := hp.obj _ List.mem_cons_self
  obtain ⟨h6, h7⟩ := ziO h4.1 h5
  obtain ⟨n1, n2⟩ := zfE ok h2 w es.toList ls 0 h6 h7
  have hfk := ok.run_key h2 w es.toList ls h6 h7
  have hlt : b < w.heap.size := by
   rcases Nat.lt_or_ge b w.heap.size with h' | h'
   ·exact h'
   ·simp [Array.getElem?_eq_none h'] at h3
  have hsz : es.size = ls.length := by simpa using h6
  have fin : ∀ (es' : Array MapEntry) (clk' : Nat), es'.size = (kk ek (zc5 s h ls)).length ∧ BornOk es' clk' →
   (∀ (i : Nat) (p : HVal × HVal) (m : MapEntry), (kk ek (zc5 s h ls))[i]? = some p → es'[i]? = some m → V I p.1 m.key ∧ V I p.2 m.val) →
   Sat P I (M.set i (.map b (kk ek (zc5 s h ls))) ++ F) { w with heap := w.heap.setIfInBounds b (.map es' clk') } := fun es' clk' e1 e2 => by
   refine Sat.unpull hm (hp.change (m' := .map b (kk ek (zc5 s h ls))) (fun k hk hnk => ?_) (fun k hk => .inl hk) (by simp [MObj.blocks]) ⟨es', clk', by simp [hlt], e1, e2⟩ rfl rfl rfl)
   have : k ≠ b := by simpa [MObj.blocks] using hnk
   simp [Array.getElem?_setIfInBounds_ne (Ne.symm this)]
  cases hq : zbP s ls with
  | none =>
    have hput := (zdJ hq).2 h
    refine ⟨_, _, I, ?_, .refl I, hk, fin (es.push ⟨a.eval y, a.eval z, clk⟩) (clk + 1) ⟨by rw [hput]; simp [kk, hsz], h4.2.push rfl⟩ fun j p m a1 a2 => ?_⟩
    ·simp only [execOp, h1, Instr.mapUpdate, Sem.run_bind, run_underlying hf.mapD, Result.andThen_ok, za5 h3, ok.check I s _ _ w h2, hfk, n1 hq, Sem.run_pure, zdM h3]
    ·rw [hput] at a1
     simp only [kk, List.map_append, List.map_cons, List.map_nil] at a1
     by_cases hj : j < ls.length
     ·rw [List.getElem?_append_left (by simpa using hj)] at a1
      rw [Array.getElem?_push, if_neg (by omega)] at a2
      exact h5 j p m (by simpa [kk] using a1) a2
     ·rw [List.getElem?_append_right (by simp; omega)] at a1
      rw [Array.getElem?_push] at a2
      by_cases hje : j = es.size
      ·rw [if_pos hje] at a2
       simp at a2
       subst a2
       have : j - (ls.map fun p => (ek p.1, p.2)).length = 0 := by simp; omega
       rw [this] at a1
       simp at a1
       subst a1
       exact ⟨h2, h0⟩
      ·rw [if_neg hje, Array.getElem?_eq_none (by omega)] at a2
       cases a2
  | some j0 =>
    obtain ⟨m0, h', g1, g2, g3, g4⟩ := n2 j0 hq
    obtain ⟨_, _, _, hput⟩ := zdn hq
    have hm0 : es[j0]? = some m0 := by simpa using g1
    have hjl := zN g2
    have hkey := (h7 j0 (s, h') m0 g2 g1).1
    refine ⟨_, _, I, ?_, .refl I, hk, fin (es.modify j0 fun e => { e with key := a.eval y, val := a.eval z }) clk ⟨by rw [hput]; simp [kk, hsz], h4.2.modify _ fun _ => rfl⟩ fun j p m a1 a2 => ?_⟩
    ·have hstay : (Instr.keyThatStays (((es[j0]?).map (·.key)).getD (a.eval y)) (a.eval y)).run P w = .ok (a.eval y) w := by
      rw [hm0]
      simp only [Option.map_some, Option.getD_some, Instr.keyThatStays]
      rw [if_pos (ok.same I s _ _ hkey h2)]; rfl
     simp only [execOp, h1, Instr.mapUpdate, Sem.run_bind, run_underlying hf.mapD, Result.andThen_ok, za5 h3, ok.check I s _ _ w h2, hfk, g4, Sem.run_pure, Nat.zero_add, hstay, zdM h3]
    ·rw [hput] at a1
     simp only [kk] at a1
     rw [Array.getElem?_modify] at a2
     rw [List.getElem?_map, List.getElem?_set] at a1
     by_cases hj : j0 = j
     ·subst hj
      rw [if_pos rfl, hm0] at a2
      rw [if_pos rfl, if_pos hjl] at a1
      simp at a1 a2
      subst a1 a2
      exact ⟨h2, h0⟩
     ·rw [if_neg hj] at a1 a2
      exact h5 j p m (by simp only [kk, List.getElem?_map]; exact a1) a2
end
end
section
def ziX : List HVal → Bool
 | [] => true
 | .int _ _ :: r => ziX r
 | .str _ :: r => ziX r
 | .bool _ :: r => ziX r
 | _ => false
theorem znA : ∀ {cs : List HVal} {j : Nat} {c : HVal}, ziX cs = true → cs[j]? = some c → (∃ k n, c = .int k n) ∨ (∃ s, c = .str s) ∨ ∃ b, c = .bool b
 | [], j, c, _, h => by simp at h
 | x :: r, 0, c, hs, h => by
   simp at h; subst h
   cases x <;> simp [ziX] at hs
   ·exact .inr (.inr ⟨_, rfl⟩)
   ·exact .inl ⟨_, _, rfl⟩
   ·exact .inr (.inl ⟨_, rfl⟩)
 | x :: r, j + 1, c, hs, h => by
   simp at h
   cases x <;> simp [ziX] at hs <;> exact znA hs h
theorem zrh {I : Imm} {cs : List HVal} {xs ys : List Value} (hs : ziX cs = true) (hx : VL I cs xs) (hy : VL I cs ys) : xs = ys ∧ ∀ v ∈ xs, ∀ n, Instr.sameBits n v v = true := by
 have key : ∀ (j : Nat) (u v : Value), xs[j]? = some u → ys[j]? = some v → u = v ∧ ∀ n, Instr.sameBits n u u = true := fun j u v h1 h2 => by
  have hj : j < cs.length := by rw [← hx.1]; exact zN h1
  have hc := List.getElem?_eq_getElem hj
  have hu := hx.2 j _ u hc h1
  have hv := hy.2 j _ v hc h2
  rcases znA hs hc with ⟨k, n, e⟩ | ⟨s, e⟩ | ⟨b, e⟩
  ·rw [e] at hu hv
   haveI : Tracks := ⟨true⟩
   rw [hu.int_inv, hv.int_inv]; exact ⟨rfl, fun m => by cases m <;> simp [Instr.sameBits]⟩
  ·rw [e] at hu hv
   haveI : Tracks := ⟨true⟩
   rw [hu.str_inv, hv.str_inv]; exact ⟨rfl, fun m => by cases m <;> simp [Instr.sameBits, ziT]⟩
  ·rw [e] at hu hv
   haveI : Tracks := ⟨true⟩
   rw [hu.bool_inv, hv.bool_inv]; exact ⟨rfl, fun m => by cases m <;> simp [Instr.sameBits]⟩
 have hl : xs.length = ys.length := by rw [hx.1, hy.1]
 refine ⟨List.ext_getElem? fun j => ?_, fun v hv n => ?_⟩
 ·rcases Nat.lt_or_ge j xs.length with h | h
  ·rw [List.getElem?_eq_getElem h, List.getElem?_eq_getElem (by omega)]
   congr 1
   exact (key j _ _ (List.getElem?_eq_getElem h) (List.getElem?_eq_getElem (by omega))).1
  ·rw [List.getElem?_eq_none h, List.getElem?_eq_none (by omega)]
 ·obtain ⟨j, hj⟩ := List.getElem?_of_mem hv
  have hlt := zN hj
  exact (key j v _ hj (List.getElem?_eq_getElem (by omega))).2 n
section
variable {P : Program}
theorem zkI {t : TypeId} {d : TD} {s by' : Nat} {z : Value} (hf : Fits P t d s by' z) {a : HVal} (hk : zea d a a = true) {I : Imm} {u : Value} (hu : V I a u) (em : Bool) (n : Nat) (w : World) : (Instr.checkKey em (n + 1) t u).run P w = .ok () w := by
 haveI : Tracks := ⟨true⟩
 cases d <;> cases a <;> first | (simp [zea] at hk; done) | skip
 ·rw [hu.bool_inv]; simp [Instr.checkKey, run_underlying hf.boolD]
 ·rw [hu.int_inv]; simp [Instr.checkKey, run_underlying hf.intD]
 ·rw [hu.str_inv]; simp [Instr.checkKey, run_underlying hf.strD]
theorem zlc {I : Imm} {xs : Array Value} {cs : List HVal} (hx : VL I cs xs.toList) (em : Bool) (n : Nat) (w : World) :
 ∀ (fs : List Field) (k : Nat), zjP P (fs.map fun f => (f.offset, f.type)) k (cs.drop k) (cs.drop k) → ∀ f ∈ fs, ∃ a, (part f.type xs f.offset).run P w = .ok a w ∧ (Instr.checkKey em (n + 1) f.type a).run P w = .ok () w
 | [], k, _, f, hf => by simp at hf
 | g :: fs, k, hk, f, hf => by
   haveI : Tracks := ⟨true⟩
   simp only [List.map_cons] at hk
   cases hc : cs.drop k with
   | nil => rw [hc] at hk; exact hk.elim
   | cons a r =>
     rw [hc] at hk
     obtain ⟨h1, ⟨d, s, by', z, h2, h3⟩, h4⟩ := hk
     simp only at h1 h2
     have ha : cs[k]? = some a := by have := congrArg (fun l : List HVal => l[0]?) hc; simpa using this
     have hr : cs.drop (k + 1) = r := by rw [← List.drop_drop (i := 1), hc]; rfl
     rcases List.mem_cons.1 hf with rfl | hf
     ·obtain ⟨u, hu, hu'⟩ := hx.get ha
      exact ⟨u, zkB h2 (ziN h3) (by rw [h1]; simpa using hu) w, zkI h2 h3 hu' em n w⟩
     ·exact zlc hx em n w fs (k + 1) (by rw [hr]; exact h4) f hf
theorem zjv {κ : Type} [DecidableEq κ] {kt : TypeId} {fs : List (Nat × Nat)} {s by' : Nat} {z : Value} {cs : κ → List HVal} (hf : Fits P kt (.struct fs) s by' z) (hq : EqOk P kt) (hk : ∀ x y, zjP P fs 0 (cs x) (cs y))
 (he : ∀ x y, zgA (cs x) (cs y) = decide (x = y)) (hs : ∀ x, ziX (cs x) = true) : KeyOk P kt (fun x => .agg (cs x)) := by
 haveI : Tracks := ⟨true⟩
 obtain ⟨gs, h1, h2⟩ := hf.structD
 have hn : ∀ f ∈ gs.toList, f.name ≠ "_" := fun f hf => by
  have := hq.names
  rw [show P.fieldsOf kt = gs by simp [Program.fieldsOf, h1]] at this
  have := List.all_eq_true.1 this f hf; simpa using this
 refine ⟨fun I x v b w hv => ?_, fun I x y u v w hu hv => ?_, fun I x v es w hv hes => run_findKey_eq w (by rw [h1]) v es, fun I x u v hu hv => ?_⟩
 ·obtain ⟨xs, rfl, hx⟩ := hv.agg_inv
  have each := zlc (P := P) hx b 9998 w gs.toList 0 (by rw [h2]; exact hk x x)
  rw [show (10000 : Nat) = 9999 + 1 from rfl, Instr.checkKey]
  simp only [Sem.run_bind, run_underlying h1, Result.andThen_ok]
  rw [← Array.forIn_toList]
  clear h1 h2
  generalize gs.toList = L at each hn
  induction L with
  | nil => simp
  | cons f L ih =>
    obtain ⟨a, p1, p2⟩ := each f (by simp)
    have hn1 := hn f (by simp)
    simp only [List.forIn_cons, Sem.run_bind, hn1, ne_eq, not_false_eq_true, if_true, Result.andThen_ok, p1, p2, Sem.run_pure]
    exact ih (fun y hy => each y (by simp [hy])) (fun y hy => hn y (by simp [hy]))
 ·obtain ⟨xs, rfl, hx⟩ := hu.agg_inv
  obtain ⟨ys, rfl, hy⟩ := hv.agg_inv
  rw [zgN hf hq hx hy (hk x y) w, he]
 ·obtain ⟨xs, rfl, hx⟩ := hu.agg_inv
  obtain ⟨ys, rfl, hy⟩ := hv.agg_inv
  obtain ⟨e1, e2⟩ := zrh (hs x) hx hy
  have e3 : xs = ys := by have := congrArg List.toArray e1; simpa using this
  subst e3
  show Instr.sameBits (9999 + 1) _ _ = true
  simp only [Instr.sameBits, beq_self_eq_true, Bool.true_and, List.all_eq_true]
  intro p hp
  have h9 : ∀ (l : List Value) (p : Value × Value), p ∈ l.zip l → p.1 ∈ l ∧ p.1 = p.2 := fun l => by
   induction l with
   | nil => intro p hp; simp at hp
   | cons a l ih =>
     intro p hp
     simp only [List.zip_cons_cons, List.mem_cons] at hp
     rcases hp with rfl | hp
     ·exact ⟨by simp, rfl⟩
     ·exact ⟨by simp [(ih p hp).1], (ih p hp).2⟩
  obtain ⟨q1, q2⟩ := h9 _ p hp
  obtain ⟨u, v⟩ := p
  simp only at q1 q2
  subst q2
  exact e2 u q1 9999
end
/-! ranges -/
theorem ziI {α : Type} [DecidableEq α] : ∀ {l m : List α}, l.Nodup → (∀ x ∈ l, x ∈ m) → l.length ≤ m.length
 | [], _, _, _ => Nat.zero_le _
 | a :: l, m, h, hs => by
   have ha := hs a List.mem_cons_self
   obtain ⟨h1, h2⟩ := List.nodup_cons.1 h
   have h3 := ziI (m := m.erase a) h2 fun x hx => (List.mem_erase_of_ne (fun e : x = a => h1 (by rw [← e]; exact hx))).2 (hs x (List.mem_cons_of_mem _ hx))
   rw [List.length_erase_of_mem ha] at h3
   have := List.length_pos_of_mem ha
   simp; omega
section
variable {P : Program} {e : Env} {dst : Option Tmp} {ty : TypeId} {pos : String} {af : Array Edge} {g : Option (Nat × Bool)} {M : List MObj} {K : HVal → List MObj → Prop}
theorem zmq [Tracks] {x : Operand} {t kt et : TypeId} {size bytes : Nat} {zero : Value} {i b : Nat} {l : List (HVal × HVal)} (hf : Fits P t (.map kt et) size bytes zero) (hx : zF e x = some (.raw (.map (some b)))) (hm : M[i]? = some (.map b l))
 (hk : ∀ r, K (.raw (.pointer (some ⟨r, 0, none⟩))) (M.set i (.iter r b l []))) : EOp P e M ⟨dst, .range t x, ty, pos, af, g⟩ K :=
 EOp.of_run fun I F a w ho hs => by
  have h1 := (ho.one (x := x) (by simp [Op.operands]) hx).raw_inv
  have hp := hs.pull hm
  obtain ⟨es, clk, h3, h4, h5⟩ := hp.obj _ List.mem_cons_self
  have hlt : b < w.heap.size := by
   rcases Nat.lt_or_ge b w.heap.size with h' | h'
   ·exact h'
   ·simp [Array.getElem?_eq_none h'] at h3
  refine ⟨.pointer (some ⟨w.heap.size, 0, none⟩), _, _, push w (.mapIter (some b) clk #[] clk), I, ?_, .refl I, hk w.heap.size, .raw _ rfl, ?_⟩
  ·simp only [execOp, h1, Instr.range, Sem.run_bind, run_underlying hf.mapD, Result.andThen_ok, za5 h3, Sem.run_pure, run_newObj]
  ·refine Sat.unpull hm (hp.change (m' := .iter w.heap.size b l []) (fun k hk hnk => ?_) (fun k hk => ?_) ?_ ⟨es, clk, #[], ?_, ?_, h4, rfl, h5⟩ rfl rfl rfl)
   ·simp [push, Array.getElem?_push]; intro h; omega
   ·simp [MObj.blocks] at hk ⊢; omega
   ·simp [MObj.blocks]; omega
   ·simp only [push, Array.getElem?_push]; rw [if_neg (by omega)]; exact h3
   ·simp [push]
theorem zrH [Tracks] {x : Operand} {i r b : Nat} {l : List (HVal × HVal)} {vis : List Nat} (hx : zF e x = some (.raw (.pointer (some ⟨r, 0, none⟩)))) (hm : M[i]? = some (.iter r b l vis)) (hv : vis.Nodup) (hvl : ∀ j ∈ vis, j < l.length)
 (h0 : vis.length = l.length → K (.tup [.bool false]) M) (h1 : ∀ (j : Nat) (p : HVal × HVal), l[j]? = some p → j ∉ vis → K (.tup [.bool true, p.1, p.2]) (M.set i (.iter r b l (vis ++ [j])))) : EOp P e M ⟨dst, .next x false, ty, pos, af, g⟩ K :=
 EOp.of_run fun I F a w ho hs => by
  have h2 := (ho.one (x := x) (by simp [Op.operands]) hx).raw_inv
  have hp := hs.pull hm
  obtain ⟨es, clk, seen, a1, a2, a3, a4, a5⟩ := hp.obj _ List.mem_cons_self
  have hgr : ∀ w1 : World, w1.heap = w.heap → (getObj r).run P w1 = .ok (.mapIter (some b) clk seen clk) w1 := fun w1 hw => by simp [getObj, Sem.run, hw, a2]
  have hgb : ∀ w1 : World, w1.heap = w.heap → (getObj b).run P w1 = .ok (.map es clk) w1 := fun w1 hw => by simp [getObj, Sem.run, hw, a1]
  have hin : ∀ (j : Nat) (m : MapEntry), es[j]? = some m → (seen.contains m.born = true ↔ j ∈ vis) := fun j m hj => by
   have e1 : seen.contains m.born = seen.toList.contains m.born := by simp
   rw [e1, a4, List.contains_iff_mem, List.mem_map]
   constructor
   ·rintro ⟨q, hq, e⟩
    have hlt := hvl q hq
    have hq2 : es[q]? = some es[q] := Array.getElem?_eq_getElem (by omega)
    rw [hq2] at e
    simp at e
    have := a3.2.2 q j _ m hq2 hj e
    rw [← this]; exact hq
   ·intro hq
    exact ⟨j, hq, by rw [hj]; simp⟩
  have hbad : (!seen.isEmpty && !es.isEmpty && es.all (fun m => decide (m.born ≥ clk))) = false := by
   by_cases he : es.isEmpty = true
   ·simp [he]
   ·have hpos : 0 < es.size := by
     rcases Nat.eq_zero_or_pos es.size with h | h
     ·simp [Array.isEmpty, h] at he
     ·exact h
    have hb := a3.2.1 0 _ (Array.getElem?_eq_getElem hpos)
    have : es.all (fun m => decide (m.born ≥ clk)) = false := by
     rw [Bool.eq_false_iff]
     intro h
     have := Array.all_eq_true.1 h 0 hpos
     simp at this; omega
    rw [this]; simp
  have hold : (es.filter fun m => !seen.contains m.born).filter (fun m => decide (m.born < clk)) = es.filter fun m => !seen.contains m.born := by
   rw [Array.filter_eq_self]
   intro m hm'
   obtain ⟨j, hj⟩ := Array.getElem?_of_mem (Array.mem_filter.1 hm').1
   simpa using a3.2.1 j m hj
  have hnew : (es.filter fun m => !seen.contains m.born).filter (fun m => decide (m.born ≥ clk)) = #[] := by
   rw [Array.filter_eq_empty_iff]
   intro m hm'
   obtain ⟨j, hj⟩ := Array.getElem?_of_mem (Array.mem_filter.1 hm').1
   have := a3.2.1 j m hj
   simp; omega
  have hrun : (execOp a.eval ⟨dst, .next x false, ty, pos, af, g⟩).run P w = ((Instr.next (.pointer (some ⟨r, 0, none⟩)) false ty).run P w).andThen fun v w => .ok (.value v) w := by
   simp only [execOp, h2, Sem.run_bind]
   rfl
  generalize hL : (es.filter fun m => !seen.contains m.born) = left at hold hnew
  by_cases hemp : left.isEmpty = true
  ·have hfull : vis.length = l.length := by
    apply Nat.le_antisymm
    ·have := ziI (m := List.range l.length) hv fun j hj => List.mem_range.2 (hvl j hj)
     simpa using this
    ·have := ziI (l := List.range l.length) (m := vis) List.nodup_range fun j hj => by
      have hj' := List.mem_range.1 hj
      have hq : es[j]? = some es[j] := Array.getElem?_eq_getElem (by omega)
      rw [← hin j _ hq]
      cases hc : seen.contains es[j].born with
      | true => rfl
      | false =>
        have : es[j] ∈ left := by rw [← hL]; exact Array.mem_filter.2 ⟨Array.getElem_mem _, by rw [hc]; rfl⟩
        have he : left = #[] := Array.isEmpty_iff.1 hemp
        rw [he] at this; simp at this
     simpa using this
   refine ⟨.tuple #[.bool false], .tup [.bool false], M, w, I, ?_, .refl I, h0 hfull, .tup (by simp) (fun j c v h h' => ?_), hs⟩
   ·rw [hrun]
    have he : left = #[] := Array.isEmpty_iff.1 hemp
    simp only [Instr.next, Sem.run_bind, hgr w rfl, hgb w rfl, Result.andThen_ok, hbad, Bool.false_eq_true, if_false, Sem.run_pure, hL, hold, hnew, hemp, if_true, he]
    simp [Question.forced]
   ·match j, h, h' with
    | 0, h, h' => simp at h h'; subst h h'; exact .bool _
  ·have hemp' : left.isEmpty = false := by simpa using hemp
   have hpos : 0 < left.size := by
    rcases Nat.eq_zero_or_pos left.size with h | h
    ·exfalso; apply hemp; simp [Array.isEmpty, h]
    ·exact h
   obtain ⟨c, w1, c1, c2, c3⟩ : ∃ c w1, (choose (.mapNext left.size)).run P w = .ok c w1 ∧ c < left.size ∧ (w1 = w ∨ w1 = { w with drawn := w.drawn + 1 }) := by
    by_cases hf : (Question.mapNext left.size).forced = true
    ·exact ⟨0, w, by simp [hf], hpos, .inl rfl⟩
    ·refine ⟨_, { w with drawn := w.drawn + 1 }, by simp [hf]; rfl, ?_, .inr rfl⟩
     simp only [Question.cut]; exact Nat.mod_lt _ hpos
   have hw1 : w1.heap = w.heap := by rcases c3 with h | h <;> rw [h]
   have hmem : left[c] ∈ left := Array.getElem_mem _
   have hmf : left[c] ∈ es ∧ (!seen.contains left[c].born) = true := by
    have h9 : ∀ m, m ∈ left → m ∈ es ∧ (!seen.contains m.born) = true := fun m hm => by rw [← hL] at hm; exact Array.mem_filter.1 hm
    exact h9 _ hmem
   obtain ⟨j, hj⟩ := Array.getElem?_of_mem hmf.1
   have hnv : j ∉ vis := fun q => by
    have := (hin j _ hj).2 q
    rw [this] at hmf; simp at hmf
   have hjl : j < l.length := by
    have : j < es.size := by
     rcases Nat.lt_or_ge j es.size with h' | h'
     ·exact h'
     ·simp [Array.getElem?_eq_none h'] at hj
    omega
   have hlj := List.getElem?_eq_getElem hjl
   obtain ⟨k1, k2⟩ := a5 j _ _ hlj hj
   refine ⟨.tuple #[.bool true, left[c].key, left[c].val], .tup [.bool true, l[j].1, l[j].2], _, { w1 with heap := w1.heap.setIfInBounds r (.mapIter (some b) clk (seen.push left[c].born) clk) }, I, ?_, .refl I, h1 j _ hlj hnv, ?_, ?_⟩
   ·rw [hrun]
    have hcand : ((#[] : Array (Option MapEntry)) ++ (left ++ #[]).map some).size = left.size := by simp
    have hget : ((#[] : Array (Option MapEntry)) ++ (left ++ #[]).map some)[c]? = some (some left[c]) := by simp [c2]
    simp only [Instr.next, Sem.run_bind, hgr w rfl, hgb w rfl, Result.andThen_ok, hbad, Bool.false_eq_true, if_false, Sem.run_pure, hL, hold, hnew, hemp', hcand, c1, hget]
    simp [setObj, Sem.run, hw1, a2]
   ·refine .tup (by simp) (fun q c v h h' => ?_)
    match q, h, h' with
    | 0, h, h' => simp at h h'; subst h h'; exact .bool _
    | 1, h, h' => simp at h h'; subst h h'; exact k1
    | 2, h, h' => simp at h h'; subst h h'; exact k2
   ·have hrb : r ≠ b := by
     have := hp.nodup
     simp only [blocks, List.flatMap_cons, MObj.blocks] at this
     have := (List.nodup_append.1 this).1
     simp at this; exact this
    have hrl : r < w.heap.size := by
     rcases Nat.lt_or_ge r w.heap.size with h' | h'
     ·exact h'
     ·simp [Array.getElem?_eq_none h'] at a2
    refine Sat.unpull hm (hp.change (m' := .iter r b l (vis ++ [j])) (fun k hk hnk => ?_) (fun k hk => .inl hk) ?_ ⟨es, clk, seen.push left[c].born, ?_, ?_, a3, ?_, a5⟩ (by rcases c3 with h | h <;> rw [h]) (by rcases c3 with h | h <;> rw [h]) (by rcases c3 with h | h <;> rw [h]) (fun _ => by rcases c3 with h | h <;> rw [h]; (exact Nat.le_refl _); exact Nat.le_succ _))
    ·have : k ≠ r := fun q => hnk (by rw [q]; simp [MObj.blocks])
     simp only [hw1]; rw [Array.getElem?_setIfInBounds_ne (Ne.symm this)]
    ·simp [MObj.blocks, hrb]
    ·simp only [hw1]; rw [Array.getElem?_setIfInBounds_ne hrb]; exact a1
    ·simp [hw1, hrl]
    ·simp [a4, hj]
/-- After the last round the map is itself again. -/
theorem Ghost.iterOver [Tracks] {i r b : Nat} {l : List (HVal × HVal)} {vis : List Nat} (hm : M[i]? = some (.iter r b l vis)) : Ghost e M e (M.set i (.map b l)) := fun _ I F tmps w h1 hs => by
 have hp := hs.pull hm
 obtain ⟨es, clk, seen, a1, a2, a3, a4, a5⟩ := hp.obj _ List.mem_cons_self
 exact ⟨I, .refl I, h1, Sat.unpull hm (hp.change (m' := .map b l) (fun _ _ _ => rfl) (fun k hk => .inl (by simp [MObj.blocks] at hk ⊢; exact .inr hk)) (by simp [MObj.blocks]) ⟨es, clk, a1, a3, a5⟩ rfl rfl rfl)⟩
end
end
section
section
variable {P : Program} {e : Env} {dst : Option Tmp} {ty : TypeId} {pos : String} {af : Array Edge} {g : Option (Nat × Bool)} {M : List MObj} {K : HVal → List MObj → Prop}
theorem zrn [Tracks] {x : Operand} {i r b j : Nat} {l : List (HVal × HVal)} {vis : List Nat} {p : HVal × HVal} (hx : zF e x = some (.raw (.pointer (some ⟨r, 0, none⟩)))) (hm : M[i]? = some (.iter r b l (vis ++ [j]))) (hp' : l[j]? = some p)
 (hk : K (.tup [p.1, p.2]) M) : EOp P e M ⟨dst, .entry x, ty, pos, af, g⟩ K :=
 EOp.of_run fun I F a w ho hs => by
  have h2 := (ho.one (x := x) (by simp [Op.operands]) hx).raw_inv
  have hp := hs.pull hm
  obtain ⟨es, clk, seen, a1, a2, a3, a4, a5⟩ := hp.obj _ List.mem_cons_self
  have hjl := zN hp'
  have hj : es[j]? = some es[j] := Array.getElem?_eq_getElem (by omega)
  obtain ⟨k1, k2⟩ := a5 j p _ hp' hj
  have hback : seen.back? = some es[j].born := by
   have : seen = (vis.map fun i => ((es[i]?).map (·.born)).getD 0).toArray.push es[j].born := by
    apply Array.ext'
    rw [a4]; simp [hj]
   rw [this]; simp
  have hfind : es.find? (fun m => m.born == es[j].born) = some es[j] := by
   cases hf : es.find? (fun m => m.born == es[j].born) with
   | none =>
     have := Array.find?_eq_none.1 hf es[j] (Array.getElem_mem _)
     simp at this
   | some m =>
     have h1 := Array.find?_some hf
     have h3 := Array.mem_of_find?_eq_some hf
     obtain ⟨q, hq⟩ := Array.getElem?_of_mem h3
     have := a3.2.2 q j m _ hq hj (by simpa using h1)
     subst this
     rw [hj] at hq; exact hq.symm
  refine ⟨.tuple #[es[j].key, es[j].val], .tup [p.1, p.2], M, w, I, ?_, .refl I, hk, V.tup2 k1 k2, hs⟩
  have hgr : (getObj r).run P w = .ok (.mapIter (some b) clk seen clk) w := by simp [getObj, Sem.run, a2]
  have hgb : (getObj b).run P w = .ok (.map es clk) w := by simp [getObj, Sem.run, a1]
  simp only [execOp, h2, Instr.entry, Sem.run_bind, hgr, Result.andThen_ok, hback, hgb, bne_self_eq_false, Bool.false_eq_true, if_false, hfind, Sem.run_pure]
end
section
variable {κ : Type} [DecidableEq κ]
/-- With an entry for the key. -/
def zdP (s : κ) (z : HVal) (ls : List (κ × HVal)) : List (κ × HVal) := match zbP s ls with | some _ => ls | none => ls ++ [(s, z)]
theorem zgY {s : κ} {z : HVal} : ∀ {ls : List (κ × HVal)}, zbP s ls = none → zbP s (ls ++ [(s, z)]) = some ls.length
 | [], _ => by simp [zbP]
 | p :: r, h => by
   simp only [zbP] at h
   by_cases e : s = p.1
   ·rw [if_pos e] at h; simp at h
   ·rw [if_neg e] at h
    have hr : zbP s r = none := by cases hq : zbP s r with | none => rfl | some j => rw [hq] at h; simp at h
    simp only [List.cons_append, zbP, if_neg e, zgY hr]; simp
theorem zqS (s : κ) (z h : HVal) (ls : List (κ × HVal)) : zc5 s h (zdP s z ls) = zc5 s h ls := by
 unfold zdP
 cases hq : zbP s ls with
 | some j => rfl
 | none =>
   simp only
   rw [(zdn (zgY (z := z) hq)).choose_spec.2.2 h, (zdJ hq).2 h]
   simp
theorem zr9 {s : κ} {z : HVal} (ls : List (κ × HVal)) : (klk s (zdP s z ls)).getD z = (klk s ls).getD z := by
 unfold zdP
 cases hq : zbP s ls with
 | some j => rfl
 | none =>
   obtain ⟨h, h1, h2, _⟩ := zdn (zgY (z := z) hq)
   simp only
   rw [h2, (zdJ hq).1]
   simp at h1; simp [h1]
variable {P : Program} {kt : TypeId} {ek : κ → HVal} {e : Env} {dst : Option Tmp} {ty : TypeId} {pos : String} {af : Array Edge} {g : Option (Nat × Bool)} {M : List MObj} {K : HVal → List MObj → Prop}
theorem znJ [Tracks] {x y : Operand} {t et : TypeId} {size bytes s3 b3 : Nat} {zero z3 : Value} {d : TD} {i b : Nat} {ls : List (κ × HVal)} {s : κ}
 (hf : Fits P t (.map kt et) size bytes zero) (ok : KeyOk P kt ek) (het : Fits P et d s3 b3 z3) (hx : zF e x = some (.raw (.map (some b)))) (hy : zF e y = some (ek s)) (hm : M[i]? = some (.map b (kk ek ls)))
 (hk : ∀ (j st : Nat), zbP s (zdP s (zbV z3) ls) = some j → K (.tup [(klk s ls).getD (zbV z3), .int .i64 (st : Int)]) (M.set i (.mape b (kk ek (zdP s (zbV z3) ls)) j st))) : EOp P e M ⟨dst, .mapEntry t x y, ty, pos, af, g⟩ K :=
 EOp.of_run fun I F a w ho hs => by
  have h1 := (ho.one (x := x) (by simp [Op.operands]) hx).raw_inv
  have h2 := ho.one (x := y) (by simp [Op.operands]) hy
  have hp := hs.pull hm
  obtain ⟨es, clk, h3, h4, h5⟩ := hp.obj _ List.mem_cons_self
  obtain ⟨h6, h7⟩ := ziO h4.1 h5
  obtain ⟨n1, n2⟩ := zfE ok h2 w es.toList ls 0 h6 h7
  have hfk := ok.run_key h2 w es.toList ls h6 h7
  have hlt : b < w.heap.size := by
   rcases Nat.lt_or_ge b w.heap.size with h' | h'
   ·exact h'
   ·simp [Array.getElem?_eq_none h'] at h3
  have hsz : es.size = ls.length := by simpa using h6
  have fin : ∀ (ls' : List (κ × HVal)) (es' : Array MapEntry) (clk' j st : Nat), es'.size = (kk ek ls').length ∧ BornOk es' clk' →
   (∀ (i : Nat) (p : HVal × HVal) (m : MapEntry), (kk ek ls')[i]? = some p → es'[i]? = some m → V I p.1 m.key ∧ V I p.2 m.val) → (∃ m, es'[j]? = some m ∧ m.born = st) →
   Sat P I (M.set i (.mape b (kk ek ls') j st) ++ F) { w with heap := w.heap.setIfInBounds b (.map es' clk') } := fun ls' es' clk' j st e1 e2 e3 => by
   refine Sat.unpull hm (hp.change (m' := .mape b (kk ek ls') j st) (fun k hk hnk => ?_) (fun k hk => .inl hk) (by simp [MObj.blocks]) ⟨es', clk', by simp [hlt], e1, e2, e3⟩ rfl rfl rfl)
   have : k ≠ b := by simpa [MObj.blocks] using hnk
   simp [Array.getElem?_setIfInBounds_ne (Ne.symm this)]
  cases hq : zbP s ls with
  | none =>
    have hke : zdP s (zbV z3) ls = ls ++ [(s, zbV z3)] := by simp [zdP, hq]
    have hki := zgY (z := zbV z3) hq
    have hlk := (zdJ hq).1
    refine ⟨.tuple #[z3, .int .i64 clk], _, _, _, I, ?_, .refl I, hk ls.length clk (by rw [hke]; exact hki), by rw [hlk]; exact V.tup2 (zdY I z3) (.int _ _),
     fin _ (es.push ⟨a.eval y, z3, clk⟩) (clk + 1) _ _ ⟨by rw [hke]; simp [kk, hsz], h4.2.push rfl⟩ (fun j p m a1 a2 => ?_) ⟨⟨a.eval y, z3, clk⟩, by rw [← hsz]; simp, rfl⟩⟩
    ·simp only [execOp, h1, Instr.mapEntry, Sem.run_bind, run_underlying hf.mapD, Result.andThen_ok, za5 h3, ok.check I s _ _ w h2, hfk, n1 hq, Sem.run_pure, zdM h3, het.run_zero, goInt]
    ·rw [hke] at a1
     simp only [kk, List.map_append, List.map_cons, List.map_nil] at a1
     by_cases hj : j < ls.length
     ·rw [List.getElem?_append_left (by simpa using hj)] at a1
      rw [Array.getElem?_push, if_neg (by omega)] at a2
      exact h5 j p m (by simpa [kk] using a1) a2
     ·rw [List.getElem?_append_right (by simp; omega)] at a1
      rw [Array.getElem?_push] at a2
      by_cases hje : j = es.size
      ·rw [if_pos hje] at a2
       simp at a2
       subst a2
       have : j - (ls.map fun p => (ek p.1, p.2)).length = 0 := by simp; omega
       rw [this] at a1
       simp at a1
       subst a1
       exact ⟨h2, zdY I z3⟩
      ·rw [if_neg hje, Array.getElem?_eq_none (by omega)] at a2
       cases a2
  | some j0 =>
    obtain ⟨m0, h', g1, g2, g3, g4⟩ := n2 j0 hq
    obtain ⟨h'', g5, g6, _⟩ := zdn hq
    rw [g5] at g2; cases g2
    have hke : zdP s (zbV z3) ls = ls := by simp [zdP, hq]
    have hm0 : es[j0]? = some m0 := by simpa using g1
    have hkey : V I (ek s) m0.key := (h7 j0 _ m0 g5 g1).1
    refine ⟨.tuple #[m0.val, .int .i64 m0.born], _, _, _, I, ?_, .refl I, hk j0 m0.born (by rw [hke]; exact hq), by rw [g6]; exact V.tup2 g3 (.int _ _),
     fin _ (es.modify j0 fun e => { e with key := a.eval y }) clk _ _ ⟨by rw [hke]; simp [kk, hsz], h4.2.modify _ fun _ => rfl⟩ (fun j p m a1 a2 => ?_) ⟨{ m0 with key := a.eval y }, by rw [Array.getElem?_modify, if_pos rfl, hm0]; rfl, rfl⟩⟩
    ·have hstay : (Instr.keyThatStays m0.key (a.eval y)).run P w = .ok (a.eval y) w := by
      simp only [Instr.keyThatStays]
      rw [if_pos (ok.same I s _ _ hkey h2)]; rfl
     simp only [execOp, h1, Instr.mapEntry, Sem.run_bind, run_underlying hf.mapD, Result.andThen_ok, za5 h3, ok.check I s _ _ w h2, hfk, g4, Sem.run_pure, Nat.zero_add, hstay, zdM h3, goInt, hm0, Option.map_some, Option.getD_some]
    ·rw [hke] at a1
     rw [Array.getElem?_modify] at a2
     by_cases hj : j0 = j
     ·subst hj
      rw [if_pos rfl, hm0] at a2
      simp at a2
      subst a2
      have := h5 j0 p m0 a1 hm0
      simp only [kk, List.getElem?_map, g5, Option.map_some, Option.some.injEq] at a1
      subst a1
      exact ⟨h2, this.2⟩
     ·rw [if_neg hj] at a2
      exact h5 j p m a1 a2
theorem zl0 [Tracks] {x y z : Operand} {t : TypeId} {i b j st : Nat} {ls : List (κ × HVal)} {s : κ} {h : HVal}
 (hx : zF e x = some (.raw (.map (some b)))) (hy : zF e y = some (.int .i64 (st : Int))) (hz : zF e z = some h) (hm : M[i]? = some (.mape b (kk ek ls) j st)) (hj : zbP s ls = some j)
 (hk : K .junk (M.set i (.map b (kk ek (zc5 s h ls))))) : EOp P e M ⟨dst, .entryStore t x y z, ty, pos, af, g⟩ K :=
 EOp.of_skip fun I F a w ho hs => by
  have h1 := (ho.one (x := x) (by simp [Op.operands]) hx).raw_inv
  have h2 := (ho.one (x := y) (by simp [Op.operands]) hy).int_inv
  have h0 := ho.one (x := z) (by simp [Op.operands]) hz
  have hp := hs.pull hm
  obtain ⟨es, clk, h3, h4, h5, m0, h6, h7⟩ := hp.obj _ List.mem_cons_self
  have hlt : b < w.heap.size := by
   rcases Nat.lt_or_ge b w.heap.size with h' | h'
   ·exact h'
   ·simp [Array.getElem?_eq_none h'] at h3
  obtain ⟨h', g1, _, g2⟩ := zdn hj
  have hjl : j < es.size := by
   rcases Nat.lt_or_ge j es.size with h' | h'
   ·exact h'
   ·simp [Array.getElem?_eq_none h'] at h6
  have hfi : es.findIdx? (fun m => (m.born : Int) == (st : Int)) = some j := by
   rw [Array.findIdx?_eq_some_iff_getElem]
   refine ⟨hjl, ?_, fun q hq => ?_⟩
   ·rw [Array.getElem?_eq_getElem hjl] at h6
    have := Option.some.inj h6
    rw [this]; simp [h7]
   ·intro hc
    have hq2 := Array.getElem?_eq_getElem (xs := es) (i := q) (by omega)
    have := h4.2.2 q j _ m0 hq2 h6 (by have h8 : ((es[q].born : Nat) : Int) = (st : Int) := (by simpa using hc); omega)
    omega
  refine ⟨_, { w with heap := w.heap.setIfInBounds b (.map (es.modify j fun e => { e with val := a.eval z }) clk) }, I, ?_, .refl I, hk, ?_⟩
  ·simp only [execOp, h1, h2, Instr.entryStore, Sem.run_bind, za5 h3, Result.andThen_ok, asInt, asIntOf, Sem.run_pure, hfi, zdM h3]
  ·refine Sat.unpull hm (hp.change (m' := .map b (kk ek (zc5 s h ls))) (fun k hk hnk => ?_) (fun k hk => .inl hk) (by simp [MObj.blocks]) ⟨es.modify j fun e => { e with val := a.eval z }, clk, by simp [hlt], ⟨by rw [g2]; simp [kk]; simpa [kk] using h4.1, h4.2.modify _ fun _ => rfl⟩, fun q p m a1 a2 => ?_⟩ rfl rfl rfl)
   ·have : k ≠ b := by simpa [MObj.blocks] using hnk
    simp [Array.getElem?_setIfInBounds_ne (Ne.symm this)]
   ·rw [g2] at a1
    simp only [kk] at a1
    rw [Array.getElem?_modify] at a2
    rw [List.getElem?_map, List.getElem?_set] at a1
    by_cases hjq : j = q
    ·subst hjq
     have hl := zN g1
     rw [if_pos rfl, h6] at a2
     rw [if_pos rfl, if_pos hl] at a1
     simp at a1 a2
     subst a1 a2
     exact ⟨(h5 j (ek s, h') m0 (by simp [kk, g1]) h6).1, h0⟩
    ·rw [if_neg hjq] at a1 a2
     exact h5 q p m (by simp only [kk, List.getElem?_map]; exact a1) a2
end
end
section
section
variable {κ : Type} [DecidableEq κ] {α : Type}
def alk (x : κ) : List (κ × α) → Option α
 | [] => none
 | p :: r => if x = p.1 then some p.2 else alk x r
def zaK (x : κ) (v : α) : List (κ × α) → List (κ × α)
 | [] => [(x, v)]
 | p :: r => if x = p.1 then (x, v) :: r else p :: zaK x v r
abbrev em (f : α → HVal) (L : List (κ × α)) : List (κ × HVal) := L.map fun p => (p.1, f p.2)
theorem zjk (f : α → HVal) (x : κ) : ∀ L : List (κ × α), klk x (em f L) = (alk x L).map f
 | [] => rfl
 | p :: r => by
   have ih := zjk f x r
   simp only [List.map_cons, klk, alk] at ih ⊢
   by_cases h : x = p.1
   ·rw [if_pos h, if_pos h]; rfl
   ·rw [if_neg h, if_neg h]; exact ih
theorem zmb (f : α → HVal) (x : κ) (v : α) : ∀ L : List (κ × α), zc5 x (f v) (em f L) = em f (zaK x v L)
 | [] => rfl
 | p :: r => by
   have ih := zmb f x v r
   simp only [List.map_cons, zc5, zaK] at ih ⊢
   by_cases h : x = p.1
   ·rw [if_pos h, if_pos h]; rfl
   ·rw [if_neg h, if_neg h, ih]; rfl
theorem zl6 (x y : κ) (v : α) : ∀ (l : List (κ × α)), alk y (zaK x v l) = if y = x then some v else alk y l
 | [] => by simp [zaK, alk]
 | p :: r => by
   have ih := zl6 x y v r
   simp only [zaK]
   by_cases h : x = p.1
   ·subst h
    rw [if_pos rfl]; simp only [alk]
    by_cases hy : y = p.1
    ·rw [if_pos hy, if_pos hy]
    ·rw [if_neg hy, if_neg hy, if_neg hy]
   ·rw [if_neg h]; simp only [alk]
    by_cases hy : y = p.1
    ·have : ¬ y = x := fun e => h (e ▸ hy)
     rw [if_pos hy, if_neg this, if_pos hy]
    ·rw [if_neg hy, ih, if_neg hy]
theorem zeR {x : κ} : ∀ {l : List (κ × α)}, alk x l = none ↔ x ∉ l.map (·.1)
 | [] => by simp [alk]
 | p :: r => by
   have ih := zeR (x := x) (l := r)
   simp only [alk, List.map_cons, List.mem_cons, not_or]
   by_cases h : x = p.1
   ·rw [if_pos h]; simp [h]
   ·rw [if_neg h, ih]; simp [h]
theorem zkg {x : κ} {v : α} : ∀ {l : List (κ × α)}, alk x l = none → zaK x v l = l ++ [(x, v)]
 | [], _ => rfl
 | p :: r, h => by
   simp only [alk] at h
   by_cases hx : x = p.1
   ·rw [if_pos hx] at h; cases h
   ·rw [if_neg hx] at h
    simp only [zaK, if_neg hx, List.cons_append, zkg h]
theorem ziS {x y : κ} {v : α} : ∀ {l : List (κ × α)}, y ∈ (zaK x v l).map (·.1) ↔ y = x ∨ y ∈ l.map (·.1)
 | [] => by simp [zaK]
 | p :: r => by
   have ih := ziS (x := x) (y := y) (v := v) (l := r)
   simp only [zaK]
   by_cases h : x = p.1
   ·subst h; rw [if_pos rfl]; simp
   ·rw [if_neg h]; simp only [List.map_cons, List.mem_cons, ih]
    constructor
    ·rintro (h | h | h)
     ·exact .inr (.inl h)
     ·exact .inl h
     ·exact .inr (.inr h)
    ·rintro (h | h | h)
     ·exact .inr (.inl h)
     ·exact .inl h
     ·exact .inr (.inr h)
def ANodup (l : List (κ × α)) : Prop := (l.map (·.1)).Nodup
theorem ANodup.nil {A B : Type} : ANodup ([] : List (A × B)) := List.nodup_nil
theorem ANodup.put {x : κ} {v : α} : ∀ {l : List (κ × α)}, ANodup l → ANodup (zaK x v l)
 | [], _ => by simp [ANodup, zaK]
 | p :: r, hn => by
   have h1 := (List.nodup_cons.1 hn)
   by_cases h : x = p.1
   ·subst h
    have e : zaK p.1 v (p :: r) = (p.1, v) :: r := by simp [zaK]
    rw [e]; exact List.nodup_cons.2 h1
   ·have e : zaK x v (p :: r) = p :: zaK x v r := by simp [zaK, h]
    rw [e]
    refine List.nodup_cons.2 ⟨fun hm => ?_, ANodup.put (l := r) h1.2⟩
    rcases ziS.1 hm with e | e
    ·exact h e.symm
    ·exact h1.1 e
theorem zhF {x : κ} {v : α} : ∀ {l : List (κ × α)}, ANodup l → ((x, v) ∈ l ↔ alk x l = some v)
 | [], _ => by simp [alk]
 | p :: r, hn => by
   have h1 := (List.nodup_cons.1 hn)
   have ih := zhF (x := x) (v := v) (l := r) h1.2
   simp only [List.mem_cons, alk]
   by_cases h : x = p.1
   ·subst h
    rw [if_pos rfl]
    constructor
    ·rintro (h | h)
     ·rw [← h]
     ·exact absurd (List.mem_map_of_mem (f := (·.1)) h) h1.1
    ·intro h; left; simp at h; rw [← h]
   ·rw [if_neg h, ← ih]
    constructor
    ·rintro (h' | h')
     ·exact absurd (by rw [← h']) h
     ·exact h'
    ·exact .inr
theorem zfm {x : κ} {v : α} : ∀ {l : List (κ × α)}, alk x l = some v → (x, v) ∈ l
 | [], h => by simp [alk] at h
 | p :: r, h => by
   simp only [alk] at h
   by_cases hx : x = p.1
   ·rw [if_pos hx] at h; cases h; rw [hx]; exact List.mem_cons_self
   ·rw [if_neg hx] at h; exact List.mem_cons_of_mem _ (zfm h)
theorem znr (x : κ) (v : α) : ∀ (l : List (κ × α)), (zaK x v l).length = if (alk x l).isSome then l.length else l.length + 1
 | [] => by simp [zaK, alk]
 | p :: r => by
   have ih := znr x v r
   by_cases h : x = p.1
   ·have e1 : zaK x v (p :: r) = (x, v) :: r := by simp [zaK, h]
    have e2 : alk x (p :: r) = some p.2 := by simp [alk, h]
    rw [e1, e2]; simp
   ·have e1 : zaK x v (p :: r) = p :: zaK x v r := by simp [zaK, h]
    have e2 : alk x (p :: r) = alk x r := by simp [alk, h]
    rw [e1, e2, List.length_cons, ih]; split <;> simp
theorem ztB (x : κ) (v : α) (l : List (κ × α)) : (zaK x v l).length ≤ l.length + 1 := by rw [znr]; split <;> omega
theorem zfC {x : κ} {v : α} {p : κ × α} : ∀ {l : List (κ × α)}, p ∈ zaK x v l → p = (x, v) ∨ p ∈ l
 | [], hp => by simp [zaK] at hp; exact .inl hp
 | q :: r, hp => by
   simp only [zaK] at hp
   by_cases h : x = q.1
   ·rw [if_pos h] at hp
    rcases List.mem_cons.1 hp with e | e
    ·exact .inl e
    ·exact .inr (List.mem_cons_of_mem _ e)
   ·rw [if_neg h] at hp
    rcases List.mem_cons.1 hp with e | e
    ·exact .inr (e ▸ List.mem_cons_self)
    ·rcases zfC e with e | e
     ·exact .inl e
     ·exact .inr (List.mem_cons_of_mem _ e)
theorem zkz (f : α → HVal) (s : Str) : ∀ L : List (Str × α), (zav s (em f L)).map (·.2) = (alk s L).map f
 | [] => rfl
 | p :: r => by
   have ih := zkz f s r
   obtain ⟨k, v⟩ := p
   simp only [List.map_cons, zav, alk] at ih ⊢
   by_cases h : s = k
   ·rw [if_pos h, if_pos h]; rfl
   ·rw [if_neg h, if_neg h, ← ih]; cases zav s (r.map fun p => (p.1, f p.2)) <;> rfl
theorem zo6 (f : α → HVal) (s : Str) (v : α) : ∀ L : List (Str × α), zdO s (f v) (em f L) = em f (zaK s v L)
 | [] => rfl
 | p :: r => by
   have ih := zo6 f s v r
   obtain ⟨k, u⟩ := p
   simp only [zdO, List.map_cons, zav, zaK] at ih ⊢
   by_cases h : s = k
   ·subst h; rw [if_pos rfl, if_pos rfl]; rfl
   ·rw [if_neg h, if_neg h]
    cases hq : zav s (r.map fun p => (p.1, f p.2)) with
    | none => rw [hq] at ih; simp only [Option.map_none, List.cons_append, List.map_cons, ← ih]
    | some q => rw [hq] at ih; simp only [Option.map_some, List.set_cons_succ, List.map_cons, ← ih]
end
section
variable {κ : Type} [DecidableEq κ] {α : Type}
variable {P : Program} {e : Env} {dst : Option Tmp} {ty : TypeId} {pos : String} {af : Array Edge} {g : Option (Nat × Bool)} {M : List MObj} {K : HVal → List MObj → Prop}
theorem zi5 {f : α → HVal} {o : Option α} {z0 : α} : f (o.getD z0) = (o.map f).getD (f z0) := by cases o <;> rfl
theorem zhi [Tracks] {x y : Operand} {t kt et : TypeId} {size bytes s2 b2 s3 b3 : Nat} {zero z2 z3 : Value} {d : TD} {i b : Nat} {f : α → HVal} {L : List (Str × α)} {s : Str} {z0 : α}
 (hf : Fits P t (.map kt et) size bytes zero) (hkt : Fits P kt .str s2 b2 z2) (het : Fits P et d s3 b3 z3) (hx : zF e x = some (.raw (.map (some b)))) (hy : zF e y = some (.str s)) (hm : M[i]? = some (.map b (sk (em f L)))) (hz : zbV z3 = f z0)
 (hk : K (f ((alk s L).getD z0)) M) : EOp P e M ⟨dst, .lookup t x y false, ty, pos, af, g⟩ K := by
 refine zkR hf hkt het hx hy hm ?_
 rw [zi5 (f := f), ← zkz, ← hz] at hk
 cases h : zav s (em f L) with
 | none => rw [h] at hk; exact hk
 | some p => rw [h] at hk; exact hk
theorem zjt [Tracks] {x y : Operand} {t kt et : TypeId} {size bytes s2 b2 s3 b3 : Nat} {zero z2 z3 : Value} {d : TD} {i b : Nat} {f : α → HVal} {L : List (Str × α)} {s : Str} {z0 : α}
 (hf : Fits P t (.map kt et) size bytes zero) (hkt : Fits P kt .str s2 b2 z2) (het : Fits P et d s3 b3 z3) (hx : zF e x = some (.raw (.map (some b)))) (hy : zF e y = some (.str s)) (hm : M[i]? = some (.map b (sk (em f L)))) (hz : zbV z3 = f z0)
 (hk : K (.tup [f ((alk s L).getD z0), .bool (alk s L).isSome]) M) : EOp P e M ⟨dst, .lookup t x y true, ty, pos, af, g⟩ K := by
 refine zoY hf hkt het hx hy hm ?_
 have h1 : (alk s L).isSome = ((alk s L).map f).isSome := by cases alk s L <;> rfl
 rw [zi5 (f := f), h1, ← zkz, ← hz] at hk
 cases h : zav s (em f L) with
 | none => rw [h] at hk; exact hk
 | some p => rw [h] at hk; exact hk
theorem zeK [Tracks] {x y z : Operand} {t kt et : TypeId} {size bytes s2 b2 : Nat} {zero z2 : Value} {i b : Nat} {f : α → HVal} {L : List (Str × α)} {s : Str} {v : α}
 (hf : Fits P t (.map kt et) size bytes zero) (hkt : Fits P kt .str s2 b2 z2) (hx : zF e x = some (.raw (.map (some b)))) (hy : zF e y = some (.str s)) (hz : zF e z = some (f v)) (hm : M[i]? = some (.map b (sk (em f L))))
 (hk : K .junk (M.set i (.map b (sk (em f (zaK s v L)))))) : EOp P e M ⟨dst, .mapUpdate t x y z, ty, pos, af, g⟩ K := by
 refine zfY hf hkt hx hy hz hm ?_
 rw [zo6]; exact hk
variable {kt : TypeId} {ek : κ → HVal}
theorem ziQ [Tracks] {x y : Operand} {t et : TypeId} {size bytes s3 b3 : Nat} {zero z3 : Value} {d : TD} {i b : Nat} {f : α → HVal} {L : List (κ × α)} {s : κ} {z0 : α}
 (hf : Fits P t (.map kt et) size bytes zero) (ok : KeyOk P kt ek) (het : Fits P et d s3 b3 z3) (hx : zF e x = some (.raw (.map (some b)))) (hy : zF e y = some (ek s)) (hm : M[i]? = some (.map b (kk ek (em f L)))) (hz : zbV z3 = f z0)
 (hk : K (f ((alk s L).getD z0)) M) : EOp P e M ⟨dst, .lookup t x y false, ty, pos, af, g⟩ K := by
 refine zoT hf ok het hx hy hm ?_
 rw [zi5 (f := f), ← hz] at hk
 rw [zjk]; exact hk
theorem zne [Tracks] {x y : Operand} {t et : TypeId} {size bytes s3 b3 : Nat} {zero z3 : Value} {d : TD} {i b : Nat} {f : α → HVal} {L : List (κ × α)} {s : κ} {z0 : α}
 (hf : Fits P t (.map kt et) size bytes zero) (ok : KeyOk P kt ek) (het : Fits P et d s3 b3 z3) (hx : zF e x = some (.raw (.map (some b)))) (hy : zF e y = some (ek s)) (hm : M[i]? = some (.map b (kk ek (em f L)))) (hz : zbV z3 = f z0)
 (hk : K (.tup [f ((alk s L).getD z0), .bool (alk s L).isSome]) M) : EOp P e M ⟨dst, .lookup t x y true, ty, pos, af, g⟩ K := by
 refine znY hf ok het hx hy hm ?_
 have h1 : ((alk s L).map f).isSome = (alk s L).isSome := by cases alk s L <;> rfl
 rw [zi5 (f := f), ← hz] at hk
 rw [zjk, h1]; exact hk
theorem znK [Tracks] {x y : Operand} {t et : TypeId} {size bytes s3 b3 : Nat} {zero z3 : Value} {d : TD} {i b j st : Nat} {f : α → HVal} {L : List (κ × α)} {s : κ} {z0 : α}
 (hf : Fits P t (.map kt et) size bytes zero) (ok : KeyOk P kt ek) (het : Fits P et d s3 b3 z3) (hx : zF e x = some (.raw (.map (some b)))) (hy : zF e y = some (ek s)) (hm : M[i]? = some (.mape b (kk ek (zdP s (f z0) (em f L))) j st)) (hz : zbV z3 = f z0)
 (hk : K (f ((alk s L).getD z0)) M) : EOp P e M ⟨dst, .lookup t x y false, ty, pos, af, g⟩ K := by
 have h0 : f ((alk s L).getD z0) = (klk s (zdP s (f z0) (em f L))).getD (zbV z3) := by rw [hz, zr9, zjk, zi5 (f := f)]
 rw [h0] at hk
 generalize zdP s (f z0) (em f L) = ls at hm hk
 exact EOp.of_run fun I F a w ho hs => by
  have h1 := (ho.one (x := x) (by simp [Op.operands]) hx).raw_inv
  have h2 := ho.one (x := y) (by simp [Op.operands]) hy
  obtain ⟨es, clk, h3, h4, h5, _⟩ := hs.obj _ (List.mem_append_left _ (List.mem_of_getElem? hm))
  obtain ⟨h6, h7⟩ := ziO h4.1 h5
  obtain ⟨n1, n2⟩ := zfE ok h2 w es.toList ls 0 h6 h7
  have hfk := ok.run_key h2 w es.toList ls h6 h7
  cases hq : zbP s ls with
  | none =>
    rw [(zdJ hq).1] at hk
    refine ⟨z3, _, M, w, I, ?_, .refl I, hk, zdY I z3, hs⟩
    simp only [execOp, h1, Instr.lookup, Sem.run_bind, run_underlying hf.mapD, Result.andThen_ok, za5 h3, Sem.run_pure, ok.check I s _ _ w h2, hfk, n1 hq, het.run_zero]
    simp
  | some j' =>
    obtain ⟨m, h, g1, g2, g3, g4⟩ := n2 j' hq
    obtain ⟨h', g5, g6, _⟩ := zdn hq
    rw [g5] at g2; cases g2
    rw [g6] at hk
    refine ⟨m.val, _, M, w, I, ?_, .refl I, hk, g3, hs⟩
    simp only [execOp, h1, Instr.lookup, Sem.run_bind, run_underlying hf.mapD, Result.andThen_ok, za5 h3, Sem.run_pure, ok.check I s _ _ w h2, hfk, g4]
    simp
theorem zjw [Tracks] {x y z : Operand} {t et : TypeId} {size bytes : Nat} {zero : Value} {i b : Nat} {f : α → HVal} {L : List (κ × α)} {s : κ} {v : α}
 (hf : Fits P t (.map kt et) size bytes zero) (ok : KeyOk P kt ek) (hx : zF e x = some (.raw (.map (some b)))) (hy : zF e y = some (ek s)) (hz : zF e z = some (f v)) (hm : M[i]? = some (.map b (kk ek (em f L))))
 (hk : K .junk (M.set i (.map b (kk ek (em f (zaK s v L)))))) : EOp P e M ⟨dst, .mapUpdate t x y z, ty, pos, af, g⟩ K := by
 refine zoM hf ok hx hy hz hm ?_
 rw [zmb]; exact hk
theorem zm6 [Tracks] {x y : Operand} {t et : TypeId} {size bytes s3 b3 : Nat} {zero z3 : Value} {d : TD} {i b : Nat} {f : α → HVal} {L : List (κ × α)} {s : κ} {z0 : α}
 (hf : Fits P t (.map kt et) size bytes zero) (ok : KeyOk P kt ek) (het : Fits P et d s3 b3 z3) (hx : zF e x = some (.raw (.map (some b)))) (hy : zF e y = some (ek s)) (hm : M[i]? = some (.map b (kk ek (em f L)))) (hz : zbV z3 = f z0)
 (hk : ∀ (j st : Nat), zbP s (zdP s (f z0) (em f L)) = some j → K (.tup [f ((alk s L).getD z0), .int .i64 (st : Int)]) (M.set i (.mape b (kk ek (zdP s (f z0) (em f L))) j st))) : EOp P e M ⟨dst, .mapEntry t x y, ty, pos, af, g⟩ K := by
 refine znJ hf ok het hx hy hm ?_
 rw [hz]
 have h1 : (klk s (em f L)).getD (f z0) = f ((alk s L).getD z0) := by rw [zjk]; cases alk s L <;> rfl
 rw [h1]; exact hk
theorem zle [Tracks] {x y z : Operand} {t : TypeId} {i b j st : Nat} {f : α → HVal} {L : List (κ × α)} {s : κ} {z0 v : α}
 (hx : zF e x = some (.raw (.map (some b)))) (hy : zF e y = some (.int .i64 (st : Int))) (hz : zF e z = some (f v)) (hm : M[i]? = some (.mape b (kk ek (zdP s (f z0) (em f L))) j st)) (hj : zbP s (zdP s (f z0) (em f L)) = some j)
 (hk : K .junk (M.set i (.map b (kk ek (em f (zaK s v L)))))) : EOp P e M ⟨dst, .entryStore t x y z, ty, pos, af, g⟩ K := by
 refine zl0 hx hy hz hm hj ?_
 rw [zqS, zmb]; exact hk
/-- How many entries. -/
theorem zf6 [Tracks] {x : Operand} {t kt' et : TypeId} {size bytes : Nat} {zero : Value} {i b : Nat} {l : List (HVal × HVal)} (hf : Fits P t (.map kt' et) size bytes zero) (hx : zF e x = some (.raw (.map (some b)))) (hm : M[i]? = some (.map b l))
 (hk : K (.int .i64 (l.length : Int)) M) : EOp P e M ⟨dst, .call ⟨.builtin .len, #[x], #[t]⟩, ty, pos, af, g⟩ K :=
 EOp.of_run fun I F a w ho hs => by
  have h1 := (ho.one (x := x) (by simp [Op.operands, Call.operands]) hx).raw_inv
  obtain ⟨es, clk, h3, h4, h5⟩ := hs.obj _ (List.mem_append_left _ (List.mem_of_getElem? hm))
  exact ⟨.int .i64 (es.size : Int), _, M, w, I, by rw [zjA (ats := #[])]; simp [h1, Builtin.len_, run_underlying hf.mapD, za5 h3, goInt], .refl I, hk, by rw [h4.1]; exact .int _ _, hs⟩
end
end
section
open Go.Sort Go.Proofs
structure Play where
 Source : Str
 No : Int
 At : Int
 Week : Int
 Match : Str
 Player : Str
 Stat : Str
 Count : Int
 Undo : Int
structure StatS where
 Name : Str
 Count : Int
structure LineS where
 Player : Str
 Week : Int
 Stats : List StatS
abbrev zjK (x : Play) : HVal := .agg [.str x.Source, .int .i64 x.No, .int .i64 x.At, .int .i64 x.Week, .str x.Match, .str x.Player, .str x.Stat, .int .i64 x.Count, .int .i64 x.Undo]
abbrev zhD (l : List Play) : HVal := .slice 9 (l.map zjK)
abbrev zdf (x : StatS) : HVal := .agg [.str x.Name, .int .i64 x.Count]
abbrev ztR (l : List StatS) : HVal := .slice 2 (l.map zdf)
abbrev znh (x : LineS) : HVal := .agg [.str x.Player, .int .i64 x.Week, ztR x.Stats]
abbrev zov (l : List LineS) : HVal := .slice 3 (l.map znh)
abbrev Num := Str × Int
abbrev Of2 := Str × Str
abbrev zh3 (x : Num) : HVal := .agg [.str x.1, .int .i64 x.2]
abbrev eOf (x : Of2) : HVal := .agg [.str x.1, .str x.2]
def zlw : Play := ⟨[], 0, 0, 0, [], [], [], 0, 0⟩
def zkO (n : Int) : Bool := !(out n 1 60)
def playFault (p : Play) : Int :=
 if !(key p.Source) then 5 else if out p.No 1 3000 || !(za4 p.At) || !(zkO p.Week) then 1
 else if !(key p.Match) || !(key p.Player) || !(key p.Stat) then 5
 else if out p.Count (-100000) 100000 || out p.Undo 0 (p.No - 1) then 1
 else if decide (0 < p.Undo) && decide (p.Count ≠ 0) then 3 else 0
def byNo (a b : Play) : Int := orI [zbg a.Source b.Source, zdF a.No b.No]
def zcp (l : List Play) : Nat → List Play → Int
 | _, [] => 0
 | k, p :: r => if playFault p ≠ 0 then playFault p else if 0 < k ∧ byNo p (l.getD (k - 1) zlw) ≤ 0 then 7 else zcp l (k + 1) r
structure ChkS where
 S : List Str
 W : List (Str × Int)
 c : Bool
def zhK (q : ChkS) (p : Play) : ChkS :=
 ⟨zaR p.Source q.S, zaK p.Match p.Week q.W, q.c || ((alk p.Match q.W).isSome && ((alk p.Match q.W).getD 0 != p.Week))⟩
def zeP (l : List Play) : ChkS := l.foldl zhK ⟨[], [], false⟩
theorem zgg {l : List Play} {k : Nat} {x : Play} (h : l[k]? = some x) : zeP (l.take (k + 1)) = zhK (zeP (l.take k)) x := by
 rw [zaI h]; simp [zeP, List.foldl_append]
def zfP (q : ChkS) : Int := if 20 < q.S.length ∨ 400 < q.W.length then 2 else if q.c then 13 else 0
def zcZ (l : List Play) : Int := if 3000 < l.length then 2 else if zcp l 0 l ≠ 0 then zcp l 0 l else zfP (zeP l)
theorem zls {l : List Play} {k : Nat} {x : Play} {r : List Play} (h1 : playFault x = 0) (h2 : 0 < k → ¬ byNo x (l.getD (k - 1) zlw) ≤ 0) : zcp l k (x :: r) = zcp l (k + 1) r := by
 rw [zcp, if_neg (by simp [h1]), if_neg (fun h => h2 h.1 h.2)]
theorem zmp {l : List Play} {c : Int} (h1 : l.length ≤ 3000) (h : zcp l 0 l = c) (hc : c ≠ 0) : zcZ l = c := by
 rw [zcZ, if_neg (by omega), if_pos (by rw [h]; exact hc), h]
theorem zg9 {l : List Play} (h1 : l.length ≤ 3000) (h : zcp l 0 l = 0) : zcZ l = zfP (zeP l) := by
 rw [zcZ, if_neg (by omega), if_neg (by simp [h])]
theorem zmU {l : List Play} (h : zcZ l = 0) : l.length ≤ 3000 ∧ zcp l 0 l = 0 := by
 unfold zcZ at h
 split at h
 ·omega
 ·split at h
  ·contradiction
  ·rename_i h1 h2; exact ⟨by omega, by simpa using h2⟩
theorem zjy {p : Play} (h : playFault p = 0) : key p.Source = true ∧ (1 ≤ p.No ∧ p.No ≤ 3000) ∧ za4 p.At = true ∧ zkO p.Week = true ∧ (key p.Match = true ∧ key p.Player = true ∧ key p.Stat = true) ∧ (-100000 ≤ p.Count ∧ p.Count ≤ 100000) ∧ (0 ≤ p.Undo ∧ p.Undo ≤ p.No - 1) := by
 unfold playFault at h
 split at h
 ·omega
 split at h
 ·omega
 split at h
 ·omega
 split at h
 ·omega
 rename_i h1 h2 h3 h4
 simp only [Bool.or_eq_true, Bool.not_eq_true', not_or, Bool.not_eq_false, Bool.not_eq_true] at h1 h2 h3 h4
 exact ⟨h1, zdK h2.1.1, h2.1.2, h2.2, ⟨h3.1.1, h3.1.2, h3.2⟩, zdK h4.1, zdK h4.2⟩
theorem zlq {l : List Play} : ∀ (r : List Play) (k : Nat), zcp l k r = 0 → ∀ x ∈ r, playFault x = 0
 | [], _, _, x, hx => by cases hx
 | p :: r, k, h, x, hx => by
   rw [zcp] at h
   split at h
   ·contradiction
   ·split at h
    ·omega
    ·rename_i h1 _
     rcases List.mem_cons.1 hx with rfl | hx
     ·simpa using h1
     ·exact zlq r (k + 1) h x hx
theorem zoV {l : List Play} (h : zcZ l = 0) : ∀ x ∈ l, playFault x = 0 := zlq l 0 (zmU h).2
/-! the source that counts -/
def zds (trust : List Str) (at' : Int) (B : List (Str × Int)) (p : Play) : List (Str × Int) :=
 if at' < p.At ∨ zcP p.Source trust 0 < 0 then B
 else if (alk p.Match B).isSome = false ∨ zcP p.Source trust 0 < (alk p.Match B).getD 0 then zaK p.Match (zcP p.Source trust 0) B else B
def zd5 (l : List Play) (trust : List Str) (at' : Int) : List (Str × Int) := l.foldl (zds trust at') []
theorem zhY {l : List Play} {trust : List Str} {at' : Int} {k : Nat} {x : Play} (h : l[k]? = some x) : zd5 (l.take (k + 1)) trust at' = zds trust at' (zd5 (l.take k) trust at') x := by
 rw [zaI h]; simp [zd5, List.foldl_append]
def zjQ (l : List Play) (trust : List Str) (at' : Int) (m : Str) : Option Str := (alk m (zd5 l trust at')).map fun k => trust.getD k.toNat []
/-! what is taken back -/
def zjB (at' : Int) (A : List (Num × Play)) (p : Play) : List (Num × Play) := if p.At ≤ at' then zaK (p.Source, p.No) p A else A
def zkv (l : List Play) (at' : Int) : List (Num × Play) := l.foldl (zjB at') []
theorem zmr {l : List Play} {at' : Int} {k : Nat} {x : Play} (h : l[k]? = some x) : zkv (l.take (k + 1)) at' = zjB at' (zkv (l.take k) at') x := by
 rw [zaI h]; simp [zkv, List.foldl_append]
def znF (q p : Play) : Bool := decide (q.Undo = 0) && decide (q.Match = p.Match) && decide (q.Player = p.Player) && decide (q.Stat = p.Stat)
def zgE (A : List (Num × Play)) (at' : Int) (G : List (Num × Bool)) (p : Play) : List (Num × Bool) :=
 if at' < p.At ∨ p.Undo = 0 then G else if (alk (p.Source, p.Undo) A).isSome = true ∧ znF ((alk (p.Source, p.Undo) A).getD zlw) p = true then zaK (p.Source, p.Undo) true G else G
def ziH (A : List (Num × Play)) (at' : Int) (l : List Play) : List (Num × Bool) := l.foldl (zgE A at') []
def zim (l : List Play) (at' : Int) : List (Num × Bool) := ziH (zkv l at') at' l
theorem zg7 {A : List (Num × Play)} {l : List Play} {at' : Int} {k : Nat} {x : Play} (h : l[k]? = some x) : ziH A at' (l.take (k + 1)) = zgE A at' (ziH A at' (l.take k)) x := by
 rw [zaI h]; simp [ziH, List.foldl_append]
def zn1 (l : List Play) (at' : Int) (x : Num) : Bool := (alk x (zim l at')).getD false
/-! lines -/
def zjg (l : List Play) (trust : List Str) (week at' : Int) (p : Play) : Bool :=
 !(decide (at' < p.At) || p.Week != week || decide (0 < p.Undo) || zn1 l at' (p.Source, p.No) || (zjQ l trust at' p.Match).getD [] != p.Source)
structure LnS where
 S : List Str
 c : List (Of2 × Int)
def zsL (q : LnS) (p : Play) : LnS := ⟨zaR p.Player q.S, zaK (p.Player, p.Stat) ((alk (p.Player, p.Stat) q.c).getD 0 + p.Count) q.c⟩
def zgx (l : List Play) (trust : List Str) (week at' : Int) (q : LnS) (p : Play) : LnS := if zjg l trust week at' p then zsL q p else q
def zen (l : List Play) (trust : List Str) (week at' : Int) (m : List Play) : LnS := m.foldl (zgx l trust week at') ⟨[], []⟩
theorem zmj {l m : List Play} {trust : List Str} {week at' : Int} {k : Nat} {x : Play} (h : m[k]? = some x) : zen l trust week at' (m.take (k + 1)) = zgx l trust week at' (zen l trust week at' (m.take k)) x := by
 rw [zaI h]; simp [zen, List.foldl_append]
def zlX (a b : StatS) : Int := zbg a.Name b.Name
def zbQ (c : List (Of2 × Int)) (s : Str) : List StatS := (c.filter fun e => e.1.1 == s && e.2 != 0).map fun e => ⟨e.1.2, e.2⟩
def zfr (c : List (Of2 × Int)) (s : Str) : List StatS := zbf zlX (zbQ c s)
def zgd (c : List (Of2 × Int)) (S : List Str) : Bool := c.any (fun e => out e.2 (-100000) 100000) || S.any (fun s => decide (40 < (zbQ c s).length))
def zgk (c : List (Of2 × Int)) (S : List Str) : Int := if zgd c S then 12 else 0
def zgj (c : List (Of2 × Int)) (S : List Str) (week : Int) : List LineS := if zgd c S then [] else (zbj S).map fun s => ⟨s, week, zfr c s⟩
def zoB (l : List Play) (trust : List Str) (week at' : Int) : Int := zgk (zen l trust week at' l).c (zen l trust week at' l).S
def zoa (l : List Play) (trust : List Str) (week at' : Int) : List LineS := zgj (zen l trust week at' l).c (zen l trust week at' l).S week
/-! order of trust -/
def zfs (l : List Str) : Nat → List Str → Int
 | _, [] => 0
 | k, s :: r => if !(key s) then 5 else if (l.take k).contains s then 6 else zfs l (k + 1) r
def zeM (l : List Str) : Int := if 20 < l.length then 2 else zfs l 0 l
theorem zs9 {s : Str} (h : key s = true) : s.length ≤ 40 := by
 simp only [key, zf4, Bool.and_eq_true, decide_eq_true_eq] at h; exact h.1.1.1.2
theorem zlD {α : Type} {c : α → α → Int} (hc : Cmp c fun _ => True) {l l' : List α} (he : ∀ x y, x ∈ l → y ∈ l → c x y = 0 → x = y) (hp : l'.Perm l) (hw : l'.Pairwise fun a b => ¬ c b a < 0) : l' = zbf c l := by
 have hs := znV hc (l := l) (fun _ _ => trivial)
 have hw' : l'.Pairwise fun a b => c a b ≤ 0 := hw.imp fun {a b} h => by
  have := hc.flip b a trivial trivial
  omega
 refine List.Perm.eq_of_pairwise (le := fun a b => c a b ≤ 0) (fun a b ha hb h1 h2 => ?_) hw' hs (hp.trans (zes c l).symm)
 have f1 := hc.flip a b trivial trivial
 exact he a b (hp.mem_iff.1 ha) ((zes c l).mem_iff.1 hb) (by omega)
theorem znB : Cmp zlX fun _ => True where
 flip x y _ _ := by unfold zlX; rw [zek x.Name y.Name]; omega
 trans x y z _ _ _ h1 h2 := zf9 h1 h2
theorem ztK {α : Type} {c : α → α → Int} (hc : Cmp c fun _ => True) : SWO (ltOf c) := by
 have h : ∀ a b, ltOf c a b = decide (c a b < 0) := fun a b => rfl
 refine ⟨fun x => ?_, fun x y z h1 h2 => ?_, fun x y z h1 h2 => ?_⟩
 ·rw [h]; have := hc.flip x x trivial trivial; simp; omega
 ·rw [h] at *
  simp only [decide_eq_true_eq] at *
  have a1 := hc.trans x y z trivial trivial trivial (by omega) (by omega)
  rcases Int.lt_or_eq_of_le a1 with e | e
  ·exact e
  ·exfalso
   have f1 := hc.flip x z trivial trivial
   have a2 := hc.trans z x y trivial trivial trivial (by have := hc.flip z x trivial trivial; omega) (by omega)
   have f2 := hc.flip y z trivial trivial
   omega
 ·rw [h] at *
  simp only [decide_eq_false_iff_not] at *
  have f1 := hc.flip x y trivial trivial
  have f2 := hc.flip y z trivial trivial
  have f3 := hc.flip x z trivial trivial
  have g1 := hc.flip y x trivial trivial
  have g2 := hc.flip z y trivial trivial
  have g3 := hc.flip z x trivial trivial
  have := hc.trans z y x trivial trivial trivial (by omega) (by omega)
  omega
end
section
theorem znD {α : Type} {l : List α} (h : l.Nodup) {i j : Nat} {a : α} (hi : l[i]? = some a) (hj : l[j]? = some a) : i = j := by
 have key : ∀ (i j : Nat), i < j → l[i]? = some a → l[j]? = some a → False := fun i j hij h1 h2 => by
  have hi := zN h1
  have hj := zN h2
  rw [List.getElem?_eq_getElem hi] at h1
  rw [List.getElem?_eq_getElem hj] at h2
  exact List.pairwise_iff_getElem.1 h i j hi hj hij (Option.some.inj (h1.trans h2.symm))
 rcases Nat.lt_trichotomy i j with h' | h' | h'
 ·exact (key i j h' hi hj).elim
 ·exact h'
 ·exact (key j i h' hj hi).elim
/-! what a range has come to -/
structure VisOk {β : Type} (L : List β) (vis : List Nat) (E : List β) : Prop where
 nd : vis.Nodup
 lt : ∀ j ∈ vis, j < L.length
 eq : E.map some = vis.map fun j => L[j]?
theorem VisOk.nil {β : Type} (L : List β) : VisOk L [] [] := ⟨List.nodup_nil, (fun j h => by cases h), rfl⟩
theorem VisOk.step {β : Type} {L E : List β} {vis : List Nat} (h : VisOk L vis E) {j : Nat} {q : β} (hj : L[j]? = some q) (hn : j ∉ vis) : VisOk L (vis ++ [j]) (E ++ [q]) where
 nd := List.nodup_append.2 ⟨h.nd, by simp, fun a ha b hb => by simp at hb; subst hb; exact fun e => hn (e ▸ ha)⟩
 lt k hk := by
  rcases List.mem_append.1 hk with hk | hk
  ·exact h.lt k hk
  ·simp at hk; subst hk; exact zN hj
 eq := by simp only [List.map_append, h.eq, List.map_cons, List.map_nil, hj]
theorem VisOk.len {β : Type} {L E : List β} {vis : List Nat} (h : VisOk L vis E) : E.length = vis.length := by
 have := congrArg List.length h.eq; simpa using this
theorem VisOk.le {β : Type} {L E : List β} {vis : List Nat} (h : VisOk L vis E) : vis.length ≤ L.length := by
 have := ziI h.nd (m := List.range L.length) fun j hj => List.mem_range.2 (h.lt j hj)
 simpa using this
theorem VisOk.room {β : Type} {L E : List β} {vis : List Nat} (h : VisOk L vis E) {j : Nat} {q : β} (hj : L[j]? = some q) (hn : j ∉ vis) : vis.length < L.length := by
 have := (h.step hj hn).le
 rw [List.length_append] at this
 simp only [List.length_cons, List.length_nil] at this
 omega
theorem VisOk.done {β : Type} {L E : List β} {vis : List Nat} (h : VisOk L vis E) (hl : vis.length = L.length) : E.Perm L := by
 have hp : vis.Perm (List.range L.length) := by
  refine (List.perm_ext_iff_of_nodup h.nd List.nodup_range).2 fun a => ⟨fun ha => List.mem_range.2 (h.lt a ha), fun ha => ?_⟩
  refine Classical.byContradiction fun hna => ?_
  have h1 : (a :: vis).Nodup := List.nodup_cons.2 ⟨hna, h.nd⟩
  have h2 := ziI h1 (m := List.range L.length) fun j hj => by
   rcases List.mem_cons.1 hj with rfl | hj
   ·exact ha
   ·exact List.mem_range.2 (h.lt j hj)
  simp at h2; omega
 have h1 := hp.map fun j => L[j]?
 rw [← h.eq] at h1
 have h2 : ((List.range L.length).map fun j => L[j]?) = L.map some := by
  refine List.ext_getElem? fun i => ?_
  rw [List.getElem?_map, List.getElem?_map]
  rcases Nat.lt_or_ge i L.length with hi | hi
  ·rw [List.getElem?_range hi, List.getElem?_eq_getElem hi]; simp [hi]
  ·rw [List.getElem?_eq_none (by simpa using hi), List.getElem?_eq_none hi]; rfl
 rw [h2] at h1
 have h3 := h1.filterMap id
 have key : ∀ l : List β, (l.map some).filterMap id = l := fun l => by
  induction l with
  | nil => rfl
  | cons x l ih => simp [ih]
 rwa [key, key] at h3
def NextOk {β : Type} (L : List β) (vis : List Nat) (c : Bool) (vis' : List Nat) : Prop :=
 (c = false ∧ vis' = vis ∧ vis.length = L.length) ∨ (c = true ∧ ∃ j q, L[j]? = some q ∧ j ∉ vis ∧ vis' = vis ++ [j])
theorem NextOk.t {β : Type} {L : List β} {vis vis' : List Nat} {c : Bool} (h : NextOk L vis c vis') (hc : c = true) : ∃ j q, L[j]? = some q ∧ j ∉ vis ∧ vis' = vis ++ [j] := by
 rcases h with ⟨h, _⟩ | ⟨_, h⟩
 ·rw [hc] at h; cases h
 ·exact h
theorem NextOk.f {β : Type} {L : List β} {vis vis' : List Nat} {c : Bool} (h : NextOk L vis c vis') (hc : c = false) : vis' = vis ∧ vis.length = L.length := by
 rcases h with ⟨_, h⟩ | ⟨h, _⟩
 ·exact h
 ·rw [hc] at h; cases h
section
variable {P : Program} {e : Env} {dst : Option Tmp} {ty : TypeId} {pos : String} {af : Array Edge} {g : Option (Nat × Bool)} {M : List MObj} {K : HVal → List MObj → Prop}
theorem zmQ {α : Type} : ∀ {M : List α} {i : Nat} {m : α}, M[i]? = some m → M.set i m = M
 | [], i, m, h => by simp at h
 | x :: M, 0, m, h => by simp at h; simp [h]
 | x :: M, i + 1, m, h => by simp at h; simp [zmQ h]
theorem zmW [Tracks] {β : Type} {L : List β} {enc : β → HVal × HVal} {x : Operand} {i r b : Nat} {l : List (HVal × HVal)} {vis : List Nat} (hx : zF e x = some (.raw (.pointer (some ⟨r, 0, none⟩)))) (hm : M[i]? = some (.iter r b l vis)) (hL : l = L.map enc)
 (hv : vis.Nodup) (hvl : ∀ j ∈ vis, j < L.length) (hk : ∀ c R vis', NextOk L vis c vis' → K (.tup (.bool c :: R)) (M.set i (.iter r b l vis'))) : EOp P e M ⟨dst, .next x false, ty, pos, af, g⟩ K := by
 have hl : l.length = L.length := by rw [hL, List.length_map]
 refine zrH hx hm hv (fun j hj => by rw [hl]; exact hvl j hj) (fun hlen => ?_) (fun j p hj hn => ?_)
 ·have := hk false [] vis (.inl ⟨rfl, rfl, by rw [hlen, hl]⟩)
  rw [zmQ hm] at this
  exact this
 ·rw [hL, List.getElem?_map] at hj
  cases hq : L[j]? with
  | none => rw [hq] at hj; cases hj
  | some q => exact hk true [p.1, p.2] (vis ++ [j]) (.inr ⟨rfl, j, q, hq, hn, rfl⟩)
theorem zkY [Tracks] {β : Type} {L : List β} {enc : β → HVal × HVal} {x : Operand} {i r b j : Nat} {l : List (HVal × HVal)} {vis : List Nat} {q : β} (hx : zF e x = some (.raw (.pointer (some ⟨r, 0, none⟩)))) (hm : M[i]? = some (.iter r b l (vis ++ [j]))) (hL : l = L.map enc) (hq : L[j]? = some q)
 (hk : K (.tup [(enc q).1, (enc q).2]) M) : EOp P e M ⟨dst, .entry x, ty, pos, af, g⟩ K :=
 zrn hx hm (p := enc q) (by rw [hL, List.getElem?_map, hq]; rfl) hk
theorem zsB {α : Type} (f : α → HVal) (L : List (Str × α)) : sk (em f L) = L.map fun p => (.str p.1, f p.2) := by simp [sk]
theorem zsR {κ α : Type} [DecidableEq κ] (ek : κ → HVal) (f : α → HVal) (L : List (κ × α)) : kk ek (em f L) = L.map fun p => (ek p.1, f p.2) := by simp [kk]
end
theorem zuR {α : Type} {a b c d : α} {X : List α} : (a :: b :: c :: d :: X).Perm (a :: d :: c :: b :: X) :=
 List.Perm.cons a (((List.Perm.swap c b (d :: X)).trans ((List.Perm.swap d b X).cons c)).trans (((List.Perm.swap d c (b :: X)))))
/-! maps whose values are owned slices -/
section
variable {β : Type}
abbrev Grp (β : Type) := List (Str × (Value × List β))
abbrev fG {β : Type} (q : Value × List β) : HVal := .raw q.1
abbrev gZ (β : Type) : Value × List β := (.slice none 0 0, [])
def gV (s : Str) (G : Grp β) : Value := ((alk s G).getD (gZ β)).1
def gL (s : Str) (G : Grp β) : List β := ((alk s G).getD (gZ β)).2
def grp (sz : Nat) (e : β → HVal) (G : Grp β) : List MObj := G.map fun p => .arr p.2.1 sz (p.2.2.map e)
theorem zpl {κ α : Type} [DecidableEq κ] {s : κ} {v : α} : ∀ {G : List (κ × α)}, alk s G = some v → ∃ n, G[n]? = some (s, v) ∧ ∀ u, zaK s u G = G.set n (s, u)
 | [], h => by simp [alk] at h
 | p :: r, h => by
   simp only [alk] at h
   by_cases hs : s = p.1
   ·rw [if_pos hs] at h
    simp only [Option.some.injEq] at h
    subst h
    exact ⟨0, by simp [hs], fun u => by simp [zaK, hs]⟩
   ·rw [if_neg hs] at h
    obtain ⟨n, h1, h2⟩ := zpl h
    exact ⟨n + 1, by simpa using h1, fun u => by simp [zaK, hs, h2]⟩
theorem zkW {κ α : Type} [DecidableEq κ] {s : κ} {p : κ → Bool} : ∀ {G : List (κ × α)}, alk s (G.filter fun q => p q.1) = if p s then alk s G else none
 | [] => by simp [alk]
 | q :: r => by
   have ih := zkW (s := s) (p := p) (G := r)
   rw [List.filter_cons]
   by_cases hq : p q.1 = true
   ·rw [if_pos hq]
    simp only [alk]
    by_cases hs : s = q.1
    ·rw [if_pos hs, if_pos hs, hs, if_pos hq]
    ·rw [if_neg hs, if_neg hs, ih]
   ·rw [if_neg hq, ih]
    simp only [alk]
    by_cases hs : s = q.1
    ·rw [hs, if_neg hq, if_neg hq]
    ·rw [if_neg hs]
theorem zho {κ α : Type} [DecidableEq κ] {s : κ} {G : List (κ × α)} (h : alk s G = none) : (G.filter fun q => decide (q.1 ≠ s)) = G := by
 rw [List.filter_eq_self]
 intro q hq
 rw [zeR] at h
 simp only [decide_eq_true_eq]
 exact fun e => h (e ▸ List.mem_map_of_mem hq)
theorem zhB {κ α : Type} [DecidableEq κ] {s : κ} {v : α} : ∀ {G : List (κ × α)}, ANodup G → alk s G = some v → G.Perm ((s, v) :: G.filter fun q => decide (q.1 ≠ s))
 | [], _, h => by simp [alk] at h
 | p :: r, hn, h => by
   have h1 := List.nodup_cons.1 hn
   simp only [alk] at h
   by_cases hs : s = p.1
   ·rw [if_pos hs] at h
    simp only [Option.some.injEq] at h
    have h2 : alk s r = none := by rw [zeR, hs]; exact h1.1
    rw [List.filter_cons, if_neg (by simp [hs]), zho h2, hs, ← h]
   ·rw [if_neg hs] at h
    rw [List.filter_cons, if_pos (by simp; exact fun e => hs e.symm)]
    exact (List.Perm.cons p (zhB h1.2 h)).trans (List.Perm.swap _ _ _)
end
section
variable {P : Program} {e : Env} {dst : Option Tmp} {ty : TypeId} {pos : String} {af : Array Edge} {g : Option (Nat × Bool)} {M : List MObj} {K : HVal → List MObj → Prop} {β : Type} {eb : β → HVal}
theorem zoZ [Tracks] {I : Imm} {M : List MObj} {w : World} (sz : Nat) (hs : Sat P I M w) : Sat P I (.arr (.slice none 0 0) sz [] :: M) w where
 imm := hs.imm
 obj m hm := by
  rcases List.mem_cons.1 hm with rfl | hm
  ·exact .inl ⟨rfl, rfl⟩
  ·exact hs.obj m hm
 nodup := by simp only [blocks, List.flatMap_cons, MObj.blocks, List.nil_append]; exact hs.nodup
 apart b hb := hs.apart b (by simpa only [blocks, List.flatMap_cons, MObj.blocks, List.nil_append] using hb)
 os := hs.os
 output := hs.output
 tape := hs.tape
 tab := hs.tab
 low := hs.low
theorem EOp.pre [Tracks] {M' : List MObj} {o : Oper} (hm : ∀ I F w, Sat P I (M ++ F) w → Sat P I (M' ++ F) w) (h : EOp P e M' o K) : EOp P e M o K := fun I F a w ho hs => h I F a w ho (hm I F w hs)
theorem EOp.post_perm [Tracks] {o : Oper} (h : EOp P e M o fun x N => ∃ N', N.Perm N' ∧ K x N') : EOp P e M o K := fun I F a w ho hs =>
 Oper.wp_noQ (fun _ _ ⟨v, x, M', J, h1, h2, ⟨N', h3, h4⟩, h5, h6⟩ => ⟨v, x, N', J, h1, h2, h4, h5, h6.perm (h3.append_right F)⟩) (h I F a w ho hs)
theorem zlN [Tracks] {x y : Operand} {t el : TypeId} {size bytes sz b2 : Nat} {zero z2 : Value} {d : TD} {A : List MObj} {G : Grp β} {s : Str} {ys : List β}
 (hf : Fits P t (.slice el) size bytes zero) (hel : Fits P el d sz b2 z2) (hz : z2.cells.size = sz) (hby : Nat.ble b2 100000 = true)
 (hx : zF e x = some (.raw (gV s G))) (hy : zF e y = some (.slice sz (ys.map eb))) (hfl : ∀ y ∈ ys.map eb, zbe (zn y) = true) (hlen : (gL s G).length + ys.length ≤ 1000000000)
 (hk : ∀ v', K (.raw v') (A ++ grp sz eb (zaK s (v', gL s G ++ ys) G))) : EOp P e (A ++ grp sz eb G) ⟨dst, .call ⟨.builtin .append, #[x, y], #[t, t]⟩, ty, pos, af, g⟩ K := by
 cases hq : alk s G with
 | none =>
   have h1 : gV s G = .slice none 0 0 := by unfold gV; rw [hq]; rfl
   have h2 : gL s G = [] := by unfold gL; rw [hq]; rfl
   rw [h1] at hx
   rw [h2, List.nil_append] at hk
   refine EOp.pre (M' := .arr (.slice none 0 0) sz [] :: (A ++ grp sz eb G)) (fun I F w hs => zoZ sz hs) (EOp.post_perm ?_)
   refine zay (i := 0) hf hel hz hby hx hy rfl hfl (by rw [h2] at hlen; simpa using hlen) fun v' => ⟨_, ?_, hk v'⟩
   rw [zkg hq]
   simp only [List.set_cons_zero, grp, List.map_append, List.map_cons, List.map_nil, List.nil_append]
   rw [← List.append_assoc]
   exact (List.perm_append_comm (l₁ := [MObj.arr v' sz (ys.map eb)]) (l₂ := A ++ G.map fun p => MObj.arr p.2.1 sz (p.2.2.map eb)))
 | some q =>
   obtain ⟨v, l⟩ := q
   have h1 : gV s G = v := by unfold gV; rw [hq]; rfl
   have h2 : gL s G = l := by unfold gL; rw [hq]; rfl
   obtain ⟨n, h3, h4⟩ := zpl hq
   rw [h1] at hx
   rw [h2] at hk hlen
   have h5 : (A ++ grp sz eb G)[A.length + n]? = some (.arr v sz (l.map eb)) := by
    rw [List.getElem?_append_right (by omega), Nat.add_sub_cancel_left]
    simp [grp, h3]
   refine zay (i := A.length + n) hf hel hz hby hx hy h5 hfl (by simpa using hlen) fun v' => ?_
   have h6 : (A ++ grp sz eb G).set (A.length + n) (.arr v' sz (l.map eb ++ ys.map eb)) = A ++ grp sz eb (zaK s (v', l ++ ys) G) := by
    rw [List.set_append_right _ _ (by omega), Nat.add_sub_cancel_left, h4]
    simp [grp, List.map_set]
   rw [h6]
   exact hk v'
theorem Ghost.grp_take [Tracks] {A : List MObj} {G G' : Grp β} {s : Str} {sz : Nat} (hn : ANodup G) (hG : alk s G = alk s G') : Ghost e (A ++ grp sz eb G) e (.arr (gV s G') sz ((gL s G').map eb) :: (A ++ grp sz eb (G.filter fun q => decide (q.1 ≠ s)))) := by
 cases hq : alk s G with
 | none =>
   have h1 : gV s G' = .slice none 0 0 := by unfold gV; rw [← hG, hq]; rfl
   have h2 : gL s G' = [] := by unfold gL; rw [← hG, hq]; rfl
   rw [h1, h2, zho hq]
   exact Ghost.arr_nil sz
 | some q =>
   obtain ⟨v, l⟩ := q
   have h1 : gV s G' = v := by unfold gV; rw [← hG, hq]; rfl
   have h2 : gL s G' = l := by unfold gL; rw [← hG, hq]; rfl
   rw [h1, h2]
   refine Ghost.perm ?_
   have h3 := ((zhB hn hq).map fun p => MObj.arr p.2.1 sz (p.2.2.map eb)).append_left A
   refine h3.trans ?_
   simp only [List.map_cons, grp]
   exact List.perm_middle
end
end
section
section
variable {κ α γ : Type} [DecidableEq κ]
theorem VisOk.fresh {L E : List (κ × α)} {vis : List Nat} (h : VisOk L vis E) (hn : ANodup L) {j : Nat} {q : κ × α} (hj : L[j]? = some q) (hv : j ∉ vis) : alk q.1 E = none := by
 rw [zeR]
 intro hm
 obtain ⟨q', h1, h2⟩ := List.mem_map.1 hm
 have h3 : some q' ∈ E.map some := List.mem_map_of_mem h1
 rw [h.eq] at h3
 obtain ⟨j', h4, h5⟩ := List.mem_map.1 h3
 have e : j' = j := znD hn (a := q.1) (by rw [List.getElem?_map, h5]; simp [h2]) (by rw [List.getElem?_map, hj]; rfl)
 exact hv (e ▸ h4)
theorem ANodup.perm {A B : Type} {E L : List (A × B)} (hn : ANodup L) (hp : E.Perm L) : ANodup E := (hp.map (fun p : A × B => p.1)).nodup_iff.2 hn
theorem zrs {E L : List (κ × α)} (hp : E.Perm L) (hn : ANodup L) (m : κ) : alk m E = alk m L := by
 have hne : ANodup E := hn.perm hp
 cases h : alk m L with
 | none =>
   rw [zeR] at h ⊢
   exact fun hm => h ((hp.map (·.1)).mem_iff.1 hm)
 | some v => exact (zhF hne).1 (hp.mem_iff.2 ((zhF hn).2 h))
theorem zl9 (g : α → γ) (m : κ) : ∀ (E : List (κ × α)), alk m (E.map fun q => (q.1, g q.2)) = (alk m E).map g
 | [] => rfl
 | p :: r => by
   have ih := zl9 g m r
   simp only [List.map_cons, alk]
   by_cases h : m = p.1
   ·rw [if_pos h, if_pos h]; rfl
   ·rw [if_neg h, if_neg h, ih]
theorem ANodup.map {A B C : Type} (g : B → C) {E : List (A × B)} (h : ANodup E) : ANodup (E.map fun q => (q.1, g q.2)) := by
 unfold ANodup at *; rw [List.map_map]; exact h
end
theorem zn3 (s : Str) : ∀ (l : List Str) (k : Int), zcP s l k = -1 ∨ (k ≤ zcP s l k ∧ zcP s l k < k + l.length)
 | [], k => .inl rfl
 | x :: r, k => by
   simp only [zcP]
   by_cases h : s = x
   ·rw [if_pos h]; right; simp; omega
   ·rw [if_neg h]
    rcases zn3 s r (k + 1) with h' | h'
    ·exact .inl h'
    ·right; simp only [List.length_cons]; omega
theorem zl7 {trust : List Str} {n : Int} : ∀ (l : List Play) (B : List (Str × Int)), ANodup B → (∀ q ∈ B, 0 ≤ q.2 ∧ q.2 < trust.length) → ANodup (l.foldl (zds trust n) B) ∧ ∀ q ∈ l.foldl (zds trust n) B, 0 ≤ q.2 ∧ q.2 < trust.length
 | [], B, h1, h2 => ⟨h1, h2⟩
 | p :: r, B, h1, h2 => by
   refine zl7 r (zds trust n B p) ?_ ?_
   ·unfold zds; split
    ·exact h1
    ·split
     ·exact h1.put
     ·exact h1
   ·unfold zds; split
    ·exact h2
    ·rename_i hc
     split
     ·intro q hq
      rcases zfC hq with rfl | hq
      ·rcases zn3 p.Source trust 0 with h | h
       ·exfalso; exact hc (.inr (by rw [h]; decide))
       ·dsimp only; omega
      ·exact h2 q hq
     ·exact h2
theorem zh1 (l : List Play) (trust : List Str) (n : Int) : ANodup (zd5 l trust n) := (zl7 l [] ANodup.nil (fun q h => by cases h)).1
theorem zqi {l : List Play} {trust : List Str} {n : Int} {q : Str × Int} (h : q ∈ zd5 l trust n) : 0 ≤ q.2 ∧ q.2 < trust.length := (zl7 l [] ANodup.nil (fun q h => by cases h)).2 q h
abbrev zk7 (trust : List Str) (E : List (Str × Int)) : List (Str × Str) := E.map fun q => (q.1, trust.getD q.2.toNat [])
theorem zq7 {trust : List Str} {L E : List (Str × Int)} {vis : List Nat} (h : VisOk L vis E) (hn : ANodup L) {j : Nat} {q : Str × Int} (hj : L[j]? = some q) (hv : j ∉ vis) : zaK q.1 (trust.getD q.2.toNat []) (zk7 trust E) = zk7 trust (E ++ [q]) := by
 rw [zkg]
 ·simp
 ·have := zl9 (fun k : Int => trust.getD k.toNat []) q.1 E
  rw [this, h.fresh hn hj hv]; rfl
theorem zrR {l : List Play} {trust : List Str} {n : Int} {E : List (Str × Int)} (hp : E.Perm (zd5 l trust n)) (m : Str) : alk m (zk7 trust E) = zjQ l trust n m := by
 have := zl9 (fun k : Int => trust.getD k.toNat []) m E
 rw [this, zrs hp (zh1 _ _ _)]; rfl
theorem zpA {l : List Play} {trust : List Str} {n : Int} {E : List (Str × Int)} (hp : E.Perm (zd5 l trust n)) : ANodup (zk7 trust E) :=
 ANodup.map (fun k : Int => trust.getD k.toNat []) ((zh1 _ _ _).perm hp)
/-! groups of statistics -/
structure GOk (E : List (Of2 × Int)) (G : Grp StatS) : Prop where
 nd : ANodup G
 raw : ∀ s, gL s G = zbQ E s
theorem GOk.nil : GOk [] [] := ⟨ANodup.nil, fun s => rfl⟩
theorem ziu (E : List (Of2 × Int)) (q : Of2 × Int) (s : Str) : zbQ (E ++ [q]) s = zbQ E s ++ if q.1.1 = s ∧ q.2 ≠ 0 then [⟨q.1.2, q.2⟩] else [] := by
 unfold zbQ
 rw [List.filter_append, List.map_append, List.filter_cons]
 by_cases h : q.1.1 = s ∧ q.2 ≠ 0
 ·rw [if_pos h, if_pos (by simpa using h)]; rfl
 ·rw [if_neg h, if_neg (by simpa using h)]; rfl
theorem GOk.skip {E : List (Of2 × Int)} {G : Grp StatS} (h : GOk E G) {q : Of2 × Int} (hq : q.2 = 0) : GOk (E ++ [q]) G :=
 ⟨h.nd, fun s => by rw [ziu, if_neg (by simp [hq]), List.append_nil, h.raw]⟩
theorem ztO (s t : Str) (v : Value) (l : List StatS) (G : Grp StatS) : gL t (zaK s (v, l) G) = if t = s then l else gL t G := by
 unfold gL; rw [zl6]; split <;> rfl
theorem GOk.put {E : List (Of2 × Int)} {G : Grp StatS} (h : GOk E G) {q : Of2 × Int} (hq : ¬ q.2 = 0) (v : Value) : GOk (E ++ [q]) (zaK q.1.1 (v, gL q.1.1 G ++ [⟨q.1.2, q.2⟩]) G) := by
 refine ⟨h.nd.put, fun s => ?_⟩
 rw [ztO, ziu]
 by_cases hs : s = q.1.1
 ·rw [if_pos hs, if_pos ⟨hs.symm, hq⟩, hs, h.raw]
 ·rw [if_neg hs, if_neg (fun e => hs e.1.symm), List.append_nil, h.raw]
theorem zj5 (E : List (Of2 × Int)) (s : Str) : (zbQ E s).length ≤ E.length := by
 unfold zbQ; rw [List.length_map]; exact List.length_filter_le _ _
theorem ziz {E c : List (Of2 × Int)} (h : E.Perm c) (s : Str) : (zbQ E s).Perm (zbQ c s) := (h.filter _).map _
theorem zqO {c : List (Of2 × Int)} (h : ANodup c) (s : Str) {x y : StatS} (hx : x ∈ zbQ c s) (hy : y ∈ zbQ c s) (e : x.Name = y.Name) : x = y := by
 unfold zbQ at hx hy
 obtain ⟨p, hp, rfl⟩ := List.mem_map.1 hx
 obtain ⟨p', hp', rfl⟩ := List.mem_map.1 hy
 have h1 := List.mem_filter.1 hp
 have h2 := List.mem_filter.1 hp'
 have k1 : p.1.1 = s := by have := h1.2; simp only [Bool.and_eq_true, beq_iff_eq] at this; exact this.1
 have k2 : p'.1.1 = s := by have := h2.2; simp only [Bool.and_eq_true, beq_iff_eq] at this; exact this.1
 have k3 : p.1 = p'.1 := Prod.ext (k1.trans k2.symm) e
 have a1 := (zhF h (x := p.1) (v := p.2)).1 h1.1
 have a2 := (zhF h (x := p'.1) (v := p'.2)).1 h2.1
 rw [← k3, a1] at a2
 have k4 : p.2 = p'.2 := Option.some.inj a2
 have k5 : p.1.2 = p'.1.2 := e
 rw [k4, k5]
theorem zn6 {E c : List (Of2 × Int)} (hE : E.Perm c) (hn : ANodup c) {G : Grp StatS} (hG : GOk E G) {s : Str} {l' : List StatS} (hp : l'.Perm (gL s G)) (hw : l'.Pairwise fun a b => ¬ zlX b a < 0) : l' = zfr c s := by
 unfold zfr
 rw [hG.raw] at hp
 exact zlD znB (fun x y hx hy e => zqO hn s hx hy (zeZ.1 e)) (hp.trans (ziz hE s)) hw
theorem zok {E c : List (Of2 × Int)} (hE : E.Perm c) {G : Grp StatS} (hG : GOk E G) (s : Str) : (gL s G).length = (zbQ c s).length := by
 rw [hG.raw]; exact (ziz hE s).length_eq
abbrev zfg (G : Grp StatS) (N : List Str) : Grp StatS := G.filter fun q => !(N.contains q.1)
theorem zr6 (G : Grp StatS) : zfg G [] = G := by unfold zfg; rw [List.filter_eq_self]; simp
theorem zrL {G : Grp StatS} {N : List Str} {s : Str} (h : s ∉ N) : alk s (zfg G N) = alk s G := by
 have := zkW (s := s) (p := fun k => !(N.contains k)) (G := G)
 unfold zfg
 rw [this, if_pos (by simpa using h)]
theorem zri (G : Grp StatS) (N : List Str) (s : Str) : (zfg G N).filter (fun q => decide (q.1 ≠ s)) = zfg G (N ++ [s]) := by
 unfold zfg
 rw [List.filter_filter]
 refine List.filter_congr fun q _ => ?_
 by_cases h1 : q.1 ∈ N <;> by_cases h2 : q.1 = s <;> simp [h1, h2]
theorem zpV {G : Grp StatS} {N : List Str} (h : ANodup G) : ANodup (zfg G N) := by
 unfold ANodup at *
 exact h.sublist ((List.filter_sublist).map _)
theorem zpN {l : List Str} (hn : l.Nodup) {k : Nat} {s : Str} (h : l[k]? = some s) : s ∉ l.take k := by
 intro hm
 obtain ⟨j, hj⟩ := List.getElem?_of_mem hm
 have hjk : j < k := by have := zN hj; simp at this; omega
 rw [List.getElem?_take_of_lt hjk] at hj
 have := znD hn hj h
 omega
theorem zig (l : List Str) : (zbj l).Perm l := List.mergeSort_perm _ _
theorem zpO {c : List (Of2 × Int)} {S : List Str} {q : Of2 × Int} (hq : q ∈ c) (ho : out q.2 (-100000) 100000 = true) : zgd c S = true := by
 unfold zgd; rw [Bool.or_eq_true]; left; rw [List.any_eq_true]; exact ⟨q, hq, ho⟩
theorem zpP {c : List (Of2 × Int)} {S : List Str} {s : Str} (hs : s ∈ S) (ho : 40 < (zbQ c s).length) : zgd c S = true := by
 unfold zgd; rw [Bool.or_eq_true]; right; rw [List.any_eq_true]; exact ⟨s, hs, by simpa using ho⟩
theorem zq9 {c : List (Of2 × Int)} {S : List Str} (h1 : ∀ q ∈ c, out q.2 (-100000) 100000 = false) (h2 : ∀ s ∈ S, ¬ 40 < (zbQ c s).length) : zgd c S = false := by
 unfold zgd; rw [Bool.or_eq_false_iff]
 constructor
 ·rw [List.any_eq_false]; intro q hq; rw [h1 q hq]; simp
 ·rw [List.any_eq_false]; intro s hs; simpa using h2 s hs
/-! lines -/
theorem zkp {s t : Str} {S : List Str} : t ∈ zaR s S ↔ t = s ∨ t ∈ S := by
 unfold zaR
 by_cases h : S.contains s = true
 ·rw [if_pos h]
  have : s ∈ S := by simpa using h
  constructor
  ·exact .inr
  ·rintro (rfl | h)
   ·exact this
   ·exact h
 ·rw [if_neg h]; simp; exact Or.comm
theorem zin {s : Str} {S : List Str} (h : S.Nodup) : (zaR s S).Nodup := by
 unfold zaR
 by_cases hc : S.contains s = true
 ·rw [if_pos hc]; exact h
 ·rw [if_neg hc]
  exact List.nodup_append.2 ⟨h, by simp, fun a ha b hb => by simp at hb; subst hb; intro e; subst e; simp at hc; exact hc ha⟩
theorem ztD (s : Str) (S : List Str) : (zaR s S).length ≤ S.length + 1 := by
 unfold zaR; split
 ·omega
 ·simp
structure LnOk (q : LnS) (n : Nat) : Prop where
 c : ANodup q.c
 S : q.S.Nodup
 k : ∀ s ∈ q.S, s.length ≤ 40
 cl : q.c.length ≤ n
 Sl : q.S.length ≤ n
 bd : ∀ e ∈ q.c, -(100000 * (n : Int)) ≤ e.2 ∧ e.2 ≤ 100000 * (n : Int)
theorem LnOk.val {q : LnS} {n : Nat} (h : LnOk q n) (s : Of2) : -(100000 * (n : Int)) ≤ (alk s q.c).getD 0 ∧ (alk s q.c).getD 0 ≤ 100000 * (n : Int) := by
 cases hq : alk s q.c with
 | none => simp; omega
 | some v => exact h.bd _ (zfm hq)
theorem LnOk.put {q : LnS} {n : Nat} (h : LnOk q n) {p : Play} (hp : playFault p = 0) : LnOk (zsL q p) (n + 1) := by
 obtain ⟨_, _, _, _, ⟨_, k2, _⟩, hb, _⟩ := zjy hp
 have hv := h.val (p.Player, p.Stat)
 refine ⟨h.c.put, zin h.S, fun s hs => ?_, Nat.le_trans (ztB _ _ _) (by have := h.cl; omega), Nat.le_trans (ztD _ _) (by have := h.Sl; omega), fun e he => ?_⟩
 ·rcases zkp.1 hs with rfl | hs
  ·exact zs9 k2
  ·exact h.k s hs
 ·rcases zfC he with rfl | he
  ·dsimp only; omega
  ·have := h.bd e he; omega
theorem LnOk.up {q : LnS} {n : Nat} (h : LnOk q n) : LnOk q (n + 1) :=
 ⟨h.c, h.S, h.k, by have := h.cl; omega, by have := h.Sl; omega, fun e he => by have := h.bd e he; omega⟩
theorem zo5 {l : List Play} {trust : List Str} {week n : Int} : ∀ (m : List Play) (q : LnS) (i : Nat), LnOk q i → (∀ x ∈ m, playFault x = 0) → LnOk (m.foldl (zgx l trust week n) q) (i + m.length)
 | [], q, i, h, _ => h
 | x :: m, q, i, h, hm => by
   have h1 : LnOk (zgx l trust week n q x) (i + 1) := by
    unfold zgx; split
    ·exact h.put (hm x List.mem_cons_self)
    ·exact h.up
   have := zo5 (l := l) (trust := trust) (week := week) (n := n) m _ (i + 1) h1 fun y hy => hm y (List.mem_cons_of_mem _ hy)
   rw [List.foldl_cons, List.length_cons, show i + (m.length + 1) = i + 1 + m.length by omega]
   exact this
theorem zsJ {l m : List Play} {trust : List Str} {week n : Int} (hm : ∀ x ∈ m, playFault x = 0) : LnOk (zen l trust week n m) m.length := by
 have := zo5 (l := l) (trust := trust) (week := week) (n := n) m ⟨[], []⟩ 0 ⟨ANodup.nil, List.nodup_nil, (fun s h => by cases h), Nat.le_refl _, Nat.le_refl _, fun e h => by cases h⟩ hm
 rw [Nat.zero_add] at this; exact this
theorem zr8 {l : List Play} {O : List (Str × Str)} {trust : List Str} {week n : Int} {x : Play} (hO : ∀ m, alk m O = zjQ l trust n m)
 (h : (((n < x.At ∨ ¬ x.Week = week) ∨ 0 < x.Undo) ∨ (alk (x.Source, x.No) (zim l n)).getD false = true) ∨ ¬ (alk x.Match O).getD [] = x.Source) : zjg l trust week n x = false := by
 rw [hO] at h
 simp only [zjg, zn1, Bool.not_eq_false', Bool.or_eq_true, decide_eq_true_eq, bne_iff_ne, ne_eq]
 exact h
theorem zr4 {l : List Play} {O : List (Str × Str)} {trust : List Str} {week n : Int} {x : Play} (hO : ∀ m, alk m O = zjQ l trust n m)
 (h : (((x.At ≤ n ∧ x.Week = week) ∧ x.Undo ≤ 0) ∧ (alk (x.Source, x.No) (zim l n)).getD false = false) ∧ (alk x.Match O).getD [] = x.Source) : zjg l trust week n x = true := by
 rw [hO] at h
 obtain ⟨⟨⟨⟨h1, h2⟩, h3⟩, h4⟩, h5⟩ := h
 simp only [zjg, zn1, h4, h5, h2, Bool.not_eq_true', Bool.or_eq_false_iff, decide_eq_false_iff_not, bne_self_eq_false, and_true]
 omega
def zhS (l : List Play) (t : List Str) (week n : Int) : Int := if orI [zcZ l, zeM t] != 0 then orI [zcZ l, zeM t] else if !(zkO week) || !(za4 n) then 1 else zoB l t week n
def zhL (l : List Play) (t : List Str) (week n : Int) : List LineS := if orI [zcZ l, zeM t] != 0 then [] else if !(zkO week) || !(za4 n) then [] else zoa l t week n
theorem okPT {l : List Play} {t : List Str} (h : orI [zcZ l, zeM t] = 0) : zcZ l = 0 ∧ zeM t = 0 := by
 rw [zsl] at h; split at h
 ·contradiction
 ·rename_i h1; exact ⟨by simpa using h1, h⟩
end
end Go.HL
section
namespace Go.HL
theorem zop (a b : List Asset) : zdy (a ++ b) = zdy a + zdy b := by simp [zdy]
theorem zma : ∀ {L : List Asset}, (∀ x ∈ L, -1000000 ≤ x.Value ∧ x.Value ≤ 1000000) → -1000000 * (L.length : Int) ≤ zdy L ∧ zdy L ≤ 1000000 * (L.length : Int)
 | [], _ => by simp [zdy]
 | x :: L, h => by
   have ih := zma (L := L) fun y hy => h y (List.mem_cons_of_mem _ hy)
   have hx := h x (by simp)
   have e : zdy (x :: L) = x.Value + zdy L := by simp [zdy]
   rw [e, List.length_cons]; omega
theorem zlh {l : List Asset} {pos : Str} {m : Int} {y : Asset} (h : y ∈ zed (ofP l pos) m) : y ∈ l := by
 unfold zed at h
 have h1 := List.mem_of_mem_take (List.mem_filter.1 h).1
 unfold ofP zfh at h1
 exact (List.mem_filter.1 ((zmY byValue).1 h1)).1
theorem zqc (o : List Asset) (m : Int) : (zed o m).length ≤ o.length := by
 unfold zed
 refine Nat.le_trans (List.length_filter_le _ _) ?_
 simp; omega
theorem ziv (f : Str → List Asset) {p : List Place} {i : Nat} {x : Place} (h : p[i]? = some x) : zaZ f (p.take (i + 1)) = zaZ f (p.take i) ++ zed (f x.Position) x.Many := by
 rw [zaI h]; simp [zaZ]
theorem zjb {f : Str → List Asset} {n : Nat} (hf : ∀ s, (f s).length ≤ n) : ∀ p : List Place, (zaZ f p).length ≤ n * p.length
 | [] => by simp [zaZ]
 | x :: p => by
   have ih := zjb hf p
   have h1 := zqc (f x.Position) x.Many
   have h2 := hf x.Position
   have e : zaZ f (x :: p) = zed (f x.Position) x.Many ++ zaZ f p := by simp [zaZ]
   rw [e, List.length_append, List.length_cons, Nat.mul_succ]; omega
theorem zn7 {f : Str → List Asset} {l : List Asset} (hf : ∀ s m y, y ∈ zed (f s) m → y ∈ l) {p : List Place} {y : Asset} (h : y ∈ zaZ f p) : y ∈ l := by
 unfold zaZ at h
 obtain ⟨x, _, hx⟩ := List.mem_flatMap.1 h
 exact hf _ _ y hx
/-- What a prefix of the places brings stays small. -/
theorem znI {f : Str → List Asset} {l : List Asset} {p : List Place} {i : Nat} (hf : ∀ s m y, y ∈ zed (f s) m → y ∈ l) (hn : ∀ s, (f s).length ≤ 12) (hp : p.length ≤ 10) (hv : ∀ x ∈ l, -1000000 ≤ x.Value ∧ x.Value ≤ 1000000) :
 (zaZ f (p.take i)).length ≤ 120 ∧ -120000000 ≤ zdy (zaZ f (p.take i)) ∧ zdy (zaZ f (p.take i)) ≤ 120000000 := by
 have h1 := zjb hn (p.take i)
 have h2 : (p.take i).length ≤ 10 := by simp; omega
 have h3 := zma (L := zaZ f (p.take i)) fun y hy => hv y (zn7 hf hy)
 have h4 : (zaZ f (p.take i)).length ≤ 120 := by omega
 omega
theorem zub {C l : List Asset} {k : Nat} (hC : ∀ y ∈ C, y ∈ l) (hn : C.length ≤ 12) (hv : ∀ x ∈ l, -1000000 ≤ x.Value ∧ x.Value ≤ 1000000) :
 ((C.take k).filter (fun y => decide (0 < y.Value))).length ≤ 12 ∧ -12000000 ≤ zdy ((C.take k).filter (fun y => decide (0 < y.Value))) ∧ zdy ((C.take k).filter (fun y => decide (0 < y.Value))) ≤ 12000000 := by
 have h1 := List.length_filter_le (fun y : Asset => decide (0 < y.Value)) (C.take k)
 have h2 : (C.take k).length ≤ 12 := by simp; omega
 have h3 := zma (L := (C.take k).filter (fun y => decide (0 < y.Value))) fun y hy => hv y (hC y (List.mem_of_mem_take (List.mem_filter.1 hy).1))
 omega
theorem zif {C : List Asset} {k : Nat} {y : Asset} (h : C[k]? = some y) : (C.take (k + 1)).filter (fun y => decide (0 < y.Value)) = (C.take k).filter (fun y => decide (0 < y.Value)) ++ if 0 < y.Value then [y] else [] := by
 rw [zaI h, List.filter_append]
 by_cases hy : 0 < y.Value <;> simp [hy]
theorem zmZ {o : List Asset} {m : Int} {N : Nat} (hN : (if (o.length : Int) < m then (o.length : Int) else m) = (N : Int)) : zed o m = ((o.take N).drop 0).filter (fun y => decide (0 < y.Value)) := by
 unfold zed
 have : (min m (o.length : Int)).toNat = N := by split at hN <;> omega
 rw [this, List.drop_zero]
def zhg (l : List Asset) (p : List Place) : Int := orI [zcT l, zcU p]
theorem ztg {l : List Asset} {p : List Place} (h : zhg l p = 0) : zcT l = 0 ∧ zcU p = 0 := zod h
def zqb (l : List Asset) (p : List Place) : Int := zdy (zaZ (ofP l) p)
theorem zrC {a b c : Int} (h : orI [a, b, c] = 0) : a = 0 ∧ b = 0 ∧ c = 0 := by
 simp only [orI] at h
 split at h
 ·exact absurd h (by assumption)
 ·split at h
  ·exact absurd h (by assumption)
  ·split at h
   ·exact absurd h (by assumption)
   ·exact ⟨by omega, by omega, by omega⟩
end Go.HL
namespace Go.HL
end Go.HL
namespace Go.HL
end Go.HL
end
namespace Go.HL
section
/-- The state of a loop that draws: the list that grows, how many were drawn. -/
structure GL (α : Type) where
 u : Value
 out : List α
 a : Nat
structure GLok {α : Type} (P : α → Prop) (n m : Nat) (q : GL α) : Prop where
 len : q.out.length ≤ n
 all : ∀ x ∈ q.out, P x
 a : q.a ≤ m
section
variable {α : Type} {P : α → Prop}
theorem GLok.add {n m m' : Nat} {u u' : Value} {out : List α} {a1 a2 : Nat} {x : α} (h : GLok P n m ⟨u, out, a1⟩) (hx : P x) (ha : a2 ≤ m') : GLok P (n + 1) m' ⟨u', out ++ [x], a2⟩ :=
 ⟨by have := h.len; simp at *; omega, fun y hy => by
  rcases List.mem_append.1 hy with hy | hy
  ·exact h.all y hy
  ·simp at hy; subst hy; exact hx, ha⟩
theorem GLok.same {n m m' : Nat} {u : Value} {out : List α} {a1 a2 : Nat} (h : GLok P n m ⟨u, out, a1⟩) (ha : a2 ≤ m') : GLok P (n + 1) m' ⟨u, out, a2⟩ :=
 ⟨by have := h.len; dsimp only at *; omega, h.all, ha⟩
theorem zft {l : List α} {j : Nat} {y : α} (h : ∀ x ∈ l, P x) (hy : P y) : ∀ x ∈ l.set j y, P x := fun x hx => by
 rcases zpz hx with rfl | hx
 ·exact hy
 ·exact h x hx
end
theorem zk6 : Sh [] := by simp [Sh]
def zfJ : Asset := ⟨[97], [103, 107], 5⟩
def zhy : Place := ⟨[103, 107], 1⟩
theorem ztT : zhg [zfJ] [zhy] = 0 := by kernel_rfl
theorem znz : zaZ (ofP [zfJ]) [zhy] = [zfJ] := by kernel_rfl
theorem ztw : zqb [zfJ] [zhy] = 5 := by unfold zqb; rw [znz]; rfl
theorem zrl : zli (zaZ (ofP [zfJ]) [zhy]) = [[97]] := by rw [znz]; simp [zli, zbj, zfJ]
end
section
structure PairS where
 Name : Str
 Val : Str
end
section

end
section
open Op (bytesLess)
end
section

end
section

end
section

end
section

end
section

end
section
def zhl {α : Type} (e : α → HVal) (a b : α) : Bool := zgA (zn (e a)) (zn (e b))
end
section

end
section
structure Hall where
 Teams : List Str
 Players : List Str
 Budget : Int
 Places : Int
structure Sale where
 Player : Str
 Team : Str
 Price : Int
def ziq : List Sale → Str → Int
 | [], _ => 0
 | x :: r, t => (if x.Team = t then x.Price else 0) + ziq r t
def many : List Sale → Str → Int
 | [], _ => 0
 | x :: r, t => (if x.Team = t then 1 else 0) + many r t
theorem zpG (l : List Sale) (x : Sale) (t : Str) : ziq (l ++ [x]) t = ziq l t + (if x.Team = t then x.Price else 0) := by
 induction l with
 | nil => simp [ziq]
 | cons y r ih => simp only [List.cons_append, ziq, ih]; omega
theorem zqI (l : List Sale) (x : Sale) (t : Str) : many (l ++ [x]) t = many l t + (if x.Team = t then 1 else 0) := by
 induction l with
 | nil => simp [many]
 | cons y r ih => simp only [List.cons_append, many, ih]; omega
abbrev zc6 := List (Str × HVal)
def lkI (L : zc6) (t : Str) : HVal := match zav t L with | some p => p.2 | none => .int .i64 0
theorem zf0 {s t : Str} {v : HVal} : ∀ {L : zc6}, zav s L = none → zav t (L ++ [(s, v)]) = if t = s then some (L.length, v) else zav t L
 | [], _ => by by_cases h : t = s <;> simp [zav, h]
 | (k, h) :: r, hn => by
   simp only [zav] at hn
   by_cases hk : s = k
   ·rw [if_pos hk] at hn; cases hn
   ·rw [if_neg hk] at hn
    have hr : zav s r = none := by cases hq : zav s r with
     | none => rfl
     | some p => rw [hq] at hn; cases hn
    have ih := zf0 (t := t) (v := v) hr
    simp only [List.cons_append, zav]
    by_cases ht : t = k
    ·have : ¬ t = s := fun e => hk (e ▸ ht)
     rw [if_pos ht, if_neg this, if_pos ht]
    ·rw [if_neg ht, ih]
     by_cases hs : t = s
     ·rw [if_pos hs, if_pos hs]; simp
     ·rw [if_neg hs, if_neg hs, if_neg ht]
theorem zmP {s t : Str} {v : HVal} : ∀ {L : zc6} {j : Nat} {h : HVal}, zav s L = some (j, h) → (zav t (L.set j (s, v))) = if t = s then some (j, v) else zav t L
 | [], j, h, hh => by simp [zav] at hh
 | (k, x) :: r, j, h, hh => by
   simp only [zav] at hh
   by_cases hk : s = k
   ·rw [if_pos hk] at hh
    simp only [Option.some.injEq, Prod.mk.injEq] at hh
    obtain ⟨rfl, rfl⟩ := hh
    subst hk
    simp only [List.set_cons_zero, zav]
    by_cases ht : t = s
    ·rw [if_pos ht, if_pos ht]
    ·rw [if_neg ht, if_neg ht, if_neg ht]
   ·rw [if_neg hk] at hh
    cases hq : zav s r with
    | none => rw [hq] at hh; cases hh
    | some p =>
      rw [hq] at hh
      simp only [Option.map_some, Option.some.injEq, Prod.mk.injEq] at hh
      obtain ⟨rfl, rfl⟩ := hh
      have ih := zmP (t := t) (v := v) (L := r) (j := p.1) (h := p.2) (by rw [hq])
      simp only [List.set_cons_succ, zav]
      by_cases ht : t = k
      ·have : ¬ t = s := fun e => hk (e ▸ ht)
       rw [if_pos ht, if_neg this, if_pos ht]
      ·rw [if_neg ht, ih, if_neg ht]
       by_cases hs : t = s
       ·rw [if_pos hs, if_pos hs]; rfl
       ·rw [if_neg hs, if_neg hs]
theorem zmn (s t : Str) (v : HVal) (L : zc6) : (zav t (zdO s v L)).map (·.2) = if t = s then some v else (zav t L).map (·.2) := by
 unfold zdO
 cases hq : zav s L with
 | none => simp only []; rw [zf0 hq]; split <;> rfl
 | some p => obtain ⟨j, h⟩ := p; simp only []; rw [zmP hq]; split <;> rfl
theorem zrc (L : zc6) (t : Str) : lkI L t = ((zav t L).map (·.2)).getD (.int .i64 0) := by
 unfold lkI; cases zav t L <;> rfl
theorem zl4 (s t : Str) (v : HVal) (L : zc6) : lkI (zdO s v L) t = if t = s then v else lkI L t := by
 rw [zrc, zmn, zrc]; split <;> rfl
theorem zlQ (L : zc6) (t : Str) : (zav t L).isSome = ((zav t L).map (·.2)).isSome := by cases zav t L <;> rfl
/-- An auction after sales. -/
structure AucOk (h : Hall) (l : List Sale) (S : List Str) (L H : zc6) : Prop where
 sold : ∀ s, S.contains s = l.any (fun y => y.Player == s)
 left : ∀ t, h.Teams.contains t = true → lkI L t = .int .i64 (h.Budget - ziq l t)
 got : ∀ t, lkI H t = .int .i64 (many l t)
theorem ziw (s t : Str) (l : List Str) : (zaR s l).contains t = (l.contains t || s == t) := by
 unfold zaR
 by_cases hc : l.contains s = true
 ·rw [if_pos hc]
  by_cases h : s = t
  ·subst h; rw [hc]; simp
  ·have : (s == t) = false := by simpa using h
   simp [this]
 ·rw [if_neg hc, List.contains_eq_any_beq, List.any_append, ← List.contains_eq_any_beq]
  congr 1
  simp only [List.any_cons, List.any_nil, Bool.or_false]
  rw [Bool.eq_iff_iff, beq_iff_eq, beq_iff_eq]; exact eq_comm
theorem AucOk.add {h : Hall} {l : List Sale} {S : List Str} {L H : zc6} (ok : AucOk h l S L H) (x : Sale) (hx : h.Teams.contains x.Team = true) :
 AucOk h (l ++ [x]) (zaR x.Player S) (zdO x.Team (.int .i64 (h.Budget - ziq l x.Team - x.Price)) L) (zdO x.Team (.int .i64 (many l x.Team + 1)) H) where
 sold s := by rw [ziw, ok.sold, List.any_append]; simp
 left t ht := by
  rw [zl4, zpG]
  by_cases e : t = x.Team
  ·subst e; rw [if_pos rfl, if_pos rfl]; congr 1; omega
  ·rw [if_neg e, if_neg (fun q => e q.symm), ok.left t ht]; congr 1; omega
 got t := by
  rw [zl4, zqI]
  by_cases e : t = x.Team
  ·subst e; rw [if_pos rfl, if_pos rfl]
  ·rw [if_neg e, if_neg (fun q => e q.symm), ok.got t]; congr 1; omega
end
section
/-! numbers in decimal -/
def dig (c : UInt8) : Bool := decide (48 ≤ c.toNat) && decide (c.toNat ≤ 57)
def zfz (s : Str) : Str := match s with | 45 :: r => r | _ => s
def numC (s : Str) (n : Int) : Bool := decide ((zfz s = [] ∨ n < ((zfz s).length : Int)) ∨ ((((zfz s).head?).getD 0).toNat : Int) = 48 ∧ ((1 : Int) < ((zfz s).length : Int) ∨ (zfz s).length < s.length))
def numB (s : Str) (n : Int) : Bool := !(numC s n) && (zfz s).all dig
def numV (s : Str) : Int := (Lib.atoi s).getD 0
def zpQ (s : Str) (n : Int) : Int := if numB s n then numV s else 0
/-- The map of limits. -/
def LimOk (l : List PairS) (L : zc6) : Prop := ∀ t, (zav t L).map (·.2) = (l.find? (fun p => p.Name == t)).map (fun p => .int .i64 (zpQ p.Val 9))
theorem LimOk.add {l : List PairS} {L : zc6} (ok : LimOk l L) (x : PairS) (hx : l.any (fun y => y.Name == x.Name) = false) : LimOk (l ++ [x]) (zdO x.Name (.int .i64 (zpQ x.Val 9)) L) := fun t => by
 rw [zmn, List.find?_append, ok t]
 by_cases e : t = x.Name
 ·subst e
  rw [if_pos rfl]
  have : l.find? (fun p => p.Name == x.Name) = none := by
   rw [List.find?_eq_none]; intro y hy
   have := List.any_eq_false.1 hx y hy
   simpa using this
  rw [this]; simp
 ·rw [if_neg e]
  have hn : (x.Name == t) = false := by simpa using fun q => e q.symm
  cases l.find? (fun p => p.Name == t) with
  | none => simp [List.find?, hn]
  | some p => simp
theorem LimOk.is {l : List PairS} {L : zc6} (ok : LimOk l L) (t : Str) : (zav t L).isSome = l.any (fun y => y.Name == t) := by
 rw [zlQ, ok t]
 rw [Bool.eq_iff_iff]; simp
structure Top where
 team : Str
 first : Int
 second : Int
def Top.step (q : Top) (t : Str) (n : Int) : Top := if q.first < n then ⟨t, n, q.first⟩ else ⟨q.team, q.first, max q.second n⟩
end
section
section
variable {h : Hall} {l : List Sale} {x : Sale} (h6 : x.Player ∈ h.Players ∧ x.Team ∈ h.Teams) (h8 : ∀ y ∈ l, ¬ y.Player = x.Player)
include h6 h8
end
end
section

end
section
theorem Ghost.clear [Tracks] {e : Env} : ∀ {M : List MObj}, Ghost e M e []
 | [] => Ghost.perm (List.Perm.refl _)
 | _ :: _ => Ghost.trans Ghost.drop Ghost.clear
theorem Ghost.last [Tracks] {e : Env} {m : MObj} : ∀ {R : List MObj}, Ghost e (R ++ [m]) e [m]
 | [] => Ghost.perm (List.Perm.refl _)
 | x :: R => Ghost.trans (M' := R ++ [m]) Ghost.drop Ghost.last
theorem Ghost.only [Tracks] {e : Env} {M : List MObj} {i : Nat} {m : MObj} (h : M[i]? = some m) : Ghost e M e [m] :=
 Ghost.trans (Ghost.perm ((ze8 h).trans (List.perm_append_comm (l₁ := [m]) (l₂ := M.eraseIdx i)))) Ghost.last
end
section
theorem Ghost.suffix [Tracks] {e : Env} {M : List MObj} : ∀ {R : List MObj}, Ghost e (R ++ M) e M
 | [] => Ghost.perm (List.Perm.refl _)
 | x :: R => Ghost.trans (M' := R ++ M) Ghost.drop Ghost.suffix
section
variable {P : Program} {e : Env} {dst : Option Tmp} {ty : TypeId} {pos : String} {af : Array Edge} {g : Option (Nat × Bool)} {M : List MObj} {K : HVal → List MObj → Prop}
theorem zoI [Tracks] {x y : Operand} {t kt et : TypeId} {size bytes s2 b2 s3 b3 : Nat} {zero z2 : Value} {d : TD} {i b : Nat} {ls : zc6} {s : Str} {h : HVal}
 (hf : Fits P t (.map kt et) size bytes zero) (hkt : Fits P kt .str s2 b2 z2) (het : Fits P et d s3 b3 (.int .i64 0)) (hx : zF e x = some (.raw (.map (some b)))) (hy : zF e y = some (.str s)) (hm : M[i]? = some (.map b (sk ls)))
 (hv : lkI ls s = h) (hk : K h M) : EOp P e M ⟨dst, .lookup t x y false, ty, pos, af, g⟩ K := by
 refine zkR hf hkt het hx hy hm ?_
 show K (lkI ls s) M
 rw [hv]; exact hk
end
end
end Go.HL
namespace Go.Proofs.YtpcaaekefgkhjaaGreatDoor
set_option maxRecDepth 100000
set_option linter.unusedVariables false
set_option linter.unusedSimpArgs false
section
open Go.HL
theorem znp [Tracks] : KeyOk Tryz.prog 217 zh3 := zjv (cs := fun x : Num => zn (zh3 x)) zg2 zui (fun x y => ⟨rfl, ⟨_, _, _, _, ty9, rfl⟩, ⟨rfl, ⟨_, _, _, _, ty3, rfl⟩, trivial⟩⟩)
 (fun x y => by obtain ⟨a, b⟩ := x; obtain ⟨c, d⟩ := y; show (_ && (_ && true)) = _; rw [Bool.eq_iff_iff]; simp [eqH, Prod.mk.injEq]) (fun x => rfl)

theorem zqd [Tracks] : KeyOk Tryz.prog 219 eOf := zjv (cs := fun x : Of2 => zn (eOf x)) zih zvk (fun x y => ⟨rfl, ⟨_, _, _, _, ty9, rfl⟩, ⟨rfl, ⟨_, _, _, _, ty9, rfl⟩, trivial⟩⟩)
 (fun x y => by obtain ⟨a, b⟩ := x; obtain ⟨c, d⟩ := y; show (_ && (_ && true)) = _; rw [Bool.eq_iff_iff]; simp [eqH, Prod.mk.injEq]) (fun x => rfl)

/-- benchwarmer/base.Week -/
theorem zj9 [Tracks] {n : Int}  : ConP Tryz.prog 101 [.int .i64 n] (.bool (zkO n)) := by
 refine Con.of_body Tryz.func101 rfl Tryz.ntmps101 rfl rfl ?_
 refine za ?_
 refine das rfl ?_
 refine dn ?_
 refine za ?_
 refine dmv rfl ?_
 refine dq (zo zdD rfl (WeakL.refl _) zbc) ?_
 refine dq (zac rfl) ?_
 refine das rfl ?_
 refine dn ?_
 refine zl ?_
 refine zD rfl ?_
 rfl

/-- benchwarmer/play.playFault -/
theorem zkq [Tracks] {p : Play}  : ConP Tryz.prog 146 [zjK p] (.int .i64 (playFault p)) := by
 refine Con.of_body Tryz.func146 rfl Tryz.ntmps146 rfl rfl ?_
 refine za ?_
 refine dq (zas rfl rfl) ?_
 refine das rfl ?_
 refine dn ?_
 refine zj ?_
 refine zq ?_
 refine za ?_
 refine dq (zb zah rfl ty9 (by decide) rfl) ?_
 refine dq (zg ty9 rfl rfl rfl) ?_
 refine dq (zo ze9 rfl (WeakL.refl _) zbH) ?_
 refine dq (zac rfl) ?_
 refine das rfl ?_
 refine dn ?_
 refine zi rfl (fun h1 => ?_) (fun h2 => ?_)
 ·try simp at h1
  refine za ?_
  refine das rfl ?_
  refine dn ?_
  refine zl ?_
  refine zD rfl ?_
  show HVal.int .i64 _ = _
  simp_all [playFault]
 ·try simp at h2
  refine za ?_
  refine dq (zb zah rfl ty3 (by decide) rfl) ?_
  refine dq (zg ty3 rfl rfl rfl) ?_
  refine dq (zo zdD rfl (WeakL.refl _) zbc) ?_
  refine dmv rfl ?_
  refine dg rfl rfl (fun hc => ⟨_, OpenTo.refl _, zb zah rfl ty3 (by decide) rfl⟩) ?_
  refine dg rfl rfl (fun hc => ⟨_, OpenTo.upd (t := 13) rfl (hc) (OpenTo.refl _), zg ty3 rfl rfl rfl⟩) ?_
  refine dg rfl rfl (fun hc => ⟨_, OpenTo.upd (t := 14) rfl (hc) (OpenTo.refl _), zo zlV rfl (WeakL.refl _) zde⟩) ?_
  refine dg rfl rfl (fun hc => ⟨_, OpenTo.upd (t := 15) rfl (hc) (OpenTo.refl _), zac rfl⟩) ?_
  refine dq (zA rfl (.inl rfl) (.inr ⟨_, rfl, fun h => by simp_all⟩)) ?_
  refine dmv rfl ?_
  refine dg rfl rfl (fun hc => ⟨_, OpenTo.refl _, zb zah rfl ty3 (by decide) rfl⟩) ?_
  refine dg rfl rfl (fun hc => ⟨_, OpenTo.upd (t := 19) rfl (hc) (OpenTo.refl _), zg ty3 rfl rfl rfl⟩) ?_
  refine dg rfl rfl (fun hc => ⟨_, OpenTo.upd (t := 20) rfl (hc) (OpenTo.refl _), zo zsy rfl (WeakL.refl _) zj9⟩) ?_
  refine dg rfl rfl (fun hc => ⟨_, OpenTo.upd (t := 21) rfl (hc) (OpenTo.refl _), zac rfl⟩) ?_
  refine dq (zA rfl (.inl rfl) (.inr ⟨_, rfl, fun h => by simp_all⟩)) ?_
  refine das rfl ?_
  refine dn ?_
  refine zi rfl (fun h3 => ?_) (fun h4 => ?_)
  ·try simp at h3
   refine za ?_
   refine das rfl ?_
   refine dn ?_
   refine zl ?_
   refine zD rfl ?_
   show HVal.int .i64 _ = _
   simp_all [playFault]
  ·try simp at h4
   refine za ?_
   refine dq (zb zah rfl ty9 (by decide) rfl) ?_
   refine dq (zg ty9 rfl rfl rfl) ?_
   refine dq (zo ze9 rfl (WeakL.refl _) zbH) ?_
   refine dq (zac rfl) ?_
   refine dmv rfl ?_
   refine dg rfl rfl (fun hc => ⟨_, OpenTo.refl _, zb zah rfl ty9 (by decide) rfl⟩) ?_
   refine dg rfl rfl (fun hc => ⟨_, OpenTo.upd (t := 30) rfl (hc) (OpenTo.refl _), zg ty9 rfl rfl rfl⟩) ?_
   refine dg rfl rfl (fun hc => ⟨_, OpenTo.upd (t := 31) rfl (hc) (OpenTo.refl _), zo ze9 rfl (WeakL.refl _) zbH⟩) ?_
   refine dg rfl rfl (fun hc => ⟨_, OpenTo.upd (t := 32) rfl (hc) (OpenTo.refl _), zac rfl⟩) ?_
   refine dq (zA rfl (.inl rfl) (.inr ⟨_, rfl, fun h => by simp_all⟩)) ?_
   refine dmv rfl ?_
   refine dg rfl rfl (fun hc => ⟨_, OpenTo.refl _, zb zah rfl ty9 (by decide) rfl⟩) ?_
   refine dg rfl rfl (fun hc => ⟨_, OpenTo.upd (t := 36) rfl (hc) (OpenTo.refl _), zg ty9 rfl rfl rfl⟩) ?_
   refine dg rfl rfl (fun hc => ⟨_, OpenTo.upd (t := 37) rfl (hc) (OpenTo.refl _), zo ze9 rfl (WeakL.refl _) zbH⟩) ?_
   refine dg rfl rfl (fun hc => ⟨_, OpenTo.upd (t := 38) rfl (hc) (OpenTo.refl _), zac rfl⟩) ?_
   refine dq (zA rfl (.inl rfl) (.inr ⟨_, rfl, fun h => by simp_all⟩)) ?_
   refine das rfl ?_
   refine dn ?_
   refine zi rfl (fun h5 => ?_) (fun h6 => ?_)
   ·try simp at h5
    refine za ?_
    refine das rfl ?_
    refine dn ?_
    refine zl ?_
    refine zD rfl ?_
    show HVal.int .i64 _ = _
    simp_all [playFault]
   ·try simp at h6
    refine za ?_
    refine dq (zb zah rfl ty3 (by decide) rfl) ?_
    refine dq (zg ty3 rfl rfl rfl) ?_
    refine dq (zo zdD rfl (WeakL.refl _) zbc) ?_
    refine dmv rfl ?_
    refine dg rfl rfl (fun hc => ⟨_, OpenTo.refl _, zb zah rfl ty3 (by decide) rfl⟩) ?_
    refine dg rfl rfl (fun hc => ⟨_, OpenTo.upd (t := 46) rfl (hc) (OpenTo.refl _), zg ty3 rfl rfl rfl⟩) ?_
    refine dg rfl rfl (fun hc => ⟨_, OpenTo.refl _, zb zah rfl ty3 (by decide) rfl⟩) ?_
    refine dg rfl rfl (fun hc => ⟨_, OpenTo.upd (t := 48) rfl (hc) (OpenTo.refl _), zg ty3 rfl rfl rfl⟩) ?_
    have hN := zdK (n := p.No) (lo := 1) (hi := 3000) (by simp_all)
    refine dg rfl rfl (fun hc => by have hq := hc; (try simp at hq); exact ⟨_, OpenTo.upd (t := 49) rfl (hc) (OpenTo.refl _), zap rfl rfl (by omega) (by omega)⟩) ?_
    refine dg rfl rfl (fun hc => ⟨_, OpenTo.upd (t := 50) rfl (hc) (OpenTo.upd (t := 47) rfl (hc) (OpenTo.refl _)), zo zdD rfl (WeakL.refl _) zbc⟩) ?_
    refine dq (zA rfl (.inl rfl) (.inr ⟨_, rfl, fun h => by simp_all⟩)) ?_
    refine das rfl ?_
    refine dn ?_
    refine zi rfl (fun h7 => ?_) (fun h8 => ?_)
    ·try simp at h7
     refine za ?_
     refine das rfl ?_
     refine dn ?_
     refine zl ?_
     refine zD rfl ?_
     show HVal.int .i64 _ = _
     simp_all [playFault]
    ·try simp at h8
     refine za ?_
     refine dq (zb zah rfl ty3 (by decide) rfl) ?_
     refine dq (zg ty3 rfl rfl rfl) ?_
     refine dq (zae rfl rfl) ?_
     refine dmv rfl ?_
     refine dg rfl rfl (fun hc => ⟨_, OpenTo.refl _, zb zah rfl ty3 (by decide) rfl⟩) ?_
     refine dg rfl rfl (fun hc => ⟨_, OpenTo.upd (t := 58) rfl (hc) (OpenTo.refl _), zg ty3 rfl rfl rfl⟩) ?_
     refine dg rfl rfl (fun hc => ⟨_, OpenTo.upd (t := 59) rfl (hc) (OpenTo.refl _), zaD rfl rfl⟩) ?_
     refine dq (zA rfl (.inr ⟨_, rfl, fun h => by simp_all⟩) (.inl rfl)) ?_
     refine das rfl ?_
     refine dn ?_
     refine zi rfl (fun h9 => ?_) (fun h10 => ?_)
     ·try simp at h9
      refine za ?_
      refine das rfl ?_
      refine dn ?_
      refine zl ?_
      refine zD rfl ?_
      show HVal.int .i64 _ = _
      simp_all [playFault]
     ·try simp at h10
      refine zm ?_
      refine zy ?_
      refine zh ?_
      refine za ?_
      refine das rfl ?_
      refine dn ?_
      refine zl ?_
      refine zD rfl ?_
      show HVal.int .i64 _ = _
      simp_all [playFault]

/-- benchwarmer/play.byNo -/
theorem zoR [Tracks] {a b : Play}  : ConP Tryz.prog 147 [zjK a, zjK b] (.int .i64 (byNo a b)) := by
 refine Con.of_body Tryz.func147 rfl Tryz.ntmps147 rfl rfl ?_
 refine za ?_
 refine dq (zas rfl rfl) ?_
 refine dq (zas rfl rfl) ?_
 refine das rfl ?_
 refine dn ?_
 refine zaF (fun _ => True) [] mixed ?_
 refine ahp 0 rfl rfl (by kernel_rfl) (by kernel_rfl) (zb zah rfl ty9 (by decide) rfl) ?_
 refine ahp 1 rfl rfl (by kernel_rfl) (by kernel_rfl) (zg ty9 rfl rfl rfl) ?_
 refine ahp 2 rfl rfl (by kernel_rfl) (by kernel_rfl) (zb zah rfl ty9 (by decide) rfl) ?_
 refine ahp 3 rfl rfl (by kernel_rfl) (by kernel_rfl) (zg ty9 rfl rfl rfl) ?_
 refine ahp 4 rfl rfl (by kernel_rfl) (by kernel_rfl) (zo zhk rfl (WeakL.refl _) zbp) ?_
 refine ahp 5 rfl rfl (by kernel_rfl) (by kernel_rfl) (zb zah rfl ty3 (by decide) rfl) ?_
 refine ahp 6 rfl rfl (by kernel_rfl) (by kernel_rfl) (zg ty3 rfl rfl rfl) ?_
 refine ahp 7 rfl rfl (by kernel_rfl) (by kernel_rfl) (zb zah rfl ty3 (by decide) rfl) ?_
 refine ahp 8 rfl rfl (by kernel_rfl) (by kernel_rfl) (zg ty3 rfl rfl rfl) ?_
 refine ahp 9 rfl rfl (by kernel_rfl) (by kernel_rfl) (zo zlC rfl (WeakL.refl _) zcL) ?_
 refine ahp 10 rfl rfl (by kernel_rfl) (by kernel_rfl) (zG (hs := [_, _]) zbL ty3 rfl rfl (by decide) (by decide) rfl) ?_
 refine ahp 11 rfl rfl (by kernel_rfl) (by kernel_rfl) (zo zlb rfl (WeakL.refl _) (zel (l := [_, _]) (by simp))) ?_
 refine ahp 12 rfl rfl (by kernel_rfl) (by kernel_rfl) (zar rfl) ?_
 refine ahz (by kernel_rfl) ?_
 refine zl ?_
 refine zD rfl ?_
 rfl

/-- benchwarmer/play.CheckPlays -/
theorem zjV [Tracks] {l : List Play} (hl : l.length ≤ 1000000) : ConP Tryz.prog 99 [zhD l] (.int .i64 (zcZ l)) := by
 refine Con.of_body Tryz.func99 rfl Tryz.ntmps99 rfl rfl ?_
 refine za ?_
 refine das rfl ?_
 refine dn ?_
 refine zj ?_
 refine za ?_
 refine dmv rfl ?_
 refine dq (zK zeu rfl) ?_
 refine dq (zae rfl rfl) ?_
 refine dn ?_
 refine zi rfl (fun h1 => ?_) (fun h2 => ?_)
 ·try simp at h1
  refine za ?_
  refine das rfl ?_
  refine dn ?_
  refine zl ?_
  refine zbE Ghost.clear rfl ⟨?_, rfl⟩
  show HVal.int .i64 _ = _
  (rw [zcZ, if_pos (by omega)]; done)
 ·try simp at h2
  refine zm ?_
  refine zh ?_
  refine za ?_
  refine de rfl (zbx fun m14 => ?_)
  refine de rfl (zbx fun m15 => ?_)
  refine das rfl ?_
  refine das rfl ?_
  refine dn ?_
  refine za ?_
  refine das rfl ?_
  refine dn ?_
  refine zj ?_
  refine za ?_
  refine dmv rfl ?_
  refine dq (zK zeu rfl) ?_
  refine dmv rfl ?_
  refine dn ?_
  refine zq ?_
  refine zak [2, 5, 6, 7, 8, 9, 10, 18, 19, 20, 21, 22, 23, 24, 25, 26, 27, 28, 29, 30, 31, 32, 33, 34, 35, 36, 37, 38, 39, 40, 41, 42, 43, 44, 45, 46, 47, 48, 49, 50, 51, 52, 53, 54, 55, 56, 57, 58, 59, 60, 61, 62] (fun (k : Nat) => [(18, .int .i64 k), (5, .bool (zeP (l.take k)).c)]) (fun (k : Nat) => [.map m15 (sk (em (.int .i64) (zeP (l.take k)).W)), .map m14 (sk (zbh (zeP (l.take k)).S))]) (fun (k : Nat) => k ≤ l.length ∧ (zcp l 0 l = zcp l k (l.drop k))) (fun (k : Nat) => l.length - k) (0) ?_ ?_ ?_ ?_
  ·exact ⟨Nat.zero_le _, rfl⟩
  ·exact ⟨rfl, rfl, trivial⟩
  ·exact List.Perm.refl _
  ·intro k hinv
   obtain ⟨hk, hg⟩ := hinv
   refine za ?_
   refine dq (zS rfl rfl) ?_
   refine dn ?_
   refine zj ?_
   refine zi rfl (fun h3 => ?_) (fun h4 => ?_)
   ·try simp at h3
    obtain ⟨x, hx⟩ : ∃ x, l[k]? = some x := ⟨_, List.getElem?_eq_getElem h3⟩
    have hdx := zU hx
    rw [hdx] at hg
    refine zm ?_
    refine zh ?_
    refine zj ?_
    refine zq ?_
    refine za ?_
    refine dmv rfl ?_
    refine dq (zW zeu zah rfl rfl rfl (by assumption)) ?_
    refine dq (zH zah rfl rfl rfl rfl) ?_
    refine de rfl (zY zah rfl fun b7 => ?_)
    refine das rfl ?_
    refine de0 (zad zah rfl rfl rfl rfl rfl ?_)
    refine dn ?_
    refine zL (Ghost.fc0 7 rfl) ?_
    refine zj ?_
    refine za ?_
    refine dq (zH zah rfl rfl rfl rfl) ?_
    refine dq (zo zuJ rfl (WeakL.refl _) zkq) ?_
    refine das rfl ?_
    refine dn ?_
    refine za ?_
    refine dmv rfl ?_
    refine dq (zaD rfl rfl) ?_
    refine dn ?_
    refine zi rfl (fun h5 => ?_) (fun h6 => ?_)
    ·try simp at h5
     refine za ?_
     refine dmv rfl ?_
     refine das rfl ?_
     refine dn ?_
     refine zl ?_
     refine zbE Ghost.clear rfl ⟨?_, rfl⟩
     show HVal.int .i64 _ = _
     (rw [zmp (by omega) (by rw [hg, zcp, if_pos (by simpa using h5)]) (by simpa using h5)]; done)
    ·try simp at h6
     refine zm ?_
     refine zh ?_
     refine zj ?_
     refine zaF (fun _ => True) [] mixed ?_
     refine ahp 0 rfl rfl (by kernel_rfl) (by kernel_rfl) (zf rfl) ?_
     refine ahp 1 rfl rfl (by kernel_rfl) (by kernel_rfl) (zae rfl rfl) ?_
     refine ahp 2 rfl rfl (by kernel_rfl) (by kernel_rfl) (zf rfl) ?_
     refine ahg 3 rfl rfl (by kernel_rfl) (by kernel_rfl) rfl (fun hc => ⟨_, OpenTo.refl _, zH zah rfl rfl rfl rfl⟩) ?_
     refine ahg 4 rfl rfl (by kernel_rfl) (by kernel_rfl) rfl (fun hc => ⟨_, OpenTo.refl _, zf rfl⟩) ?_
     refine ahg 5 rfl rfl (by kernel_rfl) (by kernel_rfl) rfl (fun hc => ⟨_, OpenTo.refl _, zf rfl⟩) ?_
     refine ahg 6 rfl rfl (by kernel_rfl) (by kernel_rfl) rfl (fun hc => by have hq := hc; (try simp at hq); exact ⟨_, OpenTo.upd (t := 33) rfl (hc) (OpenTo.refl _), zap rfl rfl (by omega) (by omega)⟩) ?_
     refine ahg 7 rfl rfl (by kernel_rfl) (by kernel_rfl) rfl (fun hc => by have hq := hc; (try simp at hq); exact ⟨_, OpenTo.upd (t := 34) rfl (hc) (OpenTo.upd (t := 32) rfl (hc) (OpenTo.refl _)), zW (j := k - 1) (a := l.getD (k - 1) zlw) zeu zah rfl rfl (by omega) (getD_some (by omega))⟩) ?_
     refine ahg 8 rfl rfl (by kernel_rfl) (by kernel_rfl) rfl (fun hc => ⟨_, OpenTo.upd (t := 35) rfl (hc) (OpenTo.refl _), zH zah rfl rfl rfl rfl⟩) ?_
     refine ahg 9 rfl rfl (by kernel_rfl) (by kernel_rfl) rfl (fun hc => ⟨_, OpenTo.upd (t := 36) rfl (hc) (OpenTo.upd (t := 31) rfl (hc) (OpenTo.refl _)), zo zu4 rfl (WeakL.refl _) zoR⟩) ?_
     refine ahg 10 rfl rfl (by kernel_rfl) (by kernel_rfl) rfl (fun hc => ⟨_, OpenTo.upd (t := 37) rfl (hc) (OpenTo.refl _), zcX rfl rfl⟩) ?_
     refine ahp 11 rfl rfl (by kernel_rfl) (by kernel_rfl) (zA rfl (.inr ⟨_, rfl, fun h => by simp_all⟩) (.inl rfl)) ?_
     refine ahz (by kernel_rfl) ?_
     refine zi rfl (fun h7 => ?_) (fun h8 => ?_)
     ·try simp at h7
      refine za ?_
      refine das rfl ?_
      refine dn ?_
      refine zl ?_
      refine zbE Ghost.clear rfl ⟨?_, rfl⟩
      show HVal.int .i64 _ = _
      (rw [zmp (c := 7) (by omega) (by rw [hg, zcp, if_neg (by simpa using h6), if_pos (by obtain ⟨qa, qb⟩ := h7; exact ⟨by omega, by simpa using qb⟩)]) (by decide)]; done)
     ·try simp at h8
      refine zm ?_
      refine zh ?_
      refine za ?_
      refine dmv rfl ?_
      refine dq (zb zah rfl ty9 (by decide) rfl) ?_
      refine dq (zg ty9 rfl rfl rfl) ?_
      refine de0 (zdG (i := 1) zcE ty9 rfl rfl rfl rfl ?_)
      refine dn ?_
      refine zj ?_
      refine za ?_
      refine dmv rfl ?_
      refine dq (zb zah rfl ty9 (by decide) rfl) ?_
      refine dq (zg ty9 rfl rfl rfl) ?_
      refine de rfl (zjt (i := 0) (z0 := (0 : Int)) zd4 ty9 ty3 rfl rfl rfl rfl ?_)
      refine dmv rfl ?_
      refine dq (z6 rfl rfl) ?_
      refine dq (z6 rfl rfl) ?_
      refine das rfl ?_
      refine das rfl ?_
      refine dn ?_
      refine za ?_
      refine dmv rfl ?_
      refine dmv rfl ?_
      refine dg rfl rfl (fun hc => ⟨_, OpenTo.refl _, zf rfl⟩) ?_
      refine dg rfl rfl (fun hc => ⟨_, OpenTo.refl _, zb zah rfl ty3 (by decide) rfl⟩) ?_
      refine dg rfl rfl (fun hc => ⟨_, OpenTo.upd (t := 53) rfl (hc) (OpenTo.refl _), zg ty3 rfl rfl rfl⟩) ?_
      refine dg rfl rfl (fun hc => ⟨_, OpenTo.upd (t := 54) rfl (hc) (OpenTo.upd (t := 52) rfl (hc) (OpenTo.refl _)), zaD rfl rfl⟩) ?_
      refine dq (zA rfl (.inr ⟨_, rfl, fun h => by simp_all⟩) (.inl rfl)) ?_
      refine dn ?_
      refine zi rfl (fun h9 => ?_) (fun h10 => ?_)
      ·try simp at h9
       refine zC ?_
       refine das rfl ?_
       refine dn ?_
       refine zh ?_
       refine zC ?_
       refine dmv rfl ?_
       refine dq (zb zah rfl ty9 (by decide) rfl) ?_
       refine dq (zg ty9 rfl rfl rfl) ?_
       refine dq (zb zah rfl ty3 (by decide) rfl) ?_
       refine dq (zg ty3 rfl rfl rfl) ?_
       refine de0 (zeK (i := 0) zd4 ty9 rfl rfl rfl rfl ?_)
       refine dn ?_
       refine zy ?_
       refine zh ?_
       refine zC ?_
       refine dq (zB rfl rfl (by omega) (by omega)) ?_
       refine dmv rfl ?_
       refine dn ?_
       refine ⟨k + 1, ⟨by omega, ?_⟩, by dsimp only; omega, ⟨rfl, ?_, trivial⟩, (by repeat (first | exact zt | refine zw rfl ?_ | refine zu rfl rfl ?_)), ?_⟩
       ·rw [hg, zls (by simpa using h6) (fun hk0 => by simp_all)]
       ·rw [zgg hx]; exact congrArg (fun b => some (HVal.bool b)) (by simp_all [zhK])
       ·exact zR (by dsimp only; rw [zgg hx]; rfl)
      ·try simp at h10
       refine zm ?_
       refine zh ?_
       refine zC ?_
       refine dmv rfl ?_
       refine dq (zb zah rfl ty9 (by decide) rfl) ?_
       refine dq (zg ty9 rfl rfl rfl) ?_
       refine dq (zb zah rfl ty3 (by decide) rfl) ?_
       refine dq (zg ty3 rfl rfl rfl) ?_
       refine de0 (zeK (i := 0) zd4 ty9 rfl rfl rfl rfl ?_)
       refine dn ?_
       refine zy ?_
       refine zh ?_
       refine zC ?_
       refine dq (zB rfl rfl (by omega) (by omega)) ?_
       refine dmv rfl ?_
       refine dn ?_
       refine ⟨k + 1, ⟨by omega, ?_⟩, by dsimp only; omega, ⟨rfl, ?_, trivial⟩, (by repeat (first | exact zt | refine zw rfl ?_ | refine zu rfl rfl ?_)), ?_⟩
       ·rw [hg, zls (by simpa using h6) (fun hk0 => by simp_all)]
       ·rw [zgg hx]; exact congrArg (fun b => some (HVal.bool b)) (by simp_all [zhK])
       ·exact zR (by dsimp only; rw [zgg hx]; rfl)
   ·try simp at h4
    have hnk : l.length ≤ k := by omega
    obtain rfl : k = l.length := by omega
    rw [zaV (Nat.le_refl _)] at hg
    rw [List.take_length]
    refine zX ?_
    refine z7 ?_
    refine zaw ?_
    refine zO ?_
    refine zh ?_
    refine zj ?_
    refine zq ?_
    have e1 : (sk (zbh (zeP l).S)).length = (zeP l).S.length := by simp [sk, zbh]
    have e2 : (sk (em (HVal.int .i64) (zeP l).W)).length = (zeP l).W.length := by simp [sk]
    refine za ?_
    refine dmv rfl ?_
    refine de rfl (zf6 (i := 1) zcE rfl rfl ?_)
    refine dq (zae rfl rfl) ?_
    refine dmv rfl ?_
    refine dg rfl rfl (fun hc => ⟨_, OpenTo.refl _, zf rfl⟩) ?_
    refine dgl rfl rfl (fun hc => ⟨_, OpenTo.upd (t := 68) rfl (hc) (OpenTo.refl _), zf6 (i := 0) zd4 rfl rfl ⟨rfl, rfl⟩⟩) ?_
    refine dg rfl rfl (fun hc => ⟨_, OpenTo.upd (t := 69) rfl (hc) (OpenTo.refl _), zae rfl rfl⟩) ?_
    refine dq (zA rfl (.inl rfl) (.inr ⟨_, rfl, fun h => by simp_all⟩)) ?_
    refine das rfl ?_
    refine dn ?_
    refine zi rfl (fun h11 => ?_) (fun h12 => ?_)
    ·try simp at h11
     refine za ?_
     refine das rfl ?_
     refine dn ?_
     refine zl ?_
     refine zbE Ghost.clear rfl ⟨?_, rfl⟩
     show HVal.int .i64 _ = _
     (rw [zg9 (by omega) hg, zfP, if_pos (by omega)]; done)
    ·try simp at h12
     refine za ?_
     refine dmv rfl ?_
     refine das rfl ?_
     refine dn ?_
     refine zi rfl (fun h13 => ?_) (fun h14 => ?_)
     ·try simp at h13
      refine za ?_
      refine das rfl ?_
      refine dn ?_
      refine zl ?_
      refine zbE Ghost.clear rfl ⟨?_, rfl⟩
      show HVal.int .i64 _ = _
      (rw [zg9 (by omega) hg, zfP, if_neg (by omega), if_pos (by assumption)]; done)
     ·try simp at h14
      refine zm ?_
      refine zy ?_
      refine zh ?_
      refine za ?_
      refine das rfl ?_
      refine dn ?_
      refine zl ?_
      refine zbE Ghost.clear rfl ⟨?_, rfl⟩
      show HVal.int .i64 _ = _
      (rw [zg9 (by omega) hg, zfP, if_neg (by omega), if_neg (by simp_all)]; done)

/-- benchwarmer/play.CheckTrust -/
theorem zjT [Tracks] {l : List Str} (hl : l.length ≤ 1000000) : ConP Tryz.prog 100 [eSs l] (.int .i64 (zeM l)) := by
 refine Con.of_body Tryz.func100 rfl Tryz.ntmps100 rfl rfl ?_
 refine za ?_
 refine das rfl ?_
 refine dn ?_
 refine zj ?_
 refine za ?_
 refine dmv rfl ?_
 refine dq (zK zP rfl) ?_
 refine dq (zae rfl rfl) ?_
 refine dn ?_
 refine zi rfl (fun h1 => ?_) (fun h2 => ?_)
 ·try simp at h1
  refine za ?_
  refine das rfl ?_
  refine dn ?_
  refine zl ?_
  refine zD rfl ?_
  show HVal.int .i64 _ = _
  (rw [zeM, if_pos (by omega)]; done)
 ·try simp at h2
  refine zm ?_
  refine zh ?_
  refine zj ?_
  refine za ?_
  refine dmv rfl ?_
  refine dq (zK zP rfl) ?_
  refine dmv rfl ?_
  refine dn ?_
  refine zq ?_
  refine zak [2, 3, 4, 10, 11, 12, 13, 14, 15, 16, 17, 18, 19, 20, 21, 22, 23] (fun (k : Nat) => [(10, .int .i64 k)]) (fun (k : Nat) => []) (fun (k : Nat) => k ≤ l.length ∧ (zeM l = zfs l k (l.drop k))) (fun (k : Nat) => l.length - k) (0) ?_ ?_ ?_ ?_
  ·refine ⟨Nat.zero_le _, ?_⟩
   rw [zeM, if_neg (by omega)]; rfl
  ·exact ⟨rfl, trivial⟩
  ·exact List.Perm.refl _
  ·intro k hinv
   obtain ⟨hk, hg⟩ := hinv
   refine za ?_
   refine dq (zS rfl rfl) ?_
   refine dn ?_
   refine zj ?_
   refine zi rfl (fun h3 => ?_) (fun h4 => ?_)
   ·try simp at h3
    obtain ⟨x, hx⟩ : ∃ x, l[k]? = some x := ⟨_, List.getElem?_eq_getElem h3⟩
    have hdx := zU hx
    rw [hdx] at hg
    refine zm ?_
    refine zh ?_
    refine zj ?_
    refine zq ?_
    refine za ?_
    refine dmv rfl ?_
    refine dq (zW zP ty9 rfl rfl rfl (by assumption)) ?_
    refine dq (zg ty9 rfl rfl rfl) ?_
    refine das rfl ?_
    refine das rfl ?_
    refine dn ?_
    refine zj ?_
    refine za ?_
    refine dmv rfl ?_
    refine dq (zo ze9 rfl (WeakL.refl _) zbH) ?_
    refine dq (zac rfl) ?_
    refine dn ?_
    refine zi rfl (fun h5 => ?_) (fun h6 => ?_)
    ·try simp at h5
     refine za ?_
     refine das rfl ?_
     refine dn ?_
     refine zl ?_
     refine zD rfl ?_
     show HVal.int .i64 _ = _
     (rw [hg]; simp_all [zfs]; done)
    ·try simp at h6
     refine zm ?_
     refine zh ?_
     refine za ?_
     refine dmv rfl ?_
     refine dmv rfl ?_
     refine dq (zer zP ty9 rfl rfl ⟨_, _, rfl, rfl⟩ (by omega) (by omega)) ?_
     refine dmv rfl ?_
     refine dq (zo ziZ rfl (WeakL.refl _) (zaL (by simp; omega))) ?_
     refine dn ?_
     refine zi rfl (fun h7 => ?_) (fun h8 => ?_)
     ·try simp at h7
      refine za ?_
      refine das rfl ?_
      refine dn ?_
      refine zl ?_
      refine zD rfl ?_
      show HVal.int .i64 _ = _
      (rw [hg]; simp_all [zfs]; done)
     ·try simp at h8
      refine zm ?_
      refine zy ?_
      refine zh ?_
      refine zC ?_
      refine dq (zB rfl rfl (by omega) (by omega)) ?_
      refine dmv rfl ?_
      refine dn ?_
      refine ⟨k + 1, ?_, ?_, ⟨rfl, trivial⟩, (by repeat (first | exact zt | refine zw rfl ?_ | refine zu rfl rfl ?_)), List.Perm.refl _⟩
      ·refine ⟨by omega, ?_⟩
       rw [hg]; simp_all [zfs]
      ·dsimp only; omega
   ·try simp at h4
    have hnk : l.length ≤ k := by omega
    obtain rfl : k = l.length := by omega
    rw [zaV (Nat.le_refl _)] at hg
    refine zX ?_
    refine z7 ?_
    refine zaw ?_
    refine zO ?_
    refine zh ?_
    refine za ?_
    refine das rfl ?_
    refine dn ?_
    refine zl ?_
    refine zD rfl ?_
    show HVal.int .i64 _ = _
    (rw [hg]; simp_all [zfs]; done)

/-- benchwarmer/play.told -/
theorem zoK [Tracks] {l : List Play} {trust : List Str} {n : Int} (hl : l.length ≤ 1000000) (ht : trust.length ≤ 1000000) : Con Tryz.prog 148 [zhD l, eSs trust, .int .i64 n] [] (fun x M' => ∃ b O, x = .raw (.map (some b)) ∧ ANodup O ∧ (∀ m, alk m O = zjQ l trust n m) ∧ M' = [.map b (sk (em .str O))]) := by
 refine Con.of_body Tryz.func148 rfl Tryz.ntmps148 rfl rfl ?_
 refine za ?_
 refine das rfl ?_
 refine dn ?_
 refine za ?_
 refine de rfl (zbx fun m16 => ?_)
 refine das rfl ?_
 refine dn ?_
 refine zj ?_
 refine za ?_
 refine dmv rfl ?_
 refine dq (zK zeu rfl) ?_
 refine dmv rfl ?_
 refine dn ?_
 refine zq ?_
 refine zak [9, 10, 11, 12, 19, 20, 21, 22, 23, 24, 25, 26, 27, 28, 29, 30, 31, 32, 33, 34, 35, 36, 37, 38, 39, 40, 41, 42, 43, 44, 45, 46, 47, 48, 49, 50, 51, 52, 53] (fun (k : Nat) => [(19, .int .i64 k)]) (fun (k : Nat) => [.map m16 (sk (em (.int .i64) (zd5 (l.take k) trust n)))]) (fun (k : Nat) => k ≤ l.length ∧ (True)) (fun (k : Nat) => l.length - k) (0) ?_ ?_ ?_ ?_
 ·exact ⟨Nat.zero_le _, trivial⟩
 ·exact ⟨rfl, trivial⟩
 ·exact List.Perm.refl _
 ·intro k hinv
  obtain ⟨hk, -⟩ := hinv
  refine za ?_
  refine dq (zS rfl rfl) ?_
  refine dn ?_
  refine zj ?_
  refine zi rfl (fun h1 => ?_) (fun h2 => ?_)
  ·try simp at h1
   obtain ⟨x, hx⟩ : ∃ x, l[k]? = some x := ⟨_, List.getElem?_eq_getElem h1⟩
   have hdx := zU hx
   refine zm ?_
   refine zh ?_
   refine zj ?_
   refine zq ?_
   refine za ?_
   refine dq (zW zeu zah rfl rfl rfl (by assumption)) ?_
   refine dq (zH zah rfl rfl rfl rfl) ?_
   refine de rfl (zY zah rfl fun b9 => ?_)
   refine de0 (zad zah rfl rfl rfl rfl rfl ?_)
   refine dn ?_
   refine zL (Ghost.fc0 9 rfl) ?_
   refine za ?_
   refine dmv rfl ?_
   refine dq (zb zah rfl ty9 (by decide) rfl) ?_
   refine dq (zg ty9 rfl rfl rfl) ?_
   refine dq (zo ca57 rfl (WeakL.refl _) (zdB (by omega))) ?_
   refine das rfl ?_
   refine dn ?_
   refine zj ?_
   refine za ?_
   refine dq (zb zah rfl ty3 (by decide) rfl) ?_
   refine dq (zg ty3 rfl rfl rfl) ?_
   refine dmv rfl ?_
   refine dq (zae rfl rfl) ?_
   refine dmv rfl ?_
   refine dg rfl rfl (fun hc => ⟨_, OpenTo.refl _, zf rfl⟩) ?_
   refine dg rfl rfl (fun hc => ⟨_, OpenTo.upd (t := 32) rfl (hc) (OpenTo.refl _), zS rfl rfl⟩) ?_
   refine dq (zA rfl (.inl rfl) (.inr ⟨_, rfl, fun h => by simp_all⟩)) ?_
   refine dn ?_
   refine zi rfl (fun h3 => ?_) (fun h4 => ?_)
   ·try simp at h3
    refine zX ?_
    refine z7 ?_
    refine zO ?_
    refine zh ?_
    refine zC ?_
    refine dq (zB rfl rfl (by omega) (by omega)) ?_
    refine dmv rfl ?_
    refine dn ?_
    exact ⟨k + 1, ⟨by omega, trivial⟩, by dsimp only; omega, ⟨rfl, trivial⟩, (by repeat (first | exact zt | refine zw rfl ?_ | refine zu rfl rfl ?_)), zR (by dsimp only; rw [zhY hx, zds, if_pos (by simpa using h3)]; try rfl)⟩
   ·try simp at h4
    refine zm ?_
    refine zh ?_
    refine za ?_
    refine dmv rfl ?_
    refine dq (zb zah rfl ty9 (by decide) rfl) ?_
    refine dq (zg ty9 rfl rfl rfl) ?_
    refine de rfl (zjt (i := 0) (z0 := (0 : Int)) zd4 ty9 ty3 rfl rfl rfl rfl ?_)
    refine dmv rfl ?_
    refine dq (z6 rfl rfl) ?_
    refine dq (z6 rfl rfl) ?_
    refine das rfl ?_
    refine das rfl ?_
    refine dn ?_
    refine za ?_
    refine dmv rfl ?_
    refine dq (zac rfl) ?_
    refine dmv rfl ?_
    refine dg rfl rfl (fun hc => ⟨_, OpenTo.refl _, zf rfl⟩) ?_
    refine dg rfl rfl (fun hc => ⟨_, OpenTo.refl _, zf rfl⟩) ?_
    refine dg rfl rfl (fun hc => ⟨_, OpenTo.upd (t := 46) rfl (hc) (OpenTo.upd (t := 45) rfl (hc) (OpenTo.refl _)), zS rfl rfl⟩) ?_
    refine dq (zA rfl (.inl rfl) (.inr ⟨_, rfl, fun h => by simp_all⟩)) ?_
    refine dn ?_
    refine zi rfl (fun h5 => ?_) (fun h6 => ?_)
    ·try simp at h5
     refine zC ?_
     refine dmv rfl ?_
     refine dq (zb zah rfl ty9 (by decide) rfl) ?_
     refine dq (zg ty9 rfl rfl rfl) ?_
     refine dmv rfl ?_
     refine de0 (zeK (i := 0) zd4 ty9 rfl rfl rfl rfl ?_)
     refine dn ?_
     refine zy ?_
     refine zh ?_
     refine zC ?_
     refine dq (zB rfl rfl (by omega) (by omega)) ?_
     refine dmv rfl ?_
     refine dn ?_
     exact ⟨k + 1, ⟨by omega, trivial⟩, by dsimp only; omega, ⟨rfl, trivial⟩, (by repeat (first | exact zt | refine zw rfl ?_ | refine zu rfl rfl ?_)), zR (by dsimp only; rw [zhY hx, zds, if_neg (by simp_all; try omega), if_pos (by simpa using h5)]; try rfl)⟩
    ·try simp at h6
     refine zm ?_
     refine zy ?_
     refine zh ?_
     refine zC ?_
     refine dq (zB rfl rfl (by omega) (by omega)) ?_
     refine dmv rfl ?_
     refine dn ?_
     exact ⟨k + 1, ⟨by omega, trivial⟩, by dsimp only; omega, ⟨rfl, trivial⟩, (by repeat (first | exact zt | refine zw rfl ?_ | refine zu rfl rfl ?_)), zR (by dsimp only; rw [zhY hx, zds, if_neg (by simp_all; try omega), if_neg (by simp_all; try omega)]; try rfl)⟩
  ·try simp at h2
   have hnk : l.length ≤ k := by omega
   obtain rfl : k = l.length := by omega
   refine zX ?_
   refine z7 ?_
   refine zaw ?_
   refine zO ?_
   refine zh ?_
   rw [List.take_length]
   refine za ?_
   refine de rfl (zbx fun m54 => ?_)
   refine das rfl ?_
   refine dn ?_
   refine zj ?_
   refine za ?_
   refine dmv rfl ?_
   refine de rfl (zmq (i := 1) zd4 rfl rfl fun r => ?_)
   refine dn ?_
   refine zq ?_
   refine zbi [14, 15, 57, 58, 59, 60, 61, 62, 63, 64, 65, 66, 67] (fun (vis : List Nat) (E : List (Str × Int)) => []) (fun (vis : List Nat) (E : List (Str × Int)) => [.map m54 (sk (em .str (zk7 trust E))), .iter r m16 (sk (em (.int .i64) (zd5 l trust n))) vis]) (fun (vis : List Nat) (E : List (Str × Int)) => VisOk ((zd5 l trust n)) vis E ∧ (True)) (fun (vis : List Nat) (E : List (Str × Int)) => ((zd5 l trust n)).length - vis.length) ([]) ([]) ?_ ?_ ?_ ?_
   ·exact ⟨VisOk.nil _, trivial⟩
   ·exact trivial
   ·exact List.Perm.refl _
   ·intro vis E hinv
    obtain ⟨hvis, -⟩ := hinv
    refine za ?_
    refine de rfl (zmW (i := 1) (L := (zd5 l trust n)) (enc := (fun p : Str × Int => (HVal.str p.1, HVal.int .i64 p.2))) rfl rfl (zsB _ _) hvis.nd hvis.lt fun cb R vis' hnx => ?_)
    refine dq (z6 rfl rfl) ?_
    refine dn ?_
    refine zj ?_
    refine zi rfl (fun h7 => ?_) (fun h8 => ?_)
    ·try simp at h7
     obtain ⟨j, q, hq, hj, rfl⟩ := hnx.t h7
     have hroom := hvis.room hq hj
     have hstep := hvis.step hq hj
     have hqm := List.mem_of_getElem? hq
     refine zm ?_
     refine zh ?_
     refine zq ?_
     refine za ?_
     refine de rfl (zkY (i := 1) (L := (zd5 l trust n)) (enc := (fun p : Str × Int => (HVal.str p.1, HVal.int .i64 p.2))) rfl rfl (zsB _ _) hq ?_)
     refine dq (z6 rfl rfl) ?_
     refine dq (z6 rfl rfl) ?_
     refine das rfl ?_
     refine das rfl ?_
     refine dn ?_
     refine zC ?_
     refine dmv rfl ?_
     refine dmv rfl ?_
     refine dmv rfl ?_
     refine dmv rfl ?_
     obtain ⟨hq0, hq1⟩ := zqi hqm
     refine dq (zW (j := q.2.toNat) (a := trust.getD q.2.toNat []) zP ty9 rfl rfl (by omega) (getD_some (by omega))) ?_
     refine dq (zg ty9 rfl rfl rfl) ?_
     refine de0 (zeK (i := 0) (v := trust.getD q.2.toNat []) zsP ty9 rfl rfl rfl rfl ?_)
     refine dn ?_
     refine zy ?_
     exact ⟨_, E ++ [q], ⟨hstep, trivial⟩, by dsimp only; rw [List.length_append]; simp only [List.length_cons, List.length_nil]; omega, trivial, (by repeat (first | exact zt | refine zw rfl ?_ | refine zu rfl rfl ?_)), zR (by dsimp only; rw [zq7 hvis (zh1 _ _ _) hq hj]; rfl)⟩
    ·try simp at h8
     obtain ⟨rfl, hlen⟩ := hnx.f h8
     have hEp := hvis.done hlen
     refine zX ?_
     refine z7 ?_
     refine zbr ?_
     refine zO ?_
     refine zh ?_
     refine zL (Ghost.only (i := 0) rfl) ?_
     refine za ?_
     refine dmv rfl ?_
     refine das rfl ?_
     refine dn ?_
     refine zl ?_
     exact zbb rfl ⟨_, _, rfl, zpA hEp, zrR hEp, rfl⟩
end
end Go.Proofs.YtpcaaekefgkhjaaGreatDoor
namespace Go.Proofs
section
open Go.Shelf
def Tryz.g183_ren : Go.Shelf.Ren := ⟨fun | 7 => 183 | 10 => 218 | n => n, fun | 23 => 104 | 26 => 9 | 3 => 4 | 28 => 258 | 0 => 0 | 27 => 257 | 33 => 74 | 4 => 4 | n => n, fun | n => n⟩
theorem Tryz.g183 : Go.Proofs.SlLaysZ.n7 Tryz.prog Tryz.g183_ren := {
 mixed := by kernel_rfl
 f7 := ⟨Tryz.f183.name, by decide, Tryz.func183.trans (congrArg some (by kernel_rfl))⟩
 f10 := ⟨Tryz.f218.name, by decide, Tryz.func218.trans (congrArg some (by kernel_rfl))⟩
 t0 := Tryz.underlying0
 a0 := Tryz.isAgg0
 z0 := Tryz.sizeOf0
 v0 := Tryz.zeroValue0
 t4 := Tryz.underlying4
 a4 := Tryz.isAgg4
 z4 := Tryz.sizeOf4
 v4 := Tryz.zeroValue4
 t23 := Tryz.underlying104
 a23 := Tryz.isAgg104
 z23 := Tryz.sizeOf104
 v23 := Tryz.zeroValue104
 t26 := Tryz.underlying9
 a26 := Tryz.isAgg9
 z26 := Tryz.sizeOf9
 v26 := Tryz.zeroValue9
 t27 := Tryz.underlying257
 a27 := Tryz.isAgg257
 z27 := Tryz.sizeOf257
 v27 := Tryz.zeroValue257
 t28 := Tryz.underlying258
 a28 := Tryz.isAgg258
 z28 := Tryz.sizeOf258
 v28 := Tryz.zeroValue258
 t33 := Tryz.underlying74
 a33 := Tryz.isAgg74
 z33 := Tryz.sizeOf74
 v33 := Tryz.zeroValue74 }
def Tryz.g182_ren : Go.Shelf.Ren := ⟨fun | 6 => 182 | 8 => 217 | 9 => 131 | 11 => 232 | 13 => 73 | 12 => 178 | 23 => 122 | 24 => 123 | 14 => 200 | 15 => 201 | 16 => 202 | 17 => 203 | 18 => 204 | 19 => 205 | 20 => 129 | 21 => 206 | 22 => 207 | 25 => 226 | 26 => 171 | 27 => 172 | 28 => 227 | 29 => 228 | 30 => 177 | 31 => 252 | n => n, fun | 26 => 9 | 28 => 258 | 24 => 26 | 0 => 0 | 3 => 3 | 37 => 147 | 48 => 191 | 50 => 193 | 4 => 4 | 40 => 185 | 39 => 184 | 45 => 153 | 5 => 5 | 9 => 9 | 51 => 241 | 55 => 245 | 57 => 271 | 58 => 272 | 33 => 74 | n => n, fun | n => n⟩
theorem Tryz.g182 : Go.Proofs.SlLaysZ.n6 Tryz.prog Tryz.g182_ren := {
 mixed := by kernel_rfl
 f6 := ⟨Tryz.f182.name, by decide, Tryz.func182.trans (congrArg some (by kernel_rfl))⟩
 f8 := ⟨Tryz.f217.name, by decide, Tryz.func217.trans (congrArg some (by kernel_rfl))⟩
 f11 := ⟨Tryz.f232.name, by decide, Tryz.func232.trans (congrArg some (by kernel_rfl))⟩
 t0 := Tryz.underlying0
 a0 := Tryz.isAgg0
 z0 := Tryz.sizeOf0
 v0 := Tryz.zeroValue0
 t24 := Tryz.underlying26
 a24 := Tryz.isAgg26
 z24 := Tryz.sizeOf26
 v24 := Tryz.zeroValue26
 t26 := Tryz.underlying9
 a26 := Tryz.isAgg9
 z26 := Tryz.sizeOf9
 v26 := Tryz.zeroValue9
 t28 := Tryz.underlying258
 a28 := Tryz.isAgg258
 z28 := Tryz.sizeOf258
 v28 := Tryz.zeroValue258
 i26 := by kernel_rfl }
def Tryz.g131_ren : Go.Shelf.Ren := ⟨fun | 6 => 131 | 8 => 73 | 9 => 178 | 19 => 122 | 20 => 123 | 21 => 200 | 22 => 201 | 23 => 202 | 24 => 203 | 25 => 204 | 26 => 205 | 27 => 129 | 28 => 206 | 29 => 207 | 36 => 226 | 31 => 171 | 32 => 172 | 37 => 227 | 38 => 228 | 39 => 177 | 41 => 252 | n => n, fun | 27 => 26 | 29 => 9 | 3 => 3 | 32 => 147 | 26 => 26 | 0 => 0 | 44 => 191 | 46 => 193 | 4 => 4 | 36 => 185 | 35 => 184 | 41 => 153 | 5 => 5 | 9 => 9 | 53 => 241 | 57 => 245 | 63 => 271 | 64 => 272 | n => n, fun | n => n⟩
theorem Tryz.g131 : Go.Proofs.SlLaysM.n6 Tryz.prog Tryz.g131_ren := {
 mixed := by kernel_rfl
 f6 := ⟨Tryz.f131.name, by decide, Tryz.func131.trans (congrArg some (by kernel_rfl))⟩
 f8 := Tryz.func73.trans (congrArg some (by kernel_rfl))
 f9 := ⟨Tryz.f178.name, by decide, Tryz.func178.trans (congrArg some (by kernel_rfl))⟩
 f19 := Tryz.func122.trans (congrArg some (by kernel_rfl))
 f20 := Tryz.func123.trans (congrArg some (by kernel_rfl))
 f21 := ⟨Tryz.f200.name, by decide, Tryz.func200.trans (congrArg some (by kernel_rfl))⟩
 f22 := ⟨Tryz.f201.name, by decide, Tryz.func201.trans (congrArg some (by kernel_rfl))⟩
 f23 := ⟨Tryz.f202.name, by decide, Tryz.func202.trans (congrArg some (by kernel_rfl))⟩
 f24 := ⟨Tryz.f203.name, by decide, Tryz.func203.trans (congrArg some (by kernel_rfl))⟩
 f25 := ⟨Tryz.f204.name, by decide, Tryz.func204.trans (congrArg some (by kernel_rfl))⟩
 f26 := ⟨Tryz.f205.name, by decide, Tryz.func205.trans (congrArg some (by kernel_rfl))⟩
 f27 := ⟨Tryz.f129.name, by decide, Tryz.func129.trans (congrArg some (by kernel_rfl))⟩
 f28 := ⟨Tryz.f206.name, by decide, Tryz.func206.trans (congrArg some (by kernel_rfl))⟩
 f29 := ⟨Tryz.f207.name, by decide, Tryz.func207.trans (congrArg some (by kernel_rfl))⟩
 f31 := Tryz.func171.trans (congrArg some (by kernel_rfl))
 f32 := Tryz.func172.trans (congrArg some (by kernel_rfl))
 f36 := ⟨Tryz.f226.name, by decide, Tryz.func226.trans (congrArg some (by kernel_rfl))⟩
 f37 := ⟨Tryz.f227.name, by decide, Tryz.func227.trans (congrArg some (by kernel_rfl))⟩
 f38 := ⟨Tryz.f228.name, by decide, Tryz.func228.trans (congrArg some (by kernel_rfl))⟩
 f39 := ⟨Tryz.f177.name, by decide, Tryz.func177.trans (congrArg some (by kernel_rfl))⟩
 f41 := ⟨Tryz.f252.name, by decide, Tryz.func252.trans (congrArg some (by kernel_rfl))⟩
 t0 := Tryz.underlying0
 a0 := Tryz.isAgg0
 z0 := Tryz.sizeOf0
 v0 := Tryz.zeroValue0
 t3 := Tryz.underlying3
 a3 := Tryz.isAgg3
 z3 := Tryz.sizeOf3
 v3 := Tryz.zeroValue3
 t4 := Tryz.underlying4
 a4 := Tryz.isAgg4
 z4 := Tryz.sizeOf4
 v4 := Tryz.zeroValue4
 t5 := Tryz.underlying5
 a5 := Tryz.isAgg5
 z5 := Tryz.sizeOf5
 v5 := Tryz.zeroValue5
 t9 := Tryz.underlying9
 a9 := Tryz.isAgg9
 z9 := Tryz.sizeOf9
 v9 := Tryz.zeroValue9
 t26 := Tryz.underlying26
 a26 := Tryz.isAgg26
 z26 := Tryz.sizeOf26
 v26 := Tryz.zeroValue26
 t27 := Tryz.underlying26
 a27 := Tryz.isAgg26
 z27 := Tryz.sizeOf26
 v27 := Tryz.zeroValue26
 t29 := Tryz.underlying9
 a29 := Tryz.isAgg9
 z29 := Tryz.sizeOf9
 v29 := Tryz.zeroValue9
 t32 := Tryz.underlying147
 a32 := Tryz.isAgg147
 z32 := Tryz.sizeOf147
 v32 := Tryz.zeroValue147
 t35 := Tryz.underlying184
 a35 := Tryz.isAgg184
 z35 := Tryz.sizeOf184
 v35 := Tryz.zeroValue184
 t36 := Tryz.underlying185
 a36 := Tryz.isAgg185
 z36 := Tryz.sizeOf185
 v36 := Tryz.zeroValue185
 t41 := Tryz.underlying153
 a41 := Tryz.isAgg153
 z41 := Tryz.sizeOf153
 v41 := Tryz.zeroValue153
 t44 := Tryz.underlying191
 a44 := Tryz.isAgg191
 z44 := Tryz.sizeOf191
 v44 := Tryz.zeroValue191
 t46 := Tryz.underlying193
 a46 := Tryz.isAgg193
 z46 := Tryz.sizeOf193
 v46 := Tryz.zeroValue193
 t53 := Tryz.underlying241
 a53 := Tryz.isAgg241
 z53 := Tryz.sizeOf241
 v53 := Tryz.zeroValue241
 t57 := Tryz.underlying245
 a57 := Tryz.isAgg245
 z57 := Tryz.sizeOf245
 v57 := Tryz.zeroValue245
 t63 := Tryz.underlying271
 a63 := Tryz.isAgg271
 z63 := Tryz.sizeOf271
 v63 := Tryz.zeroValue271
 t64 := Tryz.underlying272
 a64 := Tryz.isAgg272
 z64 := Tryz.sizeOf272
 v64 := Tryz.zeroValue272 }
def Tryz.g41_ren : Go.Shelf.Ren := ⟨fun | 6 => 41 | 15 => 73 | 14 => 72 | 28 => 122 | 29 => 123 | 20 => 114 | 21 => 115 | 22 => 116 | 23 => 117 | 24 => 118 | 25 => 119 | 26 => 120 | 27 => 121 | 46 => 170 | 47 => 171 | 48 => 172 | 49 => 173 | 50 => 174 | 57 => 199 | n => n, fun | 22 => 79 | 24 => 83 | 25 => 86 | 3 => 3 | 39 => 147 | 0 => 0 | 53 => 191 | 55 => 193 | 4 => 4 | 46 => 185 | 45 => 184 | 50 => 153 | 5 => 5 | 9 => 9 | 66 => 241 | 70 => 245 | 76 => 271 | 77 => 272 | n => n, fun | n => n⟩
def Tryz.g184_ren : Go.Shelf.Ren := ⟨fun | 6 => 184 | 15 => 73 | 14 => 219 | 28 => 122 | 29 => 123 | 20 => 233 | 21 => 234 | 22 => 235 | 23 => 236 | 24 => 237 | 25 => 238 | 26 => 239 | 27 => 240 | 46 => 254 | 47 => 171 | 48 => 172 | 49 => 255 | 50 => 256 | 57 => 260 | n => n, fun | 22 => 139 | 24 => 255 | 25 => 261 | 3 => 3 | 39 => 147 | 0 => 0 | 53 => 191 | 55 => 193 | 4 => 4 | 46 => 185 | 45 => 184 | 50 => 153 | 5 => 5 | 9 => 9 | 66 => 241 | 70 => 245 | 76 => 271 | 77 => 272 | n => n, fun | n => n⟩
theorem Tryz.g184 : Go.Proofs.SlLaysF0.n6 Tryz.prog Tryz.g184_ren := {
 mixed := by kernel_rfl
 f6 := ⟨Tryz.f184.name, by decide, Tryz.func184.trans (congrArg some (by kernel_rfl))⟩
 f14 := ⟨Tryz.f219.name, by decide, Tryz.func219.trans (congrArg some (by kernel_rfl))⟩
 f15 := Tryz.func73.trans (congrArg some (by kernel_rfl))
 f20 := ⟨Tryz.f233.name, by decide, Tryz.func233.trans (congrArg some (by kernel_rfl))⟩
 f21 := ⟨Tryz.f234.name, by decide, Tryz.func234.trans (congrArg some (by kernel_rfl))⟩
 f22 := ⟨Tryz.f235.name, by decide, Tryz.func235.trans (congrArg some (by kernel_rfl))⟩
 f23 := ⟨Tryz.f236.name, by decide, Tryz.func236.trans (congrArg some (by kernel_rfl))⟩
 f24 := ⟨Tryz.f237.name, by decide, Tryz.func237.trans (congrArg some (by kernel_rfl))⟩
 f25 := ⟨Tryz.f238.name, by decide, Tryz.func238.trans (congrArg some (by kernel_rfl))⟩
 f26 := ⟨Tryz.f239.name, by decide, Tryz.func239.trans (congrArg some (by kernel_rfl))⟩
 f27 := ⟨Tryz.f240.name, by decide, Tryz.func240.trans (congrArg some (by kernel_rfl))⟩
 f28 := Tryz.func122.trans (congrArg some (by kernel_rfl))
 f29 := Tryz.func123.trans (congrArg some (by kernel_rfl))
 f46 := ⟨Tryz.f254.name, by decide, Tryz.func254.trans (congrArg some (by kernel_rfl))⟩
 f47 := Tryz.func171.trans (congrArg some (by kernel_rfl))
 f48 := Tryz.func172.trans (congrArg some (by kernel_rfl))
 f49 := ⟨Tryz.f255.name, by decide, Tryz.func255.trans (congrArg some (by kernel_rfl))⟩
 f50 := ⟨Tryz.f256.name, by decide, Tryz.func256.trans (congrArg some (by kernel_rfl))⟩
 f57 := ⟨Tryz.f260.name, by decide, Tryz.func260.trans (congrArg some (by kernel_rfl))⟩
 t0 := Tryz.underlying0
 a0 := Tryz.isAgg0
 z0 := Tryz.sizeOf0
 v0 := Tryz.zeroValue0
 t3 := Tryz.underlying3
 a3 := Tryz.isAgg3
 z3 := Tryz.sizeOf3
 v3 := Tryz.zeroValue3
 t4 := Tryz.underlying4
 a4 := Tryz.isAgg4
 z4 := Tryz.sizeOf4
 v4 := Tryz.zeroValue4
 t5 := Tryz.underlying5
 a5 := Tryz.isAgg5
 z5 := Tryz.sizeOf5
 v5 := Tryz.zeroValue5
 t9 := Tryz.underlying9
 a9 := Tryz.isAgg9
 z9 := Tryz.sizeOf9
 v9 := Tryz.zeroValue9
 t22 := Tryz.underlying139
 a22 := Tryz.isAgg139
 z22 := Tryz.sizeOf139
 v22 := Tryz.zeroValue139
 t25 := Tryz.underlying261
 a25 := Tryz.isAgg261
 z25 := Tryz.sizeOf261
 v25 := Tryz.zeroValue261
 t39 := Tryz.underlying147
 a39 := Tryz.isAgg147
 z39 := Tryz.sizeOf147
 v39 := Tryz.zeroValue147
 t45 := Tryz.underlying184
 a45 := Tryz.isAgg184
 z45 := Tryz.sizeOf184
 v45 := Tryz.zeroValue184
 t46 := Tryz.underlying185
 a46 := Tryz.isAgg185
 z46 := Tryz.sizeOf185
 v46 := Tryz.zeroValue185
 t50 := Tryz.underlying153
 a50 := Tryz.isAgg153
 z50 := Tryz.sizeOf153
 v50 := Tryz.zeroValue153
 t53 := Tryz.underlying191
 a53 := Tryz.isAgg191
 z53 := Tryz.sizeOf191
 v53 := Tryz.zeroValue191
 t55 := Tryz.underlying193
 a55 := Tryz.isAgg193
 z55 := Tryz.sizeOf193
 v55 := Tryz.zeroValue193
 t66 := Tryz.underlying241
 a66 := Tryz.isAgg241
 z66 := Tryz.sizeOf241
 v66 := Tryz.zeroValue241
 t70 := Tryz.underlying245
 a70 := Tryz.isAgg245
 z70 := Tryz.sizeOf245
 v70 := Tryz.zeroValue245
 t76 := Tryz.underlying271
 a76 := Tryz.isAgg271
 z76 := Tryz.sizeOf271
 v76 := Tryz.zeroValue271
 t77 := Tryz.underlying272
 a77 := Tryz.isAgg272
 z77 := Tryz.sizeOf272
 v77 := Tryz.zeroValue272 }
end
end Go.Proofs
