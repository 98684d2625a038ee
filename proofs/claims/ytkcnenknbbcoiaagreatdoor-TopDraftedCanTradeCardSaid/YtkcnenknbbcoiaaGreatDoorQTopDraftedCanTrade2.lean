/- Part 2 of the proof: a program logic, contracts of functions and plain facts; no conditions. -/
import Derived.Test.YtkcnenknbbcoiaaGreatDoorQTopDraftedCanTrade1
import Derived.Carry
import Derived.Ground.GgzProg
import Derived.Ground.Names2Prog
import Derived.Ground.SlgmProg
import Derived.Ground.SlmcProg
import Derived.Ground.SlsfProg
import Derived.Laws.MakeOwn
import Derived.Lib.Bytealg
import Derived.Lib.LaidTab
import Derived.Lib.SlicesCompact
import Derived.OpenShut
import Derived.Shelf.SlIter.Collect
import Derived.Shelf.SlIter.Keys
import Derived.Shelf.SlIter.Sorted
import Derived.Shelf.SlMaps.Clone
import Derived.Shelf.SlSortCmp.Insertion
import Derived.Shelf.SlSortCmp.NoneTotal
import Derived.Shelf.Slices.CompactS
import Derived.Shelf.Slices.Delete
import Derived.Shelf.Sort.Plain
import Derived.Shelf.SortM.Plain
import Derived.Shelf.Strconv.Atoi
import Derived.Shelf.Strconv.Itoa3
import Derived.Shelf.Strings.Prefix
import Derived.Sort.EncStr
import Derived.Sort.Grow
import Derived.Test.YtkcnenknbbcoiaaGreatDoorProg
import Derived.WideKeyRuns
import GoSem.ClaimJoined
set_option linter.unusedVariables false
set_option linter.unusedSimpArgs false
namespace Go.Proofs.YtkcnenknbbcoiaaGreatDoor
set_option maxRecDepth 100000
set_option linter.unusedVariables false
set_option linter.unusedSimpArgs false
section
open Go.HL
/-- benchwarmer/base.Rising -/
theorem zhH [Tracks] {l : List Str} (hl : l.length ≤ 1000000) : ConP Tryz.prog 83 [eSs l] (.int .i64 (zdK l)) := by
 refine Con.of_body Tryz.func83 rfl Tryz.ntmps83 rfl rfl ?_
 refine za ?_
 refine das rfl ?_
 refine dn ?_
 refine zf ?_
 refine za ?_
 refine dmv rfl ?_
 refine dq (zv zA rfl) ?_
 refine dmv rfl ?_
 refine dn ?_
 refine zk ?_
 refine zab [2, 3, 4, 7, 8, 9, 10, 11, 12, 13, 14, 15, 16, 17, 18, 19, 20, 21, 22, 23, 24, 25, 26] (fun (k : Nat) => [(7, .int .i64 k)]) (fun (k : Nat) => []) (fun (k : Nat) => k ≤ l.length ∧ (zdK l = zaX l k (l.drop k))) (fun (k : Nat) => l.length - k) (0) ?_ ?_ ?_ ?_
 ·exact ⟨Nat.zero_le _, rfl⟩
 ·exact ⟨rfl, trivial⟩
 ·exact List.Perm.refl _
 ·intro k hinv
  obtain ⟨hk, hg⟩ := hinv
  refine za ?_
  refine dq (zK rfl rfl) ?_
  refine dn ?_
  refine zf ?_
  refine ze rfl (fun h1 => ?_) (fun h2 => ?_)
  ·try simp at h1
   obtain ⟨x, hx⟩ : ∃ x, l[k]? = some x := ⟨_, List.getElem?_eq_getElem h1⟩
   have hdx := zI hx
   rw [hdx] at hg
   refine zi ?_
   refine zd ?_
   refine zf ?_
   refine zk ?_
   refine za ?_
   refine dmv rfl ?_
   refine dq (zH zA ty9 rfl rfl rfl (by assumption)) ?_
   refine dq (zc ty9 rfl rfl rfl) ?_
   refine das rfl ?_
   refine das rfl ?_
   refine dn ?_
   refine zf ?_
   refine za ?_
   refine dmv rfl ?_
   refine dq (zj zeQ rfl (WeakL.refl _) zbk) ?_
   refine dq (zW rfl) ?_
   refine dn ?_
   refine ze rfl (fun h3 => ?_) (fun h4 => ?_)
   ·try simp at h3
    refine za ?_
    refine das rfl ?_
    refine dn ?_
    refine zg ?_
    refine zm rfl ?_
    show HVal.int .i64 _ = _
    rw [hg]; simp_all [zaX, leS]
   ·try simp at h4
    refine zi ?_
    refine zd ?_
    refine za ?_
    refine dmv rfl ?_
    refine dq (z6 rfl rfl) ?_
    refine dmv rfl ?_
    refine dg rfl rfl (fun hc => ⟨_, OpenTo.refl _, zh rfl⟩) ?_
    refine dg rfl rfl (fun hc => ⟨_, OpenTo.refl _, zh rfl⟩) ?_
    refine dg rfl rfl (fun hc => ⟨_, OpenTo.refl _, zh rfl⟩) ?_
    refine dg rfl rfl (fun hc => by have hq := hc; (try simp at hq); exact ⟨_, OpenTo.upd (t := 20) rfl (hc) (OpenTo.refl _), zal rfl rfl (by omega) (by omega)⟩) ?_
    refine dg rfl rfl (fun hc => by have hq := hc; (try simp at hq); exact ⟨_, OpenTo.upd (t := 21) rfl (hc) (OpenTo.upd (t := 19) rfl (hc) (OpenTo.refl _)), zH (j := k - 1) (a := l.getD (k - 1) []) zA ty9 rfl rfl (by omega) (getD_some (by omega))⟩) ?_
    refine dg rfl rfl (fun hc => ⟨_, OpenTo.upd (t := 22) rfl (hc) (OpenTo.refl _), zc ty9 rfl rfl rfl⟩) ?_
    refine dg rfl rfl (fun hc => ⟨_, OpenTo.upd (t := 23) rfl (hc) (OpenTo.upd (t := 18) rfl (hc) (OpenTo.refl _)), zd9 rfl rfl⟩) ?_
    refine dq (zw rfl (.inr ⟨_, rfl, fun h => by simp_all⟩) (.inl rfl)) ?_
    refine dn ?_
    refine ze rfl (fun h5 => ?_) (fun h6 => ?_)
    ·try simp at h5
     refine za ?_
     refine das rfl ?_
     refine dn ?_
     refine zg ?_
     refine zm rfl ?_
     show HVal.int .i64 _ = _
     rw [hg]; simp_all [zaX, leS]
    ·try simp at h6
     refine zi ?_
     refine zu ?_
     refine zd ?_
     refine zy ?_
     refine dq (zx rfl rfl (by omega) (by omega)) ?_
     refine dmv rfl ?_
     refine dn ?_
     refine ⟨k + 1, ?_, ?_, ⟨rfl, trivial⟩, (by repeat (first | exact zo | refine zt rfl ?_ | refine zp rfl rfl ?_)), List.Perm.refl _⟩
     ·refine ⟨by omega, ?_⟩
      rw [hg]; simp_all [zaX, leS]
     ·dsimp only; omega
  ·try simp at h2
   have hnk : l.length ≤ k := by omega
   obtain rfl : k = l.length := by omega
   rw [zaq (Nat.le_refl _)] at hg
   refine zL ?_
   refine zS ?_
   refine zap ?_
   refine zD ?_
   refine zd ?_
   refine za ?_
   refine das rfl ?_
   refine dn ?_
   refine zg ?_
   refine zm rfl ?_
   show HVal.int .i64 _ = _
   rw [hg]; simp_all [zaX, leS]

/-- benchwarmer/draft.teamsFault -/
theorem zit [Tracks] {l : List Str} (hl : l.length ≤ 1000000) : ConP Tryz.prog 145 [eSs l] (.int .i64 (teamsFault l)) := by
 refine Con.of_body Tryz.func145 rfl Tryz.ntmps145 rfl rfl ?_
 refine za ?_
 refine das rfl ?_
 refine dn ?_
 refine zf ?_
 refine zk ?_
 refine za ?_
 refine dmv rfl ?_
 refine dq (zv zA rfl) ?_
 refine dq (zaz rfl rfl) ?_
 refine das rfl ?_
 refine dn ?_
 refine ze rfl (fun h1 => ?_) (fun h2 => ?_)
 ·try simp at h1
  refine za ?_
  refine das rfl ?_
  refine dn ?_
  refine zg ?_
  refine zm rfl ?_
  show HVal.int .i64 _ = _
  (rw [teamsFault, if_pos (by simp_all)]; done)
 ·try simp at h2
  refine za ?_
  refine dmv rfl ?_
  refine dq (zv zA rfl) ?_
  refine dq (z6 rfl rfl) ?_
  refine das rfl ?_
  refine dn ?_
  refine ze rfl (fun h3 => ?_) (fun h4 => ?_)
  ·try simp at h3
   refine za ?_
   refine das rfl ?_
   refine dn ?_
   refine zg ?_
   refine zm rfl ?_
   show HVal.int .i64 _ = _
   (rw [teamsFault, if_neg (by simp_all), if_pos (by omega)]; done)
  ·try simp at h4
   refine zi ?_
   refine zu ?_
   refine zd ?_
   refine zf ?_
   refine za ?_
   refine dmv rfl ?_
   refine dq (zv zA rfl) ?_
   refine dmv rfl ?_
   refine dn ?_
   refine zk ?_
   refine zab [2, 3, 4, 15, 16, 17, 18, 19, 20, 21, 22, 23, 24, 25, 26, 27, 28] (fun (k : Nat) => [(15, .int .i64 k)]) (fun (k : Nat) => []) (fun (k : Nat) => k ≤ l.length ∧ (teamsFault l = zbC l k (l.drop k))) (fun (k : Nat) => l.length - k) (0) ?_ ?_ ?_ ?_
   ·refine ⟨Nat.zero_le _, ?_⟩
    rw [teamsFault, if_neg (by simp_all), if_neg (by omega)]; rfl
   ·exact ⟨rfl, trivial⟩
   ·exact List.Perm.refl _
   ·intro k hinv
    obtain ⟨hk, hg⟩ := hinv
    refine za ?_
    refine dq (zK rfl rfl) ?_
    refine dn ?_
    refine zf ?_
    refine ze rfl (fun h5 => ?_) (fun h6 => ?_)
    ·try simp at h5
     obtain ⟨x, hx⟩ : ∃ x, l[k]? = some x := ⟨_, List.getElem?_eq_getElem h5⟩
     have hdx := zI hx
     rw [hdx] at hg
     refine zi ?_
     refine zd ?_
     refine zf ?_
     refine zk ?_
     refine za ?_
     refine dmv rfl ?_
     refine dq (zH zA ty9 rfl rfl rfl (by assumption)) ?_
     refine dq (zc ty9 rfl rfl rfl) ?_
     refine das rfl ?_
     refine das rfl ?_
     refine dn ?_
     refine zf ?_
     refine za ?_
     refine dmv rfl ?_
     refine dq (zj zeQ rfl (WeakL.refl _) zbk) ?_
     refine dq (zW rfl) ?_
     refine dn ?_
     refine ze rfl (fun h7 => ?_) (fun h8 => ?_)
     ·try simp at h7
      refine za ?_
      refine das rfl ?_
      refine dn ?_
      refine zg ?_
      refine zm rfl ?_
      show HVal.int .i64 _ = _
      (rw [hg]; simp_all [zbC]; done)
     ·try simp at h8
      refine zi ?_
      refine zd ?_
      refine za ?_
      refine dmv rfl ?_
      refine dmv rfl ?_
      refine dq (zce zA ty9 rfl rfl ⟨_, _, rfl, rfl⟩ (by omega) (by omega)) ?_
      refine dmv rfl ?_
      refine dq (zj zii rfl (WeakL.refl _) (zaj (by simp; omega))) ?_
      refine dn ?_
      refine ze rfl (fun h9 => ?_) (fun h10 => ?_)
      ·try simp at h9
       refine za ?_
       refine das rfl ?_
       refine dn ?_
       refine zg ?_
       refine zm rfl ?_
       show HVal.int .i64 _ = _
       (rw [hg]; simp_all [zbC]; done)
      ·try simp at h10
       refine zi ?_
       refine zu ?_
       refine zd ?_
       refine zy ?_
       refine dq (zx rfl rfl (by omega) (by omega)) ?_
       refine dmv rfl ?_
       refine dn ?_
       refine ⟨k + 1, ?_, ?_, ⟨rfl, trivial⟩, (by repeat (first | exact zo | refine zt rfl ?_ | refine zp rfl rfl ?_)), List.Perm.refl _⟩
       ·refine ⟨by omega, ?_⟩
        rw [hg]; simp_all [zbC]
       ·dsimp only; omega
    ·try simp at h6
     have hnk : l.length ≤ k := by omega
     obtain rfl : k = l.length := by omega
     rw [zaq (Nat.le_refl _)] at hg
     refine zL ?_
     refine zS ?_
     refine zap ?_
     refine zD ?_
     refine zd ?_
     refine za ?_
     refine das rfl ?_
     refine dn ?_
     refine zg ?_
     refine zm rfl ?_
     show HVal.int .i64 _ = _
     (rw [hg]; simp_all [zbC]; done)

/-- benchwarmer/draft.playersFault -/
theorem zg8 [Tracks] {l : List Str} (hl : l.length ≤ 1000000) : ConP Tryz.prog 146 [eSs l] (.int .i64 (playersFault l)) := by
 refine Con.of_body Tryz.func146 rfl Tryz.ntmps146 rfl rfl ?_
 refine za ?_
 refine das rfl ?_
 refine dn ?_
 refine zf ?_
 refine za ?_
 refine dmv rfl ?_
 refine dq (zv zA rfl) ?_
 refine dq (z6 rfl rfl) ?_
 refine dn ?_
 refine ze rfl (fun h1 => ?_) (fun h2 => ?_)
 ·try simp at h1
  refine za ?_
  refine das rfl ?_
  refine dn ?_
  refine zg ?_
  refine zm rfl ?_
  show HVal.int .i64 _ = _
  unfold playersFault
  split <;> first | rfl | (exfalso; omega)
 ·try simp at h2
  refine zi ?_
  refine zd ?_
  refine za ?_
  refine dmv rfl ?_
  refine dq (zj ca83 rfl (WeakL.refl _) (zhH (by assumption))) ?_
  refine das rfl ?_
  refine dn ?_
  refine zg ?_
  refine zm rfl ?_
  show HVal.int .i64 _ = _
  unfold playersFault
  split <;> first | rfl | (exfalso; omega)

/-- benchwarmer/draft.CheckRoom -/
theorem zdS [Tracks] {r : Room} (ht : r.Teams.length ≤ 1000000) (hp : r.Players.length ≤ 1000000) : ConP Tryz.prog 97 [zby r] (.int .i64 (zQ r)) := by
 refine Con.of_body Tryz.func97 rfl Tryz.ntmps97 rfl rfl ?_
 refine za ?_
 refine dq (zam rfl rfl) ?_
 refine das rfl ?_
 refine dn ?_
 refine zf ?_
 refine za ?_
 refine dq (zb zV rfl zA (by decide) rfl) ?_
 refine dq (zc zA rfl rfl rfl) ?_
 refine dq (zj ztB rfl (WeakL.refl _) (zit (by assumption))) ?_
 refine das rfl ?_
 refine dn ?_
 refine za ?_
 refine dmv rfl ?_
 refine dq (zah rfl rfl) ?_
 refine dn ?_
 refine ze rfl (fun h1 => ?_) (fun h2 => ?_)
 ·try simp at h1
  refine za ?_
  refine dmv rfl ?_
  refine das rfl ?_
  refine dn ?_
  refine zg ?_
  refine zm rfl ?_
  show HVal.int .i64 _ = _
  simp_all [zQ]
 ·try simp at h2
  refine zi ?_
  refine zd ?_
  refine zf ?_
  refine zk ?_
  refine za ?_
  refine dq (zb zV rfl ty3 (by decide) rfl) ?_
  refine dq (zc ty3 rfl rfl rfl) ?_
  refine dq (zj zcI rfl (WeakL.refl _) zaC) ?_
  refine das rfl ?_
  refine dn ?_
  refine ze rfl (fun h3 => ?_) (fun h4 => ?_)
  ·try simp at h3
   refine za ?_
   refine das rfl ?_
   refine dn ?_
   refine zg ?_
   refine zm rfl ?_
   show HVal.int .i64 _ = _
   simp_all [zQ]
  ·try simp at h4
   refine za ?_
   refine dq (zb zV rfl ty3 (by decide) rfl) ?_
   refine dq (zc ty3 rfl rfl rfl) ?_
   refine dq (zj zcI rfl (WeakL.refl _) zaC) ?_
   refine das rfl ?_
   refine dn ?_
   refine ze rfl (fun h5 => ?_) (fun h6 => ?_)
   ·try simp at h5
    refine za ?_
    refine das rfl ?_
    refine dn ?_
    refine zg ?_
    refine zm rfl ?_
    show HVal.int .i64 _ = _
    simp_all [zQ]
   ·try simp at h6
    refine zi ?_
    refine zu ?_
    refine zd ?_
    refine zf ?_
    refine za ?_
    refine dq (zb zV rfl zA (by decide) rfl) ?_
    refine dq (zc zA rfl rfl rfl) ?_
    refine dq (zj ztr rfl (WeakL.refl _) (zg8 (by assumption))) ?_
    refine das rfl ?_
    refine dn ?_
    refine za ?_
    refine dmv rfl ?_
    refine dq (zah rfl rfl) ?_
    refine dn ?_
    refine ze rfl (fun h7 => ?_) (fun h8 => ?_)
    ·try simp at h7
     refine za ?_
     refine dmv rfl ?_
     refine das rfl ?_
     refine dn ?_
     refine zg ?_
     refine zm rfl ?_
     show HVal.int .i64 _ = _
     simp_all [zQ]
    ·try simp at h8
     refine zi ?_
     refine zd ?_
     refine zf ?_
     refine zk ?_
     refine za ?_
     refine dq (zb zV rfl ty3 (by decide) rfl) ?_
     refine dq (zc ty3 rfl rfl rfl) ?_
     refine dq (zj zcI rfl (WeakL.refl _) zaC) ?_
     refine dmv rfl ?_
     refine dg rfl rfl (fun hc => ⟨_, OpenTo.refl _, zb zV rfl ty3 (by decide) rfl⟩) ?_
     refine dg rfl rfl (fun hc => ⟨_, OpenTo.upd (t := 30) rfl (hc) (OpenTo.refl _), zc ty3 rfl rfl rfl⟩) ?_
     refine dg rfl rfl (fun hc => ⟨_, OpenTo.upd (t := 31) rfl (hc) (OpenTo.refl _), zj zpc rfl (WeakL.refl _) zd2⟩) ?_
     refine dg rfl rfl (fun hc => ⟨_, OpenTo.upd (t := 32) rfl (hc) (OpenTo.refl _), zW rfl⟩) ?_
     refine dq (zw rfl (.inl rfl) (.inr ⟨_, rfl, fun h => by simp_all⟩)) ?_
     refine das rfl ?_
     refine dn ?_
     refine ze rfl (fun h9 => ?_) (fun h10 => ?_)
     ·try simp at h9
      refine za ?_
      refine das rfl ?_
      refine dn ?_
      refine zg ?_
      refine zm rfl ?_
      show HVal.int .i64 _ = _
      simp_all [zQ]
     ·try simp at h10
      refine za ?_
      refine dq (zb zV rfl zA (by decide) rfl) ?_
      refine dq (zc zA rfl rfl rfl) ?_
      refine dq (zv zA rfl) ?_
      refine dq (zb zV rfl zA (by decide) rfl) ?_
      refine dq (zc zA rfl rfl rfl) ?_
      refine dq (zv zA rfl) ?_
      refine dq (zb zV rfl ty3 (by decide) rfl) ?_
      refine dq (zc ty3 rfl rfl rfl) ?_
      have hR := zdj (n := r.Rounds) (lo := 1) (hi := 30) (by simp_all)
      have hm := zmZ (a := (r.Teams.length : Int)) (b := r.Rounds) (A := 1000000) (B := 30) (by omega) (by omega) (by omega) (by omega)
      refine dq (zgh rfl rfl (by omega) (by omega)) ?_
      refine dq (zK rfl rfl) ?_
      refine das rfl ?_
      refine dn ?_
      refine ze rfl (fun h11 => ?_) (fun h12 => ?_)
      ·try simp at h11
       refine za ?_
       refine das rfl ?_
       refine dn ?_
       refine zg ?_
       refine zm rfl ?_
       show HVal.int .i64 _ = _
       simp_all [zQ]
      ·try simp at h12
       refine zi ?_
       refine zu ?_
       refine zd ?_
       refine za ?_
       refine das rfl ?_
       refine dn ?_
       refine zg ?_
       refine zm rfl ?_
       show HVal.int .i64 _ = _
       simp_all [zQ]

/-- benchwarmer/draft.backwards -/
theorem zjn [Tracks] {way round : Int}  : ConP Tryz.prog 100 [.int .i64 way, .int .i64 round] (.bool (backwards way round)) := by
 refine Con.of_body Tryz.func100 rfl Tryz.ntmps100 rfl rfl ?_
 refine za ?_
 refine das rfl ?_
 refine dn ?_
 refine zf ?_
 refine za ?_
 refine dmv rfl ?_
 refine dn ?_
 refine zk ?_
 refine za ?_
 refine dq (zaz rfl rfl) ?_
 refine das rfl ?_
 refine dn ?_
 refine ze rfl (fun h1 => ?_) (fun h2 => ?_)
 ·try simp at h1
  refine za ?_
  refine dmv rfl ?_
  refine dq (zi7 rfl rfl (by omega)) ?_
  refine dq (zaz rfl rfl) ?_
  refine das rfl ?_
  refine dn ?_
  refine zg ?_
  refine zm rfl ?_
  show HVal.bool _ = _
  simp_all [backwards]
 ·try simp at h2
  refine za ?_
  refine dq (zaz rfl rfl) ?_
  refine das rfl ?_
  refine dn ?_
  refine ze rfl (fun h3 => ?_) (fun h4 => ?_)
  ·try simp at h3
   refine za ?_
   refine dmv rfl ?_
   refine dq (zaz rfl rfl) ?_
   refine dmv rfl ?_
   refine dg rfl rfl (fun hc => ⟨_, OpenTo.refl _, zh rfl⟩) ?_
   refine dg rfl rfl (fun hc => ⟨_, OpenTo.upd (t := 16) rfl (hc) (OpenTo.refl _), z6 rfl rfl⟩) ?_
   refine dg rfl rfl (fun hc => ⟨_, OpenTo.upd (t := 17) rfl (hc) (OpenTo.refl _), zh rfl⟩) ?_
   refine dg rfl rfl (fun hc => ⟨_, OpenTo.refl _, zh rfl⟩) ?_
   refine dg rfl rfl (fun hc => by have hq := hc; (try simp at hq); exact ⟨_, OpenTo.upd (t := 19) rfl (hc) (OpenTo.refl _), zi7 rfl rfl (by omega)⟩) ?_
   refine dg rfl rfl (fun hc => ⟨_, OpenTo.upd (t := 20) rfl (hc) (OpenTo.refl _), zaz rfl rfl⟩) ?_
   refine dg rfl rfl (fun hc => ⟨_, OpenTo.upd (t := 18) rfl (hc) (OpenTo.refl _), zw rfl (.inr ⟨_, rfl, fun h => by simp_all⟩) (.inl rfl)⟩) ?_
   refine dq (zw rfl (.inl rfl) (.inr ⟨_, rfl, fun h => by simp_all⟩)) ?_
   refine das rfl ?_
   refine dn ?_
   refine zg ?_
   refine zm rfl ?_
   show HVal.bool _ = _
   simp_all [backwards]
  ·try simp at h4
   refine zi ?_
   refine zu ?_
   refine zd ?_
   refine za ?_
   refine das rfl ?_
   refine dn ?_
   refine zg ?_
   refine zm rfl ?_
   show HVal.bool _ = _
   simp_all [backwards]

/-- benchwarmer/draft.owner -/
theorem zmj [Tracks] {l : List Swap} {round : Int} {of : Str} (hl : l.length ≤ 1000000) : ConP Tryz.prog 102 [zb7 l, .int .i64 round, .str of] (.str (owner round of l)) := by
 refine Con.of_body Tryz.func102 rfl Tryz.ntmps102 rfl rfl ?_
 refine za ?_
 refine das rfl ?_
 refine dn ?_
 refine zf ?_
 refine za ?_
 refine dmv rfl ?_
 refine dq (zv zhb rfl) ?_
 refine dmv rfl ?_
 refine dn ?_
 refine zk ?_
 refine zab [6, 8, 11, 12, 13, 14, 15, 16, 17, 18, 19, 20, 21, 22, 23, 24, 25, 26, 27] (fun (k : Nat) => [(11, .int .i64 k)]) (fun (k : Nat) => []) (fun (k : Nat) => k ≤ l.length ∧ (owner round of l = owner round of (l.drop k))) (fun (k : Nat) => l.length - k) (0) ?_ ?_ ?_ ?_
 ·exact ⟨Nat.zero_le _, by simp_all⟩
 ·exact ⟨rfl, trivial⟩
 ·exact List.Perm.refl _
 ·intro k hinv
  obtain ⟨hk, hg⟩ := hinv
  refine za ?_
  refine dq (zK rfl rfl) ?_
  refine dn ?_
  refine zf ?_
  refine ze rfl (fun h1 => ?_) (fun h2 => ?_)
  ·try simp at h1
   obtain ⟨x, hx⟩ : ∃ x, l[k]? = some x := ⟨_, List.getElem?_eq_getElem h1⟩
   have hdx := zI hx
   rw [hdx] at hg
   refine zi ?_
   refine zd ?_
   refine zf ?_
   refine zk ?_
   refine za ?_
   refine dq (zH zhb zbw rfl rfl rfl (by assumption)) ?_
   refine dq (zB zbw rfl rfl rfl rfl) ?_
   refine de rfl (zO zbw rfl fun b8 => ?_)
   refine de0 (zR zbw rfl rfl rfl rfl rfl ?_)
   refine dn ?_
   refine zF (Ghost.fc0 8 rfl) ?_
   refine za ?_
   refine dq (zb zbw rfl ty3 (by decide) rfl) ?_
   refine dq (zc ty3 rfl rfl rfl) ?_
   refine dmv rfl ?_
   refine dq (zaz rfl rfl) ?_
   refine dmv rfl ?_
   refine dg rfl rfl (fun hc => ⟨_, OpenTo.refl _, zb zbw rfl ty9 (by decide) rfl⟩) ?_
   refine dg rfl rfl (fun hc => ⟨_, OpenTo.upd (t := 20) rfl (hc) (OpenTo.refl _), zc ty9 rfl rfl rfl⟩) ?_
   refine dg rfl rfl (fun hc => ⟨_, OpenTo.refl _, zh rfl⟩) ?_
   refine dg rfl rfl (fun hc => ⟨_, OpenTo.upd (t := 22) rfl (hc) (OpenTo.upd (t := 21) rfl (hc) (OpenTo.refl _)), zbh rfl rfl⟩) ?_
   refine dq (zw rfl (.inr ⟨_, rfl, fun h => by simp_all⟩) (.inl rfl)) ?_
   refine dn ?_
   refine ze rfl (fun h3 => ?_) (fun h4 => ?_)
   ·try simp at h3
    refine za ?_
    refine dq (zb zbw rfl ty9 (by decide) rfl) ?_
    refine dq (zc ty9 rfl rfl rfl) ?_
    refine das rfl ?_
    refine dn ?_
    refine zg ?_
    refine zm rfl ?_
    show HVal.str _ = _
    rw [hg]; simp_all [owner]
   ·try simp at h4
    refine zi ?_
    refine zu ?_
    refine zd ?_
    refine zy ?_
    refine dq (zx rfl rfl (by omega) (by omega)) ?_
    refine dmv rfl ?_
    refine dn ?_
    refine ⟨k + 1, ?_, ?_, ⟨rfl, trivial⟩, (by repeat (first | exact zo | refine zt rfl ?_ | refine zp rfl rfl ?_)), List.Perm.refl _⟩
    ·refine ⟨by omega, ?_⟩
     rw [hg]; simp_all [owner]
    ·dsimp only; omega
  ·try simp at h2
   have hnk : l.length ≤ k := by omega
   obtain rfl : k = l.length := by omega
   rw [zaq (Nat.le_refl _)] at hg
   refine zL ?_
   refine zS ?_
   refine zap ?_
   refine zD ?_
   refine zd ?_
   refine za ?_
   refine dmv rfl ?_
   refine das rfl ?_
   refine dn ?_
   refine zg ?_
   refine zm rfl ?_
   show HVal.str _ = _
   rw [hg]; simp_all [owner]
end
end Go.Proofs.YtkcnenknbbcoiaaGreatDoor
namespace Go.HL
section
open Op (bytesLess)
def zgw (a b : Int) : Int := if a < b then -1 else if b < a then 1 else 0
def orI : List Int → Int
 | [] => 0
 | x :: r => if x ≠ 0 then x else orI r
abbrev zaH (a b : Str) : Int := Lib.compareBytes a b

theorem zag : ∀ a : Str, bytesLess a a = false
 | [] => rfl
 | x :: r => by simp [bytesLess, zag r]
theorem zcZ : ∀ {a b c : Str}, bytesLess a b = true → bytesLess b c = true → bytesLess a c = true
 | _, [], _, h, _ => by simp [bytesLess] at h
 | _, _ :: _, [], _, h => by simp [bytesLess] at h
 | [], _ :: _, _ :: _, _, _ => by simp [bytesLess]
 | x :: a, y :: b, z :: c, h1, h2 => by
   simp only [bytesLess, Bool.or_eq_true, decide_eq_true_eq, Bool.and_eq_true, beq_iff_eq] at h1 h2 ⊢
   rcases h1 with h1 | ⟨rfl, h1⟩
   ·rcases h2 with h2 | ⟨rfl, h2⟩
    ·exact .inl (UInt8.lt_trans h1 h2)
    ·exact .inl h1
   ·rcases h2 with h2 | ⟨rfl, h2⟩
    ·exact .inl h2
    ·exact .inr ⟨rfl, zcZ h1 h2⟩
theorem zbA : ∀ a b : Str, bytesLess a b = true ∨ a = b ∨ bytesLess b a = true
 | [], [] => .inr (.inl rfl)
 | [], _ :: _ => .inl (by simp [bytesLess])
 | _ :: _, [] => .inr (.inr (by simp [bytesLess]))
 | x :: a, y :: b => by
   rcases UInt8.lt_or_lt_of_ne' x y with h | h | h
   ·exact .inl (by simp [bytesLess, h])
   ·subst h
    rcases zbA a b with h | h | h
    ·exact .inl (by simp [bytesLess, h])
    ·exact .inr (.inl (by rw [h]))
    ·exact .inr (.inr (by simp [bytesLess, h]))
   ·exact .inr (.inr (by simp [bytesLess, h]))
where
 UInt8.lt_or_lt_of_ne' (x y : UInt8) : x < y ∨ x = y ∨ y < x := by
  rcases Nat.lt_trichotomy x.toNat y.toNat with h | h | h
  ·exact .inl (UInt8.lt_iff_toNat_lt.2 h)
  ·exact .inr (.inl (UInt8.toNat_inj.1 h))
  ·exact .inr (.inr (UInt8.lt_iff_toNat_lt.2 h))
theorem zaU {a b : Str} (h : bytesLess a b = true) : bytesLess b a = false := by
 cases h2 : bytesLess b a with
 | false => rfl
 | true => have := zcZ h h2; rw [zag] at this; cases this
theorem zst {a b : Str} : leS a b = !(bytesLess b a) := by
 unfold leS
 rcases zbA a b with h | h | h
 ·simp [h, zaU h]
 ·subst h; simp [zag]
 ·have hne : a ≠ b := fun e => by subst e; rw [zag] at h; cases h
  simp [h, zaU h, hne]
theorem zfE : ∀ a b : Str, zaH a b = if bytesLess a b then -1 else if a = b then 0 else 1
 | [], [] => rfl
 | [], _ :: _ => rfl
 | _ :: _, [] => rfl
 | x :: a, y :: b => by
   have ih := zfE a b
   simp only [zaH, Lib.compareBytes] at ih ⊢
   by_cases h1 : x < y
   ·simp [bytesLess, h1]
   ·by_cases h2 : y < x
    ·have hne : ¬ x = y := fun e => by subst e; exact absurd h2 h1
     simp [bytesLess, h1, h2, hne]
    ·have he : x = y := by
      rcases Nat.lt_trichotomy x.toNat y.toNat with h | h | h
      ·exact absurd (UInt8.lt_iff_toNat_lt.2 h) h1
      ·exact UInt8.toNat_inj.1 h
      ·exact absurd (UInt8.lt_iff_toNat_lt.2 h) h2
     subst he
     simp [bytesLess, h1, ih]

theorem zql {i j : Nat} (h : i + j ≤ 2000000) : HVal.int .i64 (IntKind.wrap .i64 ((IntKind.wrap .u64 ((i : Int) + (j : Int))).fdiv (2 ^ min (Int.toNat 1) (IntKind.bits .u64)))) = .int .i64 (((i + j) / 2 : Nat) : Int) := by
 have h1 : IntKind.wrap .u64 ((i : Int) + (j : Int)) = ((i + j : Nat) : Int) := by simp [IntKind.wrap, IntKind.bits, IntKind.signed]; omega
 have h2 : min (Int.toNat 1) (IntKind.bits .u64) = 1 := by decide
 rw [h1, h2]
 have h3 : (((i + j : Nat) : Int).fdiv (2 ^ 1)) = (((i + j) / 2 : Nat) : Int) := by
  rw [Int.fdiv_eq_ediv_of_nonneg _ (by decide)]; rfl
 rw [h3, zkq (by omega) (by omega)]

def SortedS (l : List Str) : Prop := List.Pairwise (fun a b => bytesLess a b = true) l
theorem SortedS.get {l : List Str} (h : SortedS l) {i j : Nat} {a b : Str} (hij : i < j) (ha : l[i]? = some a) (hb : l[j]? = some b) : bytesLess a b = true := by
 have h1 := zC ha
 have h2 := zC hb
 have := List.pairwise_iff_getElem.1 h i j h1 h2 hij
 rw [List.getElem?_eq_getElem h1] at ha
 rw [List.getElem?_eq_getElem h2] at hb
 simp at ha hb
 rw [← ha, ← hb]; exact this
theorem zrT {l : List Str} (hs : SortedS l) {s x : Str} {m : Nat} (hx : l[m]? = some x) (h : Op.bytesLess x s = true) : ∀ (k : Nat) (y : Str), k < m + 1 → l[k]? = some y → Op.bytesLess y s = true := fun k y hk hy => by
 by_cases e : k = m
 ·subst e; rw [hx] at hy; cases hy; exact h
 ·exact zcZ (hs.get (by omega : k < m) hy hx) h
theorem zrO {l : List Str} (hs : SortedS l) {s x : Str} {m : Nat} (hx : l[m]? = some x) (h : Op.bytesLess x s = false) : ∀ (k : Nat) (y : Str), m ≤ k → l[k]? = some y → Op.bytesLess y s = false := fun k y hk hy => by
 by_cases e : k = m
 ·subst e; rw [hx] at hy; cases hy; exact h
 ·cases hq : Op.bytesLess y s with
  | false => rfl
  | true => have := zcZ (hs.get (by omega : m < k) hx hy) hq; rw [h] at this; cases this
theorem zru {l : List Str} {s : Str} {i : Nat} (b : Bool) : (bif decide ((i : Int) < (l.length : Int)) then bif l.getD i [] == s then true else bif false then b else false else false) = (l[i]? == some s) := by
 by_cases h : i < l.length
 ·have h' : (i : Int) < (l.length : Int) := by omega
  simp only [h', decide_true, cond_true, cond_false, getD_some (d := []) h]
  cases hb : l.getD i [] == s with
  | true => simp at hb; simp [hb]
  | false => simp at hb; simp [hb]
 ·have h' : ¬ (i : Int) < (l.length : Int) := by omega
  simp [h', List.getElem?_eq_none (by omega : l.length ≤ i)]
/-- where s stands, or would stand -/
def zcR (l : List Str) (s : Str) : Nat := l.countP fun x => bytesLess x s
theorem zlb {l : List Str} {s : Str} {i : Nat} (hi : i ≤ l.length) (h1 : ∀ (k : Nat) (x : Str), k < i → l[k]? = some x → bytesLess x s = true) (h2 : ∀ (k : Nat) (x : Str), i ≤ k → l[k]? = some x → bytesLess x s = false) :
 zcR l s = i := by
 unfold zcR
 have e : l = l.take i ++ l.drop i := (List.take_append_drop i l).symm
 rw [e, List.countP_append]
 have a1 : (l.take i).countP (fun x => bytesLess x s) = (l.take i).length := by
  rw [List.countP_eq_length]
  intro x hx
  obtain ⟨k, hk, rfl⟩ := List.getElem_of_mem hx
  simp only [List.length_take] at hk
  refine h1 k _ (by omega) ?_
  rw [List.getElem_take]
  exact List.getElem?_eq_getElem (by omega)
 have a2 : (l.drop i).countP (fun x => bytesLess x s) = 0 := by
  rw [List.countP_eq_zero]
  intro x hx
  obtain ⟨k, hk, rfl⟩ := List.getElem_of_mem hx
  simp at hk
  have := h2 (i + k) (l[i + k]) (by omega) (List.getElem?_eq_getElem (by omega))
  rw [List.getElem_drop]
  simp [this]
 rw [a1, a2]
 simp; omega
theorem znz {l : List Str} {s : Str} (hs : SortedS l) {i : Nat} (hi : i ≤ l.length) (h1 : ∀ (k : Nat) (x : Str), k < i → l[k]? = some x → bytesLess x s = true) (h2 : ∀ (k : Nat) (x : Str), i ≤ k → l[k]? = some x → bytesLess x s = false) :
 (l[i]? == some s) = l.contains s := by
 rw [Bool.eq_iff_iff]
 simp
 constructor
 ·intro h; exact List.mem_of_getElem? h
 ·intro h
  obtain ⟨k, hk, rfl⟩ := List.getElem_of_mem h
  have hk' := List.getElem?_eq_getElem hk
  rcases Nat.lt_trichotomy k i with h3 | h3 | h3
  ·have := h1 k _ h3 hk'; rw [zag] at this; cases this
  ·subst h3; exact hk'
  ·have hii : i < l.length := by omega
   have hlt := hs.get h3 (List.getElem?_eq_getElem hii) hk'
   have := h2 i _ (Nat.le_refl _) (List.getElem?_eq_getElem hii)
   rw [hlt] at this; cases this
/-- slices.IndexFunc -/
def zbm {α : Type} (p : α → Bool) : List α → Int → Int
 | [], _ => -1
 | x :: r, k => if p x then k else zbm p r (k + 1)
theorem zdg {α : Type} (p : α → Bool) : ∀ (l : List α) (k : Int), 0 ≤ k → decide (0 ≤ zbm p l k) = l.any p
 | [], k, h => by simp [zbm]
 | x :: r, k, h => by
   have ih := zdg p r (k + 1) (by omega)
   by_cases hx : p x = true
   ·simp [zbm, hx, h]
   ·have e1 : zbm p (x :: r) k = zbm p r (k + 1) := by simp [zbm, hx]
    rw [e1, ih]; simp [hx]
end
end Go.HL
namespace Go.Proofs.YtkcnenknbbcoiaaGreatDoor
set_option maxRecDepth 100000
set_option linter.unusedVariables false
set_option linter.unusedSimpArgs false
section
open Go.HL
/-- cmp.isNaN[int] -/
theorem zf2 [Tracks] {n : Int}  : ConP Tryz.prog 147 [.int .i64 n] (.bool false) := by
 refine Con.of_body Tryz.func147 rfl Tryz.ntmps147 rfl rfl ?_
 refine za ?_
 refine das rfl ?_
 refine dn ?_
 refine za ?_
 refine dmv rfl ?_
 refine dmv rfl ?_
 refine dq (zah rfl rfl) ?_
 refine das rfl ?_
 refine dn ?_
 refine zg ?_
 refine zm rfl ?_
 simp

/-- cmp.isNaN[string] -/
theorem ze9 [Tracks] {s : Str}  : ConP Tryz.prog 158 [.str s] (.bool false) := by
 refine Con.of_body Tryz.func158 rfl Tryz.ntmps158 rfl rfl ?_
 refine za ?_
 refine das rfl ?_
 refine dn ?_
 refine za ?_
 refine dmv rfl ?_
 refine dmv rfl ?_
 refine dq (zef rfl rfl) ?_
 refine das rfl ?_
 refine dn ?_
 refine zg ?_
 refine zm rfl ?_
 simp

/-- slices.isNaN[string] -/
theorem zei [Tracks] {s : Str}  : ConP Tryz.prog 129 [.str s] (.bool false) := by
 refine Con.of_body Tryz.func129 rfl Tryz.ntmps129 rfl rfl ?_
 refine za ?_
 refine das rfl ?_
 refine dn ?_
 refine za ?_
 refine dmv rfl ?_
 refine dmv rfl ?_
 refine dq (zef rfl rfl) ?_
 refine das rfl ?_
 refine dn ?_
 refine zg ?_
 refine zm rfl ?_
 simp

/-- cmp.Compare[int] -/
theorem zcv [Tracks] {a b : Int}  : ConP Tryz.prog 99 [.int .i64 a, .int .i64 b] (.int .i64 (zgw a b)) := by
 refine Con.of_body Tryz.func99 rfl Tryz.ntmps99 rfl rfl ?_
 refine za ?_
 refine das rfl ?_
 refine dn ?_
 refine za ?_
 refine dmv rfl ?_
 refine dq (zj zrZ rfl (WeakL.refl _) zf2) ?_
 refine das rfl ?_
 refine dn ?_
 refine za ?_
 refine dmv rfl ?_
 refine dq (zj zrZ rfl (WeakL.refl _) zf2) ?_
 refine das rfl ?_
 refine dn ?_
 refine zf ?_
 refine za ?_
 refine dmv rfl ?_
 refine dn ?_
 refine zcO rfl ?_
 refine zi ?_
 refine zd ?_
 refine zf ?_
 refine za ?_
 refine dmv rfl ?_
 refine dn ?_
 refine zcO rfl ?_
 refine zi ?_
 refine zd ?_
 refine zf ?_
 refine za ?_
 refine dmv rfl ?_
 refine dmv rfl ?_
 refine dq (zK rfl rfl) ?_
 refine dn ?_
 refine ze rfl (fun h1 => ?_) (fun h2 => ?_)
 ·try simp at h1
  refine za ?_
  refine das rfl ?_
  refine dn ?_
  refine zg ?_
  refine zm rfl ?_
  show HVal.int .i64 _ = _
  unfold zgw; (repeat' split) <;> first | rfl | omega
 ·try simp at h2
  refine zi ?_
  refine zd ?_
  refine zf ?_
  refine za ?_
  refine dmv rfl ?_
  refine dmv rfl ?_
  refine dq (z6 rfl rfl) ?_
  refine dn ?_
  refine ze rfl (fun h3 => ?_) (fun h4 => ?_)
  ·try simp at h3
   refine za ?_
   refine das rfl ?_
   refine dn ?_
   refine zg ?_
   refine zm rfl ?_
   show HVal.int .i64 _ = _
   unfold zgw; (repeat' split) <;> first | rfl | omega
  ·try simp at h4
   refine zi ?_
   refine zd ?_
   refine za ?_
   refine das rfl ?_
   refine dn ?_
   refine zg ?_
   refine zm rfl ?_
   show HVal.int .i64 _ = _
   unfold zgw; (repeat' split) <;> first | rfl | omega

/-- cmp.Or[int] -/
theorem zez [Tracks] {l : List Int} (hl : l.length ≤ 1000000) : ConP Tryz.prog 98 [eIs l] (.int .i64 (orI l)) := by
 refine Con.of_body Tryz.func98 rfl Tryz.ntmps98 rfl rfl ?_
 refine za ?_
 refine das rfl ?_
 refine dn ?_
 refine za ?_
 refine das rfl ?_
 refine dn ?_
 refine zf ?_
 refine za ?_
 refine dmv rfl ?_
 refine dq (zv zbT rfl) ?_
 refine dmv rfl ?_
 refine dn ?_
 refine zk ?_
 refine zab [2, 5, 8, 9, 10, 11, 12, 13, 14, 15, 16] (fun (k : Nat) => [(8, .int .i64 k)]) (fun (k : Nat) => []) (fun (k : Nat) => k ≤ l.length ∧ (orI l = orI (l.drop k))) (fun (k : Nat) => l.length - k) (0) ?_ ?_ ?_ ?_
 ·exact ⟨Nat.zero_le _, by simp_all⟩
 ·exact ⟨rfl, trivial⟩
 ·exact List.Perm.refl _
 ·intro k hinv
  obtain ⟨hk, hg⟩ := hinv
  refine za ?_
  refine dq (zK rfl rfl) ?_
  refine dn ?_
  refine zf ?_
  refine ze rfl (fun h1 => ?_) (fun h2 => ?_)
  ·try simp at h1
   obtain ⟨x, hx⟩ : ∃ x, l[k]? = some x := ⟨_, List.getElem?_eq_getElem h1⟩
   have hdx := zI hx
   rw [hdx] at hg
   refine zi ?_
   refine zd ?_
   refine zf ?_
   refine zk ?_
   refine za ?_
   refine dq (zH zbT ty3 rfl rfl rfl (by assumption)) ?_
   refine dq (zc ty3 rfl rfl rfl) ?_
   refine das rfl ?_
   refine dn ?_
   refine za ?_
   refine dmv rfl ?_
   refine dmv rfl ?_
   refine dq (zah rfl rfl) ?_
   refine dn ?_
   refine ze rfl (fun h3 => ?_) (fun h4 => ?_)
   ·try simp at h3
    refine za ?_
    refine dmv rfl ?_
    refine das rfl ?_
    refine dn ?_
    refine zg ?_
    refine zm rfl ?_
    show HVal.int .i64 _ = _
    rw [hg]; simp_all [orI]
   ·try simp at h4
    refine zi ?_
    refine zu ?_
    refine zd ?_
    refine zy ?_
    refine dq (zx rfl rfl (by omega) (by omega)) ?_
    refine dmv rfl ?_
    refine dn ?_
    refine ⟨k + 1, ?_, ?_, ⟨rfl, trivial⟩, (by repeat (first | exact zo | refine zt rfl ?_ | refine zp rfl rfl ?_)), List.Perm.refl _⟩
    ·refine ⟨by omega, ?_⟩
     rw [hg]; simp_all [orI]
    ·dsimp only; omega
  ·try simp at h2
   have hnk : l.length ≤ k := by omega
   obtain rfl : k = l.length := by omega
   rw [zaq (Nat.le_refl _)] at hg
   refine zL ?_
   refine zS ?_
   refine zap ?_
   refine zD ?_
   refine zd ?_
   refine za ?_
   refine dmv rfl ?_
   refine das rfl ?_
   refine dn ?_
   refine zg ?_
   refine zm rfl ?_
   show HVal.int .i64 _ = _
   rw [hg]; simp_all [orI]

/-- benchwarmer/base.First -/
theorem zey [Tracks] {l : List Int} (hl : l.length ≤ 1000000) : ConP Tryz.prog 51 [eIs l] (.int .i64 (orI l)) := by
 refine Con.of_body Tryz.func51 rfl Tryz.ntmps51 rfl rfl ?_
 refine za ?_
 refine das rfl ?_
 refine dn ?_
 refine zf ?_
 refine za ?_
 refine dmv rfl ?_
 refine dq (zv zjb rfl) ?_
 refine dmv rfl ?_
 refine dn ?_
 refine zk ?_
 refine zab [2, 4, 7, 8, 9, 10, 11, 12, 13, 14] (fun (k : Nat) => [(7, .int .i64 k)]) (fun (k : Nat) => []) (fun (k : Nat) => k ≤ l.length ∧ (orI l = orI (l.drop k))) (fun (k : Nat) => l.length - k) (0) ?_ ?_ ?_ ?_
 ·exact ⟨Nat.zero_le _, by simp_all⟩
 ·exact ⟨rfl, trivial⟩
 ·exact List.Perm.refl _
 ·intro k hinv
  obtain ⟨hk, hg⟩ := hinv
  refine za ?_
  refine dq (zK rfl rfl) ?_
  refine dn ?_
  refine zf ?_
  refine ze rfl (fun h1 => ?_) (fun h2 => ?_)
  ·try simp at h1
   obtain ⟨x, hx⟩ : ∃ x, l[k]? = some x := ⟨_, List.getElem?_eq_getElem h1⟩
   have hdx := zI hx
   rw [hdx] at hg
   refine zi ?_
   refine zd ?_
   refine zf ?_
   refine zk ?_
   refine za ?_
   refine dq (zH zjb zlc rfl rfl rfl (by assumption)) ?_
   refine dq (zc zlc rfl rfl rfl) ?_
   refine das rfl ?_
   refine dn ?_
   refine za ?_
   refine dmv rfl ?_
   refine dq (zah rfl rfl) ?_
   refine dn ?_
   refine ze rfl (fun h3 => ?_) (fun h4 => ?_)
   ·try simp at h3
    refine za ?_
    refine dmv rfl ?_
    refine das rfl ?_
    refine dn ?_
    refine zg ?_
    refine zm rfl ?_
    show HVal.int .i64 _ = _
    rw [hg]; simp_all [orI]
   ·try simp at h4
    refine zi ?_
    refine zu ?_
    refine zd ?_
    refine zy ?_
    refine dq (zx rfl rfl (by omega) (by omega)) ?_
    refine dmv rfl ?_
    refine dn ?_
    refine ⟨k + 1, ?_, ?_, ⟨rfl, trivial⟩, (by repeat (first | exact zo | refine zt rfl ?_ | refine zp rfl rfl ?_)), List.Perm.refl _⟩
    ·refine ⟨by omega, ?_⟩
     rw [hg]; simp_all [orI]
    ·dsimp only; omega
  ·try simp at h2
   have hnk : l.length ≤ k := by omega
   obtain rfl : k = l.length := by omega
   rw [zaq (Nat.le_refl _)] at hg
   refine zL ?_
   refine zS ?_
   refine zap ?_
   refine zD ?_
   refine zd ?_
   refine za ?_
   refine das rfl ?_
   refine dn ?_
   refine zg ?_
   refine zm rfl ?_
   show HVal.int .i64 _ = _
   rw [hg]; simp_all [orI]

/-- internal/bytealg.CompareString -/
theorem zd8 [Tracks] {a b : Str}  : ConP Tryz.prog 128 [.str a, .str b] (.int .i64 (zaH a b)) := by
 refine Con.of_body Tryz.func128 rfl Tryz.ntmps128 rfl rfl ?_
 refine za ?_
 refine das rfl ?_
 refine dn ?_
 refine za ?_
 refine dmv rfl ?_
 refine dmv rfl ?_
 refine dq (zpe Tryz.func162 (by kernel_rfl) (by kernel_rfl) (by kernel_rfl) (by kernel_rfl) rfl rfl rfl) ?_
 refine das rfl ?_
 refine dn ?_
 refine zg ?_
 refine zm rfl ?_
 rfl

/-- strings.Compare -/
theorem zbE [Tracks] {a b : Str}  : ConP Tryz.prog 82 [.str a, .str b] (.int .i64 (zaH a b)) := by
 refine Con.of_body Tryz.func82 rfl Tryz.ntmps82 rfl rfl ?_
 refine za ?_
 refine das rfl ?_
 refine dn ?_
 refine za ?_
 refine dmv rfl ?_
 refine dmv rfl ?_
 refine dq (zj ztt rfl (WeakL.refl _) zd8) ?_
 refine das rfl ?_
 refine dn ?_
 refine zg ?_
 refine zm rfl ?_
 rfl

/-- cmp.Less[string] -/
theorem zjg [Tracks] {a b : Str}  : ConP Tryz.prog 119 [.str a, .str b] (.bool (Op.bytesLess a b)) := by
 refine Con.of_body Tryz.func119 rfl Tryz.ntmps119 rfl rfl ?_
 refine za ?_
 refine das rfl ?_
 refine dn ?_
 refine za ?_
 refine dmv rfl ?_
 refine dq (zj zr1 rfl (WeakL.refl _) ze9) ?_
 refine dmv rfl ?_
 refine dg rfl rfl (fun hc => ⟨_, OpenTo.refl _, zh rfl⟩) ?_
 refine dg rfl rfl (fun hc => ⟨_, OpenTo.upd (t := 8) rfl (hc) (OpenTo.refl _), zj zr1 rfl (WeakL.refl _) ze9⟩) ?_
 refine dg rfl rfl (fun hc => ⟨_, OpenTo.upd (t := 9) rfl (hc) (OpenTo.refl _), zW rfl⟩) ?_
 refine dq (zw rfl (.inr ⟨_, rfl, fun h => by simp_all⟩) (.inl rfl)) ?_
 refine dmv rfl ?_
 refine dg rfl rfl (fun hc => ⟨_, OpenTo.refl _, zh rfl⟩) ?_
 refine dg rfl rfl (fun hc => ⟨_, OpenTo.refl _, zh rfl⟩) ?_
 refine dg rfl rfl (fun hc => ⟨_, OpenTo.upd (t := 14) rfl (hc) (OpenTo.upd (t := 13) rfl (hc) (OpenTo.refl _)), znr rfl rfl⟩) ?_
 refine dq (zw rfl (.inl rfl) (.inr ⟨_, rfl, fun h => by simp_all⟩)) ?_
 refine das rfl ?_
 refine dn ?_
 refine zg ?_
 refine zm rfl ?_
 rfl

/-- slices.Equal[[]string,string] -/
theorem zeR [Tracks] {l m : List Str} (hl : l.length ≤ 1000000) : ConP Tryz.prog 30 [eSs l, eSs m] (.bool (l == m)) := by
 refine Con.of_body Tryz.func30 rfl Tryz.ntmps30 rfl rfl ?_
 refine za ?_
 refine das rfl ?_
 refine dn ?_
 refine zf ?_
 refine za ?_
 refine dmv rfl ?_
 refine dq (zv zA rfl) ?_
 refine dmv rfl ?_
 refine dq (zv zA rfl) ?_
 refine dq (zah rfl rfl) ?_
 refine dn ?_
 refine ze rfl (fun h1 => ?_) (fun h2 => ?_)
 ·try simp at h1
  refine za ?_
  refine das rfl ?_
  refine dn ?_
  refine zg ?_
  refine zm rfl ?_
  show HVal.bool _ = _
  (congr 1; symm; rw [beq_eq_false_iff_ne]; intro h; subst h; omega)
 ·try simp at h2
  refine zi ?_
  refine zd ?_
  refine zf ?_
  refine za ?_
  refine dmv rfl ?_
  refine dq (zv zA rfl) ?_
  refine dmv rfl ?_
  refine dn ?_
  refine zk ?_
  refine zab [4, 5, 13, 14, 15, 16, 17, 18, 19, 20, 21, 22, 23, 24, 25] (fun (k : Nat) => [(13, .int .i64 k)]) (fun (k : Nat) => []) (fun (k : Nat) => k ≤ l.length ∧ (l.length = m.length ∧ (l == m) = (l.drop k == m.drop k))) (fun (k : Nat) => l.length - k) (0) ?_ ?_ ?_ ?_
  ·refine ⟨Nat.zero_le _, ?_, rfl⟩
   omega
  ·exact ⟨rfl, trivial⟩
  ·exact List.Perm.refl _
  ·intro k hinv
   obtain ⟨hk, hg⟩ := hinv
   refine za ?_
   refine dq (zK rfl rfl) ?_
   refine dn ?_
   refine zf ?_
   refine ze rfl (fun h3 => ?_) (fun h4 => ?_)
   ·try simp at h3
    obtain ⟨x, hx⟩ : ∃ x, l[k]? = some x := ⟨_, List.getElem?_eq_getElem h3⟩
    have hdx := zI hx
    obtain ⟨y, hy⟩ : ∃ y, m[k]? = some y := ⟨_, List.getElem?_eq_getElem (by omega)⟩
    rw [hdx, zI hy] at hg
    refine zi ?_
    refine zd ?_
    refine zf ?_
    refine zk ?_
    refine za ?_
    refine dmv rfl ?_
    refine das rfl ?_
    refine dn ?_
    refine zaF (fun _ => True) [] mixed ?_
    refine ahp 0 rfl rfl (by kernel_rfl) (by kernel_rfl) (zh rfl) ?_
    refine ahp 1 rfl rfl (by kernel_rfl) (by kernel_rfl) (zh rfl) ?_
    refine ahp 2 rfl rfl (by kernel_rfl) (by kernel_rfl) (zH zA ty9 rfl rfl rfl (by assumption)) ?_
    refine ahp 3 rfl rfl (by kernel_rfl) (by kernel_rfl) (zc ty9 rfl rfl rfl) ?_
    refine ahp 4 rfl rfl (by kernel_rfl) (by kernel_rfl) (zh rfl) ?_
    refine ahp 5 rfl rfl (by kernel_rfl) (by kernel_rfl) (zh rfl) ?_
    refine ahp 6 rfl rfl (by kernel_rfl) (by kernel_rfl) (zH zA ty9 rfl rfl rfl (by assumption)) ?_
    refine ahp 7 rfl rfl (by kernel_rfl) (by kernel_rfl) (zc ty9 rfl rfl rfl) ?_
    refine ahp 8 rfl rfl (by kernel_rfl) (by kernel_rfl) (zef rfl rfl) ?_
    refine ahz (by kernel_rfl) ?_
    refine ze rfl (fun h5 => ?_) (fun h6 => ?_)
    ·try simp at h5
     refine za ?_
     refine das rfl ?_
     refine dn ?_
     refine zg ?_
     refine zm rfl ?_
     show HVal.bool _ = _
     (rw [hg.2]; simp_all; done)
    ·try simp at h6
     refine zi ?_
     refine zu ?_
     refine zd ?_
     refine zy ?_
     refine dq (zx rfl rfl (by omega) (by omega)) ?_
     refine dmv rfl ?_
     refine dn ?_
     refine ⟨k + 1, ?_, ?_, ⟨rfl, trivial⟩, (by repeat (first | exact zo | refine zt rfl ?_ | refine zp rfl rfl ?_)), List.Perm.refl _⟩
     ·refine ⟨by omega, hg.1, ?_⟩
      rw [hg.2]; simp_all
     ·dsimp only; omega
   ·try simp at h4
    have hnk : l.length ≤ k := by omega
    obtain rfl : k = l.length := by omega
    rw [zaq (Nat.le_refl _)] at hg
    refine zL ?_
    refine zS ?_
    refine zap ?_
    refine zD ?_
    refine zd ?_
    refine za ?_
    refine das rfl ?_
    refine dn ?_
    refine zg ?_
    refine zm rfl ?_
    show HVal.bool _ = _
    (rw [hg.2]; simp_all; done)
end
end Go.Proofs.YtkcnenknbbcoiaaGreatDoor
namespace Go.HL
section
def zdd (r : Room) (l : List Swap) : Nat → List Swap → Int
 | _, [] => 0
 | k, x :: t => if out x.Round 1 r.Rounds then 1 else if !(r.Teams.contains x.Of) || !(r.Teams.contains x.Team) then 8
   else if decide (0 < k) && decide (orI [zgw x.Round (l.getD (k - 1) zmy).Round, zaH x.Of (l.getD (k - 1) zmy).Of] ≤ 0) then 7 else zdd r l (k + 1) t
def zaI (r : Room) (l : List Swap) : Int := if zQ r != 0 then zQ r else if 600 < l.length then 2 else zdd r l 0 l
def zbJ (r : Room) (l : List Keep) : Nat → List Str → Bool → List Keep → Int
 | _, _, tw, [] => if tw then 6 else 0
 | k, kept, tw, x :: t => if !(r.Teams.contains x.Team) || !(r.Players.contains x.Player) then 8 else if out x.Round 1 r.Rounds then 1
   else if decide (0 < k) && decide (orI [zaH x.Team (l.getD (k - 1) zmv).Team, zgw x.Round (l.getD (k - 1) zmv).Round] ≤ 0) then 7
   else zbJ r l (k + 1) (zaY x.Player kept) (tw || kept.contains x.Player) t
def zaT (r : Room) (l : List Keep) : Int := if zQ r != 0 then zQ r else if 600 < l.length then 2 else zbJ r l 0 [] false l
def zms (x : Keep) (y : Swap) : Bool := y.Round == x.Round && y.Of == x.Team
def zfC (s : List Swap) : List Keep → Int
 | [] => 0
 | x :: r => if s.any (zms x) then 13 else zfC s r
def openFault (r : Room) (k : List Keep) (s : List Swap) : Int :=
 if orI [zaT r k, zaI r s] != 0 then orI [zaT r k, zaI r s] else zfC s k
def zbL (r : Room) (sw : List Swap) (round : Int) : List Turn :=
 (if backwards r.Way round then r.Teams.reverse else r.Teams).map fun t => ⟨round, t, owner round t sw⟩
def zay (r : Room) (sw : List Swap) : Nat → List Turn
 | 0 => []
 | n + 1 => zay r sw n ++ zbL r sw (n + 1)
def turns (r : Room) (sw : List Swap) : List Turn := zay r sw r.Rounds.toNat
theorem zcb (r : Room) (sw : List Swap) : ∀ n, (zay r sw n).length = n * r.Teams.length
 | 0 => by simp [zay]
 | n + 1 => by
   have : (zbL r sw ((n : Int) + 1)).length = r.Teams.length := by unfold zbL; split <;> simp
   simp only [zay, List.length_append, zcb r sw n, this, Nat.succ_mul]
def zbb (r : Room) (t : Turn) (p : Pick) : List Keep → Pick
 | [] => p
 | x :: k => zbb r t (if x.Team = t.of ∧ x.Round = t.round then { p with Player := x.Player, At := r.Start } else p) k
def zak (r : Room) (k : List Keep) : Nat → List Turn → List Pick
 | _, [] => []
 | i, t :: l => zbb r t ⟨i, t.team, [], 0, false⟩ k :: zak r k (i + 1) l
def z8 (r : Room) (k : List Keep) (s : List Swap) : List Pick := zak r k 0 (turns r s)
theorem zdC (r : Room) (k : List Keep) : ∀ (i : Nat) (l : List Turn), (zak r k i l).length = l.length
 | _, [] => rfl
 | i, t :: l => by simp [zak, zdC r k (i + 1) l]

/-! what a right room is -/
theorem zkQ {l : List Str} : ∀ (k : Nat), k ≤ l.length → zaX l k (l.drop k) = 0 → ∀ (i j : Nat) (a b : Str), k ≤ j → i + 1 = j → l[i]? = some a → l[j]? = some b → Op.bytesLess a b = true := by
 intro k hk
 generalize hm : l.length - k = m
 induction m generalizing k with
 | zero =>
   intro _ i j a b h1 h2 ha hb
   have := zC hb; omega
 | succ m ih =>
   intro h i j a b h1 h2 ha hb
   have hlt : k < l.length := by omega
   have hx := List.getElem?_eq_getElem hlt
   rw [zI hx, zaX] at h
   by_cases hkey : key l[k] = true
   ·simp only [hkey, Bool.not_true, Bool.false_eq_true, if_false] at h
    by_cases hle : (decide (0 < k) && leS l[k] (l.getD (k - 1) [])) = true
    ·rw [if_pos hle] at h; omega
    ·rw [if_neg hle] at h
     by_cases hj : k + 1 ≤ j
     ·exact ih (k + 1) (by omega) (by omega) h i j a b hj h2 ha hb
     ·obtain rfl : j = k := by omega
      have h0 : 0 < j := by omega
      simp only [h0, decide_true, Bool.true_and] at hle
      have e1 : l.getD (j - 1) [] = a := by
       have : j - 1 = i := by omega
       rw [this]; simp [List.getD, ha]
      have e2 : l[j] = b := by rw [hx] at hb; simpa using hb
      rw [e1, e2, zst] at hle
      simpa using hle
   ·simp [hkey] at h
theorem zeS {l : List Str} (h : zdK l = 0) : SortedS l := by
 have hadj := zkQ (l := l) 0 (Nat.zero_le _) (by simpa [zdK] using h)
 have key : ∀ (d i : Nat) (a b : Str), l[i]? = some a → l[i + d + 1]? = some b → Op.bytesLess a b = true := by
  intro d
  induction d with
  | zero => intro i a b ha hb; exact hadj i (i + 1) a b (by omega) rfl ha hb
  | succ d ih =>
    intro i a b ha hb
    have hlt := zC hb
    have hc := List.getElem?_eq_getElem (l := l) (i := i + d + 1) (by omega)
    have h1 := ih i a _ ha hc
    have h2 := hadj (i + d + 1) (i + (d + 1) + 1) _ b (by omega) (by omega) hc hb
    exact zcZ h1 h2
 refine List.pairwise_iff_getElem.2 fun i j hi hj hij => ?_
 refine key (j - i - 1) i _ _ (List.getElem?_eq_getElem hi) ?_
 have : i + (j - i - 1) + 1 = j := by omega
 rw [this]; exact List.getElem?_eq_getElem hj
theorem zb6 {r : Room} (h : zQ r = 0) : SortedS r.Players ∧ r.Teams.length ≤ 20 ∧ 0 < r.Teams.length ∧ 1 ≤ r.Rounds ∧ r.Rounds ≤ 30 ∧ r.Players.length ≤ 500 := by
 unfold zQ at h
 by_cases h1 : teamsFault r.Teams = 0
 ·rw [if_neg (by simp [h1])] at h
  by_cases h2 : out r.Rounds 1 30 = true
  ·rw [if_pos h2] at h; omega
  ·rw [if_neg h2] at h
   by_cases h3 : out r.Way 1 3 = true
   ·rw [if_pos h3] at h; omega
   ·rw [if_neg h3] at h
    by_cases h4 : playersFault r.Players = 0
    ·have h2' := zdj (by simpa using h2)
     unfold teamsFault at h1
     unfold playersFault at h4
     split at h4
     ·omega
     ·split at h1
      ·omega
      ·split at h1
       ·omega
       ·exact ⟨zeS h4, by omega, by omega, h2'.1, h2'.2, by omega⟩
    ·rw [if_pos (by simpa using h4)] at h; exact absurd h h4
 ·rw [if_pos (by simpa using h1)] at h; exact absurd h h1
end
section
/-- after i swaps -/
def Rev (l c : List Str) (i : Nat) : Prop := c.length = l.length ∧ ∀ k, k < l.length → c[k]? = if k < i ∨ l.length - i ≤ k then l[l.length - 1 - k]? else l[k]?
theorem zp9 (l : List Str) : Rev l l 0 := ⟨rfl, fun k hk => by rw [if_neg (by omega)]⟩
theorem zrp {l c : List Str} {i : Nat} {a b : Str} (h : Rev l c i) (hi : i < l.length - 1 - i) (ha : c[i]? = some a) (hb : c[l.length - 1 - i]? = some b) : Rev l ((c.set i b).set (l.length - 1 - i) a) (i + 1) := by
 obtain ⟨h1, h2⟩ := h
 refine ⟨by simp [h1], fun k hk => ?_⟩
 have ea := h2 i (by omega)
 have eb := h2 (l.length - 1 - i) (by omega)
 rw [if_neg (by omega), ha] at ea
 rw [if_neg (by omega), hb] at eb
 by_cases e1 : k = l.length - 1 - i
 ·subst e1
  rw [if_pos (by omega)]
  have : l.length - 1 - (l.length - 1 - i) = i := by omega
  rw [this, ← ea, List.getElem?_set_self (by simp; omega)]
 ·rw [List.getElem?_set_ne (by omega)]
  by_cases e2 : k = i
  ·subst e2
   rw [if_pos (by omega), ← eb, List.getElem?_set_self (by omega)]
  ·rw [List.getElem?_set_ne (by omega), h2 k hk]
   by_cases e3 : k < i ∨ l.length - i ≤ k
   ·rw [if_pos e3, if_pos (by omega)]
   ·rw [if_neg e3, if_neg (by omega)]
theorem zse {l c : List Str} {i : Nat} (h : Rev l c i) (hi : l.length ≤ 2 * i + 1) : c = l.reverse := by
 obtain ⟨h1, h2⟩ := h
 apply List.ext_getElem?
 intro k
 by_cases hk : k < l.length
 ·rw [h2 k hk]
  rw [List.getElem?_reverse hk]
  by_cases e : k < i ∨ l.length - i ≤ k
  ·rw [if_pos e]
  ·rw [if_neg e]
   congr 1; omega
 ·rw [List.getElem?_eq_none (by omega), List.getElem?_eq_none (by simp; omega)]
end
section
def zcd (r : Room) (s : List Swap) : List Str := if zaI r s != 0 then [] else (turns r s).map (·.team)
theorem zfi {r : Room} {l : List Swap} (h : zaI r l = 0) : zQ r = 0 ∧ l.length ≤ 600 := by
 unfold zaI at h
 by_cases h1 : zQ r = 0
 ·rw [if_neg (by simp [h1])] at h
  split at h
  ·omega
  ·exact ⟨h1, by omega⟩
 ·rw [if_pos (by simpa using h1)] at h; exact absurd h h1
theorem znB {a b : Int} (h : orI [a, b] = 0) : a = 0 ∧ b = 0 := by
 simp only [orI] at h
 split at h <;> simp_all
theorem zaQ {r : Room} {k : List Keep} {s : List Swap} (h : openFault r k s = 0) : zQ r = 0 ∧ zaI r s = 0 ∧ zaT r k = 0 := by
 unfold openFault at h
 by_cases h1 : orI [zaT r k, zaI r s] = 0
 ·obtain ⟨h2, h3⟩ := znB h1
  exact ⟨(zfi h3).1, h3, h2⟩
 ·rw [if_pos (by simpa using h1)] at h; exact absurd h h1
theorem zhX {r : Room} {s : List Swap} (h : zQ r = 0) : (turns r s).length ≤ 600 := by
 obtain ⟨_, h1, _, h2, h3, _⟩ := zb6 h
 unfold turns
 rw [zcb]
 have := Nat.mul_le_mul (show r.Rounds.toNat ≤ 30 by omega) h1
 omega
theorem zjz (r : Room) (t : Turn) (k : List Keep) (x : Keep) : ∀ p, zbb r t p (k ++ [x]) = (if x.Team = t.of ∧ x.Round = t.round then { zbb r t p k with Player := x.Player, At := r.Start } else zbb r t p k) := by
 induction k with
 | nil => intro p; simp [zbb]
 | cons y k ih => intro p; simp only [List.cons_append, zbb]; exact ih _
theorem zhE (r : Room) (k : List Keep) (t : Turn) : ∀ (l : List Turn) (i : Nat), zak r k i (l ++ [t]) = zak r k i l ++ [zbb r t ⟨(i + l.length : Nat), t.team, [], 0, false⟩ k]
 | [], i => by simp [zak]
 | y :: l, i => by
   simp only [List.cons_append, zak, zhE r k t l (i + 1), List.length_cons]
   have : i + 1 + l.length = i + (l.length + 1) := by omega
   rw [this]
end
section
def zm1 (P : Program) (e : Env) : List ResultVar → List HVal → Prop
 | [], [] => True
 | .tmp t :: r, h :: l => e t = some h ∧ zm1 P e r l
 | .cell a t :: r, h :: l => (∃ cs d size bytes zero, e a = some (.vptr cs 0) ∧ Fits P t d size bytes zero ∧ ((d.isAgg = false ∧ cs[0]? = some h) ∨ (d.isAgg = true ∧ size = cs.length ∧ h = .agg cs))) ∧ zm1 P e r l
 | _, _ => False
def zrS : List HVal → HVal
 | [h] => h
 | l => .tup l
def RetC [Tracks] (P : Program) (rs : List ResultVar) (Q : HVal → List MObj → Prop) : Exit → Env → List MObj → Prop
 | .normal, e, M | .ret, e, M => ∃ e' M', Ghost e M e' M' ∧ ∃ l h', zm1 P e' rs l ∧ Weak (zrS l) h' ∧ Q h' M'
 | _, _, _ => False
theorem zqQ [Tracks] {P : Program} {I : Imm} {e : Env} {tmps : Array Value} (he : EnvV I e tmps) {M : List MObj} {w : World} (hs : Sat P I M w) : ∀ (rs : List ResultVar) (l : List HVal), zm1 P e rs l →
 ∃ vs : List Value, (rs.mapM (ze8 tmps)).run P w = .ok vs w ∧ VL I l vs := by
 intro rs
 induction rs with
 | nil =>
   intro l h
   cases l with
   | nil => exact ⟨[], by simp, VL.nil⟩
   | cons _ _ => exact h.elim
 | cons r rs ih =>
   intro l h
   cases l with
   | nil => cases r <;> exact h.elim
   | cons x l =>
     cases r with
     | tmp t =>
       obtain ⟨h1, h2⟩ := h
       obtain ⟨vs, h3, h4⟩ := ih l h2
       obtain ⟨v, h5, h6⟩ := he t x h1
       refine ⟨v :: vs, ?_, VL.cons h6 h4⟩
       simp only [List.mapM_cons, ze8, Sem.run_bind, Sem.run_pure, Result.andThen_ok, h3]
       simp [h5]
     | cell a t =>
       obtain ⟨⟨cs, d, size, bytes, zero, h1, hf, hh⟩, h2⟩ := h
       obtain ⟨vs, h3, h4⟩ := ih l h2
       obtain ⟨v, h5, h6⟩ := he a _ h1
       obtain ⟨b, base, rc, el, fr, g1, g2, g3, g4⟩ := h6.vptr_inv
       obtain ⟨v', h7, h8⟩ := zdZ (I := I) (h := x) (o := base + 0) (off := 0) (base := base) hf (hs.imm _ _ g2) rfl g3 g4 (by
        rcases hh with hh | ⟨p1, p2, p3⟩
        ·exact .inl hh
        ·exact .inr ⟨p1, by omega, by rw [p2]; simpa using p3⟩)
       refine ⟨v' :: vs, ?_, VL.cons h8 h4⟩
       have hg : tmps.getD a undef = .pointer (some ⟨b, base + 0, none⟩) := by simp [h5, g1]
       simp only [List.mapM_cons, ze8, Sem.run_bind, Sem.run_pure, Result.andThen_ok, hg, asAddr, h7, h3]

theorem Con.of_bodyc [Tracks] {P : Program} {f : FuncId} {fn : Func} {c : Code} {hargs : List HVal} {M : List MObj} {Q : HVal → List MObj → Prop}
 {n : Nat} (hf : P.funcs[f]? = some fn) (hb : fn.body = some c) (hnt : fn.ntmps = n) (hn' : Nat.ble hargs.length n = true) {rs : List ResultVar} (hrs : fn.results.toList = rs) (h : HWp P n c (zrL hargs) M (RetC P rs Q)) : Con P f hargs M Q := by
 have hn := Nat.le_of_ble_eq_true hn'
 subst hnt hrs
 intro I F w args h1 h2
 refine calls_of_wp hf hb ?_
 have hlen := h1.1
 refine wp_mono (h I F _ w rfl (by simp; omega) ?_ h2) ?_
 ·intro t x hx
  obtain ⟨v, h3, h4⟩ := h1.get hx
  have hlt : t < args.length := zC h3
  refine ⟨v, ?_, h4⟩
  rw [Array.getElem?_append_left (by simpa using hlt)]
  simpa using h3
 ·have key : ∀ (a' : Act) (w' : World), a'.defers = [] → (∃ J e M', Le I J ∧ (∃ e' M'', Ghost e M' e' M'' ∧ ∃ l h', zm1 P e' fn.results.toList l ∧ Weak (zrS l) h' ∧ Q h' M'') ∧ EnvV J e a'.tmps ∧ Sat P J (M' ++ F) w') →
   a'.defers = [] ∧ ∃ v, (results fn a'.tmps).run P w' = .ok v w' ∧ (∃ v_1 h M' J, Ending.returned v = Ending.returned v_1 ∧ Le I J ∧ Q h M' ∧ V J h v_1 ∧ Sat P J (M' ++ F) w') := by
   rintro a' w' hd ⟨J, e, M', hl, ⟨e', M'', hg, l, h', hr, hw, hq⟩, he, hs⟩
   obtain ⟨J2, hl2, he2, hs2⟩ := hg J F a'.tmps w' he hs
   refine ⟨hd, ?_⟩
   obtain ⟨vs, h3, h4⟩ := zqQ he2 hs2 _ _ hr
   have hrun : (results fn a'.tmps).run P w' = .ok (if h : vs.length = 1 then vs[0] else .tuple vs.toArray) w' := by
    rw [zkr]
    have hm : (fn.results.mapM (ze8 a'.tmps)).run P w' = .ok vs.toArray w' := by
     rw [Array.mapM_eq_mapM_toList]
     simp only [Sem.run_map, h3, Result.andThen_ok]
    simp only [Sem.run_bind, Sem.run_pure]
    rw [hm]
    simp
   refine ⟨_, hrun, _, h', M'', J2, rfl, hl.trans hl2, hq, ?_, hs2⟩
   apply hw
   match l, h4 with
   | [], h4 =>
     have : vs = [] := by have := h4.1; simpa using this
     subst this
     exact .tup (by simp) (fun j c v h _ => by simp at h)
   | [x], h4 =>
     have hl1 : vs.length = 1 := by have := h4.1; simpa using this
     match vs, hl1, h4 with
     | [v], _, h4 => exact h4.head
   | x :: y :: r, h4 =>
     have hl1 : vs.length = r.length + 2 := by have := h4.1; simpa using this
     rw [dif_neg (by omega)]
     exact .tup (by simp [hl1]) (fun j c v h1 h2 => h4.2 j c v h1 (by simpa using h2))
  rintro x a' w' ⟨p1, p2, J, e, M', p3, p4, p5, p6⟩
  cases x with
  | normal => exact key a' w' p1 ⟨J, e, M', p3, p4, p5, p6⟩
  | ret => exact key a' w' p1 ⟨J, e, M', p3, p4, p5, p6⟩
  | exit id => exact p4.elim
  | goto l => exact p4.elim
  | panic ch => exact p4.elim
  | outgrown => exact p4.elim

section
variable {P : Program} {e : Env} {dst : Option Tmp} {ty : TypeId} {pos : String} {af : Array Edge} {g : Option (Nat × Bool)} {M : List MObj} {K : HVal → List MObj → Prop}
theorem Fits.arrD [Tracks] {t : TypeId} {n el size bytes : Nat} {zero : Value} (h : Fits P t (.arr n el) size bytes zero) : P.underlying t = some (.array n el) := by
 obtain ⟨x, h1, h2⟩ := h.underlying
 cases x <;> simp [zes] at h2
 obtain ⟨rfl, rfl⟩ := h2
 exact h1
theorem zhY [Tracks] {t el : TypeId} {n size bytes sz b2 : Nat} {zero z2 : Value} {d : TD} (hf : Fits P t (.arr n el) size bytes zero) (hel : Fits P el d sz b2 z2) {k : IntKind} {j b o : Nat} (hj : j < n) (w : World) :
 (Instr.indexAt t (.pointer (some ⟨b, o, none⟩)) (.int k (j : Int))).run P w = .ok (.pointer (some ⟨b, o + j * sz, none⟩)) w := by
 have h1 : (0 : Int) ≤ (j : Int) ∧ (j : Int) < (n : Int) := by omega
 simp [Instr.indexAt, asIntOf, run_underlying hf.arrD, h1, hel.run_sizeOf, zco, Instr.sureAddr]
 intro h; omega
/-- An element of an array. -/
theorem zrA [Tracks] {x y : Operand} {t el : TypeId} {n size bytes sz b2 : Nat} {zero z2 : Value} {d : TD} {cs : List HVal} {off : Nat} {k : IntKind} {i : Int} {j : Nat}
 (hf : Fits P t (.arr n el) size bytes zero) (hel : Fits P el d sz b2 z2) (hx : zn e x = some (.vptr cs off)) (hy : zn e y = some (.int k i)) (hi : i = (j : Int)) (hj : j < n) :
 POp P e ⟨dst, .indexAddr t x y, ty, pos, af, g⟩ (.vptr cs (off + j * sz)) :=
 POp.of_val fun I a w ho => by
  subst hi
  obtain ⟨b, base, rc, el, fr, h1, h2, h3, h4⟩ := (ho.one (x := x) (by simp [Op.operands]) hx).vptr_inv
  have h5 := (ho.one (x := y) (by simp [Op.operands]) hy).int_inv
  refine ⟨.pointer (some ⟨b, base + off + j * sz, none⟩), by simp [execOp, h1, h5, zhY hf hel hj], ?_⟩
  rw [Nat.add_assoc]; exact .vptr h2 h3 h4
theorem zm0 [Tracks] {x y : Operand} {t el : TypeId} {n size bytes sz b2 : Nat} {zero z2 : Value} {d : TD} {b o : Nat} {k : IntKind} {i : Int} {j : Nat}
 (hf : Fits P t (.arr n el) size bytes zero) (hel : Fits P el d sz b2 z2) (hx : zn e x = some (.raw (.pointer (some ⟨b, o, none⟩)))) (hy : zn e y = some (.int k i)) (hi : i = (j : Int)) (hj : j < n) :
 POp P e ⟨dst, .indexAddr t x y, ty, pos, af, g⟩ (.raw (.pointer (some ⟨b, o + j * sz, none⟩))) :=
 POp.of_val fun I a w ho => by
  subst hi
  have h1 := (ho.one (x := x) (by simp [Op.operands]) hx).raw_inv
  have h5 := (ho.one (x := y) (by simp [Op.operands]) hy).int_inv
  exact ⟨_, by simp [execOp, h1, h5, zhY hf hel hj], .raw _ rfl⟩

theorem zmb [Tracks] {f : FuncId} {fn : Func} {args : Array Operand} {ats : Array TypeId} {x y : Operand} {s : List UInt8} {c : Int} (hf : P.funcs[f]? = some fn) (h1 : (fn.name == "runtime.NumGoroutine") = false) (h2 : fn.body.isNone = true)
 (h3 : (Extern.findNext fn).isNone = true) (h4 : Extern.find fn = some Extern.BytealgIndexByte.indexByte) (ha : args = #[x, y]) (hx : zn e x = some (.str s)) (hy : zn e y = some (.int .u8 c)) :
 POp P e ⟨dst, .call ⟨.value (.func f), args, ats⟩, ty, pos, af, g⟩ (.int .i64 (Lib.indexByte s c.toNat.toUInt8)) :=
 POp.of_val fun I a w ho => by
  subst ha
  have e1 := (ho.one (x := x) (by simp [Op.operands, Call.operands]) hx).str_inv
  have e2 := (ho.one (x := y) (by simp [Op.operands, Call.operands]) hy).int_inv
  refine ⟨_, ?_, .int _ _⟩
  have h3' : Extern.findNext fn = none := by cases h : Extern.findNext fn with | none => rfl | some _ => rw [h] at h3; simp at h3
  have hcmp : (Extern.BytealgIndexByte.indexByte #[.string ⟨s.toArray⟩, .int .u8 c]).run P w = .ok (.int .i64 (Lib.indexByte s c.toNat.toUInt8)) w := by
   have := Lib.run_indexByteString (P := P) ⟨s.toArray⟩ c w
   simpa using this
  have hev : a.eval (.func f) = .func (.func f) #[] #[] := rfl
  have hmap : (#[x, y] : Array Operand).map a.eval = #[.string ⟨s.toArray⟩, .int .u8 c] := by simp [e1, e2]
  have hargs : (#[] : Array Value) ++ #[.string ⟨s.toArray⟩, .int .u8 c] ++ #[] = #[.string ⟨s.toArray⟩, .int .u8 c] := rfl
  simp only [execOp, resolve, hev, hmap, Deferred.ofValue, invoke, callFunc, Sem.run_bind, Sem.run_pure, Result.andThen_ok, run_program, hf, h1, h2, h3', h4, Bool.false_eq_true, if_false, if_true, run_mark, hargs, hcmp]
end
end
section
def asciiSet (l : List UInt8) : List HVal := (List.range 256).map fun i => .bool (l.contains (UInt8.ofNat i))
theorem zb4 (l : List UInt8) : (asciiSet l).length = 256 := by simp [asciiSet]
theorem ziP (l : List UInt8) (c : UInt8) : (asciiSet l)[c.toNat]? = some (.bool (l.contains c)) := by
 have := c.toNat_lt
 simp [asciiSet, List.getElem?_range, this]
theorem zkV {α : Type} (f : α → Bool) : ∀ l : List α, za6 (l.map fun i => .bool (f i)) = true
 | [] => rfl
 | x :: l => by simp only [List.map_cons, za6]; exact zkV f l
theorem zmd (l : List UInt8) : za6 (asciiSet l) = true := zkV _ _
theorem zmG (l : List UInt8) (c : UInt8) : zZ (asciiSet l) (0 + c.toNat * 1) [.bool true] = asciiSet (l ++ [c]) := by
 have hc := c.toNat_lt
 have hl : 0 + c.toNat * 1 = c.toNat := by omega
 rw [hl]
 apply List.ext_getElem?
 intro i
 have hlen := zb4 l
 simp only [zZ, List.length_singleton]
 by_cases hi : i < c.toNat
 ·rw [List.getElem?_append_left (by simp; omega), List.getElem?_append_left (by simp [hlen]; omega), List.getElem?_take_of_lt hi]
  have h256 : i < 256 := by omega
  have hne : UInt8.ofNat i ≠ c := fun h => by
   have := congrArg UInt8.toNat h
   rw [UInt8.toNat_ofNat_of_lt' (by simpa [UInt8.size] using h256)] at this; omega
  simp [asciiSet, List.getElem?_range, h256, hne]
 ·by_cases he : i = c.toNat
  ·subst he
   rw [List.getElem?_append_left (by simp [hlen]; omega), List.getElem?_append_right (by simp [hlen]; omega)]
   rw [ziP]
   simp [hlen, Nat.min_eq_left (Nat.le_of_lt hc)]
  ·rw [List.getElem?_append_right (by simp [hlen]; omega), List.getElem?_drop]
   have e1 : c.toNat + 1 + (i - ((asciiSet l).take c.toNat ++ [HVal.bool true]).length) = i := by simp [hlen]; omega
   rw [e1]
   by_cases h256 : i < 256
   ·have hne : UInt8.ofNat i ≠ c := fun h => by
     have := congrArg UInt8.toNat h
     rw [UInt8.toNat_ofNat_of_lt' (by simpa [UInt8.size] using h256)] at this; omega
    simp [asciiSet, List.getElem?_range, h256, hne]
   ·rw [List.getElem?_eq_none (by rw [zb4]; omega), List.getElem?_eq_none (by rw [zb4]; omega)]
def zd3 (p : UInt8 → Bool) (s : Str) : Str := (s.reverse.dropWhile p).reverse
theorem zfw (p : UInt8 → Bool) (s : Str) (c : UInt8) : zd3 p (s ++ [c]) = if p c then zd3 p s else s ++ [c] := by
 unfold zd3
 rw [List.reverse_append]
 simp only [List.reverse_cons, List.reverse_nil, List.nil_append, List.singleton_append, List.dropWhile_cons]
 split <;> simp
theorem zqF (p : UInt8 → Bool) : ∀ s : Str, (s.dropWhile p).length ≤ s.length
 | [] => Nat.le_refl _
 | x :: s => by
   rw [List.dropWhile_cons]
   split
   ·exact Nat.le_succ_of_le (zqF p s)
   ·exact Nat.le_refl _
theorem zp2 (p : UInt8 → Bool) (s : Str) : (zd3 p s).length ≤ s.length := by
 unfold zd3
 rw [List.length_reverse]
 have := zqF p s.reverse
 rwa [List.length_reverse] at this
theorem zpV (p : UInt8 → Bool) : ∀ s : Str, s.dropWhile p = [] → ∀ c ∈ s, p c = true
 | [], _, c, h => by cases h
 | x :: s, h, c, hc => by
   rw [List.dropWhile_cons] at h
   by_cases hx : p x = true
   ·rw [if_pos hx] at h
    rcases List.mem_cons.1 hc with rfl | hc
    ·exact hx
    ·exact zpV p s h c hc
   ·rw [if_neg hx] at h; cases h
theorem zrq (p : UInt8 → Bool) (s : Str) : ((zd3 p s).dropWhile p == []) = s.all p := by
 induction s using List.reverseRecOn' with
 | nil => rfl
 | snoc s c ih =>
   rw [zfw]
   by_cases hc : p c = true
   ·rw [if_pos hc, ih]; simp [hc]
   ·rw [if_neg hc]
    have : (s ++ [c]).all p = false := by simp [hc]
    rw [this]
    cases hd : (s ++ [c]).dropWhile p with
    | nil => exact absurd (zpV _ _ hd c (by simp)) hc
    | cons _ _ => rfl
where
 List.reverseRecOn' {motive : Str → Prop} (nil : motive []) (snoc : ∀ s c, motive s → motive (s ++ [c])) (l : Str) : motive l := by
  have : ∀ n (l : Str), l.length = n → motive l := by
   intro n
   induction n with
   | zero => intro l h; rw [List.length_eq_zero_iff.1 h]; exact nil
   | succ n ih =>
     intro l h
     have hne : l ≠ [] := fun h0 => by subst h0; simp at h
     rw [← List.dropLast_concat_getLast hne]
     exact snoc _ _ (ih _ (by simp [h]))
  exact this l.length l rfl
def zho : Str := [97, 98, 99, 100, 101, 102, 103, 104, 105, 106, 107, 108, 109, 110, 111, 112, 113, 114, 115, 116, 117, 118, 119, 120, 121, 122, 48, 49, 50, 51, 52, 53, 54, 55, 56, 57, 45, 95]
def zi0 : Str := [97, 98, 99, 100, 101, 102, 103, 104, 105, 106, 107, 108, 109, 110, 111, 112, 113, 114, 115, 116, 117, 118, 119, 120, 121, 122]
theorem zp7 {p : UInt8 → Bool} (h : (List.range 256).all (fun i => p (UInt8.ofNat i)) = true) (c : UInt8) : p c = true := by
 have := List.all_eq_true.1 h c.toNat (List.mem_range.2 c.toNat_lt)
 simpa using this
theorem zre (c : UInt8) : zho.contains c = zfq c := by
 have := zp7 (p := fun c => zho.contains c == zfq c) (by kernel_rfl) c
 simpa using this
theorem zpp (c : UInt8) : decide (0 ≤ Lib.indexByte zi0 c) = (decide (97 ≤ c.toNat) && decide (c.toNat ≤ 122)) := by
 have := zp7 (p := fun c => decide (0 ≤ Lib.indexByte zi0 c) == (decide (97 ≤ c.toNat) && decide (c.toNat ≤ 122))) (by kernel_rfl) c
 simpa using this
theorem zr2 (s : Str) : key s = ((!(out s.length 1 40) && ((zd3 (zho.contains ·) s).dropWhile (zho.contains ·) == [])) && decide (0 ≤ Lib.indexByte zi0 (s.headD 0))) := by
 rw [zrq, zpp]
 have : (fun x => zho.contains x) = zfq := funext zre
 rw [this]
 unfold key zgb
 cases s with
 | nil => simp [out]
 | cons x r =>
   simp only [List.headD_cons]
   have h1 : (!(out ((x :: r).length : Int) 1 40)) = decide ((x :: r).length ≤ 40) := by
    simp only [out, List.length_cons]
    rw [Bool.eq_iff_iff]; simp; omega
   rw [h1]
   have h2 : ((x :: r) != []) = true := rfl
   rw [h2]
   have hb : ∀ a b c d : Bool, (true && a && c && d && b) = (a && b && (c && d)) := by decide
   exact hb _ _ _ _
theorem zpi (n : Int) : (if out n 0 345686399999 then (1 : Int) else 0) = if zaL n then 0 else 1 := by
 have : out n 0 345686399999 = !(zaL n) := by
  simp only [out, zaL]; rw [Bool.eq_iff_iff]; simp; try omega
 rw [this]; cases zaL n <;> rfl
end
section
variable {P : Program}
open Go.Sort Go.Proofs
theorem zfM [Tracks] {I : Imm} {F : List MObj} {w : World} {b off n cap sz : Nat} {es : List HVal} (h : Sat P I (.arr (.slice (some ⟨b, off, none⟩) n cap) sz es :: F) w) :
 n = es.length ∧ ∃ rc el fr, w.heap[b]? = some (.cells rc el fr) ∧ Free fr rc.size ∧ (∀ e ∈ es, (zl e).length = sz) ∧ (es.length ≤ cap ∧ cap ≤ 9223372036854775807) ∧ off + cap * sz ≤ rc.size ∧
  (∀ (i j : Nat) (e c : HVal) (v : Value), es[i]? = some e → (zl e)[j]? = some c → rc[off + i * sz + j]? = some v → V I c v) := by
 rcases h.obj _ List.mem_cons_self with ⟨h0, _⟩ | ⟨b', off', cap', rc, el, fr, h1, h2, h3, h4, h5, h6, h7⟩
 ·cases h0
 ·cases h1
  exact ⟨rfl, rc, el, fr, h2, h3, h4, h5, h6, h7⟩
theorem zl5 [Tracks] {I : Imm} {F : List MObj} {w : World} {b off n cap : Nat} {l : List (List UInt8)} (h : Sat P I (.arr (.slice (some ⟨b, off, none⟩) n cap) 1 (l.map .str) :: F) w) :
 Holds encStr w b off l.toArray ∧ b < w.heap.size ∧ l.length ≤ cap ∧ n = l.length := by
 obtain ⟨h0, rc, el, fr, h2, h3, h4, h5, h6, h7⟩ := zfM h
 simp only [List.length_map] at h0 h5
 refine ⟨fun j hj => ?_, ?_, h5.1, h0⟩
 ·have hj' : j < l.length := by simpa using hj
  have hlt : off + j < rc.size := by omega
  constructor
  ·rw [zeK h2, Array.getElem?_eq_getElem hlt]
   have hv := h7 j 0 (.str l[j]) (.str l[j]) rc[off + j] (by simp [hj']) (by simp [zl]) (by simp [Array.getElem?_eq_getElem hlt])
   rw [hv.str_inv]
   simp [hj', encStr]
  ·simp only [World.frozen?, h2]
   have := h3 (off + j) hlt
   simpa using this
 ·rcases Nat.lt_or_ge b w.heap.size with h' | h'
  ·exact h'
  ·simp [Array.getElem?_eq_none h'] at h2
theorem zou [Tracks] {I : Imm} {F : List MObj} {w : World} {b off n cap n' k : Nat} {os : Array Obj} {l zs : List (List UInt8)} (h : Sat P I (.arr (.slice (some ⟨b, off, none⟩) n cap) 1 (l.map .str) :: F) w) (hz : zs.length = l.length) (hn : n' ≤ l.length) :
 Sat P I (.arr (.slice (some ⟨b, off, none⟩) n' cap) 1 ((zs.take n').map .str) :: F) (grow (putRow encStr (Sort.ahead w k) b off zs.toArray) os) := by
 obtain ⟨h0, rc, el, fr, h2, h3, h4, h5, h6, h7⟩ := zfM h
 simp only [List.length_map] at h0 h5
 have hlt : b < w.heap.size := by
  rcases Nat.lt_or_ge b w.heap.size with h' | h'
  ·exact h'
  ·simp [Array.getElem?_eq_none h'] at h2
 have hheap : ∀ c, c < w.heap.size → (grow (putRow encStr (Sort.ahead w k) b off zs.toArray) os).heap[c]? = (w.heap.modify b (onCells (putCells encStr off zs.toArray)))[c]? := fun c hc => by
  simp only [grow, putRow, mapBlock, Sort.ahead]
  rw [Array.getElem?_append_left (by simpa using hc)]
 refine h.change (m' := .arr (.slice (some ⟨b, off, none⟩) n' cap) 1 ((zs.take n').map .str)) (fun c hc hnc => ?_) (fun c hc => .inl hc) (by simp [MObj.blocks]) ?_ rfl rfl rfl
 ·rw [hheap c hc, Array.getElem?_modify]
  have : b ≠ c := fun hh => hnc (by subst hh; simp [MObj.blocks])
  rw [if_neg this]
 ·refine .inr ⟨b, off, cap, putCells encStr off zs.toArray rc, el, fr, ?_, ?_, ?_, ?_, ?_, ?_, ?_⟩
  ·simp [hz, Nat.min_eq_left hn]
  ·rw [hheap b hlt, Array.getElem?_modify, if_pos rfl, h2]; rfl
  ·simpa [putCells] using h3
  ·intro e he; obtain ⟨a, _, rfl⟩ := List.mem_map.1 he; simp [zl]
  ·simp; omega
  ·simpa [putCells] using h6
  ·intro i j e c v a1 a2 a3
   have hi : i < n' := by
    have := zC a1; simp at this; omega
   rw [List.getElem?_map, List.getElem?_take_of_lt hi] at a1
   cases hq : zs[i]? with
   | none => rw [hq] at a1; simp at a1
   | some s =>
     rw [hq] at a1; simp at a1; subst a1
     have hj : j = 0 := by have := zC a2; simp [zl] at this; omega
     subst hj
     simp [zl] at a2; subst a2
     have hil : i < zs.length := zC hq
     have hr : off + i * 1 + 0 < rc.size := by omega
     rw [putCells, Array.getElem?_mapIdx, Array.getElem?_eq_getElem hr, Option.map_some, if_pos ⟨by omega, by simp; omega⟩] at a3
     have e1 : off + i * 1 + 0 - off = i := by omega
     rw [e1] at a3
     have e2 : zs.toArray[i]! = s := by
      rw [getElem!_pos zs.toArray i (by simpa using hil)]
      have := List.getElem?_eq_getElem hil
      rw [hq] at this; simpa using (Option.some.inj this).symm
     rw [e2] at a3
     cases a3
     exact .str s

theorem VL.one {I : Imm} {h : HVal} {args : List Value} (hv : VL I [h] args) : ∃ v, args = [v] ∧ V I h v := by
 obtain ⟨h1, h2⟩ := hv
 match args, h1 with
 | [v], _ => exact ⟨v, rfl, h2 0 h v rfl rfl⟩

def zar (l : List (List UInt8)) : List (List UInt8) := l.mergeSort fun x y => decide (x ≤ y)
theorem zch (l : List (List UInt8)) : (zar l).length = l.length := by simp [zar]

/-- A function that works on a slice of strings in place and hands on nothing. -/
theorem zr5 [Tracks] {P : Program} {f : FuncId} {l zs : List (List UInt8)} {v : Value} (hz : zs.length = l.length)
 (h1 : ∀ (b off cap : Nat) (w : World), Holds encStr w b off l.toArray → b < w.heap.size → l.length ≤ cap → Calls P f #[.slice (some ⟨b, off, none⟩) l.length cap] w fun e w' => e = .returned (.tuple #[]) ∧ ∃ n os, w' = grow (putRow encStr (Sort.ahead w n) b off zs.toArray) os)
 (h0 : l = [] → ConP P f [.slice 1 []] (.tup [])) : Con P f [.raw v] [.arr v 1 (l.map .str)] fun x M' => x = .tup [] ∧ M' = [.arr v 1 (zs.map .str)] := by
 intro I F w args ha hs
 obtain ⟨u, rfl, hu⟩ := ha.one
 obtain rfl : u = v := hu.raw_inv
 rcases hs.obj (.arr u 1 (l.map .str)) (by simp) with ⟨rfl, hn⟩ | ⟨b, off, cap, rc, el, fr, rfl, _⟩
 ·have hl : l = [] := by simpa using hn
  subst hl
  have hz0 : zs = [] := List.length_eq_zero_iff.1 hz
  subst hz0
  refine (h0 rfl I (.arr (.slice none 0 0) 1 [] :: F) w [.slice none 0 0] (VL.cons (.slice0 _ _ _) VL.nil) (by simpa using hs)).mono ?_
  rintro _ w' ⟨v, h, M', J, rfl, hle, ⟨rfl, rfl⟩, hv, hsat⟩
  exact ⟨v, _, [.arr (.slice none 0 0) 1 []], J, rfl, hle, ⟨rfl, rfl⟩, hv, by simpa using hsat⟩
 ·rw [List.length_map] at hs ⊢
  obtain ⟨g1, g2, g3, g4⟩ := zl5 hs
  refine (h1 b off cap w g1 g2 g3).mono ?_
  rintro _ w' ⟨rfl, n, os, rfl⟩
  refine ⟨_, .tup [], _, I, rfl, .refl I, ⟨rfl, rfl⟩, .tup (by simp) (fun j c v h _ => by simp at h), ?_⟩
  have := zou (n' := l.length) (k := n) (os := os) hs hz (Nat.le_refl _)
  rw [← hz, List.take_length, hz] at this
  exact this
/-- The same, where the slice comes back, cut. -/
theorem zq9 [Tracks] {P : Program} {f : FuncId} {l zs : List (List UInt8)} {v : Value} (hz : zs.length ≤ l.length)
 (h1 : ∀ (b off cap : Nat) (w : World), Holds encStr w b off l.toArray → b < w.heap.size → l.length ≤ cap → Calls P f #[.slice (some ⟨b, off, none⟩) l.length cap] w fun e w' => e = .returned (.slice (some ⟨b, off, none⟩) zs.length cap) ∧ ∃ n, w' = putRow encStr (Sort.ahead w n) b off (zs ++ List.replicate (l.length - zs.length) []).toArray)
 (h0 : l = [] → ∀ w, Calls P f #[.slice none 0 0] w fun e w' => e = .returned (.slice none 0 0) ∧ w' = w) : Con P f [.raw v] [.arr v 1 (l.map .str)] fun x M' => ∃ u, x = .raw u ∧ M' = [.arr u 1 (zs.map .str)] := by
 intro I F w args ha hs
 obtain ⟨u, rfl, hu⟩ := ha.one
 obtain rfl : u = v := hu.raw_inv
 rcases hs.obj (.arr u 1 (l.map .str)) (by simp) with ⟨rfl, hn⟩ | ⟨b, off, cap, rc, el, fr, rfl, _⟩
 ·have hl : l = [] := by simpa using hn
  subst hl
  have hz0 : zs = [] := List.length_eq_zero_iff.1 (by simpa using hz)
  subst hz0
  refine (h0 rfl w).mono ?_
  rintro _ w' ⟨rfl, rfl⟩
  exact ⟨_, .raw (.slice none 0 0), _, I, rfl, .refl I, ⟨_, rfl, rfl⟩, .raw _ rfl, hs⟩
 ·rw [List.length_map] at hs ⊢
  obtain ⟨g1, g2, g3, g4⟩ := zl5 hs
  refine (h1 b off cap w g1 g2 g3).mono ?_
  rintro _ w' ⟨rfl, n, rfl⟩
  refine ⟨_, .raw (.slice (some ⟨b, off, none⟩) zs.length cap), _, I, rfl, .refl I, ⟨_, rfl, rfl⟩, .raw _ rfl, ?_⟩
  have := zou (zs := zs ++ List.replicate (l.length - zs.length) []) (n' := zs.length) (k := n) (os := #[]) hs (by simp; omega) hz
  rw [List.take_left' rfl, grow_empty] at this
  exact this
end
section
theorem zlp {α : Type} [BEq α] [LawfulBEq α] [Inhabited α] [DecidableEq α] (d : Array α) (m : Nat) : (Lib.compactUpTo d m).length ≤ m := by
 unfold Lib.compactUpTo
 rw [List.length_map]
 have := List.length_filter_le (Lib.keeps d) (List.range m)
 simpa using this
theorem zoY (l : List Str) : (Lib.compact l).length ≤ l.length := zlp _ _
end
section
open Op (bytesLess)
theorem zdx (a b : Str) : zaH a b = -zaH b a := by
 rw [zfE, zfE]
 rcases zbA a b with h | h | h
 ·have hne : a ≠ b := fun e => by subst e; rw [zag] at h; cases h
  simp [h, zaU h, hne.symm]
 ·subst h; simp [zag]
 ·have hne : a ≠ b := fun e => by subst e; rw [zag] at h; cases h
  simp [h, zaU h, hne]
theorem zqN (a b : Int) : orI [-a, -b] = -orI [a, b] := by
 by_cases h1 : a = 0 <;> by_cases h2 : b = 0 <;> simp [orI, h1, h2]
end
section
section
variable {α : Type} (c : α → α → Int)
def zhd (x : α) : List α → List α
 | [] => [x]
 | y :: t => if c x y < 0 then y :: zhd x t else x :: y :: t
def zcJ (x : α) (S : List α) : List α := (zhd c x S.reverse).reverse
def za0 (l : List α) : List α := l.foldl (fun S x => zcJ c x S) []
theorem zrC (x : α) : zcJ c x [] = [x] := rfl
theorem zlD (x y : α) (S : List α) : zcJ c x (S ++ [y]) = if c x y < 0 then zcJ c x S ++ [y] else S ++ [y, x] := by
 unfold zcJ
 rw [List.reverse_append]
 simp only [List.reverse_cons, List.reverse_nil, List.nil_append, List.singleton_append, zhd]
 split <;> simp
theorem zks (l : List α) (x : α) : za0 c (l ++ [x]) = zcJ c x (za0 c l) := by simp [za0, List.foldl_append]
theorem ziq (x : α) : ∀ l, (zhd c x l).Perm (x :: l)
 | [] => .refl _
 | y :: t => by
   simp only [zhd]; split
   ·exact ((ziq x t).cons y).trans (.swap _ _ _)
   ·exact .refl _
theorem zqj (x : α) (S : List α) : (zcJ c x S).Perm (x :: S) := by
 unfold zcJ
 exact (List.reverse_perm _).trans ((ziq c x _).trans ((List.reverse_perm S).cons x))
theorem zke : ∀ (l S : List α), (l.foldl (fun S x => zcJ c x S) S).Perm (S ++ l)
 | [], S => by simp
 | x :: l, S => by
   simp only [List.foldl_cons]
   refine (zke l _).trans ?_
   refine ((zqj c x S).append_right l).trans ?_
   exact (List.perm_middle (a := x) (l₁ := S) (l₂ := l)).symm
theorem zc5 (l : List α) : (za0 c l).Perm l := by
 have := zke c l []
 simpa [za0] using this
theorem zek (l : List α) : (za0 c l).length = l.length := (zc5 c l).length_eq
theorem zgf {l : List α} {x : α} : x ∈ za0 c l ↔ x ∈ l := (zc5 c l).mem_iff
/-- A comparison by which things stand in one line, as far as they are in s. -/
structure Cmp (s : α → Prop) : Prop where
 flip : ∀ x y, s x → s y → (c x y < 0 ↔ 0 < c y x)
 trans : ∀ x y z, s x → s y → s z → c x y ≤ 0 → c y z ≤ 0 → c x z ≤ 0
variable {c}
theorem zjw {s : α → Prop} (hc : Cmp c s) {x : α} (hx : s x) : ∀ {l : List α}, (∀ y ∈ l, s y) → l.Pairwise (fun a b => c b a ≤ 0) → (zhd c x l).Pairwise (fun a b => c b a ≤ 0)
 | [], _, _ => by simp [zhd]
 | y :: t, hs, hp => by
   have hy := hs y (by simp)
   have ht : ∀ z ∈ t, s z := fun z hz => hs z (List.mem_cons_of_mem _ hz)
   obtain ⟨h1, h2⟩ := List.pairwise_cons.1 hp
   simp only [zhd]
   split
   ·rename_i hlt
    refine List.pairwise_cons.2 ⟨fun z hz => ?_, zjw hc hx ht h2⟩
    rcases List.mem_cons.1 ((ziq c x t).mem_iff.1 hz) with rfl | hz
    ·omega
    ·exact h1 z hz
   ·rename_i hge
    have hyx : c y x ≤ 0 := by
     have := (hc.flip x y hx hy)
     omega
    refine List.pairwise_cons.2 ⟨fun z hz => ?_, hp⟩
    rcases List.mem_cons.1 hz with rfl | hz
    ·exact hyx
    ·exact hc.trans z y x (ht z hz) hy hx (h1 z hz) hyx
theorem znT {s : α → Prop} (hc : Cmp c s) {x : α} (hx : s x) {l : List α} (hs : ∀ y ∈ l, s y) (hp : l.Pairwise (fun a b => c a b ≤ 0)) : (zcJ c x l).Pairwise (fun a b => c a b ≤ 0) := by
 unfold zcJ
 rw [List.pairwise_reverse]
 exact zjw hc hx (fun y hy => hs y (List.mem_reverse.1 hy)) (List.pairwise_reverse.2 hp)
theorem zic {s : α → Prop} (hc : Cmp c s) {l : List α} (hs : ∀ y ∈ l, s y) : (za0 c l).Pairwise (fun a b => c a b ≤ 0) := by
 have key : ∀ (n : Nat), n ≤ l.length → (za0 c (l.take n)).Pairwise (fun a b => c a b ≤ 0) := by
  intro n
  induction n with
  | zero => intro _; simp [za0]
  | succ n ih =>
    intro hn
    have hx := List.getElem?_eq_getElem (l := l) (i := n) (by omega)
    rw [zae hx, zks]
    exact znT hc (hs _ (List.mem_of_getElem? hx)) (fun y hy => hs y (List.mem_of_mem_take ((zc5 c _).mem_iff.1 hy))) (ih (by omega))
 have := key l.length (Nat.le_refl _)
 rwa [List.take_length] at this
end
end
section
variable {P : Program}
section
variable {P : Program} {e : Env} {dst : Option Tmp} {ty : TypeId} {pos : String} {af : Array Edge} {g : Option (Nat × Bool)} {M : List MObj} {K : HVal → List MObj → Prop}
theorem zfx {α : Type} : ∀ {l : List α} {i : Nat} {x : α}, l[i]? = some x → l.Perm (x :: l.eraseIdx i)
 | [], i, x, h => by simp at h
 | y :: l, 0, x, h => by simp at h; subst h; exact .refl _
 | y :: l, i + 1, x, h => by
   have := zfx (l := l) (i := i) (x := x) (by simpa using h)
   exact (this.cons y).trans (.swap _ _ _)
/-- A call on one of the owned objects. -/
theorem zN [Tracks] {f : FuncId} {args : Array Operand} {ats : Array TypeId} {hs hs' : List HVal} {i : Nat} {m : MObj} {Q : HVal → List MObj → Prop} (hc : Callable P f) (ha : zcx e args.toList = some hs) (hw : WeakL hs hs') (hm : M[i]? = some m)
 (hp : Con P f hs' [m] Q) (hk : ∀ h M', Q h M' → K h (M' ++ M.eraseIdx i)) : EOp P e M ⟨dst, .call ⟨.value (.func f), args, ats⟩, ty, pos, af, g⟩ K :=
 zaK (M1 := [m]) hc ha hw (zfx hm) hp hk
/-- The length of an owned slice. -/
theorem zj2 [Tracks] {α : Type} {f : α → HVal} {x : Operand} {t el : TypeId} {size bytes : Nat} {zero : Value} {i : Nat} {v : Value} {sz : Nat} {es : List α} (hf : Fits P t (.slice el) size bytes zero) (hx : zn e x = some (.raw v))
 (hm : M[i]? = some (.arr v sz (es.map f))) (hk : K (.int .i64 es.length) M) : EOp P e M ⟨dst, .call ⟨.builtin .len, #[x], #[t]⟩, ty, pos, af, g⟩ K := by
 refine zoo hf hx hm ?_
 rw [List.length_map]; exact hk
/-- An element of an owned slice is loaded, whole or in part, through its address. -/
theorem zn3 [Tracks] {α : Type} {f : α → HVal} {x : Operand} {t : TypeId} {d : TD} {size bytes : Nat} {zero : Value} {i b off cap n sz j o : Nat} {es : List α} {y : α} (k : Nat) {h : HVal} (hf : Fits P t d size bytes zero)
 (hx : zn e x = some (.raw (.pointer (some ⟨b, o, none⟩)))) (ho' : o = off + j * sz + k) (hm : M[i]? = some (.arr (.slice (some ⟨b, off, none⟩) n cap) sz (es.map f))) (hj : es[j]? = some y)
 (hd : d.isAgg = false) (hh : (zl (f y))[k]? = some h) (hk : K h M) : EOp P e M ⟨dst, .load t x, ty, pos, af, g⟩ K :=
 zeB (j := j) (f := k) (y := f y) hf hx ho' hm (by rw [List.getElem?_map, hj]; rfl) (.inl ⟨hd, hh⟩) hk
end
section
variable {P : Program} {ops : Array Oper} {n : Nat} {K : Env → List MObj → Prop} {rest : List Oper} {e : Env} {M : List MObj} {d : Nat} {op : Op} {ty : TypeId} {pos : String} {af : Array Edge}
end
def zdJ (cap off sz : Nat) : Nat := if cap = 1 then off else off + sz
theorem Sat.arr_tail [Tracks] {I : Imm} {F : List MObj} {w : World} {b off cap sz : Nat} {x : HVal} {es : List HVal} (h : Sat P I (.arr (.slice (some ⟨b, off, none⟩) (es.length + 1) cap) sz (x :: es) :: F) w) :
 Sat P I (.arr (.slice (some ⟨b, zdJ cap off sz, none⟩) es.length (cap - 1)) sz es :: F) w := by
 obtain ⟨_, rc, el, fr, h2, h3, h4, h5, h6, h7⟩ := zfM h
 simp only [List.length_cons] at h5
 refine h.change (m' := .arr (.slice (some ⟨b, zdJ cap off sz, none⟩) es.length (cap - 1)) sz es) (fun _ _ _ => rfl) (fun c hc => .inl hc) (by simp [MObj.blocks]) ?_ rfl rfl rfl
 have hcs : cap * sz = (cap - 1) * sz + sz := by
  conv => lhs; rw [show cap = cap - 1 + 1 by omega]
  rw [Nat.succ_mul]
 refine .inr ⟨b, zdJ cap off sz, cap - 1, rc, el, fr, rfl, h2, h3, fun e he => h4 e (List.mem_cons_of_mem _ he), by omega, ?_, ?_⟩
 ·unfold zdJ; split
  ·omega
  ·omega
 ·intro i j e c v a1 a2 a3
  have hi := zC a1
  have ht : zdJ cap off sz = off + sz := by unfold zdJ; rw [if_neg (by omega)]
  rw [ht] at a3
  refine h7 (i + 1) j e c v (by simpa using a1) a2 ?_
  rw [Nat.succ_mul]
  have e1 : off + (i * sz + sz) + j = off + sz + i * sz + j := by omega
  rw [e1]; exact a3
theorem Ghost.tail [Tracks] {e : Env} {M : List MObj} {b off cap sz : Nat} {x : HVal} {es : List HVal} : Ghost e (.arr (.slice (some ⟨b, off, none⟩) (es.length + 1) cap) sz (x :: es) :: M) e (.arr (.slice (some ⟨b, zdJ cap off sz, none⟩) es.length (cap - 1)) sz es :: M) :=
 fun _ I F tmps w h1 h2 => ⟨I, .refl I, h1, h2.arr_tail⟩
section
variable {P : Program} {e : Env} {dst : Option Tmp} {ty : TypeId} {pos : String} {af : Array Edge} {g : Option (Nat × Bool)}
/-- The tail of a slice whose header is known. -/
theorem zrl [Tracks] {x : Operand} {t el : TypeId} {size bytes sz b2 : Nat} {zero z2 : Value} {d : TD} {b off n cap : Nat}
 (hf : Fits P t (.slice el) size bytes zero) (hel : Fits P el d sz b2 z2) (hx : zn e x = some (.raw (.slice (some ⟨b, off, none⟩) (n + 1) cap))) (hc : n + 1 ≤ cap) :
 POp P e ⟨dst, .slice t x (some (.const (.int .i64 1))) none none, ty, pos, af, g⟩ (.raw (.slice (some ⟨b, zdJ cap off sz, none⟩) n (cap - 1))) :=
 POp.of_val fun I a w ho => by
  have h1 := (ho.one (x := x) (by simp [Op.operands]) hx).raw_inv
  have hb : (Instr.sliceBounds true (n + 1) cap (Option.map a.eval (some (.const (.int .i64 1)))) (Option.map a.eval none) none).run P w = .ok (1, n + 1, cap) w :=
   zfs (P := P) (e := e) (lo := some (.const (.int .i64 1))) (hi := none) (l := 1) (h := n + 1) (len := n + 1) (cap := cap) ho (by intro y hy; simp [Op.operands, hy]) (by intro y hy; simp [Op.operands, hy]) ⟨_, _, rfl, rfl⟩ rfl (by omega) (Nat.le_refl _) hc true w
  refine ⟨_, ?_, .raw _ rfl⟩
  simp only [Option.map_some, Option.map_none] at hb
  simp [execOp, Instr.sliceAt, run_underlying hf.slice, h1, Instr.slice, hb, hel.run_sizeOf, zdJ]
  try (split <;> simp_all [zco])
end
end
section
abbrev pAt (b : Nat) : HVal := .raw (.pointer (some ⟨b, 0, none⟩))
/-- A stream of numbers of which a have been drawn. -/
abbrev St (b : Nat) (l : List Int) (a : Nat) : MObj := .cells b [.slice 1 (l.map (.int .i64)), .int .i64 (a : Int)]
def below (x n : Int) : Int := if n < 1 then 0 else if x.tmod n < 0 then x.tmod n + n else x.tmod n
theorem ziJ (x n : Int) : ∃ y : Nat, below x n = (y : Int) ∧ (y : Int) < max n 1 := by
 have h : 0 ≤ below x n ∧ below x n < max n 1 := by
  unfold below
  split
  ·omega
  ·have h1 := Int.tmod_lt_of_pos x (show 0 < n by omega)
   have h2 : -n < x.tmod n := by
    have := Int.neg_lt_tmod_of_pos' x n (by omega)
    exact this
   split <;> omega
 exact ⟨(below x n).toNat, by omega, by omega⟩
where
 Int.neg_lt_tmod_of_pos' (x n : Int) (h : 0 < n) : -n < x.tmod n := by
  rcases Int.le_total 0 x with hx | hx
  ·have := Int.tmod_nonneg n hx; omega
  ·have e : x.tmod n = -((-x).tmod n) := by rw [Int.neg_tmod]; simp
   have := Int.tmod_lt_of_pos (-x) h
   omega
theorem getI {L : List Int} {y : Nat} (h : (y : Int) < max (L.length : Int) 1) (h0 : 0 < L.length) : ∃ z, L[y]? = some z ∧ z ∈ L :=
 ⟨L[y]'(by omega), List.getElem?_eq_getElem _, List.getElem_mem _⟩
theorem getS {L : List Str} {y : Nat} (h : (y : Int) < max (L.length : Int) 1) (h0 : 0 < L.length) : ∃ z, L[y]? = some z ∧ z ∈ L :=
 ⟨L[y]'(by omega), List.getElem?_eq_getElem _, List.getElem_mem _⟩
theorem zqX (a b : Nat) : ((a : Int)).tmod (b : Int) = ((a % b : Nat) : Int) := by
 exact (Int.ofNat_tmod a b).symm
end
section
variable {P : Program}
open Go.Sort Go.Proofs
section
variable {P : Program} {n : Nat} {e : Env} {M : List MObj} {Q : Exit → Env → List MObj → Prop} {c c' : Code}
def zmq [Tracks] {ι : Type} (e : Env) (ks : List Nat) (W : ι → List (Nat × HVal)) (MM : ι → List MObj) (Iv : ι → Prop) (Q : Exit → Env → List MObj → Prop) : Exit → Env → List MObj → Prop
 | .normal, e', M => ∃ e2 M2, Ghost e' M e2 M2 ∧ ∃ j, Iv j ∧ zdc e2 (W j) ∧ zd1 ks e e2 ∧ M2.Perm (MM j)
 | x, e', M => Q x e' M
theorem zqR [Tracks] {ι : Type} (ks : List Nat) (W : ι → List (Nat × HVal)) (MM : ι → List MObj) (Iv : ι → Prop) (h1 : HWp P n c e M (zmq e ks W MM Iv Q))
 (h2 : ∀ i, Iv i → HWp P n c' (loopE e ks (W i)) (MM i) Q) : HWp P n (.seq c c') e M Q := by
 refine zf (zgH h1 ?_)
 intro x e1 M1 hq
 cases x with
 | normal =>
   obtain ⟨e2, M2, hg, j, a1, a2, a3, a4⟩ := hq
   exact zF (hg.trans ((Ghost.sub (Sub.loopE a2 a3)).trans (Ghost.perm a4))) (h2 j a1)
 | _ => exact hq
theorem zz [Tracks] {ι : Type} {e0 e2 : Env} {M2 : List MObj} {ks : List Nat} {W : ι → List (Nat × HVal)} {MM : ι → List MObj} {Iv : ι → Prop} (hg : Ghost e M e2 M2) (h : zmq e0 ks W MM Iv Q .normal e2 M2) : zmq e0 ks W MM Iv Q .normal e M := by
 obtain ⟨e3, M3, g, r⟩ := h
 exact ⟨e3, M3, hg.trans g, r⟩
theorem zgZ [Tracks] {ι : Type} {e0 : Env} {ks : List Nat} {W : ι → List (Nat × HVal)} {MM : ι → List MObj} {Iv : ι → Prop} (j : ι) (h : Iv j) (hW : zdc e (W j)) (hk : zd1 ks e0 e) (hM : M.Perm (MM j)) : zmq e0 ks W MM Iv Q .normal e M :=
 ⟨e, M, Ghost.sub (Sub.refl _), j, h, hW, hk, hM⟩
end
/-- Another view of the state within a region. -/
theorem zsX [Tracks] {P : Program} {ops : Array Oper} {n : Nat} {K : Env → List MObj → Prop} {rest : List Oper} {e : Env} {M M' : List MObj} (hm : M = M') (k : Der P ops n K rest e M') : Der P ops n K rest e M := hm ▸ k
/-- The header of an owned slice, with its capacity. -/
theorem zi8 [Tracks] {P : Program} {n : Nat} {e : Env} {M : List MObj} {c : Code} {Q : Exit → Env → List MObj → Prop} {i : Nat} {v : Value} {sz : Nat} {es : List HVal} (hm : M[i]? = some (.arr v sz es))
 (h0 : v = .slice none 0 0 → es = [] → HWp P n c e M Q) (h1 : ∀ b off cap, v = .slice (some ⟨b, off, none⟩) es.length cap → es.length ≤ cap → HWp P n c e M Q) : HWp P n c e M Q := fun I F a w a1 a2 a3 a4 => by
 rcases a4.obj _ (List.mem_append_left _ (List.mem_of_getElem? hm)) with ⟨g1, g2⟩ | ⟨b, off, cap, rc, el, fr, g1, _, _, _, g5, _⟩
 ·exact h0 g1 g2 I F a w a1 a2 a3 a4
 ·exact h1 b off cap g1 g5.1 I F a w a1 a2 a3 a4
theorem zT [Tracks] {α : Type} {l r : List α} {x : α} (i : Nat) (h : l[i]? = some x) (hr : (l.eraseIdx i).Perm r) : l.Perm (x :: r) := (zfx h).trans (hr.cons x)
theorem zM [Tracks] {α : Type} {l r : List α} {x y : α} (i : Nat) (h : l[i]? = some y) (hy : y = x) (hr : (l.eraseIdx i).Perm r) : l.Perm (x :: r) := hy ▸ zT i h hr
theorem zml [Tracks] {P : Program} {f : FuncId} {hargs : List HVal} {h : HVal} (hc : ∀ (I : Imm) (w : World) (args : List Value), VL I hargs args → ∃ v, V I h v ∧ Calls P f args.toArray w fun e w' => e = .returned v ∧ w' = w) : ConP P f hargs h := by
 intro I F w args ha hs
 obtain ⟨v, hv, hcalls⟩ := hc I w args ha
 refine hcalls.mono ?_
 rintro _ w' ⟨rfl, rfl⟩
 exact ⟨v, h, [], I, rfl, .refl I, ⟨rfl, rfl⟩, hv, hs⟩
end
section
abbrev zis : HVal := .raw (.slice none 0 0)
abbrev zhx (b : Nat) (t : HVal) (R W : Int) (p : HVal) (C S : Int) : MObj := .cells b [t, .int .i64 R, .int .i64 W, p, .int .i64 C, .int .i64 S]
structure GoodRoom (r : Room) : Prop where
 t0 : 0 < r.Teams.length
 t4 : r.Teams.length ≤ 4
 p20 : r.Players.length ≤ 20
 p1 : 1 ≤ r.Players.length
 ts : ∀ s ∈ r.Teams, s.length ≤ 1000000
 ps : ∀ s ∈ r.Players, s.length ≤ 1000000
def zck : List Str := [[116, 99], [116, 97], [116, 98]]
theorem zeh : ∀ s ∈ zck, s.length ≤ 100 := by decide
theorem zoy {i : Nat} (h : i < 100) : (Lib.decDigits i).length ≤ 10 := by
 have : (List.range 100).all (fun i => decide ((Lib.decDigits i).length ≤ 10)) = true := by kernel_rfl
 have := List.all_eq_true.1 this i (List.mem_range.2 h)
 simpa using this
theorem ziH {T Pl : List Str} {R W C S : Int} {k : Nat} (hT : 1 ≤ T.length ∧ T.length ≤ 3) (hP : Pl.length = k) (hk : 1 ≤ k ∧ k ≤ 19) (h1 : ∀ s ∈ T, s.length ≤ 100) (h2 : ∀ s ∈ Pl, s.length ≤ 100) : GoodRoom ⟨T, R, W, Pl, C, S⟩ :=
 ⟨by dsimp only; omega, by dsimp only; omega, by dsimp only; omega, by dsimp only; omega, fun s hs => by have := h1 s hs; omega, fun s hs => by have := h2 s hs; omega⟩
theorem zoL {T Pl : List Str} {R W C S : Int} {k : Nat} {y : Str} (hT : 1 ≤ T.length ∧ T.length ≤ 3) (hP : Pl.length = k) (hk : 1 ≤ k ∧ k ≤ 19) (h1 : ∀ s ∈ T, s.length ≤ 100) (h2 : ∀ s ∈ Pl, s.length ≤ 100) (hy : y.length ≤ 100) : GoodRoom ⟨T ++ [y], R, W, Pl, C, S⟩ :=
 ⟨by simp, by simp; omega, by dsimp only; omega, by dsimp only; omega, fun s hs => by
  rcases List.mem_append.1 hs with h | h
  ·have := h1 s h; omega
  ·simp at h; subst h; omega, fun s hs => by have := h2 s hs; omega⟩
theorem zpn {T Pl : List Str} {R W C S : Int} {k : Nat} {y : Str} (hT : 1 ≤ T.length ∧ T.length ≤ 3) (hP : Pl.length = k) (hk : k ≤ 19) (h1 : ∀ s ∈ T, s.length ≤ 100) (h2 : ∀ s ∈ Pl, s.length ≤ 100) (hy : y.length ≤ 100) : GoodRoom ⟨T, R, W, Pl ++ [y], C, S⟩ :=
 ⟨by dsimp only; omega, by dsimp only; omega, by simp; omega, by simp, fun s hs => by have := h1 s hs; omega, fun s hs => by
  rcases List.mem_append.1 hs with h | h
  ·have := h2 s h; omega
  ·simp at h; subst h; omega⟩
end
section
open Op (bytesLess)
/-- A list without the elements that equal the one before (p ahead of the first). -/
def zci (p : Option Str) : List Str → List Str
 | [] => []
 | x :: r => if p = some x then zci (some x) r else x :: zci (some x) r
theorem zkB (x : Str) : ∀ (l : List Str) (p : Option Str), zci p (l ++ [x]) = zci p l ++ if (l.getLast?.or p) = some x then [] else [x]
 | [], p => by
   by_cases h : p = some x
   ·simp only [List.nil_append, zci]
    rw [if_pos h, if_pos (by simpa using h)]
   ·simp only [List.nil_append, zci]
    rw [if_neg h, if_neg (by simpa using h)]
 | y :: l, p => by
   have ih := zkB x l (some y)
   have e : (y :: l).getLast?.or p = l.getLast?.or (some y) := by
    cases l with
    | nil => simp
    | cons z r => simp [List.getLast?_cons_cons]; rw [List.getLast?_eq_some_getLast (by simp)]; simp
   rw [e]
   simp only [List.cons_append, zci, ih]
   split <;> simp
theorem zfP (l : List Str) : ∀ m, m ≤ l.length → Lib.compactUpTo l.toArray m = zci none (l.take m)
 | 0, _ => by simp [Lib.compactUpTo, zci]
 | m + 1, h => by
   have hm : m < l.length := by omega
   have hx := List.getElem?_eq_getElem hm
   rw [Lib.compactUpTo_succ, zfP l m (by omega), zae hx, zkB]
   congr 1
   have e1 : l.toArray[m]! = l[m] := by simp [getElem!_pos, hm]
   rw [e1]
   cases m with
   | zero => simp [Lib.keeps]
   | succ m =>
     have hl : (l.take (m + 1)).getLast? = some l[m] := by
      rw [zae (List.getElem?_eq_getElem (show m < l.length by omega)), List.getLast?_append]; rfl
     have e2 : l.toArray[m]! = l[m] := by simp [getElem!_pos, show m < l.length by omega]
     rw [hl]
     simp only [Lib.keeps, e1, Nat.add_sub_cancel, e2]
     by_cases hh : l[m] = l[m + 1]
     ·simp [hh]
     ·have hh' : ¬ l[m + 1] = l[m] := fun h => hh h.symm
      simp [hh, hh']
theorem zfJ (l : List Str) : Lib.compact l = zci none l := by
 unfold Lib.compact
 rw [zfP l _ (Nat.le_refl _), List.take_length]
theorem zmD : ∀ (l : List Str) (p : Option Str), (zci p l).length ≤ l.length
 | [], _ => Nat.le_refl _
 | x :: r, p => by
   have := zmD r (some x)
   simp only [zci]; split <;> simp <;> omega
theorem znd (l : List Str) : (zar l).Pairwise (fun x y => x ≤ y) := by
 have := List.pairwise_mergeSort (le := fun x y : Str => decide (x ≤ y)) (fun a b c h1 h2 => by
  simp only [decide_eq_true_eq] at *; exact List.le_trans h1 h2) (fun a b => by
  simp only [Bool.or_eq_true, decide_eq_true_eq]; exact List.le_total a b) l
 exact this.imp (fun h => by simpa using h)
theorem zmQ (s t : Str) (l : List Str) : t ∈ zaY s l ↔ t = s ∨ t ∈ l := by
 unfold zaY
 split
 ·rename_i h
  simp only [List.contains_iff_mem] at h
  constructor
  ·exact .inr
  ·rintro (rfl | h')
   ·exact h
   ·exact h'
 ·simp [or_comm]
end
section
def Sh (s : Str) : Prop := s.length ≤ 1000000
/-- The state of KeepList's loops. -/
structure KLs where
 u : Value
 out : List Keep
 lv : Value
 left : List Str
 a : Nat
structure KLok (n a : Nat) (q : KLs) : Prop where
 out : q.out.length ≤ n
 left : q.left.length ≤ 20
 ls : ∀ s ∈ q.left, Sh s
 os : ∀ x ∈ q.out, Sh x.Team ∧ Sh x.Player
 a : q.a ≤ a + 2 * n
theorem zh9 : ∀ (l : List Str) (p : Option Str) (s : Str), s ∈ zci p l → s ∈ l
 | [], _, s, h => by simp [zci] at h
 | x :: r, p, s, h => by
   simp only [zci] at h
   split at h
   ·exact List.mem_cons_of_mem _ (zh9 r _ s h)
   ·rcases List.mem_cons.1 h with h | h
    ·subst h; simp
    ·exact List.mem_cons_of_mem _ (zh9 r _ s h)
theorem zsJ {l : List Str} {s : Str} (h : s ∈ Lib.compact (zar l)) : s ∈ l := by
 rw [zfJ] at h
 have := zh9 _ _ _ h
 exact (List.mergeSort_perm _ _).mem_iff.1 this
theorem KLok.add {n a : Nat} {u u' lv lv' : Value} {out : List Keep} {left : List Str} {a1 a2 k : Nat} {t p : Str} {rd : Int} (h : KLok n a ⟨u, out, lv, left, a1⟩) (h1 : a2 ≤ a1 + 2) (ht : Sh t) (hp : left[k]? = some p) :
 KLok (n + 1) a ⟨u', out ++ [⟨t, p, rd⟩], lv', left.eraseIdx k, a2⟩ :=
 ⟨by have := h.out; simp at *; omega, by have := h.left; have := List.length_eraseIdx_le left k; dsimp only at *; omega, fun s hs => h.ls s (List.mem_of_mem_eraseIdx hs), fun x hx => by
  rcases List.mem_append.1 hx with hx | hx
  ·exact h.os x hx
  ·simp at hx; subst hx; exact ⟨ht, h.ls p (List.mem_of_getElem? hp)⟩, by have := h.a; dsimp only at *; omega⟩
theorem zsy {α β : Type} {f : α → β} {l : List α} {j : Nat} {x : α} (h : l[j]? = some x) : (l.map f)[j]? = some (f x) := by
 rw [List.getElem?_map, h]; rfl
/-- The state of SwapList's loops: what is out, the row of teams, the draws. -/
structure SLs where
 u : Value
 out : List Swap
 row : List Str
 a : Nat
structure SLok (n a : Nat) (q : SLs) : Prop where
 out : q.out.length ≤ n
 row : q.row.length ≤ 4
 rs : ∀ s ∈ q.row, Sh s
 os : ∀ x ∈ q.out, Sh x.Of ∧ Sh x.Team
 a : q.a ≤ a + 2 * n
theorem SLok.add {n a : Nat} {u u' : Value} {out : List Swap} {row : List Str} {a1 a2 : Nat} {t p : Str} {rd : Int} (h : SLok n a ⟨u, out, row, a1⟩) (h1 : a2 ≤ a1 + 2) (ht : Sh t) (hp : Sh p) :
 SLok (n + 1) a ⟨u', out ++ [⟨rd, t, p⟩], row, a2⟩ :=
 ⟨by have := h.out; simp at *; omega, h.row, h.rs, fun x hx => by
  rcases List.mem_append.1 hx with hx | hx
  ·exact h.os x hx
  ·simp at hx; subst hx; exact ⟨ht, hp⟩, by have := h.a; dsimp only at *; omega⟩
end
section
open Op (bytesLess)
structure Asset where
 Player : Str
 Position : Str
 Value : Int
structure Place where
 Position : Str
 Many : Int
abbrev zbf (x : Asset) : HVal := .agg [.str x.Player, .str x.Position, .int .i64 x.Value]
abbrev zsW (x : Place) : HVal := .agg [.str x.Position, .int .i64 x.Many]
abbrev zfD (l : List Asset) : HVal := .slice 3 (l.map zbf)
abbrev zi5 (l : List Place) : HVal := .slice 2 (l.map zsW)
def ziz : Asset := ⟨[], [], 0⟩
def zmT : Place := ⟨[], 0⟩
def assetFault (x : Asset) : Int := if !(key x.Player) || !(key x.Position) then 5 else if out x.Value (-1000000) 1000000 then 1 else 0
def zcT (l : List Asset) : Nat → List Asset → Int
 | _, [] => 0
 | k, x :: t => if assetFault x != 0 then assetFault x else if decide (0 < k) && leS x.Player (l.getD (k - 1) ziz).Player then 7 else zcT l (k + 1) t
def zbY (l : List Asset) : Int := if 300 < l.length then 2 else zcT l 0 l
def zcq (l : List Place) : Nat → List Place → Int
 | _, [] => 0
 | k, x :: t => if !(key x.Position) then 5 else if out x.Many 0 12 then 1 else if decide (0 < k) && leS x.Position (l.getD (k - 1) zmT).Position then 7 else zcq l (k + 1) t
def zbX (l : List Place) : Int := if 10 < l.length then 2 else zcq l 0 l
def byValue (a b : Asset) : Int := orI [zgw b.Value a.Value, zaH a.Player b.Player]
def zex (l : List Asset) (pos : Str) : List Asset := l.filter (fun x => x.Position == pos)
def ofP (l : List Asset) (pos : Str) : List Asset := za0 byValue (zex l pos)
def zdF (o : List Asset) (many : Int) : List Asset := (o.take (min many o.length).toNat).filter (fun y => decide (0 < y.Value))
def zav (of : Str → List Asset) (p : List Place) : List Asset := p.flatMap fun x => zdF (of x.Position) x.Many
def zcA (l : List Asset) : Int := (l.map (·.Value)).sum
def zkD (l : List Asset) : List Str := zar (l.map (·.Player))
theorem zkp {l : List Asset} {k : Nat} {x : Asset} {pos : Str} (h : l[k]? = some x) : zex (l.take (k + 1)) pos = zex (l.take k) pos ++ if x.Position == pos then [x] else [] := by
 rw [zae h]; unfold zex; rw [List.filter_append]
 by_cases hx : x.Position == pos <;> simp [hx]
theorem zjL (l : List Asset) (pos : Str) : (zex l pos).length ≤ l.length := List.length_filter_le _ _
theorem zsg (l : List Asset) (pos : Str) : (ofP l pos).length ≤ l.length := by unfold ofP; rw [zek]; exact zjL l pos
end
section
open Op (bytesLess)
theorem zqI {l : List Asset} {k : Nat} : (l.map (·.Player)).getD k [] = (l.getD k ziz).Player := by
 by_cases h : k < l.length
 ·simp [List.getD, List.getElem?_eq_getElem h]
 ·simp [List.getD, List.getElem?_eq_none (Nat.le_of_not_lt h), ziz]
theorem zhB {x : Asset} (h : assetFault x = 0) : key x.Player = true ∧ key x.Position = true ∧ -1000000 ≤ x.Value ∧ x.Value ≤ 1000000 := by
 unfold assetFault at h
 by_cases h1 : (!(key x.Player) || !(key x.Position)) = true
 ·rw [if_pos h1] at h; omega
 ·rw [if_neg h1] at h
  by_cases h2 : out x.Value (-1000000) 1000000 = true
  ·rw [if_pos h2] at h; omega
  ·have := zdj (by simpa using h2)
   simp at h1
   exact ⟨h1.1, h1.2, this.1, this.2⟩
theorem zjt (l : List Asset) : ∀ (t : List Asset) (k : Nat), zcT l k t = 0 → zaX (l.map (·.Player)) k (t.map (·.Player)) = 0 ∧ ∀ x ∈ t, assetFault x = 0
 | [], _, _ => ⟨rfl, fun x h => by cases h⟩
 | x :: t, k, h => by
   simp only [zcT] at h
   by_cases h1 : assetFault x = 0
   ·rw [if_neg (by simpa using h1)] at h
    by_cases h2 : (decide (0 < k) && leS x.Player (l.getD (k - 1) ziz).Player) = true
    ·rw [if_pos h2] at h; omega
    ·rw [if_neg h2] at h
     obtain ⟨h3, h4⟩ := zjt l t (k + 1) h
     refine ⟨?_, fun y hy => ?_⟩
     ·simp only [List.map_cons, zaX, zqI]
      rw [if_neg (by simp [(zhB h1).1]), if_neg h2]
      exact h3
     ·rcases List.mem_cons.1 hy with rfl | hy
      ·exact h1
      ·exact h4 y hy
   ·rw [if_pos (by simpa using h1)] at h; exact absurd h h1
theorem zlm {l : List Asset} (h : zbY l = 0) : SortedS (l.map (·.Player)) ∧ ∀ x ∈ l, assetFault x = 0 := by
 unfold zbY at h
 split at h
 ·omega
 ·obtain ⟨h1, h2⟩ := zjt l l 0 h
  exact ⟨zeS (by simpa [zdK] using h1), h2⟩
theorem zjD (l : List Place) : ∀ (t : List Place) (k : Nat), zcq l k t = 0 → ∀ x ∈ t, 0 ≤ x.Many ∧ x.Many ≤ 12
 | [], _, _ => fun x h => by cases h
 | x :: t, k, h => by
   simp only [zcq] at h
   by_cases h1 : (!(key x.Position)) = true
   ·rw [if_pos h1] at h; omega
   ·rw [if_neg h1] at h
    by_cases h2 : out x.Many 0 12 = true
    ·rw [if_pos h2] at h; omega
    ·rw [if_neg h2] at h
     by_cases h3 : (decide (0 < k) && leS x.Position (l.getD (k - 1) zmT).Position) = true
     ·rw [if_pos h3] at h; omega
     ·rw [if_neg h3] at h
      intro y hy
      rcases List.mem_cons.1 hy with rfl | hy
      ·exact zdj (by simpa using h2)
      ·exact zjD l t (k + 1) h y hy
theorem zlj {l : List Place} (h : zbX l = 0) : (∀ x ∈ l, 0 ≤ x.Many ∧ x.Many ≤ 12) ∧ l.length ≤ 10 := by
 unfold zbX at h
 split at h
 ·omega
 ·exact ⟨zjD l l 0 h, by omega⟩
theorem ze0 {a b : Str} : zaH a b ≤ 0 ↔ bytesLess b a = false := by
 rw [zfE]
 rcases zbA a b with h | h | h
 ·simp [h, zaU h]
 ·subst h; simp [zag]
 ·have hne : a ≠ b := fun e => by subst e; rw [zag] at h; cases h
  simp [h, zaU h, hne]
theorem zcc {a b : Str} : zaH a b = 0 ↔ a = b := by
 rw [zfE]
 rcases zbA a b with h | h | h
 ·have hne : a ≠ b := fun e => by subst e; rw [zag] at h; cases h
  simp [h, hne]
 ·subst h; simp [zag]
 ·have hne : a ≠ b := fun e => by subst e; rw [zag] at h; cases h
  simp [zaU h, hne]
theorem zfv {a b c : Str} (h1 : zaH a b ≤ 0) (h2 : zaH b c ≤ 0) : zaH a c ≤ 0 := by
 rw [ze0] at *
 rcases zbA a b with h | h | h
 ·rcases zbA b c with h' | h' | h'
  ·exact zaU (zcZ h h')
  ·subst h'; exact zaU h
  ·rw [h'] at h2; cases h2
 ·subst h; exact h2
 ·rw [h] at h1; cases h1
theorem zqP (a b : Int) : orI [a, b] = if a ≠ 0 then a else b := by
 simp only [orI]
 by_cases ha : a = 0 <;> by_cases hb : b = 0 <;> simp [ha, hb]
end
section
variable {P : Program}
section
variable {P : Program} {e : Env} {dst : Option Tmp} {ty : TypeId} {pos : String} {af : Array Edge} {g : Option (Nat × Bool)} {M : List MObj} {K : HVal → List MObj → Prop}
/-- A whole element of an owned slice is loaded. -/
theorem zds [Tracks] {α : Type} {f : α → HVal} {x : Operand} {t : TypeId} {d : TD} {size bytes : Nat} {zero : Value} {i b off cap n sz j o : Nat} {es : List α} {y : α} (hf : Fits P t d size bytes zero)
 (hx : zn e x = some (.raw (.pointer (some ⟨b, o, none⟩)))) (ho' : o = off + j * sz) (hm : M[i]? = some (.arr (.slice (some ⟨b, off, none⟩) n cap) sz (es.map f))) (hj : es[j]? = some y)
 (hd : d.isAgg = true) (hs : size = (zl (f y)).length) (hv : f y = .agg (zl (f y))) (hk : K (f y) M) : EOp P e M ⟨dst, .load t x, ty, pos, af, g⟩ K :=
 zeB (j := j) (f := 0) (y := f y) hf hx (by omega) hm (by rw [List.getElem?_map, hj]; rfl) (.inr ⟨hd, by omega, by rw [List.drop_zero, hs, List.take_length]; exact hv⟩) hk
/-- A whole element of an owned slice is stored. -/
theorem zhK [Tracks] {α : Type} {f : α → HVal} {x z : Operand} {t : TypeId} {d : TD} {size bytes : Nat} {zero : Value} {i b off cap n sz j o : Nat} {es : List α} {y y' : α} (hf : Fits P t d size bytes zero)
 (hx : zn e x = some (.raw (.pointer (some ⟨b, o, none⟩)))) (ho' : o = off + j * sz) (hz : zn e z = some (f y')) (hm : M[i]? = some (.arr (.slice (some ⟨b, off, none⟩) n cap) sz (es.map f))) (hj : es[j]? = some y)
 (hok : zc7 size (f y') = true) (hfl : za6 (zl (f y')) = true) (hle : (zl (f y')).length = (zl (f y)).length)
 (hk : K .junk (M.set i (.arr (.slice (some ⟨b, off, none⟩) n cap) sz ((es.set j y').map f)))) : EOp P e M ⟨dst, .store t x z, ty, pos, af, g⟩ K := by
 have h0 := (zb0 hok).1
 refine zd5 (j := j) (f := 0) (y := f y) (y' := f y') hf hx (by omega) hz hm (by rw [List.getElem?_map, hj]; rfl) hok hfl (by omega) ?_ ?_
 ·rw [zmE hle]
 ·rw [List.map_set] at hk; exact hk
end
theorem Sat.arr_take [Tracks] {I : Imm} {F : List MObj} {w : World} {b off n cap sz m : Nat} {es : List HVal} (hm : m ≤ es.length) (h : Sat P I (.arr (.slice (some ⟨b, off, none⟩) n cap) sz es :: F) w) :
 Sat P I (.arr (.slice (some ⟨b, off, none⟩) m cap) sz (es.take m) :: F) w := by
 obtain ⟨_, rc, el, fr, h2, h3, h4, h5, h6, h7⟩ := zfM h
 refine h.change (m' := .arr (.slice (some ⟨b, off, none⟩) m cap) sz (es.take m)) (fun _ _ _ => rfl) (fun c hc => .inl hc) (by simp [MObj.blocks]) ?_ rfl rfl rfl
 have hl : (es.take m).length = m := by simp; omega
 refine .inr ⟨b, off, cap, rc, el, fr, by rw [hl], h2, h3, fun e he => h4 e (List.mem_of_mem_take he), by omega, h6, fun i j e c v a1 a2 a3 => ?_⟩
 have hi := zC a1
 rw [List.getElem?_take_of_lt (by omega)] at a1
 exact h7 i j e c v a1 a2 a3
theorem Ghost.take [Tracks] {e : Env} {M : List MObj} {b off n cap sz m : Nat} {es : List HVal} (hm : m ≤ es.length) : Ghost e (.arr (.slice (some ⟨b, off, none⟩) n cap) sz es :: M) e (.arr (.slice (some ⟨b, off, none⟩) m cap) sz (es.take m) :: M) :=
 fun _ I F tmps w h1 h2 => ⟨I, .refl I, h1, h2.arr_take hm⟩
section
variable {P : Program} {e : Env} {dst : Option Tmp} {ty : TypeId} {pos : String} {af : Array Edge} {g : Option (Nat × Bool)} {M : List MObj} {K : HVal → List MObj → Prop}
end
end
section
variable {P : Program}
open Go.ChangeShapes Go.WideShapes Go.RowKit
theorem ziy [Tracks] {W W' : World} {J : Imm} {M : List MObj} (hl : Le (zbr W) J) (hs : Sat P J M W') : Below W.heap.size W W' := by
 have hb : ∀ k, k < W.heap.size → W'.heap[k]? = W.heap[k]? := fun k hk => by
  have h1 : W.heap[k]? = some W.heap[k] := by simp [hk]
  rw [h1]
  exact hs.imm _ _ (hl.heap _ _ h1)
 exact {
  os := hs.os.trans hl.os
  tape := hs.tape.trans hl.tape
  output := hs.output.trans hl.output
  size := by
   rcases Nat.eq_zero_or_pos W.heap.size with h | h
   ·omega
   ·have h1 := hb (W.heap.size - 1) (by omega)
    have h2 : W.heap[W.heap.size - 1]? = some (W.heap[W.heap.size - 1]'(by omega)) := by simp
    rw [h2] at h1
    rcases Nat.lt_or_ge (W.heap.size - 1) W'.heap.size with h3 | h3
    ·omega
    ·rw [Array.getElem?_eq_none h3] at h1; cases h1
  block := hb }
theorem zom [Tracks] {W : World} (ht : TabI P (zbr W)) : Sat P (zbr W) [] W := ⟨fun _ _ h => h, fun _ h => by simp at h, by simp [blocks], fun _ h => by simp [blocks] at h, rfl, rfl, rfl, ht, fun _ => Nat.le_refl _⟩
theorem zm5 [Tracks] {P : Program} {f : FuncId} {l : List Int} (hc : ConP P f [.slice 1 (l.map (.int .i64))] (.bool true)) {W : World} (ht : TabI P (zbr W)) {v : Value} (hv : V (zbr W) (.slice 1 (l.map (.int .i64))) v) :
 Calls P f #[v] W fun e W' => e = .returned (.bool true) ∧ Below W.heap.size W W' := by
 refine (hc (zbr W) [] W [v] (VL.cons hv VL.nil) (zom ht)).mono ?_
 rintro e W' ⟨u, h, M', J, rfl, hle, ⟨rfl, rfl⟩, hV, hs⟩
 exact ⟨by rw [hV.bool_inv], ziy hle hs⟩
theorem zsI [Tracks] {W : World} {a : Addr} {len cap : Nat} {zs : List Int} (hcell : ∀ i, i < zs.length → W.cell? (a.add i) = some (.int .i64 (zs.getD i 0))) (hl : len ≤ zs.length) (hc : len ≤ cap) :
 V (zbr W) (.slice 1 ((zs.take len).map (.int .i64))) (.slice (some a) len cap) := by
 rcases Nat.eq_zero_or_pos len with h0 | h0
 ·subst h0; exact .slice0 _ _ _
 ·obtain ⟨b, off, rfl, hj⟩ := ints_at hcell (by omega)
  have hc0 := hj 0 (by omega)
  unfold World.cell? at hc0
  cases hh : W.heap[b]? with
  | none => rw [hh] at hc0; simp at hc0
  | some o =>
    cases o with
    | cells rc el fr =>
      have hrc : ∀ j, j < zs.length → rc[off + j]? = some (.int .i64 (zs.getD j 0)) := fun j hj' => by
       have := hj j hj'
       unfold World.cell? at this
       simpa [hh] using this
      have hlen : ((zs.take len).map (HVal.int .i64)).length = len := by simp; omega
      have hsz : off + zs.length ≤ rc.size := by
       have := hrc (zs.length - 1) (by omega)
       rcases Nat.lt_or_ge (off + (zs.length - 1)) rc.size with h3 | h3
       ·omega
       ·rw [Array.getElem?_eq_none h3] at this; cases this
      have := V.slice (I := zbr W) (sz := 1) (es := (zs.take len).map (.int .i64)) (b := b) (off := off) (cap := cap) (rc := rc) (el := el) (fr := fr) hh
       (fun e he => by obtain ⟨n, _, rfl⟩ := List.mem_map.1 he; rfl) (by omega) (by omega) (fun i j e c v h1 h2 h3 => by
         have hi := zC h1
         rw [hlen] at hi
         rw [List.getElem?_map, List.getElem?_take_of_lt hi] at h1
         have e1 : zs[i]? = some zs[i] := List.getElem?_eq_getElem (by omega)
         rw [e1] at h1
         simp only [Option.map_some, Option.some.injEq] at h1
         subst h1
         cases j with
         | succ j => simp [zl] at h2
         | zero =>
           simp only [zl, List.getElem?_cons_zero, Option.some.injEq] at h2
           subst h2
           have h4 := hrc i (by omega)
           rw [Nat.mul_one, Nat.add_zero, h4] at h3
           simp only [Option.some.injEq] at h3
           subst h3
           have : zs.getD i 0 = zs[i] := by simp [List.getD, e1]
           rw [this]
           exact .int _ _)
      rw [hlen] at this
      exact this
    | _ => rw [hh] at hc0; simp at hc0
end
section
open Go.Sort Go.Proofs Go.RowKit
variable {P : Program}
theorem zoF {w : World} {name : String} {d : DataW Unit} : ∀ {laid : List (String × DataW Unit)} {ps : List MemPlace}, DataW.LaidVars P w laid ps → ∀ (i : Nat), laid[i]? = some (name, d) →
 ∃ g t cs fuel p, P.globalNamed name = some g ∧ (P.globals[g]?).map (·.type) = some t ∧ w.var? P name = some cs ∧ DataW.trod (fun _ => ()) P w 0 (fun _ => true) false fuel t cs.toList = some (d, p)
 | [], _, _, i, h => by simp at h
 | (n, x) :: r, ps, h, 0, hi => by
   simp at hi
   obtain ⟨rfl, rfl⟩ := hi
   obtain ⟨g, t, cs, fuel, p, q, h1, h2, h3, h4, _, _⟩ := h
   exact ⟨g, t, cs, fuel, p, h1, h2, h3, h4⟩
 | (n, x) :: r, ps, h, i + 1, hi => by
   obtain ⟨g, t, cs, fuel, p, q, _, _, _, _, h5, _⟩ := h
   exact zoF h5 i (by simpa using hi)
theorem znv [Tracks] {W : World} {laid : List (String × DataW Unit)} {i g : Nat} {t e : TypeId} {n : Nat} (h : laidMet P laid W) (hi : laid[i]? = some ("internal/strconv.uint64pow10", Lib.tabData .u64 Lib.pow10Tab))
 (hg : P.globalNamed "internal/strconv.uint64pow10" = some g) (hty : (P.globals[g]?).map (·.type) = some t) (ht : P.underlying t = some (.array n e)) (he : P.underlying e = some (.int .u64)) (hce : P.cellsOf e = 1) (hct : P.cellsOf t = n)
 (hl : ∀ g, P.globalNamed "internal/bytealg.MaxLen" = some g → ∃ m, W.cell? ⟨g, 0, none⟩ = some (.int .i64 m)) : TabI P (zbr W) := by
 refine ⟨?_, fun g hg => ?_⟩
 rotate_left
 ·obtain ⟨m, hm⟩ := hl g hg
  unfold World.cell? at hm
  cases hh : W.heap[g]? with
  | none => rw [hh] at hm; cases hm
  | some o =>
    rw [hh] at hm
    cases o with
    | cells c t fr => exact ⟨c, t, fr, m, hh, by simpa using hm⟩
    | _ => cases hm
 obtain ⟨ps, h1, _⟩ := h
 obtain ⟨g', t', cs, fuel, p, a1, a2, a3, a4⟩ := zoF h1 i hi
 obtain rfl := Option.some.inj (hg.symm.trans a1)
 obtain rfl := Option.some.inj (hty.symm.trans a2)
 intro g' hg'
 obtain rfl := Option.some.inj (hg.symm.trans hg')
 have hc := Lib.cells_of_tab ht he hce hct a4
 have hv := a3
 unfold World.var? at hv
 rw [hg] at hv
 simp only [Option.bind_some] at hv
 cases hh : W.heap[g]? with
 | none => rw [hh] at hv; cases hv
 | some o =>
   cases o with
   | cells c ty fr =>
     rw [hh] at hv
     simp only [Option.some.injEq] at hv
     subst hv
     refine ⟨ty, fr, ?_⟩
     show W.heap[g]? = _
     rw [hh, ← hc]
   | _ => rw [hh] at hv; cases hv
theorem Sat.lt [Tracks] {I : Imm} {M : List MObj} {w : World} (hs : Sat P I M w) : (∀ b, (∃ o, I.heap b = some o) → b < w.heap.size) ∧ ∀ b ∈ blocks M, b < w.heap.size := by
 have key : ∀ b o, w.heap[b]? = some o → b < w.heap.size := fun b o h => by
  rcases Nat.lt_or_ge b w.heap.size with h' | h'
  ·exact h'
  ·simp [Array.getElem?_eq_none h'] at h
 refine ⟨fun b ⟨o, h⟩ => key b o (hs.imm b o h), fun b hb => ?_⟩
 simp only [blocks, List.mem_flatMap] at hb
 obtain ⟨m, hm, hb⟩ := hb
 obtain ⟨o, ho⟩ := (hs.obj m hm).lies hb
 exact key b o ho
end
section
section
variable {P : Program} {e : Env} {dst : Option Tmp} {ty : TypeId} {pos : String} {af : Array Edge} {g : Option (Nat × Bool)} {M : List MObj} {K : HVal → List MObj → Prop}
end
end
section
section
variable {P : Program} {e : Env} {dst : Option Tmp} {ty : TypeId} {pos : String} {af : Array Edge} {g : Option (Nat × Bool)} {M : List MObj} {K : HVal → List MObj → Prop}
theorem V.tup2 [Tracks] {I : Imm} {c d : HVal} {u v : Value} (h1 : V I c u) (h2 : V I d v) : V I (.tup [c, d]) (.tuple #[u, v]) :=
 .tup (by simp) (fun j c v h3 h4 => (VL.cons h1 (VL.cons h2 VL.nil)).2 j c v h3 (by simpa using h4))
theorem znX [Tracks] {x y : Operand} {t kt et : TypeId} {size bytes s2 b2 s3 b3 : Nat} {zero z2 z3 : Value} {d : TD} {i b : Nat} {ls : List (List UInt8 × HVal)} {s : List UInt8}
 (hf : Fits P t (.map kt et) size bytes zero) (hkt : Fits P kt .str s2 b2 z2) (het : Fits P et d s3 b3 z3) (hx : zn e x = some (.raw (.map (some b)))) (hy : zn e y = some (.str s)) (hm : M[i]? = some (.map b (sk ls)))
 (hk : K (.tup [match zaa s ls with | some p => p.2 | none => zbi z3, .bool (zaa s ls).isSome]) M) : EOp P e M ⟨dst, .lookup t x y true, ty, pos, af, g⟩ K :=
 EOp.of_run fun I F a w ho hs => by
  have h1 := (ho.one (x := x) (by simp [Op.operands]) hx).raw_inv
  have h2 := (ho.one (x := y) (by simp [Op.operands]) hy).str_inv
  obtain ⟨es, clk, h3, h4, h5⟩ := hs.obj _ (List.mem_append_left _ (List.mem_of_getElem? hm))
  obtain ⟨h6, h7⟩ := zeG h4.1 h5
  obtain ⟨n1, n2⟩ := zff (I := I) (s := s) es.toList ls 0 h6 h7
  cases hq : zaa s ls with
  | none =>
    rw [hq] at hk
    refine ⟨.tuple #[z3, .bool false], _, M, w, I, ?_, .refl I, hk, V.tup2 (zde I z3) (.bool _), hs⟩
    simp only [execOp, h1, h2, Instr.lookup, Sem.run_bind, run_underlying hf.mapD, Result.andThen_ok, zaA h3, Sem.run_pure, zbv hkt.strD, Instr.findKey, run_underlying hkt.strD, n1 hq, het.run_zero]
    simp
  | some p =>
    obtain ⟨j, h⟩ := p
    rw [hq] at hk
    obtain ⟨v, g1, g2⟩ := n2 j h hq
    refine ⟨.tuple #[v, .bool true], _, M, w, I, ?_, .refl I, hk, V.tup2 g2 (.bool _), hs⟩
    simp only [execOp, h1, h2, Instr.lookup, Sem.run_bind, run_underlying hf.mapD, Result.andThen_ok, zaA h3, Sem.run_pure, zbv hkt.strD, Instr.findKey, run_underlying hkt.strD, g1]
    simp
end
section
variable {P : Program}
end
end
section
section
variable {κ : Type} [DecidableEq κ]
def kk (ek : κ → HVal) (l : List (κ × HVal)) : List (HVal × HVal) := l.map fun p => (ek p.1, p.2)
def zbg (x : κ) : List (κ × HVal) → Option Nat
 | [] => none
 | p :: r => if x = p.1 then some 0 else (zbg x r).map (· + 1)
def klk (x : κ) : List (κ × HVal) → Option HVal
 | [] => none
 | p :: r => if x = p.1 then some p.2 else klk x r
def zb3 (x : κ) (h : HVal) : List (κ × HVal) → List (κ × HVal)
 | [] => [(x, h)]
 | p :: r => if x = p.1 then (x, h) :: r else p :: zb3 x h r
theorem zcm {x : κ} : ∀ {l : List (κ × HVal)} {j : Nat}, zbg x l = some j → ∃ h, l[j]? = some (x, h) ∧ klk x l = some h ∧ ∀ h', zb3 x h' l = l.set j (x, h')
 | [], j, h => by simp [zbg] at h
 | p :: r, j, h => by
   simp only [zbg] at h
   by_cases e : x = p.1
   ·rw [if_pos e] at h
    simp at h; subst h
    exact ⟨p.2, by simp [e], by simp [klk, e], fun h' => by simp [zb3, e]⟩
   ·rw [if_neg e] at h
    cases hr : zbg x r with
    | none => rw [hr] at h; simp at h
    | some j' =>
      rw [hr] at h; simp at h; subst h
      obtain ⟨y, h1, h2, h3⟩ := zcm hr
      exact ⟨y, by simpa using h1, by simp [klk, e, h2], fun h' => by simp [zb3, e, h3]⟩
theorem zcN {x : κ} : ∀ {l : List (κ × HVal)}, zbg x l = none → klk x l = none ∧ ∀ h', zb3 x h' l = l ++ [(x, h')]
 | [], _ => ⟨rfl, fun _ => rfl⟩
 | p :: r, h => by
   simp only [zbg] at h
   by_cases e : x = p.1
   ·rw [if_pos e] at h; simp at h
   ·rw [if_neg e] at h
    have hr : zbg x r = none := by cases hq : zbg x r with | none => rfl | some j => rw [hq] at h; simp at h
    obtain ⟨h1, h2⟩ := zcN hr
    exact ⟨by simp [klk, e, h1], fun h' => by simp [zb3, e, h2]⟩
def KNodup (l : List (κ × HVal)) : Prop := (l.map (·.1)).Nodup
theorem zlU {x y : κ} {h : HVal} : ∀ {l : List (κ × HVal)}, y ∈ (zb3 x h l).map (·.1) ↔ y = x ∨ y ∈ l.map (·.1)
 | [] => by simp [zb3]
 | p :: r => by
   simp only [zb3]
   split
   ·rename_i e; subst e; simp
   ·simp only [List.map_cons, List.mem_cons, zlU]
    constructor
    ·rintro (a | a | a)
     ·exact .inr (.inl a)
     ·exact .inl a
     ·exact .inr (.inr a)
    ·rintro (a | a | a)
     ·exact .inr (.inl a)
     ·exact .inl a
     ·exact .inr (.inr a)
theorem KNodup.put {x : κ} {h : HVal} : ∀ {l : List (κ × HVal)}, KNodup l → KNodup (zb3 x h l)
 | [], _ => by simp [KNodup, zb3]
 | p :: r, hn => by
   unfold KNodup at *
   simp only [List.map_cons, List.nodup_cons] at hn
   simp only [zb3]
   split
   ·rename_i e; subst e; simpa using hn
   ·rename_i e
    simp only [List.map_cons, List.nodup_cons]
    refine ⟨fun q => ?_, KNodup.put (l := r) hn.2⟩
    rcases zlU.1 q with q | q
    ·exact e q.symm
    ·exact hn.1 q
structure KeyOk (P : Program) (kt : TypeId) (ek : κ → HVal) : Prop where
 check : ∀ (I : Imm) (x : κ) (v : Value) (b : Bool) (w : World), V I (ek x) v → (Instr.checkKey b 10000 kt v).run P w = .ok () w
 eq : ∀ (I : Imm) (x y : κ) (u v : Value) (w : World), V I (ek x) u → V I (ek y) v → (Op.equal kt u v).run P w = .ok (decide (x = y)) w
 find : ∀ (I : Imm) (x : κ) (v : Value) (es : List MapEntry) (w : World), V I (ek x) v → (∀ m ∈ es, ∃ y, V I (ek y) m.key) → (Instr.findKey kt v es).run P w = (Instr.findAsking kt v es).run P w
 same : ∀ (I : Imm) (x : κ) (u v : Value), V I (ek x) u → V I (ek x) v → Instr.sameBits 10000 u v = true
variable {P : Program} {kt : TypeId} {ek : κ → HVal}
theorem KeyOk.run_key (ok : KeyOk P kt ek) {I : Imm} {x : κ} {v : Value} (hv : V I (ek x) v) (w : World) (es : List MapEntry) (ls : List (κ × HVal)) (hl : es.length = ls.length)
 (hV : ∀ (j : Nat) (p : κ × HVal) (m : MapEntry), ls[j]? = some p → es[j]? = some m → V I (ek p.1) m.key ∧ V I p.2 m.val) : (Instr.findKey kt v es).run P w = (Instr.findAsking kt v es).run P w :=
 ok.find I x v es w hv fun m hm => by
  obtain ⟨j, hj⟩ := List.getElem?_of_mem hm
  have h1 := zC hj
  exact ⟨_, (hV j _ m (List.getElem?_eq_getElem (by omega)) hj).1⟩
theorem ze1 (ok : KeyOk P kt ek) {I : Imm} {x : κ} {v : Value} (hv : V I (ek x) v) (w : World) : ∀ (es : List MapEntry) (ls : List (κ × HVal)) (i : Nat), es.length = ls.length →
 (∀ (j : Nat) (p : κ × HVal) (m : MapEntry), ls[j]? = some p → es[j]? = some m → V I (ek p.1) m.key ∧ V I p.2 m.val) →
 (zbg x ls = none → (Instr.findAsking kt v es i).run P w = .ok none w) ∧ ∀ j, zbg x ls = some j → ∃ m h, es[j]? = some m ∧ ls[j]? = some (x, h) ∧ V I h m.val ∧ (Instr.findAsking kt v es i).run P w = .ok (some (i + j, m.val)) w
 | [], [], i, _, _ => ⟨fun _ => by simp [Instr.findAsking], fun j h => by simp [zbg] at h⟩
 | [], _ :: _, i, hl, _ => by simp at hl
 | _ :: _, [], i, hl, _ => by simp at hl
 | m :: es, p :: ls, i, hl, hV => by
   obtain ⟨h1, h2⟩ := hV 0 p m rfl rfl
   obtain ⟨ih1, ih2⟩ := ze1 ok hv w es ls (i + 1) (by simpa using hl) fun j q n a b => hV (j + 1) q n (by simpa using a) (by simpa using b)
   simp only [Instr.findAsking, Sem.run_bind, ok.eq I x p.1 v m.key w hv h1, Result.andThen_ok, zbg]
   by_cases e : x = p.1
   ·rw [if_pos e]
    simp only [e, decide_true, if_true, Sem.run_pure]
    refine ⟨fun h => by simp at h, fun j h => ?_⟩
    simp at h; subst h
    exact ⟨m, p.2, rfl, by simp, h2, by simp⟩
   ·rw [if_neg e]
    simp only [e, decide_false, Bool.false_eq_true, if_false]
    refine ⟨fun h => ih1 (by cases hq : zbg x ls with | none => rfl | some j => rw [hq] at h; simp at h), fun j h => ?_⟩
    cases hq : zbg x ls with
    | none => rw [hq] at h; simp at h
    | some j' =>
      rw [hq] at h; simp at h; subst h
      obtain ⟨n, y, g1, g2, g3, g4⟩ := ih2 j' hq
      exact ⟨n, y, by simpa using g1, by simpa using g2, g3, by rw [g4]; congr 3; omega⟩
theorem zig {A : Type} {eA : A → HVal} {I : Imm} {ls : List (A × HVal)} {es : Array MapEntry} (hl : es.size = (kk eA ls).length)
 (hv : ∀ (i : Nat) (p : HVal × HVal) (m : MapEntry), (kk eA ls)[i]? = some p → es[i]? = some m → V I p.1 m.key ∧ V I p.2 m.val) :
 es.toList.length = ls.length ∧ ∀ (j : Nat) (p : A × HVal) (m : MapEntry), ls[j]? = some p → es.toList[j]? = some m → V I (eA p.1) m.key ∧ V I p.2 m.val := by
 refine ⟨by simpa [kk] using hl, fun j p m a b => ?_⟩
 exact hv j (eA p.1, p.2) m (by simp [kk, a]) (by simpa using b)
variable [Tracks] {e : Env} {dst : Option Tmp} {ty : TypeId} {pos : String} {af : Array Edge} {g : Option (Nat × Bool)} {M : List MObj} {K : HVal → List MObj → Prop}
theorem zoc {x y : Operand} {t et : TypeId} {size bytes s3 b3 : Nat} {zero z3 : Value} {d : TD} {i b : Nat} {ls : List (κ × HVal)} {s : κ}
 (hf : Fits P t (.map kt et) size bytes zero) (ok : KeyOk P kt ek) (het : Fits P et d s3 b3 z3) (hx : zn e x = some (.raw (.map (some b)))) (hy : zn e y = some (ek s)) (hm : M[i]? = some (.map b (kk ek ls)))
 (hk : K ((klk s ls).getD (zbi z3)) M) : EOp P e M ⟨dst, .lookup t x y false, ty, pos, af, g⟩ K :=
 EOp.of_run fun I F a w ho hs => by
  have h1 := (ho.one (x := x) (by simp [Op.operands]) hx).raw_inv
  have h2 := ho.one (x := y) (by simp [Op.operands]) hy
  obtain ⟨es, clk, h3, h4, h5⟩ := hs.obj _ (List.mem_append_left _ (List.mem_of_getElem? hm))
  obtain ⟨h6, h7⟩ := zig h4.1 h5
  obtain ⟨n1, n2⟩ := ze1 ok h2 w es.toList ls 0 h6 h7
  have hfk := ok.run_key h2 w es.toList ls h6 h7
  cases hq : zbg s ls with
  | none =>
    rw [(zcN hq).1] at hk
    refine ⟨z3, _, M, w, I, ?_, .refl I, hk, zde I z3, hs⟩
    simp only [execOp, h1, Instr.lookup, Sem.run_bind, run_underlying hf.mapD, Result.andThen_ok, zaA h3, Sem.run_pure, ok.check I s _ _ w h2, hfk, n1 hq, het.run_zero]
    simp
  | some j =>
    obtain ⟨m, h, g1, g2, g3, g4⟩ := n2 j hq
    obtain ⟨h', g5, g6, _⟩ := zcm hq
    rw [g5] at g2; cases g2
    rw [g6] at hk
    refine ⟨m.val, _, M, w, I, ?_, .refl I, hk, g3, hs⟩
    simp only [execOp, h1, Instr.lookup, Sem.run_bind, run_underlying hf.mapD, Result.andThen_ok, zaA h3, Sem.run_pure, ok.check I s _ _ w h2, hfk, g4]
    simp
theorem znc {x y : Operand} {t et : TypeId} {size bytes s3 b3 : Nat} {zero z3 : Value} {d : TD} {i b : Nat} {ls : List (κ × HVal)} {s : κ}
 (hf : Fits P t (.map kt et) size bytes zero) (ok : KeyOk P kt ek) (het : Fits P et d s3 b3 z3) (hx : zn e x = some (.raw (.map (some b)))) (hy : zn e y = some (ek s)) (hm : M[i]? = some (.map b (kk ek ls)))
 (hk : K (.tup [(klk s ls).getD (zbi z3), .bool (klk s ls).isSome]) M) : EOp P e M ⟨dst, .lookup t x y true, ty, pos, af, g⟩ K :=
 EOp.of_run fun I F a w ho hs => by
  have h1 := (ho.one (x := x) (by simp [Op.operands]) hx).raw_inv
  have h2 := ho.one (x := y) (by simp [Op.operands]) hy
  obtain ⟨es, clk, h3, h4, h5⟩ := hs.obj _ (List.mem_append_left _ (List.mem_of_getElem? hm))
  obtain ⟨h6, h7⟩ := zig h4.1 h5
  obtain ⟨n1, n2⟩ := ze1 ok h2 w es.toList ls 0 h6 h7
  have hfk := ok.run_key h2 w es.toList ls h6 h7
  cases hq : zbg s ls with
  | none =>
    rw [(zcN hq).1] at hk
    refine ⟨.tuple #[z3, .bool false], _, M, w, I, ?_, .refl I, hk, V.tup2 (zde I z3) (.bool _), hs⟩
    simp only [execOp, h1, Instr.lookup, Sem.run_bind, run_underlying hf.mapD, Result.andThen_ok, zaA h3, Sem.run_pure, ok.check I s _ _ w h2, hfk, n1 hq, het.run_zero]
    simp
  | some j =>
    obtain ⟨m, h, g1, g2, g3, g4⟩ := n2 j hq
    obtain ⟨h', g5, g6, _⟩ := zcm hq
    rw [g5] at g2; cases g2
    rw [g6] at hk
    refine ⟨.tuple #[m.val, .bool true], _, M, w, I, ?_, .refl I, hk, V.tup2 g3 (.bool _), hs⟩
    simp only [execOp, h1, Instr.lookup, Sem.run_bind, run_underlying hf.mapD, Result.andThen_ok, zaA h3, Sem.run_pure, ok.check I s _ _ w h2, hfk, g4]
    simp
theorem zn2 {x y z : Operand} {t et : TypeId} {size bytes : Nat} {zero : Value} {i b : Nat} {ls : List (κ × HVal)} {s : κ} {h : HVal}
 (hf : Fits P t (.map kt et) size bytes zero) (ok : KeyOk P kt ek) (hx : zn e x = some (.raw (.map (some b)))) (hy : zn e y = some (ek s)) (hz : zn e z = some h) (hm : M[i]? = some (.map b (kk ek ls)))
 (hk : K .junk (M.set i (.map b (kk ek (zb3 s h ls))))) : EOp P e M ⟨dst, .mapUpdate t x y z, ty, pos, af, g⟩ K :=
 EOp.of_skip fun I F a w ho hs => by
  have h1 := (ho.one (x := x) (by simp [Op.operands]) hx).raw_inv
  have h2 := ho.one (x := y) (by simp [Op.operands]) hy
  have h0 := ho.one (x := z) (by simp [Op.operands]) hz
  have hp := hs.pull hm
  obtain ⟨es, clk, h3, h4, h5⟩ := hp.obj _ List.mem_cons_self
  obtain ⟨h6, h7⟩ := zig h4.1 h5
  obtain ⟨n1, n2⟩ := ze1 ok h2 w es.toList ls 0 h6 h7
  have hfk := ok.run_key h2 w es.toList ls h6 h7
  have hlt : b < w.heap.size := by
   rcases Nat.lt_or_ge b w.heap.size with h' | h'
   ·exact h'
   ·simp [Array.getElem?_eq_none h'] at h3
  have hsz : es.size = ls.length := by simpa using h6
  have fin : ∀ (es' : Array MapEntry) (clk' : Nat), es'.size = (kk ek (zb3 s h ls)).length ∧ BornOk es' clk' →
   (∀ (i : Nat) (p : HVal × HVal) (m : MapEntry), (kk ek (zb3 s h ls))[i]? = some p → es'[i]? = some m → V I p.1 m.key ∧ V I p.2 m.val) →
   Sat P I (M.set i (.map b (kk ek (zb3 s h ls))) ++ F) { w with heap := w.heap.setIfInBounds b (.map es' clk') } := fun es' clk' e1 e2 => by
   refine Sat.unpull hm (hp.change (m' := .map b (kk ek (zb3 s h ls))) (fun k hk hnk => ?_) (fun k hk => .inl hk) (by simp [MObj.blocks]) ⟨es', clk', by simp [hlt], e1, e2⟩ rfl rfl rfl)
   have : k ≠ b := by simpa [MObj.blocks] using hnk
   simp [Array.getElem?_setIfInBounds_ne (Ne.symm this)]
  cases hq : zbg s ls with
  | none =>
    have hput := (zcN hq).2 h
    refine ⟨_, _, I, ?_, .refl I, hk, fin (es.push ⟨a.eval y, a.eval z, clk⟩) (clk + 1) ⟨by rw [hput]; simp [kk, hsz], h4.2.push rfl⟩ fun j p m a1 a2 => ?_⟩
    ·simp only [execOp, h1, Instr.mapUpdate, Sem.run_bind, run_underlying hf.mapD, Result.andThen_ok, zaA h3, ok.check I s _ _ w h2, hfk, n1 hq, Sem.run_pure, zcW h3]
    ·rw [hput] at a1
     simp only [kk, List.map_append, List.map_cons, List.map_nil] at a1
     by_cases hj : j < ls.length
     ·rw [List.getElem?_append_left (by simpa using hj)] at a1
      rw [Array.getElem?_push, if_neg (by omega)] at a2
      exact h5 j p m (by simpa [kk] using a1) a2
     ·rw [List.getElem?_append_right (by simp; omega)] at a1
      rw [Array.getElem?_push] at a2
      by_cases hje : j = es.size
      ·rw [if_pos hje] at a2
       simp at a2
       subst a2
       have : j - (ls.map fun p => (ek p.1, p.2)).length = 0 := by simp; omega
       rw [this] at a1
       simp at a1
       subst a1
       exact ⟨h2, h0⟩
      ·rw [if_neg hje, Array.getElem?_eq_none (by omega)] at a2
       cases a2
  | some j0 =>
    obtain ⟨m0, h', g1, g2, g3, g4⟩ := n2 j0 hq
    obtain ⟨_, _, _, hput⟩ := zcm hq
    have hm0 : es[j0]? = some m0 := by simpa using g1
    have hjl := zC g2
    have hkey := (h7 j0 (s, h') m0 g2 g1).1
    refine ⟨_, _, I, ?_, .refl I, hk, fin (es.modify j0 fun e => { e with key := a.eval y, val := a.eval z }) clk ⟨by rw [hput]; simp [kk, hsz], h4.2.modify _ fun _ => rfl⟩ fun j p m a1 a2 => ?_⟩
    ·have hstay : (Instr.keyThatStays (((es[j0]?).map (·.key)).getD (a.eval y)) (a.eval y)).run P w = .ok (a.eval y) w := by
      rw [hm0]
      simp only [Option.map_some, Option.getD_some, Instr.keyThatStays]
      rw [if_pos (ok.same I s _ _ hkey h2)]; rfl
     simp only [execOp, h1, Instr.mapUpdate, Sem.run_bind, run_underlying hf.mapD, Result.andThen_ok, zaA h3, ok.check I s _ _ w h2, hfk, g4, Sem.run_pure, Nat.zero_add, hstay, zcW h3]
    ·rw [hput] at a1
     simp only [kk] at a1
     rw [Array.getElem?_modify] at a2
     rw [List.getElem?_map, List.getElem?_set] at a1
     by_cases hj : j0 = j
     ·subst hj
      rw [if_pos rfl, hm0] at a2
      rw [if_pos rfl, if_pos hjl] at a1
      simp at a1 a2
      subst a1 a2
      exact ⟨h2, h0⟩
     ·rw [if_neg hj] at a1 a2
      exact h5 j p m (by simp only [kk, List.getElem?_map]; exact a1) a2
end
end
section
def zh8 : List HVal → Bool
 | [] => true
 | .int _ _ :: r => zh8 r
 | .str _ :: r => zh8 r
 | .bool _ :: r => zh8 r
 | _ => false
theorem zmA : ∀ {cs : List HVal} {j : Nat} {c : HVal}, zh8 cs = true → cs[j]? = some c → (∃ k n, c = .int k n) ∨ (∃ s, c = .str s) ∨ ∃ b, c = .bool b
 | [], j, c, _, h => by simp at h
 | x :: r, 0, c, hs, h => by
   simp at h; subst h
   cases x <;> simp [zh8] at hs
   ·exact .inr (.inr ⟨_, rfl⟩)
   ·exact .inl ⟨_, _, rfl⟩
   ·exact .inr (.inl ⟨_, rfl⟩)
 | x :: r, j + 1, c, hs, h => by
   simp at h
   cases x <;> simp [zh8] at hs <;> exact zmA hs h
theorem zqE {I : Imm} {cs : List HVal} {xs ys : List Value} (hs : zh8 cs = true) (hx : VL I cs xs) (hy : VL I cs ys) : xs = ys ∧ ∀ v ∈ xs, ∀ n, Instr.sameBits n v v = true := by
 have key : ∀ (j : Nat) (u v : Value), xs[j]? = some u → ys[j]? = some v → u = v ∧ ∀ n, Instr.sameBits n u u = true := fun j u v h1 h2 => by
  have hj : j < cs.length := by rw [← hx.1]; exact zC h1
  have hc := List.getElem?_eq_getElem hj
  have hu := hx.2 j _ u hc h1
  have hv := hy.2 j _ v hc h2
  rcases zmA hs hc with ⟨k, n, e⟩ | ⟨s, e⟩ | ⟨b, e⟩
  ·rw [e] at hu hv
   haveI : Tracks := ⟨true⟩
   rw [hu.int_inv, hv.int_inv]; exact ⟨rfl, fun m => by cases m <;> simp [Instr.sameBits]⟩
  ·rw [e] at hu hv
   haveI : Tracks := ⟨true⟩
   rw [hu.str_inv, hv.str_inv]; exact ⟨rfl, fun m => by cases m <;> simp [Instr.sameBits, zh2]⟩
  ·rw [e] at hu hv
   haveI : Tracks := ⟨true⟩
   rw [hu.bool_inv, hv.bool_inv]; exact ⟨rfl, fun m => by cases m <;> simp [Instr.sameBits]⟩
 have hl : xs.length = ys.length := by rw [hx.1, hy.1]
 refine ⟨List.ext_getElem? fun j => ?_, fun v hv n => ?_⟩
 ·rcases Nat.lt_or_ge j xs.length with h | h
  ·rw [List.getElem?_eq_getElem h, List.getElem?_eq_getElem (by omega)]
   congr 1
   exact (key j _ _ (List.getElem?_eq_getElem h) (List.getElem?_eq_getElem (by omega))).1
  ·rw [List.getElem?_eq_none h, List.getElem?_eq_none (by omega)]
 ·obtain ⟨j, hj⟩ := List.getElem?_of_mem hv
  have hlt := zC hj
  exact (key j v _ hj (List.getElem?_eq_getElem (by omega))).2 n
section
variable {P : Program}
theorem zjS {t : TypeId} {d : TD} {s by' : Nat} {z : Value} (hf : Fits P t d s by' z) {a : HVal} (hk : zdz d a a = true) {I : Imm} {u : Value} (hu : V I a u) (em : Bool) (n : Nat) (w : World) : (Instr.checkKey em (n + 1) t u).run P w = .ok () w := by
 haveI : Tracks := ⟨true⟩
 cases d <;> cases a <;> first | (simp [zdz] at hk; done) | skip
 ·rw [hu.bool_inv]; simp [Instr.checkKey, run_underlying hf.boolD]
 ·rw [hu.int_inv]; simp [Instr.checkKey, run_underlying hf.intD]
 ·rw [hu.str_inv]; simp [Instr.checkKey, run_underlying hf.strD]
theorem zkM {I : Imm} {xs : Array Value} {cs : List HVal} (hx : VL I cs xs.toList) (em : Bool) (n : Nat) (w : World) :
 ∀ (fs : List Field) (k : Nat), zi3 P (fs.map fun f => (f.offset, f.type)) k (cs.drop k) (cs.drop k) → ∀ f ∈ fs, ∃ a, (part f.type xs f.offset).run P w = .ok a w ∧ (Instr.checkKey em (n + 1) f.type a).run P w = .ok () w
 | [], k, _, f, hf => by simp at hf
 | g :: fs, k, hk, f, hf => by
   haveI : Tracks := ⟨true⟩
   simp only [List.map_cons] at hk
   cases hc : cs.drop k with
   | nil => rw [hc] at hk; exact hk.elim
   | cons a r =>
     rw [hc] at hk
     obtain ⟨h1, ⟨d, s, by', z, h2, h3⟩, h4⟩ := hk
     simp only at h1 h2
     have ha : cs[k]? = some a := by have := congrArg (fun l : List HVal => l[0]?) hc; simpa using this
     have hr : cs.drop (k + 1) = r := by rw [← List.drop_drop (i := 1), hc]; rfl
     rcases List.mem_cons.1 hf with rfl | hf
     ·obtain ⟨u, hu, hu'⟩ := hx.get ha
      exact ⟨u, zj3 h2 (zhZ h3) (by rw [h1]; simpa using hu) w, zjS h2 h3 hu' em n w⟩
     ·exact zkM hx em n w fs (k + 1) (by rw [hr]; exact h4) f hf
theorem ziA {κ : Type} [DecidableEq κ] {kt : TypeId} {fs : List (Nat × Nat)} {s by' : Nat} {z : Value} {cs : κ → List HVal} (hf : Fits P kt (.struct fs) s by' z) (hq : EqOk P kt) (hk : ∀ x y, zi3 P fs 0 (cs x) (cs y))
 (he : ∀ x y, ze3 (cs x) (cs y) = decide (x = y)) (hs : ∀ x, zh8 (cs x) = true) : KeyOk P kt (fun x => .agg (cs x)) := by
 haveI : Tracks := ⟨true⟩
 obtain ⟨gs, h1, h2⟩ := hf.structD
 have hn : ∀ f ∈ gs.toList, f.name ≠ "_" := fun f hf => by
  have := hq.names
  rw [show P.fieldsOf kt = gs by simp [Program.fieldsOf, h1]] at this
  have := List.all_eq_true.1 this f hf; simpa using this
 refine ⟨fun I x v b w hv => ?_, fun I x y u v w hu hv => ?_, fun I x v es w hv hes => run_findKey_eq w (by rw [h1]) v es, fun I x u v hu hv => ?_⟩
 ·obtain ⟨xs, rfl, hx⟩ := hv.agg_inv
  have each := zkM (P := P) hx b 9998 w gs.toList 0 (by rw [h2]; exact hk x x)
  rw [show (10000 : Nat) = 9999 + 1 from rfl, Instr.checkKey]
  simp only [Sem.run_bind, run_underlying h1, Result.andThen_ok]
  rw [← Array.forIn_toList]
  clear h1 h2
  generalize gs.toList = L at each hn
  induction L with
  | nil => simp
  | cons f L ih =>
    obtain ⟨a, p1, p2⟩ := each f (by simp)
    have hn1 := hn f (by simp)
    simp only [List.forIn_cons, Sem.run_bind, hn1, ne_eq, not_false_eq_true, if_true, Result.andThen_ok, p1, p2, Sem.run_pure]
    exact ih (fun y hy => each y (by simp [hy])) (fun y hy => hn y (by simp [hy]))
 ·obtain ⟨xs, rfl, hx⟩ := hu.agg_inv
  obtain ⟨ys, rfl, hy⟩ := hv.agg_inv
  rw [zfF hf hq hx hy (hk x y) w, he]
 ·obtain ⟨xs, rfl, hx⟩ := hu.agg_inv
  obtain ⟨ys, rfl, hy⟩ := hv.agg_inv
  obtain ⟨e1, e2⟩ := zqE (hs x) hx hy
  have e3 : xs = ys := by have := congrArg List.toArray e1; simpa using this
  subst e3
  show Instr.sameBits (9999 + 1) _ _ = true
  simp only [Instr.sameBits, beq_self_eq_true, Bool.true_and, List.all_eq_true]
  intro p hp
  have h9 : ∀ (l : List Value) (p : Value × Value), p ∈ l.zip l → p.1 ∈ l ∧ p.1 = p.2 := fun l => by
   induction l with
   | nil => intro p hp; simp at hp
   | cons a l ih =>
     intro p hp
     simp only [List.zip_cons_cons, List.mem_cons] at hp
     rcases hp with rfl | hp
     ·exact ⟨by simp, rfl⟩
     ·exact ⟨by simp [(ih p hp).1], (ih p hp).2⟩
  obtain ⟨q1, q2⟩ := h9 _ p hp
  obtain ⟨u, v⟩ := p
  simp only at q1 q2
  subst q2
  exact e2 u q1 9999
end
/-! ranges -/
theorem zgK {α : Type} [DecidableEq α] : ∀ {l m : List α}, l.Nodup → (∀ x ∈ l, x ∈ m) → l.length ≤ m.length
 | [], _, _, _ => Nat.zero_le _
 | a :: l, m, h, hs => by
   have ha := hs a List.mem_cons_self
   obtain ⟨h1, h2⟩ := List.nodup_cons.1 h
   have h3 := zgK (m := m.erase a) h2 fun x hx => (List.mem_erase_of_ne (fun e : x = a => h1 (by rw [← e]; exact hx))).2 (hs x (List.mem_cons_of_mem _ hx))
   rw [List.length_erase_of_mem ha] at h3
   have := List.length_pos_of_mem ha
   simp; omega
section
variable {P : Program} {e : Env} {dst : Option Tmp} {ty : TypeId} {pos : String} {af : Array Edge} {g : Option (Nat × Bool)} {M : List MObj} {K : HVal → List MObj → Prop}
theorem zl8 [Tracks] {x : Operand} {t kt et : TypeId} {size bytes : Nat} {zero : Value} {i b : Nat} {l : List (HVal × HVal)} (hf : Fits P t (.map kt et) size bytes zero) (hx : zn e x = some (.raw (.map (some b)))) (hm : M[i]? = some (.map b l))
 (hk : ∀ r, K (.raw (.pointer (some ⟨r, 0, none⟩))) (M.set i (.iter r b l []))) : EOp P e M ⟨dst, .range t x, ty, pos, af, g⟩ K :=
 EOp.of_run fun I F a w ho hs => by
  have h1 := (ho.one (x := x) (by simp [Op.operands]) hx).raw_inv
  have hp := hs.pull hm
  obtain ⟨es, clk, h3, h4, h5⟩ := hp.obj _ List.mem_cons_self
  have hlt : b < w.heap.size := by
   rcases Nat.lt_or_ge b w.heap.size with h' | h'
   ·exact h'
   ·simp [Array.getElem?_eq_none h'] at h3
  refine ⟨.pointer (some ⟨w.heap.size, 0, none⟩), _, _, push w (.mapIter (some b) clk #[] clk), I, ?_, .refl I, hk w.heap.size, .raw _ rfl, ?_⟩
  ·simp only [execOp, h1, Instr.range, Sem.run_bind, run_underlying hf.mapD, Result.andThen_ok, zaA h3, Sem.run_pure, run_newObj]
  ·refine Sat.unpull hm (hp.change (m' := .iter w.heap.size b l []) (fun k hk hnk => ?_) (fun k hk => ?_) ?_ ⟨es, clk, #[], ?_, ?_, h4, rfl, h5⟩ rfl rfl rfl)
   ·simp [push, Array.getElem?_push]; intro h; omega
   ·simp [MObj.blocks] at hk ⊢; omega
   ·simp [MObj.blocks]; omega
   ·simp only [push, Array.getElem?_push]; rw [if_neg (by omega)]; exact h3
   ·simp [push]
theorem zqW [Tracks] {x : Operand} {i r b : Nat} {l : List (HVal × HVal)} {vis : List Nat} (hx : zn e x = some (.raw (.pointer (some ⟨r, 0, none⟩)))) (hm : M[i]? = some (.iter r b l vis)) (hv : vis.Nodup) (hvl : ∀ j ∈ vis, j < l.length)
 (h0 : vis.length = l.length → K (.tup [.bool false]) M) (h1 : ∀ (j : Nat) (p : HVal × HVal), l[j]? = some p → j ∉ vis → K (.tup [.bool true, p.1, p.2]) (M.set i (.iter r b l (vis ++ [j])))) : EOp P e M ⟨dst, .next x false, ty, pos, af, g⟩ K :=
 EOp.of_run fun I F a w ho hs => by
  have h2 := (ho.one (x := x) (by simp [Op.operands]) hx).raw_inv
  have hp := hs.pull hm
  obtain ⟨es, clk, seen, a1, a2, a3, a4, a5⟩ := hp.obj _ List.mem_cons_self
  have hgr : ∀ w1 : World, w1.heap = w.heap → (getObj r).run P w1 = .ok (.mapIter (some b) clk seen clk) w1 := fun w1 hw => by simp [getObj, Sem.run, hw, a2]
  have hgb : ∀ w1 : World, w1.heap = w.heap → (getObj b).run P w1 = .ok (.map es clk) w1 := fun w1 hw => by simp [getObj, Sem.run, hw, a1]
  have hin : ∀ (j : Nat) (m : MapEntry), es[j]? = some m → (seen.contains m.born = true ↔ j ∈ vis) := fun j m hj => by
   have e1 : seen.contains m.born = seen.toList.contains m.born := by simp
   rw [e1, a4, List.contains_iff_mem, List.mem_map]
   constructor
   ·rintro ⟨q, hq, e⟩
    have hlt := hvl q hq
    have hq2 : es[q]? = some es[q] := Array.getElem?_eq_getElem (by omega)
    rw [hq2] at e
    simp at e
    have := a3.2.2 q j _ m hq2 hj e
    rw [← this]; exact hq
   ·intro hq
    exact ⟨j, hq, by rw [hj]; simp⟩
  have hbad : (!seen.isEmpty && !es.isEmpty && es.all (fun m => decide (m.born ≥ clk))) = false := by
   by_cases he : es.isEmpty = true
   ·simp [he]
   ·have hpos : 0 < es.size := by
     rcases Nat.eq_zero_or_pos es.size with h | h
     ·simp [Array.isEmpty, h] at he
     ·exact h
    have hb := a3.2.1 0 _ (Array.getElem?_eq_getElem hpos)
    have : es.all (fun m => decide (m.born ≥ clk)) = false := by
     rw [Bool.eq_false_iff]
     intro h
     have := Array.all_eq_true.1 h 0 hpos
     simp at this; omega
    rw [this]; simp
  have hold : (es.filter fun m => !seen.contains m.born).filter (fun m => decide (m.born < clk)) = es.filter fun m => !seen.contains m.born := by
   rw [Array.filter_eq_self]
   intro m hm'
   obtain ⟨j, hj⟩ := Array.getElem?_of_mem (Array.mem_filter.1 hm').1
   simpa using a3.2.1 j m hj
  have hnew : (es.filter fun m => !seen.contains m.born).filter (fun m => decide (m.born ≥ clk)) = #[] := by
   rw [Array.filter_eq_empty_iff]
   intro m hm'
   obtain ⟨j, hj⟩ := Array.getElem?_of_mem (Array.mem_filter.1 hm').1
   have := a3.2.1 j m hj
   simp; omega
  have hrun : (execOp a.eval ⟨dst, .next x false, ty, pos, af, g⟩).run P w = ((Instr.next (.pointer (some ⟨r, 0, none⟩)) false ty).run P w).andThen fun v w => .ok (.value v) w := by
   simp only [execOp, h2, Sem.run_bind]
   rfl
  generalize hL : (es.filter fun m => !seen.contains m.born) = left at hold hnew
  by_cases hemp : left.isEmpty = true
  ·have hfull : vis.length = l.length := by
    apply Nat.le_antisymm
    ·have := zgK (m := List.range l.length) hv fun j hj => List.mem_range.2 (hvl j hj)
     simpa using this
    ·have := zgK (l := List.range l.length) (m := vis) List.nodup_range fun j hj => by
      have hj' := List.mem_range.1 hj
      have hq : es[j]? = some es[j] := Array.getElem?_eq_getElem (by omega)
      rw [← hin j _ hq]
      cases hc : seen.contains es[j].born with
      | true => rfl
      | false =>
        have : es[j] ∈ left := by rw [← hL]; exact Array.mem_filter.2 ⟨Array.getElem_mem _, by rw [hc]; rfl⟩
        have he : left = #[] := Array.isEmpty_iff.1 hemp
        rw [he] at this; simp at this
     simpa using this
   refine ⟨.tuple #[.bool false], .tup [.bool false], M, w, I, ?_, .refl I, h0 hfull, .tup (by simp) (fun j c v h h' => ?_), hs⟩
   ·rw [hrun]
    have he : left = #[] := Array.isEmpty_iff.1 hemp
    simp only [Instr.next, Sem.run_bind, hgr w rfl, hgb w rfl, Result.andThen_ok, hbad, Bool.false_eq_true, if_false, Sem.run_pure, hL, hold, hnew, hemp, if_true, he]
    simp [Question.forced]
   ·match j, h, h' with
    | 0, h, h' => simp at h h'; subst h h'; exact .bool _
  ·have hemp' : left.isEmpty = false := by simpa using hemp
   have hpos : 0 < left.size := by
    rcases Nat.eq_zero_or_pos left.size with h | h
    ·exfalso; apply hemp; simp [Array.isEmpty, h]
    ·exact h
   obtain ⟨c, w1, c1, c2, c3⟩ : ∃ c w1, (choose (.mapNext left.size)).run P w = .ok c w1 ∧ c < left.size ∧ (w1 = w ∨ w1 = { w with drawn := w.drawn + 1 }) := by
    by_cases hf : (Question.mapNext left.size).forced = true
    ·exact ⟨0, w, by simp [hf], hpos, .inl rfl⟩
    ·refine ⟨_, { w with drawn := w.drawn + 1 }, by simp [hf]; rfl, ?_, .inr rfl⟩
     simp only [Question.cut]; exact Nat.mod_lt _ hpos
   have hw1 : w1.heap = w.heap := by rcases c3 with h | h <;> rw [h]
   have hmem : left[c] ∈ left := Array.getElem_mem _
   have hmf : left[c] ∈ es ∧ (!seen.contains left[c].born) = true := by
    have h9 : ∀ m, m ∈ left → m ∈ es ∧ (!seen.contains m.born) = true := fun m hm => by rw [← hL] at hm; exact Array.mem_filter.1 hm
    exact h9 _ hmem
   obtain ⟨j, hj⟩ := Array.getElem?_of_mem hmf.1
   have hnv : j ∉ vis := fun q => by
    have := (hin j _ hj).2 q
    rw [this] at hmf; simp at hmf
   have hjl : j < l.length := by
    have : j < es.size := by
     rcases Nat.lt_or_ge j es.size with h' | h'
     ·exact h'
     ·simp [Array.getElem?_eq_none h'] at hj
    omega
   have hlj := List.getElem?_eq_getElem hjl
   obtain ⟨k1, k2⟩ := a5 j _ _ hlj hj
   refine ⟨.tuple #[.bool true, left[c].key, left[c].val], .tup [.bool true, l[j].1, l[j].2], _, { w1 with heap := w1.heap.setIfInBounds r (.mapIter (some b) clk (seen.push left[c].born) clk) }, I, ?_, .refl I, h1 j _ hlj hnv, ?_, ?_⟩
   ·rw [hrun]
    have hcand : ((#[] : Array (Option MapEntry)) ++ (left ++ #[]).map some).size = left.size := by simp
    have hget : ((#[] : Array (Option MapEntry)) ++ (left ++ #[]).map some)[c]? = some (some left[c]) := by simp [c2]
    simp only [Instr.next, Sem.run_bind, hgr w rfl, hgb w rfl, Result.andThen_ok, hbad, Bool.false_eq_true, if_false, Sem.run_pure, hL, hold, hnew, hemp', hcand, c1, hget]
    simp [setObj, Sem.run, hw1, a2]
   ·refine .tup (by simp) (fun q c v h h' => ?_)
    match q, h, h' with
    | 0, h, h' => simp at h h'; subst h h'; exact .bool _
    | 1, h, h' => simp at h h'; subst h h'; exact k1
    | 2, h, h' => simp at h h'; subst h h'; exact k2
   ·have hrb : r ≠ b := by
     have := hp.nodup
     simp only [blocks, List.flatMap_cons, MObj.blocks] at this
     have := (List.nodup_append.1 this).1
     simp at this; exact this
    have hrl : r < w.heap.size := by
     rcases Nat.lt_or_ge r w.heap.size with h' | h'
     ·exact h'
     ·simp [Array.getElem?_eq_none h'] at a2
    refine Sat.unpull hm (hp.change (m' := .iter r b l (vis ++ [j])) (fun k hk hnk => ?_) (fun k hk => .inl hk) ?_ ⟨es, clk, seen.push left[c].born, ?_, ?_, a3, ?_, a5⟩ (by rcases c3 with h | h <;> rw [h]) (by rcases c3 with h | h <;> rw [h]) (by rcases c3 with h | h <;> rw [h]) (fun _ => by rcases c3 with h | h <;> rw [h]; (exact Nat.le_refl _); exact Nat.le_succ _))
    ·have : k ≠ r := fun q => hnk (by rw [q]; simp [MObj.blocks])
     simp only [hw1]; rw [Array.getElem?_setIfInBounds_ne (Ne.symm this)]
    ·simp [MObj.blocks, hrb]
    ·simp only [hw1]; rw [Array.getElem?_setIfInBounds_ne hrb]; exact a1
    ·simp [hw1, hrl]
    ·simp [a4, hj]
/-- After the last round the map is itself again. -/
theorem Ghost.iterOver [Tracks] {i r b : Nat} {l : List (HVal × HVal)} {vis : List Nat} (hm : M[i]? = some (.iter r b l vis)) : Ghost e M e (M.set i (.map b l)) := fun _ I F tmps w h1 hs => by
 have hp := hs.pull hm
 obtain ⟨es, clk, seen, a1, a2, a3, a4, a5⟩ := hp.obj _ List.mem_cons_self
 exact ⟨I, .refl I, h1, Sat.unpull hm (hp.change (m' := .map b l) (fun _ _ _ => rfl) (fun k hk => .inl (by simp [MObj.blocks] at hk ⊢; exact .inr hk)) (by simp [MObj.blocks]) ⟨es, clk, a1, a3, a5⟩ rfl rfl rfl)⟩
end
end
section
section
variable {P : Program} {e : Env} {dst : Option Tmp} {ty : TypeId} {pos : String} {af : Array Edge} {g : Option (Nat × Bool)} {M : List MObj} {K : HVal → List MObj → Prop}
theorem zqk [Tracks] {x : Operand} {i r b j : Nat} {l : List (HVal × HVal)} {vis : List Nat} {p : HVal × HVal} (hx : zn e x = some (.raw (.pointer (some ⟨r, 0, none⟩)))) (hm : M[i]? = some (.iter r b l (vis ++ [j]))) (hp' : l[j]? = some p)
 (hk : K (.tup [p.1, p.2]) M) : EOp P e M ⟨dst, .entry x, ty, pos, af, g⟩ K :=
 EOp.of_run fun I F a w ho hs => by
  have h2 := (ho.one (x := x) (by simp [Op.operands]) hx).raw_inv
  have hp := hs.pull hm
  obtain ⟨es, clk, seen, a1, a2, a3, a4, a5⟩ := hp.obj _ List.mem_cons_self
  have hjl := zC hp'
  have hj : es[j]? = some es[j] := Array.getElem?_eq_getElem (by omega)
  obtain ⟨k1, k2⟩ := a5 j p _ hp' hj
  have hback : seen.back? = some es[j].born := by
   have : seen = (vis.map fun i => ((es[i]?).map (·.born)).getD 0).toArray.push es[j].born := by
    apply Array.ext'
    rw [a4]; simp [hj]
   rw [this]; simp
  have hfind : es.find? (fun m => m.born == es[j].born) = some es[j] := by
   cases hf : es.find? (fun m => m.born == es[j].born) with
   | none =>
     have := Array.find?_eq_none.1 hf es[j] (Array.getElem_mem _)
     simp at this
   | some m =>
     have h1 := Array.find?_some hf
     have h3 := Array.mem_of_find?_eq_some hf
     obtain ⟨q, hq⟩ := Array.getElem?_of_mem h3
     have := a3.2.2 q j m _ hq hj (by simpa using h1)
     subst this
     rw [hj] at hq; exact hq.symm
  refine ⟨.tuple #[es[j].key, es[j].val], .tup [p.1, p.2], M, w, I, ?_, .refl I, hk, V.tup2 k1 k2, hs⟩
  have hgr : (getObj r).run P w = .ok (.mapIter (some b) clk seen clk) w := by simp [getObj, Sem.run, a2]
  have hgb : (getObj b).run P w = .ok (.map es clk) w := by simp [getObj, Sem.run, a1]
  simp only [execOp, h2, Instr.entry, Sem.run_bind, hgr, Result.andThen_ok, hback, hgb, bne_self_eq_false, Bool.false_eq_true, if_false, hfind, Sem.run_pure]
end
section
variable {κ : Type} [DecidableEq κ]
/-- With an entry for the key. -/
def zcY (s : κ) (z : HVal) (ls : List (κ × HVal)) : List (κ × HVal) := match zbg s ls with | some _ => ls | none => ls ++ [(s, z)]
theorem zga {s : κ} {z : HVal} : ∀ {ls : List (κ × HVal)}, zbg s ls = none → zbg s (ls ++ [(s, z)]) = some ls.length
 | [], _ => by simp [zbg]
 | p :: r, h => by
   simp only [zbg] at h
   by_cases e : s = p.1
   ·rw [if_pos e] at h; simp at h
   ·rw [if_neg e] at h
    have hr : zbg s r = none := by cases hq : zbg s r with | none => rfl | some j => rw [hq] at h; simp at h
    simp only [List.cons_append, zbg, if_neg e, zga hr]; simp
theorem zpY (s : κ) (z h : HVal) (ls : List (κ × HVal)) : zb3 s h (zcY s z ls) = zb3 s h ls := by
 unfold zcY
 cases hq : zbg s ls with
 | some j => rfl
 | none =>
   simp only
   rw [(zcm (zga (z := z) hq)).choose_spec.2.2 h, (zcN hq).2 h]
   simp
theorem zq3 {s : κ} {z : HVal} (ls : List (κ × HVal)) : (klk s (zcY s z ls)).getD z = (klk s ls).getD z := by
 unfold zcY
 cases hq : zbg s ls with
 | some j => rfl
 | none =>
   obtain ⟨h, h1, h2, _⟩ := zcm (zga (z := z) hq)
   simp only
   rw [h2, (zcN hq).1]
   simp at h1; simp [h1]
variable {P : Program} {kt : TypeId} {ek : κ → HVal} {e : Env} {dst : Option Tmp} {ty : TypeId} {pos : String} {af : Array Edge} {g : Option (Nat × Bool)} {M : List MObj} {K : HVal → List MObj → Prop}
theorem znu [Tracks] {x y : Operand} {t et : TypeId} {size bytes s3 b3 : Nat} {zero z3 : Value} {d : TD} {i b : Nat} {ls : List (κ × HVal)} {s : κ}
 (hf : Fits P t (.map kt et) size bytes zero) (ok : KeyOk P kt ek) (het : Fits P et d s3 b3 z3) (hx : zn e x = some (.raw (.map (some b)))) (hy : zn e y = some (ek s)) (hm : M[i]? = some (.map b (kk ek ls)))
 (hk : ∀ (j st : Nat), zbg s (zcY s (zbi z3) ls) = some j → K (.tup [(klk s ls).getD (zbi z3), .int .i64 (st : Int)]) (M.set i (.mape b (kk ek (zcY s (zbi z3) ls)) j st))) : EOp P e M ⟨dst, .mapEntry t x y, ty, pos, af, g⟩ K :=
 EOp.of_run fun I F a w ho hs => by
  have h1 := (ho.one (x := x) (by simp [Op.operands]) hx).raw_inv
  have h2 := ho.one (x := y) (by simp [Op.operands]) hy
  have hp := hs.pull hm
  obtain ⟨es, clk, h3, h4, h5⟩ := hp.obj _ List.mem_cons_self
  obtain ⟨h6, h7⟩ := zig h4.1 h5
  obtain ⟨n1, n2⟩ := ze1 ok h2 w es.toList ls 0 h6 h7
  have hfk := ok.run_key h2 w es.toList ls h6 h7
  have hlt : b < w.heap.size := by
   rcases Nat.lt_or_ge b w.heap.size with h' | h'
   ·exact h'
   ·simp [Array.getElem?_eq_none h'] at h3
  have hsz : es.size = ls.length := by simpa using h6
  have fin : ∀ (ls' : List (κ × HVal)) (es' : Array MapEntry) (clk' j st : Nat), es'.size = (kk ek ls').length ∧ BornOk es' clk' →
   (∀ (i : Nat) (p : HVal × HVal) (m : MapEntry), (kk ek ls')[i]? = some p → es'[i]? = some m → V I p.1 m.key ∧ V I p.2 m.val) → (∃ m, es'[j]? = some m ∧ m.born = st) →
   Sat P I (M.set i (.mape b (kk ek ls') j st) ++ F) { w with heap := w.heap.setIfInBounds b (.map es' clk') } := fun ls' es' clk' j st e1 e2 e3 => by
   refine Sat.unpull hm (hp.change (m' := .mape b (kk ek ls') j st) (fun k hk hnk => ?_) (fun k hk => .inl hk) (by simp [MObj.blocks]) ⟨es', clk', by simp [hlt], e1, e2, e3⟩ rfl rfl rfl)
   have : k ≠ b := by simpa [MObj.blocks] using hnk
   simp [Array.getElem?_setIfInBounds_ne (Ne.symm this)]
  cases hq : zbg s ls with
  | none =>
    have hke : zcY s (zbi z3) ls = ls ++ [(s, zbi z3)] := by simp [zcY, hq]
    have hki := zga (z := zbi z3) hq
    have hlk := (zcN hq).1
    refine ⟨.tuple #[z3, .int .i64 clk], _, _, _, I, ?_, .refl I, hk ls.length clk (by rw [hke]; exact hki), by rw [hlk]; exact V.tup2 (zde I z3) (.int _ _),
     fin _ (es.push ⟨a.eval y, z3, clk⟩) (clk + 1) _ _ ⟨by rw [hke]; simp [kk, hsz], h4.2.push rfl⟩ (fun j p m a1 a2 => ?_) ⟨⟨a.eval y, z3, clk⟩, by rw [← hsz]; simp, rfl⟩⟩
    ·simp only [execOp, h1, Instr.mapEntry, Sem.run_bind, run_underlying hf.mapD, Result.andThen_ok, zaA h3, ok.check I s _ _ w h2, hfk, n1 hq, Sem.run_pure, zcW h3, het.run_zero, goInt]
    ·rw [hke] at a1
     simp only [kk, List.map_append, List.map_cons, List.map_nil] at a1
     by_cases hj : j < ls.length
     ·rw [List.getElem?_append_left (by simpa using hj)] at a1
      rw [Array.getElem?_push, if_neg (by omega)] at a2
      exact h5 j p m (by simpa [kk] using a1) a2
     ·rw [List.getElem?_append_right (by simp; omega)] at a1
      rw [Array.getElem?_push] at a2
      by_cases hje : j = es.size
      ·rw [if_pos hje] at a2
       simp at a2
       subst a2
       have : j - (ls.map fun p => (ek p.1, p.2)).length = 0 := by simp; omega
       rw [this] at a1
       simp at a1
       subst a1
       exact ⟨h2, zde I z3⟩
      ·rw [if_neg hje, Array.getElem?_eq_none (by omega)] at a2
       cases a2
  | some j0 =>
    obtain ⟨m0, h', g1, g2, g3, g4⟩ := n2 j0 hq
    obtain ⟨h'', g5, g6, _⟩ := zcm hq
    rw [g5] at g2; cases g2
    have hke : zcY s (zbi z3) ls = ls := by simp [zcY, hq]
    have hm0 : es[j0]? = some m0 := by simpa using g1
    have hkey : V I (ek s) m0.key := (h7 j0 _ m0 g5 g1).1
    refine ⟨.tuple #[m0.val, .int .i64 m0.born], _, _, _, I, ?_, .refl I, hk j0 m0.born (by rw [hke]; exact hq), by rw [g6]; exact V.tup2 g3 (.int _ _),
     fin _ (es.modify j0 fun e => { e with key := a.eval y }) clk _ _ ⟨by rw [hke]; simp [kk, hsz], h4.2.modify _ fun _ => rfl⟩ (fun j p m a1 a2 => ?_) ⟨{ m0 with key := a.eval y }, by rw [Array.getElem?_modify, if_pos rfl, hm0]; rfl, rfl⟩⟩
    ·have hstay : (Instr.keyThatStays m0.key (a.eval y)).run P w = .ok (a.eval y) w := by
      simp only [Instr.keyThatStays]
      rw [if_pos (ok.same I s _ _ hkey h2)]; rfl
     simp only [execOp, h1, Instr.mapEntry, Sem.run_bind, run_underlying hf.mapD, Result.andThen_ok, zaA h3, ok.check I s _ _ w h2, hfk, g4, Sem.run_pure, Nat.zero_add, hstay, zcW h3, goInt, hm0, Option.map_some, Option.getD_some]
    ·rw [hke] at a1
     rw [Array.getElem?_modify] at a2
     by_cases hj : j0 = j
     ·subst hj
      rw [if_pos rfl, hm0] at a2
      simp at a2
      subst a2
      have := h5 j0 p m0 a1 hm0
      simp only [kk, List.getElem?_map, g5, Option.map_some, Option.some.injEq] at a1
      subst a1
      exact ⟨h2, this.2⟩
     ·rw [if_neg hj] at a2
      exact h5 j p m a1 a2
theorem zln [Tracks] {x y z : Operand} {t : TypeId} {i b j st : Nat} {ls : List (κ × HVal)} {s : κ} {h : HVal}
 (hx : zn e x = some (.raw (.map (some b)))) (hy : zn e y = some (.int .i64 (st : Int))) (hz : zn e z = some h) (hm : M[i]? = some (.mape b (kk ek ls) j st)) (hj : zbg s ls = some j)
 (hk : K .junk (M.set i (.map b (kk ek (zb3 s h ls))))) : EOp P e M ⟨dst, .entryStore t x y z, ty, pos, af, g⟩ K :=
 EOp.of_skip fun I F a w ho hs => by
  have h1 := (ho.one (x := x) (by simp [Op.operands]) hx).raw_inv
  have h2 := (ho.one (x := y) (by simp [Op.operands]) hy).int_inv
  have h0 := ho.one (x := z) (by simp [Op.operands]) hz
  have hp := hs.pull hm
  obtain ⟨es, clk, h3, h4, h5, m0, h6, h7⟩ := hp.obj _ List.mem_cons_self
  have hlt : b < w.heap.size := by
   rcases Nat.lt_or_ge b w.heap.size with h' | h'
   ·exact h'
   ·simp [Array.getElem?_eq_none h'] at h3
  obtain ⟨h', g1, _, g2⟩ := zcm hj
  have hjl : j < es.size := by
   rcases Nat.lt_or_ge j es.size with h' | h'
   ·exact h'
   ·simp [Array.getElem?_eq_none h'] at h6
  have hfi : es.findIdx? (fun m => (m.born : Int) == (st : Int)) = some j := by
   rw [Array.findIdx?_eq_some_iff_getElem]
   refine ⟨hjl, ?_, fun q hq => ?_⟩
   ·rw [Array.getElem?_eq_getElem hjl] at h6
    have := Option.some.inj h6
    rw [this]; simp [h7]
   ·intro hc
    have hq2 := Array.getElem?_eq_getElem (xs := es) (i := q) (by omega)
    have := h4.2.2 q j _ m0 hq2 h6 (by have h8 : ((es[q].born : Nat) : Int) = (st : Int) := (by simpa using hc); omega)
    omega
  refine ⟨_, { w with heap := w.heap.setIfInBounds b (.map (es.modify j fun e => { e with val := a.eval z }) clk) }, I, ?_, .refl I, hk, ?_⟩
  ·simp only [execOp, h1, h2, Instr.entryStore, Sem.run_bind, zaA h3, Result.andThen_ok, asInt, asIntOf, Sem.run_pure, hfi, zcW h3]
  ·refine Sat.unpull hm (hp.change (m' := .map b (kk ek (zb3 s h ls))) (fun k hk hnk => ?_) (fun k hk => .inl hk) (by simp [MObj.blocks]) ⟨es.modify j fun e => { e with val := a.eval z }, clk, by simp [hlt], ⟨by rw [g2]; simp [kk]; simpa [kk] using h4.1, h4.2.modify _ fun _ => rfl⟩, fun q p m a1 a2 => ?_⟩ rfl rfl rfl)
   ·have : k ≠ b := by simpa [MObj.blocks] using hnk
    simp [Array.getElem?_setIfInBounds_ne (Ne.symm this)]
   ·rw [g2] at a1
    simp only [kk] at a1
    rw [Array.getElem?_modify] at a2
    rw [List.getElem?_map, List.getElem?_set] at a1
    by_cases hjq : j = q
    ·subst hjq
     have hl := zC g1
     rw [if_pos rfl, h6] at a2
     rw [if_pos rfl, if_pos hl] at a1
     simp at a1 a2
     subst a1 a2
     exact ⟨(h5 j (ek s, h') m0 (by simp [kk, g1]) h6).1, h0⟩
    ·rw [if_neg hjq] at a1 a2
     exact h5 q p m (by simp only [kk, List.getElem?_map]; exact a1) a2
end
end
section
section
variable {κ : Type} [DecidableEq κ] {α : Type}
def alk (x : κ) : List (κ × α) → Option α
 | [] => none
 | p :: r => if x = p.1 then some p.2 else alk x r
def zai (x : κ) (v : α) : List (κ × α) → List (κ × α)
 | [] => [(x, v)]
 | p :: r => if x = p.1 then (x, v) :: r else p :: zai x v r
abbrev em (f : α → HVal) (L : List (κ × α)) : List (κ × HVal) := L.map fun p => (p.1, f p.2)
theorem zh1 (f : α → HVal) (x : κ) : ∀ L : List (κ × α), klk x (em f L) = (alk x L).map f
 | [] => rfl
 | p :: r => by
   have ih := zh1 f x r
   simp only [List.map_cons, klk, alk] at ih ⊢
   by_cases h : x = p.1
   ·rw [if_pos h, if_pos h]; rfl
   ·rw [if_neg h, if_neg h]; exact ih
theorem zkZ (f : α → HVal) (x : κ) (v : α) : ∀ L : List (κ × α), zb3 x (f v) (em f L) = em f (zai x v L)
 | [] => rfl
 | p :: r => by
   have ih := zkZ f x v r
   simp only [List.map_cons, zb3, zai] at ih ⊢
   by_cases h : x = p.1
   ·rw [if_pos h, if_pos h]; rfl
   ·rw [if_neg h, if_neg h, ih]; rfl
theorem zlo (x y : κ) (v : α) : ∀ (l : List (κ × α)), alk y (zai x v l) = if y = x then some v else alk y l
 | [] => by simp [zai, alk]
 | p :: r => by
   have ih := zlo x y v r
   simp only [zai]
   by_cases h : x = p.1
   ·subst h
    rw [if_pos rfl]; simp only [alk]
    by_cases hy : y = p.1
    ·rw [if_pos hy, if_pos hy]
    ·rw [if_neg hy, if_neg hy, if_neg hy]
   ·rw [if_neg h]; simp only [alk]
    by_cases hy : y = p.1
    ·have : ¬ y = x := fun e => h (e ▸ hy)
     rw [if_pos hy, if_neg this, if_pos hy]
    ·rw [if_neg hy, ih, if_neg hy]
theorem zec {x : κ} : ∀ {l : List (κ × α)}, alk x l = none ↔ x ∉ l.map (·.1)
 | [] => by simp [alk]
 | p :: r => by
   have ih := zec (x := x) (l := r)
   simp only [alk, List.map_cons, List.mem_cons, not_or]
   by_cases h : x = p.1
   ·rw [if_pos h]; simp [h]
   ·rw [if_neg h, ih]; simp [h]
theorem zj6 {x : κ} {v : α} : ∀ {l : List (κ × α)}, alk x l = none → zai x v l = l ++ [(x, v)]
 | [], _ => rfl
 | p :: r, h => by
   simp only [alk] at h
   by_cases hx : x = p.1
   ·rw [if_pos hx] at h; cases h
   ·rw [if_neg hx] at h
    simp only [zai, if_neg hx, List.cons_append, zj6 h]
theorem zir {x y : κ} {v : α} : ∀ {l : List (κ × α)}, y ∈ (zai x v l).map (·.1) ↔ y = x ∨ y ∈ l.map (·.1)
 | [] => by simp [zai]
 | p :: r => by
   have ih := zir (x := x) (y := y) (v := v) (l := r)
   simp only [zai]
   by_cases h : x = p.1
   ·subst h; rw [if_pos rfl]; simp
   ·rw [if_neg h]; simp only [List.map_cons, List.mem_cons, ih]
    constructor
    ·rintro (h | h | h)
     ·exact .inr (.inl h)
     ·exact .inl h
     ·exact .inr (.inr h)
    ·rintro (h | h | h)
     ·exact .inr (.inl h)
     ·exact .inl h
     ·exact .inr (.inr h)
def ANodup (l : List (κ × α)) : Prop := (l.map (·.1)).Nodup
theorem ANodup.nil {A B : Type} : ANodup ([] : List (A × B)) := List.nodup_nil
theorem ANodup.put {x : κ} {v : α} : ∀ {l : List (κ × α)}, ANodup l → ANodup (zai x v l)
 | [], _ => by simp [ANodup, zai]
 | p :: r, hn => by
   have h1 := (List.nodup_cons.1 hn)
   by_cases h : x = p.1
   ·subst h
    have e : zai p.1 v (p :: r) = (p.1, v) :: r := by simp [zai]
    rw [e]; exact List.nodup_cons.2 h1
   ·have e : zai x v (p :: r) = p :: zai x v r := by simp [zai, h]
    rw [e]
    refine List.nodup_cons.2 ⟨fun hm => ?_, ANodup.put (l := r) h1.2⟩
    rcases zir.1 hm with e | e
    ·exact h e.symm
    ·exact h1.1 e
theorem zgS {x : κ} {v : α} : ∀ {l : List (κ × α)}, ANodup l → ((x, v) ∈ l ↔ alk x l = some v)
 | [], _ => by simp [alk]
 | p :: r, hn => by
   have h1 := (List.nodup_cons.1 hn)
   have ih := zgS (x := x) (v := v) (l := r) h1.2
   simp only [List.mem_cons, alk]
   by_cases h : x = p.1
   ·subst h
    rw [if_pos rfl]
    constructor
    ·rintro (h | h)
     ·rw [← h]
     ·exact absurd (List.mem_map_of_mem (f := (·.1)) h) h1.1
    ·intro h; left; simp at h; rw [← h]
   ·rw [if_neg h, ← ih]
    constructor
    ·rintro (h' | h')
     ·exact absurd (by rw [← h']) h
     ·exact h'
    ·exact .inr
theorem zc3 {x : κ} {v : α} : ∀ {l : List (κ × α)}, alk x l = some v → (x, v) ∈ l
 | [], h => by simp [alk] at h
 | p :: r, h => by
   simp only [alk] at h
   by_cases hx : x = p.1
   ·rw [if_pos hx] at h; cases h; rw [hx]; exact List.mem_cons_self
   ·rw [if_neg hx] at h; exact List.mem_cons_of_mem _ (zc3 h)
theorem znJ (x : κ) (v : α) : ∀ (l : List (κ × α)), (zai x v l).length = if (alk x l).isSome then l.length else l.length + 1
 | [] => by simp [zai, alk]
 | p :: r => by
   have ih := znJ x v r
   by_cases h : x = p.1
   ·have e1 : zai x v (p :: r) = (x, v) :: r := by simp [zai, h]
    have e2 : alk x (p :: r) = some p.2 := by simp [alk, h]
    rw [e1, e2]; simp
   ·have e1 : zai x v (p :: r) = p :: zai x v r := by simp [zai, h]
    have e2 : alk x (p :: r) = alk x r := by simp [alk, h]
    rw [e1, e2, List.length_cons, ih]; split <;> simp
theorem zr3 (x : κ) (v : α) (l : List (κ × α)) : (zai x v l).length ≤ l.length + 1 := by rw [znJ]; split <;> omega
theorem zcX {x : κ} {v : α} {p : κ × α} : ∀ {l : List (κ × α)}, p ∈ zai x v l → p = (x, v) ∨ p ∈ l
 | [], hp => by simp [zai] at hp; exact .inl hp
 | q :: r, hp => by
   simp only [zai] at hp
   by_cases h : x = q.1
   ·rw [if_pos h] at hp
    rcases List.mem_cons.1 hp with e | e
    ·exact .inl e
    ·exact .inr (List.mem_cons_of_mem _ e)
   ·rw [if_neg h] at hp
    rcases List.mem_cons.1 hp with e | e
    ·exact .inr (e ▸ List.mem_cons_self)
    ·rcases zcX e with e | e
     ·exact .inl e
     ·exact .inr (List.mem_cons_of_mem _ e)
theorem zjJ (f : α → HVal) (s : Str) : ∀ L : List (Str × α), (zaa s (em f L)).map (·.2) = (alk s L).map f
 | [] => rfl
 | p :: r => by
   have ih := zjJ f s r
   obtain ⟨k, v⟩ := p
   simp only [List.map_cons, zaa, alk] at ih ⊢
   by_cases h : s = k
   ·rw [if_pos h, if_pos h]; rfl
   ·rw [if_neg h, if_neg h, ← ih]; cases zaa s (r.map fun p => (p.1, f p.2)) <;> rfl
theorem zoz (f : α → HVal) (s : Str) (v : α) : ∀ L : List (Str × α), zcS s (f v) (em f L) = em f (zai s v L)
 | [] => rfl
 | p :: r => by
   have ih := zoz f s v r
   obtain ⟨k, u⟩ := p
   simp only [zcS, List.map_cons, zaa, zai] at ih ⊢
   by_cases h : s = k
   ·subst h; rw [if_pos rfl, if_pos rfl]; rfl
   ·rw [if_neg h, if_neg h]
    cases hq : zaa s (r.map fun p => (p.1, f p.2)) with
    | none => rw [hq] at ih; simp only [Option.map_none, List.cons_append, List.map_cons, ← ih]
    | some q => rw [hq] at ih; simp only [Option.map_some, List.set_cons_succ, List.map_cons, ← ih]
end
section
variable {κ : Type} [DecidableEq κ] {α : Type}
variable {P : Program} {e : Env} {dst : Option Tmp} {ty : TypeId} {pos : String} {af : Array Edge} {g : Option (Nat × Bool)} {M : List MObj} {K : HVal → List MObj → Prop}
theorem ziB {f : α → HVal} {o : Option α} {z0 : α} : f (o.getD z0) = (o.map f).getD (f z0) := by cases o <;> rfl
theorem zgl [Tracks] {x y : Operand} {t kt et : TypeId} {size bytes s2 b2 s3 b3 : Nat} {zero z2 z3 : Value} {d : TD} {i b : Nat} {f : α → HVal} {L : List (Str × α)} {s : Str} {z0 : α}
 (hf : Fits P t (.map kt et) size bytes zero) (hkt : Fits P kt .str s2 b2 z2) (het : Fits P et d s3 b3 z3) (hx : zn e x = some (.raw (.map (some b)))) (hy : zn e y = some (.str s)) (hm : M[i]? = some (.map b (sk (em f L)))) (hz : zbi z3 = f z0)
 (hk : K (f ((alk s L).getD z0)) M) : EOp P e M ⟨dst, .lookup t x y false, ty, pos, af, g⟩ K := by
 refine zhe hf hkt het hx hy hm ?_
 rw [ziB (f := f), ← zjJ, ← hz] at hk
 cases h : zaa s (em f L) with
 | none => rw [h] at hk; exact hk
 | some p => rw [h] at hk; exact hk
theorem zh5 [Tracks] {x y : Operand} {t kt et : TypeId} {size bytes s2 b2 s3 b3 : Nat} {zero z2 z3 : Value} {d : TD} {i b : Nat} {f : α → HVal} {L : List (Str × α)} {s : Str} {z0 : α}
 (hf : Fits P t (.map kt et) size bytes zero) (hkt : Fits P kt .str s2 b2 z2) (het : Fits P et d s3 b3 z3) (hx : zn e x = some (.raw (.map (some b)))) (hy : zn e y = some (.str s)) (hm : M[i]? = some (.map b (sk (em f L)))) (hz : zbi z3 = f z0)
 (hk : K (.tup [f ((alk s L).getD z0), .bool (alk s L).isSome]) M) : EOp P e M ⟨dst, .lookup t x y true, ty, pos, af, g⟩ K := by
 refine znX hf hkt het hx hy hm ?_
 have h1 : (alk s L).isSome = ((alk s L).map f).isSome := by cases alk s L <;> rfl
 rw [ziB (f := f), h1, ← zjJ, ← hz] at hk
 cases h : zaa s (em f L) with
 | none => rw [h] at hk; exact hk
 | some p => rw [h] at hk; exact hk
theorem zdV [Tracks] {x y z : Operand} {t kt et : TypeId} {size bytes s2 b2 : Nat} {zero z2 : Value} {i b : Nat} {f : α → HVal} {L : List (Str × α)} {s : Str} {v : α}
 (hf : Fits P t (.map kt et) size bytes zero) (hkt : Fits P kt .str s2 b2 z2) (hx : zn e x = some (.raw (.map (some b)))) (hy : zn e y = some (.str s)) (hz : zn e z = some (f v)) (hm : M[i]? = some (.map b (sk (em f L))))
 (hk : K .junk (M.set i (.map b (sk (em f (zai s v L)))))) : EOp P e M ⟨dst, .mapUpdate t x y z, ty, pos, af, g⟩ K := by
 refine zfk hf hkt hx hy hz hm ?_
 rw [zoz]; exact hk
variable {kt : TypeId} {ek : κ → HVal}
theorem zij [Tracks] {x y : Operand} {t et : TypeId} {size bytes s3 b3 : Nat} {zero z3 : Value} {d : TD} {i b : Nat} {f : α → HVal} {L : List (κ × α)} {s : κ} {z0 : α}
 (hf : Fits P t (.map kt et) size bytes zero) (ok : KeyOk P kt ek) (het : Fits P et d s3 b3 z3) (hx : zn e x = some (.raw (.map (some b)))) (hy : zn e y = some (ek s)) (hm : M[i]? = some (.map b (kk ek (em f L)))) (hz : zbi z3 = f z0)
 (hk : K (f ((alk s L).getD z0)) M) : EOp P e M ⟨dst, .lookup t x y false, ty, pos, af, g⟩ K := by
 refine zoc hf ok het hx hy hm ?_
 rw [ziB (f := f), ← hz] at hk
 rw [zh1]; exact hk
theorem zmo [Tracks] {x y : Operand} {t et : TypeId} {size bytes s3 b3 : Nat} {zero z3 : Value} {d : TD} {i b : Nat} {f : α → HVal} {L : List (κ × α)} {s : κ} {z0 : α}
 (hf : Fits P t (.map kt et) size bytes zero) (ok : KeyOk P kt ek) (het : Fits P et d s3 b3 z3) (hx : zn e x = some (.raw (.map (some b)))) (hy : zn e y = some (ek s)) (hm : M[i]? = some (.map b (kk ek (em f L)))) (hz : zbi z3 = f z0)
 (hk : K (.tup [f ((alk s L).getD z0), .bool (alk s L).isSome]) M) : EOp P e M ⟨dst, .lookup t x y true, ty, pos, af, g⟩ K := by
 refine znc hf ok het hx hy hm ?_
 have h1 : ((alk s L).map f).isSome = (alk s L).isSome := by cases alk s L <;> rfl
 rw [ziB (f := f), ← hz] at hk
 rw [zh1, h1]; exact hk
theorem zm2 [Tracks] {x y : Operand} {t et : TypeId} {size bytes s3 b3 : Nat} {zero z3 : Value} {d : TD} {i b j st : Nat} {f : α → HVal} {L : List (κ × α)} {s : κ} {z0 : α}
 (hf : Fits P t (.map kt et) size bytes zero) (ok : KeyOk P kt ek) (het : Fits P et d s3 b3 z3) (hx : zn e x = some (.raw (.map (some b)))) (hy : zn e y = some (ek s)) (hm : M[i]? = some (.mape b (kk ek (zcY s (f z0) (em f L))) j st)) (hz : zbi z3 = f z0)
 (hk : K (f ((alk s L).getD z0)) M) : EOp P e M ⟨dst, .lookup t x y false, ty, pos, af, g⟩ K := by
 have h0 : f ((alk s L).getD z0) = (klk s (zcY s (f z0) (em f L))).getD (zbi z3) := by rw [hz, zq3, zh1, ziB (f := f)]
 rw [h0] at hk
 generalize zcY s (f z0) (em f L) = ls at hm hk
 exact EOp.of_run fun I F a w ho hs => by
  have h1 := (ho.one (x := x) (by simp [Op.operands]) hx).raw_inv
  have h2 := ho.one (x := y) (by simp [Op.operands]) hy
  obtain ⟨es, clk, h3, h4, h5, _⟩ := hs.obj _ (List.mem_append_left _ (List.mem_of_getElem? hm))
  obtain ⟨h6, h7⟩ := zig h4.1 h5
  obtain ⟨n1, n2⟩ := ze1 ok h2 w es.toList ls 0 h6 h7
  have hfk := ok.run_key h2 w es.toList ls h6 h7
  cases hq : zbg s ls with
  | none =>
    rw [(zcN hq).1] at hk
    refine ⟨z3, _, M, w, I, ?_, .refl I, hk, zde I z3, hs⟩
    simp only [execOp, h1, Instr.lookup, Sem.run_bind, run_underlying hf.mapD, Result.andThen_ok, zaA h3, Sem.run_pure, ok.check I s _ _ w h2, hfk, n1 hq, het.run_zero]
    simp
  | some j' =>
    obtain ⟨m, h, g1, g2, g3, g4⟩ := n2 j' hq
    obtain ⟨h', g5, g6, _⟩ := zcm hq
    rw [g5] at g2; cases g2
    rw [g6] at hk
    refine ⟨m.val, _, M, w, I, ?_, .refl I, hk, g3, hs⟩
    simp only [execOp, h1, Instr.lookup, Sem.run_bind, run_underlying hf.mapD, Result.andThen_ok, zaA h3, Sem.run_pure, ok.check I s _ _ w h2, hfk, g4]
    simp
theorem zh6 [Tracks] {x y z : Operand} {t et : TypeId} {size bytes : Nat} {zero : Value} {i b : Nat} {f : α → HVal} {L : List (κ × α)} {s : κ} {v : α}
 (hf : Fits P t (.map kt et) size bytes zero) (ok : KeyOk P kt ek) (hx : zn e x = some (.raw (.map (some b)))) (hy : zn e y = some (ek s)) (hz : zn e z = some (f v)) (hm : M[i]? = some (.map b (kk ek (em f L))))
 (hk : K .junk (M.set i (.map b (kk ek (em f (zai s v L)))))) : EOp P e M ⟨dst, .mapUpdate t x y z, ty, pos, af, g⟩ K := by
 refine zn2 hf ok hx hy hz hm ?_
 rw [zkZ]; exact hk
theorem zmf [Tracks] {x y : Operand} {t et : TypeId} {size bytes s3 b3 : Nat} {zero z3 : Value} {d : TD} {i b : Nat} {f : α → HVal} {L : List (κ × α)} {s : κ} {z0 : α}
 (hf : Fits P t (.map kt et) size bytes zero) (ok : KeyOk P kt ek) (het : Fits P et d s3 b3 z3) (hx : zn e x = some (.raw (.map (some b)))) (hy : zn e y = some (ek s)) (hm : M[i]? = some (.map b (kk ek (em f L)))) (hz : zbi z3 = f z0)
 (hk : ∀ (j st : Nat), zbg s (zcY s (f z0) (em f L)) = some j → K (.tup [f ((alk s L).getD z0), .int .i64 (st : Int)]) (M.set i (.mape b (kk ek (zcY s (f z0) (em f L))) j st))) : EOp P e M ⟨dst, .mapEntry t x y, ty, pos, af, g⟩ K := by
 refine znu hf ok het hx hy hm ?_
 rw [hz]
 have h1 : (klk s (em f L)).getD (f z0) = f ((alk s L).getD z0) := by rw [zh1]; cases alk s L <;> rfl
 rw [h1]; exact hk
theorem zko [Tracks] {x y z : Operand} {t : TypeId} {i b j st : Nat} {f : α → HVal} {L : List (κ × α)} {s : κ} {z0 v : α}
 (hx : zn e x = some (.raw (.map (some b)))) (hy : zn e y = some (.int .i64 (st : Int))) (hz : zn e z = some (f v)) (hm : M[i]? = some (.mape b (kk ek (zcY s (f z0) (em f L))) j st)) (hj : zbg s (zcY s (f z0) (em f L)) = some j)
 (hk : K .junk (M.set i (.map b (kk ek (em f (zai s v L)))))) : EOp P e M ⟨dst, .entryStore t x y z, ty, pos, af, g⟩ K := by
 refine zln hx hy hz hm hj ?_
 rw [zpY, zkZ]; exact hk
/-- How many entries. -/
theorem zka [Tracks] {x : Operand} {t kt' et : TypeId} {size bytes : Nat} {zero : Value} {i b : Nat} {l : List (HVal × HVal)} (hf : Fits P t (.map kt' et) size bytes zero) (hx : zn e x = some (.raw (.map (some b)))) (hm : M[i]? = some (.map b l))
 (hk : K (.int .i64 (l.length : Int)) M) : EOp P e M ⟨dst, .call ⟨.builtin .len, #[x], #[t]⟩, ty, pos, af, g⟩ K :=
 EOp.of_run fun I F a w ho hs => by
  have h1 := (ho.one (x := x) (by simp [Op.operands, Call.operands]) hx).raw_inv
  obtain ⟨es, clk, h3, h4, h5⟩ := hs.obj _ (List.mem_append_left _ (List.mem_of_getElem? hm))
  exact ⟨.int .i64 (es.size : Int), _, M, w, I, by rw [ziY (ats := #[])]; simp [h1, Builtin.len_, run_underlying hf.mapD, zaA h3, goInt], .refl I, hk, by rw [h4.1]; exact .int _ _, hs⟩
end
end
section
open Go.Sort Go.Proofs
structure Play where
 Source : Str
 No : Int
 At : Int
 Week : Int
 Match : Str
 Player : Str
 Stat : Str
 Count : Int
 Undo : Int
structure StatS where
 Name : Str
 Count : Int
structure LineS where
 Player : Str
 Week : Int
 Stats : List StatS
abbrev zja (x : Play) : HVal := .agg [.str x.Source, .int .i64 x.No, .int .i64 x.At, .int .i64 x.Week, .str x.Match, .str x.Player, .str x.Stat, .int .i64 x.Count, .int .i64 x.Undo]
abbrev zgO (l : List Play) : HVal := .slice 9 (l.map zja)
abbrev zcg (x : StatS) : HVal := .agg [.str x.Name, .int .i64 x.Count]
abbrev zsM (l : List StatS) : HVal := .slice 2 (l.map zcg)
abbrev zmw (x : LineS) : HVal := .agg [.str x.Player, .int .i64 x.Week, zsM x.Stats]
abbrev zng (l : List LineS) : HVal := .slice 3 (l.map zmw)
abbrev Num := Str × Int
abbrev Of2 := Str × Str
abbrev zhh (x : Num) : HVal := .agg [.str x.1, .int .i64 x.2]
abbrev eOf (x : Of2) : HVal := .agg [.str x.1, .str x.2]
def zkI : Play := ⟨[], 0, 0, 0, [], [], [], 0, 0⟩
def zf6 (n : Int) : Bool := !(out n 1 60)
def playFault (p : Play) : Int :=
 if !(key p.Source) then 5 else if out p.No 1 3000 || !(zaL p.At) || !(zf6 p.Week) then 1
 else if !(key p.Match) || !(key p.Player) || !(key p.Stat) then 5
 else if out p.Count (-100000) 100000 || out p.Undo 0 (p.No - 1) then 1
 else if decide (0 < p.Undo) && decide (p.Count ≠ 0) then 3 else 0
def byNo (a b : Play) : Int := orI [zaH a.Source b.Source, zgw a.No b.No]
def zbH (l : List Play) : Nat → List Play → Int
 | _, [] => 0
 | k, p :: r => if playFault p ≠ 0 then playFault p else if 0 < k ∧ byNo p (l.getD (k - 1) zkI) ≤ 0 then 7 else zbH l (k + 1) r
structure ChkS where
 S : List Str
 W : List (Str × Int)
 c : Bool
def zgV (q : ChkS) (p : Play) : ChkS :=
 ⟨zaY p.Source q.S, zai p.Match p.Week q.W, q.c || ((alk p.Match q.W).isSome && ((alk p.Match q.W).getD 0 != p.Week))⟩
def zd0 (l : List Play) : ChkS := l.foldl zgV ⟨[], [], false⟩
theorem zfr {l : List Play} {k : Nat} {x : Play} (h : l[k]? = some x) : zd0 (l.take (k + 1)) = zgV (zd0 (l.take k)) x := by
 rw [zae h]; simp [zd0, List.foldl_append]
def zfd (q : ChkS) : Int := if 20 < q.S.length ∨ 400 < q.W.length then 2 else if q.c then 13 else 0
def zb1 (l : List Play) : Int := if 3000 < l.length then 2 else if zbH l 0 l ≠ 0 then zbH l 0 l else zfd (zd0 l)
theorem zkz {l : List Play} {k : Nat} {x : Play} {r : List Play} (h1 : playFault x = 0) (h2 : 0 < k → ¬ byNo x (l.getD (k - 1) zkI) ≤ 0) : zbH l k (x :: r) = zbH l (k + 1) r := by
 rw [zbH, if_neg (by simp [h1]), if_neg (fun h => h2 h.1 h.2)]
theorem zlx {l : List Play} {c : Int} (h1 : l.length ≤ 3000) (h : zbH l 0 l = c) (hc : c ≠ 0) : zb1 l = c := by
 rw [zb1, if_neg (by omega), if_pos (by rw [h]; exact hc), h]
theorem zgA {l : List Play} (h1 : l.length ≤ 3000) (h : zbH l 0 l = 0) : zb1 l = zfd (zd0 l) := by
 rw [zb1, if_neg (by omega), if_neg (by simp [h])]
theorem zlF {l : List Play} (h : zb1 l = 0) : l.length ≤ 3000 ∧ zbH l 0 l = 0 := by
 unfold zb1 at h
 split at h
 ·omega
 ·split at h
  ·contradiction
  ·rename_i h1 h2; exact ⟨by omega, by simpa using h2⟩
theorem zil {p : Play} (h : playFault p = 0) : key p.Source = true ∧ (1 ≤ p.No ∧ p.No ≤ 3000) ∧ zaL p.At = true ∧ zf6 p.Week = true ∧ (key p.Match = true ∧ key p.Player = true ∧ key p.Stat = true) ∧ (-100000 ≤ p.Count ∧ p.Count ≤ 100000) ∧ (0 ≤ p.Undo ∧ p.Undo ≤ p.No - 1) := by
 unfold playFault at h
 split at h
 ·omega
 split at h
 ·omega
 split at h
 ·omega
 split at h
 ·omega
 rename_i h1 h2 h3 h4
 simp only [Bool.or_eq_true, Bool.not_eq_true', not_or, Bool.not_eq_false, Bool.not_eq_true] at h1 h2 h3 h4
 exact ⟨h1, zdj h2.1.1, h2.1.2, h2.2, ⟨h3.1.1, h3.1.2, h3.2⟩, zdj h4.1, zdj h4.2⟩
theorem zkb {l : List Play} : ∀ (r : List Play) (k : Nat), zbH l k r = 0 → ∀ x ∈ r, playFault x = 0
 | [], _, _, x, hx => by cases hx
 | p :: r, k, h, x, hx => by
   rw [zbH] at h
   split at h
   ·contradiction
   ·split at h
    ·omega
    ·rename_i h1 _
     rcases List.mem_cons.1 hx with rfl | hx
     ·simpa using h1
     ·exact zkb r (k + 1) h x hx
theorem zn9 {l : List Play} (h : zb1 l = 0) : ∀ x ∈ l, playFault x = 0 := zkb l 0 (zlF h).2
/-! the source that counts -/
def zcp (trust : List Str) (at' : Int) (B : List (Str × Int)) (p : Play) : List (Str × Int) :=
 if at' < p.At ∨ zbV p.Source trust 0 < 0 then B
 else if (alk p.Match B).isSome = false ∨ zbV p.Source trust 0 < (alk p.Match B).getD 0 then zai p.Match (zbV p.Source trust 0) B else B
def zdk (l : List Play) (trust : List Str) (at' : Int) : List (Str × Int) := l.foldl (zcp trust at') []
theorem zhu {l : List Play} {trust : List Str} {at' : Int} {k : Nat} {x : Play} (h : l[k]? = some x) : zdk (l.take (k + 1)) trust at' = zcp trust at' (zdk (l.take k) trust at') x := by
 rw [zae h]; simp [zdk, List.foldl_append]
def zje (l : List Play) (trust : List Str) (at' : Int) (m : Str) : Option Str := (alk m (zdk l trust at')).map fun k => trust.getD k.toNat []
/-! what is taken back -/
def zi1 (at' : Int) (A : List (Num × Play)) (p : Play) : List (Num × Play) := if p.At ≤ at' then zai (p.Source, p.No) p A else A
def zjT (l : List Play) (at' : Int) : List (Num × Play) := l.foldl (zi1 at') []
theorem zlS {l : List Play} {at' : Int} {k : Nat} {x : Play} (h : l[k]? = some x) : zjT (l.take (k + 1)) at' = zi1 at' (zjT (l.take k) at') x := by
 rw [zae h]; simp [zjT, List.foldl_append]
def znQ (q p : Play) : Bool := decide (q.Undo = 0) && decide (q.Match = p.Match) && decide (q.Player = p.Player) && decide (q.Stat = p.Stat)
def zfN (A : List (Num × Play)) (at' : Int) (G : List (Num × Bool)) (p : Play) : List (Num × Bool) :=
 if at' < p.At ∨ p.Undo = 0 then G else if (alk (p.Source, p.Undo) A).isSome = true ∧ znQ ((alk (p.Source, p.Undo) A).getD zkI) p = true then zai (p.Source, p.Undo) true G else G
def ziT (A : List (Num × Play)) (at' : Int) (l : List Play) : List (Num × Bool) := l.foldl (zfN A at') []
def zhp (l : List Play) (at' : Int) : List (Num × Bool) := ziT (zjT l at') at' l
theorem zgj {A : List (Num × Play)} {l : List Play} {at' : Int} {k : Nat} {x : Play} (h : l[k]? = some x) : ziT A at' (l.take (k + 1)) = zfN A at' (ziT A at' (l.take k)) x := by
 rw [zae h]; simp [ziT, List.foldl_append]
def znK (l : List Play) (at' : Int) (x : Num) : Bool := (alk x (zhp l at')).getD false
/-! lines -/
def ziR (l : List Play) (trust : List Str) (week at' : Int) (p : Play) : Bool :=
 !(decide (at' < p.At) || p.Week != week || decide (0 < p.Undo) || znK l at' (p.Source, p.No) || (zje l trust at' p.Match).getD [] != p.Source)
structure LnS where
 S : List Str
 c : List (Of2 × Int)
def zrQ (q : LnS) (p : Play) : LnS := ⟨zaY p.Player q.S, zai (p.Player, p.Stat) ((alk (p.Player, p.Stat) q.c).getD 0 + p.Count) q.c⟩
def zfL (l : List Play) (trust : List Str) (week at' : Int) (q : LnS) (p : Play) : LnS := if ziR l trust week at' p then zrQ q p else q
def zdr (l : List Play) (trust : List Str) (week at' : Int) (m : List Play) : LnS := m.foldl (zfL l trust week at') ⟨[], []⟩
theorem zlX {l m : List Play} {trust : List Str} {week at' : Int} {k : Nat} {x : Play} (h : m[k]? = some x) : zdr l trust week at' (m.take (k + 1)) = zfL l trust week at' (zdr l trust week at' (m.take k)) x := by
 rw [zae h]; simp [zdr, List.foldl_append]
def zk6 (a b : StatS) : Int := zaH a.Name b.Name
def zbe (c : List (Of2 × Int)) (s : Str) : List StatS := (c.filter fun e => e.1.1 == s && e.2 != 0).map fun e => ⟨e.1.2, e.2⟩
def zeM (c : List (Of2 × Int)) (s : Str) : List StatS := za0 zk6 (zbe c s)
def zfn (c : List (Of2 × Int)) (S : List Str) : Bool := c.any (fun e => out e.2 (-100000) 100000) || S.any (fun s => decide (40 < (zbe c s).length))
def zfz (c : List (Of2 × Int)) (S : List Str) : Int := if zfn c S then 12 else 0
def zfy (c : List (Of2 × Int)) (S : List Str) (week : Int) : List LineS := if zfn c S then [] else (zar S).map fun s => ⟨s, week, zeM c s⟩
def znx (l : List Play) (trust : List Str) (week at' : Int) : Int := zfz (zdr l trust week at' l).c (zdr l trust week at' l).S
def znR (l : List Play) (trust : List Str) (week at' : Int) : List LineS := zfy (zdr l trust week at' l).c (zdr l trust week at' l).S week
/-! order of trust -/
def zeW (l : List Str) : Nat → List Str → Int
 | _, [] => 0
 | k, s :: r => if !(key s) then 5 else if (l.take k).contains s then 6 else zeW l (k + 1) r
def zdW (l : List Str) : Int := if 20 < l.length then 2 else zeW l 0 l
theorem zsj {s : Str} (h : key s = true) : s.length ≤ 40 := by
 simp only [key, zgb, Bool.and_eq_true, decide_eq_true_eq] at h; exact h.1.1.1.2
theorem zku {α : Type} {c : α → α → Int} (hc : Cmp c fun _ => True) {l l' : List α} (he : ∀ x y, x ∈ l → y ∈ l → c x y = 0 → x = y) (hp : l'.Perm l) (hw : l'.Pairwise fun a b => ¬ c b a < 0) : l' = za0 c l := by
 have hs := zic hc (l := l) (fun _ _ => trivial)
 have hw' : l'.Pairwise fun a b => c a b ≤ 0 := hw.imp fun {a b} h => by
  have := hc.flip b a trivial trivial
  omega
 refine List.Perm.eq_of_pairwise (le := fun a b => c a b ≤ 0) (fun a b ha hb h1 h2 => ?_) hw' hs (hp.trans (zc5 c l).symm)
 have f1 := hc.flip a b trivial trivial
 exact he a b (hp.mem_iff.1 ha) ((zc5 c l).mem_iff.1 hb) (by omega)
theorem znn : Cmp zk6 fun _ => True where
 flip x y _ _ := by unfold zk6; rw [zdx x.Name y.Name]; omega
 trans x y z _ _ _ h1 h2 := zfv h1 h2
theorem zop {α : Type} {c : α → α → Int} (hc : Cmp c fun _ => True) : SWO (ltOf c) := by
 have h : ∀ a b, ltOf c a b = decide (c a b < 0) := fun a b => rfl
 refine ⟨fun x => ?_, fun x y z h1 h2 => ?_, fun x y z h1 h2 => ?_⟩
 ·rw [h]; have := hc.flip x x trivial trivial; simp; omega
 ·rw [h] at *
  simp only [decide_eq_true_eq] at *
  have a1 := hc.trans x y z trivial trivial trivial (by omega) (by omega)
  rcases Int.lt_or_eq_of_le a1 with e | e
  ·exact e
  ·exfalso
   have f1 := hc.flip x z trivial trivial
   have a2 := hc.trans z x y trivial trivial trivial (by have := hc.flip z x trivial trivial; omega) (by omega)
   have f2 := hc.flip y z trivial trivial
   omega
 ·rw [h] at *
  simp only [decide_eq_false_iff_not] at *
  have f1 := hc.flip x y trivial trivial
  have f2 := hc.flip y z trivial trivial
  have f3 := hc.flip x z trivial trivial
  have g1 := hc.flip y x trivial trivial
  have g2 := hc.flip z y trivial trivial
  have g3 := hc.flip z x trivial trivial
  have := hc.trans z y x trivial trivial trivial (by omega) (by omega)
  omega
end
section
theorem znf {α : Type} {l : List α} (h : l.Nodup) {i j : Nat} {a : α} (hi : l[i]? = some a) (hj : l[j]? = some a) : i = j := by
 have key : ∀ (i j : Nat), i < j → l[i]? = some a → l[j]? = some a → False := fun i j hij h1 h2 => by
  have hi := zC h1
  have hj := zC h2
  rw [List.getElem?_eq_getElem hi] at h1
  rw [List.getElem?_eq_getElem hj] at h2
  exact List.pairwise_iff_getElem.1 h i j hi hj hij (Option.some.inj (h1.trans h2.symm))
 rcases Nat.lt_trichotomy i j with h' | h' | h'
 ·exact (key i j h' hi hj).elim
 ·exact h'
 ·exact (key j i h' hj hi).elim
/-! what a range has come to -/
structure VisOk {β : Type} (L : List β) (vis : List Nat) (E : List β) : Prop where
 nd : vis.Nodup
 lt : ∀ j ∈ vis, j < L.length
 eq : E.map some = vis.map fun j => L[j]?
theorem VisOk.nil {β : Type} (L : List β) : VisOk L [] [] := ⟨List.nodup_nil, (fun j h => by cases h), rfl⟩
theorem VisOk.step {β : Type} {L E : List β} {vis : List Nat} (h : VisOk L vis E) {j : Nat} {q : β} (hj : L[j]? = some q) (hn : j ∉ vis) : VisOk L (vis ++ [j]) (E ++ [q]) where
 nd := List.nodup_append.2 ⟨h.nd, by simp, fun a ha b hb => by simp at hb; subst hb; exact fun e => hn (e ▸ ha)⟩
 lt k hk := by
  rcases List.mem_append.1 hk with hk | hk
  ·exact h.lt k hk
  ·simp at hk; subst hk; exact zC hj
 eq := by simp only [List.map_append, h.eq, List.map_cons, List.map_nil, hj]
theorem VisOk.len {β : Type} {L E : List β} {vis : List Nat} (h : VisOk L vis E) : E.length = vis.length := by
 have := congrArg List.length h.eq; simpa using this
theorem VisOk.le {β : Type} {L E : List β} {vis : List Nat} (h : VisOk L vis E) : vis.length ≤ L.length := by
 have := zgK h.nd (m := List.range L.length) fun j hj => List.mem_range.2 (h.lt j hj)
 simpa using this
theorem VisOk.room {β : Type} {L E : List β} {vis : List Nat} (h : VisOk L vis E) {j : Nat} {q : β} (hj : L[j]? = some q) (hn : j ∉ vis) : vis.length < L.length := by
 have := (h.step hj hn).le
 rw [List.length_append] at this
 simp only [List.length_cons, List.length_nil] at this
 omega
theorem VisOk.done {β : Type} {L E : List β} {vis : List Nat} (h : VisOk L vis E) (hl : vis.length = L.length) : E.Perm L := by
 have hp : vis.Perm (List.range L.length) := by
  refine (List.perm_ext_iff_of_nodup h.nd List.nodup_range).2 fun a => ⟨fun ha => List.mem_range.2 (h.lt a ha), fun ha => ?_⟩
  refine Classical.byContradiction fun hna => ?_
  have h1 : (a :: vis).Nodup := List.nodup_cons.2 ⟨hna, h.nd⟩
  have h2 := zgK h1 (m := List.range L.length) fun j hj => by
   rcases List.mem_cons.1 hj with rfl | hj
   ·exact ha
   ·exact List.mem_range.2 (h.lt j hj)
  simp at h2; omega
 have h1 := hp.map fun j => L[j]?
 rw [← h.eq] at h1
 have h2 : ((List.range L.length).map fun j => L[j]?) = L.map some := by
  refine List.ext_getElem? fun i => ?_
  rw [List.getElem?_map, List.getElem?_map]
  rcases Nat.lt_or_ge i L.length with hi | hi
  ·rw [List.getElem?_range hi, List.getElem?_eq_getElem hi]; simp [hi]
  ·rw [List.getElem?_eq_none (by simpa using hi), List.getElem?_eq_none hi]; rfl
 rw [h2] at h1
 have h3 := h1.filterMap id
 have key : ∀ l : List β, (l.map some).filterMap id = l := fun l => by
  induction l with
  | nil => rfl
  | cons x l ih => simp [ih]
 rwa [key, key] at h3
def NextOk {β : Type} (L : List β) (vis : List Nat) (c : Bool) (vis' : List Nat) : Prop :=
 (c = false ∧ vis' = vis ∧ vis.length = L.length) ∨ (c = true ∧ ∃ j q, L[j]? = some q ∧ j ∉ vis ∧ vis' = vis ++ [j])
theorem NextOk.t {β : Type} {L : List β} {vis vis' : List Nat} {c : Bool} (h : NextOk L vis c vis') (hc : c = true) : ∃ j q, L[j]? = some q ∧ j ∉ vis ∧ vis' = vis ++ [j] := by
 rcases h with ⟨h, _⟩ | ⟨_, h⟩
 ·rw [hc] at h; cases h
 ·exact h
theorem NextOk.f {β : Type} {L : List β} {vis vis' : List Nat} {c : Bool} (h : NextOk L vis c vis') (hc : c = false) : vis' = vis ∧ vis.length = L.length := by
 rcases h with ⟨_, h⟩ | ⟨h, _⟩
 ·exact h
 ·rw [hc] at h; cases h
section
variable {P : Program} {e : Env} {dst : Option Tmp} {ty : TypeId} {pos : String} {af : Array Edge} {g : Option (Nat × Bool)} {M : List MObj} {K : HVal → List MObj → Prop}
theorem zlK {α : Type} : ∀ {M : List α} {i : Nat} {m : α}, M[i]? = some m → M.set i m = M
 | [], i, m, h => by simp at h
 | x :: M, 0, m, h => by simp at h; simp [h]
 | x :: M, i + 1, m, h => by simp at h; simp [zlK h]
theorem zlZ [Tracks] {β : Type} {L : List β} {enc : β → HVal × HVal} {x : Operand} {i r b : Nat} {l : List (HVal × HVal)} {vis : List Nat} (hx : zn e x = some (.raw (.pointer (some ⟨r, 0, none⟩)))) (hm : M[i]? = some (.iter r b l vis)) (hL : l = L.map enc)
 (hv : vis.Nodup) (hvl : ∀ j ∈ vis, j < L.length) (hk : ∀ c R vis', NextOk L vis c vis' → K (.tup (.bool c :: R)) (M.set i (.iter r b l vis'))) : EOp P e M ⟨dst, .next x false, ty, pos, af, g⟩ K := by
 have hl : l.length = L.length := by rw [hL, List.length_map]
 refine zqW hx hm hv (fun j hj => by rw [hl]; exact hvl j hj) (fun hlen => ?_) (fun j p hj hn => ?_)
 ·have := hk false [] vis (.inl ⟨rfl, rfl, by rw [hlen, hl]⟩)
  rw [zlK hm] at this
  exact this
 ·rw [hL, List.getElem?_map] at hj
  cases hq : L[j]? with
  | none => rw [hq] at hj; cases hj
  | some q => exact hk true [p.1, p.2] (vis ++ [j]) (.inr ⟨rfl, j, q, hq, hn, rfl⟩)
theorem zky [Tracks] {β : Type} {L : List β} {enc : β → HVal × HVal} {x : Operand} {i r b j : Nat} {l : List (HVal × HVal)} {vis : List Nat} {q : β} (hx : zn e x = some (.raw (.pointer (some ⟨r, 0, none⟩)))) (hm : M[i]? = some (.iter r b l (vis ++ [j]))) (hL : l = L.map enc) (hq : L[j]? = some q)
 (hk : K (.tup [(enc q).1, (enc q).2]) M) : EOp P e M ⟨dst, .entry x, ty, pos, af, g⟩ K :=
 zqk hx hm (p := enc q) (by rw [hL, List.getElem?_map, hq]; rfl) hk
theorem zrM {α : Type} (f : α → HVal) (L : List (Str × α)) : sk (em f L) = L.map fun p => (.str p.1, f p.2) := by simp [sk]
theorem zrH {κ α : Type} [DecidableEq κ] (ek : κ → HVal) (f : α → HVal) (L : List (κ × α)) : kk ek (em f L) = L.map fun p => (ek p.1, f p.2) := by simp [kk]
end
theorem ztj {α : Type} {a b c d : α} {X : List α} : (a :: b :: c :: d :: X).Perm (a :: d :: c :: b :: X) :=
 List.Perm.cons a (((List.Perm.swap c b (d :: X)).trans ((List.Perm.swap d b X).cons c)).trans (((List.Perm.swap d c (b :: X)))))
/-! maps whose values are owned slices -/
section
variable {β : Type}
abbrev Grp (β : Type) := List (Str × (Value × List β))
abbrev fG {β : Type} (q : Value × List β) : HVal := .raw q.1
abbrev gZ (β : Type) : Value × List β := (.slice none 0 0, [])
def gV (s : Str) (G : Grp β) : Value := ((alk s G).getD (gZ β)).1
def gL (s : Str) (G : Grp β) : List β := ((alk s G).getD (gZ β)).2
def grp (sz : Nat) (e : β → HVal) (G : Grp β) : List MObj := G.map fun p => .arr p.2.1 sz (p.2.2.map e)
theorem zow {κ α : Type} [DecidableEq κ] {s : κ} {v : α} : ∀ {G : List (κ × α)}, alk s G = some v → ∃ n, G[n]? = some (s, v) ∧ ∀ u, zai s u G = G.set n (s, u)
 | [], h => by simp [alk] at h
 | p :: r, h => by
   simp only [alk] at h
   by_cases hs : s = p.1
   ·rw [if_pos hs] at h
    simp only [Option.some.injEq] at h
    subst h
    exact ⟨0, by simp [hs], fun u => by simp [zai, hs]⟩
   ·rw [if_neg hs] at h
    obtain ⟨n, h1, h2⟩ := zow h
    exact ⟨n + 1, by simpa using h1, fun u => by simp [zai, hs, h2]⟩
theorem zkR {κ α : Type} [DecidableEq κ] {s : κ} {p : κ → Bool} : ∀ {G : List (κ × α)}, alk s (G.filter fun q => p q.1) = if p s then alk s G else none
 | [] => by simp [alk]
 | q :: r => by
   have ih := zkR (s := s) (p := p) (G := r)
   rw [List.filter_cons]
   by_cases hq : p q.1 = true
   ·rw [if_pos hq]
    simp only [alk]
    by_cases hs : s = q.1
    ·rw [if_pos hs, if_pos hs, hs, if_pos hq]
    ·rw [if_neg hs, if_neg hs, ih]
   ·rw [if_neg hq, ih]
    simp only [alk]
    by_cases hs : s = q.1
    ·rw [hs, if_neg hq, if_neg hq]
    ·rw [if_neg hs]
theorem zgL {κ α : Type} [DecidableEq κ] {s : κ} {G : List (κ × α)} (h : alk s G = none) : (G.filter fun q => decide (q.1 ≠ s)) = G := by
 rw [List.filter_eq_self]
 intro q hq
 rw [zec] at h
 simp only [decide_eq_true_eq]
 exact fun e => h (e ▸ List.mem_map_of_mem hq)
theorem zgG {κ α : Type} [DecidableEq κ] {s : κ} {v : α} : ∀ {G : List (κ × α)}, ANodup G → alk s G = some v → G.Perm ((s, v) :: G.filter fun q => decide (q.1 ≠ s))
 | [], _, h => by simp [alk] at h
 | p :: r, hn, h => by
   have h1 := List.nodup_cons.1 hn
   simp only [alk] at h
   by_cases hs : s = p.1
   ·rw [if_pos hs] at h
    simp only [Option.some.injEq] at h
    have h2 : alk s r = none := by rw [zec, hs]; exact h1.1
    rw [List.filter_cons, if_neg (by simp [hs]), zgL h2, hs, ← h]
   ·rw [if_neg hs] at h
    rw [List.filter_cons, if_pos (by simp; exact fun e => hs e.symm)]
    exact (List.Perm.cons p (zgG h1.2 h)).trans (List.Perm.swap _ _ _)
end
section
variable {P : Program} {e : Env} {dst : Option Tmp} {ty : TypeId} {pos : String} {af : Array Edge} {g : Option (Nat × Bool)} {M : List MObj} {K : HVal → List MObj → Prop} {β : Type} {eb : β → HVal}
theorem zn6 [Tracks] {I : Imm} {M : List MObj} {w : World} (sz : Nat) (hs : Sat P I M w) : Sat P I (.arr (.slice none 0 0) sz [] :: M) w where
 imm := hs.imm
 obj m hm := by
  rcases List.mem_cons.1 hm with rfl | hm
  ·exact .inl ⟨rfl, rfl⟩
  ·exact hs.obj m hm
 nodup := by simp only [blocks, List.flatMap_cons, MObj.blocks, List.nil_append]; exact hs.nodup
 apart b hb := hs.apart b (by simpa only [blocks, List.flatMap_cons, MObj.blocks, List.nil_append] using hb)
 os := hs.os
 output := hs.output
 tape := hs.tape
 tab := hs.tab
 low := hs.low
theorem EOp.pre [Tracks] {M' : List MObj} {o : Oper} (hm : ∀ I F w, Sat P I (M ++ F) w → Sat P I (M' ++ F) w) (h : EOp P e M' o K) : EOp P e M o K := fun I F a w ho hs => h I F a w ho (hm I F w hs)
theorem EOp.post_perm [Tracks] {o : Oper} (h : EOp P e M o fun x N => ∃ N', N.Perm N' ∧ K x N') : EOp P e M o K := fun I F a w ho hs =>
 Oper.wp_noQ (fun _ _ ⟨v, x, M', J, h1, h2, ⟨N', h3, h4⟩, h5, h6⟩ => ⟨v, x, N', J, h1, h2, h4, h5, h6.perm (h3.append_right F)⟩) (h I F a w ho hs)
theorem zlv [Tracks] {x y : Operand} {t el : TypeId} {size bytes sz b2 : Nat} {zero z2 : Value} {d : TD} {A : List MObj} {G : Grp β} {s : Str} {ys : List β}
 (hf : Fits P t (.slice el) size bytes zero) (hel : Fits P el d sz b2 z2) (hz : z2.cells.size = sz) (hby : Nat.ble b2 100000 = true)
 (hx : zn e x = some (.raw (gV s G))) (hy : zn e y = some (.slice sz (ys.map eb))) (hfl : ∀ y ∈ ys.map eb, za6 (zl y) = true) (hlen : (gL s G).length + ys.length ≤ 1000000000)
 (hk : ∀ v', K (.raw v') (A ++ grp sz eb (zai s (v', gL s G ++ ys) G))) : EOp P e (A ++ grp sz eb G) ⟨dst, .call ⟨.builtin .append, #[x, y], #[t, t]⟩, ty, pos, af, g⟩ K := by
 cases hq : alk s G with
 | none =>
   have h1 : gV s G = .slice none 0 0 := by unfold gV; rw [hq]; rfl
   have h2 : gL s G = [] := by unfold gL; rw [hq]; rfl
   rw [h1] at hx
   rw [h2, List.nil_append] at hk
   refine EOp.pre (M' := .arr (.slice none 0 0) sz [] :: (A ++ grp sz eb G)) (fun I F w hs => zn6 sz hs) (EOp.post_perm ?_)
   refine zaO (i := 0) hf hel hz hby hx hy rfl hfl (by rw [h2] at hlen; simpa using hlen) fun v' => ⟨_, ?_, hk v'⟩
   rw [zj6 hq]
   simp only [List.set_cons_zero, grp, List.map_append, List.map_cons, List.map_nil, List.nil_append]
   rw [← List.append_assoc]
   exact (List.perm_append_comm (l₁ := [MObj.arr v' sz (ys.map eb)]) (l₂ := A ++ G.map fun p => MObj.arr p.2.1 sz (p.2.2.map eb)))
 | some q =>
   obtain ⟨v, l⟩ := q
   have h1 : gV s G = v := by unfold gV; rw [hq]; rfl
   have h2 : gL s G = l := by unfold gL; rw [hq]; rfl
   obtain ⟨n, h3, h4⟩ := zow hq
   rw [h1] at hx
   rw [h2] at hk hlen
   have h5 : (A ++ grp sz eb G)[A.length + n]? = some (.arr v sz (l.map eb)) := by
    rw [List.getElem?_append_right (by omega), Nat.add_sub_cancel_left]
    simp [grp, h3]
   refine zaO (i := A.length + n) hf hel hz hby hx hy h5 hfl (by simpa using hlen) fun v' => ?_
   have h6 : (A ++ grp sz eb G).set (A.length + n) (.arr v' sz (l.map eb ++ ys.map eb)) = A ++ grp sz eb (zai s (v', l ++ ys) G) := by
    rw [List.set_append_right _ _ (by omega), Nat.add_sub_cancel_left, h4]
    simp [grp, List.map_set]
   rw [h6]
   exact hk v'
theorem Ghost.grp_take [Tracks] {A : List MObj} {G G' : Grp β} {s : Str} {sz : Nat} (hn : ANodup G) (hG : alk s G = alk s G') : Ghost e (A ++ grp sz eb G) e (.arr (gV s G') sz ((gL s G').map eb) :: (A ++ grp sz eb (G.filter fun q => decide (q.1 ≠ s)))) := by
 cases hq : alk s G with
 | none =>
   have h1 : gV s G' = .slice none 0 0 := by unfold gV; rw [← hG, hq]; rfl
   have h2 : gL s G' = [] := by unfold gL; rw [← hG, hq]; rfl
   rw [h1, h2, zgL hq]
   exact Ghost.arr_nil sz
 | some q =>
   obtain ⟨v, l⟩ := q
   have h1 : gV s G' = v := by unfold gV; rw [← hG, hq]; rfl
   have h2 : gL s G' = l := by unfold gL; rw [← hG, hq]; rfl
   rw [h1, h2]
   refine Ghost.perm ?_
   have h3 := ((zgG hn hq).map fun p => MObj.arr p.2.1 sz (p.2.2.map eb)).append_left A
   refine h3.trans ?_
   simp only [List.map_cons, grp]
   exact List.perm_middle
end
end
section
section
variable {κ α γ : Type} [DecidableEq κ]
theorem VisOk.fresh {L E : List (κ × α)} {vis : List Nat} (h : VisOk L vis E) (hn : ANodup L) {j : Nat} {q : κ × α} (hj : L[j]? = some q) (hv : j ∉ vis) : alk q.1 E = none := by
 rw [zec]
 intro hm
 obtain ⟨q', h1, h2⟩ := List.mem_map.1 hm
 have h3 : some q' ∈ E.map some := List.mem_map_of_mem h1
 rw [h.eq] at h3
 obtain ⟨j', h4, h5⟩ := List.mem_map.1 h3
 have e : j' = j := znf hn (a := q.1) (by rw [List.getElem?_map, h5]; simp [h2]) (by rw [List.getElem?_map, hj]; rfl)
 exact hv (e ▸ h4)
theorem ANodup.perm {A B : Type} {E L : List (A × B)} (hn : ANodup L) (hp : E.Perm L) : ANodup E := (hp.map (fun p : A × B => p.1)).nodup_iff.2 hn
theorem zqK {E L : List (κ × α)} (hp : E.Perm L) (hn : ANodup L) (m : κ) : alk m E = alk m L := by
 have hne : ANodup E := hn.perm hp
 cases h : alk m L with
 | none =>
   rw [zec] at h ⊢
   exact fun hm => h ((hp.map (·.1)).mem_iff.1 hm)
 | some v => exact (zgS hne).1 (hp.mem_iff.2 ((zgS hn).2 h))
theorem zk2 (g : α → γ) (m : κ) : ∀ (E : List (κ × α)), alk m (E.map fun q => (q.1, g q.2)) = (alk m E).map g
 | [] => rfl
 | p :: r => by
   have ih := zk2 g m r
   simp only [List.map_cons, alk]
   by_cases h : m = p.1
   ·rw [if_pos h, if_pos h]; rfl
   ·rw [if_neg h, if_neg h, ih]
theorem ANodup.map {A B C : Type} (g : B → C) {E : List (A × B)} (h : ANodup E) : ANodup (E.map fun q => (q.1, g q.2)) := by
 unfold ANodup at *; rw [List.map_map]; exact h
end
theorem znE (s : Str) : ∀ (l : List Str) (k : Int), zbV s l k = -1 ∨ (k ≤ zbV s l k ∧ zbV s l k < k + l.length)
 | [], k => .inl rfl
 | x :: r, k => by
   simp only [zbV]
   by_cases h : s = x
   ·rw [if_pos h]; right; simp; omega
   ·rw [if_neg h]
    rcases znE s r (k + 1) with h' | h'
    ·exact .inl h'
    ·right; simp only [List.length_cons]; omega
theorem zlt {trust : List Str} {n : Int} : ∀ (l : List Play) (B : List (Str × Int)), ANodup B → (∀ q ∈ B, 0 ≤ q.2 ∧ q.2 < trust.length) → ANodup (l.foldl (zcp trust n) B) ∧ ∀ q ∈ l.foldl (zcp trust n) B, 0 ≤ q.2 ∧ q.2 < trust.length
 | [], B, h1, h2 => ⟨h1, h2⟩
 | p :: r, B, h1, h2 => by
   refine zlt r (zcp trust n B p) ?_ ?_
   ·unfold zcp; split
    ·exact h1
    ·split
     ·exact h1.put
     ·exact h1
   ·unfold zcp; split
    ·exact h2
    ·rename_i hc
     split
     ·intro q hq
      rcases zcX hq with rfl | hq
      ·rcases znE p.Source trust 0 with h | h
       ·exfalso; exact hc (.inr (by rw [h]; decide))
       ·dsimp only; omega
      ·exact h2 q hq
     ·exact h2
theorem zhr (l : List Play) (trust : List Str) (n : Int) : ANodup (zdk l trust n) := (zlt l [] ANodup.nil (fun q h => by cases h)).1
theorem zo6 {l : List Play} {trust : List Str} {n : Int} {q : Str × Int} (h : q ∈ zdk l trust n) : 0 ≤ q.2 ∧ q.2 < trust.length := (zlt l [] ANodup.nil (fun q h => by cases h)).2 q h
abbrev zkn (trust : List Str) (E : List (Str × Int)) : List (Str × Str) := E.map fun q => (q.1, trust.getD q.2.toNat [])
theorem zqA {trust : List Str} {L E : List (Str × Int)} {vis : List Nat} (h : VisOk L vis E) (hn : ANodup L) {j : Nat} {q : Str × Int} (hj : L[j]? = some q) (hv : j ∉ vis) : zai q.1 (trust.getD q.2.toNat []) (zkn trust E) = zkn trust (E ++ [q]) := by
 rw [zj6]
 ·simp
 ·have := zk2 (fun k : Int => trust.getD k.toNat []) q.1 E
  rw [this, h.fresh hn hj hv]; rfl
theorem zrz {l : List Play} {trust : List Str} {n : Int} {E : List (Str × Int)} (hp : E.Perm (zdk l trust n)) (m : Str) : alk m (zkn trust E) = zje l trust n m := by
 have := zk2 (fun k : Int => trust.getD k.toNat []) m E
 rw [this, zqK hp (zhr _ _ _)]; rfl
theorem zpb {l : List Play} {trust : List Str} {n : Int} {E : List (Str × Int)} (hp : E.Perm (zdk l trust n)) : ANodup (zkn trust E) :=
 ANodup.map (fun k : Int => trust.getD k.toNat []) ((zhr _ _ _).perm hp)
/-! groups of statistics -/
structure GOk (E : List (Of2 × Int)) (G : Grp StatS) : Prop where
 nd : ANodup G
 raw : ∀ s, gL s G = zbe E s
theorem GOk.nil : GOk [] [] := ⟨ANodup.nil, fun s => rfl⟩
theorem zhG (E : List (Of2 × Int)) (q : Of2 × Int) (s : Str) : zbe (E ++ [q]) s = zbe E s ++ if q.1.1 = s ∧ q.2 ≠ 0 then [⟨q.1.2, q.2⟩] else [] := by
 unfold zbe
 rw [List.filter_append, List.map_append, List.filter_cons]
 by_cases h : q.1.1 = s ∧ q.2 ≠ 0
 ·rw [if_pos h, if_pos (by simpa using h)]; rfl
 ·rw [if_neg h, if_neg (by simpa using h)]; rfl
theorem GOk.skip {E : List (Of2 × Int)} {G : Grp StatS} (h : GOk E G) {q : Of2 × Int} (hq : q.2 = 0) : GOk (E ++ [q]) G :=
 ⟨h.nd, fun s => by rw [zhG, if_neg (by simp [hq]), List.append_nil, h.raw]⟩
theorem zs3 (s t : Str) (v : Value) (l : List StatS) (G : Grp StatS) : gL t (zai s (v, l) G) = if t = s then l else gL t G := by
 unfold gL; rw [zlo]; split <;> rfl
theorem GOk.put {E : List (Of2 × Int)} {G : Grp StatS} (h : GOk E G) {q : Of2 × Int} (hq : ¬ q.2 = 0) (v : Value) : GOk (E ++ [q]) (zai q.1.1 (v, gL q.1.1 G ++ [⟨q.1.2, q.2⟩]) G) := by
 refine ⟨h.nd.put, fun s => ?_⟩
 rw [zs3, zhG]
 by_cases hs : s = q.1.1
 ·rw [if_pos hs, if_pos ⟨hs.symm, hq⟩, hs, h.raw]
 ·rw [if_neg hs, if_neg (fun e => hs e.1.symm), List.append_nil, h.raw]
theorem zjE (E : List (Of2 × Int)) (s : Str) : (zbe E s).length ≤ E.length := by
 unfold zbe; rw [List.length_map]; exact List.length_filter_le _ _
theorem zhD {E c : List (Of2 × Int)} (h : E.Perm c) (s : Str) : (zbe E s).Perm (zbe c s) := (h.filter _).map _
theorem zpM {c : List (Of2 × Int)} (h : ANodup c) (s : Str) {x y : StatS} (hx : x ∈ zbe c s) (hy : y ∈ zbe c s) (e : x.Name = y.Name) : x = y := by
 unfold zbe at hx hy
 obtain ⟨p, hp, rfl⟩ := List.mem_map.1 hx
 obtain ⟨p', hp', rfl⟩ := List.mem_map.1 hy
 have h1 := List.mem_filter.1 hp
 have h2 := List.mem_filter.1 hp'
 have k1 : p.1.1 = s := by have := h1.2; simp only [Bool.and_eq_true, beq_iff_eq] at this; exact this.1
 have k2 : p'.1.1 = s := by have := h2.2; simp only [Bool.and_eq_true, beq_iff_eq] at this; exact this.1
 have k3 : p.1 = p'.1 := Prod.ext (k1.trans k2.symm) e
 have a1 := (zgS h (x := p.1) (v := p.2)).1 h1.1
 have a2 := (zgS h (x := p'.1) (v := p'.2)).1 h2.1
 rw [← k3, a1] at a2
 have k4 : p.2 = p'.2 := Option.some.inj a2
 have k5 : p.1.2 = p'.1.2 := e
 rw [k4, k5]
theorem zmP {E c : List (Of2 × Int)} (hE : E.Perm c) (hn : ANodup c) {G : Grp StatS} (hG : GOk E G) {s : Str} {l' : List StatS} (hp : l'.Perm (gL s G)) (hw : l'.Pairwise fun a b => ¬ zk6 b a < 0) : l' = zeM c s := by
 unfold zeM
 rw [hG.raw] at hp
 exact zku znn (fun x y hx hy e => zpM hn s hx hy (zcc.1 e)) (hp.trans (zhD hE s)) hw
theorem zne {E c : List (Of2 × Int)} (hE : E.Perm c) {G : Grp StatS} (hG : GOk E G) (s : Str) : (gL s G).length = (zbe c s).length := by
 rw [hG.raw]; exact (zhD hE s).length_eq
abbrev zev (G : Grp StatS) (N : List Str) : Grp StatS := G.filter fun q => !(N.contains q.1)
theorem zq7 (G : Grp StatS) : zev G [] = G := by unfold zev; rw [List.filter_eq_self]; simp
theorem zqU {G : Grp StatS} {N : List Str} {s : Str} (h : s ∉ N) : alk s (zev G N) = alk s G := by
 have := zkR (s := s) (p := fun k => !(N.contains k)) (G := G)
 unfold zev
 rw [this, if_pos (by simpa using h)]
theorem zp0 (G : Grp StatS) (N : List Str) (s : Str) : (zev G N).filter (fun q => decide (q.1 ≠ s)) = zev G (N ++ [s]) := by
 unfold zev
 rw [List.filter_filter]
 refine List.filter_congr fun q _ => ?_
 by_cases h1 : q.1 ∈ N <;> by_cases h2 : q.1 = s <;> simp [h1, h2]
theorem zoU {G : Grp StatS} {N : List Str} (h : ANodup G) : ANodup (zev G N) := by
 unfold ANodup at *
 exact h.sublist ((List.filter_sublist).map _)
theorem zph {l : List Str} (hn : l.Nodup) {k : Nat} {s : Str} (h : l[k]? = some s) : s ∉ l.take k := by
 intro hm
 obtain ⟨j, hj⟩ := List.getElem?_of_mem hm
 have hjk : j < k := by have := zC hj; simp at this; omega
 rw [List.getElem?_take_of_lt hjk] at hj
 have := znf hn hj h
 omega
theorem zhc (l : List Str) : (zar l).Perm l := List.mergeSort_perm _ _
theorem zpt {c : List (Of2 × Int)} {S : List Str} {q : Of2 × Int} (hq : q ∈ c) (ho : out q.2 (-100000) 100000 = true) : zfn c S = true := by
 unfold zfn; rw [Bool.or_eq_true]; left; rw [List.any_eq_true]; exact ⟨q, hq, ho⟩
theorem zpj {c : List (Of2 × Int)} {S : List Str} {s : Str} (hs : s ∈ S) (ho : 40 < (zbe c s).length) : zfn c S = true := by
 unfold zfn; rw [Bool.or_eq_true]; right; rw [List.any_eq_true]; exact ⟨s, hs, by simpa using ho⟩
theorem zpS {c : List (Of2 × Int)} {S : List Str} (h1 : ∀ q ∈ c, out q.2 (-100000) 100000 = false) (h2 : ∀ s ∈ S, ¬ 40 < (zbe c s).length) : zfn c S = false := by
 unfold zfn; rw [Bool.or_eq_false_iff]
 constructor
 ·rw [List.any_eq_false]; intro q hq; rw [h1 q hq]; simp
 ·rw [List.any_eq_false]; intro s hs; simpa using h2 s hs
/-! lines -/
theorem zjI {s t : Str} {S : List Str} : t ∈ zaY s S ↔ t = s ∨ t ∈ S := by
 unfold zaY
 by_cases h : S.contains s = true
 ·rw [if_pos h]
  have : s ∈ S := by simpa using h
  constructor
  ·exact .inr
  ·rintro (rfl | h)
   ·exact this
   ·exact h
 ·rw [if_neg h]; simp; exact Or.comm
theorem zg6 {s : Str} {S : List Str} (h : S.Nodup) : (zaY s S).Nodup := by
 unfold zaY
 by_cases hc : S.contains s = true
 ·rw [if_pos hc]; exact h
 ·rw [if_neg hc]
  exact List.nodup_append.2 ⟨h, by simp, fun a ha b hb => by simp at hb; subst hb; intro e; subst e; simp at hc; exact hc ha⟩
theorem zr6 (s : Str) (S : List Str) : (zaY s S).length ≤ S.length + 1 := by
 unfold zaY; split
 ·omega
 ·simp
structure LnOk (q : LnS) (n : Nat) : Prop where
 c : ANodup q.c
 S : q.S.Nodup
 k : ∀ s ∈ q.S, s.length ≤ 40
 cl : q.c.length ≤ n
 Sl : q.S.length ≤ n
 bd : ∀ e ∈ q.c, -(100000 * (n : Int)) ≤ e.2 ∧ e.2 ≤ 100000 * (n : Int)
theorem LnOk.val {q : LnS} {n : Nat} (h : LnOk q n) (s : Of2) : -(100000 * (n : Int)) ≤ (alk s q.c).getD 0 ∧ (alk s q.c).getD 0 ≤ 100000 * (n : Int) := by
 cases hq : alk s q.c with
 | none => simp; omega
 | some v => exact h.bd _ (zc3 hq)
theorem LnOk.put {q : LnS} {n : Nat} (h : LnOk q n) {p : Play} (hp : playFault p = 0) : LnOk (zrQ q p) (n + 1) := by
 obtain ⟨_, _, _, _, ⟨_, k2, _⟩, hb, _⟩ := zil hp
 have hv := h.val (p.Player, p.Stat)
 refine ⟨h.c.put, zg6 h.S, fun s hs => ?_, Nat.le_trans (zr3 _ _ _) (by have := h.cl; omega), Nat.le_trans (zr6 _ _) (by have := h.Sl; omega), fun e he => ?_⟩
 ·rcases zjI.1 hs with rfl | hs
  ·exact zsj k2
  ·exact h.k s hs
 ·rcases zcX he with rfl | he
  ·dsimp only; omega
  ·have := h.bd e he; omega
theorem LnOk.up {q : LnS} {n : Nat} (h : LnOk q n) : LnOk q (n + 1) :=
 ⟨h.c, h.S, h.k, by have := h.cl; omega, by have := h.Sl; omega, fun e he => by have := h.bd e he; omega⟩
theorem zor {l : List Play} {trust : List Str} {week n : Int} : ∀ (m : List Play) (q : LnS) (i : Nat), LnOk q i → (∀ x ∈ m, playFault x = 0) → LnOk (m.foldl (zfL l trust week n) q) (i + m.length)
 | [], q, i, h, _ => h
 | x :: m, q, i, h, hm => by
   have h1 : LnOk (zfL l trust week n q x) (i + 1) := by
    unfold zfL; split
    ·exact h.put (hm x List.mem_cons_self)
    ·exact h.up
   have := zor (l := l) (trust := trust) (week := week) (n := n) m _ (i + 1) h1 fun y hy => hm y (List.mem_cons_of_mem _ hy)
   rw [List.foldl_cons, List.length_cons, show i + (m.length + 1) = i + 1 + m.length by omega]
   exact this
theorem zrI {l m : List Play} {trust : List Str} {week n : Int} (hm : ∀ x ∈ m, playFault x = 0) : LnOk (zdr l trust week n m) m.length := by
 have := zor (l := l) (trust := trust) (week := week) (n := n) m ⟨[], []⟩ 0 ⟨ANodup.nil, List.nodup_nil, (fun s h => by cases h), Nat.le_refl _, Nat.le_refl _, fun e h => by cases h⟩ hm
 rw [Nat.zero_add] at this; exact this
theorem zqV {l : List Play} {O : List (Str × Str)} {trust : List Str} {week n : Int} {x : Play} (hO : ∀ m, alk m O = zje l trust n m)
 (h : (((n < x.At ∨ ¬ x.Week = week) ∨ 0 < x.Undo) ∨ (alk (x.Source, x.No) (zhp l n)).getD false = true) ∨ ¬ (alk x.Match O).getD [] = x.Source) : ziR l trust week n x = false := by
 rw [hO] at h
 simp only [ziR, znK, Bool.not_eq_false', Bool.or_eq_true, decide_eq_true_eq, bne_iff_ne, ne_eq]
 exact h
theorem zq4 {l : List Play} {O : List (Str × Str)} {trust : List Str} {week n : Int} {x : Play} (hO : ∀ m, alk m O = zje l trust n m)
 (h : (((x.At ≤ n ∧ x.Week = week) ∧ x.Undo ≤ 0) ∧ (alk (x.Source, x.No) (zhp l n)).getD false = false) ∧ (alk x.Match O).getD [] = x.Source) : ziR l trust week n x = true := by
 rw [hO] at h
 obtain ⟨⟨⟨⟨h1, h2⟩, h3⟩, h4⟩, h5⟩ := h
 simp only [ziR, znK, h4, h5, h2, Bool.not_eq_true', Bool.or_eq_false_iff, decide_eq_false_iff_not, bne_self_eq_false, and_true]
 omega
def zgY (l : List Play) (t : List Str) (week n : Int) : Int := if orI [zb1 l, zdW t] != 0 then orI [zb1 l, zdW t] else if !(zf6 week) || !(zaL n) then 1 else znx l t week n
def zgI (l : List Play) (t : List Str) (week n : Int) : List LineS := if orI [zb1 l, zdW t] != 0 then [] else if !(zf6 week) || !(zaL n) then [] else znR l t week n
theorem okPT {l : List Play} {t : List Str} (h : orI [zb1 l, zdW t] = 0) : zb1 l = 0 ∧ zdW t = 0 := by
 rw [zqP] at h; split at h
 ·contradiction
 ·rename_i h1; exact ⟨by simpa using h1, h⟩
end
end Go.HL
section
namespace Go.HL
theorem zno (a b : List Asset) : zcA (a ++ b) = zcA a + zcA b := by simp [zcA]
theorem zls : ∀ {L : List Asset}, (∀ x ∈ L, -1000000 ≤ x.Value ∧ x.Value ≤ 1000000) → -1000000 * (L.length : Int) ≤ zcA L ∧ zcA L ≤ 1000000 * (L.length : Int)
 | [], _ => by simp [zcA]
 | x :: L, h => by
   have ih := zls (L := L) fun y hy => h y (List.mem_cons_of_mem _ hy)
   have hx := h x (by simp)
   have e : zcA (x :: L) = x.Value + zcA L := by simp [zcA]
   rw [e, List.length_cons]; omega
theorem zkg {l : List Asset} {pos : Str} {m : Int} {y : Asset} (h : y ∈ zdF (ofP l pos) m) : y ∈ l := by
 unfold zdF at h
 have h1 := List.mem_of_mem_take (List.mem_filter.1 h).1
 unfold ofP zex at h1
 exact (List.mem_filter.1 ((zgf byValue).1 h1)).1
theorem zoM (o : List Asset) (m : Int) : (zdF o m).length ≤ o.length := by
 unfold zdF
 refine Nat.le_trans (List.length_filter_le _ _) ?_
 simp; omega
theorem zhI (f : Str → List Asset) {p : List Place} {i : Nat} {x : Place} (h : p[i]? = some x) : zav f (p.take (i + 1)) = zav f (p.take i) ++ zdF (f x.Position) x.Many := by
 rw [zae h]; simp [zav]
theorem zh0 {f : Str → List Asset} {n : Nat} (hf : ∀ s, (f s).length ≤ n) : ∀ p : List Place, (zav f p).length ≤ n * p.length
 | [] => by simp [zav]
 | x :: p => by
   have ih := zh0 hf p
   have h1 := zoM (f x.Position) x.Many
   have h2 := hf x.Position
   have e : zav f (x :: p) = zdF (f x.Position) x.Many ++ zav f p := by simp [zav]
   rw [e, List.length_append, List.length_cons, Nat.mul_succ]; omega
theorem znl {f : Str → List Asset} {l : List Asset} (hf : ∀ s m y, y ∈ zdF (f s) m → y ∈ l) {p : List Place} {y : Asset} (h : y ∈ zav f p) : y ∈ l := by
 unfold zav at h
 obtain ⟨x, _, hx⟩ := List.mem_flatMap.1 h
 exact hf _ _ y hx
/-- What a prefix of the places brings stays small. -/
theorem znL {f : Str → List Asset} {l : List Asset} {p : List Place} {i : Nat} (hf : ∀ s m y, y ∈ zdF (f s) m → y ∈ l) (hn : ∀ s, (f s).length ≤ 12) (hp : p.length ≤ 10) (hv : ∀ x ∈ l, -1000000 ≤ x.Value ∧ x.Value ≤ 1000000) :
 (zav f (p.take i)).length ≤ 120 ∧ -120000000 ≤ zcA (zav f (p.take i)) ∧ zcA (zav f (p.take i)) ≤ 120000000 := by
 have h1 := zh0 hn (p.take i)
 have h2 : (p.take i).length ≤ 10 := by simp; omega
 have h3 := zls (L := zav f (p.take i)) fun y hy => hv y (znl hf hy)
 have h4 : (zav f (p.take i)).length ≤ 120 := by omega
 omega
theorem zsN {C l : List Asset} {k : Nat} (hC : ∀ y ∈ C, y ∈ l) (hn : C.length ≤ 12) (hv : ∀ x ∈ l, -1000000 ≤ x.Value ∧ x.Value ≤ 1000000) :
 ((C.take k).filter (fun y => decide (0 < y.Value))).length ≤ 12 ∧ -12000000 ≤ zcA ((C.take k).filter (fun y => decide (0 < y.Value))) ∧ zcA ((C.take k).filter (fun y => decide (0 < y.Value))) ≤ 12000000 := by
 have h1 := List.length_filter_le (fun y : Asset => decide (0 < y.Value)) (C.take k)
 have h2 : (C.take k).length ≤ 12 := by simp; omega
 have h3 := zls (L := (C.take k).filter (fun y => decide (0 < y.Value))) fun y hy => hv y (hC y (List.mem_of_mem_take (List.mem_filter.1 hy).1))
 omega
theorem zhj {C : List Asset} {k : Nat} {y : Asset} (h : C[k]? = some y) : (C.take (k + 1)).filter (fun y => decide (0 < y.Value)) = (C.take k).filter (fun y => decide (0 < y.Value)) ++ if 0 < y.Value then [y] else [] := by
 rw [zae h, List.filter_append]
 by_cases hy : 0 < y.Value <;> simp [hy]
theorem zly {o : List Asset} {m : Int} {N : Nat} (hN : (if (o.length : Int) < m then (o.length : Int) else m) = (N : Int)) : zdF o m = ((o.take N).drop 0).filter (fun y => decide (0 < y.Value)) := by
 unfold zdF
 have : (min m (o.length : Int)).toNat = N := by split at hN <;> omega
 rw [this, List.drop_zero]
def zgm (l : List Asset) (p : List Place) : Int := orI [zbY l, zbX p]
theorem zr8 {l : List Asset} {p : List Place} (h : zgm l p = 0) : zbY l = 0 ∧ zbX p = 0 := znB h
def zoS (l : List Asset) (p : List Place) : Int := zcA (zav (ofP l) p)
end Go.HL
namespace Go.HL
end Go.HL
namespace Go.HL
end Go.HL
end
namespace Go.HL
section
/-- The state of a loop that draws: the list that grows, how many were drawn. -/
structure GL (α : Type) where
 u : Value
 out : List α
 a : Nat
structure GLok {α : Type} (P : α → Prop) (n m : Nat) (q : GL α) : Prop where
 len : q.out.length ≤ n
 all : ∀ x ∈ q.out, P x
 a : q.a ≤ m
section
variable {α : Type} {P : α → Prop}
theorem GLok.add {n m m' : Nat} {u u' : Value} {out : List α} {a1 a2 : Nat} {x : α} (h : GLok P n m ⟨u, out, a1⟩) (hx : P x) (ha : a2 ≤ m') : GLok P (n + 1) m' ⟨u', out ++ [x], a2⟩ :=
 ⟨by have := h.len; simp at *; omega, fun y hy => by
  rcases List.mem_append.1 hy with hy | hy
  ·exact h.all y hy
  ·simp at hy; subst hy; exact hx, ha⟩
theorem GLok.same {n m m' : Nat} {u : Value} {out : List α} {a1 a2 : Nat} (h : GLok P n m ⟨u, out, a1⟩) (ha : a2 ≤ m') : GLok P (n + 1) m' ⟨u, out, a2⟩ :=
 ⟨by have := h.len; dsimp only at *; omega, h.all, ha⟩
end
def ze7 : Asset := ⟨[97], [103, 107], 5⟩
def zgW : Place := ⟨[103, 107], 1⟩
theorem zsH : zgm [ze7] [zgW] = 0 := by kernel_rfl
theorem zmX : zav (ofP [ze7]) [zgW] = [ze7] := by kernel_rfl
theorem zsp : zoS [ze7] [zgW] = 5 := by unfold zoS; rw [zmX]; rfl
theorem zqr : zkD (zav (ofP [ze7]) [zgW]) = [[97]] := by rw [zmX]; simp [zkD, zar, ze7]
end
section
structure PairS where
 Name : Str
 Val : Str
end
section

end
section
open Op (bytesLess)
end
section

end
section

end
section

end
section

end
section

end
section
def zie {α : Type} (e : α → HVal) (a b : α) : Bool := ze3 (zl (e a)) (zl (e b))
end
section

end
section
structure Hall where
 Teams : List Str
 Players : List Str
 Budget : Int
 Places : Int
structure Sale where
 Player : Str
 Team : Str
 Price : Int
def zg2 : List Sale → Str → Int
 | [], _ => 0
 | x :: r, t => (if x.Team = t then x.Price else 0) + zg2 r t
def many : List Sale → Str → Int
 | [], _ => 0
 | x :: r, t => (if x.Team = t then 1 else 0) + many r t
theorem zoP (l : List Sale) (x : Sale) (t : Str) : zg2 (l ++ [x]) t = zg2 l t + (if x.Team = t then x.Price else 0) := by
 induction l with
 | nil => simp [zg2]
 | cons y r ih => simp only [List.cons_append, zg2, ih]; omega
theorem zpT (l : List Sale) (x : Sale) (t : Str) : many (l ++ [x]) t = many l t + (if x.Team = t then 1 else 0) := by
 induction l with
 | nil => simp [many]
 | cons y r ih => simp only [List.cons_append, many, ih]; omega
abbrev zcs := List (Str × HVal)
def lkI (L : zcs) (t : Str) : HVal := match zaa t L with | some p => p.2 | none => .int .i64 0
theorem zfm {s t : Str} {v : HVal} : ∀ {L : zcs}, zaa s L = none → zaa t (L ++ [(s, v)]) = if t = s then some (L.length, v) else zaa t L
 | [], _ => by by_cases h : t = s <;> simp [zaa, h]
 | (k, h) :: r, hn => by
   simp only [zaa] at hn
   by_cases hk : s = k
   ·rw [if_pos hk] at hn; cases hn
   ·rw [if_neg hk] at hn
    have hr : zaa s r = none := by cases hq : zaa s r with
     | none => rfl
     | some p => rw [hq] at hn; cases hn
    have ih := zfm (t := t) (v := v) hr
    simp only [List.cons_append, zaa]
    by_cases ht : t = k
    ·have : ¬ t = s := fun e => hk (e ▸ ht)
     rw [if_pos ht, if_neg this, if_pos ht]
    ·rw [if_neg ht, ih]
     by_cases hs : t = s
     ·rw [if_pos hs, if_pos hs]; simp
     ·rw [if_neg hs, if_neg hs, if_neg ht]
theorem zlL {s t : Str} {v : HVal} : ∀ {L : zcs} {j : Nat} {h : HVal}, zaa s L = some (j, h) → (zaa t (L.set j (s, v))) = if t = s then some (j, v) else zaa t L
 | [], j, h, hh => by simp [zaa] at hh
 | (k, x) :: r, j, h, hh => by
   simp only [zaa] at hh
   by_cases hk : s = k
   ·rw [if_pos hk] at hh
    simp only [Option.some.injEq, Prod.mk.injEq] at hh
    obtain ⟨rfl, rfl⟩ := hh
    subst hk
    simp only [List.set_cons_zero, zaa]
    by_cases ht : t = s
    ·rw [if_pos ht, if_pos ht]
    ·rw [if_neg ht, if_neg ht, if_neg ht]
   ·rw [if_neg hk] at hh
    cases hq : zaa s r with
    | none => rw [hq] at hh; cases hh
    | some p =>
      rw [hq] at hh
      simp only [Option.map_some, Option.some.injEq, Prod.mk.injEq] at hh
      obtain ⟨rfl, rfl⟩ := hh
      have ih := zlL (t := t) (v := v) (L := r) (j := p.1) (h := p.2) (by rw [hq])
      simp only [List.set_cons_succ, zaa]
      by_cases ht : t = k
      ·have : ¬ t = s := fun e => hk (e ▸ ht)
       rw [if_pos ht, if_neg this, if_pos ht]
      ·rw [if_neg ht, ih, if_neg ht]
       by_cases hs : t = s
       ·rw [if_pos hs, if_pos hs]; rfl
       ·rw [if_neg hs, if_neg hs]
theorem zl0 (s t : Str) (v : HVal) (L : zcs) : (zaa t (zcS s v L)).map (·.2) = if t = s then some v else (zaa t L).map (·.2) := by
 unfold zcS
 cases hq : zaa s L with
 | none => simp only []; rw [zfm hq]; split <;> rfl
 | some p => obtain ⟨j, h⟩ := p; simp only []; rw [zlL hq]; split <;> rfl
theorem zqz (L : zcs) (t : Str) : lkI L t = ((zaa t L).map (·.2)).getD (.int .i64 0) := by
 unfold lkI; cases zaa t L <;> rfl
theorem zlf (s t : Str) (v : HVal) (L : zcs) : lkI (zcS s v L) t = if t = s then v else lkI L t := by
 rw [zqz, zl0, zqz]; split <;> rfl
/-- An auction after sales. -/
structure AucOk (h : Hall) (l : List Sale) (S : List Str) (L H : zcs) : Prop where
 sold : ∀ s, S.contains s = l.any (fun y => y.Player == s)
 left : ∀ t, h.Teams.contains t = true → lkI L t = .int .i64 (h.Budget - zg2 l t)
 got : ∀ t, lkI H t = .int .i64 (many l t)
theorem zd4 (s t : Str) (l : List Str) : (zaY s l).contains t = (l.contains t || s == t) := by
 unfold zaY
 by_cases hc : l.contains s = true
 ·rw [if_pos hc]
  by_cases h : s = t
  ·subst h; rw [hc]; simp
  ·have : (s == t) = false := by simpa using h
   simp [this]
 ·rw [if_neg hc, List.contains_eq_any_beq, List.any_append, ← List.contains_eq_any_beq]
  congr 1
  simp only [List.any_cons, List.any_nil, Bool.or_false]
  rw [Bool.eq_iff_iff, beq_iff_eq, beq_iff_eq]; exact eq_comm
theorem AucOk.add {h : Hall} {l : List Sale} {S : List Str} {L H : zcs} (ok : AucOk h l S L H) (x : Sale) (hx : h.Teams.contains x.Team = true) :
 AucOk h (l ++ [x]) (zaY x.Player S) (zcS x.Team (.int .i64 (h.Budget - zg2 l x.Team - x.Price)) L) (zcS x.Team (.int .i64 (many l x.Team + 1)) H) where
 sold s := by rw [zd4, ok.sold, List.any_append]; simp
 left t ht := by
  rw [zlf, zoP]
  by_cases e : t = x.Team
  ·subst e; rw [if_pos rfl, if_pos rfl]; congr 1; omega
  ·rw [if_neg e, if_neg (fun q => e q.symm), ok.left t ht]; congr 1; omega
 got t := by
  rw [zlf, zpT]
  by_cases e : t = x.Team
  ·subst e; rw [if_pos rfl, if_pos rfl]
  ·rw [if_neg e, if_neg (fun q => e q.symm), ok.got t]; congr 1; omega
end
section
/-! numbers in decimal -/
def dig (c : UInt8) : Bool := decide (48 ≤ c.toNat) && decide (c.toNat ≤ 57)
def zeN (s : Str) : Str := match s with | 45 :: r => r | _ => s
def numC (s : Str) (n : Int) : Bool := decide ((zeN s = [] ∨ n < ((zeN s).length : Int)) ∨ ((((zeN s).head?).getD 0).toNat : Int) = 48 ∧ ((1 : Int) < ((zeN s).length : Int) ∨ (zeN s).length < s.length))
def zpy (s : Str) (n : Int) : Bool := !(numC s n) && (zeN s).all dig
def numV (s : Str) : Int := (Lib.atoi s).getD 0
def zpD (s : Str) (n : Int) : Int := if zpy s n then numV s else 0
def zo3 (h : Hall) (l : List PairS) : Nat → List PairS → Int
 | _, [] => 0
 | k, x :: r => if !(h.Teams.contains x.Name) then 8 else if (l.take k).any (fun y => y.Name == x.Name) then 6 else if !(zpy x.Val 9) then 9 else zo3 h l (k + 1) r
/-- The map of limits. -/
def LimOk (l : List PairS) (L : zcs) : Prop := ∀ t, (zaa t L).map (·.2) = (l.find? (fun p => p.Name == t)).map (fun p => .int .i64 (zpD p.Val 9))
theorem LimOk.add {l : List PairS} {L : zcs} (ok : LimOk l L) (x : PairS) (hx : l.any (fun y => y.Name == x.Name) = false) : LimOk (l ++ [x]) (zcS x.Name (.int .i64 (zpD x.Val 9)) L) := fun t => by
 rw [zl0, List.find?_append, ok t]
 by_cases e : t = x.Name
 ·subst e
  rw [if_pos rfl]
  have : l.find? (fun p => p.Name == x.Name) = none := by
   rw [List.find?_eq_none]; intro y hy
   have := List.any_eq_false.1 hx y hy
   simpa using this
  rw [this]; simp
 ·rw [if_neg e]
  have hn : (x.Name == t) = false := by simpa using fun q => e q.symm
  cases l.find? (fun p => p.Name == t) with
  | none => simp [List.find?, hn]
  | some p => simp
structure Top where
 team : Str
 first : Int
 second : Int
def Top.step (q : Top) (t : Str) (n : Int) : Top := if q.first < n then ⟨t, n, q.first⟩ else ⟨q.team, q.first, max q.second n⟩
end
section
theorem zqd {h : Hall} {l : List PairS} : ∀ (r : List PairS) (k : Nat), zo3 h l k r = 0 → ∀ x ∈ r, zpy x.Val 9 = true
 | [], _, _, x, hx => by simp at hx
 | y :: r, k, hg, x, hx => by
   simp only [zo3] at hg
   split at hg
   ·omega
   ·split at hg
    ·omega
    ·split at hg
     ·omega
     ·rename_i hn
      rcases List.mem_cons.1 hx with rfl | hx
      ·simpa using hn
      ·exact zqd r (k + 1) hg x hx
theorem zjr {l : List Str} : ∀ (r : List Str) (k : Nat), zbC l k r = 0 → ∀ s ∈ r, key s = true
 | [], _, _, s, hs => by simp at hs
 | x :: r, k, hg, s, hs => by
   simp only [zbC] at hg
   split at hg
   ·omega
   ·rename_i hk
    split at hg
    ·omega
    ·rcases List.mem_cons.1 hs with rfl | hs
     ·simpa using hk
     ·exact zjr r (k + 1) hg s hs
section
variable {h : Hall} {l : List Sale} {x : Sale} (h6 : x.Player ∈ h.Players ∧ x.Team ∈ h.Teams) (h8 : ∀ y ∈ l, ¬ y.Player = x.Player)
include h6 h8
end
end
section

end
section
theorem Ghost.clear [Tracks] {e : Env} : ∀ {M : List MObj}, Ghost e M e []
 | [] => Ghost.perm (List.Perm.refl _)
 | _ :: _ => Ghost.trans Ghost.drop Ghost.clear
theorem Ghost.last [Tracks] {e : Env} {m : MObj} : ∀ {R : List MObj}, Ghost e (R ++ [m]) e [m]
 | [] => Ghost.perm (List.Perm.refl _)
 | x :: R => Ghost.trans (M' := R ++ [m]) Ghost.drop Ghost.last
theorem Ghost.only [Tracks] {e : Env} {M : List MObj} {i : Nat} {m : MObj} (h : M[i]? = some m) : Ghost e M e [m] :=
 Ghost.trans (Ghost.perm ((zfx h).trans (List.perm_append_comm (l₁ := [m]) (l₂ := M.eraseIdx i)))) Ghost.last
end
section
theorem Ghost.suffix [Tracks] {e : Env} {M : List MObj} : ∀ {R : List MObj}, Ghost e (R ++ M) e M
 | [] => Ghost.perm (List.Perm.refl _)
 | x :: R => Ghost.trans (M' := R ++ M) Ghost.drop Ghost.suffix
section
variable {P : Program} {e : Env} {dst : Option Tmp} {ty : TypeId} {pos : String} {af : Array Edge} {g : Option (Nat × Bool)} {M : List MObj} {K : HVal → List MObj → Prop}
theorem zod [Tracks] {x y : Operand} {t kt et : TypeId} {size bytes s2 b2 s3 b3 : Nat} {zero z2 : Value} {d : TD} {i b : Nat} {ls : zcs} {s : Str} {h : HVal}
 (hf : Fits P t (.map kt et) size bytes zero) (hkt : Fits P kt .str s2 b2 z2) (het : Fits P et d s3 b3 (.int .i64 0)) (hx : zn e x = some (.raw (.map (some b)))) (hy : zn e y = some (.str s)) (hm : M[i]? = some (.map b (sk ls)))
 (hv : lkI ls s = h) (hk : K h M) : EOp P e M ⟨dst, .lookup t x y false, ty, pos, af, g⟩ K := by
 refine zhe hf hkt het hx hy hm ?_
 show K (lkI ls s) M
 rw [hv]; exact hk
end
end
end Go.HL
namespace Go.Proofs.YtkcnenknbbcoiaaGreatDoor
set_option maxRecDepth 100000
set_option linter.unusedVariables false
set_option linter.unusedSimpArgs false
section
open Go.HL
theorem zmt [Tracks] : KeyOk Tryz.prog 170 zhh := ziA (cs := fun x : Num => zl (zhh x)) zf7 ztF (fun x y => ⟨rfl, ⟨_, _, _, _, ty9, rfl⟩, ⟨rfl, ⟨_, _, _, _, ty3, rfl⟩, trivial⟩⟩)
 (fun x y => by obtain ⟨a, b⟩ := x; obtain ⟨c, d⟩ := y; show (_ && (_ && true)) = _; rw [Bool.eq_iff_iff]; simp [eqH, Prod.mk.injEq]) (fun x => rfl)

theorem zo5 [Tracks] : KeyOk Tryz.prog 172 eOf := ziA (cs := fun x : Of2 => zl (eOf x)) zg5 zs7 (fun x y => ⟨rfl, ⟨_, _, _, _, ty9, rfl⟩, ⟨rfl, ⟨_, _, _, _, ty9, rfl⟩, trivial⟩⟩)
 (fun x y => by obtain ⟨a, b⟩ := x; obtain ⟨c, d⟩ := y; show (_ && (_ && true)) = _; rw [Bool.eq_iff_iff]; simp [eqH, Prod.mk.injEq]) (fun x => rfl)

/-- benchwarmer/base.Week -/
theorem zju [Tracks] {n : Int}  : ConP Tryz.prog 54 [.int .i64 n] (.bool (zf6 n)) := by
 refine Con.of_body Tryz.func54 rfl Tryz.ntmps54 rfl rfl ?_
 refine za ?_
 refine das rfl ?_
 refine dn ?_
 refine za ?_
 refine dmv rfl ?_
 refine dq (zj zcI rfl (WeakL.refl _) zaC) ?_
 refine dq (zW rfl) ?_
 refine das rfl ?_
 refine dn ?_
 refine zg ?_
 refine zm rfl ?_
 rfl

/-- benchwarmer/play.playFault -/
theorem zj0 [Tracks] {p : Play}  : ConP Tryz.prog 92 [zja p] (.int .i64 (playFault p)) := by
 refine Con.of_body Tryz.func92 rfl Tryz.ntmps92 rfl rfl ?_
 refine za ?_
 refine dq (zam rfl rfl) ?_
 refine das rfl ?_
 refine dn ?_
 refine zf ?_
 refine zk ?_
 refine za ?_
 refine dq (zb zY rfl ty9 (by decide) rfl) ?_
 refine dq (zc ty9 rfl rfl rfl) ?_
 refine dq (zj zeQ rfl (WeakL.refl _) zbk) ?_
 refine dq (zW rfl) ?_
 refine das rfl ?_
 refine dn ?_
 refine ze rfl (fun h1 => ?_) (fun h2 => ?_)
 ·try simp at h1
  refine za ?_
  refine das rfl ?_
  refine dn ?_
  refine zg ?_
  refine zm rfl ?_
  show HVal.int .i64 _ = _
  simp_all [playFault]
 ·try simp at h2
  refine za ?_
  refine dq (zb zY rfl ty3 (by decide) rfl) ?_
  refine dq (zc ty3 rfl rfl rfl) ?_
  refine dq (zj zcI rfl (WeakL.refl _) zaC) ?_
  refine dmv rfl ?_
  refine dg rfl rfl (fun hc => ⟨_, OpenTo.refl _, zb zY rfl ty3 (by decide) rfl⟩) ?_
  refine dg rfl rfl (fun hc => ⟨_, OpenTo.upd (t := 13) rfl (hc) (OpenTo.refl _), zc ty3 rfl rfl rfl⟩) ?_
  refine dg rfl rfl (fun hc => ⟨_, OpenTo.upd (t := 14) rfl (hc) (OpenTo.refl _), zj zpc rfl (WeakL.refl _) zd2⟩) ?_
  refine dg rfl rfl (fun hc => ⟨_, OpenTo.upd (t := 15) rfl (hc) (OpenTo.refl _), zW rfl⟩) ?_
  refine dq (zw rfl (.inl rfl) (.inr ⟨_, rfl, fun h => by simp_all⟩)) ?_
  refine dmv rfl ?_
  refine dg rfl rfl (fun hc => ⟨_, OpenTo.refl _, zb zY rfl ty3 (by decide) rfl⟩) ?_
  refine dg rfl rfl (fun hc => ⟨_, OpenTo.upd (t := 19) rfl (hc) (OpenTo.refl _), zc ty3 rfl rfl rfl⟩) ?_
  refine dg rfl rfl (fun hc => ⟨_, OpenTo.upd (t := 20) rfl (hc) (OpenTo.refl _), zj ca54 rfl (WeakL.refl _) zju⟩) ?_
  refine dg rfl rfl (fun hc => ⟨_, OpenTo.upd (t := 21) rfl (hc) (OpenTo.refl _), zW rfl⟩) ?_
  refine dq (zw rfl (.inl rfl) (.inr ⟨_, rfl, fun h => by simp_all⟩)) ?_
  refine das rfl ?_
  refine dn ?_
  refine ze rfl (fun h3 => ?_) (fun h4 => ?_)
  ·try simp at h3
   refine za ?_
   refine das rfl ?_
   refine dn ?_
   refine zg ?_
   refine zm rfl ?_
   show HVal.int .i64 _ = _
   simp_all [playFault]
  ·try simp at h4
   refine za ?_
   refine dq (zb zY rfl ty9 (by decide) rfl) ?_
   refine dq (zc ty9 rfl rfl rfl) ?_
   refine dq (zj zeQ rfl (WeakL.refl _) zbk) ?_
   refine dq (zW rfl) ?_
   refine dmv rfl ?_
   refine dg rfl rfl (fun hc => ⟨_, OpenTo.refl _, zb zY rfl ty9 (by decide) rfl⟩) ?_
   refine dg rfl rfl (fun hc => ⟨_, OpenTo.upd (t := 30) rfl (hc) (OpenTo.refl _), zc ty9 rfl rfl rfl⟩) ?_
   refine dg rfl rfl (fun hc => ⟨_, OpenTo.upd (t := 31) rfl (hc) (OpenTo.refl _), zj zeQ rfl (WeakL.refl _) zbk⟩) ?_
   refine dg rfl rfl (fun hc => ⟨_, OpenTo.upd (t := 32) rfl (hc) (OpenTo.refl _), zW rfl⟩) ?_
   refine dq (zw rfl (.inl rfl) (.inr ⟨_, rfl, fun h => by simp_all⟩)) ?_
   refine dmv rfl ?_
   refine dg rfl rfl (fun hc => ⟨_, OpenTo.refl _, zb zY rfl ty9 (by decide) rfl⟩) ?_
   refine dg rfl rfl (fun hc => ⟨_, OpenTo.upd (t := 36) rfl (hc) (OpenTo.refl _), zc ty9 rfl rfl rfl⟩) ?_
   refine dg rfl rfl (fun hc => ⟨_, OpenTo.upd (t := 37) rfl (hc) (OpenTo.refl _), zj zeQ rfl (WeakL.refl _) zbk⟩) ?_
   refine dg rfl rfl (fun hc => ⟨_, OpenTo.upd (t := 38) rfl (hc) (OpenTo.refl _), zW rfl⟩) ?_
   refine dq (zw rfl (.inl rfl) (.inr ⟨_, rfl, fun h => by simp_all⟩)) ?_
   refine das rfl ?_
   refine dn ?_
   refine ze rfl (fun h5 => ?_) (fun h6 => ?_)
   ·try simp at h5
    refine za ?_
    refine das rfl ?_
    refine dn ?_
    refine zg ?_
    refine zm rfl ?_
    show HVal.int .i64 _ = _
    simp_all [playFault]
   ·try simp at h6
    refine za ?_
    refine dq (zb zY rfl ty3 (by decide) rfl) ?_
    refine dq (zc ty3 rfl rfl rfl) ?_
    refine dq (zj zcI rfl (WeakL.refl _) zaC) ?_
    refine dmv rfl ?_
    refine dg rfl rfl (fun hc => ⟨_, OpenTo.refl _, zb zY rfl ty3 (by decide) rfl⟩) ?_
    refine dg rfl rfl (fun hc => ⟨_, OpenTo.upd (t := 46) rfl (hc) (OpenTo.refl _), zc ty3 rfl rfl rfl⟩) ?_
    refine dg rfl rfl (fun hc => ⟨_, OpenTo.refl _, zb zY rfl ty3 (by decide) rfl⟩) ?_
    refine dg rfl rfl (fun hc => ⟨_, OpenTo.upd (t := 48) rfl (hc) (OpenTo.refl _), zc ty3 rfl rfl rfl⟩) ?_
    have hN := zdj (n := p.No) (lo := 1) (hi := 3000) (by simp_all)
    refine dg rfl rfl (fun hc => by have hq := hc; (try simp at hq); exact ⟨_, OpenTo.upd (t := 49) rfl (hc) (OpenTo.refl _), zal rfl rfl (by omega) (by omega)⟩) ?_
    refine dg rfl rfl (fun hc => ⟨_, OpenTo.upd (t := 50) rfl (hc) (OpenTo.upd (t := 47) rfl (hc) (OpenTo.refl _)), zj zcI rfl (WeakL.refl _) zaC⟩) ?_
    refine dq (zw rfl (.inl rfl) (.inr ⟨_, rfl, fun h => by simp_all⟩)) ?_
    refine das rfl ?_
    refine dn ?_
    refine ze rfl (fun h7 => ?_) (fun h8 => ?_)
    ·try simp at h7
     refine za ?_
     refine das rfl ?_
     refine dn ?_
     refine zg ?_
     refine zm rfl ?_
     show HVal.int .i64 _ = _
     simp_all [playFault]
    ·try simp at h8
     refine za ?_
     refine dq (zb zY rfl ty3 (by decide) rfl) ?_
     refine dq (zc ty3 rfl rfl rfl) ?_
     refine dq (z6 rfl rfl) ?_
     refine dmv rfl ?_
     refine dg rfl rfl (fun hc => ⟨_, OpenTo.refl _, zb zY rfl ty3 (by decide) rfl⟩) ?_
     refine dg rfl rfl (fun hc => ⟨_, OpenTo.upd (t := 58) rfl (hc) (OpenTo.refl _), zc ty3 rfl rfl rfl⟩) ?_
     refine dg rfl rfl (fun hc => ⟨_, OpenTo.upd (t := 59) rfl (hc) (OpenTo.refl _), zah rfl rfl⟩) ?_
     refine dq (zw rfl (.inr ⟨_, rfl, fun h => by simp_all⟩) (.inl rfl)) ?_
     refine das rfl ?_
     refine dn ?_
     refine ze rfl (fun h9 => ?_) (fun h10 => ?_)
     ·try simp at h9
      refine za ?_
      refine das rfl ?_
      refine dn ?_
      refine zg ?_
      refine zm rfl ?_
      show HVal.int .i64 _ = _
      simp_all [playFault]
     ·try simp at h10
      refine zi ?_
      refine zu ?_
      refine zd ?_
      refine za ?_
      refine das rfl ?_
      refine dn ?_
      refine zg ?_
      refine zm rfl ?_
      show HVal.int .i64 _ = _
      simp_all [playFault]

/-- benchwarmer/play.byNo -/
theorem znU [Tracks] {a b : Play}  : ConP Tryz.prog 93 [zja a, zja b] (.int .i64 (byNo a b)) := by
 refine Con.of_body Tryz.func93 rfl Tryz.ntmps93 rfl rfl ?_
 refine za ?_
 refine dq (zam rfl rfl) ?_
 refine dq (zam rfl rfl) ?_
 refine das rfl ?_
 refine dn ?_
 refine zaF (fun _ => True) [] mixed ?_
 refine ahp 0 rfl rfl (by kernel_rfl) (by kernel_rfl) (zb zY rfl ty9 (by decide) rfl) ?_
 refine ahp 1 rfl rfl (by kernel_rfl) (by kernel_rfl) (zc ty9 rfl rfl rfl) ?_
 refine ahp 2 rfl rfl (by kernel_rfl) (by kernel_rfl) (zb zY rfl ty9 (by decide) rfl) ?_
 refine ahp 3 rfl rfl (by kernel_rfl) (by kernel_rfl) (zc ty9 rfl rfl rfl) ?_
 refine ahp 4 rfl rfl (by kernel_rfl) (by kernel_rfl) (zj zlg rfl (WeakL.refl _) zbE) ?_
 refine ahp 5 rfl rfl (by kernel_rfl) (by kernel_rfl) (zb zY rfl ty3 (by decide) rfl) ?_
 refine ahp 6 rfl rfl (by kernel_rfl) (by kernel_rfl) (zc ty3 rfl rfl rfl) ?_
 refine ahp 7 rfl rfl (by kernel_rfl) (by kernel_rfl) (zb zY rfl ty3 (by decide) rfl) ?_
 refine ahp 8 rfl rfl (by kernel_rfl) (by kernel_rfl) (zc ty3 rfl rfl rfl) ?_
 refine ahp 9 rfl rfl (by kernel_rfl) (by kernel_rfl) (zj zpw rfl (WeakL.refl _) zcv) ?_
 refine ahp 10 rfl rfl (by kernel_rfl) (by kernel_rfl) (zG (hs := [_, _]) zbT ty3 rfl rfl (by decide) (by decide) rfl) ?_
 refine ahp 11 rfl rfl (by kernel_rfl) (by kernel_rfl) (zj zoJ rfl (WeakL.refl _) (zez (l := [_, _]) (by simp))) ?_
 refine ahp 12 rfl rfl (by kernel_rfl) (by kernel_rfl) (zaJ rfl) ?_
 refine ahz (by kernel_rfl) ?_
 refine zg ?_
 refine zm rfl ?_
 rfl

/-- benchwarmer/play.CheckPlays -/
theorem zjj [Tracks] {l : List Play} (hl : l.length ≤ 1000000) : ConP Tryz.prog 52 [zgO l] (.int .i64 (zb1 l)) := by
 refine Con.of_body Tryz.func52 rfl Tryz.ntmps52 rfl rfl ?_
 refine za ?_
 refine das rfl ?_
 refine dn ?_
 refine zf ?_
 refine za ?_
 refine dmv rfl ?_
 refine dq (zv zeP rfl) ?_
 refine dq (z6 rfl rfl) ?_
 refine dn ?_
 refine ze rfl (fun h1 => ?_) (fun h2 => ?_)
 ·try simp at h1
  refine za ?_
  refine das rfl ?_
  refine dn ?_
  refine zg ?_
  refine za2 Ghost.clear rfl ⟨?_, rfl⟩
  show HVal.int .i64 _ = _
  (rw [zb1, if_pos (by omega)]; done)
 ·try simp at h2
  refine zi ?_
  refine zd ?_
  refine za ?_
  refine de rfl (za4 fun m14 => ?_)
  refine de rfl (za4 fun m15 => ?_)
  refine das rfl ?_
  refine das rfl ?_
  refine dn ?_
  refine za ?_
  refine das rfl ?_
  refine dn ?_
  refine zf ?_
  refine za ?_
  refine dmv rfl ?_
  refine dq (zv zeP rfl) ?_
  refine dmv rfl ?_
  refine dn ?_
  refine zk ?_
  refine zab [2, 5, 6, 7, 8, 9, 10, 18, 19, 20, 21, 22, 23, 24, 25, 26, 27, 28, 29, 30, 31, 32, 33, 34, 35, 36, 37, 38, 39, 40, 41, 42, 43, 44, 45, 46, 47, 48, 49, 50, 51, 52, 53, 54, 55, 56, 57, 58, 59, 60, 61, 62] (fun (k : Nat) => [(18, .int .i64 k), (5, .bool (zd0 (l.take k)).c)]) (fun (k : Nat) => [.map m15 (sk (em (.int .i64) (zd0 (l.take k)).W)), .map m14 (sk (zaP (zd0 (l.take k)).S))]) (fun (k : Nat) => k ≤ l.length ∧ (zbH l 0 l = zbH l k (l.drop k))) (fun (k : Nat) => l.length - k) (0) ?_ ?_ ?_ ?_
  ·exact ⟨Nat.zero_le _, rfl⟩
  ·exact ⟨rfl, rfl, trivial⟩
  ·exact List.Perm.refl _
  ·intro k hinv
   obtain ⟨hk, hg⟩ := hinv
   refine za ?_
   refine dq (zK rfl rfl) ?_
   refine dn ?_
   refine zf ?_
   refine ze rfl (fun h3 => ?_) (fun h4 => ?_)
   ·try simp at h3
    obtain ⟨x, hx⟩ : ∃ x, l[k]? = some x := ⟨_, List.getElem?_eq_getElem h3⟩
    have hdx := zI hx
    rw [hdx] at hg
    refine zi ?_
    refine zd ?_
    refine zf ?_
    refine zk ?_
    refine za ?_
    refine dmv rfl ?_
    refine dq (zH zeP zY rfl rfl rfl (by assumption)) ?_
    refine dq (zB zY rfl rfl rfl rfl) ?_
    refine de rfl (zO zY rfl fun b7 => ?_)
    refine das rfl ?_
    refine de0 (zR zY rfl rfl rfl rfl rfl ?_)
    refine dn ?_
    refine zF (Ghost.fc0 7 rfl) ?_
    refine zf ?_
    refine za ?_
    refine dq (zB zY rfl rfl rfl rfl) ?_
    refine dq (zj ca92 rfl (WeakL.refl _) zj0) ?_
    refine das rfl ?_
    refine dn ?_
    refine za ?_
    refine dmv rfl ?_
    refine dq (zah rfl rfl) ?_
    refine dn ?_
    refine ze rfl (fun h5 => ?_) (fun h6 => ?_)
    ·try simp at h5
     refine za ?_
     refine dmv rfl ?_
     refine das rfl ?_
     refine dn ?_
     refine zg ?_
     refine za2 Ghost.clear rfl ⟨?_, rfl⟩
     show HVal.int .i64 _ = _
     (rw [zlx (by omega) (by rw [hg, zbH, if_pos (by simpa using h5)]) (by simpa using h5)]; done)
    ·try simp at h6
     refine zi ?_
     refine zd ?_
     refine zf ?_
     refine zaF (fun _ => True) [] mixed ?_
     refine ahp 0 rfl rfl (by kernel_rfl) (by kernel_rfl) (zh rfl) ?_
     refine ahp 1 rfl rfl (by kernel_rfl) (by kernel_rfl) (z6 rfl rfl) ?_
     refine ahp 2 rfl rfl (by kernel_rfl) (by kernel_rfl) (zh rfl) ?_
     refine ahg 3 rfl rfl (by kernel_rfl) (by kernel_rfl) rfl (fun hc => ⟨_, OpenTo.refl _, zB zY rfl rfl rfl rfl⟩) ?_
     refine ahg 4 rfl rfl (by kernel_rfl) (by kernel_rfl) rfl (fun hc => ⟨_, OpenTo.refl _, zh rfl⟩) ?_
     refine ahg 5 rfl rfl (by kernel_rfl) (by kernel_rfl) rfl (fun hc => ⟨_, OpenTo.refl _, zh rfl⟩) ?_
     refine ahg 6 rfl rfl (by kernel_rfl) (by kernel_rfl) rfl (fun hc => by have hq := hc; (try simp at hq); exact ⟨_, OpenTo.upd (t := 33) rfl (hc) (OpenTo.refl _), zal rfl rfl (by omega) (by omega)⟩) ?_
     refine ahg 7 rfl rfl (by kernel_rfl) (by kernel_rfl) rfl (fun hc => by have hq := hc; (try simp at hq); exact ⟨_, OpenTo.upd (t := 34) rfl (hc) (OpenTo.upd (t := 32) rfl (hc) (OpenTo.refl _)), zH (j := k - 1) (a := l.getD (k - 1) zkI) zeP zY rfl rfl (by omega) (getD_some (by omega))⟩) ?_
     refine ahg 8 rfl rfl (by kernel_rfl) (by kernel_rfl) rfl (fun hc => ⟨_, OpenTo.upd (t := 35) rfl (hc) (OpenTo.refl _), zB zY rfl rfl rfl rfl⟩) ?_
     refine ahg 9 rfl rfl (by kernel_rfl) (by kernel_rfl) rfl (fun hc => ⟨_, OpenTo.upd (t := 36) rfl (hc) (OpenTo.upd (t := 31) rfl (hc) (OpenTo.refl _)), zj ca93 rfl (WeakL.refl _) znU⟩) ?_
     refine ahg 10 rfl rfl (by kernel_rfl) (by kernel_rfl) rfl (fun hc => ⟨_, OpenTo.upd (t := 37) rfl (hc) (OpenTo.refl _), zcF rfl rfl⟩) ?_
     refine ahp 11 rfl rfl (by kernel_rfl) (by kernel_rfl) (zw rfl (.inr ⟨_, rfl, fun h => by simp_all⟩) (.inl rfl)) ?_
     refine ahz (by kernel_rfl) ?_
     refine ze rfl (fun h7 => ?_) (fun h8 => ?_)
     ·try simp at h7
      refine za ?_
      refine das rfl ?_
      refine dn ?_
      refine zg ?_
      refine za2 Ghost.clear rfl ⟨?_, rfl⟩
      show HVal.int .i64 _ = _
      (rw [zlx (c := 7) (by omega) (by rw [hg, zbH, if_neg (by simpa using h6), if_pos (by obtain ⟨qa, qb⟩ := h7; exact ⟨by omega, by simpa using qb⟩)]) (by decide)]; done)
     ·try simp at h8
      refine zi ?_
      refine zd ?_
      refine za ?_
      refine dmv rfl ?_
      refine dq (zb zY rfl ty9 (by decide) rfl) ?_
      refine dq (zc ty9 rfl rfl rfl) ?_
      refine de0 (zbZ (i := 1) zcM ty9 rfl rfl rfl rfl ?_)
      refine dn ?_
      refine zf ?_
      refine za ?_
      refine dmv rfl ?_
      refine dq (zb zY rfl ty9 (by decide) rfl) ?_
      refine dq (zc ty9 rfl rfl rfl) ?_
      refine de rfl (zh5 (i := 0) (z0 := (0 : Int)) zdl ty9 ty3 rfl rfl rfl rfl ?_)
      refine dmv rfl ?_
      refine dq (zJ rfl rfl) ?_
      refine dq (zJ rfl rfl) ?_
      refine das rfl ?_
      refine das rfl ?_
      refine dn ?_
      refine za ?_
      refine dmv rfl ?_
      refine dmv rfl ?_
      refine dg rfl rfl (fun hc => ⟨_, OpenTo.refl _, zh rfl⟩) ?_
      refine dg rfl rfl (fun hc => ⟨_, OpenTo.refl _, zb zY rfl ty3 (by decide) rfl⟩) ?_
      refine dg rfl rfl (fun hc => ⟨_, OpenTo.upd (t := 53) rfl (hc) (OpenTo.refl _), zc ty3 rfl rfl rfl⟩) ?_
      refine dg rfl rfl (fun hc => ⟨_, OpenTo.upd (t := 54) rfl (hc) (OpenTo.upd (t := 52) rfl (hc) (OpenTo.refl _)), zah rfl rfl⟩) ?_
      refine dq (zw rfl (.inr ⟨_, rfl, fun h => by simp_all⟩) (.inl rfl)) ?_
      refine dn ?_
      refine ze rfl (fun h9 => ?_) (fun h10 => ?_)
      ·try simp at h9
       refine zy ?_
       refine das rfl ?_
       refine dn ?_
       refine zd ?_
       refine zy ?_
       refine dmv rfl ?_
       refine dq (zb zY rfl ty9 (by decide) rfl) ?_
       refine dq (zc ty9 rfl rfl rfl) ?_
       refine dq (zb zY rfl ty3 (by decide) rfl) ?_
       refine dq (zc ty3 rfl rfl rfl) ?_
       refine de0 (zdV (i := 0) zdl ty9 rfl rfl rfl rfl ?_)
       refine dn ?_
       refine zu ?_
       refine zd ?_
       refine zy ?_
       refine dq (zx rfl rfl (by omega) (by omega)) ?_
       refine dmv rfl ?_
       refine dn ?_
       refine ⟨k + 1, ⟨by omega, ?_⟩, by dsimp only; omega, ⟨rfl, ?_, trivial⟩, (by repeat (first | exact zo | refine zt rfl ?_ | refine zp rfl rfl ?_)), ?_⟩
       ·rw [hg, zkz (by simpa using h6) (fun hk0 => by simp_all)]
       ·rw [zfr hx]; exact congrArg (fun b => some (HVal.bool b)) (by simp_all [zgV])
       ·exact zU (by dsimp only; rw [zfr hx]; rfl)
      ·try simp at h10
       refine zi ?_
       refine zd ?_
       refine zy ?_
       refine dmv rfl ?_
       refine dq (zb zY rfl ty9 (by decide) rfl) ?_
       refine dq (zc ty9 rfl rfl rfl) ?_
       refine dq (zb zY rfl ty3 (by decide) rfl) ?_
       refine dq (zc ty3 rfl rfl rfl) ?_
       refine de0 (zdV (i := 0) zdl ty9 rfl rfl rfl rfl ?_)
       refine dn ?_
       refine zu ?_
       refine zd ?_
       refine zy ?_
       refine dq (zx rfl rfl (by omega) (by omega)) ?_
       refine dmv rfl ?_
       refine dn ?_
       refine ⟨k + 1, ⟨by omega, ?_⟩, by dsimp only; omega, ⟨rfl, ?_, trivial⟩, (by repeat (first | exact zo | refine zt rfl ?_ | refine zp rfl rfl ?_)), ?_⟩
       ·rw [hg, zkz (by simpa using h6) (fun hk0 => by simp_all)]
       ·rw [zfr hx]; exact congrArg (fun b => some (HVal.bool b)) (by simp_all [zgV])
       ·exact zU (by dsimp only; rw [zfr hx]; rfl)
   ·try simp at h4
    have hnk : l.length ≤ k := by omega
    obtain rfl : k = l.length := by omega
    rw [zaq (Nat.le_refl _)] at hg
    rw [List.take_length]
    refine zL ?_
    refine zS ?_
    refine zap ?_
    refine zD ?_
    refine zd ?_
    refine zf ?_
    refine zk ?_
    have e1 : (sk (zaP (zd0 l).S)).length = (zd0 l).S.length := by simp [sk, zaP]
    have e2 : (sk (em (HVal.int .i64) (zd0 l).W)).length = (zd0 l).W.length := by simp [sk]
    refine za ?_
    refine dmv rfl ?_
    refine de rfl (zka (i := 1) zcM rfl rfl ?_)
    refine dq (z6 rfl rfl) ?_
    refine dmv rfl ?_
    refine dg rfl rfl (fun hc => ⟨_, OpenTo.refl _, zh rfl⟩) ?_
    refine dgl rfl rfl (fun hc => ⟨_, OpenTo.upd (t := 68) rfl (hc) (OpenTo.refl _), zka (i := 0) zdl rfl rfl ⟨rfl, rfl⟩⟩) ?_
    refine dg rfl rfl (fun hc => ⟨_, OpenTo.upd (t := 69) rfl (hc) (OpenTo.refl _), z6 rfl rfl⟩) ?_
    refine dq (zw rfl (.inl rfl) (.inr ⟨_, rfl, fun h => by simp_all⟩)) ?_
    refine das rfl ?_
    refine dn ?_
    refine ze rfl (fun h11 => ?_) (fun h12 => ?_)
    ·try simp at h11
     refine za ?_
     refine das rfl ?_
     refine dn ?_
     refine zg ?_
     refine za2 Ghost.clear rfl ⟨?_, rfl⟩
     show HVal.int .i64 _ = _
     (rw [zgA (by omega) hg, zfd, if_pos (by omega)]; done)
    ·try simp at h12
     refine za ?_
     refine dmv rfl ?_
     refine das rfl ?_
     refine dn ?_
     refine ze rfl (fun h13 => ?_) (fun h14 => ?_)
     ·try simp at h13
      refine za ?_
      refine das rfl ?_
      refine dn ?_
      refine zg ?_
      refine za2 Ghost.clear rfl ⟨?_, rfl⟩
      show HVal.int .i64 _ = _
      (rw [zgA (by omega) hg, zfd, if_neg (by omega), if_pos (by assumption)]; done)
     ·try simp at h14
      refine zi ?_
      refine zu ?_
      refine zd ?_
      refine za ?_
      refine das rfl ?_
      refine dn ?_
      refine zg ?_
      refine za2 Ghost.clear rfl ⟨?_, rfl⟩
      show HVal.int .i64 _ = _
      (rw [zgA (by omega) hg, zfd, if_neg (by omega), if_neg (by simp_all)]; done)

/-- benchwarmer/play.CheckTrust -/
theorem zjf [Tracks] {l : List Str} (hl : l.length ≤ 1000000) : ConP Tryz.prog 53 [eSs l] (.int .i64 (zdW l)) := by
 refine Con.of_body Tryz.func53 rfl Tryz.ntmps53 rfl rfl ?_
 refine za ?_
 refine das rfl ?_
 refine dn ?_
 refine zf ?_
 refine za ?_
 refine dmv rfl ?_
 refine dq (zv zA rfl) ?_
 refine dq (z6 rfl rfl) ?_
 refine dn ?_
 refine ze rfl (fun h1 => ?_) (fun h2 => ?_)
 ·try simp at h1
  refine za ?_
  refine das rfl ?_
  refine dn ?_
  refine zg ?_
  refine zm rfl ?_
  show HVal.int .i64 _ = _
  (rw [zdW, if_pos (by omega)]; done)
 ·try simp at h2
  refine zi ?_
  refine zd ?_
  refine zf ?_
  refine za ?_
  refine dmv rfl ?_
  refine dq (zv zA rfl) ?_
  refine dmv rfl ?_
  refine dn ?_
  refine zk ?_
  refine zab [2, 3, 4, 10, 11, 12, 13, 14, 15, 16, 17, 18, 19, 20, 21, 22, 23] (fun (k : Nat) => [(10, .int .i64 k)]) (fun (k : Nat) => []) (fun (k : Nat) => k ≤ l.length ∧ (zdW l = zeW l k (l.drop k))) (fun (k : Nat) => l.length - k) (0) ?_ ?_ ?_ ?_
  ·refine ⟨Nat.zero_le _, ?_⟩
   rw [zdW, if_neg (by omega)]; rfl
  ·exact ⟨rfl, trivial⟩
  ·exact List.Perm.refl _
  ·intro k hinv
   obtain ⟨hk, hg⟩ := hinv
   refine za ?_
   refine dq (zK rfl rfl) ?_
   refine dn ?_
   refine zf ?_
   refine ze rfl (fun h3 => ?_) (fun h4 => ?_)
   ·try simp at h3
    obtain ⟨x, hx⟩ : ∃ x, l[k]? = some x := ⟨_, List.getElem?_eq_getElem h3⟩
    have hdx := zI hx
    rw [hdx] at hg
    refine zi ?_
    refine zd ?_
    refine zf ?_
    refine zk ?_
    refine za ?_
    refine dmv rfl ?_
    refine dq (zH zA ty9 rfl rfl rfl (by assumption)) ?_
    refine dq (zc ty9 rfl rfl rfl) ?_
    refine das rfl ?_
    refine das rfl ?_
    refine dn ?_
    refine zf ?_
    refine za ?_
    refine dmv rfl ?_
    refine dq (zj zeQ rfl (WeakL.refl _) zbk) ?_
    refine dq (zW rfl) ?_
    refine dn ?_
    refine ze rfl (fun h5 => ?_) (fun h6 => ?_)
    ·try simp at h5
     refine za ?_
     refine das rfl ?_
     refine dn ?_
     refine zg ?_
     refine zm rfl ?_
     show HVal.int .i64 _ = _
     (rw [hg]; simp_all [zeW]; done)
    ·try simp at h6
     refine zi ?_
     refine zd ?_
     refine za ?_
     refine dmv rfl ?_
     refine dmv rfl ?_
     refine dq (zce zA ty9 rfl rfl ⟨_, _, rfl, rfl⟩ (by omega) (by omega)) ?_
     refine dmv rfl ?_
     refine dq (zj zii rfl (WeakL.refl _) (zaj (by simp; omega))) ?_
     refine dn ?_
     refine ze rfl (fun h7 => ?_) (fun h8 => ?_)
     ·try simp at h7
      refine za ?_
      refine das rfl ?_
      refine dn ?_
      refine zg ?_
      refine zm rfl ?_
      show HVal.int .i64 _ = _
      (rw [hg]; simp_all [zeW]; done)
     ·try simp at h8
      refine zi ?_
      refine zu ?_
      refine zd ?_
      refine zy ?_
      refine dq (zx rfl rfl (by omega) (by omega)) ?_
      refine dmv rfl ?_
      refine dn ?_
      refine ⟨k + 1, ?_, ?_, ⟨rfl, trivial⟩, (by repeat (first | exact zo | refine zt rfl ?_ | refine zp rfl rfl ?_)), List.Perm.refl _⟩
      ·refine ⟨by omega, ?_⟩
       rw [hg]; simp_all [zeW]
      ·dsimp only; omega
   ·try simp at h4
    have hnk : l.length ≤ k := by omega
    obtain rfl : k = l.length := by omega
    rw [zaq (Nat.le_refl _)] at hg
    refine zL ?_
    refine zS ?_
    refine zap ?_
    refine zD ?_
    refine zd ?_
    refine za ?_
    refine das rfl ?_
    refine dn ?_
    refine zg ?_
    refine zm rfl ?_
    show HVal.int .i64 _ = _
    (rw [hg]; simp_all [zeW]; done)

/-- benchwarmer/play.told -/
theorem znW [Tracks] {l : List Play} {trust : List Str} {n : Int} (hl : l.length ≤ 1000000) (ht : trust.length ≤ 1000000) : Con Tryz.prog 94 [zgO l, eSs trust, .int .i64 n] [] (fun x M' => ∃ b O, x = .raw (.map (some b)) ∧ ANodup O ∧ (∀ m, alk m O = zje l trust n m) ∧ M' = [.map b (sk (em .str O))]) := by
 refine Con.of_body Tryz.func94 rfl Tryz.ntmps94 rfl rfl ?_
 refine za ?_
 refine das rfl ?_
 refine dn ?_
 refine za ?_
 refine de rfl (za4 fun m16 => ?_)
 refine das rfl ?_
 refine dn ?_
 refine zf ?_
 refine za ?_
 refine dmv rfl ?_
 refine dq (zv zeP rfl) ?_
 refine dmv rfl ?_
 refine dn ?_
 refine zk ?_
 refine zab [9, 10, 11, 12, 19, 20, 21, 22, 23, 24, 25, 26, 27, 28, 29, 30, 31, 32, 33, 34, 35, 36, 37, 38, 39, 40, 41, 42, 43, 44, 45, 46, 47, 48, 49, 50, 51, 52, 53] (fun (k : Nat) => [(19, .int .i64 k)]) (fun (k : Nat) => [.map m16 (sk (em (.int .i64) (zdk (l.take k) trust n)))]) (fun (k : Nat) => k ≤ l.length ∧ (True)) (fun (k : Nat) => l.length - k) (0) ?_ ?_ ?_ ?_
 ·exact ⟨Nat.zero_le _, trivial⟩
 ·exact ⟨rfl, trivial⟩
 ·exact List.Perm.refl _
 ·intro k hinv
  obtain ⟨hk, -⟩ := hinv
  refine za ?_
  refine dq (zK rfl rfl) ?_
  refine dn ?_
  refine zf ?_
  refine ze rfl (fun h1 => ?_) (fun h2 => ?_)
  ·try simp at h1
   obtain ⟨x, hx⟩ : ∃ x, l[k]? = some x := ⟨_, List.getElem?_eq_getElem h1⟩
   have hdx := zI hx
   refine zi ?_
   refine zd ?_
   refine zf ?_
   refine zk ?_
   refine za ?_
   refine dq (zH zeP zY rfl rfl rfl (by assumption)) ?_
   refine dq (zB zY rfl rfl rfl rfl) ?_
   refine de rfl (zO zY rfl fun b9 => ?_)
   refine de0 (zR zY rfl rfl rfl rfl rfl ?_)
   refine dn ?_
   refine zF (Ghost.fc0 9 rfl) ?_
   refine za ?_
   refine dmv rfl ?_
   refine dq (zb zY rfl ty9 (by decide) rfl) ?_
   refine dq (zc ty9 rfl rfl rfl) ?_
   refine dq (zj ca91 rfl (WeakL.refl _) (zcK (by omega))) ?_
   refine das rfl ?_
   refine dn ?_
   refine zf ?_
   refine za ?_
   refine dq (zb zY rfl ty3 (by decide) rfl) ?_
   refine dq (zc ty3 rfl rfl rfl) ?_
   refine dmv rfl ?_
   refine dq (z6 rfl rfl) ?_
   refine dmv rfl ?_
   refine dg rfl rfl (fun hc => ⟨_, OpenTo.refl _, zh rfl⟩) ?_
   refine dg rfl rfl (fun hc => ⟨_, OpenTo.upd (t := 32) rfl (hc) (OpenTo.refl _), zK rfl rfl⟩) ?_
   refine dq (zw rfl (.inl rfl) (.inr ⟨_, rfl, fun h => by simp_all⟩)) ?_
   refine dn ?_
   refine ze rfl (fun h3 => ?_) (fun h4 => ?_)
   ·try simp at h3
    refine zL ?_
    refine zS ?_
    refine zD ?_
    refine zd ?_
    refine zy ?_
    refine dq (zx rfl rfl (by omega) (by omega)) ?_
    refine dmv rfl ?_
    refine dn ?_
    exact ⟨k + 1, ⟨by omega, trivial⟩, by dsimp only; omega, ⟨rfl, trivial⟩, (by repeat (first | exact zo | refine zt rfl ?_ | refine zp rfl rfl ?_)), zU (by dsimp only; rw [zhu hx, zcp, if_pos (by simpa using h3)]; try rfl)⟩
   ·try simp at h4
    refine zi ?_
    refine zd ?_
    refine za ?_
    refine dmv rfl ?_
    refine dq (zb zY rfl ty9 (by decide) rfl) ?_
    refine dq (zc ty9 rfl rfl rfl) ?_
    refine de rfl (zh5 (i := 0) (z0 := (0 : Int)) zdl ty9 ty3 rfl rfl rfl rfl ?_)
    refine dmv rfl ?_
    refine dq (zJ rfl rfl) ?_
    refine dq (zJ rfl rfl) ?_
    refine das rfl ?_
    refine das rfl ?_
    refine dn ?_
    refine za ?_
    refine dmv rfl ?_
    refine dq (zW rfl) ?_
    refine dmv rfl ?_
    refine dg rfl rfl (fun hc => ⟨_, OpenTo.refl _, zh rfl⟩) ?_
    refine dg rfl rfl (fun hc => ⟨_, OpenTo.refl _, zh rfl⟩) ?_
    refine dg rfl rfl (fun hc => ⟨_, OpenTo.upd (t := 46) rfl (hc) (OpenTo.upd (t := 45) rfl (hc) (OpenTo.refl _)), zK rfl rfl⟩) ?_
    refine dq (zw rfl (.inl rfl) (.inr ⟨_, rfl, fun h => by simp_all⟩)) ?_
    refine dn ?_
    refine ze rfl (fun h5 => ?_) (fun h6 => ?_)
    ·try simp at h5
     refine zy ?_
     refine dmv rfl ?_
     refine dq (zb zY rfl ty9 (by decide) rfl) ?_
     refine dq (zc ty9 rfl rfl rfl) ?_
     refine dmv rfl ?_
     refine de0 (zdV (i := 0) zdl ty9 rfl rfl rfl rfl ?_)
     refine dn ?_
     refine zu ?_
     refine zd ?_
     refine zy ?_
     refine dq (zx rfl rfl (by omega) (by omega)) ?_
     refine dmv rfl ?_
     refine dn ?_
     exact ⟨k + 1, ⟨by omega, trivial⟩, by dsimp only; omega, ⟨rfl, trivial⟩, (by repeat (first | exact zo | refine zt rfl ?_ | refine zp rfl rfl ?_)), zU (by dsimp only; rw [zhu hx, zcp, if_neg (by simp_all; try omega), if_pos (by simpa using h5)]; try rfl)⟩
    ·try simp at h6
     refine zi ?_
     refine zu ?_
     refine zd ?_
     refine zy ?_
     refine dq (zx rfl rfl (by omega) (by omega)) ?_
     refine dmv rfl ?_
     refine dn ?_
     exact ⟨k + 1, ⟨by omega, trivial⟩, by dsimp only; omega, ⟨rfl, trivial⟩, (by repeat (first | exact zo | refine zt rfl ?_ | refine zp rfl rfl ?_)), zU (by dsimp only; rw [zhu hx, zcp, if_neg (by simp_all; try omega), if_neg (by simp_all; try omega)]; try rfl)⟩
  ·try simp at h2
   have hnk : l.length ≤ k := by omega
   obtain rfl : k = l.length := by omega
   refine zL ?_
   refine zS ?_
   refine zap ?_
   refine zD ?_
   refine zd ?_
   rw [List.take_length]
   refine za ?_
   refine de rfl (za4 fun m54 => ?_)
   refine das rfl ?_
   refine dn ?_
   refine zf ?_
   refine za ?_
   refine dmv rfl ?_
   refine de rfl (zl8 (i := 1) zdl rfl rfl fun r => ?_)
   refine dn ?_
   refine zk ?_
   refine zaS [14, 15, 57, 58, 59, 60, 61, 62, 63, 64, 65, 66, 67] (fun (vis : List Nat) (E : List (Str × Int)) => []) (fun (vis : List Nat) (E : List (Str × Int)) => [.map m54 (sk (em .str (zkn trust E))), .iter r m16 (sk (em (.int .i64) (zdk l trust n))) vis]) (fun (vis : List Nat) (E : List (Str × Int)) => VisOk ((zdk l trust n)) vis E ∧ (True)) (fun (vis : List Nat) (E : List (Str × Int)) => ((zdk l trust n)).length - vis.length) ([]) ([]) ?_ ?_ ?_ ?_
   ·exact ⟨VisOk.nil _, trivial⟩
   ·exact trivial
   ·exact List.Perm.refl _
   ·intro vis E hinv
    obtain ⟨hvis, -⟩ := hinv
    refine za ?_
    refine de rfl (zlZ (i := 1) (L := (zdk l trust n)) (enc := (fun p : Str × Int => (HVal.str p.1, HVal.int .i64 p.2))) rfl rfl (zrM _ _) hvis.nd hvis.lt fun cb R vis' hnx => ?_)
    refine dq (zJ rfl rfl) ?_
    refine dn ?_
    refine zf ?_
    refine ze rfl (fun h7 => ?_) (fun h8 => ?_)
    ·try simp at h7
     obtain ⟨j, q, hq, hj, rfl⟩ := hnx.t h7
     have hroom := hvis.room hq hj
     have hstep := hvis.step hq hj
     have hqm := List.mem_of_getElem? hq
     refine zi ?_
     refine zd ?_
     refine zk ?_
     refine za ?_
     refine de rfl (zky (i := 1) (L := (zdk l trust n)) (enc := (fun p : Str × Int => (HVal.str p.1, HVal.int .i64 p.2))) rfl rfl (zrM _ _) hq ?_)
     refine dq (zJ rfl rfl) ?_
     refine dq (zJ rfl rfl) ?_
     refine das rfl ?_
     refine das rfl ?_
     refine dn ?_
     refine zy ?_
     refine dmv rfl ?_
     refine dmv rfl ?_
     refine dmv rfl ?_
     refine dmv rfl ?_
     obtain ⟨hq0, hq1⟩ := zo6 hqm
     refine dq (zH (j := q.2.toNat) (a := trust.getD q.2.toNat []) zA ty9 rfl rfl (by omega) (getD_some (by omega))) ?_
     refine dq (zc ty9 rfl rfl rfl) ?_
     refine de0 (zdV (i := 0) (v := trust.getD q.2.toNat []) zr0 ty9 rfl rfl rfl rfl ?_)
     refine dn ?_
     refine zu ?_
     exact ⟨_, E ++ [q], ⟨hstep, trivial⟩, by dsimp only; rw [List.length_append]; simp only [List.length_cons, List.length_nil]; omega, trivial, (by repeat (first | exact zo | refine zt rfl ?_ | refine zp rfl rfl ?_)), zU (by dsimp only; rw [zqA hvis (zhr _ _ _) hq hj]; rfl)⟩
    ·try simp at h8
     obtain ⟨rfl, hlen⟩ := hnx.f h8
     have hEp := hvis.done hlen
     refine zL ?_
     refine zS ?_
     refine za8 ?_
     refine zD ?_
     refine zd ?_
     refine zF (Ghost.only (i := 0) rfl) ?_
     refine za ?_
     refine dmv rfl ?_
     refine das rfl ?_
     refine dn ?_
     refine zg ?_
     exact zcw rfl ⟨_, _, rfl, zpb hEp, zrz hEp, rfl⟩
end
end Go.Proofs.YtkcnenknbbcoiaaGreatDoor
namespace Go.Proofs
section
open Go.Shelf
def Tryz.g142_ren : Go.Shelf.Ren := ⟨fun | 7 => 142 | 10 => 172 | n => n, fun | 23 => 98 | 26 => 9 | 3 => 4 | 28 => 38 | 0 => 0 | 27 => 37 | 33 => 104 | 4 => 4 | n => n, fun | n => n⟩
theorem Tryz.g142 : Go.Proofs.SlLaysZ.n7 Tryz.prog Tryz.g142_ren := {
 mixed := by kernel_rfl
 f7 := ⟨Tryz.f142.name, by decide, Tryz.func142.trans (congrArg some (by kernel_rfl))⟩
 f10 := ⟨Tryz.f172.name, by decide, Tryz.func172.trans (congrArg some (by kernel_rfl))⟩
 t0 := Tryz.underlying0
 a0 := Tryz.isAgg0
 z0 := Tryz.sizeOf0
 v0 := Tryz.zeroValue0
 t4 := Tryz.underlying4
 a4 := Tryz.isAgg4
 z4 := Tryz.sizeOf4
 v4 := Tryz.zeroValue4
 t23 := Tryz.underlying98
 a23 := Tryz.isAgg98
 z23 := Tryz.sizeOf98
 v23 := Tryz.zeroValue98
 t26 := Tryz.underlying9
 a26 := Tryz.isAgg9
 z26 := Tryz.sizeOf9
 v26 := Tryz.zeroValue9
 t27 := Tryz.underlying37
 a27 := Tryz.isAgg37
 z27 := Tryz.sizeOf37
 v27 := Tryz.zeroValue37
 t28 := Tryz.underlying38
 a28 := Tryz.isAgg38
 z28 := Tryz.sizeOf38
 v28 := Tryz.zeroValue38
 t33 := Tryz.underlying104
 a33 := Tryz.isAgg104
 z33 := Tryz.sizeOf104
 v33 := Tryz.zeroValue104 }
def Tryz.g8_ren : Go.Shelf.Ren := ⟨fun | 6 => 8 | 8 => 34 | 9 => 35 | 11 => 66 | 13 => 38 | 12 => 67 | 23 => 76 | 24 => 77 | 14 => 113 | 15 => 114 | 16 => 115 | 17 => 116 | 18 => 117 | 19 => 118 | 20 => 119 | 21 => 120 | 22 => 121 | 25 => 155 | 26 => 123 | 27 => 124 | 28 => 156 | 29 => 157 | 30 => 158 | 31 => 176 | n => n, fun | 26 => 9 | 28 => 38 | 24 => 26 | 0 => 0 | 3 => 3 | 37 => 107 | 48 => 144 | 50 => 146 | 4 => 4 | 40 => 137 | 39 => 136 | 45 => 141 | 5 => 5 | 9 => 9 | 51 => 195 | 55 => 199 | 57 => 233 | 58 => 234 | 33 => 104 | n => n, fun | n => n⟩
theorem Tryz.g8 : Go.Proofs.SlLaysZ.n6 Tryz.prog Tryz.g8_ren := {
 mixed := by kernel_rfl
 f6 := ⟨Tryz.f8.name, by decide, Tryz.func8.trans (congrArg some (by kernel_rfl))⟩
 f8 := ⟨Tryz.f34.name, by decide, Tryz.func34.trans (congrArg some (by kernel_rfl))⟩
 f11 := ⟨Tryz.f66.name, by decide, Tryz.func66.trans (congrArg some (by kernel_rfl))⟩
 t0 := Tryz.underlying0
 a0 := Tryz.isAgg0
 z0 := Tryz.sizeOf0
 v0 := Tryz.zeroValue0
 t24 := Tryz.underlying26
 a24 := Tryz.isAgg26
 z24 := Tryz.sizeOf26
 v24 := Tryz.zeroValue26
 t26 := Tryz.underlying9
 a26 := Tryz.isAgg9
 z26 := Tryz.sizeOf9
 v26 := Tryz.zeroValue9
 t28 := Tryz.underlying38
 a28 := Tryz.isAgg38
 z28 := Tryz.sizeOf38
 v28 := Tryz.zeroValue38
 i26 := by kernel_rfl }
def Tryz.g35_ren : Go.Shelf.Ren := ⟨fun | 6 => 35 | 8 => 38 | 9 => 67 | 19 => 76 | 20 => 77 | 21 => 113 | 22 => 114 | 23 => 115 | 24 => 116 | 25 => 117 | 26 => 118 | 27 => 119 | 28 => 120 | 29 => 121 | 36 => 155 | 31 => 123 | 32 => 124 | 37 => 156 | 38 => 157 | 39 => 158 | 41 => 176 | n => n, fun | 27 => 26 | 29 => 9 | 3 => 3 | 32 => 107 | 26 => 26 | 0 => 0 | 44 => 144 | 46 => 146 | 4 => 4 | 36 => 137 | 35 => 136 | 41 => 141 | 5 => 5 | 9 => 9 | 53 => 195 | 57 => 199 | 63 => 233 | 64 => 234 | n => n, fun | n => n⟩
theorem Tryz.g35 : Go.Proofs.SlLaysM.n6 Tryz.prog Tryz.g35_ren := {
 mixed := by kernel_rfl
 f6 := ⟨Tryz.f35.name, by decide, Tryz.func35.trans (congrArg some (by kernel_rfl))⟩
 f8 := Tryz.func38.trans (congrArg some (by kernel_rfl))
 f9 := ⟨Tryz.f67.name, by decide, Tryz.func67.trans (congrArg some (by kernel_rfl))⟩
 f19 := Tryz.func76.trans (congrArg some (by kernel_rfl))
 f20 := Tryz.func77.trans (congrArg some (by kernel_rfl))
 f21 := ⟨Tryz.f113.name, by decide, Tryz.func113.trans (congrArg some (by kernel_rfl))⟩
 f22 := ⟨Tryz.f114.name, by decide, Tryz.func114.trans (congrArg some (by kernel_rfl))⟩
 f23 := ⟨Tryz.f115.name, by decide, Tryz.func115.trans (congrArg some (by kernel_rfl))⟩
 f24 := ⟨Tryz.f116.name, by decide, Tryz.func116.trans (congrArg some (by kernel_rfl))⟩
 f25 := ⟨Tryz.f117.name, by decide, Tryz.func117.trans (congrArg some (by kernel_rfl))⟩
 f26 := ⟨Tryz.f118.name, by decide, Tryz.func118.trans (congrArg some (by kernel_rfl))⟩
 f27 := ⟨Tryz.f119.name, by decide, Tryz.func119.trans (congrArg some (by kernel_rfl))⟩
 f28 := ⟨Tryz.f120.name, by decide, Tryz.func120.trans (congrArg some (by kernel_rfl))⟩
 f29 := ⟨Tryz.f121.name, by decide, Tryz.func121.trans (congrArg some (by kernel_rfl))⟩
 f31 := Tryz.func123.trans (congrArg some (by kernel_rfl))
 f32 := Tryz.func124.trans (congrArg some (by kernel_rfl))
 f36 := ⟨Tryz.f155.name, by decide, Tryz.func155.trans (congrArg some (by kernel_rfl))⟩
 f37 := ⟨Tryz.f156.name, by decide, Tryz.func156.trans (congrArg some (by kernel_rfl))⟩
 f38 := ⟨Tryz.f157.name, by decide, Tryz.func157.trans (congrArg some (by kernel_rfl))⟩
 f39 := ⟨Tryz.f158.name, by decide, Tryz.func158.trans (congrArg some (by kernel_rfl))⟩
 f41 := ⟨Tryz.f176.name, by decide, Tryz.func176.trans (congrArg some (by kernel_rfl))⟩
 t0 := Tryz.underlying0
 a0 := Tryz.isAgg0
 z0 := Tryz.sizeOf0
 v0 := Tryz.zeroValue0
 t3 := Tryz.underlying3
 a3 := Tryz.isAgg3
 z3 := Tryz.sizeOf3
 v3 := Tryz.zeroValue3
 t4 := Tryz.underlying4
 a4 := Tryz.isAgg4
 z4 := Tryz.sizeOf4
 v4 := Tryz.zeroValue4
 t5 := Tryz.underlying5
 a5 := Tryz.isAgg5
 z5 := Tryz.sizeOf5
 v5 := Tryz.zeroValue5
 t9 := Tryz.underlying9
 a9 := Tryz.isAgg9
 z9 := Tryz.sizeOf9
 v9 := Tryz.zeroValue9
 t26 := Tryz.underlying26
 a26 := Tryz.isAgg26
 z26 := Tryz.sizeOf26
 v26 := Tryz.zeroValue26
 t27 := Tryz.underlying26
 a27 := Tryz.isAgg26
 z27 := Tryz.sizeOf26
 v27 := Tryz.zeroValue26
 t29 := Tryz.underlying9
 a29 := Tryz.isAgg9
 z29 := Tryz.sizeOf9
 v29 := Tryz.zeroValue9
 t32 := Tryz.underlying107
 a32 := Tryz.isAgg107
 z32 := Tryz.sizeOf107
 v32 := Tryz.zeroValue107
 t35 := Tryz.underlying136
 a35 := Tryz.isAgg136
 z35 := Tryz.sizeOf136
 v35 := Tryz.zeroValue136
 t36 := Tryz.underlying137
 a36 := Tryz.isAgg137
 z36 := Tryz.sizeOf137
 v36 := Tryz.zeroValue137
 t41 := Tryz.underlying141
 a41 := Tryz.isAgg141
 z41 := Tryz.sizeOf141
 v41 := Tryz.zeroValue141
 t44 := Tryz.underlying144
 a44 := Tryz.isAgg144
 z44 := Tryz.sizeOf144
 v44 := Tryz.zeroValue144
 t46 := Tryz.underlying146
 a46 := Tryz.isAgg146
 z46 := Tryz.sizeOf146
 v46 := Tryz.zeroValue146
 t53 := Tryz.underlying195
 a53 := Tryz.isAgg195
 z53 := Tryz.sizeOf195
 v53 := Tryz.zeroValue195
 t57 := Tryz.underlying199
 a57 := Tryz.isAgg199
 z57 := Tryz.sizeOf199
 v57 := Tryz.zeroValue199
 t63 := Tryz.underlying233
 a63 := Tryz.isAgg233
 z63 := Tryz.sizeOf233
 v63 := Tryz.zeroValue233
 t64 := Tryz.underlying234
 a64 := Tryz.isAgg234
 z64 := Tryz.sizeOf234
 v64 := Tryz.zeroValue234 }
def Tryz.g10_ren : Go.Shelf.Ren := ⟨fun | 6 => 10 | 15 => 38 | 14 => 37 | 28 => 76 | 29 => 77 | 20 => 68 | 21 => 69 | 22 => 70 | 23 => 71 | 24 => 72 | 25 => 73 | 26 => 74 | 27 => 75 | 46 => 122 | 47 => 123 | 48 => 124 | 49 => 125 | 50 => 126 | 57 => 159 | n => n, fun | 22 => 42 | 24 => 46 | 25 => 48 | 3 => 3 | 39 => 107 | 0 => 0 | 53 => 144 | 55 => 146 | 4 => 4 | 46 => 137 | 45 => 136 | 50 => 141 | 5 => 5 | 9 => 9 | 66 => 195 | 70 => 199 | 76 => 233 | 77 => 234 | n => n, fun | n => n⟩
theorem Tryz.g10 : Go.Proofs.SlLaysF0.n6 Tryz.prog Tryz.g10_ren := {
 mixed := by kernel_rfl
 f6 := ⟨Tryz.f10.name, by decide, Tryz.func10.trans (congrArg some (by kernel_rfl))⟩
 f14 := ⟨Tryz.f37.name, by decide, Tryz.func37.trans (congrArg some (by kernel_rfl))⟩
 f15 := Tryz.func38.trans (congrArg some (by kernel_rfl))
 f20 := ⟨Tryz.f68.name, by decide, Tryz.func68.trans (congrArg some (by kernel_rfl))⟩
 f21 := ⟨Tryz.f69.name, by decide, Tryz.func69.trans (congrArg some (by kernel_rfl))⟩
 f22 := ⟨Tryz.f70.name, by decide, Tryz.func70.trans (congrArg some (by kernel_rfl))⟩
 f23 := ⟨Tryz.f71.name, by decide, Tryz.func71.trans (congrArg some (by kernel_rfl))⟩
 f24 := ⟨Tryz.f72.name, by decide, Tryz.func72.trans (congrArg some (by kernel_rfl))⟩
 f25 := ⟨Tryz.f73.name, by decide, Tryz.func73.trans (congrArg some (by kernel_rfl))⟩
 f26 := ⟨Tryz.f74.name, by decide, Tryz.func74.trans (congrArg some (by kernel_rfl))⟩
 f27 := ⟨Tryz.f75.name, by decide, Tryz.func75.trans (congrArg some (by kernel_rfl))⟩
 f28 := Tryz.func76.trans (congrArg some (by kernel_rfl))
 f29 := Tryz.func77.trans (congrArg some (by kernel_rfl))
 f46 := ⟨Tryz.f122.name, by decide, Tryz.func122.trans (congrArg some (by kernel_rfl))⟩
 f47 := Tryz.func123.trans (congrArg some (by kernel_rfl))
 f48 := Tryz.func124.trans (congrArg some (by kernel_rfl))
 f49 := ⟨Tryz.f125.name, by decide, Tryz.func125.trans (congrArg some (by kernel_rfl))⟩
 f50 := ⟨Tryz.f126.name, by decide, Tryz.func126.trans (congrArg some (by kernel_rfl))⟩
 f57 := ⟨Tryz.f159.name, by decide, Tryz.func159.trans (congrArg some (by kernel_rfl))⟩
 t0 := Tryz.underlying0
 a0 := Tryz.isAgg0
 z0 := Tryz.sizeOf0
 v0 := Tryz.zeroValue0
 t3 := Tryz.underlying3
 a3 := Tryz.isAgg3
 z3 := Tryz.sizeOf3
 v3 := Tryz.zeroValue3
 t4 := Tryz.underlying4
 a4 := Tryz.isAgg4
 z4 := Tryz.sizeOf4
 v4 := Tryz.zeroValue4
 t5 := Tryz.underlying5
 a5 := Tryz.isAgg5
 z5 := Tryz.sizeOf5
 v5 := Tryz.zeroValue5
 t9 := Tryz.underlying9
 a9 := Tryz.isAgg9
 z9 := Tryz.sizeOf9
 v9 := Tryz.zeroValue9
 t22 := Tryz.underlying42
 a22 := Tryz.isAgg42
 z22 := Tryz.sizeOf42
 v22 := Tryz.zeroValue42
 t25 := Tryz.underlying48
 a25 := Tryz.isAgg48
 z25 := Tryz.sizeOf48
 v25 := Tryz.zeroValue48
 t39 := Tryz.underlying107
 a39 := Tryz.isAgg107
 z39 := Tryz.sizeOf107
 v39 := Tryz.zeroValue107
 t45 := Tryz.underlying136
 a45 := Tryz.isAgg136
 z45 := Tryz.sizeOf136
 v45 := Tryz.zeroValue136
 t46 := Tryz.underlying137
 a46 := Tryz.isAgg137
 z46 := Tryz.sizeOf137
 v46 := Tryz.zeroValue137
 t50 := Tryz.underlying141
 a50 := Tryz.isAgg141
 z50 := Tryz.sizeOf141
 v50 := Tryz.zeroValue141
 t53 := Tryz.underlying144
 a53 := Tryz.isAgg144
 z53 := Tryz.sizeOf144
 v53 := Tryz.zeroValue144
 t55 := Tryz.underlying146
 a55 := Tryz.isAgg146
 z55 := Tryz.sizeOf146
 v55 := Tryz.zeroValue146
 t66 := Tryz.underlying195
 a66 := Tryz.isAgg195
 z66 := Tryz.sizeOf195
 v66 := Tryz.zeroValue195
 t70 := Tryz.underlying199
 a70 := Tryz.isAgg199
 z70 := Tryz.sizeOf199
 v70 := Tryz.zeroValue199
 t76 := Tryz.underlying233
 a76 := Tryz.isAgg233
 z76 := Tryz.sizeOf233
 v76 := Tryz.zeroValue233
 t77 := Tryz.underlying234
 a77 := Tryz.isAgg234
 z77 := Tryz.sizeOf234
 v77 := Tryz.zeroValue234 }
def Tryz.g143_ren : Go.Shelf.Ren := ⟨fun | 6 => 143 | 15 => 38 | 14 => 173 | 28 => 76 | 29 => 77 | 20 => 183 | 21 => 184 | 22 => 185 | 23 => 186 | 24 => 187 | 25 => 188 | 26 => 189 | 27 => 190 | 46 => 202 | 47 => 123 | 48 => 124 | 49 => 203 | 50 => 204 | 57 => 208 | n => n, fun | 22 => 87 | 24 => 218 | 25 => 221 | 3 => 3 | 39 => 107 | 0 => 0 | 53 => 144 | 55 => 146 | 4 => 4 | 46 => 137 | 45 => 136 | 50 => 141 | 5 => 5 | 9 => 9 | 66 => 195 | 70 => 199 | 76 => 233 | 77 => 234 | n => n, fun | n => n⟩
theorem Tryz.g143 : Go.Proofs.SlLaysF0.n6 Tryz.prog Tryz.g143_ren := {
 mixed := by kernel_rfl
 f6 := ⟨Tryz.f143.name, by decide, Tryz.func143.trans (congrArg some (by kernel_rfl))⟩
 f14 := ⟨Tryz.f173.name, by decide, Tryz.func173.trans (congrArg some (by kernel_rfl))⟩
 f15 := Tryz.func38.trans (congrArg some (by kernel_rfl))
 f20 := ⟨Tryz.f183.name, by decide, Tryz.func183.trans (congrArg some (by kernel_rfl))⟩
 f21 := ⟨Tryz.f184.name, by decide, Tryz.func184.trans (congrArg some (by kernel_rfl))⟩
 f22 := ⟨Tryz.f185.name, by decide, Tryz.func185.trans (congrArg some (by kernel_rfl))⟩
 f23 := ⟨Tryz.f186.name, by decide, Tryz.func186.trans (congrArg some (by kernel_rfl))⟩
 f24 := ⟨Tryz.f187.name, by decide, Tryz.func187.trans (congrArg some (by kernel_rfl))⟩
 f25 := ⟨Tryz.f188.name, by decide, Tryz.func188.trans (congrArg some (by kernel_rfl))⟩
 f26 := ⟨Tryz.f189.name, by decide, Tryz.func189.trans (congrArg some (by kernel_rfl))⟩
 f27 := ⟨Tryz.f190.name, by decide, Tryz.func190.trans (congrArg some (by kernel_rfl))⟩
 f28 := Tryz.func76.trans (congrArg some (by kernel_rfl))
 f29 := Tryz.func77.trans (congrArg some (by kernel_rfl))
 f46 := ⟨Tryz.f202.name, by decide, Tryz.func202.trans (congrArg some (by kernel_rfl))⟩
 f47 := Tryz.func123.trans (congrArg some (by kernel_rfl))
 f48 := Tryz.func124.trans (congrArg some (by kernel_rfl))
 f49 := ⟨Tryz.f203.name, by decide, Tryz.func203.trans (congrArg some (by kernel_rfl))⟩
 f50 := ⟨Tryz.f204.name, by decide, Tryz.func204.trans (congrArg some (by kernel_rfl))⟩
 f57 := ⟨Tryz.f208.name, by decide, Tryz.func208.trans (congrArg some (by kernel_rfl))⟩
 t0 := Tryz.underlying0
 a0 := Tryz.isAgg0
 z0 := Tryz.sizeOf0
 v0 := Tryz.zeroValue0
 t3 := Tryz.underlying3
 a3 := Tryz.isAgg3
 z3 := Tryz.sizeOf3
 v3 := Tryz.zeroValue3
 t4 := Tryz.underlying4
 a4 := Tryz.isAgg4
 z4 := Tryz.sizeOf4
 v4 := Tryz.zeroValue4
 t5 := Tryz.underlying5
 a5 := Tryz.isAgg5
 z5 := Tryz.sizeOf5
 v5 := Tryz.zeroValue5
 t9 := Tryz.underlying9
 a9 := Tryz.isAgg9
 z9 := Tryz.sizeOf9
 v9 := Tryz.zeroValue9
 t22 := Tryz.underlying87
 a22 := Tryz.isAgg87
 z22 := Tryz.sizeOf87
 v22 := Tryz.zeroValue87
 t25 := Tryz.underlying221
 a25 := Tryz.isAgg221
 z25 := Tryz.sizeOf221
 v25 := Tryz.zeroValue221
 t39 := Tryz.underlying107
 a39 := Tryz.isAgg107
 z39 := Tryz.sizeOf107
 v39 := Tryz.zeroValue107
 t45 := Tryz.underlying136
 a45 := Tryz.isAgg136
 z45 := Tryz.sizeOf136
 v45 := Tryz.zeroValue136
 t46 := Tryz.underlying137
 a46 := Tryz.isAgg137
 z46 := Tryz.sizeOf137
 v46 := Tryz.zeroValue137
 t50 := Tryz.underlying141
 a50 := Tryz.isAgg141
 z50 := Tryz.sizeOf141
 v50 := Tryz.zeroValue141
 t53 := Tryz.underlying144
 a53 := Tryz.isAgg144
 z53 := Tryz.sizeOf144
 v53 := Tryz.zeroValue144
 t55 := Tryz.underlying146
 a55 := Tryz.isAgg146
 z55 := Tryz.sizeOf146
 v55 := Tryz.zeroValue146
 t66 := Tryz.underlying195
 a66 := Tryz.isAgg195
 z66 := Tryz.sizeOf195
 v66 := Tryz.zeroValue195
 t70 := Tryz.underlying199
 a70 := Tryz.isAgg199
 z70 := Tryz.sizeOf199
 v70 := Tryz.zeroValue199
 t76 := Tryz.underlying233
 a76 := Tryz.isAgg233
 z76 := Tryz.sizeOf233
 v76 := Tryz.zeroValue233
 t77 := Tryz.underlying234
 a77 := Tryz.isAgg234
 z77 := Tryz.sizeOf234
 v77 := Tryz.zeroValue234 }
end
end Go.Proofs
