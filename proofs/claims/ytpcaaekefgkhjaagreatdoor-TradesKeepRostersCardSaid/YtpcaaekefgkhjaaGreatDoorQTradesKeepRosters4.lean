/- Part 4 of the proof: a program logic, contracts of functions and plain facts; no conditions. -/
import Derived.Test.YtpcaaekefgkhjaaGreatDoorQTradesKeepRosters3
import Derived.KernelRfl
import Derived.Lib.AtoiBound
import Derived.Lib.ItoaMem
import Derived.Lib.Join
import Derived.Lib.SplitLaws
import Derived.Lib.Strings
import Derived.Shelf.Slices.CompactI
import Derived.Shelf.Slices.In.SortNone
import Derived.Shelf.Sort.Plain
set_option linter.unusedVariables false
set_option linter.unusedSimpArgs false
namespace Go.Proofs.YtpcaaekefgkhjaaGreatDoor
set_option maxRecDepth 100000
set_option linter.unusedVariables false
set_option linter.unusedSimpArgs false
section
open Go.HL
/-- benchwarmer/trade.isTeam -/
theorem zdv [Tracks] {m : MarketS} {t : Str} (hm : MarketOk m) : ConP Tryz.prog 51 [.vptr (zn (zaM m)) 0, .str t] (.bool (m.Teams.contains t)) := by
 refine Con.of_body Tryz.func51 rfl Tryz.ntmps51 rfl rfl ?_
 refine za ?_
 refine das rfl ?_
 refine dn ?_
 refine za ?_
 refine dmv rfl ?_
 refine dq ((by first | exact zx rfl | exact zo rfl)) ?_
 refine dq (zb zV rfl zR (by decide) rfl) ?_
 refine dq (zg zR rfl rfl rfl) ?_
 refine dmv rfl ?_
 refine dq (zp ca84 rfl (WeakL.refl _) (zeo (l := m.Teams) (s := t) (by have := hm.len; omega) hm.sorted)) ?_
 refine dmv rfl ?_
 refine dq (zab rfl rfl) ?_
 refine dq (zab rfl rfl) ?_
 refine das rfl ?_
 refine das rfl ?_
 refine dn ?_
 refine za ?_
 refine dmv rfl ?_
 refine das rfl ?_
 refine dn ?_
 refine zl ?_
 refine zC rfl ?_
 rfl

/-- benchwarmer/trade.CheckMarket -/
theorem zdU [Tracks] {m : MarketS} (ht : m.Teams.length ≤ 1000000) : ConP Tryz.prog 64 [zaM m] (.int .i64 (zag m)) := by
 refine Con.of_body Tryz.func64 rfl Tryz.ntmps64 rfl rfl ?_
 refine za ?_
 refine dq (zat rfl rfl) ?_
 refine das rfl ?_
 refine dn ?_
 refine zj ?_
 refine zq ?_
 refine za ?_
 refine dq (zb zV rfl zR (by decide) rfl) ?_
 refine dq (zg zR rfl rfl rfl) ?_
 refine dq (zI zR rfl) ?_
 refine dq (zas rfl rfl) ?_
 refine das rfl ?_
 refine dn ?_
 refine zi rfl (fun h1 => ?_) (fun h2 => ?_)
 ·try simp at h1
  refine za ?_
  refine das rfl ?_
  refine dn ?_
  refine zl ?_
  refine zC rfl ?_
  show HVal.int .i64 _ = _
  first
  | (rw [zag, if_pos (by simpa using h1)]; done)
  | (rw [zag, if_neg (by simpa using h2), if_pos (by omega)]; done)
  | (rw [zag, if_neg (by simpa using h2), if_neg (by omega)]; simp_all; done)
 ·try simp at h2
  refine za ?_
  refine dq (zb zV rfl zR (by decide) rfl) ?_
  refine dq (zg zR rfl rfl rfl) ?_
  refine dq (zI zR rfl) ?_
  refine dq (zad rfl rfl) ?_
  refine das rfl ?_
  refine dn ?_
  refine zi rfl (fun h3 => ?_) (fun h4 => ?_)
  ·try simp at h3
   refine za ?_
   refine das rfl ?_
   refine dn ?_
   refine zl ?_
   refine zC rfl ?_
   show HVal.int .i64 _ = _
   first
   | (rw [zag, if_pos (by simpa using h1)]; done)
   | (rw [zag, if_neg (by simpa using h2), if_pos (by omega)]; done)
   | (rw [zag, if_neg (by simpa using h2), if_neg (by omega)]; simp_all; done)
  ·try simp at h4
   refine zm ?_
   refine zy ?_
   refine zh ?_
   refine zj ?_
   refine za ?_
   refine dq (zb zV rfl zR (by decide) rfl) ?_
   refine dq (zg zR rfl rfl rfl) ?_
   refine dq (zp zsa rfl (WeakL.refl _) (zij (by first | assumption | omega | (simp; omega) | simp_all))) ?_
   refine das rfl ?_
   refine dn ?_
   refine za ?_
   refine dmv rfl ?_
   refine dq (zaK rfl rfl) ?_
   refine dn ?_
   refine zi rfl (fun h5 => ?_) (fun h6 => ?_)
   ·try simp at h5
    refine za ?_
    refine dmv rfl ?_
    refine das rfl ?_
    refine dn ?_
    refine zl ?_
    refine zC rfl ?_
    show HVal.int .i64 _ = _
    first
    | (rw [zag, if_pos (by simpa using h1)]; done)
    | (rw [zag, if_neg (by simpa using h2), if_pos (by omega)]; done)
    | (rw [zag, if_neg (by simpa using h2), if_neg (by omega)]; simp_all; done)
   ·try simp at h6
    refine zm ?_
    refine zh ?_
    refine zj ?_
    refine za ?_
    refine dq (zb zV rfl ty3 (by decide) rfl) ?_
    refine dq (zg ty3 rfl rfl rfl) ?_
    refine dq (zp zdu rfl (WeakL.refl _) za1) ?_
    refine dmv rfl ?_
    refine dg rfl rfl (fun hc => ⟨_, OpenTo.refl _, zb zV rfl ty3 (by decide) rfl⟩) ?_
    refine dg rfl rfl (fun hc => ⟨_, OpenTo.upd (t := 24) rfl (by first | exact hc | simp_all) (OpenTo.refl _), zg ty3 rfl rfl rfl⟩) ?_
    refine dg rfl rfl (fun hc => ⟨_, OpenTo.upd (t := 25) rfl (by first | exact hc | simp_all) (OpenTo.refl _), zp zdu rfl (WeakL.refl _) za1⟩) ?_
    refine dq (zz rfl (.inl rfl) (.inr ⟨_, rfl, fun h => by simp_all⟩)) ?_
    refine dmv rfl ?_
    refine dg rfl rfl (fun hc => ⟨_, OpenTo.refl _, zb zV rfl ty3 (by decide) rfl⟩) ?_
    refine dg rfl rfl (fun hc => ⟨_, OpenTo.upd (t := 29) rfl (by first | exact hc | simp_all) (OpenTo.refl _), zg ty3 rfl rfl rfl⟩) ?_
    refine dg rfl rfl (fun hc => ⟨_, OpenTo.upd (t := 30) rfl (by first | exact hc | simp_all) (OpenTo.refl _), zp zdu rfl (WeakL.refl _) za1⟩) ?_
    refine dq (zz rfl (.inl rfl) (.inr ⟨_, rfl, fun h => by simp_all⟩)) ?_
    refine dmv rfl ?_
    refine dg rfl rfl (fun hc => ⟨_, OpenTo.refl _, zb zV rfl ty3 (by decide) rfl⟩) ?_
    refine dg rfl rfl (fun hc => ⟨_, OpenTo.upd (t := 34) rfl (by first | exact hc | simp_all) (OpenTo.refl _), zg ty3 rfl rfl rfl⟩) ?_
    refine dg rfl rfl (fun hc => ⟨_, OpenTo.refl _, zb zV rfl ty3 (by decide) rfl⟩) ?_
    refine dg rfl rfl (fun hc => ⟨_, OpenTo.upd (t := 36) rfl (by first | exact hc | simp_all) (OpenTo.refl _), zg ty3 rfl rfl rfl⟩) ?_
    refine dg rfl rfl (fun hc => ⟨_, OpenTo.upd (t := 37) rfl (by first | exact hc | simp_all) (OpenTo.upd (t := 35) rfl (by first | exact hc | simp_all) (OpenTo.refl _)), zp zdu rfl (WeakL.refl _) za1⟩) ?_
    refine dq (zz rfl (.inl rfl) (.inr ⟨_, rfl, fun h => by simp_all⟩)) ?_
    refine dmv rfl ?_
    refine dg rfl rfl (fun hc => ⟨_, OpenTo.refl _, zb zV rfl ty3 (by decide) rfl⟩) ?_
    refine dg rfl rfl (fun hc => ⟨_, OpenTo.upd (t := 41) rfl (by first | exact hc | simp_all) (OpenTo.refl _), zg ty3 rfl rfl rfl⟩) ?_
    refine dg rfl rfl (fun hc => ⟨_, OpenTo.upd (t := 42) rfl (by first | exact hc | simp_all) (OpenTo.refl _), zad rfl rfl⟩) ?_
    refine dq (zz rfl (.inl rfl) (.inr ⟨_, rfl, fun h => by simp_all⟩)) ?_
    refine dn ?_
    refine zi rfl (fun h7 => ?_) (fun h8 => ?_)
    ·try simp at h7
     refine za ?_
     refine das rfl ?_
     refine dn ?_
     refine zl ?_
     refine zC rfl ?_
     show HVal.int .i64 _ = _
     first
     | (rw [zag, if_pos (by simpa using h1)]; done)
     | (rw [zag, if_neg (by simpa using h2), if_pos (by omega)]; done)
     | (rw [zag, if_neg (by simpa using h2), if_neg (by omega)]; simp_all; done)
    ·try simp at h8
     refine zm ?_
     refine zh ?_
     refine za ?_
     refine das rfl ?_
     refine dn ?_
     refine zl ?_
     refine zC rfl ?_
     show HVal.int .i64 _ = _
     first
     | (rw [zag, if_pos (by simpa using h1)]; done)
     | (rw [zag, if_neg (by simpa using h2), if_pos (by omega)]; done)
     | (rw [zag, if_neg (by simpa using h2), if_neg (by omega)]; simp_all; done)

/-- benchwarmer/trade.within$1 -/
theorem zkq [Tracks] {m : MarketS} {o : List OwnerS} {L : zdj} {t : Str} (hL : ∀ t, lkI L t = .int .i64 (zdt o t)) : ConP Tryz.prog 110 [.str t, .vptr [hsm L] 0, .vptr [.vptr (zn (zaM m)) 0] 0] (.bool (out (zdt o t) m.Least m.Most)) := by
 refine Con.of_body Tryz.func110 rfl Tryz.ntmps110 rfl rfl ?_
 refine za ?_
 refine das rfl ?_
 refine dn ?_
 refine zaH (fun _ => True) [] mixed ?_
 refine ahp 0 rfl rfl (by kernel_rfl) (by kernel_rfl) (zg zdV rfl rfl rfl) ?_
 refine ahp 1 rfl rfl (by kernel_rfl) (by kernel_rfl) (zf rfl) ?_
 refine ahp 2 rfl rfl (by kernel_rfl) (by kernel_rfl) (ze4 (znq zdV ty9 ty3 rfl rfl) (show _ = _ from hL t)) ?_
 refine ahp 3 rfl rfl (by kernel_rfl) (by kernel_rfl) (zg zdR rfl rfl rfl) ?_
 refine ahp 4 rfl rfl (by kernel_rfl) (by kernel_rfl) ((by first | exact zx rfl | exact zo rfl)) ?_
 refine ahp 5 rfl rfl (by kernel_rfl) (by kernel_rfl) (zb zV rfl ty3 (by decide) rfl) ?_
 refine ahp 6 rfl rfl (by kernel_rfl) (by kernel_rfl) (zg ty3 rfl rfl rfl) ?_
 refine ahp 7 rfl rfl (by kernel_rfl) (by kernel_rfl) (zg zdR rfl rfl rfl) ?_
 refine ahp 8 rfl rfl (by kernel_rfl) (by kernel_rfl) ((by first | exact zx rfl | exact zo rfl)) ?_
 refine ahp 9 rfl rfl (by kernel_rfl) (by kernel_rfl) (zb zV rfl ty3 (by decide) rfl) ?_
 refine ahp 10 rfl rfl (by kernel_rfl) (by kernel_rfl) (zg ty3 rfl rfl rfl) ?_
 refine ahp 11 rfl rfl (by kernel_rfl) (by kernel_rfl) (zp zdu rfl (WeakL.refl _) za1) ?_
 refine ahp 12 rfl rfl (by kernel_rfl) (by kernel_rfl) (zau rfl) ?_
 refine ahz (by kernel_rfl) ?_
 refine zl ?_
 refine zC rfl ?_
 rfl

/-- benchwarmer/trade.within -/
theorem zhi [Tracks] {m : MarketS} {o : List OwnerS} (ht : m.Teams.length ≤ 1000000) (ho : o.length ≤ 1000000) : ConP Tryz.prog 66 [.vptr (zn (zaM m)) 0, zbe o] (.bool (ze8 m o)) := by
 refine Con.of_body Tryz.func66 rfl Tryz.ntmps66 rfl rfl ?_
 refine za ?_
 refine dq (zat rfl rfl) ?_
 refine das rfl ?_
 refine dn ?_
 refine za ?_
 refine de rfl (zbo fun m8 => ?_)
 refine de rfl (zZ zdV rfl fun b5 => ?_)
 refine de0 (zah zdV rfl rfl rfl rfl rfl ?_)
 refine dn ?_
 refine zM (Ghost.fc0 5 rfl) ?_
 refine zj ?_
 refine za ?_
 refine dmv rfl ?_
 refine dq (zI zaR rfl) ?_
 refine dmv rfl ?_
 refine dn ?_
 refine zq ?_
 refine za9 [7, 11, 12, 13, 14, 15, 16, 17, 18, 19, 20] (fun (k : Nat) (L : zdj) => [(11, .int .i64 k)]) (fun (k : Nat) (L : zdj) => [.map m8 (sk L)]) (fun (k : Nat) (L : zdj) => k ≤ o.length ∧ (∀ t, lkI L t = .int .i64 (zdt (o.take k) t))) (fun (k : Nat) (L : zdj) => o.length - k) (0) ([]) ?_ ?_ ?_ ?_
 ·exact ⟨Nat.zero_le _, fun t => by simp [lkI, zaz, zdt]⟩
 ·exact ⟨rfl, trivial⟩
 ·exact zQ rfl
 ·intro k L hinv
  obtain ⟨hk, hL⟩ := hinv
  refine za ?_
  refine dq (zS rfl rfl) ?_
  refine dn ?_
  refine zj ?_
  refine zi rfl (fun h1 => ?_) (fun h2 => ?_)
  ·try simp at h1
   obtain ⟨x, hx⟩ : ∃ x, o[k]? = some x := ⟨_, List.getElem?_eq_getElem h1⟩
   have hdx := zU hx
   have hcb := zo1 (o.take k) x.Team
   rw [List.length_take] at hcb
   refine zm ?_
   refine zh ?_
   refine zj ?_
   refine zq ?_
   refine za ?_
   refine dq (zW zaR zap rfl rfl rfl (by first | assumption | simp_all)) ?_
   refine dq (zH zap rfl rfl rfl rfl) ?_
   refine de rfl (zZ zap rfl fun b7 => ?_)
   refine de0 (zah zap rfl rfl rfl rfl rfl ?_)
   refine dn ?_
   refine zM (Ghost.fc0 7 rfl) ?_
   refine zD ?_
   refine dq (zg zdV rfl rfl rfl) ?_
   refine dq (zb zap rfl ty9 (by decide) rfl) ?_
   refine dq (zg ty9 rfl rfl rfl) ?_
   refine de rfl (zok (i := 0) zdV ty9 ty3 rfl rfl rfl (hL x.Team) ?_)
   refine dq (zB rfl rfl (by omega) (by omega)) ?_
   refine de0 (zfP (i := 0) zdV ty9 rfl rfl rfl rfl ?_)
   refine dn ?_
   refine zy ?_
   refine zh ?_
   refine zD ?_
   refine dq (zB rfl rfl (by omega) (by omega)) ?_
   refine dmv rfl ?_
   refine dn ?_
   refine ⟨k + 1, _, ?_, ?_, ⟨rfl, trivial⟩, (by repeat (first | exact zt | refine zw rfl ?_ | refine zu rfl rfl ?_)), zQ rfl⟩
   ·refine ⟨by omega, fun t => ?_⟩
    rw [zlP, zkb o t k x hx]
    by_cases e : t = x.Team
    ·rw [if_pos e, if_pos e.symm, e]
    ·rw [if_neg e, if_neg (fun q => e q.symm), hL t, Int.add_zero]
   ·dsimp only; omega
  ·try simp at h2
   have hnk : o.length ≤ k := by omega
   obtain rfl : k = o.length := by omega
   rw [List.take_length] at hL
   refine zX ?_
   refine z8 ?_
   refine zbj ?_
   refine zO ?_
   refine zh ?_
   refine za ?_
   refine dq (zg zdR rfl rfl rfl) ?_
   refine dq ((by first | exact zx rfl | exact zo rfl)) ?_
   refine dq (zb zV rfl zR (by decide) rfl) ?_
   refine dq (zg zR rfl rfl rfl) ?_
   refine dq (zgq rfl rfl) ?_
   refine de rfl (zpU (hs' := [eSs m.Teams, .fn (.func 110) [] [.vptr [hsm L] 0, .vptr [.vptr (zn (zaM m)) 0] 0]]) ztN rfl ⟨.refl, .fnL ⟨.vptrL ⟨.map (i := 0) rfl, trivial⟩, .refl, trivial⟩, trivial⟩ (zel (p := fun t => out (zdt o t) m.Least m.Most) zus (fun _ => zkq hL) ht) rfl ?_)
   refine dq (zac rfl) ?_
   refine das rfl ?_
   refine dn ?_
   refine zl ?_
   refine zb2 Ghost.clear rfl ⟨?_, rfl⟩
   show HVal.bool _ = _
   rw [← zp7]

/-- benchwarmer/trade.CheckOwners -/
theorem zff [Tracks] {m : MarketS} {o : List OwnerS} (ht : m.Teams.length ≤ 1000000) (ho : o.length ≤ 1000000) : ConP Tryz.prog 31 [zaM m, zbe o] (.int .i64 (zbJ m o)) := by
 refine Con.of_body Tryz.func31 rfl Tryz.ntmps31 rfl rfl ?_
 refine za ?_
 refine dq (zat rfl rfl) ?_
 refine das rfl ?_
 refine dn ?_
 refine zj ?_
 refine za ?_
 refine dq (zH zV rfl rfl rfl rfl) ?_
 refine dq (zp zq2 rfl (WeakL.refl _) (zdU (by first | assumption | omega | (simp; omega) | simp_all))) ?_
 refine das rfl ?_
 refine dn ?_
 refine za ?_
 refine dmv rfl ?_
 refine dq (zaK rfl rfl) ?_
 refine dn ?_
 refine zi rfl (fun h1 => ?_) (fun h2 => ?_)
 ·try simp at h1
  refine za ?_
  refine dmv rfl ?_
  refine das rfl ?_
  refine dn ?_
  refine zl ?_
  refine zC rfl ?_
  show HVal.int .i64 _ = _
  first
  | (rw [zbJ, if_pos (by simpa using h1)]; done)
  | (rw [hE]; exact congrArg _ (zcS (by omega)))
  | (rw [hE, ← zcU (by omega) hg]; simp_all; done)
  | (rw [hE]
     refine congrArg _ (zbd (e := 5) (by omega) hg (by decide) ?_)
     rw [zaU, if_pos]
     simp_all
     done)
  | (rw [hE]
     refine congrArg _ (zbd (e := 8) (by omega) hg (by decide) ?_)
     rw [zaU, if_neg, if_pos]
     all_goals simp_all
     done)
  | (rw [hE]
     refine congrArg _ (zcR (by omega) hg ?_ ?_ ?_)
     ·rw [zaU, if_neg, if_neg] <;> simp_all
     ·simp_all
     ·simp_all)
 ·try simp at h2
  refine zm ?_
  refine zh ?_
  refine zj ?_
  have hz : zag m = 0 := by simpa using h2
  have hm := zhQ hz
  have ht20 := hm.len
  have hE : zbJ m o = zb0 m o := by rw [zbJ, if_neg (by simp [hz])]
  refine za ?_
  refine dmv rfl ?_
  refine dq (zI zaR rfl) ?_
  refine dq (zad rfl rfl) ?_
  refine dn ?_
  refine zi rfl (fun h3 => ?_) (fun h4 => ?_)
  ·try simp at h3
   refine za ?_
   refine das rfl ?_
   refine dn ?_
   refine zl ?_
   refine zC rfl ?_
   show HVal.int .i64 _ = _
   first
   | (rw [zbJ, if_pos (by simpa using h1)]; done)
   | (rw [hE]; exact congrArg _ (zcS (by omega)))
   | (rw [hE, ← zcU (by omega) hg]; simp_all; done)
   | (rw [hE]
      refine congrArg _ (zbd (e := 5) (by omega) hg (by decide) ?_)
      rw [zaU, if_pos]
      simp_all
      done)
   | (rw [hE]
      refine congrArg _ (zbd (e := 8) (by omega) hg (by decide) ?_)
      rw [zaU, if_neg, if_pos]
      all_goals simp_all
      done)
   | (rw [hE]
      refine congrArg _ (zcR (by omega) hg ?_ ?_ ?_)
      ·rw [zaU, if_neg, if_neg] <;> simp_all
      ·simp_all
      ·simp_all)
  ·try simp at h4
   refine zm ?_
   refine zh ?_
   refine zj ?_
   refine za ?_
   refine dmv rfl ?_
   refine dq (zI zaR rfl) ?_
   refine dmv rfl ?_
   refine dn ?_
   refine zq ?_
   refine zai [4, 6, 7, 18, 19, 20, 21, 22, 23, 24, 25, 26, 27, 28, 29, 30, 31, 32, 33, 34, 35, 36, 37, 38, 39, 40, 41, 42, 43, 44, 45, 46, 47] (fun (k : Nat) => [(18, .int .i64 k)]) (fun (k : Nat) => []) (fun (k : Nat) => k ≤ o.length ∧ (zc7 m o = zav (zaU m) zdX zbR o k (o.drop k))) (fun (k : Nat) => o.length - k) (0) ?_ ?_ ?_ ?_
   ·exact ⟨Nat.zero_le _, rfl⟩
   ·exact ⟨rfl, trivial⟩
   ·exact List.Perm.refl _
   ·intro k hinv
    obtain ⟨hk, hg⟩ := hinv
    refine za ?_
    refine dq (zS rfl rfl) ?_
    refine dn ?_
    refine zj ?_
    refine zi rfl (fun h5 => ?_) (fun h6 => ?_)
    ·try simp at h5
     obtain ⟨x, hx⟩ : ∃ x, o[k]? = some x := ⟨_, List.getElem?_eq_getElem h5⟩
     have hdx := zU hx
     rw [hdx] at hg
     refine zm ?_
     refine zh ?_
     refine zj ?_
     refine zq ?_
     refine za ?_
     refine dmv rfl ?_
     refine dq (zW zaR zap rfl rfl rfl (by first | assumption | simp_all)) ?_
     refine dq (zH zap rfl rfl rfl rfl) ?_
     refine de rfl (zZ zap rfl fun b7 => ?_)
     refine das rfl ?_
     refine de0 (zah zap rfl rfl rfl rfl rfl ?_)
     refine dn ?_
     refine zM (Ghost.fc0 7 rfl) ?_
     refine zq ?_
     refine za ?_
     refine dq (zb zap rfl ty9 (by decide) rfl) ?_
     refine dq (zg ty9 rfl rfl rfl) ?_
     refine dq (zp ze0 rfl (WeakL.refl _) zby) ?_
     refine dq (zac rfl) ?_
     refine das rfl ?_
     refine dn ?_
     refine zi rfl (fun h7 => ?_) (fun h8 => ?_)
     ·try simp at h7
      refine za ?_
      refine das rfl ?_
      refine dn ?_
      refine zl ?_
      refine zC rfl ?_
      show HVal.int .i64 _ = _
      first
      | (rw [zbJ, if_pos (by simpa using h1)]; done)
      | (rw [hE]; exact congrArg _ (zcS (by omega)))
      | (rw [hE, ← zcU (by omega) hg]; simp_all; done)
      | (rw [hE]
         refine congrArg _ (zbd (e := 5) (by omega) hg (by decide) ?_)
         rw [zaU, if_pos]
         simp_all
         done)
      | (rw [hE]
         refine congrArg _ (zbd (e := 8) (by omega) hg (by decide) ?_)
         rw [zaU, if_neg, if_pos]
         all_goals simp_all
         done)
      | (rw [hE]
         refine congrArg _ (zcR (by omega) hg ?_ ?_ ?_)
         ·rw [zaU, if_neg, if_neg] <;> simp_all
         ·simp_all
         ·simp_all)
     ·try simp at h8
      refine za ?_
      refine dq (zb zap rfl ty9 (by decide) rfl) ?_
      refine dq (zg ty9 rfl rfl rfl) ?_
      refine dq (zp zoh rfl (WeakL.refl _) (zdv hm)) ?_
      refine dq (zac rfl) ?_
      refine das rfl ?_
      refine dn ?_
      refine zi rfl (fun h9 => ?_) (fun h10 => ?_)
      ·try simp at h9
       refine za ?_
       refine das rfl ?_
       refine dn ?_
       refine zl ?_
       refine zC rfl ?_
       show HVal.int .i64 _ = _
       first
       | (rw [zbJ, if_pos (by simpa using h1)]; done)
       | (rw [hE]; exact congrArg _ (zcS (by omega)))
       | (rw [hE, ← zcU (by omega) hg]; simp_all; done)
       | (rw [hE]
          refine congrArg _ (zbd (e := 5) (by omega) hg (by decide) ?_)
          rw [zaU, if_pos]
          simp_all
          done)
       | (rw [hE]
          refine congrArg _ (zbd (e := 8) (by omega) hg (by decide) ?_)
          rw [zaU, if_neg, if_pos]
          all_goals simp_all
          done)
       | (rw [hE]
          refine congrArg _ (zcR (by omega) hg ?_ ?_ ?_)
          ·rw [zaU, if_neg, if_neg] <;> simp_all
          ·simp_all
          ·simp_all)
      ·try simp at h10
       refine zaH (fun _ => True) [] mixed ?_
       refine ahp 0 rfl rfl (by kernel_rfl) (by kernel_rfl) (zf rfl) ?_
       refine ahp 1 rfl rfl (by kernel_rfl) (by kernel_rfl) (zad rfl rfl) ?_
       refine ahp 2 rfl rfl (by kernel_rfl) (by kernel_rfl) (zf rfl) ?_
       refine ahg 3 rfl rfl (by kernel_rfl) (by kernel_rfl) rfl (fun hc => ⟨_, OpenTo.refl _, zb zap rfl ty9 (by decide) rfl⟩) ?_
       refine ahg 4 rfl rfl (by kernel_rfl) (by kernel_rfl) rfl (fun hc => ⟨_, OpenTo.upd (t := 37) rfl (by first | exact hc | simp_all) (OpenTo.refl _), zg ty9 rfl rfl rfl⟩) ?_
       refine ahg 5 rfl rfl (by kernel_rfl) (by kernel_rfl) rfl (fun hc => ⟨_, OpenTo.refl _, zf rfl⟩) ?_
       refine ahg 6 rfl rfl (by kernel_rfl) (by kernel_rfl) rfl (fun hc => ⟨_, OpenTo.refl _, zf rfl⟩) ?_
       refine ahg 7 rfl rfl (by kernel_rfl) (by kernel_rfl) rfl (fun hc => by have hq := hc; (try simp at hq); exact ⟨_, OpenTo.upd (t := 40) rfl (by first | exact hc | simp_all) (OpenTo.refl _), zar rfl rfl (by omega) (by omega)⟩) ?_
       refine ahg 8 rfl rfl (by kernel_rfl) (by kernel_rfl) rfl (fun hc => by have hq := hc; (try simp at hq); exact ⟨_, OpenTo.upd (t := 41) rfl (by first | exact hc | simp_all) (OpenTo.upd (t := 39) rfl (by first | exact hc | simp_all) (OpenTo.refl _)), zW (j := k - 1) (a := o.getD (k - 1) zbR) zaR zap rfl rfl (by omega) (getD_some (by omega))⟩) ?_
       refine ahg 9 rfl rfl (by kernel_rfl) (by kernel_rfl) rfl (fun hc => ⟨_, OpenTo.upd (t := 42) rfl (by first | exact hc | simp_all) (OpenTo.refl _), zb zap rfl ty9 (by decide) rfl⟩) ?_
       refine ahg 10 rfl rfl (by kernel_rfl) (by kernel_rfl) rfl (fun hc => ⟨_, OpenTo.upd (t := 43) rfl (by first | exact hc | simp_all) (OpenTo.refl _), zg ty9 rfl rfl rfl⟩) ?_
       refine ahg 11 rfl rfl (by kernel_rfl) (by kernel_rfl) rfl (fun hc => ⟨_, OpenTo.upd (t := 44) rfl (by first | exact hc | simp_all) (OpenTo.upd (t := 38) rfl (by first | exact hc | simp_all) (OpenTo.refl _)), zdk rfl rfl⟩) ?_
       refine ahp 12 rfl rfl (by kernel_rfl) (by kernel_rfl) (zz rfl (.inr ⟨_, rfl, fun h => by simp_all⟩) (.inl rfl)) ?_
       refine ahp 13 rfl rfl (by kernel_rfl) (by kernel_rfl) (zau rfl) ?_
       refine ahz (by kernel_rfl) ?_
       refine zi rfl (fun h11 => ?_) (fun h12 => ?_)
       ·try simp at h11
        refine za ?_
        refine das rfl ?_
        refine dn ?_
        refine zl ?_
        refine zC rfl ?_
        show HVal.int .i64 _ = _
        first
        | (rw [zbJ, if_pos (by simpa using h1)]; done)
        | (rw [hE]; exact congrArg _ (zcS (by omega)))
        | (rw [hE, ← zcU (by omega) hg]; simp_all; done)
        | (rw [hE]
           refine congrArg _ (zbd (e := 5) (by omega) hg (by decide) ?_)
           rw [zaU, if_pos]
           simp_all
           done)
        | (rw [hE]
           refine congrArg _ (zbd (e := 8) (by omega) hg (by decide) ?_)
           rw [zaU, if_neg, if_pos]
           all_goals simp_all
           done)
        | (rw [hE]
           refine congrArg _ (zcR (by omega) hg ?_ ?_ ?_)
           ·rw [zaU, if_neg, if_neg] <;> simp_all
           ·simp_all
           ·simp_all)
       ·try simp at h12
        refine zm ?_
        refine zy ?_
        refine zy ?_
        refine zh ?_
        refine zD ?_
        refine dq (zB rfl rfl (by omega) (by omega)) ?_
        refine dmv rfl ?_
        refine dn ?_
        refine ⟨k + 1, ?_, ?_, ⟨rfl, trivial⟩, (by repeat (first | exact zt | refine zw rfl ?_ | refine zu rfl rfl ?_)), List.Perm.refl _⟩
        ·refine ⟨by omega, ?_⟩
         rw [hg, zni (by rw [zaU, if_neg (by simp_all), if_neg (by simp_all)]) (by intro hk0; simp_all)]
        ·dsimp only; omega
    ·try simp at h6
     have hnk : o.length ≤ k := by omega
     obtain rfl : k = o.length := by omega
     rw [zaT (Nat.le_refl _)] at hg
     refine zX ?_
     refine z8 ?_
     refine zax ?_
     refine zO ?_
     refine zh ?_
     refine zj ?_
     refine za ?_
     refine dmv rfl ?_
     refine dq (zp ca66 rfl (WeakL.refl _) (zhi (by first | assumption | omega | (simp; omega) | simp_all) (by first | assumption | omega | (simp; omega) | simp_all))) ?_
     refine dq (zac rfl) ?_
     refine dn ?_
     refine zi rfl (fun h13 => ?_) (fun h14 => ?_)
     ·try simp at h13
      refine za ?_
      refine das rfl ?_
      refine dn ?_
      refine zl ?_
      refine zC rfl ?_
      show HVal.int .i64 _ = _
      first
      | (rw [zbJ, if_pos (by simpa using h1)]; done)
      | (rw [hE]; exact congrArg _ (zcS (by omega)))
      | (rw [hE, ← zcU (by omega) hg]; simp_all; done)
      | (rw [hE]
         refine congrArg _ (zbd (e := 5) (by omega) hg (by decide) ?_)
         rw [zaU, if_pos]
         simp_all
         done)
      | (rw [hE]
         refine congrArg _ (zbd (e := 8) (by omega) hg (by decide) ?_)
         rw [zaU, if_neg, if_pos]
         all_goals simp_all
         done)
      | (rw [hE]
         refine congrArg _ (zcR (by omega) hg ?_ ?_ ?_)
         ·rw [zaU, if_neg, if_neg] <;> simp_all
         ·simp_all
         ·simp_all)
     ·try simp at h14
      refine zm ?_
      refine zh ?_
      refine za ?_
      refine das rfl ?_
      refine dn ?_
      refine zl ?_
      refine zC rfl ?_
      show HVal.int .i64 _ = _
      first
      | (rw [zbJ, if_pos (by simpa using h1)]; done)
      | (rw [hE]; exact congrArg _ (zcS (by omega)))
      | (rw [hE, ← zcU (by omega) hg]; simp_all; done)
      | (rw [hE]
         refine congrArg _ (zbd (e := 5) (by omega) hg (by decide) ?_)
         rw [zaU, if_pos]
         simp_all
         done)
      | (rw [hE]
         refine congrArg _ (zbd (e := 8) (by omega) hg (by decide) ?_)
         rw [zaU, if_neg, if_pos]
         all_goals simp_all
         done)
      | (rw [hE]
         refine congrArg _ (zcR (by omega) hg ?_ ?_ ?_)
         ·rw [zaU, if_neg, if_neg] <;> simp_all
         ·simp_all
         ·simp_all)

/-- benchwarmer/trade.givesFault -/
theorem zi2 [Tracks] {m : MarketS} {l : List GiveS} (hm : MarketOk m) (hl : l.length ≤ 1000000) : ConP Tryz.prog 176 [.vptr (zn (zaM m)) 0, zlw l] (.int .i64 (zaI m l)) := by
 refine Con.of_body Tryz.func176 rfl Tryz.ntmps176 rfl rfl ?_
 refine za ?_
 refine das rfl ?_
 refine dn ?_
 refine zj ?_
 refine zq ?_
 refine za ?_
 refine dmv rfl ?_
 refine dq (zI zaq rfl) ?_
 refine dq (zas rfl rfl) ?_
 refine das rfl ?_
 refine dn ?_
 refine zi rfl (fun h1 => ?_) (fun h2 => ?_)
 ·try simp at h1
  refine za ?_
  refine das rfl ?_
  refine dn ?_
  refine zl ?_
  refine zC rfl ?_
  show HVal.int .i64 _ = _
  first
  | (rw [zaI, if_pos (by simpa using h1)]; done)
  | (rw [zaI, if_neg (by simpa using h2), if_pos (by omega)]; done)
  | (exact congrArg _ (zcw (by simpa using h2) (by omega) hg))
  | (refine congrArg _ (zaC (e := 5) (by simpa using h2) (by omega) hg (by decide) ?_)
     rw [zaw, if_pos]
     simp_all
     done)
  | (refine congrArg _ (zaC (e := 8) (by simpa using h2) (by omega) hg (by decide) ?_)
     rw [zaw, if_neg, if_pos]
     all_goals simp_all
     done)
  | (refine congrArg _ (zaC (e := 16) (by simpa using h2) (by omega) hg (by decide) ?_)
     rw [zaw, if_neg, if_neg, if_pos]
     all_goals simp_all
     done)
  | (refine congrArg _ (zcy (by simpa using h2) (by omega) hg ?_ ?_ ?_)
     ·rw [zaw, if_neg, if_neg, if_neg] <;> simp_all
     ·simp_all
     ·simp_all)
 ·try simp at h2
  refine za ?_
  refine dmv rfl ?_
  refine dq (zI zaq rfl) ?_
  refine dq (zad rfl rfl) ?_
  refine das rfl ?_
  refine dn ?_
  refine zi rfl (fun h3 => ?_) (fun h4 => ?_)
  ·try simp at h3
   refine za ?_
   refine das rfl ?_
   refine dn ?_
   refine zl ?_
   refine zC rfl ?_
   show HVal.int .i64 _ = _
   first
   | (rw [zaI, if_pos (by simpa using h1)]; done)
   | (rw [zaI, if_neg (by simpa using h2), if_pos (by omega)]; done)
   | (exact congrArg _ (zcw (by simpa using h2) (by omega) hg))
   | (refine congrArg _ (zaC (e := 5) (by simpa using h2) (by omega) hg (by decide) ?_)
      rw [zaw, if_pos]
      simp_all
      done)
   | (refine congrArg _ (zaC (e := 8) (by simpa using h2) (by omega) hg (by decide) ?_)
      rw [zaw, if_neg, if_pos]
      all_goals simp_all
      done)
   | (refine congrArg _ (zaC (e := 16) (by simpa using h2) (by omega) hg (by decide) ?_)
      rw [zaw, if_neg, if_neg, if_pos]
      all_goals simp_all
      done)
   | (refine congrArg _ (zcy (by simpa using h2) (by omega) hg ?_ ?_ ?_)
      ·rw [zaw, if_neg, if_neg, if_neg] <;> simp_all
      ·simp_all
      ·simp_all)
  ·try simp at h4
   refine zm ?_
   refine zy ?_
   refine zh ?_
   refine zj ?_
   refine za ?_
   refine dmv rfl ?_
   refine dq (zI zaq rfl) ?_
   refine dmv rfl ?_
   refine dn ?_
   refine zq ?_
   refine zai [4, 5, 6, 17, 18, 19, 20, 21, 22, 23, 24, 25, 26, 27, 28, 29, 30, 31, 32, 33, 34, 35, 36, 37, 38, 39, 40, 41, 42, 43, 44, 45, 46, 47, 48, 49, 50, 51, 52, 53, 54, 55, 56, 57, 58, 59, 60] (fun (k : Nat) => [(17, .int .i64 k)]) (fun (k : Nat) => []) (fun (k : Nat) => k ≤ l.length ∧ (zav (zaw m) zco zc2 l 0 l = zav (zaw m) zco zc2 l k (l.drop k))) (fun (k : Nat) => l.length - k) (0) ?_ ?_ ?_ ?_
   ·exact ⟨Nat.zero_le _, rfl⟩
   ·exact ⟨rfl, trivial⟩
   ·exact List.Perm.refl _
   ·intro k hinv
    obtain ⟨hk, hg⟩ := hinv
    refine za ?_
    refine dq (zS rfl rfl) ?_
    refine dn ?_
    refine zj ?_
    refine zi rfl (fun h5 => ?_) (fun h6 => ?_)
    ·try simp at h5
     obtain ⟨x, hx⟩ : ∃ x, l[k]? = some x := ⟨_, List.getElem?_eq_getElem h5⟩
     have hdx := zU hx
     rw [hdx] at hg
     refine zm ?_
     refine zh ?_
     refine zj ?_
     refine zq ?_
     refine za ?_
     refine dmv rfl ?_
     refine dq (zW zaq zao rfl rfl rfl (by first | assumption | simp_all)) ?_
     refine dq (zH zao rfl rfl rfl rfl) ?_
     refine de rfl (zZ zao rfl fun b6 => ?_)
     refine das rfl ?_
     refine de0 (zah zao rfl rfl rfl rfl rfl ?_)
     refine dn ?_
     refine zM (Ghost.fc0 6 rfl) ?_
     refine zq ?_
     refine za ?_
     refine dq (zb zao rfl ty9 (by decide) rfl) ?_
     refine dq (zg ty9 rfl rfl rfl) ?_
     refine dq (zp ze0 rfl (WeakL.refl _) zby) ?_
     refine dq (zac rfl) ?_
     refine das rfl ?_
     refine dn ?_
     refine zi rfl (fun h7 => ?_) (fun h8 => ?_)
     ·try simp at h7
      refine za ?_
      refine das rfl ?_
      refine dn ?_
      refine zl ?_
      refine zC rfl ?_
      show HVal.int .i64 _ = _
      first
      | (rw [zaI, if_pos (by simpa using h1)]; done)
      | (rw [zaI, if_neg (by simpa using h2), if_pos (by omega)]; done)
      | (exact congrArg _ (zcw (by simpa using h2) (by omega) hg))
      | (refine congrArg _ (zaC (e := 5) (by simpa using h2) (by omega) hg (by decide) ?_)
         rw [zaw, if_pos]
         simp_all
         done)
      | (refine congrArg _ (zaC (e := 8) (by simpa using h2) (by omega) hg (by decide) ?_)
         rw [zaw, if_neg, if_pos]
         all_goals simp_all
         done)
      | (refine congrArg _ (zaC (e := 16) (by simpa using h2) (by omega) hg (by decide) ?_)
         rw [zaw, if_neg, if_neg, if_pos]
         all_goals simp_all
         done)
      | (refine congrArg _ (zcy (by simpa using h2) (by omega) hg ?_ ?_ ?_)
         ·rw [zaw, if_neg, if_neg, if_neg] <;> simp_all
         ·simp_all
         ·simp_all)
     ·try simp at h8
      refine za ?_
      refine dmv rfl ?_
      refine dq (zb zao rfl ty9 (by decide) rfl) ?_
      refine dq (zg ty9 rfl rfl rfl) ?_
      refine dq (zp zoh rfl (WeakL.refl _) (zdv hm)) ?_
      refine dq (zac rfl) ?_
      refine dmv rfl ?_
      refine dg rfl rfl (fun hc => ⟨_, OpenTo.refl _, zf rfl⟩) ?_
      refine dg rfl rfl (fun hc => ⟨_, OpenTo.refl _, zb zao rfl ty9 (by decide) rfl⟩) ?_
      refine dg rfl rfl (fun hc => ⟨_, OpenTo.upd (t := 35) rfl (by first | exact hc | simp_all) (OpenTo.refl _), zg ty9 rfl rfl rfl⟩) ?_
      refine dg rfl rfl (fun hc => ⟨_, OpenTo.upd (t := 36) rfl (by first | exact hc | simp_all) (OpenTo.upd (t := 34) rfl (by first | exact hc | simp_all) (OpenTo.refl _)), zp zoh rfl (WeakL.refl _) (zdv hm)⟩) ?_
      refine dg rfl rfl (fun hc => ⟨_, OpenTo.upd (t := 37) rfl (by first | exact hc | simp_all) (OpenTo.refl _), zac rfl⟩) ?_
      refine dq (zz rfl (.inl rfl) (.inr ⟨_, rfl, fun h => by simp_all⟩)) ?_
      refine das rfl ?_
      refine dn ?_
      refine zi rfl (fun h9 => ?_) (fun h10 => ?_)
      ·try simp at h9
       refine za ?_
       refine das rfl ?_
       refine dn ?_
       refine zl ?_
       refine zC rfl ?_
       show HVal.int .i64 _ = _
       first
       | (rw [zaI, if_pos (by simpa using h1)]; done)
       | (rw [zaI, if_neg (by simpa using h2), if_pos (by omega)]; done)
       | (exact congrArg _ (zcw (by simpa using h2) (by omega) hg))
       | (refine congrArg _ (zaC (e := 5) (by simpa using h2) (by omega) hg (by decide) ?_)
          rw [zaw, if_pos]
          simp_all
          done)
       | (refine congrArg _ (zaC (e := 8) (by simpa using h2) (by omega) hg (by decide) ?_)
          rw [zaw, if_neg, if_pos]
          all_goals simp_all
          done)
       | (refine congrArg _ (zaC (e := 16) (by simpa using h2) (by omega) hg (by decide) ?_)
          rw [zaw, if_neg, if_neg, if_pos]
          all_goals simp_all
          done)
       | (refine congrArg _ (zcy (by simpa using h2) (by omega) hg ?_ ?_ ?_)
          ·rw [zaw, if_neg, if_neg, if_neg] <;> simp_all
          ·simp_all
          ·simp_all)
      ·try simp at h10
       refine za ?_
       refine dq (zb zao rfl ty9 (by decide) rfl) ?_
       refine dq (zg ty9 rfl rfl rfl) ?_
       refine dq (zb zao rfl ty9 (by decide) rfl) ?_
       refine dq (zg ty9 rfl rfl rfl) ?_
       refine dq (zbv rfl rfl) ?_
       refine das rfl ?_
       refine dn ?_
       refine zi rfl (fun h11 => ?_) (fun h12 => ?_)
       ·try simp at h11
        refine za ?_
        refine das rfl ?_
        refine dn ?_
        refine zl ?_
        refine zC rfl ?_
        show HVal.int .i64 _ = _
        first
        | (rw [zaI, if_pos (by simpa using h1)]; done)
        | (rw [zaI, if_neg (by simpa using h2), if_pos (by omega)]; done)
        | (exact congrArg _ (zcw (by simpa using h2) (by omega) hg))
        | (refine congrArg _ (zaC (e := 5) (by simpa using h2) (by omega) hg (by decide) ?_)
           rw [zaw, if_pos]
           simp_all
           done)
        | (refine congrArg _ (zaC (e := 8) (by simpa using h2) (by omega) hg (by decide) ?_)
           rw [zaw, if_neg, if_pos]
           all_goals simp_all
           done)
        | (refine congrArg _ (zaC (e := 16) (by simpa using h2) (by omega) hg (by decide) ?_)
           rw [zaw, if_neg, if_neg, if_pos]
           all_goals simp_all
           done)
        | (refine congrArg _ (zcy (by simpa using h2) (by omega) hg ?_ ?_ ?_)
           ·rw [zaw, if_neg, if_neg, if_neg] <;> simp_all
           ·simp_all
           ·simp_all)
       ·try simp at h12
        refine zaH (fun _ => True) [] mixed ?_
        refine ahp 0 rfl rfl (by kernel_rfl) (by kernel_rfl) (zf rfl) ?_
        refine ahp 1 rfl rfl (by kernel_rfl) (by kernel_rfl) (zad rfl rfl) ?_
        refine ahp 2 rfl rfl (by kernel_rfl) (by kernel_rfl) (zf rfl) ?_
        refine ahg 3 rfl rfl (by kernel_rfl) (by kernel_rfl) rfl (fun hc => ⟨_, OpenTo.refl _, zb zao rfl ty9 (by decide) rfl⟩) ?_
        refine ahg 4 rfl rfl (by kernel_rfl) (by kernel_rfl) rfl (fun hc => ⟨_, OpenTo.upd (t := 50) rfl (by first | exact hc | simp_all) (OpenTo.refl _), zg ty9 rfl rfl rfl⟩) ?_
        refine ahg 5 rfl rfl (by kernel_rfl) (by kernel_rfl) rfl (fun hc => ⟨_, OpenTo.refl _, zf rfl⟩) ?_
        refine ahg 6 rfl rfl (by kernel_rfl) (by kernel_rfl) rfl (fun hc => ⟨_, OpenTo.refl _, zf rfl⟩) ?_
        refine ahg 7 rfl rfl (by kernel_rfl) (by kernel_rfl) rfl (fun hc => by have hq := hc; (try simp at hq); exact ⟨_, OpenTo.upd (t := 53) rfl (by first | exact hc | simp_all) (OpenTo.refl _), zar rfl rfl (by omega) (by omega)⟩) ?_
        refine ahg 8 rfl rfl (by kernel_rfl) (by kernel_rfl) rfl (fun hc => by have hq := hc; (try simp at hq); exact ⟨_, OpenTo.upd (t := 54) rfl (by first | exact hc | simp_all) (OpenTo.upd (t := 52) rfl (by first | exact hc | simp_all) (OpenTo.refl _)), zW (j := k - 1) (a := l.getD (k - 1) zc2) zaq zao rfl rfl (by omega) (getD_some (by omega))⟩) ?_
        refine ahg 9 rfl rfl (by kernel_rfl) (by kernel_rfl) rfl (fun hc => ⟨_, OpenTo.upd (t := 55) rfl (by first | exact hc | simp_all) (OpenTo.refl _), zb zao rfl ty9 (by decide) rfl⟩) ?_
        refine ahg 10 rfl rfl (by kernel_rfl) (by kernel_rfl) rfl (fun hc => ⟨_, OpenTo.upd (t := 56) rfl (by first | exact hc | simp_all) (OpenTo.refl _), zg ty9 rfl rfl rfl⟩) ?_
        refine ahg 11 rfl rfl (by kernel_rfl) (by kernel_rfl) rfl (fun hc => ⟨_, OpenTo.upd (t := 57) rfl (by first | exact hc | simp_all) (OpenTo.upd (t := 51) rfl (by first | exact hc | simp_all) (OpenTo.refl _)), zdk rfl rfl⟩) ?_
        refine ahp 12 rfl rfl (by kernel_rfl) (by kernel_rfl) (zz rfl (.inr ⟨_, rfl, fun h => by simp_all⟩) (.inl rfl)) ?_
        refine ahp 13 rfl rfl (by kernel_rfl) (by kernel_rfl) (zau rfl) ?_
        refine ahz (by kernel_rfl) ?_
        refine zi rfl (fun h13 => ?_) (fun h14 => ?_)
        ·try simp at h13
         refine za ?_
         refine das rfl ?_
         refine dn ?_
         refine zl ?_
         refine zC rfl ?_
         show HVal.int .i64 _ = _
         first
         | (rw [zaI, if_pos (by simpa using h1)]; done)
         | (rw [zaI, if_neg (by simpa using h2), if_pos (by omega)]; done)
         | (exact congrArg _ (zcw (by simpa using h2) (by omega) hg))
         | (refine congrArg _ (zaC (e := 5) (by simpa using h2) (by omega) hg (by decide) ?_)
            rw [zaw, if_pos]
            simp_all
            done)
         | (refine congrArg _ (zaC (e := 8) (by simpa using h2) (by omega) hg (by decide) ?_)
            rw [zaw, if_neg, if_pos]
            all_goals simp_all
            done)
         | (refine congrArg _ (zaC (e := 16) (by simpa using h2) (by omega) hg (by decide) ?_)
            rw [zaw, if_neg, if_neg, if_pos]
            all_goals simp_all
            done)
         | (refine congrArg _ (zcy (by simpa using h2) (by omega) hg ?_ ?_ ?_)
            ·rw [zaw, if_neg, if_neg, if_neg] <;> simp_all
            ·simp_all
            ·simp_all)
        ·try simp at h14
         refine zm ?_
         refine zy ?_
         refine zy ?_
         refine zh ?_
         refine zD ?_
         refine dq (zB rfl rfl (by omega) (by omega)) ?_
         refine dmv rfl ?_
         refine dn ?_
         refine ⟨k + 1, ?_, ?_, ⟨rfl, trivial⟩, (by repeat (first | exact zt | refine zw rfl ?_ | refine zu rfl rfl ?_)), List.Perm.refl _⟩
         ·refine ⟨by omega, ?_⟩
          rw [hg, znx (by rw [zaw, if_neg (by simp_all), if_neg (by simp_all), if_neg (by simp_all)]) (by intro hk0; simp_all)]
         ·dsimp only; omega
    ·try simp at h6
     have hnk : l.length ≤ k := by omega
     obtain rfl : k = l.length := by omega
     rw [zaT (Nat.le_refl _)] at hg
     refine zX ?_
     refine z8 ?_
     refine zax ?_
     refine zO ?_
     refine zh ?_
     refine za ?_
     refine das rfl ?_
     refine dn ?_
     refine zl ?_
     refine zC rfl ?_
     show HVal.int .i64 _ = _
     first
     | (rw [zaI, if_pos (by simpa using h1)]; done)
     | (rw [zaI, if_neg (by simpa using h2), if_pos (by omega)]; done)
     | (exact congrArg _ (zcw (by simpa using h2) (by omega) hg))
     | (refine congrArg _ (zaC (e := 5) (by simpa using h2) (by omega) hg (by decide) ?_)
        rw [zaw, if_pos]
        simp_all
        done)
     | (refine congrArg _ (zaC (e := 8) (by simpa using h2) (by omega) hg (by decide) ?_)
        rw [zaw, if_neg, if_pos]
        all_goals simp_all
        done)
     | (refine congrArg _ (zaC (e := 16) (by simpa using h2) (by omega) hg (by decide) ?_)
        rw [zaw, if_neg, if_neg, if_pos]
        all_goals simp_all
        done)
     | (refine congrArg _ (zcy (by simpa using h2) (by omega) hg ?_ ?_ ?_)
        ·rw [zaw, if_neg, if_neg, if_neg] <;> simp_all
        ·simp_all
        ·simp_all)

/-- benchwarmer/trade.concerned -/
theorem zfS [Tracks] {x : DealS} (hx : x.Gives.length ≤ 1000) : ConP Tryz.prog 87 [zh3 x] (eSs (zbp x.Gives)) := by
 refine Con.of_body Tryz.func87 rfl Tryz.ntmps87 rfl rfl ?_
 refine za ?_
 refine dq (zat rfl rfl) ?_
 refine das rfl ?_
 refine dn ?_
 refine za ?_
 refine das rfl ?_
 refine dn ?_
 refine zM (Ghost.arr_nil 1) ?_
 refine zj ?_
 refine za ?_
 refine dq ((by first | exact zb zal rfl zaq (by decide) rfl | exact ze zal rfl zaq (by decide) rfl)) ?_
 refine dq (zg zaq rfl rfl rfl) ?_
 refine dq (zI zaq rfl) ?_
 refine dmv rfl ?_
 refine dn ?_
 refine zq ?_
 refine za9 [3, 5, 9, 10, 11, 12, 13, 14, 15, 16, 17, 18, 19, 20] (fun (k : Nat) (u : Value) => [(9, .int .i64 k), (3, .raw u)]) (fun (k : Nat) (u : Value) => [.arr u 1 ((zcH (x.Gives.take k)).map .str)]) (fun (k : Nat) (u : Value) => k ≤ x.Gives.length ∧ (True)) (fun (k : Nat) (u : Value) => x.Gives.length - k) (0) (.slice none 0 0) ?_ ?_ ?_ ?_
 ·exact ⟨Nat.zero_le _, trivial⟩
 ·exact ⟨rfl, rfl, trivial⟩
 ·exact zQ (by simp [zcH])
 ·intro k u hinv
  obtain ⟨hk, -⟩ := hinv
  refine za ?_
  refine dq (zS rfl rfl) ?_
  refine dn ?_
  refine zj ?_
  refine zi rfl (fun h1 => ?_) (fun h2 => ?_)
  ·try simp at h1
   obtain ⟨g, hg⟩ : ∃ g, x.Gives[k]? = some g := ⟨_, List.getElem?_eq_getElem h1⟩
   have hdg := zU hg
   refine zm ?_
   refine zh ?_
   refine zj ?_
   refine zq ?_
   refine za ?_
   refine dq (zW zaq zao rfl rfl rfl (by first | assumption | simp_all)) ?_
   refine dq (zH zao rfl rfl rfl rfl) ?_
   refine de rfl (zZ zao rfl fun b5 => ?_)
   refine de0 (zah zao rfl rfl rfl rfl rfl ?_)
   refine dn ?_
   refine zM (Ghost.fc0 5 rfl) ?_
   refine zD ?_
   refine dmv rfl ?_
   refine dq ((by first | exact zb zao rfl ty9 (by decide) rfl | exact ze zao rfl ty9 (by decide) rfl)) ?_
   refine dq (zg ty9 rfl rfl rfl) ?_
   refine dq ((by first | exact zb zao rfl ty9 (by decide) rfl | exact ze zao rfl ty9 (by decide) rfl)) ?_
   refine dq (zg ty9 rfl rfl rfl) ?_
   refine dq (zG (hs := [_, _]) zR ty9 rfl rfl (by decide) (by decide) rfl) ?_
   refine de rfl (zay (i := 0) zR ty9 rfl rfl rfl rfl rfl (by simp [za5, zn]) (by have := zei (x.Gives.take k); simp only [List.length_map, List.length_cons, List.length_nil, List.length_take] at *; omega) fun v19 => ?_)
   refine das rfl ?_
   refine dn ?_
   refine zy ?_
   refine zh ?_
   refine zD ?_
   refine dq (zB rfl rfl (by omega) (by omega)) ?_
   refine dmv rfl ?_
   refine dn ?_
   exact ⟨k + 1, v19, ⟨by omega, trivial⟩, by dsimp only; omega, ⟨rfl, rfl, trivial⟩, (by repeat (first | exact zt | refine zw rfl ?_ | refine zu rfl rfl ?_)), zQ (by dsimp only; rw [zjM hg]; simp)⟩
  ·try simp at h2
   have hnk : x.Gives.length ≤ k := by omega
   obtain rfl : k = x.Gives.length := by omega
   rw [List.take_length]
   refine zX ?_
   refine z8 ?_
   refine zbj ?_
   refine zO ?_
   refine zh ?_
   refine za ?_
   refine dmv rfl ?_
   refine de rfl (zbi (M1 := [_]) (R := []) zpf rfl (WeakL.refl _) (List.Perm.refl _) (zfR (l := zcH x.Gives) (by rw [zei]; omega)) ?_)
   rintro _ _ ⟨rfl, rfl⟩
   refine dn ?_
   refine za ?_
   refine dmv rfl ?_
   refine de rfl (zbi (M1 := [_]) (R := []) zsi rfl (WeakL.refl _) (List.Perm.refl _) (zgC (l := zbb (zcH x.Gives)) (by rw [zd1, zei]; omega)) ?_)
   rintro _ _ ⟨u24, rfl, rfl⟩
   refine das rfl ?_
   refine dn ?_
   refine zl ?_
   exact zgx (M := []) 2 rfl rfl rfl

/-- benchwarmer/trade.offerFault -/
theorem zjg [Tracks] {m : MarketS} {x : DealS} (hm : MarketOk m) (hx : x.Gives.length ≤ 1000000) : ConP Tryz.prog 127 [.vptr (zn (zaM m)) 0, zh3 x] (.int .i64 (zaQ m x)) := by
 refine Con.of_body Tryz.func127 rfl Tryz.ntmps127 rfl rfl ?_
 refine za ?_
 refine dq (zat rfl rfl) ?_
 refine das rfl ?_
 refine dn ?_
 refine zj ?_
 refine zq ?_
 refine za ?_
 refine dq (zb zal rfl ty9 (by decide) rfl) ?_
 refine dq (zg ty9 rfl rfl rfl) ?_
 refine dq (zp ze0 rfl (WeakL.refl _) zby) ?_
 refine dq (zac rfl) ?_
 refine das rfl ?_
 refine dn ?_
 refine zi rfl (fun h1 => ?_) (fun h2 => ?_)
 ·try simp at h1
  refine za ?_
  refine das rfl ?_
  refine dn ?_
  refine zl ?_
  refine zC rfl ?_
  show HVal.int .i64 _ = _
  simp_all [zaQ]
 ·try simp at h2
  refine za ?_
  refine dmv rfl ?_
  refine dq (zb zal rfl ty9 (by decide) rfl) ?_
  refine dq (zg ty9 rfl rfl rfl) ?_
  refine dq (zp zoh rfl (WeakL.refl _) (zdv hm)) ?_
  refine dq (zac rfl) ?_
  refine das rfl ?_
  refine dn ?_
  refine zi rfl (fun h3 => ?_) (fun h4 => ?_)
  ·try simp at h3
   refine za ?_
   refine das rfl ?_
   refine dn ?_
   refine zl ?_
   refine zC rfl ?_
   show HVal.int .i64 _ = _
   simp_all [zaQ]
  ·try simp at h4
   refine za ?_
   refine dq (zb zal rfl zbS (by decide) rfl) ?_
   refine dq (zb zbS rfl ty3 (by decide) rfl) ?_
   refine dq (zg ty3 rfl rfl rfl) ?_
   refine dq (zp zdu rfl (WeakL.refl _) za1) ?_
   refine dmv rfl ?_
   refine dg rfl rfl (fun hc => ⟨_, OpenTo.refl _, zb zal rfl zbS (by decide) rfl⟩) ?_
   refine dg rfl rfl (fun hc => ⟨_, OpenTo.upd (t := 23) rfl (by first | exact hc | simp_all) (OpenTo.refl _), zb zbS rfl ty3 (by decide) rfl⟩) ?_
   refine dg rfl rfl (fun hc => ⟨_, OpenTo.upd (t := 24) rfl (by first | exact hc | simp_all) (OpenTo.refl _), zg ty3 rfl rfl rfl⟩) ?_
   refine dg rfl rfl (fun hc => ⟨_, OpenTo.refl _, zb zal rfl zbS (by decide) rfl⟩) ?_
   refine dg rfl rfl (fun hc => ⟨_, OpenTo.upd (t := 26) rfl (by first | exact hc | simp_all) (OpenTo.refl _), zb zbS rfl ty3 (by decide) rfl⟩) ?_
   refine dg rfl rfl (fun hc => ⟨_, OpenTo.upd (t := 27) rfl (by first | exact hc | simp_all) (OpenTo.refl _), zg ty3 rfl rfl rfl⟩) ?_
   refine dg rfl rfl (fun hc => by
    have hxo := zdH (n := x.To) (lo := 1) (hi := 345686400000) (by simpa using hc)
    exact ⟨_, OpenTo.upd (t := 28) rfl (by first | exact hc | simp_all) (OpenTo.refl _), zar rfl rfl (by omega) (by omega)⟩) ?_
   refine dg rfl rfl (fun hc => ⟨_, OpenTo.upd (t := 29) rfl (by first | exact hc | simp_all) (OpenTo.upd (t := 25) rfl (by first | exact hc | simp_all) (OpenTo.refl _)), zp zdu rfl (WeakL.refl _) za1⟩) ?_
   refine dq (zz rfl (.inl rfl) (.inr ⟨_, rfl, fun h => by simp_all⟩)) ?_
   refine das rfl ?_
   refine dn ?_
   refine zi rfl (fun h5 => ?_) (fun h6 => ?_)
   ·try simp at h5
    refine za ?_
    refine das rfl ?_
    refine dn ?_
    refine zl ?_
    refine zC rfl ?_
    show HVal.int .i64 _ = _
    simp_all [zaQ]
   ·try simp at h6
    refine zm ?_
    refine zy ?_
    refine zh ?_
    refine zj ?_
    refine za ?_
    refine dmv rfl ?_
    refine dq (zb zal rfl zaq (by decide) rfl) ?_
    refine dq (zg zaq rfl rfl rfl) ?_
    refine dq (zp ztM rfl (WeakL.refl _) (zi2 (by first | assumption | omega | (simp; omega) | simp_all) (by first | assumption | omega | (simp; omega) | simp_all))) ?_
    refine das rfl ?_
    refine dn ?_
    refine za ?_
    refine dmv rfl ?_
    refine dq (zaK rfl rfl) ?_
    refine dn ?_
    refine zi rfl (fun h7 => ?_) (fun h8 => ?_)
    ·try simp at h7
     refine za ?_
     refine dmv rfl ?_
     refine das rfl ?_
     refine dn ?_
     refine zl ?_
     refine zC rfl ?_
     show HVal.int .i64 _ = _
     simp_all [zaQ]
    ·try simp at h8
     refine zm ?_
     refine zh ?_
     refine zj ?_
     obtain ⟨hgo1, hgo2, _⟩ := zfC (m := m) (l := x.Gives) (by simp_all)
     refine zaH (fun _ => True) [] mixed ?_
     refine ahp 0 rfl rfl (by kernel_rfl) (by kernel_rfl) (zH zal rfl rfl rfl rfl) ?_
     refine ahp 1 rfl rfl (by kernel_rfl) (by kernel_rfl) (zp ca87 rfl (WeakL.refl _) (zfS (by first | assumption | omega | (simp; omega) | simp_all))) ?_
     refine ahp 2 rfl rfl (by kernel_rfl) (by kernel_rfl) (zb zal rfl ty9 (by decide) rfl) ?_
     refine ahp 3 rfl rfl (by kernel_rfl) (by kernel_rfl) (zg ty9 rfl rfl rfl) ?_
     refine ahp 4 rfl rfl (by kernel_rfl) (by kernel_rfl) (zp zit rfl (WeakL.refl _) (zaL (l := zbp x.Gives) (s := x.By) (by have := zi4 x.Gives; omega))) ?_
     refine ahp 5 rfl rfl (by kernel_rfl) (by kernel_rfl) (zac rfl) ?_
     refine ahz (by kernel_rfl) ?_
     refine zi rfl (fun h9 => ?_) (fun h10 => ?_)
     ·try simp at h9
      refine za ?_
      refine das rfl ?_
      refine dn ?_
      refine zl ?_
      refine zC rfl ?_
      show HVal.int .i64 _ = _
      simp_all [zaQ]
     ·try simp at h10
      refine zm ?_
      refine zh ?_
      refine za ?_
      refine das rfl ?_
      refine dn ?_
      refine zl ?_
      refine zC rfl ?_
      show HVal.int .i64 _ = _
      simp_all [zaQ]

/-- benchwarmer/trade.CheckOffers -/
theorem zim [Tracks] {m : MarketS} {l : List DealS} (ht : m.Teams.length ≤ 1000000) (hl : l.length ≤ 1000000) (hx : ∀ x ∈ l, x.Gives.length ≤ 1000000) : ConP Tryz.prog 82 [zaM m, zeB l] (.int .i64 (zdx m l)) := by
 refine Con.of_body Tryz.func82 rfl Tryz.ntmps82 rfl rfl ?_
 refine za ?_
 refine dq (zat rfl rfl) ?_
 refine das rfl ?_
 refine dn ?_
 refine zj ?_
 refine za ?_
 refine dq (zH zV rfl rfl rfl rfl) ?_
 refine dq (zp zq2 rfl (WeakL.refl _) (zdU (by first | assumption | omega | (simp; omega) | simp_all))) ?_
 refine das rfl ?_
 refine dn ?_
 refine za ?_
 refine dmv rfl ?_
 refine dq (zaK rfl rfl) ?_
 refine dn ?_
 refine zi rfl (fun h1 => ?_) (fun h2 => ?_)
 ·try simp at h1
  refine za ?_
  refine dmv rfl ?_
  refine das rfl ?_
  refine dn ?_
  refine zl ?_
  refine zC rfl ?_
  show HVal.int .i64 _ = _
  first
  | (rw [zdx, if_pos (by simpa using h1)]; done)
  | (rw [hE]; exact congrArg _ (zch (by omega)))
  | (rw [hE]; exact congrArg _ (zcg (by omega) hg))
  | (rw [hE]
     refine congrArg _ (zbl (by omega) hg ?_ rfl)
     simp_all
     done)
  | (rw [hE]
     refine congrArg _ (zck (by omega) hg ?_ ?_ ?_)
     ·simp_all
     ·simp_all
     ·simp_all)
 ·try simp at h2
  refine zm ?_
  refine zh ?_
  refine zj ?_
  have hz : zag m = 0 := by simpa using h2
  have hm := zhQ hz
  have ht20 := hm.len
  have hE : zdx m l = zcI m l := by rw [zdx, if_neg (by simp [hz])]
  refine za ?_
  refine dmv rfl ?_
  refine dq (zI zdl rfl) ?_
  refine dq (zad rfl rfl) ?_
  refine dn ?_
  refine zi rfl (fun h3 => ?_) (fun h4 => ?_)
  ·try simp at h3
   refine za ?_
   refine das rfl ?_
   refine dn ?_
   refine zl ?_
   refine zC rfl ?_
   show HVal.int .i64 _ = _
   first
   | (rw [zdx, if_pos (by simpa using h1)]; done)
   | (rw [hE]; exact congrArg _ (zch (by omega)))
   | (rw [hE]; exact congrArg _ (zcg (by omega) hg))
   | (rw [hE]
      refine congrArg _ (zbl (by omega) hg ?_ rfl)
      simp_all
      done)
   | (rw [hE]
      refine congrArg _ (zck (by omega) hg ?_ ?_ ?_)
      ·simp_all
      ·simp_all
      ·simp_all)
  ·try simp at h4
   refine zm ?_
   refine zh ?_
   refine zj ?_
   refine za ?_
   refine dmv rfl ?_
   refine dq (zI zdl rfl) ?_
   refine dmv rfl ?_
   refine dn ?_
   refine zq ?_
   refine zai [4, 6, 7, 8, 19, 20, 21, 22, 23, 24, 25, 26, 27, 28, 29, 30, 31, 32, 33, 34, 35, 36, 37, 38, 39, 40, 41, 42] (fun (k : Nat) => [(19, .int .i64 k)]) (fun (k : Nat) => []) (fun (k : Nat) => k ≤ l.length ∧ (zav (zaQ m) zdh zb4 l 0 l = zav (zaQ m) zdh zb4 l k (l.drop k))) (fun (k : Nat) => l.length - k) (0) ?_ ?_ ?_ ?_
   ·exact ⟨Nat.zero_le _, rfl⟩
   ·exact ⟨rfl, trivial⟩
   ·exact List.Perm.refl _
   ·intro k hinv
    obtain ⟨hk, hg⟩ := hinv
    refine za ?_
    refine dq (zS rfl rfl) ?_
    refine dn ?_
    refine zj ?_
    refine zi rfl (fun h5 => ?_) (fun h6 => ?_)
    ·try simp at h5
     obtain ⟨y, hy⟩ : ∃ y, l[k]? = some y := ⟨_, List.getElem?_eq_getElem h5⟩
     have hdy := zU hy
     rw [hdy] at hg
     refine zm ?_
     refine zh ?_
     refine zj ?_
     refine zq ?_
     refine za ?_
     refine dmv rfl ?_
     refine dq (zW zdl zal rfl rfl rfl (by first | assumption | simp_all)) ?_
     refine dq (zH zal rfl rfl rfl rfl) ?_
     refine de rfl (zZ zal rfl fun b7 => ?_)
     refine das rfl ?_
     refine de0 (zah zal rfl rfl rfl rfl rfl ?_)
     refine dn ?_
     refine zM (Ghost.fc0 7 rfl) ?_
     refine zj ?_
     refine za ?_
     refine dq (zH zal rfl rfl rfl rfl) ?_
     refine dq (zp zuO rfl (WeakL.refl _) (zjg (x := y) hm (hx y (List.mem_of_getElem? hy)))) ?_
     refine das rfl ?_
     refine dn ?_
     refine za ?_
     refine dmv rfl ?_
     refine dq (zaK rfl rfl) ?_
     refine dn ?_
     refine zi rfl (fun h7 => ?_) (fun h8 => ?_)
     ·try simp at h7
      refine za ?_
      refine dmv rfl ?_
      refine das rfl ?_
      refine dn ?_
      refine zl ?_
      refine zC rfl ?_
      show HVal.int .i64 _ = _
      first
      | (rw [zdx, if_pos (by simpa using h1)]; done)
      | (rw [hE]; exact congrArg _ (zch (by omega)))
      | (rw [hE]; exact congrArg _ (zcg (by omega) hg))
      | (rw [hE]
         refine congrArg _ (zbl (by omega) hg ?_ rfl)
         simp_all
         done)
      | (rw [hE]
         refine congrArg _ (zck (by omega) hg ?_ ?_ ?_)
         ·simp_all
         ·simp_all
         ·simp_all)
     ·try simp at h8
      refine zm ?_
      refine zh ?_
      refine zaH (fun _ => True) [] mixed ?_
      refine ahp 0 rfl rfl (by kernel_rfl) (by kernel_rfl) (zf rfl) ?_
      refine ahp 1 rfl rfl (by kernel_rfl) (by kernel_rfl) (zad rfl rfl) ?_
      refine ahp 2 rfl rfl (by kernel_rfl) (by kernel_rfl) (zf rfl) ?_
      refine ahg 3 rfl rfl (by kernel_rfl) (by kernel_rfl) rfl (fun hc => ⟨_, OpenTo.refl _, zb zal rfl ty9 (by decide) rfl⟩) ?_
      refine ahg 4 rfl rfl (by kernel_rfl) (by kernel_rfl) rfl (fun hc => ⟨_, OpenTo.upd (t := 32) rfl (by first | exact hc | simp_all) (OpenTo.refl _), zg ty9 rfl rfl rfl⟩) ?_
      refine ahg 5 rfl rfl (by kernel_rfl) (by kernel_rfl) rfl (fun hc => ⟨_, OpenTo.refl _, zf rfl⟩) ?_
      refine ahg 6 rfl rfl (by kernel_rfl) (by kernel_rfl) rfl (fun hc => ⟨_, OpenTo.refl _, zf rfl⟩) ?_
      refine ahg 7 rfl rfl (by kernel_rfl) (by kernel_rfl) rfl (fun hc => by have hq := hc; (try simp at hq); exact ⟨_, OpenTo.upd (t := 35) rfl (by first | exact hc | simp_all) (OpenTo.refl _), zar rfl rfl (by omega) (by omega)⟩) ?_
      refine ahg 8 rfl rfl (by kernel_rfl) (by kernel_rfl) rfl (fun hc => by have hq := hc; (try simp at hq); exact ⟨_, OpenTo.upd (t := 36) rfl (by first | exact hc | simp_all) (OpenTo.upd (t := 34) rfl (by first | exact hc | simp_all) (OpenTo.refl _)), zW (j := k - 1) (a := l.getD (k - 1) zb4) zdl zal rfl rfl (by omega) (getD_some (by omega))⟩) ?_
      refine ahg 9 rfl rfl (by kernel_rfl) (by kernel_rfl) rfl (fun hc => ⟨_, OpenTo.upd (t := 37) rfl (by first | exact hc | simp_all) (OpenTo.refl _), zb zal rfl ty9 (by decide) rfl⟩) ?_
      refine ahg 10 rfl rfl (by kernel_rfl) (by kernel_rfl) rfl (fun hc => ⟨_, OpenTo.upd (t := 38) rfl (by first | exact hc | simp_all) (OpenTo.refl _), zg ty9 rfl rfl rfl⟩) ?_
      refine ahg 11 rfl rfl (by kernel_rfl) (by kernel_rfl) rfl (fun hc => ⟨_, OpenTo.upd (t := 39) rfl (by first | exact hc | simp_all) (OpenTo.upd (t := 33) rfl (by first | exact hc | simp_all) (OpenTo.refl _)), zdk rfl rfl⟩) ?_
      refine ahp 12 rfl rfl (by kernel_rfl) (by kernel_rfl) (zz rfl (.inr ⟨_, rfl, fun h => by simp_all⟩) (.inl rfl)) ?_
      refine ahz (by kernel_rfl) ?_
      refine zi rfl (fun h9 => ?_) (fun h10 => ?_)
      ·try simp at h9
       refine za ?_
       refine das rfl ?_
       refine dn ?_
       refine zl ?_
       refine zC rfl ?_
       show HVal.int .i64 _ = _
       first
       | (rw [zdx, if_pos (by simpa using h1)]; done)
       | (rw [hE]; exact congrArg _ (zch (by omega)))
       | (rw [hE]; exact congrArg _ (zcg (by omega) hg))
       | (rw [hE]
          refine congrArg _ (zbl (by omega) hg ?_ rfl)
          simp_all
          done)
       | (rw [hE]
          refine congrArg _ (zck (by omega) hg ?_ ?_ ?_)
          ·simp_all
          ·simp_all
          ·simp_all)
      ·try simp at h10
       refine zm ?_
       refine zy ?_
       refine zh ?_
       refine zD ?_
       refine dq (zB rfl rfl (by omega) (by omega)) ?_
       refine dmv rfl ?_
       refine dn ?_
       refine ⟨k + 1, ?_, ?_, ⟨rfl, trivial⟩, (by repeat (first | exact zt | refine zw rfl ?_ | refine zu rfl rfl ?_)), List.Perm.refl _⟩
       ·refine ⟨by omega, ?_⟩
        rw [hg, zmo (by simp_all) (by intro hk0; simp_all)]
       ·dsimp only; omega
    ·try simp at h6
     have hnk : l.length ≤ k := by omega
     obtain rfl : k = l.length := by omega
     rw [zaT (Nat.le_refl _)] at hg
     refine zX ?_
     refine z8 ?_
     refine zax ?_
     refine zO ?_
     refine zh ?_
     refine za ?_
     refine das rfl ?_
     refine dn ?_
     refine zl ?_
     refine zC rfl ?_
     show HVal.int .i64 _ = _
     first
     | (rw [zdx, if_pos (by simpa using h1)]; done)
     | (rw [hE]; exact congrArg _ (zch (by omega)))
     | (rw [hE]; exact congrArg _ (zcg (by omega) hg))
     | (rw [hE]
        refine congrArg _ (zbl (by omega) hg ?_ rfl)
        simp_all
        done)
     | (rw [hE]
        refine congrArg _ (zck (by omega) hg ?_ ?_ ?_)
        ·simp_all
        ·simp_all
        ·simp_all)

/-- benchwarmer/trade.byAnswer -/
theorem zkm [Tracks] {a b : ReplyS}  : ConP Tryz.prog 128 [zbx a, zbx b] (.int .i64 (zb3 a b)) := by
 refine Con.of_body Tryz.func128 rfl Tryz.ntmps128 rfl rfl ?_
 refine za ?_
 refine dq (zat rfl rfl) ?_
 refine dq (zat rfl rfl) ?_
 refine das rfl ?_
 refine dn ?_
 refine zaH (fun _ => True) [] mixed ?_
 refine ahp 0 rfl rfl (by kernel_rfl) (by kernel_rfl) (zb z6 rfl ty3 (by decide) rfl) ?_
 refine ahp 1 rfl rfl (by kernel_rfl) (by kernel_rfl) (zg ty3 rfl rfl rfl) ?_
 refine ahp 2 rfl rfl (by kernel_rfl) (by kernel_rfl) (zb z6 rfl ty3 (by decide) rfl) ?_
 refine ahp 3 rfl rfl (by kernel_rfl) (by kernel_rfl) (zg ty3 rfl rfl rfl) ?_
 refine ahp 4 rfl rfl (by kernel_rfl) (by kernel_rfl) (zp zln rfl (WeakL.refl _) zcE) ?_
 refine ahp 5 rfl rfl (by kernel_rfl) (by kernel_rfl) (zb z6 rfl ty9 (by decide) rfl) ?_
 refine ahp 6 rfl rfl (by kernel_rfl) (by kernel_rfl) (zg ty9 rfl rfl rfl) ?_
 refine ahp 7 rfl rfl (by kernel_rfl) (by kernel_rfl) (zb z6 rfl ty9 (by decide) rfl) ?_
 refine ahp 8 rfl rfl (by kernel_rfl) (by kernel_rfl) (zg ty9 rfl rfl rfl) ?_
 refine ahp 9 rfl rfl (by kernel_rfl) (by kernel_rfl) (zp zha rfl (WeakL.refl _) zbh) ?_
 refine ahp 10 rfl rfl (by kernel_rfl) (by kernel_rfl) (zb z6 rfl ty9 (by decide) rfl) ?_
 refine ahp 11 rfl rfl (by kernel_rfl) (by kernel_rfl) (zg ty9 rfl rfl rfl) ?_
 refine ahp 12 rfl rfl (by kernel_rfl) (by kernel_rfl) (zb z6 rfl ty9 (by decide) rfl) ?_
 refine ahp 13 rfl rfl (by kernel_rfl) (by kernel_rfl) (zg ty9 rfl rfl rfl) ?_
 refine ahp 14 rfl rfl (by kernel_rfl) (by kernel_rfl) (zp zha rfl (WeakL.refl _) zbh) ?_
 refine ahp 15 rfl rfl (by kernel_rfl) (by kernel_rfl) (zG (hs := [_, _, _]) zbB ty3 rfl rfl (by decide) (by decide) rfl) ?_
 refine ahp 16 rfl rfl (by kernel_rfl) (by kernel_rfl) (zp zkL rfl (WeakL.refl _) (zd0 (l := [_, _, _]) (by simp))) ?_
 refine ahp 17 rfl rfl (by kernel_rfl) (by kernel_rfl) (zau rfl) ?_
 refine ahz (by kernel_rfl) ?_
 refine zl ?_
 refine zC rfl ?_
 rfl

/-- benchwarmer/trade.CheckAnswers -/
theorem zhW [Tracks] {m : MarketS} {l : List ReplyS} (ht : m.Teams.length ≤ 1000000) (hl : l.length ≤ 1000000) : ConP Tryz.prog 83 [zaM m, zb5 l] (.int .i64 (zcc m l)) := by
 refine Con.of_body Tryz.func83 rfl Tryz.ntmps83 rfl rfl ?_
 refine za ?_
 refine dq (zat rfl rfl) ?_
 refine das rfl ?_
 refine dn ?_
 refine zj ?_
 refine za ?_
 refine dq (zH zV rfl rfl rfl rfl) ?_
 refine dq (zp zq2 rfl (WeakL.refl _) (zdU (by first | assumption | omega | (simp; omega) | simp_all))) ?_
 refine das rfl ?_
 refine dn ?_
 refine za ?_
 refine dmv rfl ?_
 refine dq (zaK rfl rfl) ?_
 refine dn ?_
 refine zi rfl (fun h1 => ?_) (fun h2 => ?_)
 ·try simp at h1
  refine za ?_
  refine dmv rfl ?_
  refine das rfl ?_
  refine dn ?_
  refine zl ?_
  refine zC rfl ?_
  show HVal.int .i64 _ = _
  first
  | (rw [zcc, if_pos (by simpa using h1)]; done)
  | (rw [hE]; exact congrArg _ (zcj (by omega)))
  | (rw [hE]; exact congrArg _ (zcl (by omega) hg))
  | (rw [hE]
     refine congrArg _ (zae (e := 5) (by omega) hg (by decide) ?_)
     rw [zam, if_pos]
     simp_all
     done)
  | (rw [hE]
     refine congrArg _ (zae (e := 8) (by omega) hg (by decide) ?_)
     rw [zam, if_neg, if_pos]
     all_goals simp_all
     done)
  | (rw [hE]
     refine congrArg _ (zae (e := 1) (by omega) hg (by decide) ?_)
     rw [zam, if_neg, if_neg, if_pos]
     all_goals simp_all
     done)
  | (rw [hE]
     refine congrArg _ (zae (e := 4) (by omega) hg (by decide) ?_)
     rw [zam, if_neg, if_neg, if_neg, if_pos]
     all_goals simp_all
     done)
  | (rw [hE]
     refine congrArg _ (zcf (by omega) hg ?_ ?_ ?_)
     ·rw [zam, if_neg, if_neg, if_neg, if_neg] <;> simp_all
     ·simp_all
     ·simp_all)
 ·try simp at h2
  refine zm ?_
  refine zh ?_
  refine zj ?_
  have hz : zag m = 0 := by simpa using h2
  have hm := zhQ hz
  have ht20 := hm.len
  have hE : zcc m l = zcL m l := by rw [zcc, if_neg (by simp [hz])]
  refine za ?_
  refine dmv rfl ?_
  refine dq (zI zcb rfl) ?_
  refine dq (zad rfl rfl) ?_
  refine dn ?_
  refine zi rfl (fun h3 => ?_) (fun h4 => ?_)
  ·try simp at h3
   refine za ?_
   refine das rfl ?_
   refine dn ?_
   refine zl ?_
   refine zC rfl ?_
   show HVal.int .i64 _ = _
   first
   | (rw [zcc, if_pos (by simpa using h1)]; done)
   | (rw [hE]; exact congrArg _ (zcj (by omega)))
   | (rw [hE]; exact congrArg _ (zcl (by omega) hg))
   | (rw [hE]
      refine congrArg _ (zae (e := 5) (by omega) hg (by decide) ?_)
      rw [zam, if_pos]
      simp_all
      done)
   | (rw [hE]
      refine congrArg _ (zae (e := 8) (by omega) hg (by decide) ?_)
      rw [zam, if_neg, if_pos]
      all_goals simp_all
      done)
   | (rw [hE]
      refine congrArg _ (zae (e := 1) (by omega) hg (by decide) ?_)
      rw [zam, if_neg, if_neg, if_pos]
      all_goals simp_all
      done)
   | (rw [hE]
      refine congrArg _ (zae (e := 4) (by omega) hg (by decide) ?_)
      rw [zam, if_neg, if_neg, if_neg, if_pos]
      all_goals simp_all
      done)
   | (rw [hE]
      refine congrArg _ (zcf (by omega) hg ?_ ?_ ?_)
      ·rw [zam, if_neg, if_neg, if_neg, if_neg] <;> simp_all
      ·simp_all
      ·simp_all)
  ·try simp at h4
   refine zm ?_
   refine zh ?_
   refine zj ?_
   refine za ?_
   refine dmv rfl ?_
   refine dq (zI zcb rfl) ?_
   refine dmv rfl ?_
   refine dn ?_
   refine zq ?_
   refine zai [4, 6, 7, 18, 19, 20, 21, 22, 23, 24, 25, 26, 27, 28, 29, 30, 31, 32, 33, 34, 35, 36, 37, 38, 39, 40, 41, 42, 43, 44, 45, 46, 47, 48, 49, 50, 51, 52, 53, 54, 55] (fun (k : Nat) => [(18, .int .i64 k)]) (fun (k : Nat) => []) (fun (k : Nat) => k ≤ l.length ∧ (zav (zam m) zb3 zbD l 0 l = zav (zam m) zb3 zbD l k (l.drop k))) (fun (k : Nat) => l.length - k) (0) ?_ ?_ ?_ ?_
   ·exact ⟨Nat.zero_le _, rfl⟩
   ·exact ⟨rfl, trivial⟩
   ·exact List.Perm.refl _
   ·intro k hinv
    obtain ⟨hk, hg⟩ := hinv
    refine za ?_
    refine dq (zS rfl rfl) ?_
    refine dn ?_
    refine zj ?_
    refine zi rfl (fun h5 => ?_) (fun h6 => ?_)
    ·try simp at h5
     obtain ⟨x, hx⟩ : ∃ x, l[k]? = some x := ⟨_, List.getElem?_eq_getElem h5⟩
     have hdx := zU hx
     rw [hdx] at hg
     refine zm ?_
     refine zh ?_
     refine zj ?_
     refine zq ?_
     refine za ?_
     refine dmv rfl ?_
     refine dq (zW zcb z6 rfl rfl rfl (by first | assumption | simp_all)) ?_
     refine dq (zH z6 rfl rfl rfl rfl) ?_
     refine de rfl (zZ z6 rfl fun b7 => ?_)
     refine das rfl ?_
     refine de0 (zah z6 rfl rfl rfl rfl rfl ?_)
     refine dn ?_
     refine zM (Ghost.fc0 7 rfl) ?_
     refine zq ?_
     refine za ?_
     refine dq (zb z6 rfl ty9 (by decide) rfl) ?_
     refine dq (zg ty9 rfl rfl rfl) ?_
     refine dq (zp ze0 rfl (WeakL.refl _) zby) ?_
     refine dq (zac rfl) ?_
     refine das rfl ?_
     refine dn ?_
     refine zi rfl (fun h7 => ?_) (fun h8 => ?_)
     ·try simp at h7
      refine za ?_
      refine das rfl ?_
      refine dn ?_
      refine zl ?_
      refine zC rfl ?_
      show HVal.int .i64 _ = _
      first
      | (rw [zcc, if_pos (by simpa using h1)]; done)
      | (rw [hE]; exact congrArg _ (zcj (by omega)))
      | (rw [hE]; exact congrArg _ (zcl (by omega) hg))
      | (rw [hE]
         refine congrArg _ (zae (e := 5) (by omega) hg (by decide) ?_)
         rw [zam, if_pos]
         simp_all
         done)
      | (rw [hE]
         refine congrArg _ (zae (e := 8) (by omega) hg (by decide) ?_)
         rw [zam, if_neg, if_pos]
         all_goals simp_all
         done)
      | (rw [hE]
         refine congrArg _ (zae (e := 1) (by omega) hg (by decide) ?_)
         rw [zam, if_neg, if_neg, if_pos]
         all_goals simp_all
         done)
      | (rw [hE]
         refine congrArg _ (zae (e := 4) (by omega) hg (by decide) ?_)
         rw [zam, if_neg, if_neg, if_neg, if_pos]
         all_goals simp_all
         done)
      | (rw [hE]
         refine congrArg _ (zcf (by omega) hg ?_ ?_ ?_)
         ·rw [zam, if_neg, if_neg, if_neg, if_neg] <;> simp_all
         ·simp_all
         ·simp_all)
     ·try simp at h8
      refine za ?_
      refine dq (zb z6 rfl ty9 (by decide) rfl) ?_
      refine dq (zg ty9 rfl rfl rfl) ?_
      refine dq (zp zoh rfl (WeakL.refl _) (zdv hm)) ?_
      refine dq (zac rfl) ?_
      refine das rfl ?_
      refine dn ?_
      refine zi rfl (fun h9 => ?_) (fun h10 => ?_)
      ·try simp at h9
       refine za ?_
       refine das rfl ?_
       refine dn ?_
       refine zl ?_
       refine zC rfl ?_
       show HVal.int .i64 _ = _
       first
       | (rw [zcc, if_pos (by simpa using h1)]; done)
       | (rw [hE]; exact congrArg _ (zcj (by omega)))
       | (rw [hE]; exact congrArg _ (zcl (by omega) hg))
       | (rw [hE]
          refine congrArg _ (zae (e := 5) (by omega) hg (by decide) ?_)
          rw [zam, if_pos]
          simp_all
          done)
       | (rw [hE]
          refine congrArg _ (zae (e := 8) (by omega) hg (by decide) ?_)
          rw [zam, if_neg, if_pos]
          all_goals simp_all
          done)
       | (rw [hE]
          refine congrArg _ (zae (e := 1) (by omega) hg (by decide) ?_)
          rw [zam, if_neg, if_neg, if_pos]
          all_goals simp_all
          done)
       | (rw [hE]
          refine congrArg _ (zae (e := 4) (by omega) hg (by decide) ?_)
          rw [zam, if_neg, if_neg, if_neg, if_pos]
          all_goals simp_all
          done)
       | (rw [hE]
          refine congrArg _ (zcf (by omega) hg ?_ ?_ ?_)
          ·rw [zam, if_neg, if_neg, if_neg, if_neg] <;> simp_all
          ·simp_all
          ·simp_all)
      ·try simp at h10
       refine za ?_
       refine dq (zb z6 rfl ty3 (by decide) rfl) ?_
       refine dq (zg ty3 rfl rfl rfl) ?_
       refine dq (zp znf rfl (WeakL.refl _) zdO) ?_
       refine dq (zac rfl) ?_
       refine das rfl ?_
       refine dn ?_
       refine zi rfl (fun h11 => ?_) (fun h12 => ?_)
       ·try simp at h11
        refine za ?_
        refine das rfl ?_
        refine dn ?_
        refine zl ?_
        refine zC rfl ?_
        show HVal.int .i64 _ = _
        first
        | (rw [zcc, if_pos (by simpa using h1)]; done)
        | (rw [hE]; exact congrArg _ (zcj (by omega)))
        | (rw [hE]; exact congrArg _ (zcl (by omega) hg))
        | (rw [hE]
           refine congrArg _ (zae (e := 5) (by omega) hg (by decide) ?_)
           rw [zam, if_pos]
           simp_all
           done)
        | (rw [hE]
           refine congrArg _ (zae (e := 8) (by omega) hg (by decide) ?_)
           rw [zam, if_neg, if_pos]
           all_goals simp_all
           done)
        | (rw [hE]
           refine congrArg _ (zae (e := 1) (by omega) hg (by decide) ?_)
           rw [zam, if_neg, if_neg, if_pos]
           all_goals simp_all
           done)
        | (rw [hE]
           refine congrArg _ (zae (e := 4) (by omega) hg (by decide) ?_)
           rw [zam, if_neg, if_neg, if_neg, if_pos]
           all_goals simp_all
           done)
        | (rw [hE]
           refine congrArg _ (zcf (by omega) hg ?_ ?_ ?_)
           ·rw [zam, if_neg, if_neg, if_neg, if_neg] <;> simp_all
           ·simp_all
           ·simp_all)
       ·try simp at h12
        refine za ?_
        refine dq (zb z6 rfl ty3 (by decide) rfl) ?_
        refine dq (zg ty3 rfl rfl rfl) ?_
        refine dq (zp zdu rfl (WeakL.refl _) za1) ?_
        refine das rfl ?_
        refine dn ?_
        refine zi rfl (fun h13 => ?_) (fun h14 => ?_)
        ·try simp at h13
         refine za ?_
         refine das rfl ?_
         refine dn ?_
         refine zl ?_
         refine zC rfl ?_
         show HVal.int .i64 _ = _
         first
         | (rw [zcc, if_pos (by simpa using h1)]; done)
         | (rw [hE]; exact congrArg _ (zcj (by omega)))
         | (rw [hE]; exact congrArg _ (zcl (by omega) hg))
         | (rw [hE]
            refine congrArg _ (zae (e := 5) (by omega) hg (by decide) ?_)
            rw [zam, if_pos]
            simp_all
            done)
         | (rw [hE]
            refine congrArg _ (zae (e := 8) (by omega) hg (by decide) ?_)
            rw [zam, if_neg, if_pos]
            all_goals simp_all
            done)
         | (rw [hE]
            refine congrArg _ (zae (e := 1) (by omega) hg (by decide) ?_)
            rw [zam, if_neg, if_neg, if_pos]
            all_goals simp_all
            done)
         | (rw [hE]
            refine congrArg _ (zae (e := 4) (by omega) hg (by decide) ?_)
            rw [zam, if_neg, if_neg, if_neg, if_pos]
            all_goals simp_all
            done)
         | (rw [hE]
            refine congrArg _ (zcf (by omega) hg ?_ ?_ ?_)
            ·rw [zam, if_neg, if_neg, if_neg, if_neg] <;> simp_all
            ·simp_all
            ·simp_all)
        ·try simp at h14
         refine zaH (fun _ => True) [] mixed ?_
         refine ahp 0 rfl rfl (by kernel_rfl) (by kernel_rfl) (zf rfl) ?_
         refine ahp 1 rfl rfl (by kernel_rfl) (by kernel_rfl) (zad rfl rfl) ?_
         refine ahp 2 rfl rfl (by kernel_rfl) (by kernel_rfl) (zf rfl) ?_
         refine ahg 3 rfl rfl (by kernel_rfl) (by kernel_rfl) rfl (fun hc => ⟨_, OpenTo.refl _, zH z6 rfl rfl rfl rfl⟩) ?_
         refine ahg 4 rfl rfl (by kernel_rfl) (by kernel_rfl) rfl (fun hc => ⟨_, OpenTo.refl _, zf rfl⟩) ?_
         refine ahg 5 rfl rfl (by kernel_rfl) (by kernel_rfl) rfl (fun hc => ⟨_, OpenTo.refl _, zf rfl⟩) ?_
         refine ahg 6 rfl rfl (by kernel_rfl) (by kernel_rfl) rfl (fun hc => by have hq := hc; (try simp at hq); exact ⟨_, OpenTo.upd (t := 48) rfl (by first | exact hc | simp_all) (OpenTo.refl _), zar rfl rfl (by omega) (by omega)⟩) ?_
         refine ahg 7 rfl rfl (by kernel_rfl) (by kernel_rfl) rfl (fun hc => by have hq := hc; (try simp at hq); exact ⟨_, OpenTo.upd (t := 49) rfl (by first | exact hc | simp_all) (OpenTo.upd (t := 47) rfl (by first | exact hc | simp_all) (OpenTo.refl _)), zW (j := k - 1) (a := l.getD (k - 1) zbD) zcb z6 rfl rfl (by omega) (getD_some (by omega))⟩) ?_
         refine ahg 8 rfl rfl (by kernel_rfl) (by kernel_rfl) rfl (fun hc => ⟨_, OpenTo.upd (t := 50) rfl (by first | exact hc | simp_all) (OpenTo.refl _), zH z6 rfl rfl rfl rfl⟩) ?_
         refine ahg 9 rfl rfl (by kernel_rfl) (by kernel_rfl) rfl (fun hc => ⟨_, OpenTo.upd (t := 51) rfl (by first | exact hc | simp_all) (OpenTo.upd (t := 46) rfl (by first | exact hc | simp_all) (OpenTo.refl _)), zp zuf rfl (WeakL.refl _) zkm⟩) ?_
         refine ahg 10 rfl rfl (by kernel_rfl) (by kernel_rfl) rfl (fun hc => ⟨_, OpenTo.upd (t := 52) rfl (by first | exact hc | simp_all) (OpenTo.refl _), zcT rfl rfl⟩) ?_
         refine ahp 11 rfl rfl (by kernel_rfl) (by kernel_rfl) (zz rfl (.inr ⟨_, rfl, fun h => by simp_all⟩) (.inl rfl)) ?_
         refine ahp 12 rfl rfl (by kernel_rfl) (by kernel_rfl) (zau rfl) ?_
         refine ahz (by kernel_rfl) ?_
         refine zi rfl (fun h15 => ?_) (fun h16 => ?_)
         ·try simp at h15
          refine za ?_
          refine das rfl ?_
          refine dn ?_
          refine zl ?_
          refine zC rfl ?_
          show HVal.int .i64 _ = _
          first
          | (rw [zcc, if_pos (by simpa using h1)]; done)
          | (rw [hE]; exact congrArg _ (zcj (by omega)))
          | (rw [hE]; exact congrArg _ (zcl (by omega) hg))
          | (rw [hE]
             refine congrArg _ (zae (e := 5) (by omega) hg (by decide) ?_)
             rw [zam, if_pos]
             simp_all
             done)
          | (rw [hE]
             refine congrArg _ (zae (e := 8) (by omega) hg (by decide) ?_)
             rw [zam, if_neg, if_pos]
             all_goals simp_all
             done)
          | (rw [hE]
             refine congrArg _ (zae (e := 1) (by omega) hg (by decide) ?_)
             rw [zam, if_neg, if_neg, if_pos]
             all_goals simp_all
             done)
          | (rw [hE]
             refine congrArg _ (zae (e := 4) (by omega) hg (by decide) ?_)
             rw [zam, if_neg, if_neg, if_neg, if_pos]
             all_goals simp_all
             done)
          | (rw [hE]
             refine congrArg _ (zcf (by omega) hg ?_ ?_ ?_)
             ·rw [zam, if_neg, if_neg, if_neg, if_neg] <;> simp_all
             ·simp_all
             ·simp_all)
         ·try simp at h16
          refine zm ?_
          refine zy ?_
          refine zy ?_
          refine zh ?_
          refine zD ?_
          refine dq (zB rfl rfl (by omega) (by omega)) ?_
          refine dmv rfl ?_
          refine dn ?_
          refine ⟨k + 1, ?_, ?_, ⟨rfl, trivial⟩, (by repeat (first | exact zt | refine zw rfl ?_ | refine zu rfl rfl ?_)), List.Perm.refl _⟩
          ·refine ⟨by omega, ?_⟩
           rw [hg, znd (by rw [zam, if_neg (by simp_all), if_neg (by simp_all), if_neg (by simp_all), if_neg (by simp_all)]) (by intro hk0; simp_all)]
          ·dsimp only; omega
    ·try simp at h6
     have hnk : l.length ≤ k := by omega
     obtain rfl : k = l.length := by omega
     rw [zaT (Nat.le_refl _)] at hg
     refine zX ?_
     refine z8 ?_
     refine zax ?_
     refine zO ?_
     refine zh ?_
     refine za ?_
     refine das rfl ?_
     refine dn ?_
     refine zl ?_
     refine zC rfl ?_
     show HVal.int .i64 _ = _
     first
     | (rw [zcc, if_pos (by simpa using h1)]; done)
     | (rw [hE]; exact congrArg _ (zcj (by omega)))
     | (rw [hE]; exact congrArg _ (zcl (by omega) hg))
     | (rw [hE]
        refine congrArg _ (zae (e := 5) (by omega) hg (by decide) ?_)
        rw [zam, if_pos]
        simp_all
        done)
     | (rw [hE]
        refine congrArg _ (zae (e := 8) (by omega) hg (by decide) ?_)
        rw [zam, if_neg, if_pos]
        all_goals simp_all
        done)
     | (rw [hE]
        refine congrArg _ (zae (e := 1) (by omega) hg (by decide) ?_)
        rw [zam, if_neg, if_neg, if_pos]
        all_goals simp_all
        done)
     | (rw [hE]
        refine congrArg _ (zae (e := 4) (by omega) hg (by decide) ?_)
        rw [zam, if_neg, if_neg, if_neg, if_pos]
        all_goals simp_all
        done)
     | (rw [hE]
        refine congrArg _ (zcf (by omega) hg ?_ ?_ ?_)
        ·rw [zam, if_neg, if_neg, if_neg, if_neg] <;> simp_all
        ·simp_all
        ·simp_all)
end
section
open Go.HL
/-- benchwarmer/benchref1.MarketFault -/
theorem zgG [Tracks] {m : MarketS} (ht : m.Teams.length ≤ 1000000) (hs : ∀ s ∈ m.Teams, s.length ≤ 1000000) : ConP Tryz.prog 44 [zaM m] (.int .i64 (zag m)) := by
 refine Con.of_body Tryz.func44 rfl Tryz.ntmps44 rfl rfl ?_
 refine za ?_
 refine dq (zat rfl rfl) ?_
 refine das rfl ?_
 refine dn ?_
 refine zj ?_
 refine zq ?_
 refine za ?_
 refine dq (zb zV rfl zR (by decide) rfl) ?_
 refine dq (zg zR rfl rfl rfl) ?_
 refine dq (zI zR rfl) ?_
 refine dq (zas rfl rfl) ?_
 refine das rfl ?_
 refine dn ?_
 refine zi rfl (fun h1 => ?_) (fun h2 => ?_)
 ·try simp at h1
  refine za ?_
  refine das rfl ?_
  refine dn ?_
  refine zl ?_
  refine zC rfl ?_
  show HVal.int .i64 _ = _
  first
  | (rw [zag, if_pos (by simpa using h1)]; done)
  | (rw [zag, if_neg (by simpa using h2), if_pos (by omega)]; done)
  | (rw [zag, if_neg (by simpa using h2), if_neg (by omega), hg]; simp_all [zbk, leS]; done)
 ·try simp at h2
  refine za ?_
  refine dq (zb zV rfl zR (by decide) rfl) ?_
  refine dq (zg zR rfl rfl rfl) ?_
  refine dq (zI zR rfl) ?_
  refine dq (zad rfl rfl) ?_
  refine das rfl ?_
  refine dn ?_
  refine zi rfl (fun h3 => ?_) (fun h4 => ?_)
  ·try simp at h3
   refine za ?_
   refine das rfl ?_
   refine dn ?_
   refine zl ?_
   refine zC rfl ?_
   show HVal.int .i64 _ = _
   first
   | (rw [zag, if_pos (by simpa using h1)]; done)
   | (rw [zag, if_neg (by simpa using h2), if_pos (by omega)]; done)
   | (rw [zag, if_neg (by simpa using h2), if_neg (by omega), hg]; simp_all [zbk, leS]; done)
  ·try simp at h4
   refine zm ?_
   refine zy ?_
   refine zh ?_
   refine zj ?_
   refine za ?_
   refine dq (zb zV rfl zR (by decide) rfl) ?_
   refine dq (zg zR rfl rfl rfl) ?_
   refine dq (zI zR rfl) ?_
   refine dmv rfl ?_
   refine dn ?_
   refine zq ?_
   refine zai [2, 3, 4, 18, 19, 20, 21, 22, 23, 24, 25, 26, 27, 28, 29, 30, 31, 32, 33, 34, 35, 36, 37, 38, 39, 40] (fun (k : Nat) => [(18, .int .i64 k)]) (fun (k : Nat) => []) (fun (k : Nat) => k ≤ m.Teams.length ∧ (zeg m.Teams = zbk m.Teams k (m.Teams.drop k))) (fun (k : Nat) => m.Teams.length - k) (0) ?_ ?_ ?_ ?_
   ·exact ⟨Nat.zero_le _, rfl⟩
   ·exact ⟨rfl, trivial⟩
   ·exact List.Perm.refl _
   ·intro k hinv
    obtain ⟨hk, hg⟩ := hinv
    refine za ?_
    refine dq (zS rfl rfl) ?_
    refine dn ?_
    refine zj ?_
    refine zi rfl (fun h5 => ?_) (fun h6 => ?_)
    ·try simp at h5
     obtain ⟨x, hx⟩ : ∃ x, m.Teams[k]? = some x := ⟨_, List.getElem?_eq_getElem h5⟩
     have hdx := zU hx
     rw [hdx] at hg
     refine zm ?_
     refine zh ?_
     refine zj ?_
     refine zq ?_
     refine za ?_
     refine dmv rfl ?_
     refine dq (zW zR ty9 rfl rfl rfl (by first | assumption | simp_all)) ?_
     refine dq (zg ty9 rfl rfl rfl) ?_
     refine das rfl ?_
     refine das rfl ?_
     refine dn ?_
     refine zq ?_
     refine za ?_
     refine dmv rfl ?_
     refine dq (zp zlB rfl (WeakL.refl _) (zcu (hs x (List.mem_of_getElem? hx)))) ?_
     refine dq (zac rfl) ?_
     refine das rfl ?_
     refine dn ?_
     refine zi rfl (fun h7 => ?_) (fun h8 => ?_)
     ·try simp at h7
      refine za ?_
      refine das rfl ?_
      refine dn ?_
      refine zl ?_
      refine zC rfl ?_
      show HVal.int .i64 _ = _
      first
      | (rw [zag, if_pos (by simpa using h1)]; done)
      | (rw [zag, if_neg (by simpa using h2), if_pos (by omega)]; done)
      | (rw [zag, if_neg (by simpa using h2), if_neg (by omega), hg]; simp_all [zbk, leS]; done)
     ·try simp at h8
      refine za ?_
      refine dmv rfl ?_
      refine dq (zad rfl rfl) ?_
      refine dmv rfl ?_
      refine dg rfl rfl (fun hc => ⟨_, OpenTo.refl _, zf rfl⟩) ?_
      refine dg rfl rfl (fun hc => ⟨_, OpenTo.refl _, zb zV rfl zR (by decide) rfl⟩) ?_
      refine dg rfl rfl (fun hc => ⟨_, OpenTo.upd (t := 32) rfl (by first | exact hc | simp_all) (OpenTo.refl _), zg zR rfl rfl rfl⟩) ?_
      refine dg rfl rfl (fun hc => ⟨_, OpenTo.refl _, zf rfl⟩) ?_
      refine dg rfl rfl (fun hc => by have hq := hc; (try simp at hq); exact ⟨_, OpenTo.upd (t := 34) rfl (by first | exact hc | simp_all) (OpenTo.refl _), zar rfl rfl (by omega) (by omega)⟩) ?_
      refine dg rfl rfl (fun hc => by have hq := hc; (try simp at hq); exact ⟨_, OpenTo.upd (t := 35) rfl (by first | exact hc | simp_all) (OpenTo.upd (t := 33) rfl (by first | exact hc | simp_all) (OpenTo.refl _)), zW (j := k - 1) (a := m.Teams.getD (k - 1) []) zR ty9 rfl rfl (by omega) (getD_some (by omega))⟩) ?_
      refine dg rfl rfl (fun hc => ⟨_, OpenTo.upd (t := 36) rfl (by first | exact hc | simp_all) (OpenTo.refl _), zg ty9 rfl rfl rfl⟩) ?_
      refine dg rfl rfl (fun hc => ⟨_, OpenTo.upd (t := 37) rfl (by first | exact hc | simp_all) (OpenTo.upd (t := 31) rfl (by first | exact hc | simp_all) (OpenTo.refl _)), zdk rfl rfl⟩) ?_
      refine dq (zz rfl (.inr ⟨_, rfl, fun h => by simp_all⟩) (.inl rfl)) ?_
      refine das rfl ?_
      refine dn ?_
      refine zi rfl (fun h9 => ?_) (fun h10 => ?_)
      ·try simp at h9
       refine za ?_
       refine das rfl ?_
       refine dn ?_
       refine zl ?_
       refine zC rfl ?_
       show HVal.int .i64 _ = _
       first
       | (rw [zag, if_pos (by simpa using h1)]; done)
       | (rw [zag, if_neg (by simpa using h2), if_pos (by omega)]; done)
       | (rw [zag, if_neg (by simpa using h2), if_neg (by omega), hg]; simp_all [zbk, leS]; done)
      ·try simp at h10
       refine zm ?_
       refine zy ?_
       refine zy ?_
       refine zh ?_
       refine zD ?_
       refine dq (zB rfl rfl (by omega) (by omega)) ?_
       refine dmv rfl ?_
       refine dn ?_
       refine ⟨k + 1, ?_, ?_, ⟨rfl, trivial⟩, (by repeat (first | exact zt | refine zw rfl ?_ | refine zu rfl rfl ?_)), List.Perm.refl _⟩
       ·refine ⟨by omega, ?_⟩
        rw [hg]; simp_all [zbk, leS]
       ·dsimp only; omega
    ·try simp at h6
     have hnk : m.Teams.length ≤ k := by omega
     obtain rfl : k = m.Teams.length := by omega
     rw [zaT (Nat.le_refl _)] at hg
     refine zX ?_
     refine z8 ?_
     refine zax ?_
     refine zO ?_
     refine zh ?_
     refine zj ?_
     refine za ?_
     refine dq (zb zV rfl ty3 (by decide) rfl) ?_
     refine dq (zg ty3 rfl rfl rfl) ?_
     refine dq (zp ziI rfl (WeakL.refl _) zbY) ?_
     refine dq (zac rfl) ?_
     refine dmv rfl ?_
     refine dg rfl rfl (fun hc => ⟨_, OpenTo.refl _, zb zV rfl ty3 (by decide) rfl⟩) ?_
     refine dg rfl rfl (fun hc => ⟨_, OpenTo.upd (t := 46) rfl (by first | exact hc | simp_all) (OpenTo.refl _), zg ty3 rfl rfl rfl⟩) ?_
     refine dg rfl rfl (fun hc => ⟨_, OpenTo.upd (t := 47) rfl (by first | exact hc | simp_all) (OpenTo.refl _), zp ziI rfl (WeakL.refl _) zbY⟩) ?_
     refine dg rfl rfl (fun hc => ⟨_, OpenTo.upd (t := 48) rfl (by first | exact hc | simp_all) (OpenTo.refl _), zac rfl⟩) ?_
     refine dq (zz rfl (.inl rfl) (.inr ⟨_, rfl, fun h => by simp_all⟩)) ?_
     refine dmv rfl ?_
     refine dg rfl rfl (fun hc => ⟨_, OpenTo.refl _, zb zV rfl ty3 (by decide) rfl⟩) ?_
     refine dg rfl rfl (fun hc => ⟨_, OpenTo.upd (t := 52) rfl (by first | exact hc | simp_all) (OpenTo.refl _), zg ty3 rfl rfl rfl⟩) ?_
     refine dg rfl rfl (fun hc => ⟨_, OpenTo.upd (t := 53) rfl (by first | exact hc | simp_all) (OpenTo.refl _), zp ziI rfl (WeakL.refl _) zbY⟩) ?_
     refine dg rfl rfl (fun hc => ⟨_, OpenTo.upd (t := 54) rfl (by first | exact hc | simp_all) (OpenTo.refl _), zac rfl⟩) ?_
     refine dq (zz rfl (.inl rfl) (.inr ⟨_, rfl, fun h => by simp_all⟩)) ?_
     refine dmv rfl ?_
     refine dg rfl rfl (fun hc => ⟨_, OpenTo.refl _, zb zV rfl ty3 (by decide) rfl⟩) ?_
     refine dg rfl rfl (fun hc => ⟨_, OpenTo.upd (t := 58) rfl (by first | exact hc | simp_all) (OpenTo.refl _), zg ty3 rfl rfl rfl⟩) ?_
     refine dg rfl rfl (fun hc => ⟨_, OpenTo.refl _, zb zV rfl ty3 (by decide) rfl⟩) ?_
     refine dg rfl rfl (fun hc => ⟨_, OpenTo.upd (t := 60) rfl (by first | exact hc | simp_all) (OpenTo.refl _), zg ty3 rfl rfl rfl⟩) ?_
     refine dg rfl rfl (fun hc => ⟨_, OpenTo.upd (t := 61) rfl (by first | exact hc | simp_all) (OpenTo.upd (t := 59) rfl (by first | exact hc | simp_all) (OpenTo.refl _)), zp ziI rfl (WeakL.refl _) zbY⟩) ?_
     refine dg rfl rfl (fun hc => ⟨_, OpenTo.upd (t := 62) rfl (by first | exact hc | simp_all) (OpenTo.refl _), zac rfl⟩) ?_
     refine dq (zz rfl (.inl rfl) (.inr ⟨_, rfl, fun h => by simp_all⟩)) ?_
     refine dmv rfl ?_
     refine dg rfl rfl (fun hc => ⟨_, OpenTo.refl _, zb zV rfl ty3 (by decide) rfl⟩) ?_
     refine dg rfl rfl (fun hc => ⟨_, OpenTo.upd (t := 66) rfl (by first | exact hc | simp_all) (OpenTo.refl _), zg ty3 rfl rfl rfl⟩) ?_
     refine dg rfl rfl (fun hc => ⟨_, OpenTo.upd (t := 67) rfl (by first | exact hc | simp_all) (OpenTo.refl _), zad rfl rfl⟩) ?_
     refine dq (zz rfl (.inl rfl) (.inr ⟨_, rfl, fun h => by simp_all⟩)) ?_
     refine dn ?_
     refine zi rfl (fun h11 => ?_) (fun h12 => ?_)
     ·try simp at h11
      refine za ?_
      refine das rfl ?_
      refine dn ?_
      refine zl ?_
      refine zC rfl ?_
      show HVal.int .i64 _ = _
      first
      | (rw [zag, if_pos (by simpa using h1)]; done)
      | (rw [zag, if_neg (by simpa using h2), if_pos (by omega)]; done)
      | (rw [zag, if_neg (by simpa using h2), if_neg (by omega), hg]; simp_all [zbk, leS]; done)
     ·try simp at h12
      refine zm ?_
      refine zh ?_
      refine za ?_
      refine das rfl ?_
      refine dn ?_
      refine zl ?_
      refine zC rfl ?_
      show HVal.int .i64 _ = _
      first
      | (rw [zag, if_pos (by simpa using h1)]; done)
      | (rw [zag, if_neg (by simpa using h2), if_pos (by omega)]; done)
      | (rw [zag, if_neg (by simpa using h2), if_neg (by omega), hg]; simp_all [zbk, leS]; done)

/-- benchwarmer/benchref1.hasTeam -/
theorem zcd [Tracks] {m : MarketS} {t : Str} (ht : m.Teams.length ≤ 1000000) : ConP Tryz.prog 76 [zaM m, .str t] (.bool (m.Teams.contains t)) := by
 refine Con.of_body Tryz.func76 rfl Tryz.ntmps76 rfl rfl ?_
 refine za ?_
 refine dq (zat rfl rfl) ?_
 refine das rfl ?_
 refine dn ?_
 refine za ?_
 refine dq (zb zV rfl zR (by decide) rfl) ?_
 refine dq (zg zR rfl rfl rfl) ?_
 refine dmv rfl ?_
 refine dq (zp zit rfl (WeakL.refl _) (zaL (l := m.Teams) (s := t) (by omega))) ?_
 refine das rfl ?_
 refine dn ?_
 refine zl ?_
 refine zC rfl ?_
 rfl

/-- benchwarmer/benchref1.fits -/
theorem zkg [Tracks] {m : MarketS} {o : List OwnerS} (ht : m.Teams.length ≤ 1000000) (ho : o.length ≤ 1000000) : ConP Tryz.prog 77 [zaM m, zbe o] (.bool (ze8 m o)) := by
 refine Con.of_body Tryz.func77 rfl Tryz.ntmps77 rfl rfl ?_
 refine za ?_
 refine dq (zat rfl rfl) ?_
 refine das rfl ?_
 refine dn ?_
 refine zj ?_
 refine za ?_
 refine dq (zb zV rfl zR (by decide) rfl) ?_
 refine dq (zg zR rfl rfl rfl) ?_
 refine dq (zI zR rfl) ?_
 refine dmv rfl ?_
 refine dn ?_
 refine zq ?_
 refine zai [4, 6, 7, 9, 13, 14, 15, 16, 17, 18, 19, 20, 21, 22, 23, 24, 25, 26, 27, 28, 29, 30, 31, 32, 33, 34, 35, 36, 37] (fun (k : Nat) => [(13, .int .i64 k)]) (fun (k : Nat) => []) (fun (k : Nat) => k ≤ m.Teams.length ∧ (ze8 m o = (m.Teams.drop k).all fun t => !(out (zdt o t) m.Least m.Most))) (fun (k : Nat) => m.Teams.length - k) (0) ?_ ?_ ?_ ?_
 ·exact ⟨Nat.zero_le _, rfl⟩
 ·exact ⟨rfl, trivial⟩
 ·exact List.Perm.refl _
 ·intro k hinv
  obtain ⟨hk, hg⟩ := hinv
  refine za ?_
  refine dq (zS rfl rfl) ?_
  refine dn ?_
  refine zj ?_
  refine zi rfl (fun h1 => ?_) (fun h2 => ?_)
  ·try simp at h1
   obtain ⟨x, hx⟩ : ∃ x, m.Teams[k]? = some x := ⟨_, List.getElem?_eq_getElem h1⟩
   have hdx := zU hx
   rw [hdx, List.all_cons] at hg
   refine zm ?_
   refine zh ?_
   refine zj ?_
   refine zq ?_
   refine za ?_
   refine dq (zW zR ty9 rfl rfl rfl (by first | assumption | simp_all)) ?_
   refine dq (zg ty9 rfl rfl rfl) ?_
   refine das rfl ?_
   refine dn ?_
   refine za ?_
   refine das rfl ?_
   refine dn ?_
   refine zj ?_
   refine za ?_
   refine dmv rfl ?_
   refine dq (zI zaR rfl) ?_
   refine dmv rfl ?_
   refine dn ?_
   refine zq ?_
   refine zai [7, 9, 19, 20, 21, 22, 23, 24, 25, 26, 27, 28, 29] (fun (j : Nat) => [(19, .int .i64 j), (7, .int .i64 (zdt (o.take j) x))]) (fun (j : Nat) => []) (fun (j : Nat) => j ≤ o.length ∧ (True)) (fun (j : Nat) => o.length - j) (0) ?_ ?_ ?_ ?_
   ·exact ⟨Nat.zero_le _, trivial⟩
   ·exact ⟨rfl, rfl, trivial⟩
   ·exact List.Perm.refl _
   ·intro j hinv
    obtain ⟨hj, -⟩ := hinv
    refine za ?_
    refine dq (zS rfl rfl) ?_
    refine dn ?_
    refine zj ?_
    refine zi rfl (fun h3 => ?_) (fun h4 => ?_)
    ·try simp at h3
     obtain ⟨y, hy⟩ : ∃ y, o[j]? = some y := ⟨_, List.getElem?_eq_getElem h3⟩
     have hdy := zU hy
     refine zm ?_
     refine zh ?_
     refine zj ?_
     refine zq ?_
     refine za ?_
     refine dq (zW zaR zap rfl rfl rfl (by first | assumption | simp_all)) ?_
     refine dq (zH zap rfl rfl rfl rfl) ?_
     refine de rfl (zZ zap rfl fun b9 => ?_)
     refine de0 (zah zap rfl rfl rfl rfl rfl ?_)
     refine dn ?_
     refine zM (Ghost.fc0 9 rfl) ?_
     refine za ?_
     refine dq (zb zap rfl ty9 (by decide) rfl) ?_
     refine dq (zg ty9 rfl rfl rfl) ?_
     refine dmv rfl ?_
     refine dq (zbv rfl rfl) ?_
     refine dn ?_
     refine zi rfl (fun h5 => ?_) (fun h6 => ?_)
     ·try simp at h5
      refine zD ?_
      refine dmv rfl ?_
      have hcb := zo1 (o.take j) x
      rw [List.length_take] at hcb
      refine dq (zB rfl rfl (by omega) (by omega)) ?_
      refine das rfl ?_
      refine dn ?_
      refine zy ?_
      refine zh ?_
      refine zD ?_
      refine dq (zB rfl rfl (by omega) (by omega)) ?_
      refine dmv rfl ?_
      refine dn ?_
      exact ⟨j + 1, ⟨by omega, trivial⟩, by dsimp only; omega, ⟨rfl, zcD (by rw [zkb o x j y hy, if_pos (by simp_all)]), trivial⟩, (by repeat (first | exact zt | refine zw rfl ?_ | refine zu rfl rfl ?_)), List.Perm.refl _⟩
     ·try simp at h6
      refine zm ?_
      refine zy ?_
      refine zh ?_
      refine zD ?_
      refine dq (zB rfl rfl (by omega) (by omega)) ?_
      refine dmv rfl ?_
      refine dn ?_
      exact ⟨j + 1, ⟨by omega, trivial⟩, by dsimp only; omega, ⟨rfl, zcD (by rw [zkb o x j y hy, if_neg (by simp_all), Int.add_zero]), trivial⟩, (by repeat (first | exact zt | refine zw rfl ?_ | refine zu rfl rfl ?_)), List.Perm.refl _⟩
    ·try simp at h4
     have hnj : o.length ≤ j := by omega
     obtain rfl : j = o.length := by omega
     rw [List.take_length]
     refine zX ?_
     refine z8 ?_
     refine zax ?_
     refine zO ?_
     refine zh ?_
     refine za ?_
     refine dmv rfl ?_
     refine dq (zb zV rfl ty3 (by decide) rfl) ?_
     refine dq (zg ty3 rfl rfl rfl) ?_
     refine dq (zb zV rfl ty3 (by decide) rfl) ?_
     refine dq (zg ty3 rfl rfl rfl) ?_
     refine dq (zp ziI rfl (WeakL.refl _) zbY) ?_
     refine dq (zac rfl) ?_
     refine dn ?_
     refine zi rfl (fun h7 => ?_) (fun h8 => ?_)
     ·try simp at h7
      refine za ?_
      refine das rfl ?_
      refine dn ?_
      refine zl ?_
      refine zC rfl ?_
      show HVal.bool _ = _
      rw [hg]; simp_all
     ·try simp at h8
      refine zm ?_
      refine zy ?_
      refine zh ?_
      refine zD ?_
      refine dq (zB rfl rfl (by omega) (by omega)) ?_
      refine dmv rfl ?_
      refine dn ?_
      refine ⟨k + 1, ?_, ?_, ⟨rfl, trivial⟩, (by repeat (first | exact zt | refine zw rfl ?_ | refine zu rfl rfl ?_)), List.Perm.refl _⟩
      ·refine ⟨by omega, ?_⟩
       rw [hg]; simp_all
      ·dsimp only; omega
  ·try simp at h2
   have hnk : m.Teams.length ≤ k := by omega
   obtain rfl : k = m.Teams.length := by omega
   rw [zaT (Nat.le_refl _)] at hg
   refine zX ?_
   refine z8 ?_
   refine zax ?_
   refine zO ?_
   refine zh ?_
   refine za ?_
   refine das rfl ?_
   refine dn ?_
   refine zl ?_
   refine zC rfl ?_
   show HVal.bool _ = _
   rw [hg]; simp_all

/-- benchwarmer/benchref1.OwnersFault -/
theorem zgJ [Tracks] {m : MarketS} {o : List OwnerS} (ht : m.Teams.length ≤ 1000000) (ho : o.length ≤ 1000000) (hs : ∀ x ∈ o, x.Player.length ≤ 1000000) : ConP Tryz.prog 45 [zaM m, zbe o] (.int .i64 (zb0 m o)) := by
 refine Con.of_body Tryz.func45 rfl Tryz.ntmps45 rfl rfl ?_
 refine za ?_
 refine dq (zat rfl rfl) ?_
 refine das rfl ?_
 refine dn ?_
 refine zj ?_
 refine za ?_
 refine dmv rfl ?_
 refine dq (zI zaR rfl) ?_
 refine dq (zad rfl rfl) ?_
 refine dn ?_
 refine zi rfl (fun h1 => ?_) (fun h2 => ?_)
 ·try simp at h1
  refine za ?_
  refine das rfl ?_
  refine dn ?_
  refine zl ?_
  refine zC rfl ?_
  show HVal.int .i64 _ = _
  first
  | (exact congrArg _ (zcS (by omega)))
  | (rw [← zcU (by omega) hg]; simp_all; done)
  | (refine congrArg _ (zbd (e := 5) (by omega) hg (by decide) ?_)
     rw [zaU, if_pos]
     simp_all
     done)
  | (refine congrArg _ (zbd (e := 8) (by omega) hg (by decide) ?_)
     rw [zaU, if_neg, if_pos]
     all_goals simp_all
     done)
  | (refine congrArg _ (zcR (by omega) hg ?_ ?_ ?_)
     ·rw [zaU, if_neg, if_neg] <;> simp_all
     ·simp_all
     ·simp_all)
 ·try simp at h2
  refine zm ?_
  refine zh ?_
  refine zj ?_
  refine za ?_
  refine dmv rfl ?_
  refine dq (zI zaR rfl) ?_
  refine dmv rfl ?_
  refine dn ?_
  refine zq ?_
  refine zai [4, 5, 6, 12, 13, 14, 15, 16, 17, 18, 19, 20, 21, 22, 23, 24, 25, 26, 27, 28, 29, 30, 31, 32, 33, 34, 35, 36, 37, 38, 39, 40, 41, 42] (fun (k : Nat) => [(12, .int .i64 k)]) (fun (k : Nat) => []) (fun (k : Nat) => k ≤ o.length ∧ (zc7 m o = zav (zaU m) zdX zbR o k (o.drop k))) (fun (k : Nat) => o.length - k) (0) ?_ ?_ ?_ ?_
  ·exact ⟨Nat.zero_le _, rfl⟩
  ·exact ⟨rfl, trivial⟩
  ·exact List.Perm.refl _
  ·intro k hinv
   obtain ⟨hk, hg⟩ := hinv
   refine za ?_
   refine dq (zS rfl rfl) ?_
   refine dn ?_
   refine zj ?_
   refine zi rfl (fun h3 => ?_) (fun h4 => ?_)
   ·try simp at h3
    obtain ⟨x, hx⟩ : ∃ x, o[k]? = some x := ⟨_, List.getElem?_eq_getElem h3⟩
    have hdx := zU hx
    rw [hdx] at hg
    refine zm ?_
    refine zh ?_
    refine zj ?_
    refine zq ?_
    refine za ?_
    refine dmv rfl ?_
    refine dq (zW zaR zap rfl rfl rfl (by first | assumption | simp_all)) ?_
    refine dq (zH zap rfl rfl rfl rfl) ?_
    refine de rfl (zZ zap rfl fun b6 => ?_)
    refine das rfl ?_
    refine de0 (zah zap rfl rfl rfl rfl rfl ?_)
    refine dn ?_
    refine zM (Ghost.fc0 6 rfl) ?_
    refine zq ?_
    refine za ?_
    refine dq (zb zap rfl ty9 (by decide) rfl) ?_
    refine dq (zg ty9 rfl rfl rfl) ?_
    refine dq (zp zlB rfl (WeakL.refl _) (zcu (hs x (List.mem_of_getElem? hx)))) ?_
    refine dq (zac rfl) ?_
    refine das rfl ?_
    refine dn ?_
    refine zi rfl (fun h5 => ?_) (fun h6 => ?_)
    ·try simp at h5
     refine za ?_
     refine das rfl ?_
     refine dn ?_
     refine zl ?_
     refine zC rfl ?_
     show HVal.int .i64 _ = _
     first
     | (exact congrArg _ (zcS (by omega)))
     | (rw [← zcU (by omega) hg]; simp_all; done)
     | (refine congrArg _ (zbd (e := 5) (by omega) hg (by decide) ?_)
        rw [zaU, if_pos]
        simp_all
        done)
     | (refine congrArg _ (zbd (e := 8) (by omega) hg (by decide) ?_)
        rw [zaU, if_neg, if_pos]
        all_goals simp_all
        done)
     | (refine congrArg _ (zcR (by omega) hg ?_ ?_ ?_)
        ·rw [zaU, if_neg, if_neg] <;> simp_all
        ·simp_all
        ·simp_all)
    ·try simp at h6
     refine za ?_
     refine dq (zH zV rfl rfl rfl rfl) ?_
     refine dq (zb zap rfl ty9 (by decide) rfl) ?_
     refine dq (zg ty9 rfl rfl rfl) ?_
     refine dq (zp znR rfl (WeakL.refl _) (zcd (by first | assumption | omega | (simp; omega) | simp_all))) ?_
     refine dq (zac rfl) ?_
     refine das rfl ?_
     refine dn ?_
     refine zi rfl (fun h7 => ?_) (fun h8 => ?_)
     ·try simp at h7
      refine za ?_
      refine das rfl ?_
      refine dn ?_
      refine zl ?_
      refine zC rfl ?_
      show HVal.int .i64 _ = _
      first
      | (exact congrArg _ (zcS (by omega)))
      | (rw [← zcU (by omega) hg]; simp_all; done)
      | (refine congrArg _ (zbd (e := 5) (by omega) hg (by decide) ?_)
         rw [zaU, if_pos]
         simp_all
         done)
      | (refine congrArg _ (zbd (e := 8) (by omega) hg (by decide) ?_)
         rw [zaU, if_neg, if_pos]
         all_goals simp_all
         done)
      | (refine congrArg _ (zcR (by omega) hg ?_ ?_ ?_)
         ·rw [zaU, if_neg, if_neg] <;> simp_all
         ·simp_all
         ·simp_all)
     ·try simp at h8
      refine zaH (fun _ => True) [] mixed ?_
      refine ahp 0 rfl rfl (by kernel_rfl) (by kernel_rfl) (zf rfl) ?_
      refine ahp 1 rfl rfl (by kernel_rfl) (by kernel_rfl) (zad rfl rfl) ?_
      refine ahp 2 rfl rfl (by kernel_rfl) (by kernel_rfl) (zf rfl) ?_
      refine ahg 3 rfl rfl (by kernel_rfl) (by kernel_rfl) rfl (fun hc => ⟨_, OpenTo.refl _, zb zap rfl ty9 (by decide) rfl⟩) ?_
      refine ahg 4 rfl rfl (by kernel_rfl) (by kernel_rfl) rfl (fun hc => ⟨_, OpenTo.upd (t := 32) rfl (by first | exact hc | simp_all) (OpenTo.refl _), zg ty9 rfl rfl rfl⟩) ?_
      refine ahg 5 rfl rfl (by kernel_rfl) (by kernel_rfl) rfl (fun hc => ⟨_, OpenTo.refl _, zf rfl⟩) ?_
      refine ahg 6 rfl rfl (by kernel_rfl) (by kernel_rfl) rfl (fun hc => ⟨_, OpenTo.refl _, zf rfl⟩) ?_
      refine ahg 7 rfl rfl (by kernel_rfl) (by kernel_rfl) rfl (fun hc => by have hq := hc; (try simp at hq); exact ⟨_, OpenTo.upd (t := 35) rfl (by first | exact hc | simp_all) (OpenTo.refl _), zar rfl rfl (by omega) (by omega)⟩) ?_
      refine ahg 8 rfl rfl (by kernel_rfl) (by kernel_rfl) rfl (fun hc => by have hq := hc; (try simp at hq); exact ⟨_, OpenTo.upd (t := 36) rfl (by first | exact hc | simp_all) (OpenTo.upd (t := 34) rfl (by first | exact hc | simp_all) (OpenTo.refl _)), zW (j := k - 1) (a := o.getD (k - 1) zbR) zaR zap rfl rfl (by omega) (getD_some (by omega))⟩) ?_
      refine ahg 9 rfl rfl (by kernel_rfl) (by kernel_rfl) rfl (fun hc => ⟨_, OpenTo.upd (t := 37) rfl (by first | exact hc | simp_all) (OpenTo.refl _), zb zap rfl ty9 (by decide) rfl⟩) ?_
      refine ahg 10 rfl rfl (by kernel_rfl) (by kernel_rfl) rfl (fun hc => ⟨_, OpenTo.upd (t := 38) rfl (by first | exact hc | simp_all) (OpenTo.refl _), zg ty9 rfl rfl rfl⟩) ?_
      refine ahg 11 rfl rfl (by kernel_rfl) (by kernel_rfl) rfl (fun hc => ⟨_, OpenTo.upd (t := 39) rfl (by first | exact hc | simp_all) (OpenTo.upd (t := 33) rfl (by first | exact hc | simp_all) (OpenTo.refl _)), zdk rfl rfl⟩) ?_
      refine ahp 12 rfl rfl (by kernel_rfl) (by kernel_rfl) (zz rfl (.inr ⟨_, rfl, fun h => by simp_all⟩) (.inl rfl)) ?_
      refine ahp 13 rfl rfl (by kernel_rfl) (by kernel_rfl) (zau rfl) ?_
      refine ahz (by kernel_rfl) ?_
      refine zi rfl (fun h9 => ?_) (fun h10 => ?_)
      ·try simp at h9
       refine za ?_
       refine das rfl ?_
       refine dn ?_
       refine zl ?_
       refine zC rfl ?_
       show HVal.int .i64 _ = _
       first
       | (exact congrArg _ (zcS (by omega)))
       | (rw [← zcU (by omega) hg]; simp_all; done)
       | (refine congrArg _ (zbd (e := 5) (by omega) hg (by decide) ?_)
          rw [zaU, if_pos]
          simp_all
          done)
       | (refine congrArg _ (zbd (e := 8) (by omega) hg (by decide) ?_)
          rw [zaU, if_neg, if_pos]
          all_goals simp_all
          done)
       | (refine congrArg _ (zcR (by omega) hg ?_ ?_ ?_)
          ·rw [zaU, if_neg, if_neg] <;> simp_all
          ·simp_all
          ·simp_all)
      ·try simp at h10
       refine zm ?_
       refine zy ?_
       refine zy ?_
       refine zh ?_
       refine zD ?_
       refine dq (zB rfl rfl (by omega) (by omega)) ?_
       refine dmv rfl ?_
       refine dn ?_
       refine ⟨k + 1, ?_, ?_, ⟨rfl, trivial⟩, (by repeat (first | exact zt | refine zw rfl ?_ | refine zu rfl rfl ?_)), List.Perm.refl _⟩
       ·refine ⟨by omega, ?_⟩
        rw [hg, zni (by rw [zaU, if_neg (by simp_all), if_neg (by simp_all)]) (by intro hk0; simp_all)]
       ·dsimp only; omega
   ·try simp at h4
    have hnk : o.length ≤ k := by omega
    obtain rfl : k = o.length := by omega
    rw [zaT (Nat.le_refl _)] at hg
    refine zX ?_
    refine z8 ?_
    refine zax ?_
    refine zO ?_
    refine zh ?_
    refine zj ?_
    refine za ?_
    refine dq (zH zV rfl rfl rfl rfl) ?_
    refine dmv rfl ?_
    refine dq (zp ca77 rfl (WeakL.refl _) (zkg (by first | assumption | omega | (simp; omega) | simp_all) (by first | assumption | omega | (simp; omega) | simp_all))) ?_
    refine dq (zac rfl) ?_
    refine dn ?_
    refine zi rfl (fun h11 => ?_) (fun h12 => ?_)
    ·try simp at h11
     refine za ?_
     refine das rfl ?_
     refine dn ?_
     refine zl ?_
     refine zC rfl ?_
     show HVal.int .i64 _ = _
     first
     | (exact congrArg _ (zcS (by omega)))
     | (rw [← zcU (by omega) hg]; simp_all; done)
     | (refine congrArg _ (zbd (e := 5) (by omega) hg (by decide) ?_)
        rw [zaU, if_pos]
        simp_all
        done)
     | (refine congrArg _ (zbd (e := 8) (by omega) hg (by decide) ?_)
        rw [zaU, if_neg, if_pos]
        all_goals simp_all
        done)
     | (refine congrArg _ (zcR (by omega) hg ?_ ?_ ?_)
        ·rw [zaU, if_neg, if_neg] <;> simp_all
        ·simp_all
        ·simp_all)
    ·try simp at h12
     refine zm ?_
     refine zh ?_
     refine za ?_
     refine das rfl ?_
     refine dn ?_
     refine zl ?_
     refine zC rfl ?_
     show HVal.int .i64 _ = _
     first
     | (exact congrArg _ (zcS (by omega)))
     | (rw [← zcU (by omega) hg]; simp_all; done)
     | (refine congrArg _ (zbd (e := 5) (by omega) hg (by decide) ?_)
        rw [zaU, if_pos]
        simp_all
        done)
     | (refine congrArg _ (zbd (e := 8) (by omega) hg (by decide) ?_)
        rw [zaU, if_neg, if_pos]
        all_goals simp_all
        done)
     | (refine congrArg _ (zcR (by omega) hg ?_ ?_ ?_)
        ·rw [zaU, if_neg, if_neg] <;> simp_all
        ·simp_all
        ·simp_all)

/-- benchwarmer/benchref1.givesFault -/
theorem zhd [Tracks] {m : MarketS} {l : List GiveS} (ht : m.Teams.length ≤ 1000000) (hl : l.length ≤ 1000000) (hs : ∀ x ∈ l, x.Player.length ≤ 1000000) : ConP Tryz.prog 78 [zaM m, zlw l] (.int .i64 (zaI m l)) := by
 refine Con.of_body Tryz.func78 rfl Tryz.ntmps78 rfl rfl ?_
 refine za ?_
 refine dq (zat rfl rfl) ?_
 refine das rfl ?_
 refine dn ?_
 refine zj ?_
 refine zq ?_
 refine za ?_
 refine dmv rfl ?_
 refine dq (zI zaq rfl) ?_
 refine dq (zas rfl rfl) ?_
 refine das rfl ?_
 refine dn ?_
 refine zi rfl (fun h1 => ?_) (fun h2 => ?_)
 ·try simp at h1
  refine za ?_
  refine das rfl ?_
  refine dn ?_
  refine zl ?_
  refine zC rfl ?_
  show HVal.int .i64 _ = _
  first
  | (rw [zaI, if_pos (by simpa using h1)]; done)
  | (rw [zaI, if_neg (by simpa using h2), if_pos (by omega)]; done)
  | (exact congrArg _ (zcw (by simpa using h2) (by omega) hg))
  | (refine congrArg _ (zaC (e := 5) (by simpa using h2) (by omega) hg (by decide) ?_)
     rw [zaw, if_pos]
     simp_all
     done)
  | (refine congrArg _ (zaC (e := 8) (by simpa using h2) (by omega) hg (by decide) ?_)
     rw [zaw, if_neg, if_pos]
     all_goals simp_all
     done)
  | (refine congrArg _ (zaC (e := 16) (by simpa using h2) (by omega) hg (by decide) ?_)
     rw [zaw, if_neg, if_neg, if_pos]
     all_goals simp_all
     done)
  | (refine congrArg _ (zcy (by simpa using h2) (by omega) hg ?_ ?_ ?_)
     ·rw [zaw, if_neg, if_neg, if_neg] <;> simp_all
     ·simp_all
     ·simp_all)
 ·try simp at h2
  refine za ?_
  refine dmv rfl ?_
  refine dq (zI zaq rfl) ?_
  refine dq (zad rfl rfl) ?_
  refine das rfl ?_
  refine dn ?_
  refine zi rfl (fun h3 => ?_) (fun h4 => ?_)
  ·try simp at h3
   refine za ?_
   refine das rfl ?_
   refine dn ?_
   refine zl ?_
   refine zC rfl ?_
   show HVal.int .i64 _ = _
   first
   | (rw [zaI, if_pos (by simpa using h1)]; done)
   | (rw [zaI, if_neg (by simpa using h2), if_pos (by omega)]; done)
   | (exact congrArg _ (zcw (by simpa using h2) (by omega) hg))
   | (refine congrArg _ (zaC (e := 5) (by simpa using h2) (by omega) hg (by decide) ?_)
      rw [zaw, if_pos]
      simp_all
      done)
   | (refine congrArg _ (zaC (e := 8) (by simpa using h2) (by omega) hg (by decide) ?_)
      rw [zaw, if_neg, if_pos]
      all_goals simp_all
      done)
   | (refine congrArg _ (zaC (e := 16) (by simpa using h2) (by omega) hg (by decide) ?_)
      rw [zaw, if_neg, if_neg, if_pos]
      all_goals simp_all
      done)
   | (refine congrArg _ (zcy (by simpa using h2) (by omega) hg ?_ ?_ ?_)
      ·rw [zaw, if_neg, if_neg, if_neg] <;> simp_all
      ·simp_all
      ·simp_all)
  ·try simp at h4
   refine zm ?_
   refine zy ?_
   refine zh ?_
   refine zj ?_
   refine za ?_
   refine dmv rfl ?_
   refine dq (zI zaq rfl) ?_
   refine dmv rfl ?_
   refine dn ?_
   refine zq ?_
   refine zai [4, 5, 6, 17, 18, 19, 20, 21, 22, 23, 24, 25, 26, 27, 28, 29, 30, 31, 32, 33, 34, 35, 36, 37, 38, 39, 40, 41, 42, 43, 44, 45, 46, 47, 48, 49, 50, 51, 52, 53, 54, 55, 56, 57, 58, 59, 60] (fun (k : Nat) => [(17, .int .i64 k)]) (fun (k : Nat) => []) (fun (k : Nat) => k ≤ l.length ∧ (zav (zaw m) zco zc2 l 0 l = zav (zaw m) zco zc2 l k (l.drop k))) (fun (k : Nat) => l.length - k) (0) ?_ ?_ ?_ ?_
   ·exact ⟨Nat.zero_le _, rfl⟩
   ·exact ⟨rfl, trivial⟩
   ·exact List.Perm.refl _
   ·intro k hinv
    obtain ⟨hk, hg⟩ := hinv
    refine za ?_
    refine dq (zS rfl rfl) ?_
    refine dn ?_
    refine zj ?_
    refine zi rfl (fun h5 => ?_) (fun h6 => ?_)
    ·try simp at h5
     obtain ⟨x, hx⟩ : ∃ x, l[k]? = some x := ⟨_, List.getElem?_eq_getElem h5⟩
     have hdx := zU hx
     rw [hdx] at hg
     refine zm ?_
     refine zh ?_
     refine zj ?_
     refine zq ?_
     refine za ?_
     refine dmv rfl ?_
     refine dq (zW zaq zao rfl rfl rfl (by first | assumption | simp_all)) ?_
     refine dq (zH zao rfl rfl rfl rfl) ?_
     refine de rfl (zZ zao rfl fun b6 => ?_)
     refine das rfl ?_
     refine de0 (zah zao rfl rfl rfl rfl rfl ?_)
     refine dn ?_
     refine zM (Ghost.fc0 6 rfl) ?_
     refine zq ?_
     refine za ?_
     refine dq (zb zao rfl ty9 (by decide) rfl) ?_
     refine dq (zg ty9 rfl rfl rfl) ?_
     refine dq (zp zlB rfl (WeakL.refl _) (zcu (hs x (List.mem_of_getElem? hx)))) ?_
     refine dq (zac rfl) ?_
     refine das rfl ?_
     refine dn ?_
     refine zi rfl (fun h7 => ?_) (fun h8 => ?_)
     ·try simp at h7
      refine za ?_
      refine das rfl ?_
      refine dn ?_
      refine zl ?_
      refine zC rfl ?_
      show HVal.int .i64 _ = _
      first
      | (rw [zaI, if_pos (by simpa using h1)]; done)
      | (rw [zaI, if_neg (by simpa using h2), if_pos (by omega)]; done)
      | (exact congrArg _ (zcw (by simpa using h2) (by omega) hg))
      | (refine congrArg _ (zaC (e := 5) (by simpa using h2) (by omega) hg (by decide) ?_)
         rw [zaw, if_pos]
         simp_all
         done)
      | (refine congrArg _ (zaC (e := 8) (by simpa using h2) (by omega) hg (by decide) ?_)
         rw [zaw, if_neg, if_pos]
         all_goals simp_all
         done)
      | (refine congrArg _ (zaC (e := 16) (by simpa using h2) (by omega) hg (by decide) ?_)
         rw [zaw, if_neg, if_neg, if_pos]
         all_goals simp_all
         done)
      | (refine congrArg _ (zcy (by simpa using h2) (by omega) hg ?_ ?_ ?_)
         ·rw [zaw, if_neg, if_neg, if_neg] <;> simp_all
         ·simp_all
         ·simp_all)
     ·try simp at h8
      refine za ?_
      refine dq (zH zV rfl rfl rfl rfl) ?_
      refine dq (zb zao rfl ty9 (by decide) rfl) ?_
      refine dq (zg ty9 rfl rfl rfl) ?_
      refine dq (zp znR rfl (WeakL.refl _) (zcd (by first | assumption | omega | (simp; omega) | simp_all))) ?_
      refine dq (zac rfl) ?_
      refine dmv rfl ?_
      refine dg rfl rfl (fun hc => ⟨_, OpenTo.refl _, zH zV rfl rfl rfl rfl⟩) ?_
      refine dg rfl rfl (fun hc => ⟨_, OpenTo.refl _, zb zao rfl ty9 (by decide) rfl⟩) ?_
      refine dg rfl rfl (fun hc => ⟨_, OpenTo.upd (t := 35) rfl (by first | exact hc | simp_all) (OpenTo.refl _), zg ty9 rfl rfl rfl⟩) ?_
      refine dg rfl rfl (fun hc => by have hq := hc; (try simp at hq); exact ⟨_, OpenTo.upd (t := 36) rfl (by first | exact hc | simp_all) (OpenTo.upd (t := 34) rfl (by first | exact hc | simp_all) (OpenTo.refl _)), zp znR rfl (WeakL.refl _) (zcd (by first | assumption | omega | (simp; omega) | simp_all))⟩) ?_
      refine dg rfl rfl (fun hc => ⟨_, OpenTo.upd (t := 37) rfl (by first | exact hc | simp_all) (OpenTo.refl _), zac rfl⟩) ?_
      refine dq (zz rfl (.inl rfl) (.inr ⟨_, rfl, fun h => by simp_all⟩)) ?_
      refine das rfl ?_
      refine dn ?_
      refine zi rfl (fun h9 => ?_) (fun h10 => ?_)
      ·try simp at h9
       refine za ?_
       refine das rfl ?_
       refine dn ?_
       refine zl ?_
       refine zC rfl ?_
       show HVal.int .i64 _ = _
       first
       | (rw [zaI, if_pos (by simpa using h1)]; done)
       | (rw [zaI, if_neg (by simpa using h2), if_pos (by omega)]; done)
       | (exact congrArg _ (zcw (by simpa using h2) (by omega) hg))
       | (refine congrArg _ (zaC (e := 5) (by simpa using h2) (by omega) hg (by decide) ?_)
          rw [zaw, if_pos]
          simp_all
          done)
       | (refine congrArg _ (zaC (e := 8) (by simpa using h2) (by omega) hg (by decide) ?_)
          rw [zaw, if_neg, if_pos]
          all_goals simp_all
          done)
       | (refine congrArg _ (zaC (e := 16) (by simpa using h2) (by omega) hg (by decide) ?_)
          rw [zaw, if_neg, if_neg, if_pos]
          all_goals simp_all
          done)
       | (refine congrArg _ (zcy (by simpa using h2) (by omega) hg ?_ ?_ ?_)
          ·rw [zaw, if_neg, if_neg, if_neg] <;> simp_all
          ·simp_all
          ·simp_all)
      ·try simp at h10
       refine za ?_
       refine dq (zb zao rfl ty9 (by decide) rfl) ?_
       refine dq (zg ty9 rfl rfl rfl) ?_
       refine dq (zb zao rfl ty9 (by decide) rfl) ?_
       refine dq (zg ty9 rfl rfl rfl) ?_
       refine dq (zbv rfl rfl) ?_
       refine das rfl ?_
       refine dn ?_
       refine zi rfl (fun h11 => ?_) (fun h12 => ?_)
       ·try simp at h11
        refine za ?_
        refine das rfl ?_
        refine dn ?_
        refine zl ?_
        refine zC rfl ?_
        show HVal.int .i64 _ = _
        first
        | (rw [zaI, if_pos (by simpa using h1)]; done)
        | (rw [zaI, if_neg (by simpa using h2), if_pos (by omega)]; done)
        | (exact congrArg _ (zcw (by simpa using h2) (by omega) hg))
        | (refine congrArg _ (zaC (e := 5) (by simpa using h2) (by omega) hg (by decide) ?_)
           rw [zaw, if_pos]
           simp_all
           done)
        | (refine congrArg _ (zaC (e := 8) (by simpa using h2) (by omega) hg (by decide) ?_)
           rw [zaw, if_neg, if_pos]
           all_goals simp_all
           done)
        | (refine congrArg _ (zaC (e := 16) (by simpa using h2) (by omega) hg (by decide) ?_)
           rw [zaw, if_neg, if_neg, if_pos]
           all_goals simp_all
           done)
        | (refine congrArg _ (zcy (by simpa using h2) (by omega) hg ?_ ?_ ?_)
           ·rw [zaw, if_neg, if_neg, if_neg] <;> simp_all
           ·simp_all
           ·simp_all)
       ·try simp at h12
        refine zaH (fun _ => True) [] mixed ?_
        refine ahp 0 rfl rfl (by kernel_rfl) (by kernel_rfl) (zf rfl) ?_
        refine ahp 1 rfl rfl (by kernel_rfl) (by kernel_rfl) (zad rfl rfl) ?_
        refine ahp 2 rfl rfl (by kernel_rfl) (by kernel_rfl) (zf rfl) ?_
        refine ahg 3 rfl rfl (by kernel_rfl) (by kernel_rfl) rfl (fun hc => ⟨_, OpenTo.refl _, zb zao rfl ty9 (by decide) rfl⟩) ?_
        refine ahg 4 rfl rfl (by kernel_rfl) (by kernel_rfl) rfl (fun hc => ⟨_, OpenTo.upd (t := 50) rfl (by first | exact hc | simp_all) (OpenTo.refl _), zg ty9 rfl rfl rfl⟩) ?_
        refine ahg 5 rfl rfl (by kernel_rfl) (by kernel_rfl) rfl (fun hc => ⟨_, OpenTo.refl _, zf rfl⟩) ?_
        refine ahg 6 rfl rfl (by kernel_rfl) (by kernel_rfl) rfl (fun hc => ⟨_, OpenTo.refl _, zf rfl⟩) ?_
        refine ahg 7 rfl rfl (by kernel_rfl) (by kernel_rfl) rfl (fun hc => by have hq := hc; (try simp at hq); exact ⟨_, OpenTo.upd (t := 53) rfl (by first | exact hc | simp_all) (OpenTo.refl _), zar rfl rfl (by omega) (by omega)⟩) ?_
        refine ahg 8 rfl rfl (by kernel_rfl) (by kernel_rfl) rfl (fun hc => by have hq := hc; (try simp at hq); exact ⟨_, OpenTo.upd (t := 54) rfl (by first | exact hc | simp_all) (OpenTo.upd (t := 52) rfl (by first | exact hc | simp_all) (OpenTo.refl _)), zW (j := k - 1) (a := l.getD (k - 1) zc2) zaq zao rfl rfl (by omega) (getD_some (by omega))⟩) ?_
        refine ahg 9 rfl rfl (by kernel_rfl) (by kernel_rfl) rfl (fun hc => ⟨_, OpenTo.upd (t := 55) rfl (by first | exact hc | simp_all) (OpenTo.refl _), zb zao rfl ty9 (by decide) rfl⟩) ?_
        refine ahg 10 rfl rfl (by kernel_rfl) (by kernel_rfl) rfl (fun hc => ⟨_, OpenTo.upd (t := 56) rfl (by first | exact hc | simp_all) (OpenTo.refl _), zg ty9 rfl rfl rfl⟩) ?_
        refine ahg 11 rfl rfl (by kernel_rfl) (by kernel_rfl) rfl (fun hc => ⟨_, OpenTo.upd (t := 57) rfl (by first | exact hc | simp_all) (OpenTo.upd (t := 51) rfl (by first | exact hc | simp_all) (OpenTo.refl _)), zdk rfl rfl⟩) ?_
        refine ahp 12 rfl rfl (by kernel_rfl) (by kernel_rfl) (zz rfl (.inr ⟨_, rfl, fun h => by simp_all⟩) (.inl rfl)) ?_
        refine ahp 13 rfl rfl (by kernel_rfl) (by kernel_rfl) (zau rfl) ?_
        refine ahz (by kernel_rfl) ?_
        refine zi rfl (fun h13 => ?_) (fun h14 => ?_)
        ·try simp at h13
         refine za ?_
         refine das rfl ?_
         refine dn ?_
         refine zl ?_
         refine zC rfl ?_
         show HVal.int .i64 _ = _
         first
         | (rw [zaI, if_pos (by simpa using h1)]; done)
         | (rw [zaI, if_neg (by simpa using h2), if_pos (by omega)]; done)
         | (exact congrArg _ (zcw (by simpa using h2) (by omega) hg))
         | (refine congrArg _ (zaC (e := 5) (by simpa using h2) (by omega) hg (by decide) ?_)
            rw [zaw, if_pos]
            simp_all
            done)
         | (refine congrArg _ (zaC (e := 8) (by simpa using h2) (by omega) hg (by decide) ?_)
            rw [zaw, if_neg, if_pos]
            all_goals simp_all
            done)
         | (refine congrArg _ (zaC (e := 16) (by simpa using h2) (by omega) hg (by decide) ?_)
            rw [zaw, if_neg, if_neg, if_pos]
            all_goals simp_all
            done)
         | (refine congrArg _ (zcy (by simpa using h2) (by omega) hg ?_ ?_ ?_)
            ·rw [zaw, if_neg, if_neg, if_neg] <;> simp_all
            ·simp_all
            ·simp_all)
        ·try simp at h14
         refine zm ?_
         refine zy ?_
         refine zy ?_
         refine zh ?_
         refine zD ?_
         refine dq (zB rfl rfl (by omega) (by omega)) ?_
         refine dmv rfl ?_
         refine dn ?_
         refine ⟨k + 1, ?_, ?_, ⟨rfl, trivial⟩, (by repeat (first | exact zt | refine zw rfl ?_ | refine zu rfl rfl ?_)), List.Perm.refl _⟩
         ·refine ⟨by omega, ?_⟩
          rw [hg, znx (by rw [zaw, if_neg (by simp_all), if_neg (by simp_all), if_neg (by simp_all)]) (by intro hk0; simp_all)]
         ·dsimp only; omega
    ·try simp at h6
     have hnk : l.length ≤ k := by omega
     obtain rfl : k = l.length := by omega
     rw [zaT (Nat.le_refl _)] at hg
     refine zX ?_
     refine z8 ?_
     refine zax ?_
     refine zO ?_
     refine zh ?_
     refine za ?_
     refine das rfl ?_
     refine dn ?_
     refine zl ?_
     refine zC rfl ?_
     show HVal.int .i64 _ = _
     first
     | (rw [zaI, if_pos (by simpa using h1)]; done)
     | (rw [zaI, if_neg (by simpa using h2), if_pos (by omega)]; done)
     | (exact congrArg _ (zcw (by simpa using h2) (by omega) hg))
     | (refine congrArg _ (zaC (e := 5) (by simpa using h2) (by omega) hg (by decide) ?_)
        rw [zaw, if_pos]
        simp_all
        done)
     | (refine congrArg _ (zaC (e := 8) (by simpa using h2) (by omega) hg (by decide) ?_)
        rw [zaw, if_neg, if_pos]
        all_goals simp_all
        done)
     | (refine congrArg _ (zaC (e := 16) (by simpa using h2) (by omega) hg (by decide) ?_)
        rw [zaw, if_neg, if_neg, if_pos]
        all_goals simp_all
        done)
     | (refine congrArg _ (zcy (by simpa using h2) (by omega) hg ?_ ?_ ?_)
        ·rw [zaw, if_neg, if_neg, if_neg] <;> simp_all
        ·simp_all
        ·simp_all)

/-- benchwarmer/benchref1.concerned -/
theorem zhB [Tracks] {x : DealS} (hx : x.Gives.length ≤ 1000) : ConP Tryz.prog 59 [zh3 x] (eSs (zbp x.Gives)) := by
 refine Con.of_body Tryz.func59 rfl Tryz.ntmps59 rfl rfl ?_
 refine za ?_
 refine dq (zat rfl rfl) ?_
 refine das rfl ?_
 refine dn ?_
 refine za ?_
 refine das rfl ?_
 refine dn ?_
 refine zM (Ghost.arr_nil 1) ?_
 refine zj ?_
 refine za ?_
 refine dq ((by first | exact zb zal rfl zaq (by decide) rfl | exact ze zal rfl zaq (by decide) rfl)) ?_
 refine dq (zg zaq rfl rfl rfl) ?_
 refine dq (zI zaq rfl) ?_
 refine dmv rfl ?_
 refine dn ?_
 refine zq ?_
 refine za9 [3, 5, 9, 10, 11, 12, 13, 14, 15, 16, 17, 18, 19, 20] (fun (k : Nat) (u : Value) => [(9, .int .i64 k), (3, .raw u)]) (fun (k : Nat) (u : Value) => [.arr u 1 ((zcH (x.Gives.take k)).map .str)]) (fun (k : Nat) (u : Value) => k ≤ x.Gives.length ∧ (True)) (fun (k : Nat) (u : Value) => x.Gives.length - k) (0) (.slice none 0 0) ?_ ?_ ?_ ?_
 ·exact ⟨Nat.zero_le _, trivial⟩
 ·exact ⟨rfl, rfl, trivial⟩
 ·exact zQ (by simp [zcH])
 ·intro k u hinv
  obtain ⟨hk, -⟩ := hinv
  refine za ?_
  refine dq (zS rfl rfl) ?_
  refine dn ?_
  refine zj ?_
  refine zi rfl (fun h1 => ?_) (fun h2 => ?_)
  ·try simp at h1
   obtain ⟨g, hg⟩ : ∃ g, x.Gives[k]? = some g := ⟨_, List.getElem?_eq_getElem h1⟩
   have hdg := zU hg
   refine zm ?_
   refine zh ?_
   refine zj ?_
   refine zq ?_
   refine za ?_
   refine dq (zW zaq zao rfl rfl rfl (by first | assumption | simp_all)) ?_
   refine dq (zH zao rfl rfl rfl rfl) ?_
   refine de rfl (zZ zao rfl fun b5 => ?_)
   refine de0 (zah zao rfl rfl rfl rfl rfl ?_)
   refine dn ?_
   refine zM (Ghost.fc0 5 rfl) ?_
   refine zD ?_
   refine dmv rfl ?_
   refine dq ((by first | exact zb zao rfl ty9 (by decide) rfl | exact ze zao rfl ty9 (by decide) rfl)) ?_
   refine dq (zg ty9 rfl rfl rfl) ?_
   refine dq ((by first | exact zb zao rfl ty9 (by decide) rfl | exact ze zao rfl ty9 (by decide) rfl)) ?_
   refine dq (zg ty9 rfl rfl rfl) ?_
   refine dq (zG (hs := [_, _]) zR ty9 rfl rfl (by decide) (by decide) rfl) ?_
   refine de rfl (zay (i := 0) zR ty9 rfl rfl rfl rfl rfl (by simp [za5, zn]) (by have := zei (x.Gives.take k); simp only [List.length_map, List.length_cons, List.length_nil, List.length_take] at *; omega) fun v19 => ?_)
   refine das rfl ?_
   refine dn ?_
   refine zy ?_
   refine zh ?_
   refine zD ?_
   refine dq (zB rfl rfl (by omega) (by omega)) ?_
   refine dmv rfl ?_
   refine dn ?_
   exact ⟨k + 1, v19, ⟨by omega, trivial⟩, by dsimp only; omega, ⟨rfl, rfl, trivial⟩, (by repeat (first | exact zt | refine zw rfl ?_ | refine zu rfl rfl ?_)), zQ (by dsimp only; rw [zjM hg]; simp)⟩
  ·try simp at h2
   have hnk : x.Gives.length ≤ k := by omega
   obtain rfl : k = x.Gives.length := by omega
   rw [List.take_length]
   refine zX ?_
   refine z8 ?_
   refine zbj ?_
   refine zO ?_
   refine zh ?_
   refine zM (Ghost.fa 3 (i := 0) rfl rfl) ?_
   refine za ?_
   refine dmv rfl ?_
   refine de rfl (zeR ca96 rfl (WeakL.refl _) (zj9 (l := zcH x.Gives) (by rw [zei]; omega)) fun v22 => ?_)
   refine das rfl ?_
   refine dn ?_
   refine zl ?_
   exact zgx (M := []) 2 rfl rfl rfl

/-- benchwarmer/benchref1.OffersFault -/
theorem zgK [Tracks] {m : MarketS} {l : List DealS} (ht : m.Teams.length ≤ 1000000) (hl : l.length ≤ 1000000) (hx : ∀ x ∈ l, x.Id.length ≤ 1000000 ∧ x.Gives.length ≤ 1000000 ∧ ∀ g ∈ x.Gives, g.Player.length ≤ 1000000) : ConP Tryz.prog 46 [zaM m, zeB l] (.int .i64 (zcI m l)) := by
 refine Con.of_body Tryz.func46 rfl Tryz.ntmps46 rfl rfl ?_
 refine za ?_
 refine dq (zat rfl rfl) ?_
 refine das rfl ?_
 refine dn ?_
 refine zj ?_
 refine za ?_
 refine dmv rfl ?_
 refine dq (zI zdl rfl) ?_
 refine dq (zad rfl rfl) ?_
 refine dn ?_
 refine zi rfl (fun h1 => ?_) (fun h2 => ?_)
 ·try simp at h1
  refine za ?_
  refine das rfl ?_
  refine dn ?_
  refine zl ?_
  refine zC rfl ?_
  show HVal.int .i64 _ = _
  first
  | (exact congrArg _ (zch (by omega)))
  | (exact congrArg _ (zcg (by omega) hg))
  | (refine congrArg _ (zbl (by omega) hg (by decide) ?_)
     rw [zaQ]; simp_all
     done)
  | (refine congrArg _ (zbl (by omega) hg ?_ ?_)
     ·simp_all
     ·rw [zaQ]; simp_all
     done)
  | (refine congrArg _ (zck (by omega) hg ?_ ?_ ?_)
     ·rw [zaQ]; simp_all
     ·simp_all
     ·simp_all)
 ·try simp at h2
  refine zm ?_
  refine zh ?_
  refine zj ?_
  refine za ?_
  refine dmv rfl ?_
  refine dq (zI zdl rfl) ?_
  refine dmv rfl ?_
  refine dn ?_
  refine zq ?_
  refine zai (4 :: 5 :: 6 :: 7 :: 8 :: 14 :: 15 :: 16 :: 17 :: 18 :: 19 :: 20 :: 21 :: 22 :: 23 :: 24 :: 25 :: 26 :: 27 :: 28 :: 29 :: 30 :: 31 :: 32 :: 33 :: 34 :: 35 :: 36 :: 37 :: 38 :: 39 :: 40 :: 41 :: 42 :: 43 :: 44 :: 45 :: 46 :: 47 :: 48 :: 49 :: 50 :: 51 :: 52 :: 53 :: 54 :: 55 :: 56 :: 57 :: 58 :: 59 :: 60 :: 61 :: 62 :: 63 :: 64 :: 65 :: 66 :: 67 :: 68 :: 69 :: 70 :: 71 :: 72 :: 73 :: 74 :: 75 :: 76 :: []) (fun (k : Nat) => [(14, .int .i64 k)]) (fun (k : Nat) => []) (fun (k : Nat) => k ≤ l.length ∧ (zav (zaQ m) zdh zb4 l 0 l = zav (zaQ m) zdh zb4 l k (l.drop k))) (fun (k : Nat) => l.length - k) (0) ?_ ?_ ?_ ?_
  ·exact ⟨Nat.zero_le _, rfl⟩
  ·exact ⟨rfl, trivial⟩
  ·exact List.Perm.refl _
  ·intro k hinv
   obtain ⟨hk, hg⟩ := hinv
   refine za ?_
   refine dq (zS rfl rfl) ?_
   refine dn ?_
   refine zj ?_
   refine zi rfl (fun h3 => ?_) (fun h4 => ?_)
   ·try simp at h3
    obtain ⟨y, hy⟩ : ∃ y, l[k]? = some y := ⟨_, List.getElem?_eq_getElem h3⟩
    have hdy := zU hy
    rw [hdy] at hg
    refine zm ?_
    refine zh ?_
    refine zj ?_
    refine zq ?_
    refine za ?_
    refine dmv rfl ?_
    refine dq (zW zdl zal rfl rfl rfl (by first | assumption | simp_all)) ?_
    refine dq (zH zal rfl rfl rfl rfl) ?_
    refine de rfl (zZ zal rfl fun b6 => ?_)
    refine das rfl ?_
    refine de0 (zah zal rfl rfl rfl rfl rfl ?_)
    refine dn ?_
    refine zM (Ghost.fc0 6 rfl) ?_
    refine za ?_
    refine dq (zb zal rfl zbS (by decide) rfl) ?_
    refine dq (ze4 (h' := .agg [.int .i64 y.From, .int .i64 y.To]) (zmF zbS rfl rfl (Nat.le_of_ble_eq_true rfl)) rfl) ?_
    refine de rfl (zZ zbS rfl fun b7 => ?_)
    refine de0 (zah zbS rfl rfl rfl rfl rfl ?_)
    refine dn ?_
    refine zM (Ghost.fc0 7 rfl) ?_
    refine zj ?_
    refine zq ?_
    refine za ?_
    refine dq (zb zal rfl ty9 (by decide) rfl) ?_
    refine dq (zg ty9 rfl rfl rfl) ?_
    refine dq (zp zlB rfl (WeakL.refl _) (zcu (hx y (List.mem_of_getElem? hy)).1)) ?_
    refine dq (zac rfl) ?_
    refine das rfl ?_
    refine dn ?_
    refine zi rfl (fun h5 => ?_) (fun h6 => ?_)
    ·try simp at h5
     refine za ?_
     refine das rfl ?_
     refine dn ?_
     refine zl ?_
     refine zC rfl ?_
     show HVal.int .i64 _ = _
     first
     | (exact congrArg _ (zch (by omega)))
     | (exact congrArg _ (zcg (by omega) hg))
     | (refine congrArg _ (zbl (by omega) hg (by decide) ?_)
        rw [zaQ]; simp_all
        done)
     | (refine congrArg _ (zbl (by omega) hg ?_ ?_)
        ·simp_all
        ·rw [zaQ]; simp_all
        done)
     | (refine congrArg _ (zck (by omega) hg ?_ ?_ ?_)
        ·rw [zaQ]; simp_all
        ·simp_all
        ·simp_all)
    ·try simp at h6
     refine za ?_
     refine dq (zH zV rfl rfl rfl rfl) ?_
     refine dq (zb zal rfl ty9 (by decide) rfl) ?_
     refine dq (zg ty9 rfl rfl rfl) ?_
     refine dq (zp znR rfl (WeakL.refl _) (zcd (by first | assumption | omega | (simp; omega) | simp_all))) ?_
     refine dq (zac rfl) ?_
     refine das rfl ?_
     refine dn ?_
     refine zi rfl (fun h7 => ?_) (fun h8 => ?_)
     ·try simp at h7
      refine za ?_
      refine das rfl ?_
      refine dn ?_
      refine zl ?_
      refine zC rfl ?_
      show HVal.int .i64 _ = _
      first
      | (exact congrArg _ (zch (by omega)))
      | (exact congrArg _ (zcg (by omega) hg))
      | (refine congrArg _ (zbl (by omega) hg (by decide) ?_)
         rw [zaQ]; simp_all
         done)
      | (refine congrArg _ (zbl (by omega) hg ?_ ?_)
         ·simp_all
         ·rw [zaQ]; simp_all
         done)
      | (refine congrArg _ (zck (by omega) hg ?_ ?_ ?_)
         ·rw [zaQ]; simp_all
         ·simp_all
         ·simp_all)
     ·try simp at h8
      refine za ?_
      refine dq (zb zbS rfl ty3 (by decide) rfl) ?_
      refine dq (zg ty3 rfl rfl rfl) ?_
      refine dq (zS rfl rfl) ?_
      refine dmv rfl ?_
      refine dg rfl rfl (fun hc => ⟨_, OpenTo.refl _, zb zbS rfl ty3 (by decide) rfl⟩) ?_
      refine dg rfl rfl (fun hc => ⟨_, OpenTo.upd (t := 37) rfl (by first | exact hc | simp_all) (OpenTo.refl _), zg ty3 rfl rfl rfl⟩) ?_
      refine dg rfl rfl (fun hc => ⟨_, OpenTo.refl _, zb zbS rfl ty3 (by decide) rfl⟩) ?_
      refine dg rfl rfl (fun hc => ⟨_, OpenTo.upd (t := 39) rfl (by first | exact hc | simp_all) (OpenTo.refl _), zg ty3 rfl rfl rfl⟩) ?_
      refine dg rfl rfl (fun hc => ⟨_, OpenTo.upd (t := 40) rfl (by first | exact hc | simp_all) (OpenTo.upd (t := 38) rfl (by first | exact hc | simp_all) (OpenTo.refl _)), zbK rfl rfl⟩) ?_
      refine dq (zz rfl (.inl rfl) (.inr ⟨_, rfl, fun h => by simp_all⟩)) ?_
      refine dmv rfl ?_
      refine dg rfl rfl (fun hc => ⟨_, OpenTo.refl _, zb zbS rfl ty3 (by decide) rfl⟩) ?_
      refine dg rfl rfl (fun hc => ⟨_, OpenTo.upd (t := 44) rfl (by first | exact hc | simp_all) (OpenTo.refl _), zg ty3 rfl rfl rfl⟩) ?_
      refine dg rfl rfl (fun hc => ⟨_, OpenTo.upd (t := 45) rfl (by first | exact hc | simp_all) (OpenTo.refl _), zad rfl rfl⟩) ?_
      refine dq (zz rfl (.inl rfl) (.inr ⟨_, rfl, fun h => by simp_all⟩)) ?_
      refine das rfl ?_
      refine dn ?_
      refine zi rfl (fun h9 => ?_) (fun h10 => ?_)
      ·try simp at h9
       have hw := zrF h9
       refine za ?_
       refine das rfl ?_
       refine dn ?_
       refine zl ?_
       refine zC rfl ?_
       show HVal.int .i64 _ = _
       first
       | (exact congrArg _ (zch (by omega)))
       | (exact congrArg _ (zcg (by omega) hg))
       | (refine congrArg _ (zbl (by omega) hg (by decide) ?_)
          rw [zaQ]; simp_all
          done)
       | (refine congrArg _ (zbl (by omega) hg ?_ ?_)
          ·simp_all
          ·rw [zaQ]; simp_all
          done)
       | (refine congrArg _ (zck (by omega) hg ?_ ?_ ?_)
          ·rw [zaQ]; simp_all
          ·simp_all
          ·simp_all)
      ·try simp at h10
       refine zm ?_
       refine zy ?_
       refine zh ?_
       refine zj ?_
       obtain ⟨hw1, hw2⟩ := zq9 h10
       refine za ?_
       refine dq (zH zV rfl rfl rfl rfl) ?_
       refine dq (zb zal rfl zaq (by decide) rfl) ?_
       refine dq (zg zaq rfl rfl rfl) ?_
       refine dq (zp ca78 rfl (WeakL.refl _) (zhd (l := y.Gives) ht (hx y (List.mem_of_getElem? hy)).2.1 (hx y (List.mem_of_getElem? hy)).2.2)) ?_
       refine das rfl ?_
       refine dn ?_
       refine za ?_
       refine dmv rfl ?_
       refine dq (zaK rfl rfl) ?_
       refine dn ?_
       refine zi rfl (fun h11 => ?_) (fun h12 => ?_)
       ·try simp at h11
        refine za ?_
        refine dmv rfl ?_
        refine das rfl ?_
        refine dn ?_
        refine zl ?_
        refine zC rfl ?_
        show HVal.int .i64 _ = _
        first
        | (exact congrArg _ (zch (by omega)))
        | (exact congrArg _ (zcg (by omega) hg))
        | (refine congrArg _ (zbl (by omega) hg (by decide) ?_)
           rw [zaQ]; simp_all
           done)
        | (refine congrArg _ (zbl (by omega) hg ?_ ?_)
           ·simp_all
           ·rw [zaQ]; simp_all
           done)
        | (refine congrArg _ (zck (by omega) hg ?_ ?_ ?_)
           ·rw [zaQ]; simp_all
           ·simp_all
           ·simp_all)
       ·try simp at h12
        refine zm ?_
        refine zh ?_
        refine zq ?_
        obtain ⟨hgo1, hgo2, _⟩ := zfC (m := m) (l := y.Gives) (by simp_all)
        refine zaH (fun _ => True) [] mixed ?_
        refine ahp 0 rfl rfl (by kernel_rfl) (by kernel_rfl) (zH zal rfl rfl rfl rfl) ?_
        refine ahp 1 rfl rfl (by kernel_rfl) (by kernel_rfl) (zp ca59 rfl (WeakL.refl _) (zhB (by first | assumption | omega | (simp; omega) | simp_all))) ?_
        refine ahp 2 rfl rfl (by kernel_rfl) (by kernel_rfl) (zb zal rfl ty9 (by decide) rfl) ?_
        refine ahp 3 rfl rfl (by kernel_rfl) (by kernel_rfl) (zg ty9 rfl rfl rfl) ?_
        refine ahp 4 rfl rfl (by kernel_rfl) (by kernel_rfl) (zp zit rfl (WeakL.refl _) (zaL (l := zbp y.Gives) (s := y.By) (by have := zi4 y.Gives; omega))) ?_
        refine ahp 5 rfl rfl (by kernel_rfl) (by kernel_rfl) (zac rfl) ?_
        refine ahp 6 rfl rfl (by kernel_rfl) (by kernel_rfl) (zau rfl) ?_
        refine ahz (by kernel_rfl) ?_
        refine zi rfl (fun h13 => ?_) (fun h14 => ?_)
        ·try simp at h13
         refine za ?_
         refine das rfl ?_
         refine dn ?_
         refine zl ?_
         refine zC rfl ?_
         show HVal.int .i64 _ = _
         first
         | (exact congrArg _ (zch (by omega)))
         | (exact congrArg _ (zcg (by omega) hg))
         | (refine congrArg _ (zbl (by omega) hg (by decide) ?_)
            rw [zaQ]; simp_all
            done)
         | (refine congrArg _ (zbl (by omega) hg ?_ ?_)
            ·simp_all
            ·rw [zaQ]; simp_all
            done)
         | (refine congrArg _ (zck (by omega) hg ?_ ?_ ?_)
            ·rw [zaQ]; simp_all
            ·simp_all
            ·simp_all)
        ·try simp at h14
         refine zaH (fun _ => True) [] mixed ?_
         refine ahp 0 rfl rfl (by kernel_rfl) (by kernel_rfl) (zf rfl) ?_
         refine ahp 1 rfl rfl (by kernel_rfl) (by kernel_rfl) (zad rfl rfl) ?_
         refine ahp 2 rfl rfl (by kernel_rfl) (by kernel_rfl) (zf rfl) ?_
         refine ahg 3 rfl rfl (by kernel_rfl) (by kernel_rfl) rfl (fun hc => ⟨_, OpenTo.refl _, zb zal rfl ty9 (by decide) rfl⟩) ?_
         refine ahg 4 rfl rfl (by kernel_rfl) (by kernel_rfl) rfl (fun hc => ⟨_, OpenTo.upd (t := 66) rfl (by first | exact hc | simp_all) (OpenTo.refl _), zg ty9 rfl rfl rfl⟩) ?_
         refine ahg 5 rfl rfl (by kernel_rfl) (by kernel_rfl) rfl (fun hc => ⟨_, OpenTo.refl _, zf rfl⟩) ?_
         refine ahg 6 rfl rfl (by kernel_rfl) (by kernel_rfl) rfl (fun hc => ⟨_, OpenTo.refl _, zf rfl⟩) ?_
         refine ahg 7 rfl rfl (by kernel_rfl) (by kernel_rfl) rfl (fun hc => by have hq := hc; (try simp at hq); exact ⟨_, OpenTo.upd (t := 69) rfl (by first | exact hc | simp_all) (OpenTo.refl _), zar rfl rfl (by omega) (by omega)⟩) ?_
         refine ahg 8 rfl rfl (by kernel_rfl) (by kernel_rfl) rfl (fun hc => by have hq := hc; (try simp at hq); exact ⟨_, OpenTo.upd (t := 70) rfl (by first | exact hc | simp_all) (OpenTo.upd (t := 68) rfl (by first | exact hc | simp_all) (OpenTo.refl _)), zW (j := k - 1) (a := l.getD (k - 1) zb4) zdl zal rfl rfl (by omega) (getD_some (by omega))⟩) ?_
         refine ahg 9 rfl rfl (by kernel_rfl) (by kernel_rfl) rfl (fun hc => ⟨_, OpenTo.upd (t := 71) rfl (by first | exact hc | simp_all) (OpenTo.refl _), zb zal rfl ty9 (by decide) rfl⟩) ?_
         refine ahg 10 rfl rfl (by kernel_rfl) (by kernel_rfl) rfl (fun hc => ⟨_, OpenTo.upd (t := 72) rfl (by first | exact hc | simp_all) (OpenTo.refl _), zg ty9 rfl rfl rfl⟩) ?_
         refine ahg 11 rfl rfl (by kernel_rfl) (by kernel_rfl) rfl (fun hc => ⟨_, OpenTo.upd (t := 73) rfl (by first | exact hc | simp_all) (OpenTo.upd (t := 67) rfl (by first | exact hc | simp_all) (OpenTo.refl _)), zdk rfl rfl⟩) ?_
         refine ahp 12 rfl rfl (by kernel_rfl) (by kernel_rfl) (zz rfl (.inr ⟨_, rfl, fun h => by simp_all⟩) (.inl rfl)) ?_
         refine ahp 13 rfl rfl (by kernel_rfl) (by kernel_rfl) (zau rfl) ?_
         refine ahz (by kernel_rfl) ?_
         refine zi rfl (fun h15 => ?_) (fun h16 => ?_)
         ·try simp at h15
          refine za ?_
          refine das rfl ?_
          refine dn ?_
          refine zl ?_
          refine zC rfl ?_
          show HVal.int .i64 _ = _
          first
          | (exact congrArg _ (zch (by omega)))
          | (exact congrArg _ (zcg (by omega) hg))
          | (refine congrArg _ (zbl (by omega) hg (by decide) ?_)
             rw [zaQ]; simp_all
             done)
          | (refine congrArg _ (zbl (by omega) hg ?_ ?_)
             ·simp_all
             ·rw [zaQ]; simp_all
             done)
          | (refine congrArg _ (zck (by omega) hg ?_ ?_ ?_)
             ·rw [zaQ]; simp_all
             ·simp_all
             ·simp_all)
         ·try simp at h16
          refine zm ?_
          refine zy ?_
          refine zy ?_
          refine zh ?_
          refine zD ?_
          refine dq (zB rfl rfl (by omega) (by omega)) ?_
          refine dmv rfl ?_
          refine dn ?_
          refine ⟨k + 1, ?_, ?_, ⟨rfl, trivial⟩, (by repeat (first | exact zt | refine zw rfl ?_ | refine zu rfl rfl ?_)), List.Perm.refl _⟩
          ·refine ⟨by omega, ?_⟩
           rw [hg, zmo ?_ (by intro hk0; simp_all)]
           rw [zaQ]; simp_all
          ·dsimp only; omega
   ·try simp at h4
    have hnk : l.length ≤ k := by omega
    obtain rfl : k = l.length := by omega
    rw [zaT (Nat.le_refl _)] at hg
    refine zX ?_
    refine z8 ?_
    refine zax ?_
    refine zO ?_
    refine zh ?_
    refine za ?_
    refine das rfl ?_
    refine dn ?_
    refine zl ?_
    refine zC rfl ?_
    show HVal.int .i64 _ = _
    first
    | (exact congrArg _ (zch (by omega)))
    | (exact congrArg _ (zcg (by omega) hg))
    | (refine congrArg _ (zbl (by omega) hg (by decide) ?_)
       rw [zaQ]; simp_all
       done)
    | (refine congrArg _ (zbl (by omega) hg ?_ ?_)
       ·simp_all
       ·rw [zaQ]; simp_all
       done)
    | (refine congrArg _ (zck (by omega) hg ?_ ?_ ?_)
       ·rw [zaQ]; simp_all
       ·simp_all
       ·simp_all)

/-- benchwarmer/benchref1.byAnswer -/
theorem zh8 [Tracks] {a b : ReplyS}  : ConP Tryz.prog 79 [zbx a, zbx b] (.int .i64 (zb3 a b)) := by
 refine Con.of_body Tryz.func79 rfl Tryz.ntmps79 rfl rfl ?_
 refine za ?_
 refine dq (zat rfl rfl) ?_
 refine dq (zat rfl rfl) ?_
 refine das rfl ?_
 refine dn ?_
 refine zaH (fun _ => True) [] mixed ?_
 refine ahp 0 rfl rfl (by kernel_rfl) (by kernel_rfl) (zb z6 rfl ty3 (by decide) rfl) ?_
 refine ahp 1 rfl rfl (by kernel_rfl) (by kernel_rfl) (zg ty3 rfl rfl rfl) ?_
 refine ahp 2 rfl rfl (by kernel_rfl) (by kernel_rfl) (zb z6 rfl ty3 (by decide) rfl) ?_
 refine ahp 3 rfl rfl (by kernel_rfl) (by kernel_rfl) (zg ty3 rfl rfl rfl) ?_
 refine ahp 4 rfl rfl (by kernel_rfl) (by kernel_rfl) (zp zln rfl (WeakL.refl _) zcE) ?_
 refine ahp 5 rfl rfl (by kernel_rfl) (by kernel_rfl) (zb z6 rfl ty9 (by decide) rfl) ?_
 refine ahp 6 rfl rfl (by kernel_rfl) (by kernel_rfl) (zg ty9 rfl rfl rfl) ?_
 refine ahp 7 rfl rfl (by kernel_rfl) (by kernel_rfl) (zb z6 rfl ty9 (by decide) rfl) ?_
 refine ahp 8 rfl rfl (by kernel_rfl) (by kernel_rfl) (zg ty9 rfl rfl rfl) ?_
 refine ahp 9 rfl rfl (by kernel_rfl) (by kernel_rfl) (zp zha rfl (WeakL.refl _) zbh) ?_
 refine ahp 10 rfl rfl (by kernel_rfl) (by kernel_rfl) (zb z6 rfl ty9 (by decide) rfl) ?_
 refine ahp 11 rfl rfl (by kernel_rfl) (by kernel_rfl) (zg ty9 rfl rfl rfl) ?_
 refine ahp 12 rfl rfl (by kernel_rfl) (by kernel_rfl) (zb z6 rfl ty9 (by decide) rfl) ?_
 refine ahp 13 rfl rfl (by kernel_rfl) (by kernel_rfl) (zg ty9 rfl rfl rfl) ?_
 refine ahp 14 rfl rfl (by kernel_rfl) (by kernel_rfl) (zp zha rfl (WeakL.refl _) zbh) ?_
 refine ahp 15 rfl rfl (by kernel_rfl) (by kernel_rfl) (zG (hs := [_, _, _]) zbB ty3 rfl rfl (by decide) (by decide) rfl) ?_
 refine ahp 16 rfl rfl (by kernel_rfl) (by kernel_rfl) (zp zkL rfl (WeakL.refl _) (zd0 (l := [_, _, _]) (by simp))) ?_
 refine ahp 17 rfl rfl (by kernel_rfl) (by kernel_rfl) (zau rfl) ?_
 refine ahz (by kernel_rfl) ?_
 refine zl ?_
 refine zC rfl ?_
 rfl

/-- benchwarmer/benchref1.AnswersFault -/
theorem zgm [Tracks] {m : MarketS} {l : List ReplyS} (ht : m.Teams.length ≤ 1000000) (hl : l.length ≤ 1000000) (hs : ∀ x ∈ l, x.Offer.length ≤ 1000000) : ConP Tryz.prog 47 [zaM m, zb5 l] (.int .i64 (zcL m l)) := by
 refine Con.of_body Tryz.func47 rfl Tryz.ntmps47 rfl rfl ?_
 refine za ?_
 refine dq (zat rfl rfl) ?_
 refine das rfl ?_
 refine dn ?_
 refine zj ?_
 refine za ?_
 refine dmv rfl ?_
 refine dq (zI zcb rfl) ?_
 refine dq (zad rfl rfl) ?_
 refine dn ?_
 refine zi rfl (fun h1 => ?_) (fun h2 => ?_)
 ·try simp at h1
  refine za ?_
  refine das rfl ?_
  refine dn ?_
  refine zl ?_
  refine zC rfl ?_
  show HVal.int .i64 _ = _
  first
  | (exact congrArg _ (zcj (by omega)))
  | (exact congrArg _ (zcl (by omega) hg))
  | (refine congrArg _ (zae (e := 5) (by omega) hg (by decide) ?_)
     rw [zam, if_pos]
     simp_all
     done)
  | (refine congrArg _ (zae (e := 8) (by omega) hg (by decide) ?_)
     rw [zam, if_neg, if_pos]
     all_goals simp_all
     done)
  | (refine congrArg _ (zae (e := 1) (by omega) hg (by decide) ?_)
     rw [zam, if_neg, if_neg, if_pos]
     all_goals simp_all
     done)
  | (refine congrArg _ (zae (e := 4) (by omega) hg (by decide) ?_)
     rw [zam, if_neg, if_neg, if_neg, if_pos]
     all_goals simp_all
     done)
  | (refine congrArg _ (zcf (by omega) hg ?_ ?_ ?_)
     ·rw [zam, if_neg, if_neg, if_neg, if_neg] <;> simp_all
     ·simp_all
     ·rw [← zfy]; simp_all)
 ·try simp at h2
  refine zm ?_
  refine zh ?_
  refine zj ?_
  refine za ?_
  refine dmv rfl ?_
  refine dq (zI zcb rfl) ?_
  refine dmv rfl ?_
  refine dn ?_
  refine zq ?_
  refine zai [4, 5, 6, 12, 13, 14, 15, 16, 17, 18, 19, 20, 21, 22, 23, 24, 25, 26, 27, 28, 29, 30, 31, 32, 33, 34, 35, 36, 37, 38, 39, 40, 41, 42, 43, 44, 45, 46, 47, 48, 49, 50, 51] (fun (k : Nat) => [(12, .int .i64 k)]) (fun (k : Nat) => []) (fun (k : Nat) => k ≤ l.length ∧ (zav (zam m) zb3 zbD l 0 l = zav (zam m) zb3 zbD l k (l.drop k))) (fun (k : Nat) => l.length - k) (0) ?_ ?_ ?_ ?_
  ·exact ⟨Nat.zero_le _, rfl⟩
  ·exact ⟨rfl, trivial⟩
  ·exact List.Perm.refl _
  ·intro k hinv
   obtain ⟨hk, hg⟩ := hinv
   refine za ?_
   refine dq (zS rfl rfl) ?_
   refine dn ?_
   refine zj ?_
   refine zi rfl (fun h3 => ?_) (fun h4 => ?_)
   ·try simp at h3
    obtain ⟨x, hx⟩ : ∃ x, l[k]? = some x := ⟨_, List.getElem?_eq_getElem h3⟩
    have hdx := zU hx
    rw [hdx] at hg
    refine zm ?_
    refine zh ?_
    refine zj ?_
    refine zq ?_
    refine za ?_
    refine dmv rfl ?_
    refine dq (zW zcb z6 rfl rfl rfl (by first | assumption | simp_all)) ?_
    refine dq (zH z6 rfl rfl rfl rfl) ?_
    refine de rfl (zZ z6 rfl fun b6 => ?_)
    refine das rfl ?_
    refine de0 (zah z6 rfl rfl rfl rfl rfl ?_)
    refine dn ?_
    refine zM (Ghost.fc0 6 rfl) ?_
    refine zq ?_
    refine za ?_
    refine dq (zb z6 rfl ty9 (by decide) rfl) ?_
    refine dq (zg ty9 rfl rfl rfl) ?_
    refine dq (zp zlB rfl (WeakL.refl _) (zcu (hs x (List.mem_of_getElem? hx)))) ?_
    refine dq (zac rfl) ?_
    refine das rfl ?_
    refine dn ?_
    refine zi rfl (fun h5 => ?_) (fun h6 => ?_)
    ·try simp at h5
     refine za ?_
     refine das rfl ?_
     refine dn ?_
     refine zl ?_
     refine zC rfl ?_
     show HVal.int .i64 _ = _
     first
     | (exact congrArg _ (zcj (by omega)))
     | (exact congrArg _ (zcl (by omega) hg))
     | (refine congrArg _ (zae (e := 5) (by omega) hg (by decide) ?_)
        rw [zam, if_pos]
        simp_all
        done)
     | (refine congrArg _ (zae (e := 8) (by omega) hg (by decide) ?_)
        rw [zam, if_neg, if_pos]
        all_goals simp_all
        done)
     | (refine congrArg _ (zae (e := 1) (by omega) hg (by decide) ?_)
        rw [zam, if_neg, if_neg, if_pos]
        all_goals simp_all
        done)
     | (refine congrArg _ (zae (e := 4) (by omega) hg (by decide) ?_)
        rw [zam, if_neg, if_neg, if_neg, if_pos]
        all_goals simp_all
        done)
     | (refine congrArg _ (zcf (by omega) hg ?_ ?_ ?_)
        ·rw [zam, if_neg, if_neg, if_neg, if_neg] <;> simp_all
        ·simp_all
        ·rw [← zfy]; simp_all)
    ·try simp at h6
     refine za ?_
     refine dq (zH zV rfl rfl rfl rfl) ?_
     refine dq (zb z6 rfl ty9 (by decide) rfl) ?_
     refine dq (zg ty9 rfl rfl rfl) ?_
     refine dq (zp znR rfl (WeakL.refl _) (zcd (by first | assumption | omega | (simp; omega) | simp_all))) ?_
     refine dq (zac rfl) ?_
     refine das rfl ?_
     refine dn ?_
     refine zi rfl (fun h7 => ?_) (fun h8 => ?_)
     ·try simp at h7
      refine za ?_
      refine das rfl ?_
      refine dn ?_
      refine zl ?_
      refine zC rfl ?_
      show HVal.int .i64 _ = _
      first
      | (exact congrArg _ (zcj (by omega)))
      | (exact congrArg _ (zcl (by omega) hg))
      | (refine congrArg _ (zae (e := 5) (by omega) hg (by decide) ?_)
         rw [zam, if_pos]
         simp_all
         done)
      | (refine congrArg _ (zae (e := 8) (by omega) hg (by decide) ?_)
         rw [zam, if_neg, if_pos]
         all_goals simp_all
         done)
      | (refine congrArg _ (zae (e := 1) (by omega) hg (by decide) ?_)
         rw [zam, if_neg, if_neg, if_pos]
         all_goals simp_all
         done)
      | (refine congrArg _ (zae (e := 4) (by omega) hg (by decide) ?_)
         rw [zam, if_neg, if_neg, if_neg, if_pos]
         all_goals simp_all
         done)
      | (refine congrArg _ (zcf (by omega) hg ?_ ?_ ?_)
         ·rw [zam, if_neg, if_neg, if_neg, if_neg] <;> simp_all
         ·simp_all
         ·rw [← zfy]; simp_all)
     ·try simp at h8
      refine za ?_
      refine dq (zb z6 rfl ty3 (by decide) rfl) ?_
      refine dq (zg ty3 rfl rfl rfl) ?_
      refine dq (zp ca18 rfl (WeakL.refl _) zgI) ?_
      refine dq (zaK rfl rfl) ?_
      refine das rfl ?_
      refine dn ?_
      refine zi rfl (fun h9 => ?_) (fun h10 => ?_)
      ·try simp at h9
       refine za ?_
       refine das rfl ?_
       refine dn ?_
       refine zl ?_
       refine zC rfl ?_
       show HVal.int .i64 _ = _
       first
       | (exact congrArg _ (zcj (by omega)))
       | (exact congrArg _ (zcl (by omega) hg))
       | (refine congrArg _ (zae (e := 5) (by omega) hg (by decide) ?_)
          rw [zam, if_pos]
          simp_all
          done)
       | (refine congrArg _ (zae (e := 8) (by omega) hg (by decide) ?_)
          rw [zam, if_neg, if_pos]
          all_goals simp_all
          done)
       | (refine congrArg _ (zae (e := 1) (by omega) hg (by decide) ?_)
          rw [zam, if_neg, if_neg, if_pos]
          all_goals simp_all
          done)
       | (refine congrArg _ (zae (e := 4) (by omega) hg (by decide) ?_)
          rw [zam, if_neg, if_neg, if_neg, if_pos]
          all_goals simp_all
          done)
       | (refine congrArg _ (zcf (by omega) hg ?_ ?_ ?_)
          ·rw [zam, if_neg, if_neg, if_neg, if_neg] <;> simp_all
          ·simp_all
          ·rw [← zfy]; simp_all)
      ·try simp at h10
       refine za ?_
       refine dq (zb z6 rfl ty3 (by decide) rfl) ?_
       refine dq (zg ty3 rfl rfl rfl) ?_
       refine dq (zp ziI rfl (WeakL.refl _) zbY) ?_
       refine dq (zac rfl) ?_
       refine das rfl ?_
       refine dn ?_
       refine zi rfl (fun h11 => ?_) (fun h12 => ?_)
       ·try simp at h11
        refine za ?_
        refine das rfl ?_
        refine dn ?_
        refine zl ?_
        refine zC rfl ?_
        show HVal.int .i64 _ = _
        first
        | (exact congrArg _ (zcj (by omega)))
        | (exact congrArg _ (zcl (by omega) hg))
        | (refine congrArg _ (zae (e := 5) (by omega) hg (by decide) ?_)
           rw [zam, if_pos]
           simp_all
           done)
        | (refine congrArg _ (zae (e := 8) (by omega) hg (by decide) ?_)
           rw [zam, if_neg, if_pos]
           all_goals simp_all
           done)
        | (refine congrArg _ (zae (e := 1) (by omega) hg (by decide) ?_)
           rw [zam, if_neg, if_neg, if_pos]
           all_goals simp_all
           done)
        | (refine congrArg _ (zae (e := 4) (by omega) hg (by decide) ?_)
           rw [zam, if_neg, if_neg, if_neg, if_pos]
           all_goals simp_all
           done)
        | (refine congrArg _ (zcf (by omega) hg ?_ ?_ ?_)
           ·rw [zam, if_neg, if_neg, if_neg, if_neg] <;> simp_all
           ·simp_all
           ·rw [← zfy]; simp_all)
       ·try simp at h12
        refine zaH (fun _ => True) [] mixed ?_
        refine ahp 0 rfl rfl (by kernel_rfl) (by kernel_rfl) (zf rfl) ?_
        refine ahp 1 rfl rfl (by kernel_rfl) (by kernel_rfl) (zad rfl rfl) ?_
        refine ahp 2 rfl rfl (by kernel_rfl) (by kernel_rfl) (zf rfl) ?_
        refine ahg 3 rfl rfl (by kernel_rfl) (by kernel_rfl) rfl (fun hc => ⟨_, OpenTo.refl _, zf rfl⟩) ?_
        refine ahg 4 rfl rfl (by kernel_rfl) (by kernel_rfl) rfl (fun hc => ⟨_, OpenTo.refl _, zf rfl⟩) ?_
        refine ahg 5 rfl rfl (by kernel_rfl) (by kernel_rfl) rfl (fun hc => by have hq := hc; (try simp at hq); exact ⟨_, OpenTo.upd (t := 43) rfl (by first | exact hc | simp_all) (OpenTo.refl _), zar rfl rfl (by omega) (by omega)⟩) ?_
        refine ahg 6 rfl rfl (by kernel_rfl) (by kernel_rfl) rfl (fun hc => by have hq := hc; (try simp at hq); exact ⟨_, OpenTo.upd (t := 44) rfl (by first | exact hc | simp_all) (OpenTo.upd (t := 42) rfl (by first | exact hc | simp_all) (OpenTo.refl _)), zW (j := k - 1) (a := l.getD (k - 1) zbD) zcb z6 rfl rfl (by omega) (getD_some (by omega))⟩) ?_
        refine ahg 7 rfl rfl (by kernel_rfl) (by kernel_rfl) rfl (fun hc => ⟨_, OpenTo.upd (t := 45) rfl (by first | exact hc | simp_all) (OpenTo.refl _), zH z6 rfl rfl rfl rfl⟩) ?_
        refine ahg 8 rfl rfl (by kernel_rfl) (by kernel_rfl) rfl (fun hc => ⟨_, OpenTo.refl _, zH z6 rfl rfl rfl rfl⟩) ?_
        refine ahg 9 rfl rfl (by kernel_rfl) (by kernel_rfl) rfl (fun hc => ⟨_, OpenTo.upd (t := 47) rfl (by first | exact hc | simp_all) (OpenTo.upd (t := 46) rfl (by first | exact hc | simp_all) (OpenTo.refl _)), zp ca79 rfl (WeakL.refl _) zh8⟩) ?_
        refine ahg 10 rfl rfl (by kernel_rfl) (by kernel_rfl) rfl (fun hc => ⟨_, OpenTo.upd (t := 48) rfl (by first | exact hc | simp_all) (OpenTo.refl _), zbK rfl rfl⟩) ?_
        refine ahp 11 rfl rfl (by kernel_rfl) (by kernel_rfl) (zz rfl (.inr ⟨_, rfl, fun h => by simp_all⟩) (.inl rfl)) ?_
        refine ahp 12 rfl rfl (by kernel_rfl) (by kernel_rfl) (zau rfl) ?_
        refine ahz (by kernel_rfl) ?_
        refine zi rfl (fun h13 => ?_) (fun h14 => ?_)
        ·try simp at h13
         refine za ?_
         refine das rfl ?_
         refine dn ?_
         refine zl ?_
         refine zC rfl ?_
         show HVal.int .i64 _ = _
         first
         | (exact congrArg _ (zcj (by omega)))
         | (exact congrArg _ (zcl (by omega) hg))
         | (refine congrArg _ (zae (e := 5) (by omega) hg (by decide) ?_)
            rw [zam, if_pos]
            simp_all
            done)
         | (refine congrArg _ (zae (e := 8) (by omega) hg (by decide) ?_)
            rw [zam, if_neg, if_pos]
            all_goals simp_all
            done)
         | (refine congrArg _ (zae (e := 1) (by omega) hg (by decide) ?_)
            rw [zam, if_neg, if_neg, if_pos]
            all_goals simp_all
            done)
         | (refine congrArg _ (zae (e := 4) (by omega) hg (by decide) ?_)
            rw [zam, if_neg, if_neg, if_neg, if_pos]
            all_goals simp_all
            done)
         | (refine congrArg _ (zcf (by omega) hg ?_ ?_ ?_)
            ·rw [zam, if_neg, if_neg, if_neg, if_neg] <;> simp_all
            ·simp_all
            ·rw [← zfy]; simp_all)
        ·try simp at h14
         refine zm ?_
         refine zy ?_
         refine zy ?_
         refine zh ?_
         refine zD ?_
         refine dq (zB rfl rfl (by omega) (by omega)) ?_
         refine dmv rfl ?_
         refine dn ?_
         refine ⟨k + 1, ?_, ?_, ⟨rfl, trivial⟩, (by repeat (first | exact zt | refine zw rfl ?_ | refine zu rfl rfl ?_)), List.Perm.refl _⟩
         ·refine ⟨by omega, ?_⟩
          rw [hg, znd (by rw [zam, if_neg (by simp_all), if_neg (by simp_all), if_neg (by simp_all), if_neg (by simp_all)]) (by intro hk0; rw [← zfy]; simp_all)]
         ·dsimp only; omega
   ·try simp at h4
    have hnk : l.length ≤ k := by omega
    obtain rfl : k = l.length := by omega
    rw [zaT (Nat.le_refl _)] at hg
    refine zX ?_
    refine z8 ?_
    refine zax ?_
    refine zO ?_
    refine zh ?_
    refine za ?_
    refine das rfl ?_
    refine dn ?_
    refine zl ?_
    refine zC rfl ?_
    show HVal.int .i64 _ = _
    first
    | (exact congrArg _ (zcj (by omega)))
    | (exact congrArg _ (zcl (by omega) hg))
    | (refine congrArg _ (zae (e := 5) (by omega) hg (by decide) ?_)
       rw [zam, if_pos]
       simp_all
       done)
    | (refine congrArg _ (zae (e := 8) (by omega) hg (by decide) ?_)
       rw [zam, if_neg, if_pos]
       all_goals simp_all
       done)
    | (refine congrArg _ (zae (e := 1) (by omega) hg (by decide) ?_)
       rw [zam, if_neg, if_neg, if_pos]
       all_goals simp_all
       done)
    | (refine congrArg _ (zae (e := 4) (by omega) hg (by decide) ?_)
       rw [zam, if_neg, if_neg, if_neg, if_pos]
       all_goals simp_all
       done)
    | (refine congrArg _ (zcf (by omega) hg ?_ ?_ ?_)
       ·rw [zam, if_neg, if_neg, if_neg, if_neg] <;> simp_all
       ·simp_all
       ·rw [← zfy]; simp_all)
end
section
open Go.HL
/-- slices.Clone[[]benchwarmer/api.Owner,benchwarmer/api.Owner] -/
theorem zcG [Tracks] {l : List OwnerS} (hl : l.length ≤ 1000000) : zpv Tryz.prog 86 [.slice 2 (l.map zaV)] 2 (l.map zaV) := by
 refine Con.of_body Tryz.func86 rfl Tryz.ntmps86 rfl rfl ?_
 refine za ?_
 refine das rfl ?_
 refine dn ?_
 refine zj ?_
 refine za ?_
 refine dmv rfl ?_
 refine de rfl (zl6 zaR rfl rfl fun b4 hb4 => ?_)
 refine dn ?_
 refine zi rfl (fun h1 => ?_) (fun h2 => ?_)
 ·try simp at h1
  refine za ?_
  refine das rfl ?_
  refine dn ?_
  refine zl ?_
  first | exact zm4 rfl rfl | exact zb2 (Ghost.arr_nil 2) rfl ⟨_, rfl, by simp_all⟩
 ·try simp at h2
  refine zm ?_
  refine zh ?_
  refine za ?_
  refine de rfl (zo9 zaR zap fun v5 => ?_)
  refine dmv rfl ?_
  refine de rfl (zay (i := 0) zaR zap rfl rfl rfl rfl rfl (by simp [za5, zn]) (by first | omega | (simp; omega)) fun v7 => ?_)
  refine das rfl ?_
  refine dn ?_
  refine zl ?_
  first | exact zm4 rfl rfl | exact zb2 (Ghost.arr_nil 2) rfl ⟨_, rfl, by simp_all⟩

/-- slices.BinarySearchFunc[[]benchwarmer/api.Owner,benchwarmer/api.Owner,string] -/
theorem zeZ [Tracks] {l : List OwnerS} {s : Str} {fid : FuncId} (hca : Callable Tryz.prog fid) (hp : ∀ x : OwnerS, ConP Tryz.prog fid [zaV x, .str s] (.int .i64 (za6 x.Player s))) (hl : l.length ≤ 1000000) (hs : SortedS (l.map (·.Player))) : ConP Tryz.prog 144 [zbe l, .str s, .fn (.func fid) [] []] (.tup [.int .i64 (zdI (l.map (·.Player)) s), .bool ((l.map (·.Player)).contains s)]) := by
 have hLl : (l.map (·.Player)).length = l.length := List.length_map _
 refine Con.of_body Tryz.func144 rfl Tryz.ntmps144 rfl rfl ?_
 refine za ?_
 refine das rfl ?_
 refine das rfl ?_
 refine dn ?_
 refine za ?_
 refine dmv rfl ?_
 refine dq (zI zaR rfl) ?_
 refine das rfl ?_
 refine dn ?_
 refine za ?_
 refine dmv rfl ?_
 refine das rfl ?_
 refine das rfl ?_
 refine dn ?_
 refine zj ?_
 refine zq ?_
 refine za9 [9, 10, 11, 15, 16, 17, 18, 19, 20, 21, 22, 23, 24, 25, 26, 27, 28, 29, 30, 31, 32, 33, 34] (fun (i : Nat) (j : Nat) => [(9, .int .i64 i), (10, .int .i64 j)]) (fun (i : Nat) (j : Nat) => []) (fun (i : Nat) (j : Nat) => i ≤ j ∧ j ≤ (l.map (·.Player)).length ∧ (∀ (k : Nat) (x : Str), k < i → (l.map (·.Player))[k]? = some x → Op.bytesLess x s = true) ∧ (∀ (k : Nat) (x : Str), j ≤ k → (l.map (·.Player))[k]? = some x → Op.bytesLess x s = false)) (fun (i : Nat) (j : Nat) => j - i) (0) (l.length) ?_ ?_ ?_ ?_
 ·exact ⟨Nat.zero_le _, by rw [hLl]; exact Nat.le_refl _, fun k x h => by omega, fun k x h1 h2 => by have := zK h2; omega⟩
 ·exact ⟨rfl, rfl, trivial⟩
 ·exact List.Perm.refl _
 ·intro i j hinv
  obtain ⟨hij, hjl, ha, hb⟩ := hinv
  rw [hLl] at hjl
  refine zj ?_
  refine za ?_
  refine dmv rfl ?_
  refine dmv rfl ?_
  refine dq (zS rfl rfl) ?_
  refine dn ?_
  refine zi rfl (fun h1 => ?_) (fun h2 => ?_)
  ·try simp at h1
   obtain ⟨x, hx⟩ : ∃ x, l[(i + j) / 2]? = some x := ⟨_, List.getElem?_eq_getElem (by omega)⟩
   have hxL : (l.map (·.Player))[(i + j) / 2]? = some x.Player := by rw [List.getElem?_map, hx]; rfl
   have hm : (i + j) / 2 < j ∧ i ≤ (i + j) / 2 := by omega
   refine zm ?_
   refine zh ?_
   refine zq ?_
   refine za ?_
   refine dmv rfl ?_
   refine dmv rfl ?_
   refine dq (zB rfl rfl (by omega) (by omega)) ?_
   refine dq (zcV ty3 zhT rfl) ?_
   refine dq (zoN rfl rfl (by omega)) ?_
   refine dq (ze4 (zcV zhT ty3 rfl) (zqR (i := i) (j := j) (by omega))) ?_
   refine das rfl ?_
   refine dn ?_
   refine za ?_
   refine dmv rfl ?_
   refine dmv rfl ?_
   refine dmv rfl ?_
   refine dq (zW (j := (i + j) / 2) (a := x) zaR zap rfl rfl rfl hx) ?_
   refine dq (zH zap rfl rfl rfl rfl) ?_
   refine dmv rfl ?_
   refine dq (zfK hca rfl rfl (WeakL.refl _) (hp _)) ?_
   refine dq (zS rfl rfl) ?_
   refine dn ?_
   refine zi rfl (fun h3 => ?_) (fun h4 => ?_)
   ·try simp at h3
    refine zD ?_
    refine dmv rfl ?_
    refine dq (zB rfl rfl (by omega) (by omega)) ?_
    refine das rfl ?_
    refine dn ?_
    refine zy ?_
    exact ⟨(i + j) / 2 + 1, j, ⟨by omega, by rw [hLl]; exact hjl, zr1 hs hxL (zly.1 h3), hb⟩, by dsimp only; omega, ⟨rfl, rfl, trivial⟩, (by repeat (first | exact zt | refine zw rfl ?_ | refine zu rfl rfl ?_)), List.Perm.refl _⟩
   ·try simp at h4
    refine zD ?_
    refine dmv rfl ?_
    refine das rfl ?_
    refine dn ?_
    refine zy ?_
    exact ⟨i, (i + j) / 2, ⟨by omega, by omega, ha, zsb hs hxL (by have q := fun e => (show ¬ za6 x.Player s < 0 by omega) (zly.2 e); simpa using q)⟩, by dsimp only; omega, ⟨rfl, rfl, trivial⟩, (by repeat (first | exact zt | refine zw rfl ?_ | refine zu rfl rfl ?_)), List.Perm.refl _⟩
  ·try simp at h2
   obtain rfl : i = j := by omega
   have hjl2 : i ≤ (l.map (·.Player)).length := by rw [hLl]; exact hjl
   refine zX ?_
   refine z8 ?_
   refine zbj ?_
   refine zO ?_
   refine zh ?_
   refine za ?_
   refine dmv rfl ?_
   refine dmv rfl ?_
   refine dmv rfl ?_
   refine dq (zS rfl rfl) ?_
   refine dmv rfl ?_
   refine dg rfl rfl (fun hc => ⟨_, OpenTo.refl _, zf rfl⟩) ?_
   refine dg rfl rfl (fun hc => ⟨_, OpenTo.refl _, zf rfl⟩) ?_
   refine dg rfl rfl (fun hc => ⟨_, OpenTo.refl _, zf rfl⟩) ?_
   refine dg rfl rfl (fun hc => by have hq := hc; (try simp at hq); exact ⟨_, OpenTo.upd (t := 42) rfl (by first | exact hc | simp_all) (OpenTo.upd (t := 41) rfl (by first | exact hc | simp_all) (OpenTo.refl _)), zW (j := i) (a := l.getD i zbR) zaR zap rfl rfl rfl (getD_some (by omega))⟩) ?_
   refine dg rfl rfl (fun hc => ⟨_, OpenTo.upd (t := 43) rfl (by first | exact hc | simp_all) (OpenTo.refl _), zH zap rfl rfl rfl rfl⟩) ?_
   refine dg rfl rfl (fun hc => ⟨_, OpenTo.refl _, zf rfl⟩) ?_
   refine dg rfl rfl (fun hc => ⟨_, OpenTo.upd (t := 45) rfl (by first | exact hc | simp_all) (OpenTo.upd (t := 44) rfl (by first | exact hc | simp_all) (OpenTo.upd (t := 40) rfl (by first | exact hc | simp_all) (OpenTo.refl _))), zfK hca rfl rfl (WeakL.refl _) (hp _)⟩) ?_
   refine dg rfl rfl (fun hc => ⟨_, OpenTo.upd (t := 46) rfl (by first | exact hc | simp_all) (OpenTo.refl _), zas rfl rfl⟩) ?_
   refine dq (zz rfl (.inr ⟨_, rfl, fun h => by simp_all⟩) (.inl rfl)) ?_
   refine das rfl ?_
   refine das rfl ?_
   refine dn ?_
   refine zl ?_
   refine zC rfl ?_
   rw [zlG hjl2 ha hb, ← zoi hs hjl2 ha hb, ← zqc]

/-- benchwarmer/trade.did$1 -/
theorem zmX [Tracks] {x : OwnerS} {s : Str}  : ConP Tryz.prog 145 [zaV x, .str s] (.int .i64 (za6 x.Player s)) := by
 refine Con.of_body Tryz.func145 rfl Tryz.ntmps145 rfl rfl ?_
 refine za ?_
 refine dq (zat rfl rfl) ?_
 refine das rfl ?_
 refine dn ?_
 refine za ?_
 refine dq (zb zap rfl ty9 (by decide) rfl) ?_
 refine dq (zg ty9 rfl rfl rfl) ?_
 refine dmv rfl ?_
 refine dq (zp zha rfl (WeakL.refl _) zbh) ?_
 refine das rfl ?_
 refine dn ?_
 refine zl ?_
 refine zC rfl ?_
 rfl

set_option maxHeartbeats 1000000 in
/-- benchwarmer/trade.did -/
theorem zom [Tracks] {m : MarketS} {o : List OwnerS} {x : DealS} (ht : m.Teams.length ≤ 1000000) (h0o : 0 < o.length) (ho : o.length ≤ 1000000) (hs : SortedS (o.map (·.Player))) (hx : x.Gives.length ≤ 1000000) : ConP Tryz.prog 98 [.vptr (zn (zaM m)) 0, zbe o, zh3 x] (.tup [zbe (zdE o x.Gives), .bool (zfq m o x.Gives)]) := by
 refine Con.of_body Tryz.func98 rfl Tryz.ntmps98 rfl rfl ?_
 refine za ?_
 refine dq (zat rfl rfl) ?_
 refine das rfl ?_
 refine das rfl ?_
 refine dn ?_
 refine za ?_
 refine dmv rfl ?_
 refine de rfl (zeR ca86 rfl (WeakL.refl _) (zcG (l := o) ho) fun v14 => ?_)
 refine das rfl ?_
 refine dn ?_
 refine zj ?_
 refine zdy (i := 0) rfl (fun h0 he => ?_) (fun ob off cap hv hcap => ?_)
 ·exfalso; have := congrArg List.length he; simp at this; subst this; simp at h0o
 rw [List.length_map] at hv hcap
 subst hv
 refine za ?_
 refine dq ((by first | exact zb zal rfl zaq (by decide) rfl | exact ze zal rfl zaq (by decide) rfl)) ?_
 refine dq (zg zaq rfl rfl rfl) ?_
 refine dq (zI zaq rfl) ?_
 refine dmv rfl ?_
 refine dn ?_
 refine zq ?_
 refine za9 [6, 7, 10, 11, 12, 18, 19, 20, 21, 22, 23, 24, 25, 26, 27, 28, 29, 30, 31, 32, 33, 34, 35, 36, 37, 38, 39, 40, 41, 42, 43, 44, 45, 46, 47] (fun (k : Nat) (D : List OwnerS) => [(18, .int .i64 k)]) (fun (k : Nat) (D : List OwnerS) => [.arr (.slice (some ⟨ob, off, none⟩) o.length cap) 2 (D.map zaV)]) (fun (k : Nat) (D : List OwnerS) => k ≤ x.Gives.length ∧ (zbX o x.Gives = zbX D (x.Gives.drop k) ∧ D.map (·.Player) = o.map (·.Player))) (fun (k : Nat) (D : List OwnerS) => x.Gives.length - k) (0) (o) ?_ ?_ ?_ ?_
 ·exact ⟨Nat.zero_le _, rfl, rfl⟩
 ·exact ⟨rfl, trivial⟩
 ·exact zQ rfl
 ·intro k D hinv
  obtain ⟨hk, hf, hD⟩ := hinv
  have hDs : SortedS (D.map (·.Player)) := by rw [hD]; exact hs
  have hDl : D.length = o.length := by have := congrArg List.length hD; simpa using this
  refine za ?_
  refine dq (zS rfl rfl) ?_
  refine dn ?_
  refine zj ?_
  refine zi rfl (fun h1 => ?_) (fun h2 => ?_)
  ·try simp at h1
   obtain ⟨g, hg⟩ : ∃ g, x.Gives[k]? = some g := ⟨_, List.getElem?_eq_getElem h1⟩
   have hdg := zU hg
   rw [hdg] at hf
   refine zm ?_
   refine zh ?_
   refine zj ?_
   refine zq ?_
   refine za ?_
   refine dq (zW zaq zao rfl rfl rfl (by first | assumption | simp_all)) ?_
   refine dq (zH zao rfl rfl rfl rfl) ?_
   refine de rfl (zZ zao rfl fun b10 => ?_)
   refine de0 (zah zao rfl rfl rfl rfl rfl ?_)
   refine dn ?_
   refine zM (Ghost.fc0 10 rfl) ?_
   refine za ?_
   refine dmv rfl ?_
   refine dq ((by first | exact zb zao rfl ty9 (by decide) rfl | exact ze zao rfl ty9 (by decide) rfl)) ?_
   refine dq (zg ty9 rfl rfl rfl) ?_
   refine de rfl (zpY (hs' := [zbe D, .str g.Player, .fn (.func 145) [] []]) ztE rfl ⟨.arr (i := 0) rfl, .weak (Weak.refl _), .weak (Weak.refl _), trivial⟩ (zeZ (l := D) (s := g.Player) zt1 (fun _ => zmX) (by omega) hDs) rfl ?_)
   refine dmv rfl ?_
   refine dq (zab rfl rfl) ?_
   refine dq (zab rfl rfl) ?_
   refine das rfl ?_
   refine das rfl ?_
   refine dn ?_
   refine zj ?_
   refine zaH (fun M => M = [.arr (.slice (some ⟨ob, off, none⟩) o.length cap) 2 (D.map zaV)]) [7] mixed ?_
   refine ahp 0 rfl rfl (by kernel_rfl) (by kernel_rfl) (zf rfl) ?_
   refine ahp 1 rfl rfl (by kernel_rfl) (by kernel_rfl) (zac rfl) ?_
   refine ahp 2 rfl rfl (by kernel_rfl) (by kernel_rfl) (zf rfl) ?_
   refine ahg 3 rfl rfl (by kernel_rfl) (by kernel_rfl) rfl (fun hc => ⟨_, OpenTo.refl _, zf rfl⟩) ?_
   refine ahg 4 rfl rfl (by kernel_rfl) (by kernel_rfl) rfl (fun hc => ⟨_, OpenTo.refl _, zf rfl⟩) ?_
   refine ahg 5 rfl rfl (by kernel_rfl) (by kernel_rfl) rfl (fun hc => by
    obtain ⟨hql, hq1, hq2, hq3⟩ := ziT hDs (by simpa using hc)
    exact ⟨_, OpenTo.upd (t := 33) rfl (by first | exact hc | simp_all) (OpenTo.upd (t := 32) rfl (by first | exact hc | simp_all) (OpenTo.refl _)), zaD (j := (zdI (D.map (·.Player)) g.Player)) zaR zap rfl rfl rfl (by omega)⟩) ?_
   refine ahg 6 rfl rfl (by kernel_rfl) (by kernel_rfl) rfl (fun hc => ⟨_, OpenTo.upd (t := 34) rfl (by first | exact hc | simp_all) (OpenTo.refl _), (by first | exact zb zap rfl ty9 (by decide) rfl | exact ze zap rfl ty9 (by decide) rfl)⟩) ?_
   refine zgY 7 rfl rfl (by kernel_rfl) (by kernel_rfl) (by simp) rfl rfl (fun hc => ⟨_, OpenTo.upd (t := 35) rfl (by first | exact hc | simp_all) (OpenTo.refl _), fun M hM => by
    obtain ⟨hql, hq1, hq2, hq3⟩ := ziT hDs (by simpa using hc); subst hM; exact za4 (i := 0) (j := (zdI (D.map (·.Player)) g.Player)) 1 ty9 rfl (by omega) rfl hq1 rfl rfl ⟨rfl, rfl⟩
    ⟩) ?_
   refine ahg 8 rfl rfl (by kernel_rfl) (by kernel_rfl) rfl (fun hc => ⟨_, OpenTo.refl _, (by first | exact zb zao rfl ty9 (by decide) rfl | exact ze zao rfl ty9 (by decide) rfl)⟩) ?_
   refine ahg 9 rfl rfl (by kernel_rfl) (by kernel_rfl) rfl (fun hc => ⟨_, OpenTo.upd (t := 37) rfl (by first | exact hc | simp_all) (OpenTo.refl _), zg ty9 rfl rfl rfl⟩) ?_
   refine ahg 10 rfl rfl (by kernel_rfl) (by kernel_rfl) rfl (fun hc => ⟨_, OpenTo.upd (t := 38) rfl (by first | exact hc | simp_all) (OpenTo.upd (t := 36) rfl (by first | exact hc | simp_all) (OpenTo.refl _)), zeH rfl rfl⟩) ?_
   refine ahp 11 rfl rfl (by kernel_rfl) (by kernel_rfl) (zz rfl (.inl rfl) (.inr ⟨_, rfl, fun h => by simp_all⟩)) ?_
   refine ahz (by kernel_rfl) ?_
   refine zi rfl (fun h3 => ?_) (fun h4 => ?_)
   ·try simp at h3
    refine za ?_
    refine das rfl ?_
    refine das rfl ?_
    refine dn ?_
    refine zl ?_
    first
    | (refine zC rfl ?_
       rw [e1, e2])
    | (have hno : zbX o x.Gives = none := by
        by_cases hco : (D.map (·.Player)).contains g.Player = true
        ·obtain ⟨hql, hq1, hq2, hq3⟩ := ziT hDs hco
         exact zkO hf hq1 hq2 hq3 (by simpa using h3.resolve_left fun q => q _ (List.mem_of_getElem? hq1) hq2)
        ·exact zmz hf (zp9 (by simpa using hco))
       obtain ⟨e1, e2⟩ := zmC (m := m) hno
       exact ⟨_, [], Ghost.clear, _, _, rfl, zcr (by rw [e2]; exact zbV 2) (by rw [e1]; exact Weak.refl _), rfl, rfl⟩)
   ·try simp at h4
    refine zm ?_
    refine zh ?_
    have hco : (D.map (·.Player)).contains g.Player = true := by simpa using h4.1
    obtain ⟨hql, hq1, hq2, hq3⟩ := ziT hDs hco
    refine zD ?_
    refine dmv rfl ?_
    refine dmv rfl ?_
    refine dq ((by first | exact zb zao rfl ty9 (by decide) rfl | exact ze zao rfl ty9 (by decide) rfl)) ?_
    refine dq (zg ty9 rfl rfl rfl) ?_
    refine dq (zaD (j := (zdI (D.map (·.Player)) g.Player)) zaR zap rfl rfl rfl (by omega)) ?_
    refine dq ((by first | exact zb zap rfl ty9 (by decide) rfl | exact ze zap rfl ty9 (by decide) rfl)) ?_
    refine de0 (zaO (i := 0) (j := (zdI (D.map (·.Player)) g.Player)) (f := 1) (y := zaV (D.getD (zdI (D.map (·.Player)) g.Player) zbR)) (y' := zaV ⟨(D.getD (zdI (D.map (·.Player)) g.Player) zbR).Player, g.To⟩) ty9 rfl (by omega) rfl rfl (zb8 hq1) rfl rfl (by simp [zn]) rfl ?_)
    refine dn ?_
    refine zy ?_
    refine zh ?_
    refine zD ?_
    refine dq (zB rfl rfl (by omega) (by omega)) ?_
    refine dmv rfl ?_
    refine dn ?_
    exact ⟨k + 1, _, ⟨by omega, zqp hf hq1 hq2 hq3 (by simpa using h4.2), by rw [zkH hq1, hD]⟩, by dsimp only; omega, ⟨rfl, trivial⟩, (by repeat (first | exact zt | refine zw rfl ?_ | refine zu rfl rfl ?_)), zQ (by dsimp only; rw [List.map_set]; rfl)⟩
  ·try simp at h2
   have hnk : x.Gives.length ≤ k := by omega
   obtain rfl : k = x.Gives.length := by omega
   rw [zaT (Nat.le_refl _), zbX] at hf
   refine zX ?_
   refine z8 ?_
   refine zbj ?_
   refine zO ?_
   refine zh ?_
   refine zM (Ghost.fa 8 (i := 0) rfl rfl) ?_
   obtain ⟨e1, e2⟩ := zp5 (m := m) hf
   refine za ?_
   refine dmv rfl ?_
   refine dmv rfl ?_
   refine dmv rfl ?_
   refine dq (zp ca66 rfl (WeakL.refl _) (zhi (by first | assumption | omega | (simp; omega) | simp_all) (by first | assumption | omega | (simp; omega) | simp_all))) ?_
   refine das rfl ?_
   refine das rfl ?_
   refine dn ?_
   refine zl ?_
   first
   | (refine zC rfl ?_
      rw [e1, e2])
   | (have hno : zbX o x.Gives = none := by
       by_cases hco : (D.map (·.Player)).contains g.Player = true
       ·obtain ⟨hql, hq1, hq2, hq3⟩ := ziT hDs hco
        exact zkO hf hq1 hq2 hq3 (by simpa using h3.resolve_left fun q => q _ (List.mem_of_getElem? hq1) hq2)
       ·exact zmz hf (zp9 (by simpa using hco))
      obtain ⟨e1, e2⟩ := zmC (m := m) hno
      exact ⟨_, [], Ghost.clear, _, _, rfl, zcr (by rw [e2]; exact zbV 2) (by rw [e1]; exact Weak.refl _), rfl, rfl⟩)
end
section
open Go.HL
set_option linter.unusedSimpArgs false
end
end Go.Proofs.YtpcaaekefgkhjaaGreatDoor
namespace Go.HL
section

end
section

end
section
open Go
/-- The pieces of a string between the places where a byte stands. -/
def spl (c : UInt8) : Str → List Str
 | [] => [[]]
 | b :: l => if b = c then [] :: spl c l else match spl c l with
   | [] => [[b]]
   | x :: r => (b :: x) :: r
theorem zto (c : UInt8) (s : Str) : spl c s ≠ [] := by
 cases s with
 | nil => simp [spl]
 | cons b l =>
   simp only [spl]
   split
   ·simp
   ·split <;> simp
theorem zrn {c : UInt8} (s : Str) : ∃ x r, spl c s = x :: r := by
 cases h : spl c s with
 | nil => exact absurd h (zto c s)
 | cons x r => exact ⟨x, r, rfl⟩
theorem zti (c : UInt8) (l : Str) : spl c (c :: l) = [] :: spl c l := by simp [spl]
theorem zqs {b c : UInt8} (h : b ≠ c) {l x : Str} {r : List Str} (hl : spl c l = x :: r) : spl c (b :: l) = (b :: x) :: r := by
 simp only [spl, h, if_false, hl]
theorem zjR (c : UInt8) : ∀ (s : Str), ∀ x ∈ spl c s, x.length ≤ s.length
 | [], x, hx => by simp [spl] at hx; subst hx; simp
 | b :: l, x, hx => by
   have ih := zjR c l
   by_cases hb : b = c
   ·subst hb
    rw [zti] at hx
    rcases List.mem_cons.1 hx with rfl | hx
    ·simp
    ·have := ih x hx; simp only [List.length_cons]; omega
   ·obtain ⟨y, r, hy⟩ := zrn (c := c) l
    rw [zqs hb hy] at hx
    rcases List.mem_cons.1 hx with rfl | hx
    ·have := ih y (by rw [hy]; simp); simp only [List.length_cons]; omega
    ·have := ih x (by rw [hy]; simp [hx]); simp only [List.length_cons]; omega
end
section

end
section

end
section
theorem zja {line : Str} (j : Nat) : ((spl 32 line).getD j []).length ≤ line.length := by
 rw [List.getD_eq_getElem?_getD]
 cases h : (spl 32 line)[j]? with
 | none => simp
 | some x => exact zjR 32 line x (List.mem_of_getElem? h)
end
section

end
section

end
section

end
section

end
section
section
variable {α : Type} (rB : Str → Bool) (rP : Str → α) (F : List α → Int) (W : α → List Str) (enc : α → HVal) (sz : Nat)
end
end
section
/-! what the next line is -/
def ztd : Str := [111, 102, 102, 101, 114]
def givS : Str := [103, 105, 118, 101]
def zqv (line : Str) : Bool := (spl 32 line).all fun w => !w.isEmpty
def odB (line : Str) : Bool := zqv line && ((spl 32 line).getD 0 [] == ztd) && ((((spl 32 line).length : Nat) : Int) == 5) && ((spl 32 line).drop 3).all (numB · 15)
def gvB (line : Str) : Bool := zqv line && ((spl 32 line).getD 0 [] == givS) && ((((spl 32 line).length : Nat) : Int) == 4)
/-- Whether a line is taken, by what the first line of the text is. -/
def okT (s0 s : Str) : Bool := odB s || (gvB s && odB s0)
def odP (line : Str) : DealS := ⟨(spl 32 line).getD 1 [], (spl 32 line).getD 2 [], zpS ((spl 32 line).getD 3 []) 15, zpS ((spl 32 line).getD 4 []) 15, []⟩
def gvP (line : Str) : GiveS := ⟨(spl 32 line).getD 1 [], (spl 32 line).getD 2 [], (spl 32 line).getD 3 []⟩
def addG (d : DealS) (g : GiveS) : DealS := { d with Gives := d.Gives ++ [g] }
def zjm (ds : List DealS) (g : GiveS) : List DealS := ds.set (ds.length - 1) (addG (ds.getD (ds.length - 1) zb4) g)
def zen (ds : List DealS) (line : Str) : List DealS := if odB line then ds ++ [odP line] else if gvB line then zjm ds (gvP line) else ds
def rdD (ls : List Str) : List DealS := ls.foldl zen []
theorem zq8 (ls : List Str) (s : Str) : rdD (ls ++ [s]) = zen (rdD ls) s := by unfold rdD; rw [List.foldl_append]; rfl
def dvH (text : Str) : Str := (spl 10 text).headD []
end
section
structure GoodM (m : MarketS) : Prop where
 pos : 0 < m.Teams.length
 len : m.Teams.length ≤ 5
 sh : ∀ s ∈ m.Teams, s.length ≤ 10
def zbP : List Str := [[116, 97], [116, 98], [116, 99], [116, 100]]
theorem zed : ∀ s ∈ zbP, s.length ≤ 10 := by decide
def zjz (x : OwnerS) : Prop := Sh x.Player ∧ Sh x.Team
structure GoodOw (l : List OwnerS) : Prop where
 len : l.length ≤ 13
 all : ∀ x ∈ l, Sh x.Player ∧ Sh x.Team
def zo0 (x : ReplyS) : Prop := Sh x.Offer
structure GoodRp (l : List ReplyS) : Prop where
 len : l.length ≤ 12
 all : ∀ x ∈ l, Sh x.Offer
structure GoodDl1 (x : DealS) : Prop where
 id : Sh x.Id
 len : x.Gives.length ≤ 3
 all : ∀ g ∈ x.Gives, Sh g.Player
structure GoodDl (l : List DealS) : Prop where
 len : l.length ≤ 5
 all : ∀ x ∈ l, GoodDl1 x
theorem zf6 {s : Str} {n : Nat} (h : s.length ≤ n) (hn : n ≤ 1000000) : Sh s := by unfold Sh; omega
theorem zs9 [Tracks] {P : Program} {n : Nat} {e : Env} {M : List MObj} {c : Code} {Q : Exit → Env → List MObj → Prop} {i : Nat} {v : Value} {sz : Nat} {es : List HVal} (hm : M[i]? = some (.arr v sz es))
 (h : ∀ p b off cap, (p = some ⟨b, off, none⟩ ∨ es = []) → v = .slice p es.length cap → HWp P n c e M Q) : HWp P n c e M Q :=
 zdy hm (fun h0 he => h none 0 0 0 (.inr he) (by rw [h0, he]; rfl)) (fun b off cap hv _ => h _ b off cap (.inl rfl) hv)
/-- What is left of a list, some of it gone. -/
structure LeftOf {α : Type} (l k : List α) : Prop where
 len : k.length ≤ l.length
 sub : ∀ x ∈ k, x ∈ l
theorem LeftOf.take {α : Type} {l D : List α} (n : Nat) (hl : D.length = l.length) (h : ∀ x ∈ D, x ∈ l) : LeftOf l (D.take n) :=
 ⟨by rw [List.length_take]; omega, fun x hx => h x (List.mem_of_mem_take hx)⟩
theorem LeftOf.refl {α : Type} (l : List α) : LeftOf l l := ⟨Nat.le_refl _, fun _ h => h⟩
end
section
/-- The slice in a cell of an element of an owned slice. -/
theorem Ghost.farr [Tracks] {e : Env} {M : List MObj} {i k r j : Nat} {u v : Value} {sz sz' : Nat} {es fs cs : List HVal} (hm : M[i]? = some (.arr v sz es)) (hk : (M.eraseIdx i)[k]? = some (.arr u sz' fs)) (hr : fs[r]? = some (.agg cs)) (hj : cs[j]? = some (.raw v)) :
 Ghost e M e ((M.eraseIdx i).set k (.arr u sz' (fs.set r (.agg (cs.set j (.slice sz es)))))) := fun P I F tmps w h1 hs => by
 obtain ⟨J, hl, hs', hv⟩ := (hs.pull hm).freeze_arr
 have hp := hs'.pull hk
 have hnd : (MObj.arr u sz' (fs.set r (.agg (cs.set j (.slice sz es))))).blocks.Nodup := by
  have := hp.nodup
  simp only [blocks, List.flatMap_cons] at this
  have h2 := (List.nodup_append.1 this).1
  have e1 : (MObj.arr u sz' (fs.set r (.agg (cs.set j (.slice sz es))))).blocks = (MObj.arr u sz' fs).blocks := by
   cases u <;> try rfl
   rename_i a _ _; cases a <;> rfl
  rw [e1]; exact h2
 have hbl : ∀ b ∈ (MObj.arr u sz' (fs.set r (.agg (cs.set j (.slice sz es))))).blocks, b ∈ (MObj.arr u sz' fs).blocks ∨ w.heap.size ≤ b := fun b hb => by
  left
  have e1 : (MObj.arr u sz' (fs.set r (.agg (cs.set j (.slice sz es))))).blocks = (MObj.arr u sz' fs).blocks := by
   cases u <;> try rfl
   rename_i a _ _; cases a <;> rfl
  rw [← e1]; exact hb
 refine ⟨J, hl, h1.mono hl, Sat.unpull hk (hp.change (m' := .arr u sz' (fs.set r (.agg (cs.set j (.slice sz es))))) (fun _ _ _ => rfl) hbl hnd ?_ rfl rfl rfl)⟩
 rcases hp.obj _ List.mem_cons_self with ⟨_, h0⟩ | ⟨b, off, cap, rc, el, fr, a1, a2, a3, a4, a5, a6, a7⟩
 ·rw [h0] at hr; simp at hr
 ·refine .inr ⟨b, off, cap, rc, el, fr, by rw [List.length_set]; exact a1, a2, a3, fun x hx => ?_, by rw [List.length_set]; exact a5, a6, fun i' j' e' c' v' b1 b2 b3 => ?_⟩
  ·rcases List.mem_or_eq_of_mem_set hx with hx | hx
   ·exact a4 x hx
   ·have := a4 _ (List.mem_of_getElem? hr)
    rw [hx]; simp only [zn, List.length_set] at this ⊢; exact this
  ·by_cases hi : i' = r
   ·subst hi
    have hlt := zK hr
    rw [List.getElem?_set_self hlt] at b1
    obtain rfl := Option.some.inj b1
    simp only [zn] at b2
    by_cases hj' : j' = j
    ·subst hj'
     have hjl := zK hj
     rw [List.getElem?_set_self hjl] at b2
     obtain rfl := Option.some.inj b2
     have := a7 i' j' _ _ v' hr hj b3
     rw [this.raw_inv]; exact hv
    ·rw [List.getElem?_set_ne (Ne.symm hj')] at b2
     exact a7 i' j' _ c' v' hr b2 b3
   ·rw [List.getElem?_set_ne (Ne.symm hi)] at b1
    exact a7 i' j' e' c' v' b1 b2 b3
/-- One after the other: the elements from n on hold their slices as owned ones. -/
theorem Ghost.fz_each [Tracks] {e : Env} {α β : Type} {A : List MObj} {u : Value} {sz sz' : Nat} {enc : α → HVal} {raw : α → Value → HVal} {st : α → List β} {eb : β → HVal} {j : Nat} {cs : α → Value → List HVal}
 (h1 : ∀ x v, raw x v = .agg (cs x v)) (h2 : ∀ x v, (cs x v)[j]? = some (.raw v)) (h3 : ∀ x v, HVal.agg ((cs x v).set j (.slice sz ((st x).map eb))) = enc x) :
 ∀ (O : List (α × Value)) (D : List α), Ghost e (A ++ .arr u sz' (D.map enc ++ O.map fun p => raw p.1 p.2) :: O.map fun p => .arr p.2 sz ((st p.1).map eb)) e (A ++ [.arr u sz' ((D ++ O.map (·.1)).map enc)])
 | [], D => by
   refine Ghost.of_eq ?_
   simp
 | p :: O, D => by
   have key := Ghost.fz_each (e := e) (A := A) (u := u) (sz := sz) (sz' := sz') h1 h2 h3 O (D ++ [p.1])
   have e9 : D ++ (p :: O).map (·.1) = (D ++ [p.1]) ++ O.map (·.1) := by simp
   rw [e9]
   refine Ghost.trans ?_ key
   have hm : (A ++ .arr u sz' (D.map enc ++ (p :: O).map fun p => raw p.1 p.2) :: (p :: O).map fun p => MObj.arr p.2 sz ((st p.1).map eb))[A.length + 1]? = some (.arr p.2 sz ((st p.1).map eb)) := by
    rw [List.getElem?_append_right (by omega)]; simp
   have he : (A ++ .arr u sz' (D.map enc ++ (p :: O).map fun p => raw p.1 p.2) :: (p :: O).map fun p => MObj.arr p.2 sz ((st p.1).map eb)).eraseIdx (A.length + 1) = A ++ .arr u sz' (D.map enc ++ (p :: O).map fun p => raw p.1 p.2) :: O.map fun p => MObj.arr p.2 sz ((st p.1).map eb) := by
    rw [List.eraseIdx_append_of_length_le (by omega)]; simp
   have hk : ((A ++ .arr u sz' (D.map enc ++ (p :: O).map fun p => raw p.1 p.2) :: (p :: O).map fun p => MObj.arr p.2 sz ((st p.1).map eb)).eraseIdx (A.length + 1))[A.length]? = some (.arr u sz' (D.map enc ++ (p :: O).map fun p => raw p.1 p.2)) := by
    rw [he]; simp
   have hr : (D.map enc ++ (p :: O).map fun p => raw p.1 p.2)[D.length]? = some (.agg (cs p.1 p.2)) := by
    rw [List.getElem?_append_right (by simp)]; simp [h1]
   have g := Ghost.farr (e := e) hm hk hr (h2 p.1 p.2)
   have e5 : ((A ++ .arr u sz' (D.map enc ++ (p :: O).map fun p => raw p.1 p.2) :: (p :: O).map fun p => MObj.arr p.2 sz ((st p.1).map eb)).eraseIdx (A.length + 1)).set A.length (.arr u sz' ((D.map enc ++ (p :: O).map fun p => raw p.1 p.2).set D.length (.agg ((cs p.1 p.2).set j (.slice sz ((st p.1).map eb)))))) = A ++ .arr u sz' ((D ++ [p.1]).map enc ++ O.map fun p => raw p.1 p.2) :: O.map fun p => MObj.arr p.2 sz ((st p.1).map eb) := by
    rw [he, h3, List.set_append_right _ _ (Nat.le_refl _)]
    simp
   rw [e5] at g
   exact g
end
section
abbrev DlV := DealS × Value
abbrev rDl (p : DlV) : HVal := .agg [.str p.1.Id, .str p.1.By, .int .i64 p.1.From, .int .i64 p.1.To, .raw p.2]
abbrev sDl (p : DlV) : MObj := .arr p.2 3 (p.1.Gives.map zaZ)
def ztx (p : DlV) : Prop := GoodDl1 p.1 ∧ 0 < p.1.Gives.length
theorem zss [Tracks] {P : Program} {s m0 m1 m3 : MObj} {T : List MObj} (J : Imm) (F : List MObj) (w : World) (hs : Sat P J ((s :: m0 :: m1 :: m3 :: T) ++ F) w) : Sat P J ((s :: m3 :: (T ++ [m0])) ++ F) w := by
 have h1 : Sat P J (m1 :: (s :: m0 :: m3 :: T) ++ F) w := hs.perm (((List.perm_middle (l₁ := [s, m0]) (a := m1) (l₂ := m3 :: T))).append_right F)
 have h2 : Sat P J ((s :: m0 :: m3 :: T) ++ F) w := h1.drop
 have hp : (s :: m0 :: m3 :: T).Perm (s :: m3 :: (T ++ [m0])) := by
  refine List.Perm.cons _ ((List.Perm.swap m3 m0 T).trans (List.Perm.cons _ ?_))
  exact (List.perm_append_comm (l₁ := [m0]) (l₂ := T))
 exact h2.perm (hp.append_right F)
/-- What an offer that gives nothing leaves behind is let go. -/
theorem Ghost.drop12 [Tracks] {e : Env} {s : MObj} {v : Value} {es cs : List HVal} {b : Nat} {T : List MObj} : Ghost e (s :: .arr v 3 es :: .cells b cs :: T) e (s :: T) :=
 (Ghost.perm (List.perm_middle (l₁ := [s]) (a := .arr v 3 es) (l₂ := .cells b cs :: T))).trans (Ghost.drop.trans ((Ghost.perm (List.Perm.swap _ _ _)).trans Ghost.drop))
theorem zlU {α : Type} {l : List α} {j : Nat} {y : α} (hj : j < l.length) : (l.set j y).Perm (y :: l.eraseIdx j) := by
 rw [List.set_eq_take_append_cons_drop, if_pos hj, List.eraseIdx_eq_take_drop_succ]
 exact List.perm_middle
theorem zsV {s m : MObj} {out : List DlV} {j : Nat} {n : DlV} (hj : j < out.length) : (sDl n :: s :: m :: (out.map sDl).eraseIdx j).Perm (s :: m :: (out.set j n).map sDl) := by
 have h : ((out.set j n).map sDl).Perm (sDl n :: (out.map sDl).eraseIdx j) := by
  rw [List.map_set]; exact zlU (by simpa using hj)
 refine List.Perm.trans ?_ ((List.Perm.cons s (List.Perm.cons m h.symm)))
 exact (List.perm_middle (l₁ := [s, m]) (a := sDl n) (l₂ := (out.map sDl).eraseIdx j)).symm
theorem zq6 {out : List DlV} {j : Nat} {x n : DlV} (hx : out[j]? = some x) (h : rDl n = rDl x) : (out.set j n).map rDl = out.map rDl := by
 rw [List.map_set, h]
 refine List.ext_getElem? fun i => ?_
 by_cases hj : i = j
 ·subst hj
  have hlt := zK hx
  rw [List.getElem?_set_self (by simpa using hlt), List.getElem?_map, hx]; rfl
 ·rw [List.getElem?_set_ne (Ne.symm hj)]
theorem znB {out : List DlV} {j : Nat} {x n : DlV} (hx : out[j]? = some x) (h : sDl n = sDl x) : (out.set j n).map sDl = out.map sDl := by
 rw [List.map_set, h]
 refine List.ext_getElem? fun i => ?_
 by_cases hj : i = j
 ·subst hj
  have hlt := zK hx
  rw [List.getElem?_set_self (by simpa using hlt), List.getElem?_map, hx]; rfl
 ·rw [List.getElem?_set_ne (Ne.symm hj)]
theorem zpp {l : List GiveS} {x : GiveS} : x ∈ za7 zco l → x ∈ l := fun h => (zek (c := zco) l).mem_iff.1 h
end
section
theorem ztl {m : MarketS} (h : zag m = 0) (o : List OwnerS) (x : List DealS) (a c : List ReplyS) :
 zb0 m o = zbJ m o ∧ zcI m x = zdx m x ∧ zcL m a = zcc m a ∧ orI [zcc m a, zcL m c] = orI [zcc m a, zcc m c] := by
 have h1 : ¬ zag m ≠ 0 := by simp [h]
 have hr : ∀ z, zcL m z = zcc m z := fun z => by rw [zcc, if_neg h1]
 exact ⟨by rw [zbJ, if_neg h1], by rw [zdx, if_neg h1], hr a, by rw [hr c]⟩
end
section

end
section

end
section
def zkn (a b : Of2) : Int := orI [za6 a.1 b.1, za6 a.2 b.2]
theorem zsM (a b : Of2) : zkn a b = if za6 a.1 b.1 ≠ 0 then za6 a.1 b.1 else za6 a.2 b.2 := by unfold zkn; rw [zrL]
theorem zpT (a b : Of2) : zkn a b = -zkn b a := by
 unfold zkn
 rw [zd5 a.1, zd5 a.2, zq7]
theorem zrD : Cmp zkn (fun _ => True) where
 flip x y _ _ := by rw [zpT x y]; omega
 trans x y z _ _ _ h1 h2 := by
  rw [zsM] at *
  have k1 : za6 x.1 y.1 ≤ 0 := by split at h1 <;> omega
  have k2 : za6 y.1 z.1 ≤ 0 := by split at h2 <;> omega
  have k3 := zfU k1 k2
  split
  ·exact k3
  ·rename_i hz
   have hz' : za6 x.1 z.1 = 0 := by simpa using hz
   obtain ⟨e1, e2⟩ := zmR k1 k2 hz'
   rw [if_neg (by simp [e1])] at h1
   rw [if_neg (by simp [e2])] at h2
   exact zfU h1 h2
def OLt (a b : Of2) : Prop := zkn a b < 0
end
section
section
variable {κ : Type}
/-- The zc5 maps by the outer key: block and entries. -/
abbrev GrM (κ : Type) := List (Str × (Nat × List (κ × Int)))
end
end
section
theorem zh5 {α : Type} {s : Str} {v : α} : ∀ {G : List (Str × α)}, (zaJ s v G).map (·.1) = zaP s (G.map (·.1))
 | [] => by simp [zaJ, zaP]
 | p :: r => by
   have ih := zh5 (s := s) (v := v) (G := r)
   simp only [zaJ]
   by_cases h : s = p.1
   ·rw [if_pos h]
    unfold zaP
    rw [if_pos (by simp [h])]
    simp [h]
   ·rw [if_neg h, List.map_cons, ih]
    unfold zaP
    by_cases hc : (r.map (·.1)).contains s = true
    ·rw [if_pos hc, if_pos (by simp at hc ⊢; exact .inr hc)]; rfl
    ·rw [if_neg hc, if_neg (by simp at hc ⊢; exact ⟨h, hc⟩)]; rfl
theorem zis {α : Type} {s : Str} {v : α} {p : Str × α} : ∀ {G : List (Str × α)}, ANodup G → p ∈ zaJ s v G → p = (s, v) ∨ (p ∈ G ∧ p.1 ≠ s)
 | [], _, h => by simp [zaJ] at h; exact .inl h
 | q :: r, hn, h => by
   have h1 := List.nodup_cons.1 hn
   simp only [zaJ] at h
   by_cases hs : s = q.1
   ·rw [if_pos hs] at h
    rcases List.mem_cons.1 h with h | h
    ·exact .inl h
    ·refine .inr ⟨List.mem_cons_of_mem _ h, fun e => h1.1 ?_⟩
     show q.1 ∈ r.map (·.1)
     rw [← hs, ← e]; exact List.mem_map_of_mem h
   ·rw [if_neg hs] at h
    rcases List.mem_cons.1 h with h | h
    ·subst h; exact .inr ⟨by simp, fun e => hs e.symm⟩
    ·rcases zis h1.2 h with e | e
     ·exact .inl e
     ·exact .inr ⟨List.mem_cons_of_mem _ e.1, e.2⟩
section
variable {κ : Type}
/-- The maps of maps hold the za5 sums. -/
structure GrOk (S : List Str) (c : List ((Str × κ) × Int)) (G : GrM κ) : Prop where
 keys : G.map (·.1) = S
 nodup : S.Nodup
 val : ∀ p ∈ G, p.2.2 = zc5 c p.1
 inS : ∀ e ∈ c, e.1.1 ∈ S
theorem GrOk.anodup {S : List Str} {c : List ((Str × κ) × Int)} {G : GrM κ} (h : GrOk S c G) : ANodup G := by unfold ANodup; rw [h.keys]; exact h.nodup
theorem GrOk.nil : GrOk ([] : List Str) ([] : List ((Str × κ) × Int)) [] := ⟨rfl, List.nodup_nil, (fun p h => by cases h), (fun e h => by cases h)⟩
theorem GrOk.get {S : List Str} {c : List ((Str × κ) × Int)} {G : GrM κ} (h : GrOk S c G) {s : Str} {b : Nat} {L : List (κ × Int)} (hq : alk s G = some (b, L)) : L = zc5 c s := h.val _ (zfb hq)
theorem GrOk.none {S : List Str} {c : List ((Str × κ) × Int)} {G : GrM κ} (h : GrOk S c G) {s : Str} : alk s G = none ↔ s ∉ S := by rw [zeI, h.keys]
theorem zqo {S : List Str} {c : List ((Str × κ) × Int)} {s : Str} (h : ∀ e ∈ c, e.1.1 ∈ S) (hs : s ∉ S) : zc5 c s = [] := by
 unfold zc5
 rw [List.map_eq_nil_iff, List.filter_eq_nil_iff]
 intro e he hq
 exact hs ((eq_of_beq hq) ▸ h e he)
theorem GrOk.add {S : List Str} {c : List ((Str × κ) × Int)} {G : GrM κ} (h : GrOk S c G) {s : Str} (b : Nat) (hs : alk s G = Option.none) : GrOk (zaP s S) c (zaJ s (b, []) G) := by
 have hn := h.none.1 hs
 refine ⟨by rw [zh5, h.keys], zh6 h.nodup, fun p hp => ?_, fun e he => zke.2 (.inr (h.inS e he))⟩
 rcases zis h.anodup hp with rfl | ⟨hp, _⟩
 ·exact (zqo h.inS hn).symm
 ·exact h.val p hp
variable [DecidableEq κ]
theorem GrOk.put {S : List Str} {c : List ((Str × κ) × Int)} {G : GrM κ} (h : GrOk S c G) {s : Str} {b : Nat} {L : List (κ × Int)} (hq : alk s G = some (b, L)) (k : κ) (v : Int) : GrOk S (zaJ (s, k) v c) (zaJ s (b, zaJ k v L) G) := by
 have hs : s ∈ S := by
  refine Decidable.not_not.1 fun hn => ?_
  have := h.none.2 hn
  rw [this] at hq; cases hq
 refine ⟨?_, h.nodup, fun p hp => ?_, fun e he => ?_⟩
 ·rw [zh5, h.keys]
  unfold zaP
  rw [if_pos (by simpa using hs)]
 ·rw [zmi]
  rcases zis h.anodup hp with rfl | ⟨hp, hne⟩
  ·rw [if_pos rfl, ← h.get hq]
  ·rw [if_neg hne]; exact h.val p hp
 ·rcases zfi he with rfl | he
  ·exact hs
  ·exact h.inS e he
end
end
section

end
section
theorem OLt.trans {a b c : Of2} (h1 : OLt a b) (h2 : OLt b c) : OLt a c := zrD.lt_trans trivial trivial trivial h1 h2
end
section
/-- The plays of the sources that count. -/
def ztR (l : List Play) (trust : List Str) (n : Int) (x : Play) : Bool := decide (zju l trust n x.Match = some x.Source)
def kept (l : List Play) (trust : List Str) (n : Int) : List Play := l.filter (ztR l trust n)
end
section
structure ChkIs (q : ChkS) (l : List Play) : Prop where
 sn : q.S.Nodup
 s : ∀ s, s ∈ q.S ↔ ∃ x ∈ l, x.Source = s
 wn : ANodup q.W
 w : ∀ m, m ∈ q.W.map (·.1) ↔ ∃ x ∈ l, x.Match = m
 wv : ∀ m v, alk m q.W = some v → ∃ x ∈ l, x.Match = m ∧ x.Week = v
 c : q.c = false ↔ ∀ x ∈ l, ∀ y ∈ l, x.Match = y.Match → x.Week = y.Week
theorem ChkIs.step {q : ChkS} {l : List Play} (h : ChkIs q l) (p : Play) : ChkIs (zhx q p) (l ++ [p]) where
 sn := zh6 h.sn
 s s := by
  show s ∈ zaP p.Source q.S ↔ _
  rw [zke, h.s]
  constructor
  ·rintro (rfl | ⟨x, hx, e⟩)
   ·exact ⟨p, by simp, rfl⟩
   ·exact ⟨x, List.mem_append_left _ hx, e⟩
  ·rintro ⟨x, hx, e⟩
   rcases List.mem_append.1 hx with hx | hx
   ·exact .inr ⟨x, hx, e⟩
   ·rw [List.mem_singleton.1 hx] at e; exact .inl e.symm
 wn := h.wn.put
 w m := by
  show m ∈ (zaJ p.Match p.Week q.W).map (·.1) ↔ _
  rw [ziB, h.w]
  constructor
  ·rintro (rfl | ⟨x, hx, e⟩)
   ·exact ⟨p, by simp, rfl⟩
   ·exact ⟨x, List.mem_append_left _ hx, e⟩
  ·rintro ⟨x, hx, e⟩
   rcases List.mem_append.1 hx with hx | hx
   ·exact .inr ⟨x, hx, e⟩
   ·rw [List.mem_singleton.1 hx] at e; exact .inl e.symm
 wv m v hv := by
  have hv' : alk m (zaJ p.Match p.Week q.W) = some v := hv
  rw [zlA] at hv'
  by_cases e : m = p.Match
  ·rw [if_pos e] at hv'; cases hv'
   exact ⟨p, by simp, e.symm, rfl⟩
  ·rw [if_neg e] at hv'
   obtain ⟨x, hx, e1⟩ := h.wv m v hv'
   exact ⟨x, List.mem_append_left _ hx, e1⟩
 c := by
  show (q.c || ((alk p.Match q.W).isSome && ((alk p.Match q.W).getD 0 != p.Week))) = false ↔ _
  rw [Bool.or_eq_false_iff, h.c]
  constructor
  ·rintro ⟨h1, h2⟩
   have hp : ∀ x ∈ l, x.Match = p.Match → x.Week = p.Week := fun x hx e => by
    have hk : p.Match ∈ q.W.map (·.1) := (h.w _).2 ⟨x, hx, e⟩
    have hne : ¬ alk p.Match q.W = none := by rw [zeI]; exact fun z => z hk
    obtain ⟨v, hv⟩ := Option.ne_none_iff_exists'.1 hne
    rw [hv] at h2
    simp at h2
    obtain ⟨y, hy, e1, e2⟩ := h.wv _ _ hv
    rw [h1 x hx y hy (by rw [e, e1]), e2, h2]
   intro x hx y hy e
   rcases List.mem_append.1 hx with hx | hx <;> rcases List.mem_append.1 hy with hy | hy
   ·exact h1 x hx y hy e
   ·rw [List.mem_singleton.1 hy] at e ⊢; exact hp x hx e
   ·rw [List.mem_singleton.1 hx] at e ⊢; exact (hp y hy e.symm).symm
   ·rw [List.mem_singleton.1 hx, List.mem_singleton.1 hy]
  ·intro hall
   refine ⟨fun x hx y hy e => hall x (List.mem_append_left _ hx) y (List.mem_append_left _ hy) e, ?_⟩
   cases hv : alk p.Match q.W with
   | none => rfl
   | some v =>
     obtain ⟨y, hy, e1, e2⟩ := h.wv _ _ hv
     have := hall y (List.mem_append_left _ hy) p (by simp) e1
     simp
     rw [← e2, this]
end
section

end
section

end
section
section
variable {κ : Type}
end
end
section
section
variable {P : Program} {e : Env} {dst : Option Tmp} {ty : TypeId} {pos : String} {af : Array Edge} {g : Option (Nat × Bool)} {M : List MObj} {K : HVal → List MObj → Prop}
end
end
section
variable {P : Program}
open Go.Sort Go.Proofs
end
section
section
variable {κ : Type} [DecidableEq κ] {β : Type}
end
section
variable {P : Program} {e : Env} {κ : Type} [DecidableEq κ] {β : Type} {eb : β → HVal}
theorem EOp.post_ghost [Tracks] {M : List MObj} {K : HVal → List MObj → Prop} {o : Oper} (h : EOp P e M o fun x N => ∃ N', (∀ J F w, Sat P J (N ++ F) w → Sat P J (N' ++ F) w) ∧ K x N') : EOp P e M o K := fun I F a w ho hs =>
 Oper.wp_noQ (fun _ _ ⟨v, x, M', J, h1, h2, ⟨N', h3, h4⟩, h5, h6⟩ => ⟨v, x, N', J, h1, h2, h4, h5, h3 J F _ h6⟩) (h I F a w ho hs)
end
end
section
/-! lines by their places, with mends -/
abbrev GrS := List (Plc × List StatS)
def zpK (x : MendS) (l : List StatS) : List StatS := l.filter fun s => !(s.Name == x.Stat)
def zlk (x : MendS) (l : List StatS) : List StatS := zpK x l ++ if x.Count ≠ 0 then [⟨x.Stat, x.Count⟩] else []
def zkJ (n : Int) (G : GrS) (x : MendS) : GrS := if n < x.At then G else zaJ (x.Player, x.Week) (zlk x ((alk (x.Player, x.Week) G).getD [])) G
def GLen (b : Nat) (G : GrS) : Prop := ∀ q ∈ G, q.2.length ≤ b
theorem GLen.put {b : Nat} {G : GrS} {p : Plc} {l : List StatS} (h : GLen b G) (hl : l.length ≤ b) : GLen b (zaJ p l G) := fun q hq => by
 rcases zfi hq with rfl | hq
 ·exact hl
 ·exact h q hq
theorem GLen.get {b : Nat} {G : GrS} (h : GLen b G) (p : Plc) : ((alk p G).getD []).length ≤ b := by
 cases hq : alk p G with
 | none => simp
 | some l => exact h _ (zfb hq)
theorem GLen.up {b c : Nat} {G : GrS} (h : GLen b G) (hb : b ≤ c) : GLen c G := fun q hq => Nat.le_trans (h q hq) hb
theorem zqS (x : MendS) (l : List StatS) : (zpK x l).length ≤ l.length := List.length_filter_le _ _
theorem zqj (x : MendS) (l : List StatS) : (zlk x l).length ≤ l.length + 1 := by
 have := zqS x l
 unfold zlk; rw [List.length_append]; split
 ·simp only [List.length_cons, List.length_nil]; omega
 ·simp only [List.length_nil]; omega
theorem GLen.step {b : Nat} {n : Int} {G : GrS} {x : MendS} (h : GLen b G) : GLen (b + 1) (zkJ n G x) := by
 unfold zkJ; split
 ·exact h.up (by omega)
 ·refine (h.up (by omega)).put ?_
  have h1 := zqj x ((alk (x.Player, x.Week) G).getD [])
  have h2 := h.get (x.Player, x.Week)
  omega
def GNm (G : GrS) : Prop := ∀ q ∈ G, (q.2.map (·.Name)).Nodup
theorem GNm.put {G : GrS} {p : Plc} {l : List StatS} (h : GNm G) (hl : (l.map (·.Name)).Nodup) : GNm (zaJ p l G) := fun q hq => by
 rcases zfi hq with rfl | hq
 ·exact hl
 ·exact h q hq
theorem GNm.get {G : GrS} (h : GNm G) (p : Plc) : (((alk p G).getD []).map (·.Name)).Nodup := by
 cases hq : alk p G with
 | none => exact List.nodup_nil
 | some l => exact h _ (zfb hq)
theorem zoq {x : MendS} {l : List StatS} (h : (l.map (·.Name)).Nodup) : ((zlk x l).map (·.Name)).Nodup := by
 have h1 : ((zpK x l).map (·.Name)).Nodup := h.sublist ((List.filter_sublist).map _)
 unfold zlk
 split
 ·rw [List.map_append]
  refine List.nodup_append.2 ⟨h1, by simp, fun a ha b hb => ?_⟩
  simp at hb; subst hb
  obtain ⟨s, hs, rfl⟩ := List.mem_map.1 ha
  have := (List.mem_filter.1 hs).2
  simpa using this
 ·rw [List.append_nil]; exact h1
theorem GNm.step {n : Int} {G : GrS} {x : MendS} (h : GNm G) : GNm (zkJ n G x) := by
 unfold zkJ; split
 ·exact h
 ·exact h.put (zoq (h.get _))
end
section

end
section

end
section
structure GdN (n k : Nat) (ds : List DealS) : Prop where
 len : ds.length ≤ k
 all : ∀ x ∈ ds, x.Id.length ≤ n ∧ x.Gives.length ≤ k ∧ ∀ g ∈ x.Gives, g.Player.length ≤ n
theorem GdN.step {n k : Nat} {ds : List DealS} {s : Str} (h : GdN n k ds) (hs : s.length ≤ n) : GdN n (k + 1) (zen ds s) := by
 obtain ⟨h1, h2⟩ := h
 have h2' : ∀ x ∈ ds, x.Id.length ≤ n ∧ x.Gives.length ≤ k + 1 ∧ ∀ g ∈ x.Gives, g.Player.length ≤ n := fun x hx => ⟨(h2 x hx).1, by have := (h2 x hx).2.1; omega, (h2 x hx).2.2⟩
 unfold zen
 split
 ·refine ⟨by simp; omega, fun x hx => ?_⟩
  rcases List.mem_append.1 hx with hx | hx
  ·exact h2' x hx
  ·rw [List.mem_singleton.1 hx]
   exact ⟨Nat.le_trans (zja 1) hs, Nat.zero_le _, fun g hg => by cases hg⟩
 split
 ·unfold zjm
  refine ⟨by simp; omega, fun x hx => ?_⟩
  rcases List.mem_or_eq_of_mem_set hx with hx | hx
  ·exact h2' x hx
  ·subst hx
   have hy : (ds.getD (ds.length - 1) zb4).Id.length ≤ n ∧ (ds.getD (ds.length - 1) zb4).Gives.length ≤ k ∧ ∀ g ∈ (ds.getD (ds.length - 1) zb4).Gives, g.Player.length ≤ n := by
    rw [List.getD_eq_getElem?_getD]
    cases hq : ds[ds.length - 1]? with
    | none => exact ⟨Nat.zero_le _, Nat.zero_le _, fun g hg => by cases hg⟩
    | some y => exact h2 y (List.mem_of_getElem? hq)
   refine ⟨hy.1, by show ((_ : List GiveS) ++ [_]).length ≤ _; rw [List.length_append]; have := hy.2.1; simp only [List.length_cons, List.length_nil]; omega, fun g hg => ?_⟩
   rcases List.mem_append.1 hg with hg | hg
   ·exact hy.2.2 g hg
   ·rw [List.mem_singleton.1 hg]; exact Nat.le_trans (zja 1) hs
 ·exact ⟨by omega, h2'⟩
theorem zsw {ds : List DealS} {s : Str} {k : Nat} (h1 : ds.length ≤ k) (h2 : ∀ x ∈ ds, x.Gives.length ≤ k) : (zen ds s).length ≤ ds.length + 1 ∧ ∀ x ∈ zen ds s, x.Gives.length ≤ k + 1 := by
 unfold zen
 split
 ·refine ⟨by simp, fun x hx => ?_⟩
  rcases List.mem_append.1 hx with hx | hx
  ·exact Nat.le_succ_of_le (h2 x hx)
  ·rw [List.mem_singleton.1 hx]; exact Nat.zero_le _
 split
 ·unfold zjm
  refine ⟨by simp, fun x hx => ?_⟩
  rcases List.mem_or_eq_of_mem_set hx with hx | hx
  ·exact Nat.le_succ_of_le (h2 x hx)
  ·subst hx
   have hy : (ds.getD (ds.length - 1) zb4).Gives.length ≤ k := by
    rw [List.getD_eq_getElem?_getD]
    cases hq : ds[ds.length - 1]? with
    | none => exact Nat.zero_le _
    | some y => exact h2 y (List.mem_of_getElem? hq)
   show ((_ : List GiveS) ++ [_]).length ≤ _
   rw [List.length_append]; simp only [List.length_cons, List.length_nil]; omega
 ·exact ⟨by omega, fun x hx => Nat.le_succ_of_le (h2 x hx)⟩
/-! the state of a reader -/
def InvD (text : Str) (done : List Str) (st : Value × List DlV) : Prop := st.2.map (·.1) = rdD done ∧ (done ≠ [] → odB (dvH text) = true ∧ st.2 ≠ []) ∧ st.2.length ≤ done.length ∧ ∀ p ∈ st.2, p.1.Gives.length ≤ done.length
/-- Whether a line is taken, by whether offers are there. -/
def okS (ds : List DlV) (s : Str) : Bool := odB s || (gvB s && !ds.isEmpty)
theorem ztY {text s : Str} {done : List Str} {st : Value × List DlV} (hq : (spl 10 text)[done.length]? = some s) (h : InvD text done st) : okS st.2 s = okT (dvH text) s := by
 obtain ⟨h1, h2, h3, _⟩ := h
 unfold okS okT
 by_cases hd : done = []
 ·have h0 : st.2 = [] := by
   have : st.2.length ≤ 0 := by rw [hd] at h3; simpa using h3
   exact List.length_eq_zero_iff.1 (by omega)
  have hs : dvH text = s := by
   unfold dvH
   rw [hd] at hq
   cases hl : spl 10 text with
   | nil => rw [hl] at hq; cases hq
   | cons a b => rw [hl] at hq; simpa using hq
  rw [h0, hs]
  cases odB s <;> simp
 ·obtain ⟨a1, a2⟩ := h2 hd
  have : st.2.isEmpty = false := by
   cases hq2 : st.2 with
   | nil => exact absurd hq2 a2
   | cons _ _ => rfl
  rw [a1, this]; rfl
theorem InvD.next {text s : Str} {done : List Str} {st st' : Value × List DlV} (hq : (spl 10 text)[done.length]? = some s) (h : InvD text done st) (hok : okS st.2 s = true) (h1 : st'.2.map (·.1) = zen (st.2.map (·.1)) s) : InvD text (done ++ [s]) st' := by
 have hT := ztY hq h
 obtain ⟨a1, a2, a3, a4⟩ := h
 have hlen : (zen (st.2.map (·.1)) s).length ≤ st.2.length + 1 ∧ 0 < (zen (st.2.map (·.1)) s).length ∧ ∀ x ∈ zen (st.2.map (·.1)) s, x.Gives.length ≤ done.length + 1 := by
  have h5 := zsw (k := done.length) (ds := st.2.map (·.1)) (s := s) (by simpa using a3) (fun x hx => by obtain ⟨p, hp, rfl⟩ := List.mem_map.1 hx; exact a4 p hp)
  refine ⟨by simpa using h5.1, ?_, h5.2⟩
  ·unfold okS at hok
   unfold zen
   cases ho : odB s with
   | true => simp
   | false =>
     rw [ho, Bool.false_or, Bool.and_eq_true] at hok
     rw [if_neg (by simp), if_pos hok.1]
     unfold zjm
     rw [List.length_set, List.length_map]
     cases hq2 : st.2 with
     | nil => rw [hq2] at hok; simp at hok
     | cons _ _ => simp
 have hl' : st'.2.length = (zen (st.2.map (·.1)) s).length := by rw [← h1, List.length_map]
 refine ⟨by rw [h1, a1, zq8], fun _ => ⟨?_, fun e => ?_⟩, ?_, fun p hp => ?_⟩
 ·by_cases hd : done = []
  ·rw [hT] at hok
   unfold okT at hok
   have hs : dvH text = s := by
    unfold dvH
    rw [hd] at hq
    cases hl : spl 10 text with
    | nil => rw [hl] at hq; cases hq
    | cons a b => rw [hl] at hq; simpa using hq
   rw [hs] at hok ⊢
   cases ho : odB s with
   | true => rfl
   | false => rw [ho] at hok; simp at hok
  ·exact (a2 hd).1
 ·rw [e] at hl'; simp at hl'; omega
 ·rw [List.length_append, List.length_cons, List.length_nil]; omega
 ·rw [List.length_append, List.length_cons, List.length_nil]
  exact hlen.2.2 p.1 (by rw [← h1]; exact List.mem_map_of_mem hp)
end
end Go.HL
section
namespace Go.HL
theorem ziw {o : List OwnerS} : ∀ (l : List GiveS) (p d : List OwnerS), p.map (·.Player) = o.map (·.Player) → zbX p l = some d → d.map (·.Player) = o.map (·.Player)
 | [], p, d, hp, h => by rw [zbX] at h; cases h; exact hp
 | g :: r, p, d, hp, h => by
   rw [zbX] at h
   cases hs : zfu p g with
   | none => rw [hs] at h; cases h
   | some q =>
     rw [hs] at h
     refine ziw r q d ?_ h
     unfold zfu at hs
     split at hs
     ·rename_i y hy
      split at hs
      ·cases hs; rw [zkH hy, hp]
      ·cases hs
     ·cases hs
theorem ziG {m : MarketS} {o : List OwnerS} {x : DealS} (h : zfq m o x.Gives = true) : (zdE o x.Gives).map (·.Player) = o.map (·.Player) := by
 unfold zfq at h
 cases hd : zbX o x.Gives with
 | none => rw [hd] at h; cases h
 | some d => unfold zdE; rw [hd]; exact ziw x.Gives o d rfl hd
end Go.HL
namespace Go.HL
def zcQ (m : MarketS) (o : List OwnerS) (l : List DealS) (a : List ReplyS) : Int := orI [zbJ m o, zdx m l, zcc m a]
theorem zla {m : MarketS} (h : zag m ≠ 0) (o : List OwnerS) (l : List DealS) (a : List ReplyS) : zcQ m o l a = zag m := by
 have h1 : zbJ m o = zag m := by rw [zbJ, if_pos h]
 unfold zcQ
 rw [h1, zkd, if_pos h]
theorem zmA {m : MarketS} (h : zag m = 0) (o : List OwnerS) (l : List DealS) (a : List ReplyS) : orI [zb0 m o, zcI m l, zcL m a] = zcQ m o l a := by
 obtain ⟨h1, h2, h3, _⟩ := ztl h o l a a
 have h4 : ¬ zag m ≠ 0 := by simp [h]
 unfold zcQ
 rw [h1, h2, show zcL m a = zcc m a by rw [zcc, if_neg h4]]
theorem zqB {m : MarketS} {o : List OwnerS} {x : DealS} (h : zfq m o x.Gives = true) : (zdE o x.Gives).length = o.length := by
 have := congrArg List.length (ziG h)
 simpa using this
end Go.HL
namespace Go.HL
end Go.HL
end
namespace Go.HL
section
/-- How an offer stands: 0 not yet, 1 open, 2 waits, 3 done, 4 refused, 5 back, 6 stopped, 7 late, 8 broken. -/
structure Dst where
 how : Int
 since : Int
 yes : List Str
 veto : List Str
def zg4 : Dst := ⟨0, 0, [], []⟩
abbrev DD := DealS × Dst
structure FS where
 o : List OwnerS
 ds : List DD
 log : List (DealS × List OwnerS)
def zbf (p : DD) (how t : Int) : DD := (p.1, ⟨how, t, p.2.yes, p.2.veto⟩)
def zcM (t : Int) (p : DD) : DD := if p.2.how = 0 ∧ p.1.From = t then (p.1, ⟨1, t, zaP p.1.By p.2.yes, p.2.veto⟩) else p
def zbU (m : MarketS) (a : ReplyS) (p : DD) : DD :=
 if p.2.how ≠ 1 ∧ p.2.how ≠ 2 then p
 else if a.Kind = 1 ∧ (zbp p.1.Gives).contains a.Team = true ∧ p.2.how = 1 then
  if ((zaP a.Team p.2.yes).length : Int) = (zbp p.1.Gives).length then (p.1, ⟨2, a.At, zaP a.Team p.2.yes, p.2.veto⟩) else (p.1, ⟨p.2.how, p.2.since, zaP a.Team p.2.yes, p.2.veto⟩)
 else if a.Kind = 2 ∧ (zbp p.1.Gives).contains a.Team = true then zbf p 4 a.At
 else if a.Kind = 4 ∧ a.Team = p.1.By then zbf p 5 a.At
 else if a.Kind = 3 ∧ (zbp p.1.Gives).contains a.Team = false ∧ p.2.how = 2 then
  if ((zaP a.Team p.2.veto).length : Int) = m.Vetoes then (p.1, ⟨6, a.At, p.2.yes, zaP a.Team p.2.veto⟩) else (p.1, ⟨p.2.how, p.2.since, p.2.yes, zaP a.Team p.2.veto⟩)
 else p
def zcK (m : MarketS) (a : ReplyS) : List DD → List DD
 | [] => []
 | p :: r => if p.1.Id = a.Offer then zbU m a p :: r else p :: zcK m a r
def zbg (m : MarketS) (t : Int) (o : List OwnerS) (p : DD) : List OwnerS × DD × List (DealS × List OwnerS) :=
 if p.2.how = 2 ∧ p.2.since + m.Wait ≤ t then
  if m.Deadline ≤ t then (o, zbf p 7 t, [])
  else if zfq m o p.1.Gives = true then (zdE o p.1.Gives, zbf p 3 t, [(p.1, zdE o p.1.Gives)])
  else (o, zbf p 8 t, [])
 else if p.2.how = 1 ∧ (p.1.To ≤ t ∨ m.Deadline ≤ t) then (o, zbf p 7 t, [])
 else (o, p, [])
def zbr (m : MarketS) (t : Int) : List OwnerS → List DD → FS
 | o, [] => ⟨o, [], []⟩
 | o, p :: r => ⟨(zbr m t (zbg m t o p).1 r).o, (zbg m t o p).2.1 :: (zbr m t (zbg m t o p).1 r).ds, (zbg m t o p).2.2 ++ (zbr m t (zbg m t o p).1 r).log⟩
def zeu (m : MarketS) (rs : List ReplyS) (ds : List DD) : List DD := rs.foldl (fun d r => zcK m r d) ds
def atL (a : List ReplyS) (t : Int) : List ReplyS := a.filter fun r => decide (r.At = t)
def stF (m : MarketS) (a : List ReplyS) (st : FS) (t : Int) : FS :=
 ⟨(zbr m t st.o (zeu m (atL a t) (st.ds.map (zcM t)))).o, (zbr m t st.o (zeu m (atL a t) (st.ds.map (zcM t)))).ds, st.log ++ (zbr m t st.o (zeu m (atL a t) (st.ds.map (zcM t)))).log⟩
def zm8 (o : List OwnerS) (l : List DealS) : FS := ⟨o, l.map fun x => (x, zg4), []⟩
/-- What all moments before one have brought. -/
def zaB (m : MarketS) (o : List OwnerS) (l : List DealS) (a : List ReplyS) : Nat → FS
 | 0 => zm8 o l
 | n + 1 => stF m a (zaB m o l a n) n
/-! the offers stay the same -/
theorem zku (t : Int) (p : DD) : (zcM t p).1 = p.1 := by unfold zcM; split <;> rfl
theorem zkt (m : MarketS) (a : ReplyS) (p : DD) : (zbU m a p).1 = p.1 := by
 unfold zbU
 split
 ·rfl
 split
 ·split <;> rfl
 split
 ·rfl
 split
 ·rfl
 split
 ·split <;> rfl
 ·rfl
theorem zj8 (m : MarketS) (a : ReplyS) : ∀ ds : List DD, (zcK m a ds).map (·.1) = ds.map (·.1)
 | [] => rfl
 | p :: r => by
   rw [zcK]
   split
   ·simp [zkt]
   ·simp [zj8 m a r]
theorem znO (m : MarketS) (t : Int) (o : List OwnerS) (p : DD) : (zbg m t o p).2.1.1 = p.1 := by
 unfold zbg
 split
 ·split
  ·rfl
  split <;> rfl
 split <;> rfl
theorem znl (m : MarketS) (t : Int) : ∀ (ds : List DD) (o : List OwnerS), (zbr m t o ds).ds.map (·.1) = ds.map (·.1)
 | [], _ => rfl
 | p :: r, o => by rw [zbr]; simp [znO, znl m t r]
theorem zkc (m : MarketS) : ∀ (rs : List ReplyS) (ds : List DD), (zeu m rs ds).map (·.1) = ds.map (·.1)
 | [], _ => rfl
 | a :: r, ds => by
   have := zkc m r (zcK m a ds)
   unfold zeu at this ⊢
   rw [List.foldl_cons, this, zj8]
theorem zlH (t : Int) (ds : List DD) : (ds.map (zcM t)).map (·.1) = ds.map (·.1) := by
 rw [List.map_map]; exact List.map_congr_left fun p _ => zku t p
theorem zsQ (m : MarketS) (a : List ReplyS) (st : FS) (t : Int) : (stF m a st t).ds.map (·.1) = st.ds.map (·.1) := by
 unfold stF; dsimp only
 rw [znl, zkc, zlH]
theorem zeM (m : MarketS) (o : List OwnerS) (l : List DealS) (a : List ReplyS) : ∀ n, (zaB m o l a n).ds.map (·.1) = l
 | 0 => by
   show (l.map fun x => (x, zg4)).map (·.1) = l
   rw [List.map_map]
   exact (List.map_congr_left (g := id) fun _ _ => rfl).trans (List.map_id l)
 | n + 1 => by rw [zaB, zsQ, zeM m o l a n]
/-! what holds of each offer after all moments before one -/
structure DInv (m : MarketS) (n : Int) (p : DD) : Prop where
 zero : p.2.how = 0 → p.2.yes = [] ∧ p.2.veto = []
 fr : p.2.how ≠ 0 → p.1.From < n
 op : p.2.how = 1 → n ≤ p.1.To ∧ n ≤ m.Deadline ∧ p.2.yes.length ≠ (zbp p.1.Gives).length ∧ p.2.veto = []
 wt : p.2.how = 2 → n ≤ p.2.since + m.Wait ∧ (p.2.veto.length : Int) ≠ m.Vetoes
 since : p.2.how ≠ 0 → 0 ≤ p.2.since ∧ p.2.since < n
/-- The same within a zba: the offers of the zba are open, but time has not passed. -/
structure DMid (m : MarketS) (n : Int) (p : DD) : Prop where
 zero : p.2.how = 0 → p.2.yes = [] ∧ p.2.veto = []
 fr : p.2.how ≠ 0 → p.1.From ≤ n
 op : p.2.how = 1 → p.2.yes.length ≠ (zbp p.1.Gives).length ∧ p.2.veto = []
 wt : p.2.how = 2 → (p.2.veto.length : Int) ≠ m.Vetoes
 since : p.2.how ≠ 0 → 0 ≤ p.2.since ∧ p.2.since ≤ n
theorem DInv.opn {m : MarketS} {n : Int} {p : DD} (hn : 0 ≤ n) (h : DInv m n p) (h2 : 2 ≤ (zbp p.1.Gives).length) : DMid m n (zcM n p) := by
 unfold zcM
 split
 ·rename_i hc
  obtain ⟨h0, h1⟩ := hc
  obtain ⟨hy, hv⟩ := h.zero h0
  refine ⟨fun e => by (simp [zbf] at e), fun _ => by (dsimp only; omega), fun _ => ⟨?_, hv⟩, fun e => by (simp [zbf] at e), fun _ => by (dsimp only; omega)⟩
  dsimp only
  rw [hy]
  have : (zaP p.1.By ([] : List Str)).length = 1 := rfl
  omega
 ·exact ⟨h.zero, fun e => by (have := h.fr e; omega), fun e => ⟨(h.op e).2.2.1, (h.op e).2.2.2⟩, fun e => (h.wt e).2, fun e => by (have := h.since e; omega)⟩
theorem DMid.ans {m : MarketS} {n : Int} {p : DD} {a : ReplyS} (hn : 0 ≤ n) (ha : a.At = n) (hv : 1 ≤ m.Vetoes) (h : DMid m n p) : DMid m n (zbU m a p) := by
 unfold zbU
 split
 ·exact h
 rename_i hh
 have h0 : p.2.how ≠ 0 := fun e => hh ⟨by omega, by omega⟩
 have hf := h.fr h0
 have hs := h.since h0
 split
 ·rename_i hc
  obtain ⟨_, _, h1⟩ := hc
  obtain ⟨o1, o2⟩ := h.op h1
  split
  ·refine ⟨fun e => by (simp [zbf] at e), fun _ => hf, fun e => by (simp [zbf] at e), fun _ => ?_, fun _ => by (dsimp only; omega)⟩
   dsimp only; rw [o2]; simp; omega
  ·rename_i hl
   exact ⟨fun e => absurd e h0, fun _ => hf, fun _ => ⟨by (dsimp only at hl ⊢; omega), o2⟩, fun e => by (dsimp only at e; omega), fun _ => hs⟩
 split
 ·exact ⟨fun e => by (simp [zbf] at e), fun _ => hf, fun e => by (simp [zbf] at e), fun e => by (simp [zbf] at e), fun _ => by (unfold zbf; dsimp only; omega)⟩
 split
 ·exact ⟨fun e => by (simp [zbf] at e), fun _ => hf, fun e => by (simp [zbf] at e), fun e => by (simp [zbf] at e), fun _ => by (unfold zbf; dsimp only; omega)⟩
 split
 ·rename_i hc
  obtain ⟨_, _, h2⟩ := hc
  split
  ·exact ⟨fun e => by (simp [zbf] at e), fun _ => hf, fun e => by (simp [zbf] at e), fun e => by (simp [zbf] at e), fun _ => by (dsimp only; omega)⟩
  ·rename_i hl
   exact ⟨fun e => absurd e h0, fun _ => hf, fun e => by (dsimp only at e; omega), fun _ => hl, fun _ => hs⟩
 ·exact h
theorem DMid.pas {m : MarketS} {n : Int} {p : DD} {o : List OwnerS} (hn : 0 ≤ n) (h : DMid m n p) : DInv m (n + 1) (zbg m n o p).2.1 := by
 have key : ∀ k : Int, 3 ≤ k → p.2.how ≠ 0 → DInv m (n + 1) (zbf p k n) := fun k hk h0 =>
  ⟨fun e => by (unfold zbf at e; dsimp only at e; omega), fun _ => by (have := h.fr h0; unfold zbf; dsimp only; omega), fun e => by (unfold zbf at e; dsimp only at e; omega), fun e => by (unfold zbf at e; dsimp only at e; omega), fun _ => by (unfold zbf; dsimp only; omega)⟩
 unfold zbg
 split
 ·rename_i hc
  split
  ·exact key 7 (by omega) (by omega)
  split
  ·exact key 3 (by omega) (by omega)
  ·exact key 8 (by omega) (by omega)
 rename_i h2
 split
 ·exact key 7 (by omega) (by omega)
 rename_i h1
 refine ⟨h.zero, fun e => by (have := h.fr e; dsimp only; omega), fun e => ⟨?_, ?_, (h.op e).1, (h.op e).2⟩, fun e => ⟨?_, h.wt e⟩, fun e => by (have := h.since e; dsimp only; omega)⟩ <;> dsimp only at * <;> omega
def zgB (P : DD → Prop) (ds : List DD) : Prop := ∀ p ∈ ds, P p
theorem znb {P : DD → Prop} {m : MarketS} {a : ReplyS} (hp : ∀ p, P p → P (zbU m a p)) : ∀ {ds : List DD}, zgB P ds → zgB P (zcK m a ds)
 | [], h => h
 | p :: r, h => by
   have hr := znb hp (ds := r) fun q hq => h q (List.mem_cons_of_mem p hq)
   rw [zcK]
   split
   ·intro q hq
    rcases List.mem_cons.1 hq with rfl | hq
    ·exact hp _ (h p (by simp))
    ·exact h q (List.mem_cons_of_mem p hq)
   ·intro q hq
    rcases List.mem_cons.1 hq with rfl | hq
    ·exact h _ (by simp)
    ·exact hr q hq
theorem zka {P : DD → Prop} {m : MarketS} : ∀ {rs : List ReplyS} {ds : List DD}, (∀ a ∈ rs, ∀ p, P p → P (zbU m a p)) → zgB P ds → zgB P (zeu m rs ds)
 | [], _, _, h => h
 | a :: r, ds, hp, h => by
   have := zka (m := m) (rs := r) (ds := zcK m a ds) (fun x hx => hp x (List.mem_cons_of_mem a hx)) (znb (hp a (by simp)) h)
   exact this
theorem znZ {P Q : DD → Prop} {m : MarketS} {t : Int} (hp : ∀ o p, P p → Q (zbg m t o p).2.1) : ∀ {ds : List DD} {o : List OwnerS}, zgB P ds → zgB Q (zbr m t o ds).ds
 | [], _, _ => fun q hq => by cases hq
 | p :: r, o, h => by
   have hr := znZ hp (ds := r) (o := (zbg m t o p).1) fun q hq => h q (List.mem_cons_of_mem p hq)
   rw [zbr]
   intro q hq
   rcases List.mem_cons.1 hq with rfl | hq
   ·exact hp o p (h p (by simp))
   ·exact hr q hq
/-- What a right market and right offers give. -/
structure FOk (m : MarketS) (l : List DealS) : Prop where
 veto : 1 ≤ m.Vetoes
 two : ∀ x ∈ l, 2 ≤ (zbp x.Gives).length
def At0 (m : MarketS) (l : List DealS) (n : Int) (p : DD) : Prop := DInv m n p ∧ p.1 ∈ l
theorem zga {m : MarketS} {o : List OwnerS} {l : List DealS} {a : List ReplyS} (h : FOk m l) : ∀ n : Nat, zgB (At0 m l n) (zaB m o l a n).ds
 | 0 => fun p hp => by
   unfold zaB zm8 at hp
   obtain ⟨x, hx, rfl⟩ := List.mem_map.1 hp
   exact ⟨⟨fun _ => ⟨rfl, rfl⟩, fun e => absurd rfl e, fun e => by (simp [zg4] at e), fun e => by (simp [zg4] at e), fun e => absurd rfl e⟩, hx⟩
 | n + 1 => by
   have ih := zga (o := o) (a := a) h n
   rw [zaB]
   have h1 : zgB (fun p => DMid m n p ∧ p.1 ∈ l) ((zaB m o l a n).ds.map (zcM n)) := fun p hp => by
    obtain ⟨q, hq, rfl⟩ := List.mem_map.1 hp
    obtain ⟨i1, i2⟩ := ih q hq
    exact ⟨i1.opn (by omega) (h.two _ i2), by rw [zku]; exact i2⟩
   have h2 := zka (m := m) (rs := atL a n) (P := fun p => DMid m n p ∧ p.1 ∈ l) (fun r hr p hp => by
    unfold atL at hr
    obtain ⟨_, hat⟩ := List.mem_filter.1 hr
    exact ⟨hp.1.ans (by omega) (by simpa using hat) h.veto, by rw [zkt]; exact hp.2⟩) h1
   have h3 := znZ (m := m) (t := n) (Q := fun p => DInv m (n + 1) p ∧ p.1 ∈ l) (o := (zaB m o l a n).o) (fun o p hp => ⟨hp.1.pas (by omega), by rw [znO]; exact hp.2⟩) h2
   intro p hp
   obtain ⟨h4, h5⟩ := h3 p hp
   have e : ((n + 1 : Nat) : Int) = (n : Int) + 1 := by omega
   refine ⟨?_, h5⟩; rw [e]; exact h4
/-! moments that bring nothing -/
def zjp (m : MarketS) (a : List ReplyS) (ds : List DD) (t : Int) : Prop :=
 t ≠ m.Deadline ∧ (∀ r ∈ a, r.At ≠ t) ∧ ∀ p ∈ ds, p.1.From ≠ t ∧ p.1.To ≠ t ∧ (p.2.how = 2 → p.2.since + m.Wait ≠ t)
theorem zle {m : MarketS} {t : Int} : ∀ (ds : List DD) (o : List OwnerS), (∀ p ∈ ds, ∀ o, zbg m t o p = (o, p, [])) → zbr m t o ds = ⟨o, ds, []⟩
 | [], _, _ => rfl
 | p :: r, o, h => by
   have hp := h p (by simp) o
   have ih := zle r o fun q hq => h q (List.mem_cons_of_mem p hq)
   rw [zbr, hp]
   dsimp only
   rw [ih]; rfl
theorem zpz {m : MarketS} {a : List ReplyS} {st : FS} {t : Int} (hi : zgB (DInv m t) st.ds) (hq : zjp m a st.ds t) : stF m a st t = st := by
 obtain ⟨q1, q2, q3⟩ := hq
 have e1 : st.ds.map (zcM t) = st.ds := by
  conv => rhs; rw [← List.map_id st.ds]
  refine List.map_congr_left fun p hp => ?_
  unfold zcM
  rw [if_neg fun hc => (q3 p hp).1 hc.2]; rfl
 have e2 : atL a t = [] := by
  unfold atL
  rw [List.filter_eq_nil_iff]
  intro r hr
  simpa using q2 r hr
 have e3 : zbr m t st.o st.ds = ⟨st.o, st.ds, []⟩ := zle _ _ fun p hp o => by
  have h := hi p hp
  obtain ⟨a1, a2, a3⟩ := q3 p hp
  unfold zbg
  rw [if_neg, if_neg]
  ·rintro ⟨h1, h2⟩
   have := h.op h1
   omega
  ·rintro ⟨h1, h2⟩
   have := h.wt h1
   have := a3 h1
   omega
 unfold stF
 rw [e1, e2]
 show (⟨(zbr m t st.o st.ds).o, (zbr m t st.o st.ds).ds, st.log ++ (zbr m t st.o st.ds).log⟩ : FS) = st
 rw [e3]; simp
/-- Through moments that bring nothing all stays. -/
theorem zl0 {m : MarketS} {o : List OwnerS} {l : List DealS} {a : List ReplyS} (h : FOk m l) {q : Nat} : ∀ k : Nat, (∀ t : Nat, q ≤ t → t < q + k → zjp m a (zaB m o l a q).ds t) → zaB m o l a (q + k) = zaB m o l a q
 | 0, _ => rfl
 | k + 1, hk => by
   have ih := zl0 h k fun t h1 h2 => hk t h1 (by omega)
   rw [show q + (k + 1) = (q + k) + 1 by omega, zaB]
   have hi : zgB (DInv m ((q + k : Nat) : Int)) (zaB m o l a (q + k)).ds := fun p hp => (zga h (q + k) p hp).1
   rw [zpz hi, ih]
   rw [ih]
   exact hk (q + k) (by omega) (by omega)
theorem znD {m : MarketS} {o : List OwnerS} {l : List DealS} {a : List ReplyS} (h : FOk m l) {q n : Nat} (hn : q ≤ n) (hk : ∀ t : Nat, q ≤ t → t < n → zjp m a (zaB m o l a q).ds t) : zaB m o l a n = zaB m o l a q := by
 have := zl0 (o := o) (a := a) h (q := q) (n - q) (fun t h1 h2 => hk t h1 (by omega))
 rwa [show q + (n - q) = n by omega] at this
end
section
theorem zrm {α : Type} {M : List α} {i : Nat} {m m' : α} (h : M[i]? = some m) : ([m'] ++ M.eraseIdx i).Perm (M.set i m') := (zj7 m' h).symm
/-- A call that changes one owned object: it stays at its place. -/
theorem zdc [Tracks] {P : Program} {e : Env} {dst : Option Tmp} {ty : TypeId} {pos : String} {af : Array Edge} {g : Option (Nat × Bool)} {M : List MObj} {K : HVal → List MObj → Prop} {f : FuncId} {args : Array Operand} {ats : Array TypeId}
 {hs hs' : List HVal} {i : Nat} {m m' : MObj} {h : HVal} (hc : Callable P f) (ha : zdb e args.toList = some hs) (hw : WeakL hs hs') (hm : M[i]? = some m)
 (hp : Con P f hs' [m] fun x M' => x = h ∧ M' = [m']) (hk : K h (M.set i m')) : EOp P e M ⟨dst, .call ⟨.value (.func f), args, ats⟩, ty, pos, af, g⟩ K := by
 refine EOp.post_ghost (zd hc ha hw hm hp ?_)
 rintro _ _ ⟨rfl, rfl⟩
 exact ⟨M.set i m', fun J F w hs => hs.perm ((zrm hm).append_right F), hk⟩
structure DV where
 p : DD
 b : Nat
 my : Nat
 mv : Nat
def cD (d : DV) : List HVal := [.str d.p.1.Id, .str d.p.1.By, .int .i64 d.p.1.From, .int .i64 d.p.1.To, zlw d.p.1.Gives, .int .i64 d.p.2.how, .int .i64 d.p.2.since, eSs (zbp d.p.1.Gives), .raw (.map (some d.my)), .raw (.map (some d.mv))]
def o3 (d : DV) : List MObj := [.cells d.b (cD d), .map d.my (sk (za8 d.p.2.yes)), .map d.mv (sk (za8 d.p.2.veto))]
def flD (E : List DV) : List MObj := E.flatMap o3
abbrev pD (d : DV) : HVal := .raw (.pointer (some ⟨d.b, 0, none⟩))
def FL (bf : Nat) (m : MarketS) (o : List OwnerS) (fn : HVal) (E : List DV) : List MObj := .cells bf [.vptr (zn (zaM m)) 0, .slice 1 (E.map pD), zbe o, fn] :: flD E
theorem zhj : ∀ {E : List DV} {k j : Nat} {d : DV}, E[k]? = some d → j < 3 → (flD E)[3 * k + j]? = (o3 d)[j]?
 | [], k, j, d, h, _ => by simp at h
 | e :: r, 0, j, d, h, hj => by
   simp at h; subst h
   show (o3 e ++ flD r)[3 * 0 + j]? = _
   rw [show 3 * 0 + j = j by omega, List.getElem?_append_left (by show j < 3; exact hj)]
 | e :: r, k + 1, j, d, h, hj => by
   simp at h
   show (o3 e ++ flD r)[3 * (k + 1) + j]? = _
   rw [List.getElem?_append_right (by show 3 ≤ _; omega), show 3 * (k + 1) + j - (o3 e).length = 3 * k + j by show 3 * (k + 1) + j - 3 = _; omega]
   exact zhj h hj
theorem zoI : ∀ {E : List DV} {k j : Nat} {d d' : DV} {x : MObj}, E[k]? = some d → j < 3 → (o3 d).set j x = o3 d' → (flD E).set (3 * k + j) x = flD (E.set k d')
 | [], k, j, d, d', x, h, _, _ => by simp at h
 | e :: r, 0, j, d, d', x, h, hj, hx => by
   simp at h; subst h
   show (o3 e ++ flD r).set (3 * 0 + j) x = o3 d' ++ flD r
   rw [show 3 * 0 + j = j by omega, List.set_append_left _ _ (by show j < 3; exact hj), hx]
 | e :: r, k + 1, j, d, d', x, h, hj, hx => by
   simp at h
   show (o3 e ++ flD r).set (3 * (k + 1) + j) x = o3 e ++ flD (r.set k d')
   rw [List.set_append_right _ _ (by show 3 ≤ _; omega), show 3 * (k + 1) + j - (o3 e).length = 3 * k + j by show 3 * (k + 1) + j - 3 = _; omega, zoI h hj hx]
section
variable {bf : Nat} {m : MarketS} {o : List OwnerS} {fn : HVal} {E : List DV} {k : Nat} {d : DV} {S : List MObj}
theorem zbt (h : E[k]? = some d) : (FL bf m o fn E ++ S)[3 * k + 1]? = some (.cells d.b (cD d)) := by
 have h1 := zhj h (j := 0) (by omega)
 have h2 : (flD E)[3 * k]? = some (.cells d.b (cD d)) := h1
 show (flD E ++ S)[3 * k]? = _
 rw [List.getElem?_append_left (zK h2)]; exact h2
theorem zq1 (h : E[k]? = some d) : (FL bf m o fn E ++ S)[3 * k + 2]? = some (.map d.my (sk (za8 d.p.2.yes))) := by
 have h2 : (flD E)[3 * k + 1]? = some (.map d.my (sk (za8 d.p.2.yes))) := zhj h (j := 1) (by omega)
 show (flD E ++ S)[3 * k + 1]? = _
 rw [List.getElem?_append_left (zK h2)]; exact h2
theorem FL_v (h : E[k]? = some d) : (FL bf m o fn E ++ S)[3 * k + 3]? = some (.map d.mv (sk (za8 d.p.2.veto))) := by
 have h2 : (flD E)[3 * k + 2]? = some (.map d.mv (sk (za8 d.p.2.veto))) := zhj h (j := 2) (by omega)
 show (flD E ++ S)[3 * k + 2]? = _
 rw [List.getElem?_append_left (zK h2)]; exact h2
theorem ztj {d' : DV} (h : E[k]? = some d) (hb : d'.b = d.b) : (E.set k d').map pD = E.map pD := by
 rw [List.map_set]
 refine List.ext_getElem? fun j => ?_
 by_cases e : k = j
 ·subst e
  rw [List.getElem?_set_self (by simpa using zK h), List.getElem?_map, h]
  show some (pD d') = some (pD d)
  unfold pD; rw [hb]
 ·rw [List.getElem?_set_ne e]
theorem zlE {d' : DV} {x : MObj} {j : Nat} (h : E[k]? = some d) (hj : j < 3) (hb : d'.b = d.b) (hx : (o3 d).set j x = o3 d') : (FL bf m o fn E ++ S).set (3 * k + j + 1) x = FL bf m o fn (E.set k d') ++ S := by
 have h1 := zoI h hj hx
 have hl : 3 * k + j < (flD E).length := by
  have h2 := zhj h hj
  rcases Nat.lt_or_ge (3 * k + j) (flD E).length with q | q
  ·exact q
  ·rw [List.getElem?_eq_none q] at h2
   have : j < (o3 d).length := hj
   rw [List.getElem?_eq_getElem this] at h2; cases h2
 unfold FL
 rw [ztj h hb, ← h1]
 show _ :: ((flD E ++ S).set (3 * k + j) x) = _ :: (_ ++ S)
 rw [List.set_append_left _ _ hl]
/-- The record of an offer changes. -/
theorem zr2 {w : Dst} (h : E[k]? = some d) (hy : w.yes = d.p.2.yes) (hv : w.veto = d.p.2.veto) : (FL bf m o fn E ++ S).set (3 * k + 1) (.cells d.b (cD { d with p := (d.p.1, w) })) = FL bf m o fn (E.set k { d with p := (d.p.1, w) }) ++ S :=
 zlE (j := 0) (d' := { d with p := (d.p.1, w) }) h (by omega) rfl (by unfold o3; simp [hy, hv])
theorem zrZ {w : List Str} (h : E[k]? = some d) : (FL bf m o fn E ++ S).set (3 * k + 2) (.map d.my (sk (za8 w))) = FL bf m o fn (E.set k { d with p := (d.p.1, { d.p.2 with yes := w }) }) ++ S :=
 zlE (j := 1) (d' := { d with p := (d.p.1, { d.p.2 with yes := w }) }) h (by omega) rfl rfl
theorem zt5 {w : List Str} (h : E[k]? = some d) : (FL bf m o fn E ++ S).set (3 * k + 3) (.map d.mv (sk (za8 w))) = FL bf m o fn (E.set k { d with p := (d.p.1, { d.p.2 with veto := w }) }) ++ S :=
 zlE (j := 2) (d' := { d with p := (d.p.1, { d.p.2 with veto := w }) }) h (by omega) rfl rfl
end
/-! walks over all offers -/
def EK (f : DV → DV) (k : Nat) (E : List DV) : List DV := (E.take k).map f ++ E.drop k
theorem EK_0 (f : DV → DV) (E : List DV) : EK f 0 E = E := by simp [EK]
theorem ztz (f : DV → DV) (E : List DV) : EK f E.length E = E.map f := by simp [EK]
theorem zqz {f : DV → DV} {k : Nat} {E : List DV} {d : DV} (h : E[k]? = some d) : (EK f k E)[k]? = some d := by
 unfold EK
 have hl := zK h
 rw [List.getElem?_append_right (by simp; omega)]
 simp only [List.length_map, List.length_take, Nat.min_eq_left (Nat.le_of_lt hl), Nat.sub_self, List.getElem?_drop, Nat.add_zero]
 exact h
theorem zp0 {f : DV → DV} {k : Nat} {E : List DV} {d : DV} (h : E[k]? = some d) : (EK f k E).set k (f d) = EK f (k + 1) E := by
 unfold EK
 have hl := zK h
 rw [List.set_append_right _ _ (by simp; omega), zaF h, List.map_append, zU h]
 simp only [List.length_map, List.length_take, Nat.min_eq_left (Nat.le_of_lt hl), Nat.sub_self]
 simp
theorem zsG {f : DV → DV} {k : Nat} {E : List DV} {d : DV} (h : E[k]? = some d) (hf : f d = d) : EK f (k + 1) E = EK f k E := by
 have h1 := zp0 (f := f) h
 rw [hf] at h1
 rw [← h1]
 have hg := zqz (f := f) h
 refine List.ext_getElem? fun j => ?_
 by_cases e : k = j
 ·subst e; rw [List.getElem?_set_self (zK hg), hg]
 ·rw [List.getElem?_set_ne e]
theorem zak [Tracks] {rs : List ResultVar} {e : Env} {M : List MObj} {h : HVal} {Q : HVal → List MObj → Prop} (hr : zfQ e rs = some h) (hh : Q h M) : zg1 rs Q .normal e M :=
 ⟨e, M, Ghost.sub (Sub.refl _), h, h, hr, Weak.refl _, hh⟩
def dU (d : DV) (w : Dst) : DV := { d with p := (d.p.1, w) }
def zfM (t : Int) (d : DV) : DV := { d with p := zcM t d.p }
theorem ztr {t : Int} {d : DV} (h : d.p.2.how = 0 → ¬ d.p.1.From = t) : zfM t d = d := by
 unfold zfM zcM; rw [if_neg fun q => h q.1 q.2]
theorem zsP {bf : Nat} {m : MarketS} {o : List OwnerS} {fn : HVal} {E : List DV} {k : Nat} {d : DV} {S : List MObj} {t : Int} (h : d.p.2.how = 0 ∧ d.p.1.From = t) :
 FL bf m o fn ((E.set k (dU d ⟨1, t, d.p.2.yes, d.p.2.veto⟩)).set k { dU d ⟨1, t, d.p.2.yes, d.p.2.veto⟩ with p := ((dU d ⟨1, t, d.p.2.yes, d.p.2.veto⟩).p.1, { (dU d ⟨1, t, d.p.2.yes, d.p.2.veto⟩).p.2 with yes := zaP d.p.1.By d.p.2.yes }) }) ++ S = FL bf m o fn (E.set k (zfM t d)) ++ S := by
 rw [List.set_set]
 unfold zfM zcM
 rw [if_pos h]; rfl
end
section
def za3 (t out x : Int) : Int := if t < x then min out x else out
def zbz (m : MarketS) (t out : Int) (p : DD) : Int := if p.2.how = 2 then za3 t (za3 t (za3 t out p.1.From) p.1.To) (p.2.since + m.Wait) else za3 t (za3 t out p.1.From) p.1.To
def zcv (m : MarketS) (t : Int) (a : List ReplyS) : Int := match a with | [] => za3 t 345686400000 m.Deadline | r :: _ => za3 t (za3 t 345686400000 m.Deadline) r.At
def zct (m : MarketS) (t : Int) (a : List ReplyS) (ps : List DD) : Int := ps.foldl (zbz m t) (zcv m t a)
theorem zd7 (t out x : Int) : za3 t out x ≤ out := by unfold za3; split <;> omega
theorem zgk {t out x : Int} (h : t < out) : t < za3 t out x := by unfold za3; split <;> omega
theorem zf8 {t out x : Int} (h : t < x) : za3 t out x ≤ x := by unfold za3; rw [if_pos h]; omega
theorem zrx (m : MarketS) (t out : Int) (p : DD) : zbz m t out p ≤ out := by
 have h1 := zd7 t out p.1.From
 have h2 := zd7 t (za3 t out p.1.From) p.1.To
 have h3 := zd7 t (za3 t (za3 t out p.1.From) p.1.To) (p.2.since + m.Wait)
 unfold zbz; split <;> omega
theorem zrt {m : MarketS} {t out : Int} {p : DD} (h : t < out) : t < zbz m t out p := by
 have h2 := zgk (x := p.1.To) (zgk (x := p.1.From) h)
 unfold zbz; split
 ·exact zgk h2
 ·exact h2
theorem zsC {m : MarketS} {t out : Int} {p : DD} : (t < p.1.From → zbz m t out p ≤ p.1.From) ∧ (t < p.1.To → zbz m t out p ≤ p.1.To) ∧ (p.2.how = 2 → t < p.2.since + m.Wait → zbz m t out p ≤ p.2.since + m.Wait) := by
 have h2 := zd7 t (za3 t out p.1.From) p.1.To
 have h3 := zd7 t (za3 t (za3 t out p.1.From) p.1.To) (p.2.since + m.Wait)
 refine ⟨fun h => ?_, fun h => ?_, fun hh h => ?_⟩
 ·have h1 := zf8 (out := out) h
  unfold zbz; split <;> omega
 ·have h1 := zf8 (out := za3 t out p.1.From) h
  unfold zbz; split <;> omega
 ·unfold zbz; rw [if_pos hh]; exact zf8 h
theorem zhI (m : MarketS) (t : Int) : ∀ (ps : List DD) (out : Int), ps.foldl (zbz m t) out ≤ out
 | [], _ => Int.le_refl _
 | p :: r, out => by
   have h1 := zhI m t r (zbz m t out p)
   have h2 := zrx m t out p
   rw [List.foldl_cons]; omega
theorem zo7 {m : MarketS} {t : Int} : ∀ (ps : List DD) (out : Int), t < out → t < ps.foldl (zbz m t) out
 | [], _, h => h
 | p :: r, out, h => by rw [List.foldl_cons]; exact zo7 r _ (zrt h)
theorem zqw {m : MarketS} {t : Int} : ∀ (ps : List DD) (out : Int), ∀ p ∈ ps, (t < p.1.From → ps.foldl (zbz m t) out ≤ p.1.From) ∧ (t < p.1.To → ps.foldl (zbz m t) out ≤ p.1.To) ∧ (p.2.how = 2 → t < p.2.since + m.Wait → ps.foldl (zbz m t) out ≤ p.2.since + m.Wait)
 | [], _, p, hp => by cases hp
 | q :: r, out, p, hp => by
   rw [List.foldl_cons]
   rcases List.mem_cons.1 hp with rfl | hp
   ·obtain ⟨h1, h2, h3⟩ := zsC (m := m) (t := t) (out := out) (p := p)
    have h4 := zhI m t r (zbz m t out p)
    exact ⟨fun h => Int.le_trans h4 (h1 h), fun h => Int.le_trans h4 (h2 h), fun hh h => Int.le_trans h4 (h3 hh h)⟩
   ·exact zqw r _ p hp
theorem zj3 {m : MarketS} {t : Int} {a : List ReplyS} {ps : List DD} (h : t < 345686400000) : t < zct m t a ps ∧ zct m t a ps ≤ 345686400000 := by
 have h0 : t < zcv m t a ∧ zcv m t a ≤ 345686400000 := by
  have h1 := zd7 t 345686400000 m.Deadline
  have h2 := zgk (x := m.Deadline) h
  unfold zcv
  cases a with
  | nil => exact ⟨h2, h1⟩
  | cons r _ => have h3 := zd7 t (za3 t 345686400000 m.Deadline) r.At; exact ⟨zgk h2, by dsimp only; omega⟩
 exact ⟨zo7 ps _ h0.1, Int.le_trans (zhI m t ps _) h0.2⟩
/-- Between a zba and the next one nothing happens. -/
theorem zjY {m : MarketS} {t u : Int} {a A : List ReplyS} {ps : List DD} (h1 : t < u) (h2 : u < zct m t a ps) (hs : ∀ r ∈ A, r.At ≤ t ∨ ∃ x, a.head? = some x ∧ t < x.At ∧ x.At ≤ r.At)
 (hw : ∀ p ∈ ps, p.2.how = 2 → t < p.2.since + m.Wait) : zjp m A ps u := by
 have hle : zct m t a ps ≤ zcv m t a := zhI m t ps _
 refine ⟨fun e => ?_, fun r hr e => ?_, fun p hp => ?_⟩
 ·subst e
  have h3 := zf8 (out := 345686400000) h1
  unfold zcv at hle
  cases a with
  | nil => dsimp only at hle; omega
  | cons r _ => have h4 := zd7 t (za3 t 345686400000 m.Deadline) r.At; dsimp only at hle; omega
 ·rcases hs r hr with h | ⟨x, hx, hy, h⟩
  ·omega
  ·cases a with
   | nil => cases hx
   | cons y _ =>
     simp at hx; subst hx
     unfold zcv at hle
     dsimp only at hle
     have := zf8 (out := za3 t 345686400000 m.Deadline) hy
     omega
 ·obtain ⟨n1, n2, n3⟩ := zqw (m := m) (t := t) ps (zcv m t a) p hp
  refine ⟨fun e => ?_, fun e => ?_, fun hh e => ?_⟩
  ·have := n1 (by omega); unfold zct at h2; omega
  ·have := n2 (by omega); unfold zct at h2; omega
  ·have := n3 hh (hw p hp hh); unfold zct at h2; omega
end
end Go.HL
section
namespace Go.HL
section
variable {P : Program} {e : Env} {dst : Option Tmp} {ty : TypeId} {pos : String} {af : Array Edge} {g : Option (Nat × Bool)}
theorem zkh {t el : TypeId} (hu : P.underlying t = some (.pointer el)) (a : Option Addr) (w : World) : (Op.equal t (.pointer a) (.pointer none)).run P w = .ok a.isNone w := by
 have h : ∀ d, (Op.equalIn (d + 1) t (.pointer a) (.pointer none)).run P w = .ok a.isNone w := fun d => by
  cases a <;> simp only [Op.equalIn, Sem.run_bind, run_underlying hu, Result.andThen_ok, Sem.run_pure, Option.isNone]
 exact h 9999
end
end Go.HL
namespace Go.HL
end Go.HL
end
namespace Go.HL
section
section
variable {P : Program} {e : Env} {dst : Option Tmp} {ty : TypeId} {pos : String} {af : Array Edge} {g : Option (Nat × Bool)}
theorem zkP [Tracks] {x y : Operand} {t t' el : TypeId} {size bytes : Nat} {zero : Value} {a : Option Addr} (hf : Fits P t (.ptr el) size bytes zero) (hx : zF e x = some (.raw (.pointer a))) (hy : zF e y = some (.raw (.pointer none))) :
 POp P e ⟨dst, .binOp .eql t x y t', ty, pos, af, g⟩ (.bool a.isNone) :=
 POp.of_val fun I s w ho => by
  have h1 := (ho.one (x := x) (by simp [Op.operands]) hx).raw_inv
  have h2 := (ho.one (x := y) (by simp [Op.operands]) hy).raw_inv
  refine ⟨_, ?_, .bool _⟩
  simp [execOp, h1, h2, eqGuard, binOp, zkh hf.ptrD]
end
theorem zaX (l : List Str) : (sk (za8 l)).length = l.length := by unfold sk za8; simp
def dY (d : DV) (w : List Str) : DV := { d with p := (d.p.1, { d.p.2 with yes := w }) }
def dV (d : DV) (w : List Str) : DV := { d with p := (d.p.1, { d.p.2 with veto := w }) }
def dT (d : DV) (how t : Int) : DV := { d with p := zbf d.p how t }
def dP (d : DV) (p : DD) : DV := { d with p := p }
theorem znu {E : List DV} {k : Nat} {d : DV} (h : E[k]? = some d) : E.set k d = E := by
 refine List.ext_getElem? fun j => ?_
 by_cases e : k = j
 ·subst e; rw [List.getElem?_set_self (zK h), h]
 ·rw [List.getElem?_set_ne e]
section
variable {bf : Nat} {m : MarketS} {o : List OwnerS} {fn : HVal} {E : List DV} {k : Nat} {d : DV} {S : List MObj} {a : ReplyS}
theorem zbq {how t : Int} (h : E[k]? = some d) : (FL bf m o fn E ++ S).set (3 * k + 1) (.cells d.b (cD { d with p := zbf d.p how t })) = FL bf m o fn (E.set k (dT d how t)) ++ S := zr2 h rfl rfl
theorem zlX {x : DV} (h : E[k]? = some d) : (E.set k x)[k]? = some x := List.getElem?_set_self (zK h)
theorem zeS (h : E[k]? = some d) (h1 : ¬ d.p.2.how = 1 ∧ ¬ d.p.2.how = 2) : FL bf m o fn E ++ S = FL bf m o fn (E.set k (dP d (zbU m a d.p))) ++ S := by
 have e : zbU m a d.p = d.p := by unfold zbU; rw [if_pos h1]
 rw [e]
 show _ = FL bf m o fn (E.set k d) ++ S
 rw [znu h]
theorem zeV (h : E[k]? = some d) (h1 : ¬ (a.Kind = 1 ∧ (zbp d.p.1.Gives).contains a.Team = true ∧ d.p.2.how = 1)) (h2 : ¬ (a.Kind = 2 ∧ (zbp d.p.1.Gives).contains a.Team = true)) (h3 : ¬ (a.Kind = 4 ∧ a.Team = d.p.1.By))
 (h4 : ¬ (a.Kind = 3 ∧ (zbp d.p.1.Gives).contains a.Team = false ∧ d.p.2.how = 2)) : FL bf m o fn E ++ S = FL bf m o fn (E.set k (dP d (zbU m a d.p))) ++ S := by
 have e : zbU m a d.p = d.p := by
  unfold zbU; split
  ·rfl
  simp only [if_neg h1, if_neg h2, if_neg h3, if_neg h4]
 rw [e]
 show _ = FL bf m o fn (E.set k d) ++ S
 rw [znu h]
theorem zcF (h0 : ¬ (d.p.2.how ≠ 1 ∧ d.p.2.how ≠ 2)) (h1 : a.Kind = 1 ∧ (zbp d.p.1.Gives).contains a.Team = true ∧ d.p.2.how = 1) :
 (((zaP a.Team d.p.2.yes).length : Int) = (zbp d.p.1.Gives).length → dT (dY d (zaP a.Team d.p.2.yes)) 2 a.At = dP d (zbU m a d.p)) ∧ (¬ ((zaP a.Team d.p.2.yes).length : Int) = (zbp d.p.1.Gives).length → dY d (zaP a.Team d.p.2.yes) = dP d (zbU m a d.p)) := by
 refine ⟨fun h => ?_, fun h => ?_⟩
 ·unfold dP zbU; rw [if_neg h0, if_pos h1, if_pos h]; rfl
 ·unfold dP zbU; rw [if_neg h0, if_pos h1, if_neg h]; rfl
theorem zgT (h0 : ¬ (d.p.2.how ≠ 1 ∧ d.p.2.how ≠ 2)) (h1 : ¬ (a.Kind = 1 ∧ (zbp d.p.1.Gives).contains a.Team = true ∧ d.p.2.how = 1)) (h2 : a.Kind = 2 ∧ (zbp d.p.1.Gives).contains a.Team = true) : dT d 4 a.At = dP d (zbU m a d.p) := by
 unfold dP zbU; rw [if_neg h0, if_neg h1, if_pos h2]; rfl
theorem zeO (h0 : ¬ (d.p.2.how ≠ 1 ∧ d.p.2.how ≠ 2)) (h1 : ¬ (a.Kind = 1 ∧ (zbp d.p.1.Gives).contains a.Team = true ∧ d.p.2.how = 1)) (h2 : ¬ (a.Kind = 2 ∧ (zbp d.p.1.Gives).contains a.Team = true)) (h3 : a.Kind = 4 ∧ a.Team = d.p.1.By) : dT d 5 a.At = dP d (zbU m a d.p) := by
 unfold dP zbU; rw [if_neg h0, if_neg h1, if_neg h2, if_pos h3]; rfl
theorem zb9 (h0 : ¬ (d.p.2.how ≠ 1 ∧ d.p.2.how ≠ 2)) (h1 : ¬ (a.Kind = 1 ∧ (zbp d.p.1.Gives).contains a.Team = true ∧ d.p.2.how = 1)) (h2 : ¬ (a.Kind = 2 ∧ (zbp d.p.1.Gives).contains a.Team = true)) (h3 : ¬ (a.Kind = 4 ∧ a.Team = d.p.1.By))
 (h4 : a.Kind = 3 ∧ (zbp d.p.1.Gives).contains a.Team = false ∧ d.p.2.how = 2) :
 (((zaP a.Team d.p.2.veto).length : Int) = m.Vetoes → dT (dV d (zaP a.Team d.p.2.veto)) 6 a.At = dP d (zbU m a d.p)) ∧ (¬ ((zaP a.Team d.p.2.veto).length : Int) = m.Vetoes → dV d (zaP a.Team d.p.2.veto) = dP d (zbU m a d.p)) := by
 refine ⟨fun h => ?_, fun h => ?_⟩
 ·unfold dP zbU; rw [if_neg h0, if_neg h1, if_neg h2, if_neg h3, if_pos h4, if_pos h]; rfl
 ·unfold dP zbU; rw [if_neg h0, if_neg h1, if_neg h2, if_neg h3, if_pos h4, if_neg h]; rfl
end
theorem zo2 {m : MarketS} {a : ReplyS} : ∀ {E : List DV} {k : Nat} {d : DV}, E[k]? = some d → d.p.1.Id = a.Offer → (∀ (j : Nat) (z : DV), j < k → E[j]? = some z → z.p.1.Id ≠ a.Offer) → zcK m a (E.map (·.p)) = (E.set k (dP d (zbU m a d.p))).map (·.p)
 | [], k, d, h, _, _ => by simp at h
 | x :: r, 0, d, h, hi, _ => by
   simp at h; subst h
   show zcK m a (x.p :: r.map (·.p)) = _
   rw [zcK, if_pos hi]; rfl
 | x :: r, k + 1, d, h, hi, hl => by
   simp at h
   have h0 := hl 0 x (by omega) rfl
   have ih := zo2 (m := m) (a := a) h hi fun j z hj hz => hl (j + 1) z (by omega) (by simpa using hz)
   show zcK m a (x.p :: r.map (·.p)) = x.p :: (r.set k (dP d (zbU m a d.p))).map (·.p)
   rw [zcK, if_neg h0, ih]
theorem zmt {m : MarketS} {a : ReplyS} : ∀ {E : List DV}, (∀ z ∈ E, z.p.1.Id ≠ a.Offer) → zcK m a (E.map (·.p)) = E.map (·.p)
 | [], _ => rfl
 | x :: r, h => by
   show zcK m a (x.p :: r.map (·.p)) = _
   rw [zcK, if_neg (h x (by simp)), zmt fun z hz => h z (List.mem_cons_of_mem x hz)]; rfl
theorem zs8 (E : List DV) (s : Str) : (∀ z ∈ E, z.p.1.Id ≠ s) ∨ ∃ (k : Nat) (d : DV), E[k]? = some d ∧ d.p.1.Id = s ∧ ∀ (j : Nat) (z : DV), j < k → E[j]? = some z → z.p.1.Id ≠ s := by
 induction E with
 | nil => exact .inl fun z hz => by cases hz
 | cons x r ih =>
   by_cases hx : x.p.1.Id = s
   ·exact .inr ⟨0, x, rfl, hx, fun j z hj => by omega⟩
   ·rcases ih with h | ⟨k, d, h1, h2, h3⟩
    ·refine .inl fun z hz => ?_
     rcases List.mem_cons.1 hz with rfl | hz
     ·exact hx
     ·exact h z hz
    ·refine .inr ⟨k + 1, d, by simpa using h1, h2, fun j z hj hz => ?_⟩
     cases j with
     | zero => simp at hz; subst hz; exact hx
     | succ j => exact h3 j z (by omega) (by simpa using hz)
end
end Go.HL
