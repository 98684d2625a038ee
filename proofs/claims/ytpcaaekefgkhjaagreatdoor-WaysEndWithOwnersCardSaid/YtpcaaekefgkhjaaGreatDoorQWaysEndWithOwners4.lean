/- Part 4 of the proof: a program logic, contracts of functions and plain facts; no conditions. -/
import Derived.Test.YtpcaaekefgkhjaaGreatDoorQWaysEndWithOwners3
import Derived.KernelRfl
import Derived.Lib.AtoiBound
import Derived.Lib.ItoaMem
import Derived.Lib.Join
import Derived.Lib.SplitLaws
import Derived.Lib.Strings
import Derived.Shelf.Slices.CompactI
import Derived.Shelf.Slices.In.SortNone
import Derived.Shelf.Sort.Plain
set_option linter.unusedVariables false
set_option linter.unusedSimpArgs false
namespace Go.Proofs.YtpcaaekefgkhjaaGreatDoor
set_option maxRecDepth 100000
set_option linter.unusedVariables false
set_option linter.unusedSimpArgs false
section
open Go.HL
/-- benchwarmer/trade.isTeam -/
theorem zdw [Tracks] {m : MarketS} {t : Str} (hm : MarketOk m) : ConP Tryz.prog 51 [.vptr (zn (zaM m)) 0, .str t] (.bool (m.Teams.contains t)) := by
 refine Con.of_body Tryz.func51 rfl Tryz.ntmps51 rfl rfl ?_
 refine za ?_
 refine das rfl ?_
 refine dn ?_
 refine za ?_
 refine dmv rfl ?_
 refine dq ((by first | exact zx rfl | exact zp rfl)) ?_
 refine dq (zb zT rfl zP (by decide) rfl) ?_
 refine dq (zg zP rfl rfl rfl) ?_
 refine dmv rfl ?_
 refine dq (zo ca84 rfl (WeakL.refl _) (zev (l := m.Teams) (s := t) (by have := hm.len; omega) hm.sorted)) ?_
 refine dmv rfl ?_
 refine dq (z6 rfl rfl) ?_
 refine dq (z6 rfl rfl) ?_
 refine das rfl ?_
 refine das rfl ?_
 refine dn ?_
 refine za ?_
 refine dmv rfl ?_
 refine das rfl ?_
 refine dn ?_
 refine zl ?_
 refine zD rfl ?_
 rfl

/-- benchwarmer/trade.CheckMarket -/
theorem zd3 [Tracks] {m : MarketS} (ht : m.Teams.length ≤ 1000000) : ConP Tryz.prog 64 [zaM m] (.int .i64 (zaf m)) := by
 refine Con.of_body Tryz.func64 rfl Tryz.ntmps64 rfl rfl ?_
 refine za ?_
 refine dq (zas rfl rfl) ?_
 refine das rfl ?_
 refine dn ?_
 refine zj ?_
 refine zq ?_
 refine za ?_
 refine dq (zb zT rfl zP (by decide) rfl) ?_
 refine dq (zg zP rfl rfl rfl) ?_
 refine dq (zK zP rfl) ?_
 refine dq (zau rfl rfl) ?_
 refine das rfl ?_
 refine dn ?_
 refine zi rfl (fun h1 => ?_) (fun h2 => ?_)
 ·try simp at h1
  refine za ?_
  refine das rfl ?_
  refine dn ?_
  refine zl ?_
  refine zD rfl ?_
  show HVal.int .i64 _ = _
  first
  | (rw [zaf, if_pos (by simpa using h1)]; done)
  | (rw [zaf, if_neg (by simpa using h2), if_pos (by omega)]; done)
  | (rw [zaf, if_neg (by simpa using h2), if_neg (by omega)]; simp_all; done)
 ·try simp at h2
  refine za ?_
  refine dq (zb zT rfl zP (by decide) rfl) ?_
  refine dq (zg zP rfl rfl rfl) ?_
  refine dq (zK zP rfl) ?_
  refine dq (zae rfl rfl) ?_
  refine das rfl ?_
  refine dn ?_
  refine zi rfl (fun h3 => ?_) (fun h4 => ?_)
  ·try simp at h3
   refine za ?_
   refine das rfl ?_
   refine dn ?_
   refine zl ?_
   refine zD rfl ?_
   show HVal.int .i64 _ = _
   first
   | (rw [zaf, if_pos (by simpa using h1)]; done)
   | (rw [zaf, if_neg (by simpa using h2), if_pos (by omega)]; done)
   | (rw [zaf, if_neg (by simpa using h2), if_neg (by omega)]; simp_all; done)
  ·try simp at h4
   refine zm ?_
   refine zy ?_
   refine zh ?_
   refine zj ?_
   refine za ?_
   refine dq (zb zT rfl zP (by decide) rfl) ?_
   refine dq (zg zP rfl rfl rfl) ?_
   refine dq (zo zsE rfl (WeakL.refl _) (zix (by first | assumption | omega | (simp; omega) | simp_all))) ?_
   refine das rfl ?_
   refine dn ?_
   refine za ?_
   refine dmv rfl ?_
   refine dq (zaD rfl rfl) ?_
   refine dn ?_
   refine zi rfl (fun h5 => ?_) (fun h6 => ?_)
   ·try simp at h5
    refine za ?_
    refine dmv rfl ?_
    refine das rfl ?_
    refine dn ?_
    refine zl ?_
    refine zD rfl ?_
    show HVal.int .i64 _ = _
    first
    | (rw [zaf, if_pos (by simpa using h1)]; done)
    | (rw [zaf, if_neg (by simpa using h2), if_pos (by omega)]; done)
    | (rw [zaf, if_neg (by simpa using h2), if_neg (by omega)]; simp_all; done)
   ·try simp at h6
    refine zm ?_
    refine zh ?_
    refine zj ?_
    refine za ?_
    refine dq (zb zT rfl ty3 (by decide) rfl) ?_
    refine dq (zg ty3 rfl rfl rfl) ?_
    refine dq (zo zdD rfl (WeakL.refl _) zbc) ?_
    refine dmv rfl ?_
    refine dg rfl rfl (fun hc => ⟨_, OpenTo.refl _, zb zT rfl ty3 (by decide) rfl⟩) ?_
    refine dg rfl rfl (fun hc => ⟨_, OpenTo.upd (t := 24) rfl (by first | exact hc | simp_all) (OpenTo.refl _), zg ty3 rfl rfl rfl⟩) ?_
    refine dg rfl rfl (fun hc => ⟨_, OpenTo.upd (t := 25) rfl (by first | exact hc | simp_all) (OpenTo.refl _), zo zdD rfl (WeakL.refl _) zbc⟩) ?_
    refine dq (zA rfl (.inl rfl) (.inr ⟨_, rfl, fun h => by simp_all⟩)) ?_
    refine dmv rfl ?_
    refine dg rfl rfl (fun hc => ⟨_, OpenTo.refl _, zb zT rfl ty3 (by decide) rfl⟩) ?_
    refine dg rfl rfl (fun hc => ⟨_, OpenTo.upd (t := 29) rfl (by first | exact hc | simp_all) (OpenTo.refl _), zg ty3 rfl rfl rfl⟩) ?_
    refine dg rfl rfl (fun hc => ⟨_, OpenTo.upd (t := 30) rfl (by first | exact hc | simp_all) (OpenTo.refl _), zo zdD rfl (WeakL.refl _) zbc⟩) ?_
    refine dq (zA rfl (.inl rfl) (.inr ⟨_, rfl, fun h => by simp_all⟩)) ?_
    refine dmv rfl ?_
    refine dg rfl rfl (fun hc => ⟨_, OpenTo.refl _, zb zT rfl ty3 (by decide) rfl⟩) ?_
    refine dg rfl rfl (fun hc => ⟨_, OpenTo.upd (t := 34) rfl (by first | exact hc | simp_all) (OpenTo.refl _), zg ty3 rfl rfl rfl⟩) ?_
    refine dg rfl rfl (fun hc => ⟨_, OpenTo.refl _, zb zT rfl ty3 (by decide) rfl⟩) ?_
    refine dg rfl rfl (fun hc => ⟨_, OpenTo.upd (t := 36) rfl (by first | exact hc | simp_all) (OpenTo.refl _), zg ty3 rfl rfl rfl⟩) ?_
    refine dg rfl rfl (fun hc => ⟨_, OpenTo.upd (t := 37) rfl (by first | exact hc | simp_all) (OpenTo.upd (t := 35) rfl (by first | exact hc | simp_all) (OpenTo.refl _)), zo zdD rfl (WeakL.refl _) zbc⟩) ?_
    refine dq (zA rfl (.inl rfl) (.inr ⟨_, rfl, fun h => by simp_all⟩)) ?_
    refine dmv rfl ?_
    refine dg rfl rfl (fun hc => ⟨_, OpenTo.refl _, zb zT rfl ty3 (by decide) rfl⟩) ?_
    refine dg rfl rfl (fun hc => ⟨_, OpenTo.upd (t := 41) rfl (by first | exact hc | simp_all) (OpenTo.refl _), zg ty3 rfl rfl rfl⟩) ?_
    refine dg rfl rfl (fun hc => ⟨_, OpenTo.upd (t := 42) rfl (by first | exact hc | simp_all) (OpenTo.refl _), zae rfl rfl⟩) ?_
    refine dq (zA rfl (.inl rfl) (.inr ⟨_, rfl, fun h => by simp_all⟩)) ?_
    refine dn ?_
    refine zi rfl (fun h7 => ?_) (fun h8 => ?_)
    ·try simp at h7
     refine za ?_
     refine das rfl ?_
     refine dn ?_
     refine zl ?_
     refine zD rfl ?_
     show HVal.int .i64 _ = _
     first
     | (rw [zaf, if_pos (by simpa using h1)]; done)
     | (rw [zaf, if_neg (by simpa using h2), if_pos (by omega)]; done)
     | (rw [zaf, if_neg (by simpa using h2), if_neg (by omega)]; simp_all; done)
    ·try simp at h8
     refine zm ?_
     refine zh ?_
     refine za ?_
     refine das rfl ?_
     refine dn ?_
     refine zl ?_
     refine zD rfl ?_
     show HVal.int .i64 _ = _
     first
     | (rw [zaf, if_pos (by simpa using h1)]; done)
     | (rw [zaf, if_neg (by simpa using h2), if_pos (by omega)]; done)
     | (rw [zaf, if_neg (by simpa using h2), if_neg (by omega)]; simp_all; done)

/-- benchwarmer/trade.within$1 -/
theorem zkt [Tracks] {m : MarketS} {o : List OwnerS} {L : zc6} {t : Str} (hL : ∀ t, lkI L t = .int .i64 (zdC o t)) : ConP Tryz.prog 110 [.str t, .vptr [hsm L] 0, .vptr [.vptr (zn (zaM m)) 0] 0] (.bool (out (zdC o t) m.Least m.Most)) := by
 refine Con.of_body Tryz.func110 rfl Tryz.ntmps110 rfl rfl ?_
 refine za ?_
 refine das rfl ?_
 refine dn ?_
 refine zaF (fun _ => True) [] mixed ?_
 refine ahp 0 rfl rfl (by kernel_rfl) (by kernel_rfl) (zg zd4 rfl rfl rfl) ?_
 refine ahp 1 rfl rfl (by kernel_rfl) (by kernel_rfl) (zf rfl) ?_
 refine ahp 2 rfl rfl (by kernel_rfl) (by kernel_rfl) (zfn (znt zd4 ty9 ty3 rfl rfl) (show _ = _ from hL t)) ?_
 refine ahp 3 rfl rfl (by kernel_rfl) (by kernel_rfl) (zg zd0 rfl rfl rfl) ?_
 refine ahp 4 rfl rfl (by kernel_rfl) (by kernel_rfl) ((by first | exact zx rfl | exact zp rfl)) ?_
 refine ahp 5 rfl rfl (by kernel_rfl) (by kernel_rfl) (zb zT rfl ty3 (by decide) rfl) ?_
 refine ahp 6 rfl rfl (by kernel_rfl) (by kernel_rfl) (zg ty3 rfl rfl rfl) ?_
 refine ahp 7 rfl rfl (by kernel_rfl) (by kernel_rfl) (zg zd0 rfl rfl rfl) ?_
 refine ahp 8 rfl rfl (by kernel_rfl) (by kernel_rfl) ((by first | exact zx rfl | exact zp rfl)) ?_
 refine ahp 9 rfl rfl (by kernel_rfl) (by kernel_rfl) (zb zT rfl ty3 (by decide) rfl) ?_
 refine ahp 10 rfl rfl (by kernel_rfl) (by kernel_rfl) (zg ty3 rfl rfl rfl) ?_
 refine ahp 11 rfl rfl (by kernel_rfl) (by kernel_rfl) (zo zdD rfl (WeakL.refl _) zbc) ?_
 refine ahp 12 rfl rfl (by kernel_rfl) (by kernel_rfl) (zar rfl) ?_
 refine ahz (by kernel_rfl) ?_
 refine zl ?_
 refine zD rfl ?_
 rfl

/-- benchwarmer/trade.within -/
theorem zhv [Tracks] {m : MarketS} {o : List OwnerS} (ht : m.Teams.length ≤ 1000000) (ho : o.length ≤ 1000000) : ConP Tryz.prog 66 [.vptr (zn (zaM m)) 0, za8 o] (.bool (zfd m o)) := by
 refine Con.of_body Tryz.func66 rfl Tryz.ntmps66 rfl rfl ?_
 refine za ?_
 refine dq (zas rfl rfl) ?_
 refine das rfl ?_
 refine dn ?_
 refine za ?_
 refine de rfl (zbx fun m8 => ?_)
 refine de rfl (zY zd4 rfl fun b5 => ?_)
 refine de0 (zad zd4 rfl rfl rfl rfl rfl ?_)
 refine dn ?_
 refine zL (Ghost.fc0 5 rfl) ?_
 refine zj ?_
 refine za ?_
 refine dmv rfl ?_
 refine dq (zK zaN rfl) ?_
 refine dmv rfl ?_
 refine dn ?_
 refine zq ?_
 refine zbi [7, 11, 12, 13, 14, 15, 16, 17, 18, 19, 20] (fun (k : Nat) (L : zc6) => [(11, .int .i64 k)]) (fun (k : Nat) (L : zc6) => [.map m8 (sk L)]) (fun (k : Nat) (L : zc6) => k ≤ o.length ∧ (∀ t, lkI L t = .int .i64 (zdC (o.take k) t))) (fun (k : Nat) (L : zc6) => o.length - k) (0) ([]) ?_ ?_ ?_ ?_
 ·exact ⟨Nat.zero_le _, fun t => by simp [lkI, zav, zdC]⟩
 ·exact ⟨rfl, trivial⟩
 ·exact zR rfl
 ·intro k L hinv
  obtain ⟨hk, hL⟩ := hinv
  refine za ?_
  refine dq (zS rfl rfl) ?_
  refine dn ?_
  refine zj ?_
  refine zi rfl (fun h1 => ?_) (fun h2 => ?_)
  ·try simp at h1
   obtain ⟨x, hx⟩ : ∃ x, o[k]? = some x := ⟨_, List.getElem?_eq_getElem h1⟩
   have hdx := zU hx
   have hcb := zpb (o.take k) x.Team
   rw [List.length_take] at hcb
   refine zm ?_
   refine zh ?_
   refine zj ?_
   refine zq ?_
   refine za ?_
   refine dq (zW zaN zaj rfl rfl rfl (by first | assumption | simp_all)) ?_
   refine dq (zH zaj rfl rfl rfl rfl) ?_
   refine de rfl (zY zaj rfl fun b7 => ?_)
   refine de0 (zad zaj rfl rfl rfl rfl rfl ?_)
   refine dn ?_
   refine zL (Ghost.fc0 7 rfl) ?_
   refine zC ?_
   refine dq (zg zd4 rfl rfl rfl) ?_
   refine dq (zb zaj rfl ty9 (by decide) rfl) ?_
   refine dq (zg ty9 rfl rfl rfl) ?_
   refine de rfl (zoI (i := 0) zd4 ty9 ty3 rfl rfl rfl (hL x.Team) ?_)
   refine dq (zB rfl rfl (by omega) (by omega)) ?_
   refine de0 (zfY (i := 0) zd4 ty9 rfl rfl rfl rfl ?_)
   refine dn ?_
   refine zy ?_
   refine zh ?_
   refine zC ?_
   refine dq (zB rfl rfl (by omega) (by omega)) ?_
   refine dmv rfl ?_
   refine dn ?_
   refine ⟨k + 1, _, ?_, ?_, ⟨rfl, trivial⟩, (by repeat (first | exact zt | refine zw rfl ?_ | refine zu rfl rfl ?_)), zR rfl⟩
   ·refine ⟨by omega, fun t => ?_⟩
    rw [zl4, zkw o t k x hx]
    by_cases e : t = x.Team
    ·rw [if_pos e, if_pos e.symm, e]
    ·rw [if_neg e, if_neg (fun q => e q.symm), hL t, Int.add_zero]
   ·dsimp only; omega
  ·try simp at h2
   have hnk : o.length ≤ k := by omega
   obtain rfl : k = o.length := by omega
   rw [List.take_length] at hL
   refine zX ?_
   refine z7 ?_
   refine zbr ?_
   refine zO ?_
   refine zh ?_
   refine za ?_
   refine dq (zg zd0 rfl rfl rfl) ?_
   refine dq ((by first | exact zx rfl | exact zp rfl)) ?_
   refine dq (zb zT rfl zP (by decide) rfl) ?_
   refine dq (zg zP rfl rfl rfl) ?_
   refine dq (zfl rfl rfl) ?_
   refine de rfl (zqX (hs' := [eSs m.Teams, .fn (.func 110) [] [.vptr [hsm L] 0, .vptr [.vptr (zn (zaM m)) 0] 0]]) zuf rfl ⟨.refl, .fnL ⟨.vptrL ⟨.map (i := 0) rfl, trivial⟩, .refl, trivial⟩, trivial⟩ (zep (p := fun t => out (zdC o t) m.Least m.Most) zuQ (fun _ => zkt hL) ht) rfl ?_)
   refine dq (zac rfl) ?_
   refine das rfl ?_
   refine dn ?_
   refine zl ?_
   refine zbE Ghost.clear rfl ⟨?_, rfl⟩
   show HVal.bool _ = _
   rw [← zqH]

/-- benchwarmer/trade.CheckOwners -/
theorem zfp [Tracks] {m : MarketS} {o : List OwnerS} (ht : m.Teams.length ≤ 1000000) (ho : o.length ≤ 1000000) : ConP Tryz.prog 31 [zaM m, za8 o] (.int .i64 (zbR m o)) := by
 refine Con.of_body Tryz.func31 rfl Tryz.ntmps31 rfl rfl ?_
 refine za ?_
 refine dq (zas rfl rfl) ?_
 refine das rfl ?_
 refine dn ?_
 refine zj ?_
 refine za ?_
 refine dq (zH zT rfl rfl rfl rfl) ?_
 refine dq (zo zrF rfl (WeakL.refl _) (zd3 (by first | assumption | omega | (simp; omega) | simp_all))) ?_
 refine das rfl ?_
 refine dn ?_
 refine za ?_
 refine dmv rfl ?_
 refine dq (zaD rfl rfl) ?_
 refine dn ?_
 refine zi rfl (fun h1 => ?_) (fun h2 => ?_)
 ·try simp at h1
  refine za ?_
  refine dmv rfl ?_
  refine das rfl ?_
  refine dn ?_
  refine zl ?_
  refine zD rfl ?_
  show HVal.int .i64 _ = _
  first
  | (rw [zbR, if_pos (by simpa using h1)]; done)
  | (rw [hE]; exact congrArg _ (zcW (by omega)))
  | (rw [hE, ← zcY (by omega) hg]; simp_all; done)
  | (rw [hE]
     refine congrArg _ (zbm (e := 5) (by omega) hg (by decide) ?_)
     rw [za0, if_pos]
     simp_all
     done)
  | (rw [hE]
     refine congrArg _ (zbm (e := 8) (by omega) hg (by decide) ?_)
     rw [za0, if_neg, if_pos]
     all_goals simp_all
     done)
  | (rw [hE]
     refine congrArg _ (zcV (by omega) hg ?_ ?_ ?_)
     ·rw [za0, if_neg, if_neg] <;> simp_all
     ·simp_all
     ·simp_all)
 ·try simp at h2
  refine zm ?_
  refine zh ?_
  refine zj ?_
  have hz : zaf m = 0 := by simpa using h2
  have hm := zie hz
  have ht20 := hm.len
  have hE : zbR m o = zb9 m o := by rw [zbR, if_neg (by simp [hz])]
  refine za ?_
  refine dmv rfl ?_
  refine dq (zK zaN rfl) ?_
  refine dq (zae rfl rfl) ?_
  refine dn ?_
  refine zi rfl (fun h3 => ?_) (fun h4 => ?_)
  ·try simp at h3
   refine za ?_
   refine das rfl ?_
   refine dn ?_
   refine zl ?_
   refine zD rfl ?_
   show HVal.int .i64 _ = _
   first
   | (rw [zbR, if_pos (by simpa using h1)]; done)
   | (rw [hE]; exact congrArg _ (zcW (by omega)))
   | (rw [hE, ← zcY (by omega) hg]; simp_all; done)
   | (rw [hE]
      refine congrArg _ (zbm (e := 5) (by omega) hg (by decide) ?_)
      rw [za0, if_pos]
      simp_all
      done)
   | (rw [hE]
      refine congrArg _ (zbm (e := 8) (by omega) hg (by decide) ?_)
      rw [za0, if_neg, if_pos]
      all_goals simp_all
      done)
   | (rw [hE]
      refine congrArg _ (zcV (by omega) hg ?_ ?_ ?_)
      ·rw [za0, if_neg, if_neg] <;> simp_all
      ·simp_all
      ·simp_all)
  ·try simp at h4
   refine zm ?_
   refine zh ?_
   refine zj ?_
   refine za ?_
   refine dmv rfl ?_
   refine dq (zK zaN rfl) ?_
   refine dmv rfl ?_
   refine dn ?_
   refine zq ?_
   refine zak [4, 6, 7, 18, 19, 20, 21, 22, 23, 24, 25, 26, 27, 28, 29, 30, 31, 32, 33, 34, 35, 36, 37, 38, 39, 40, 41, 42, 43, 44, 45, 46, 47] (fun (k : Nat) => [(18, .int .i64 k)]) (fun (k : Nat) => []) (fun (k : Nat) => k ≤ o.length ∧ (zdd m o = zax (za0 m) zd6 zb1 o k (o.drop k))) (fun (k : Nat) => o.length - k) (0) ?_ ?_ ?_ ?_
   ·exact ⟨Nat.zero_le _, rfl⟩
   ·exact ⟨rfl, trivial⟩
   ·exact List.Perm.refl _
   ·intro k hinv
    obtain ⟨hk, hg⟩ := hinv
    refine za ?_
    refine dq (zS rfl rfl) ?_
    refine dn ?_
    refine zj ?_
    refine zi rfl (fun h5 => ?_) (fun h6 => ?_)
    ·try simp at h5
     obtain ⟨x, hx⟩ : ∃ x, o[k]? = some x := ⟨_, List.getElem?_eq_getElem h5⟩
     have hdx := zU hx
     rw [hdx] at hg
     refine zm ?_
     refine zh ?_
     refine zj ?_
     refine zq ?_
     refine za ?_
     refine dmv rfl ?_
     refine dq (zW zaN zaj rfl rfl rfl (by first | assumption | simp_all)) ?_
     refine dq (zH zaj rfl rfl rfl rfl) ?_
     refine de rfl (zY zaj rfl fun b7 => ?_)
     refine das rfl ?_
     refine de0 (zad zaj rfl rfl rfl rfl rfl ?_)
     refine dn ?_
     refine zL (Ghost.fc0 7 rfl) ?_
     refine zq ?_
     refine za ?_
     refine dq (zb zaj rfl ty9 (by decide) rfl) ?_
     refine dq (zg ty9 rfl rfl rfl) ?_
     refine dq (zo ze9 rfl (WeakL.refl _) zbH) ?_
     refine dq (zac rfl) ?_
     refine das rfl ?_
     refine dn ?_
     refine zi rfl (fun h7 => ?_) (fun h8 => ?_)
     ·try simp at h7
      refine za ?_
      refine das rfl ?_
      refine dn ?_
      refine zl ?_
      refine zD rfl ?_
      show HVal.int .i64 _ = _
      first
      | (rw [zbR, if_pos (by simpa using h1)]; done)
      | (rw [hE]; exact congrArg _ (zcW (by omega)))
      | (rw [hE, ← zcY (by omega) hg]; simp_all; done)
      | (rw [hE]
         refine congrArg _ (zbm (e := 5) (by omega) hg (by decide) ?_)
         rw [za0, if_pos]
         simp_all
         done)
      | (rw [hE]
         refine congrArg _ (zbm (e := 8) (by omega) hg (by decide) ?_)
         rw [za0, if_neg, if_pos]
         all_goals simp_all
         done)
      | (rw [hE]
         refine congrArg _ (zcV (by omega) hg ?_ ?_ ?_)
         ·rw [za0, if_neg, if_neg] <;> simp_all
         ·simp_all
         ·simp_all)
     ·try simp at h8
      refine za ?_
      refine dq (zb zaj rfl ty9 (by decide) rfl) ?_
      refine dq (zg ty9 rfl rfl rfl) ?_
      refine dq (zo zog rfl (WeakL.refl _) (zdw hm)) ?_
      refine dq (zac rfl) ?_
      refine das rfl ?_
      refine dn ?_
      refine zi rfl (fun h9 => ?_) (fun h10 => ?_)
      ·try simp at h9
       refine za ?_
       refine das rfl ?_
       refine dn ?_
       refine zl ?_
       refine zD rfl ?_
       show HVal.int .i64 _ = _
       first
       | (rw [zbR, if_pos (by simpa using h1)]; done)
       | (rw [hE]; exact congrArg _ (zcW (by omega)))
       | (rw [hE, ← zcY (by omega) hg]; simp_all; done)
       | (rw [hE]
          refine congrArg _ (zbm (e := 5) (by omega) hg (by decide) ?_)
          rw [za0, if_pos]
          simp_all
          done)
       | (rw [hE]
          refine congrArg _ (zbm (e := 8) (by omega) hg (by decide) ?_)
          rw [za0, if_neg, if_pos]
          all_goals simp_all
          done)
       | (rw [hE]
          refine congrArg _ (zcV (by omega) hg ?_ ?_ ?_)
          ·rw [za0, if_neg, if_neg] <;> simp_all
          ·simp_all
          ·simp_all)
      ·try simp at h10
       refine zaF (fun _ => True) [] mixed ?_
       refine ahp 0 rfl rfl (by kernel_rfl) (by kernel_rfl) (zf rfl) ?_
       refine ahp 1 rfl rfl (by kernel_rfl) (by kernel_rfl) (zae rfl rfl) ?_
       refine ahp 2 rfl rfl (by kernel_rfl) (by kernel_rfl) (zf rfl) ?_
       refine ahg 3 rfl rfl (by kernel_rfl) (by kernel_rfl) rfl (fun hc => ⟨_, OpenTo.refl _, zb zaj rfl ty9 (by decide) rfl⟩) ?_
       refine ahg 4 rfl rfl (by kernel_rfl) (by kernel_rfl) rfl (fun hc => ⟨_, OpenTo.upd (t := 37) rfl (by first | exact hc | simp_all) (OpenTo.refl _), zg ty9 rfl rfl rfl⟩) ?_
       refine ahg 5 rfl rfl (by kernel_rfl) (by kernel_rfl) rfl (fun hc => ⟨_, OpenTo.refl _, zf rfl⟩) ?_
       refine ahg 6 rfl rfl (by kernel_rfl) (by kernel_rfl) rfl (fun hc => ⟨_, OpenTo.refl _, zf rfl⟩) ?_
       refine ahg 7 rfl rfl (by kernel_rfl) (by kernel_rfl) rfl (fun hc => by have hq := hc; (try simp at hq); exact ⟨_, OpenTo.upd (t := 40) rfl (by first | exact hc | simp_all) (OpenTo.refl _), zap rfl rfl (by omega) (by omega)⟩) ?_
       refine ahg 8 rfl rfl (by kernel_rfl) (by kernel_rfl) rfl (fun hc => by have hq := hc; (try simp at hq); exact ⟨_, OpenTo.upd (t := 41) rfl (by first | exact hc | simp_all) (OpenTo.upd (t := 39) rfl (by first | exact hc | simp_all) (OpenTo.refl _)), zW (j := k - 1) (a := o.getD (k - 1) zb1) zaN zaj rfl rfl (by omega) (getD_some (by omega))⟩) ?_
       refine ahg 9 rfl rfl (by kernel_rfl) (by kernel_rfl) rfl (fun hc => ⟨_, OpenTo.upd (t := 42) rfl (by first | exact hc | simp_all) (OpenTo.refl _), zb zaj rfl ty9 (by decide) rfl⟩) ?_
       refine ahg 10 rfl rfl (by kernel_rfl) (by kernel_rfl) rfl (fun hc => ⟨_, OpenTo.upd (t := 43) rfl (by first | exact hc | simp_all) (OpenTo.refl _), zg ty9 rfl rfl rfl⟩) ?_
       refine ahg 11 rfl rfl (by kernel_rfl) (by kernel_rfl) rfl (fun hc => ⟨_, OpenTo.upd (t := 44) rfl (by first | exact hc | simp_all) (OpenTo.upd (t := 38) rfl (by first | exact hc | simp_all) (OpenTo.refl _)), zdt rfl rfl⟩) ?_
       refine ahp 12 rfl rfl (by kernel_rfl) (by kernel_rfl) (zA rfl (.inr ⟨_, rfl, fun h => by simp_all⟩) (.inl rfl)) ?_
       refine ahp 13 rfl rfl (by kernel_rfl) (by kernel_rfl) (zar rfl) ?_
       refine ahz (by kernel_rfl) ?_
       refine zi rfl (fun h11 => ?_) (fun h12 => ?_)
       ·try simp at h11
        refine za ?_
        refine das rfl ?_
        refine dn ?_
        refine zl ?_
        refine zD rfl ?_
        show HVal.int .i64 _ = _
        first
        | (rw [zbR, if_pos (by simpa using h1)]; done)
        | (rw [hE]; exact congrArg _ (zcW (by omega)))
        | (rw [hE, ← zcY (by omega) hg]; simp_all; done)
        | (rw [hE]
           refine congrArg _ (zbm (e := 5) (by omega) hg (by decide) ?_)
           rw [za0, if_pos]
           simp_all
           done)
        | (rw [hE]
           refine congrArg _ (zbm (e := 8) (by omega) hg (by decide) ?_)
           rw [za0, if_neg, if_pos]
           all_goals simp_all
           done)
        | (rw [hE]
           refine congrArg _ (zcV (by omega) hg ?_ ?_ ?_)
           ·rw [za0, if_neg, if_neg] <;> simp_all
           ·simp_all
           ·simp_all)
       ·try simp at h12
        refine zm ?_
        refine zy ?_
        refine zy ?_
        refine zh ?_
        refine zC ?_
        refine dq (zB rfl rfl (by omega) (by omega)) ?_
        refine dmv rfl ?_
        refine dn ?_
        refine ⟨k + 1, ?_, ?_, ⟨rfl, trivial⟩, (by repeat (first | exact zt | refine zw rfl ?_ | refine zu rfl rfl ?_)), List.Perm.refl _⟩
        ·refine ⟨by omega, ?_⟩
         rw [hg, znH (by rw [za0, if_neg (by simp_all), if_neg (by simp_all)]) (by intro hk0; simp_all)]
        ·dsimp only; omega
    ·try simp at h6
     have hnk : o.length ≤ k := by omega
     obtain rfl : k = o.length := by omega
     rw [zaV (Nat.le_refl _)] at hg
     refine zX ?_
     refine z7 ?_
     refine zaw ?_
     refine zO ?_
     refine zh ?_
     refine zj ?_
     refine za ?_
     refine dmv rfl ?_
     refine dq (zo ca66 rfl (WeakL.refl _) (zhv (by first | assumption | omega | (simp; omega) | simp_all) (by first | assumption | omega | (simp; omega) | simp_all))) ?_
     refine dq (zac rfl) ?_
     refine dn ?_
     refine zi rfl (fun h13 => ?_) (fun h14 => ?_)
     ·try simp at h13
      refine za ?_
      refine das rfl ?_
      refine dn ?_
      refine zl ?_
      refine zD rfl ?_
      show HVal.int .i64 _ = _
      first
      | (rw [zbR, if_pos (by simpa using h1)]; done)
      | (rw [hE]; exact congrArg _ (zcW (by omega)))
      | (rw [hE, ← zcY (by omega) hg]; simp_all; done)
      | (rw [hE]
         refine congrArg _ (zbm (e := 5) (by omega) hg (by decide) ?_)
         rw [za0, if_pos]
         simp_all
         done)
      | (rw [hE]
         refine congrArg _ (zbm (e := 8) (by omega) hg (by decide) ?_)
         rw [za0, if_neg, if_pos]
         all_goals simp_all
         done)
      | (rw [hE]
         refine congrArg _ (zcV (by omega) hg ?_ ?_ ?_)
         ·rw [za0, if_neg, if_neg] <;> simp_all
         ·simp_all
         ·simp_all)
     ·try simp at h14
      refine zm ?_
      refine zh ?_
      refine za ?_
      refine das rfl ?_
      refine dn ?_
      refine zl ?_
      refine zD rfl ?_
      show HVal.int .i64 _ = _
      first
      | (rw [zbR, if_pos (by simpa using h1)]; done)
      | (rw [hE]; exact congrArg _ (zcW (by omega)))
      | (rw [hE, ← zcY (by omega) hg]; simp_all; done)
      | (rw [hE]
         refine congrArg _ (zbm (e := 5) (by omega) hg (by decide) ?_)
         rw [za0, if_pos]
         simp_all
         done)
      | (rw [hE]
         refine congrArg _ (zbm (e := 8) (by omega) hg (by decide) ?_)
         rw [za0, if_neg, if_pos]
         all_goals simp_all
         done)
      | (rw [hE]
         refine congrArg _ (zcV (by omega) hg ?_ ?_ ?_)
         ·rw [za0, if_neg, if_neg] <;> simp_all
         ·simp_all
         ·simp_all)

/-- benchwarmer/trade.givesFault -/
theorem zju [Tracks] {m : MarketS} {l : List GiveS} (hm : MarketOk m) (hl : l.length ≤ 1000000) : ConP Tryz.prog 176 [.vptr (zn (zaM m)) 0, zlu l] (.int .i64 (zaJ m l)) := by
 refine Con.of_body Tryz.func176 rfl Tryz.ntmps176 rfl rfl ?_
 refine za ?_
 refine das rfl ?_
 refine dn ?_
 refine zj ?_
 refine zq ?_
 refine za ?_
 refine dmv rfl ?_
 refine dq (zK zat rfl) ?_
 refine dq (zau rfl rfl) ?_
 refine das rfl ?_
 refine dn ?_
 refine zi rfl (fun h1 => ?_) (fun h2 => ?_)
 ·try simp at h1
  refine za ?_
  refine das rfl ?_
  refine dn ?_
  refine zl ?_
  refine zD rfl ?_
  show HVal.int .i64 _ = _
  first
  | (rw [zaJ, if_pos (by simpa using h1)]; done)
  | (rw [zaJ, if_neg (by simpa using h2), if_pos (by omega)]; done)
  | (exact congrArg _ (zcD (by simpa using h2) (by omega) hg))
  | (refine congrArg _ (zaE (e := 5) (by simpa using h2) (by omega) hg (by decide) ?_)
     rw [zaA, if_pos]
     simp_all
     done)
  | (refine congrArg _ (zaE (e := 8) (by simpa using h2) (by omega) hg (by decide) ?_)
     rw [zaA, if_neg, if_pos]
     all_goals simp_all
     done)
  | (refine congrArg _ (zaE (e := 16) (by simpa using h2) (by omega) hg (by decide) ?_)
     rw [zaA, if_neg, if_neg, if_pos]
     all_goals simp_all
     done)
  | (refine congrArg _ (zcx (by simpa using h2) (by omega) hg ?_ ?_ ?_)
     ·rw [zaA, if_neg, if_neg, if_neg] <;> simp_all
     ·simp_all
     ·simp_all)
 ·try simp at h2
  refine za ?_
  refine dmv rfl ?_
  refine dq (zK zat rfl) ?_
  refine dq (zae rfl rfl) ?_
  refine das rfl ?_
  refine dn ?_
  refine zi rfl (fun h3 => ?_) (fun h4 => ?_)
  ·try simp at h3
   refine za ?_
   refine das rfl ?_
   refine dn ?_
   refine zl ?_
   refine zD rfl ?_
   show HVal.int .i64 _ = _
   first
   | (rw [zaJ, if_pos (by simpa using h1)]; done)
   | (rw [zaJ, if_neg (by simpa using h2), if_pos (by omega)]; done)
   | (exact congrArg _ (zcD (by simpa using h2) (by omega) hg))
   | (refine congrArg _ (zaE (e := 5) (by simpa using h2) (by omega) hg (by decide) ?_)
      rw [zaA, if_pos]
      simp_all
      done)
   | (refine congrArg _ (zaE (e := 8) (by simpa using h2) (by omega) hg (by decide) ?_)
      rw [zaA, if_neg, if_pos]
      all_goals simp_all
      done)
   | (refine congrArg _ (zaE (e := 16) (by simpa using h2) (by omega) hg (by decide) ?_)
      rw [zaA, if_neg, if_neg, if_pos]
      all_goals simp_all
      done)
   | (refine congrArg _ (zcx (by simpa using h2) (by omega) hg ?_ ?_ ?_)
      ·rw [zaA, if_neg, if_neg, if_neg] <;> simp_all
      ·simp_all
      ·simp_all)
  ·try simp at h4
   refine zm ?_
   refine zy ?_
   refine zh ?_
   refine zj ?_
   refine za ?_
   refine dmv rfl ?_
   refine dq (zK zat rfl) ?_
   refine dmv rfl ?_
   refine dn ?_
   refine zq ?_
   refine zak [4, 5, 6, 17, 18, 19, 20, 21, 22, 23, 24, 25, 26, 27, 28, 29, 30, 31, 32, 33, 34, 35, 36, 37, 38, 39, 40, 41, 42, 43, 44, 45, 46, 47, 48, 49, 50, 51, 52, 53, 54, 55, 56, 57, 58, 59, 60] (fun (k : Nat) => [(17, .int .i64 k)]) (fun (k : Nat) => []) (fun (k : Nat) => k ≤ l.length ∧ (zax (zaA m) zcv zc9 l 0 l = zax (zaA m) zcv zc9 l k (l.drop k))) (fun (k : Nat) => l.length - k) (0) ?_ ?_ ?_ ?_
   ·exact ⟨Nat.zero_le _, rfl⟩
   ·exact ⟨rfl, trivial⟩
   ·exact List.Perm.refl _
   ·intro k hinv
    obtain ⟨hk, hg⟩ := hinv
    refine za ?_
    refine dq (zS rfl rfl) ?_
    refine dn ?_
    refine zj ?_
    refine zi rfl (fun h5 => ?_) (fun h6 => ?_)
    ·try simp at h5
     obtain ⟨x, hx⟩ : ∃ x, l[k]? = some x := ⟨_, List.getElem?_eq_getElem h5⟩
     have hdx := zU hx
     rw [hdx] at hg
     refine zm ?_
     refine zh ?_
     refine zj ?_
     refine zq ?_
     refine za ?_
     refine dmv rfl ?_
     refine dq (zW zat zaq rfl rfl rfl (by first | assumption | simp_all)) ?_
     refine dq (zH zaq rfl rfl rfl rfl) ?_
     refine de rfl (zY zaq rfl fun b6 => ?_)
     refine das rfl ?_
     refine de0 (zad zaq rfl rfl rfl rfl rfl ?_)
     refine dn ?_
     refine zL (Ghost.fc0 6 rfl) ?_
     refine zq ?_
     refine za ?_
     refine dq (zb zaq rfl ty9 (by decide) rfl) ?_
     refine dq (zg ty9 rfl rfl rfl) ?_
     refine dq (zo ze9 rfl (WeakL.refl _) zbH) ?_
     refine dq (zac rfl) ?_
     refine das rfl ?_
     refine dn ?_
     refine zi rfl (fun h7 => ?_) (fun h8 => ?_)
     ·try simp at h7
      refine za ?_
      refine das rfl ?_
      refine dn ?_
      refine zl ?_
      refine zD rfl ?_
      show HVal.int .i64 _ = _
      first
      | (rw [zaJ, if_pos (by simpa using h1)]; done)
      | (rw [zaJ, if_neg (by simpa using h2), if_pos (by omega)]; done)
      | (exact congrArg _ (zcD (by simpa using h2) (by omega) hg))
      | (refine congrArg _ (zaE (e := 5) (by simpa using h2) (by omega) hg (by decide) ?_)
         rw [zaA, if_pos]
         simp_all
         done)
      | (refine congrArg _ (zaE (e := 8) (by simpa using h2) (by omega) hg (by decide) ?_)
         rw [zaA, if_neg, if_pos]
         all_goals simp_all
         done)
      | (refine congrArg _ (zaE (e := 16) (by simpa using h2) (by omega) hg (by decide) ?_)
         rw [zaA, if_neg, if_neg, if_pos]
         all_goals simp_all
         done)
      | (refine congrArg _ (zcx (by simpa using h2) (by omega) hg ?_ ?_ ?_)
         ·rw [zaA, if_neg, if_neg, if_neg] <;> simp_all
         ·simp_all
         ·simp_all)
     ·try simp at h8
      refine za ?_
      refine dmv rfl ?_
      refine dq (zb zaq rfl ty9 (by decide) rfl) ?_
      refine dq (zg ty9 rfl rfl rfl) ?_
      refine dq (zo zog rfl (WeakL.refl _) (zdw hm)) ?_
      refine dq (zac rfl) ?_
      refine dmv rfl ?_
      refine dg rfl rfl (fun hc => ⟨_, OpenTo.refl _, zf rfl⟩) ?_
      refine dg rfl rfl (fun hc => ⟨_, OpenTo.refl _, zb zaq rfl ty9 (by decide) rfl⟩) ?_
      refine dg rfl rfl (fun hc => ⟨_, OpenTo.upd (t := 35) rfl (by first | exact hc | simp_all) (OpenTo.refl _), zg ty9 rfl rfl rfl⟩) ?_
      refine dg rfl rfl (fun hc => ⟨_, OpenTo.upd (t := 36) rfl (by first | exact hc | simp_all) (OpenTo.upd (t := 34) rfl (by first | exact hc | simp_all) (OpenTo.refl _)), zo zog rfl (WeakL.refl _) (zdw hm)⟩) ?_
      refine dg rfl rfl (fun hc => ⟨_, OpenTo.upd (t := 37) rfl (by first | exact hc | simp_all) (OpenTo.refl _), zac rfl⟩) ?_
      refine dq (zA rfl (.inl rfl) (.inr ⟨_, rfl, fun h => by simp_all⟩)) ?_
      refine das rfl ?_
      refine dn ?_
      refine zi rfl (fun h9 => ?_) (fun h10 => ?_)
      ·try simp at h9
       refine za ?_
       refine das rfl ?_
       refine dn ?_
       refine zl ?_
       refine zD rfl ?_
       show HVal.int .i64 _ = _
       first
       | (rw [zaJ, if_pos (by simpa using h1)]; done)
       | (rw [zaJ, if_neg (by simpa using h2), if_pos (by omega)]; done)
       | (exact congrArg _ (zcD (by simpa using h2) (by omega) hg))
       | (refine congrArg _ (zaE (e := 5) (by simpa using h2) (by omega) hg (by decide) ?_)
          rw [zaA, if_pos]
          simp_all
          done)
       | (refine congrArg _ (zaE (e := 8) (by simpa using h2) (by omega) hg (by decide) ?_)
          rw [zaA, if_neg, if_pos]
          all_goals simp_all
          done)
       | (refine congrArg _ (zaE (e := 16) (by simpa using h2) (by omega) hg (by decide) ?_)
          rw [zaA, if_neg, if_neg, if_pos]
          all_goals simp_all
          done)
       | (refine congrArg _ (zcx (by simpa using h2) (by omega) hg ?_ ?_ ?_)
          ·rw [zaA, if_neg, if_neg, if_neg] <;> simp_all
          ·simp_all
          ·simp_all)
      ·try simp at h10
       refine za ?_
       refine dq (zb zaq rfl ty9 (by decide) rfl) ?_
       refine dq (zg ty9 rfl rfl rfl) ?_
       refine dq (zb zaq rfl ty9 (by decide) rfl) ?_
       refine dq (zg ty9 rfl rfl rfl) ?_
       refine dq (zbt rfl rfl) ?_
       refine das rfl ?_
       refine dn ?_
       refine zi rfl (fun h11 => ?_) (fun h12 => ?_)
       ·try simp at h11
        refine za ?_
        refine das rfl ?_
        refine dn ?_
        refine zl ?_
        refine zD rfl ?_
        show HVal.int .i64 _ = _
        first
        | (rw [zaJ, if_pos (by simpa using h1)]; done)
        | (rw [zaJ, if_neg (by simpa using h2), if_pos (by omega)]; done)
        | (exact congrArg _ (zcD (by simpa using h2) (by omega) hg))
        | (refine congrArg _ (zaE (e := 5) (by simpa using h2) (by omega) hg (by decide) ?_)
           rw [zaA, if_pos]
           simp_all
           done)
        | (refine congrArg _ (zaE (e := 8) (by simpa using h2) (by omega) hg (by decide) ?_)
           rw [zaA, if_neg, if_pos]
           all_goals simp_all
           done)
        | (refine congrArg _ (zaE (e := 16) (by simpa using h2) (by omega) hg (by decide) ?_)
           rw [zaA, if_neg, if_neg, if_pos]
           all_goals simp_all
           done)
        | (refine congrArg _ (zcx (by simpa using h2) (by omega) hg ?_ ?_ ?_)
           ·rw [zaA, if_neg, if_neg, if_neg] <;> simp_all
           ·simp_all
           ·simp_all)
       ·try simp at h12
        refine zaF (fun _ => True) [] mixed ?_
        refine ahp 0 rfl rfl (by kernel_rfl) (by kernel_rfl) (zf rfl) ?_
        refine ahp 1 rfl rfl (by kernel_rfl) (by kernel_rfl) (zae rfl rfl) ?_
        refine ahp 2 rfl rfl (by kernel_rfl) (by kernel_rfl) (zf rfl) ?_
        refine ahg 3 rfl rfl (by kernel_rfl) (by kernel_rfl) rfl (fun hc => ⟨_, OpenTo.refl _, zb zaq rfl ty9 (by decide) rfl⟩) ?_
        refine ahg 4 rfl rfl (by kernel_rfl) (by kernel_rfl) rfl (fun hc => ⟨_, OpenTo.upd (t := 50) rfl (by first | exact hc | simp_all) (OpenTo.refl _), zg ty9 rfl rfl rfl⟩) ?_
        refine ahg 5 rfl rfl (by kernel_rfl) (by kernel_rfl) rfl (fun hc => ⟨_, OpenTo.refl _, zf rfl⟩) ?_
        refine ahg 6 rfl rfl (by kernel_rfl) (by kernel_rfl) rfl (fun hc => ⟨_, OpenTo.refl _, zf rfl⟩) ?_
        refine ahg 7 rfl rfl (by kernel_rfl) (by kernel_rfl) rfl (fun hc => by have hq := hc; (try simp at hq); exact ⟨_, OpenTo.upd (t := 53) rfl (by first | exact hc | simp_all) (OpenTo.refl _), zap rfl rfl (by omega) (by omega)⟩) ?_
        refine ahg 8 rfl rfl (by kernel_rfl) (by kernel_rfl) rfl (fun hc => by have hq := hc; (try simp at hq); exact ⟨_, OpenTo.upd (t := 54) rfl (by first | exact hc | simp_all) (OpenTo.upd (t := 52) rfl (by first | exact hc | simp_all) (OpenTo.refl _)), zW (j := k - 1) (a := l.getD (k - 1) zc9) zat zaq rfl rfl (by omega) (getD_some (by omega))⟩) ?_
        refine ahg 9 rfl rfl (by kernel_rfl) (by kernel_rfl) rfl (fun hc => ⟨_, OpenTo.upd (t := 55) rfl (by first | exact hc | simp_all) (OpenTo.refl _), zb zaq rfl ty9 (by decide) rfl⟩) ?_
        refine ahg 10 rfl rfl (by kernel_rfl) (by kernel_rfl) rfl (fun hc => ⟨_, OpenTo.upd (t := 56) rfl (by first | exact hc | simp_all) (OpenTo.refl _), zg ty9 rfl rfl rfl⟩) ?_
        refine ahg 11 rfl rfl (by kernel_rfl) (by kernel_rfl) rfl (fun hc => ⟨_, OpenTo.upd (t := 57) rfl (by first | exact hc | simp_all) (OpenTo.upd (t := 51) rfl (by first | exact hc | simp_all) (OpenTo.refl _)), zdt rfl rfl⟩) ?_
        refine ahp 12 rfl rfl (by kernel_rfl) (by kernel_rfl) (zA rfl (.inr ⟨_, rfl, fun h => by simp_all⟩) (.inl rfl)) ?_
        refine ahp 13 rfl rfl (by kernel_rfl) (by kernel_rfl) (zar rfl) ?_
        refine ahz (by kernel_rfl) ?_
        refine zi rfl (fun h13 => ?_) (fun h14 => ?_)
        ·try simp at h13
         refine za ?_
         refine das rfl ?_
         refine dn ?_
         refine zl ?_
         refine zD rfl ?_
         show HVal.int .i64 _ = _
         first
         | (rw [zaJ, if_pos (by simpa using h1)]; done)
         | (rw [zaJ, if_neg (by simpa using h2), if_pos (by omega)]; done)
         | (exact congrArg _ (zcD (by simpa using h2) (by omega) hg))
         | (refine congrArg _ (zaE (e := 5) (by simpa using h2) (by omega) hg (by decide) ?_)
            rw [zaA, if_pos]
            simp_all
            done)
         | (refine congrArg _ (zaE (e := 8) (by simpa using h2) (by omega) hg (by decide) ?_)
            rw [zaA, if_neg, if_pos]
            all_goals simp_all
            done)
         | (refine congrArg _ (zaE (e := 16) (by simpa using h2) (by omega) hg (by decide) ?_)
            rw [zaA, if_neg, if_neg, if_pos]
            all_goals simp_all
            done)
         | (refine congrArg _ (zcx (by simpa using h2) (by omega) hg ?_ ?_ ?_)
            ·rw [zaA, if_neg, if_neg, if_neg] <;> simp_all
            ·simp_all
            ·simp_all)
        ·try simp at h14
         refine zm ?_
         refine zy ?_
         refine zy ?_
         refine zh ?_
         refine zC ?_
         refine dq (zB rfl rfl (by omega) (by omega)) ?_
         refine dmv rfl ?_
         refine dn ?_
         refine ⟨k + 1, ?_, ?_, ⟨rfl, trivial⟩, (by repeat (first | exact zt | refine zw rfl ?_ | refine zu rfl rfl ?_)), List.Perm.refl _⟩
         ·refine ⟨by omega, ?_⟩
          rw [hg, znN (by rw [zaA, if_neg (by simp_all), if_neg (by simp_all), if_neg (by simp_all)]) (by intro hk0; simp_all)]
         ·dsimp only; omega
    ·try simp at h6
     have hnk : l.length ≤ k := by omega
     obtain rfl : k = l.length := by omega
     rw [zaV (Nat.le_refl _)] at hg
     refine zX ?_
     refine z7 ?_
     refine zaw ?_
     refine zO ?_
     refine zh ?_
     refine za ?_
     refine das rfl ?_
     refine dn ?_
     refine zl ?_
     refine zD rfl ?_
     show HVal.int .i64 _ = _
     first
     | (rw [zaJ, if_pos (by simpa using h1)]; done)
     | (rw [zaJ, if_neg (by simpa using h2), if_pos (by omega)]; done)
     | (exact congrArg _ (zcD (by simpa using h2) (by omega) hg))
     | (refine congrArg _ (zaE (e := 5) (by simpa using h2) (by omega) hg (by decide) ?_)
        rw [zaA, if_pos]
        simp_all
        done)
     | (refine congrArg _ (zaE (e := 8) (by simpa using h2) (by omega) hg (by decide) ?_)
        rw [zaA, if_neg, if_pos]
        all_goals simp_all
        done)
     | (refine congrArg _ (zaE (e := 16) (by simpa using h2) (by omega) hg (by decide) ?_)
        rw [zaA, if_neg, if_neg, if_pos]
        all_goals simp_all
        done)
     | (refine congrArg _ (zcx (by simpa using h2) (by omega) hg ?_ ?_ ?_)
        ·rw [zaA, if_neg, if_neg, if_neg] <;> simp_all
        ·simp_all
        ·simp_all)

/-- benchwarmer/trade.concerned -/
theorem zf1 [Tracks] {x : DealS} (hx : x.Gives.length ≤ 1000) : ConP Tryz.prog 87 [zii x] (eSs (zbz x.Gives)) := by
 refine Con.of_body Tryz.func87 rfl Tryz.ntmps87 rfl rfl ?_
 refine za ?_
 refine dq (zas rfl rfl) ?_
 refine das rfl ?_
 refine dn ?_
 refine za ?_
 refine das rfl ?_
 refine dn ?_
 refine zL (Ghost.arr_nil 1) ?_
 refine zj ?_
 refine za ?_
 refine dq ((by first | exact zb zam rfl zat (by decide) rfl | exact ze zam rfl zat (by decide) rfl)) ?_
 refine dq (zg zat rfl rfl rfl) ?_
 refine dq (zK zat rfl) ?_
 refine dmv rfl ?_
 refine dn ?_
 refine zq ?_
 refine zbi [3, 5, 9, 10, 11, 12, 13, 14, 15, 16, 17, 18, 19, 20] (fun (k : Nat) (u : Value) => [(9, .int .i64 k), (3, .raw u)]) (fun (k : Nat) (u : Value) => [.arr u 1 ((zcN (x.Gives.take k)).map .str)]) (fun (k : Nat) (u : Value) => k ≤ x.Gives.length ∧ (True)) (fun (k : Nat) (u : Value) => x.Gives.length - k) (0) (.slice none 0 0) ?_ ?_ ?_ ?_
 ·exact ⟨Nat.zero_le _, trivial⟩
 ·exact ⟨rfl, rfl, trivial⟩
 ·exact zR (by simp [zcN])
 ·intro k u hinv
  obtain ⟨hk, -⟩ := hinv
  refine za ?_
  refine dq (zS rfl rfl) ?_
  refine dn ?_
  refine zj ?_
  refine zi rfl (fun h1 => ?_) (fun h2 => ?_)
  ·try simp at h1
   obtain ⟨g, hg⟩ : ∃ g, x.Gives[k]? = some g := ⟨_, List.getElem?_eq_getElem h1⟩
   have hdg := zU hg
   refine zm ?_
   refine zh ?_
   refine zj ?_
   refine zq ?_
   refine za ?_
   refine dq (zW zat zaq rfl rfl rfl (by first | assumption | simp_all)) ?_
   refine dq (zH zaq rfl rfl rfl rfl) ?_
   refine de rfl (zY zaq rfl fun b5 => ?_)
   refine de0 (zad zaq rfl rfl rfl rfl rfl ?_)
   refine dn ?_
   refine zL (Ghost.fc0 5 rfl) ?_
   refine zC ?_
   refine dmv rfl ?_
   refine dq ((by first | exact zb zaq rfl ty9 (by decide) rfl | exact ze zaq rfl ty9 (by decide) rfl)) ?_
   refine dq (zg ty9 rfl rfl rfl) ?_
   refine dq ((by first | exact zb zaq rfl ty9 (by decide) rfl | exact ze zaq rfl ty9 (by decide) rfl)) ?_
   refine dq (zg ty9 rfl rfl rfl) ?_
   refine dq (zG (hs := [_, _]) zP ty9 rfl rfl (by decide) (by decide) rfl) ?_
   refine de rfl (zay (i := 0) zP ty9 rfl rfl rfl rfl rfl (by simp [zbe, zn]) (by have := zeq (x.Gives.take k); simp only [List.length_map, List.length_cons, List.length_nil, List.length_take] at *; omega) fun v19 => ?_)
   refine das rfl ?_
   refine dn ?_
   refine zy ?_
   refine zh ?_
   refine zC ?_
   refine dq (zB rfl rfl (by omega) (by omega)) ?_
   refine dmv rfl ?_
   refine dn ?_
   exact ⟨k + 1, v19, ⟨by omega, trivial⟩, by dsimp only; omega, ⟨rfl, rfl, trivial⟩, (by repeat (first | exact zt | refine zw rfl ?_ | refine zu rfl rfl ?_)), zR (by dsimp only; rw [zkd hg]; simp)⟩
  ·try simp at h2
   have hnk : x.Gives.length ≤ k := by omega
   obtain rfl : k = x.Gives.length := by omega
   rw [List.take_length]
   refine zX ?_
   refine z7 ?_
   refine zbr ?_
   refine zO ?_
   refine zh ?_
   refine za ?_
   refine dmv rfl ?_
   refine de rfl (zbl (M1 := [_]) (R := []) zpW rfl (WeakL.refl _) (List.Perm.refl _) (zfW (l := zcN x.Gives) (by rw [zeq]; omega)) ?_)
   rintro _ _ ⟨rfl, rfl⟩
   refine dn ?_
   refine za ?_
   refine dmv rfl ?_
   refine de rfl (zbl (M1 := [_]) (R := []) zsx rfl (WeakL.refl _) (List.Perm.refl _) (zgv (l := zbj (zcN x.Gives)) (by rw [zee, zeq]; omega)) ?_)
   rintro _ _ ⟨u24, rfl, rfl⟩
   refine das rfl ?_
   refine dn ?_
   refine zl ?_
   exact zgy (M := []) 2 rfl rfl rfl

/-- benchwarmer/trade.offerFault -/
theorem ziG [Tracks] {m : MarketS} {x : DealS} (hm : MarketOk m) (hx : x.Gives.length ≤ 1000000) : ConP Tryz.prog 127 [.vptr (zn (zaM m)) 0, zii x] (.int .i64 (zaS m x)) := by
 refine Con.of_body Tryz.func127 rfl Tryz.ntmps127 rfl rfl ?_
 refine za ?_
 refine dq (zas rfl rfl) ?_
 refine das rfl ?_
 refine dn ?_
 refine zj ?_
 refine zq ?_
 refine za ?_
 refine dq (zb zam rfl ty9 (by decide) rfl) ?_
 refine dq (zg ty9 rfl rfl rfl) ?_
 refine dq (zo ze9 rfl (WeakL.refl _) zbH) ?_
 refine dq (zac rfl) ?_
 refine das rfl ?_
 refine dn ?_
 refine zi rfl (fun h1 => ?_) (fun h2 => ?_)
 ·try simp at h1
  refine za ?_
  refine das rfl ?_
  refine dn ?_
  refine zl ?_
  refine zD rfl ?_
  show HVal.int .i64 _ = _
  simp_all [zaS]
 ·try simp at h2
  refine za ?_
  refine dmv rfl ?_
  refine dq (zb zam rfl ty9 (by decide) rfl) ?_
  refine dq (zg ty9 rfl rfl rfl) ?_
  refine dq (zo zog rfl (WeakL.refl _) (zdw hm)) ?_
  refine dq (zac rfl) ?_
  refine das rfl ?_
  refine dn ?_
  refine zi rfl (fun h3 => ?_) (fun h4 => ?_)
  ·try simp at h3
   refine za ?_
   refine das rfl ?_
   refine dn ?_
   refine zl ?_
   refine zD rfl ?_
   show HVal.int .i64 _ = _
   simp_all [zaS]
  ·try simp at h4
   refine za ?_
   refine dq (zb zam rfl zbZ (by decide) rfl) ?_
   refine dq (zb zbZ rfl ty3 (by decide) rfl) ?_
   refine dq (zg ty3 rfl rfl rfl) ?_
   refine dq (zo zdD rfl (WeakL.refl _) zbc) ?_
   refine dmv rfl ?_
   refine dg rfl rfl (fun hc => ⟨_, OpenTo.refl _, zb zam rfl zbZ (by decide) rfl⟩) ?_
   refine dg rfl rfl (fun hc => ⟨_, OpenTo.upd (t := 23) rfl (by first | exact hc | simp_all) (OpenTo.refl _), zb zbZ rfl ty3 (by decide) rfl⟩) ?_
   refine dg rfl rfl (fun hc => ⟨_, OpenTo.upd (t := 24) rfl (by first | exact hc | simp_all) (OpenTo.refl _), zg ty3 rfl rfl rfl⟩) ?_
   refine dg rfl rfl (fun hc => ⟨_, OpenTo.refl _, zb zam rfl zbZ (by decide) rfl⟩) ?_
   refine dg rfl rfl (fun hc => ⟨_, OpenTo.upd (t := 26) rfl (by first | exact hc | simp_all) (OpenTo.refl _), zb zbZ rfl ty3 (by decide) rfl⟩) ?_
   refine dg rfl rfl (fun hc => ⟨_, OpenTo.upd (t := 27) rfl (by first | exact hc | simp_all) (OpenTo.refl _), zg ty3 rfl rfl rfl⟩) ?_
   refine dg rfl rfl (fun hc => by
    have hxo := zdK (n := x.To) (lo := 1) (hi := 345686400000) (by simpa using hc)
    exact ⟨_, OpenTo.upd (t := 28) rfl (by first | exact hc | simp_all) (OpenTo.refl _), zap rfl rfl (by omega) (by omega)⟩) ?_
   refine dg rfl rfl (fun hc => ⟨_, OpenTo.upd (t := 29) rfl (by first | exact hc | simp_all) (OpenTo.upd (t := 25) rfl (by first | exact hc | simp_all) (OpenTo.refl _)), zo zdD rfl (WeakL.refl _) zbc⟩) ?_
   refine dq (zA rfl (.inl rfl) (.inr ⟨_, rfl, fun h => by simp_all⟩)) ?_
   refine das rfl ?_
   refine dn ?_
   refine zi rfl (fun h5 => ?_) (fun h6 => ?_)
   ·try simp at h5
    refine za ?_
    refine das rfl ?_
    refine dn ?_
    refine zl ?_
    refine zD rfl ?_
    show HVal.int .i64 _ = _
    simp_all [zaS]
   ·try simp at h6
    refine zm ?_
    refine zy ?_
    refine zh ?_
    refine zj ?_
    refine za ?_
    refine dmv rfl ?_
    refine dq (zb zam rfl zat (by decide) rfl) ?_
    refine dq (zg zat rfl rfl rfl) ?_
    refine dq (zo zun rfl (WeakL.refl _) (zju (by first | assumption | omega | (simp; omega) | simp_all) (by first | assumption | omega | (simp; omega) | simp_all))) ?_
    refine das rfl ?_
    refine dn ?_
    refine za ?_
    refine dmv rfl ?_
    refine dq (zaD rfl rfl) ?_
    refine dn ?_
    refine zi rfl (fun h7 => ?_) (fun h8 => ?_)
    ·try simp at h7
     refine za ?_
     refine dmv rfl ?_
     refine das rfl ?_
     refine dn ?_
     refine zl ?_
     refine zD rfl ?_
     show HVal.int .i64 _ = _
     simp_all [zaS]
    ·try simp at h8
     refine zm ?_
     refine zh ?_
     refine zj ?_
     obtain ⟨hgo1, hgo2, _⟩ := zfL (m := m) (l := x.Gives) (by simp_all)
     refine zaF (fun _ => True) [] mixed ?_
     refine ahp 0 rfl rfl (by kernel_rfl) (by kernel_rfl) (zH zam rfl rfl rfl rfl) ?_
     refine ahp 1 rfl rfl (by kernel_rfl) (by kernel_rfl) (zo ca87 rfl (WeakL.refl _) (zf1 (by first | assumption | omega | (simp; omega) | simp_all))) ?_
     refine ahp 2 rfl rfl (by kernel_rfl) (by kernel_rfl) (zb zam rfl ty9 (by decide) rfl) ?_
     refine ahp 3 rfl rfl (by kernel_rfl) (by kernel_rfl) (zg ty9 rfl rfl rfl) ?_
     refine ahp 4 rfl rfl (by kernel_rfl) (by kernel_rfl) (zo ziZ rfl (WeakL.refl _) (zaL (l := zbz x.Gives) (s := x.By) (by have := zjl x.Gives; omega))) ?_
     refine ahp 5 rfl rfl (by kernel_rfl) (by kernel_rfl) (zac rfl) ?_
     refine ahz (by kernel_rfl) ?_
     refine zi rfl (fun h9 => ?_) (fun h10 => ?_)
     ·try simp at h9
      refine za ?_
      refine das rfl ?_
      refine dn ?_
      refine zl ?_
      refine zD rfl ?_
      show HVal.int .i64 _ = _
      simp_all [zaS]
     ·try simp at h10
      refine zm ?_
      refine zh ?_
      refine za ?_
      refine das rfl ?_
      refine dn ?_
      refine zl ?_
      refine zD rfl ?_
      show HVal.int .i64 _ = _
      simp_all [zaS]

/-- benchwarmer/trade.CheckOffers -/
theorem ziC [Tracks] {m : MarketS} {l : List DealS} (ht : m.Teams.length ≤ 1000000) (hl : l.length ≤ 1000000) (hx : ∀ x ∈ l, x.Gives.length ≤ 1000000) : ConP Tryz.prog 82 [zaM m, zec l] (.int .i64 (zdE m l)) := by
 refine Con.of_body Tryz.func82 rfl Tryz.ntmps82 rfl rfl ?_
 refine za ?_
 refine dq (zas rfl rfl) ?_
 refine das rfl ?_
 refine dn ?_
 refine zj ?_
 refine za ?_
 refine dq (zH zT rfl rfl rfl rfl) ?_
 refine dq (zo zrF rfl (WeakL.refl _) (zd3 (by first | assumption | omega | (simp; omega) | simp_all))) ?_
 refine das rfl ?_
 refine dn ?_
 refine za ?_
 refine dmv rfl ?_
 refine dq (zaD rfl rfl) ?_
 refine dn ?_
 refine zi rfl (fun h1 => ?_) (fun h2 => ?_)
 ·try simp at h1
  refine za ?_
  refine dmv rfl ?_
  refine das rfl ?_
  refine dn ?_
  refine zl ?_
  refine zD rfl ?_
  show HVal.int .i64 _ = _
  first
  | (rw [zdE, if_pos (by simpa using h1)]; done)
  | (rw [hE]; exact congrArg _ (zcj (by omega)))
  | (rw [hE]; exact congrArg _ (zck (by omega) hg))
  | (rw [hE]
     refine congrArg _ (zbs (by omega) hg ?_ rfl)
     simp_all
     done)
  | (rw [hE]
     refine congrArg _ (zcm (by omega) hg ?_ ?_ ?_)
     ·simp_all
     ·simp_all
     ·simp_all)
 ·try simp at h2
  refine zm ?_
  refine zh ?_
  refine zj ?_
  have hz : zaf m = 0 := by simpa using h2
  have hm := zie hz
  have ht20 := hm.len
  have hE : zdE m l = zcK m l := by rw [zdE, if_neg (by simp [hz])]
  refine za ?_
  refine dmv rfl ?_
  refine dq (zK zdv rfl) ?_
  refine dq (zae rfl rfl) ?_
  refine dn ?_
  refine zi rfl (fun h3 => ?_) (fun h4 => ?_)
  ·try simp at h3
   refine za ?_
   refine das rfl ?_
   refine dn ?_
   refine zl ?_
   refine zD rfl ?_
   show HVal.int .i64 _ = _
   first
   | (rw [zdE, if_pos (by simpa using h1)]; done)
   | (rw [hE]; exact congrArg _ (zcj (by omega)))
   | (rw [hE]; exact congrArg _ (zck (by omega) hg))
   | (rw [hE]
      refine congrArg _ (zbs (by omega) hg ?_ rfl)
      simp_all
      done)
   | (rw [hE]
      refine congrArg _ (zcm (by omega) hg ?_ ?_ ?_)
      ·simp_all
      ·simp_all
      ·simp_all)
  ·try simp at h4
   refine zm ?_
   refine zh ?_
   refine zj ?_
   refine za ?_
   refine dmv rfl ?_
   refine dq (zK zdv rfl) ?_
   refine dmv rfl ?_
   refine dn ?_
   refine zq ?_
   refine zak [4, 6, 7, 8, 19, 20, 21, 22, 23, 24, 25, 26, 27, 28, 29, 30, 31, 32, 33, 34, 35, 36, 37, 38, 39, 40, 41, 42] (fun (k : Nat) => [(19, .int .i64 k)]) (fun (k : Nat) => []) (fun (k : Nat) => k ≤ l.length ∧ (zax (zaS m) zdg zcb l 0 l = zax (zaS m) zdg zcb l k (l.drop k))) (fun (k : Nat) => l.length - k) (0) ?_ ?_ ?_ ?_
   ·exact ⟨Nat.zero_le _, rfl⟩
   ·exact ⟨rfl, trivial⟩
   ·exact List.Perm.refl _
   ·intro k hinv
    obtain ⟨hk, hg⟩ := hinv
    refine za ?_
    refine dq (zS rfl rfl) ?_
    refine dn ?_
    refine zj ?_
    refine zi rfl (fun h5 => ?_) (fun h6 => ?_)
    ·try simp at h5
     obtain ⟨y, hy⟩ : ∃ y, l[k]? = some y := ⟨_, List.getElem?_eq_getElem h5⟩
     have hdy := zU hy
     rw [hdy] at hg
     refine zm ?_
     refine zh ?_
     refine zj ?_
     refine zq ?_
     refine za ?_
     refine dmv rfl ?_
     refine dq (zW zdv zam rfl rfl rfl (by first | assumption | simp_all)) ?_
     refine dq (zH zam rfl rfl rfl rfl) ?_
     refine de rfl (zY zam rfl fun b7 => ?_)
     refine das rfl ?_
     refine de0 (zad zam rfl rfl rfl rfl rfl ?_)
     refine dn ?_
     refine zL (Ghost.fc0 7 rfl) ?_
     refine zj ?_
     refine za ?_
     refine dq (zH zam rfl rfl rfl rfl) ?_
     refine dq (zo zuG rfl (WeakL.refl _) (ziG (x := y) hm (hx y (List.mem_of_getElem? hy)))) ?_
     refine das rfl ?_
     refine dn ?_
     refine za ?_
     refine dmv rfl ?_
     refine dq (zaD rfl rfl) ?_
     refine dn ?_
     refine zi rfl (fun h7 => ?_) (fun h8 => ?_)
     ·try simp at h7
      refine za ?_
      refine dmv rfl ?_
      refine das rfl ?_
      refine dn ?_
      refine zl ?_
      refine zD rfl ?_
      show HVal.int .i64 _ = _
      first
      | (rw [zdE, if_pos (by simpa using h1)]; done)
      | (rw [hE]; exact congrArg _ (zcj (by omega)))
      | (rw [hE]; exact congrArg _ (zck (by omega) hg))
      | (rw [hE]
         refine congrArg _ (zbs (by omega) hg ?_ rfl)
         simp_all
         done)
      | (rw [hE]
         refine congrArg _ (zcm (by omega) hg ?_ ?_ ?_)
         ·simp_all
         ·simp_all
         ·simp_all)
     ·try simp at h8
      refine zm ?_
      refine zh ?_
      refine zaF (fun _ => True) [] mixed ?_
      refine ahp 0 rfl rfl (by kernel_rfl) (by kernel_rfl) (zf rfl) ?_
      refine ahp 1 rfl rfl (by kernel_rfl) (by kernel_rfl) (zae rfl rfl) ?_
      refine ahp 2 rfl rfl (by kernel_rfl) (by kernel_rfl) (zf rfl) ?_
      refine ahg 3 rfl rfl (by kernel_rfl) (by kernel_rfl) rfl (fun hc => ⟨_, OpenTo.refl _, zb zam rfl ty9 (by decide) rfl⟩) ?_
      refine ahg 4 rfl rfl (by kernel_rfl) (by kernel_rfl) rfl (fun hc => ⟨_, OpenTo.upd (t := 32) rfl (by first | exact hc | simp_all) (OpenTo.refl _), zg ty9 rfl rfl rfl⟩) ?_
      refine ahg 5 rfl rfl (by kernel_rfl) (by kernel_rfl) rfl (fun hc => ⟨_, OpenTo.refl _, zf rfl⟩) ?_
      refine ahg 6 rfl rfl (by kernel_rfl) (by kernel_rfl) rfl (fun hc => ⟨_, OpenTo.refl _, zf rfl⟩) ?_
      refine ahg 7 rfl rfl (by kernel_rfl) (by kernel_rfl) rfl (fun hc => by have hq := hc; (try simp at hq); exact ⟨_, OpenTo.upd (t := 35) rfl (by first | exact hc | simp_all) (OpenTo.refl _), zap rfl rfl (by omega) (by omega)⟩) ?_
      refine ahg 8 rfl rfl (by kernel_rfl) (by kernel_rfl) rfl (fun hc => by have hq := hc; (try simp at hq); exact ⟨_, OpenTo.upd (t := 36) rfl (by first | exact hc | simp_all) (OpenTo.upd (t := 34) rfl (by first | exact hc | simp_all) (OpenTo.refl _)), zW (j := k - 1) (a := l.getD (k - 1) zcb) zdv zam rfl rfl (by omega) (getD_some (by omega))⟩) ?_
      refine ahg 9 rfl rfl (by kernel_rfl) (by kernel_rfl) rfl (fun hc => ⟨_, OpenTo.upd (t := 37) rfl (by first | exact hc | simp_all) (OpenTo.refl _), zb zam rfl ty9 (by decide) rfl⟩) ?_
      refine ahg 10 rfl rfl (by kernel_rfl) (by kernel_rfl) rfl (fun hc => ⟨_, OpenTo.upd (t := 38) rfl (by first | exact hc | simp_all) (OpenTo.refl _), zg ty9 rfl rfl rfl⟩) ?_
      refine ahg 11 rfl rfl (by kernel_rfl) (by kernel_rfl) rfl (fun hc => ⟨_, OpenTo.upd (t := 39) rfl (by first | exact hc | simp_all) (OpenTo.upd (t := 33) rfl (by first | exact hc | simp_all) (OpenTo.refl _)), zdt rfl rfl⟩) ?_
      refine ahp 12 rfl rfl (by kernel_rfl) (by kernel_rfl) (zA rfl (.inr ⟨_, rfl, fun h => by simp_all⟩) (.inl rfl)) ?_
      refine ahz (by kernel_rfl) ?_
      refine zi rfl (fun h9 => ?_) (fun h10 => ?_)
      ·try simp at h9
       refine za ?_
       refine das rfl ?_
       refine dn ?_
       refine zl ?_
       refine zD rfl ?_
       show HVal.int .i64 _ = _
       first
       | (rw [zdE, if_pos (by simpa using h1)]; done)
       | (rw [hE]; exact congrArg _ (zcj (by omega)))
       | (rw [hE]; exact congrArg _ (zck (by omega) hg))
       | (rw [hE]
          refine congrArg _ (zbs (by omega) hg ?_ rfl)
          simp_all
          done)
       | (rw [hE]
          refine congrArg _ (zcm (by omega) hg ?_ ?_ ?_)
          ·simp_all
          ·simp_all
          ·simp_all)
      ·try simp at h10
       refine zm ?_
       refine zy ?_
       refine zh ?_
       refine zC ?_
       refine dq (zB rfl rfl (by omega) (by omega)) ?_
       refine dmv rfl ?_
       refine dn ?_
       refine ⟨k + 1, ?_, ?_, ⟨rfl, trivial⟩, (by repeat (first | exact zt | refine zw rfl ?_ | refine zu rfl rfl ?_)), List.Perm.refl _⟩
       ·refine ⟨by omega, ?_⟩
        rw [hg, zmi (by simp_all) (by intro hk0; simp_all)]
       ·dsimp only; omega
    ·try simp at h6
     have hnk : l.length ≤ k := by omega
     obtain rfl : k = l.length := by omega
     rw [zaV (Nat.le_refl _)] at hg
     refine zX ?_
     refine z7 ?_
     refine zaw ?_
     refine zO ?_
     refine zh ?_
     refine za ?_
     refine das rfl ?_
     refine dn ?_
     refine zl ?_
     refine zD rfl ?_
     show HVal.int .i64 _ = _
     first
     | (rw [zdE, if_pos (by simpa using h1)]; done)
     | (rw [hE]; exact congrArg _ (zcj (by omega)))
     | (rw [hE]; exact congrArg _ (zck (by omega) hg))
     | (rw [hE]
        refine congrArg _ (zbs (by omega) hg ?_ rfl)
        simp_all
        done)
     | (rw [hE]
        refine congrArg _ (zcm (by omega) hg ?_ ?_ ?_)
        ·simp_all
        ·simp_all
        ·simp_all)

/-- benchwarmer/trade.byAnswer -/
theorem zkF [Tracks] {a b : ReplyS}  : ConP Tryz.prog 128 [zbJ a, zbJ b] (.int .i64 (zca a b)) := by
 refine Con.of_body Tryz.func128 rfl Tryz.ntmps128 rfl rfl ?_
 refine za ?_
 refine dq (zas rfl rfl) ?_
 refine dq (zas rfl rfl) ?_
 refine das rfl ?_
 refine dn ?_
 refine zaF (fun _ => True) [] mixed ?_
 refine ahp 0 rfl rfl (by kernel_rfl) (by kernel_rfl) (zb z8 rfl ty3 (by decide) rfl) ?_
 refine ahp 1 rfl rfl (by kernel_rfl) (by kernel_rfl) (zg ty3 rfl rfl rfl) ?_
 refine ahp 2 rfl rfl (by kernel_rfl) (by kernel_rfl) (zb z8 rfl ty3 (by decide) rfl) ?_
 refine ahp 3 rfl rfl (by kernel_rfl) (by kernel_rfl) (zg ty3 rfl rfl rfl) ?_
 refine ahp 4 rfl rfl (by kernel_rfl) (by kernel_rfl) (zo zlC rfl (WeakL.refl _) zcL) ?_
 refine ahp 5 rfl rfl (by kernel_rfl) (by kernel_rfl) (zb z8 rfl ty9 (by decide) rfl) ?_
 refine ahp 6 rfl rfl (by kernel_rfl) (by kernel_rfl) (zg ty9 rfl rfl rfl) ?_
 refine ahp 7 rfl rfl (by kernel_rfl) (by kernel_rfl) (zb z8 rfl ty9 (by decide) rfl) ?_
 refine ahp 8 rfl rfl (by kernel_rfl) (by kernel_rfl) (zg ty9 rfl rfl rfl) ?_
 refine ahp 9 rfl rfl (by kernel_rfl) (by kernel_rfl) (zo zhk rfl (WeakL.refl _) zbp) ?_
 refine ahp 10 rfl rfl (by kernel_rfl) (by kernel_rfl) (zb z8 rfl ty9 (by decide) rfl) ?_
 refine ahp 11 rfl rfl (by kernel_rfl) (by kernel_rfl) (zg ty9 rfl rfl rfl) ?_
 refine ahp 12 rfl rfl (by kernel_rfl) (by kernel_rfl) (zb z8 rfl ty9 (by decide) rfl) ?_
 refine ahp 13 rfl rfl (by kernel_rfl) (by kernel_rfl) (zg ty9 rfl rfl rfl) ?_
 refine ahp 14 rfl rfl (by kernel_rfl) (by kernel_rfl) (zo zhk rfl (WeakL.refl _) zbp) ?_
 refine ahp 15 rfl rfl (by kernel_rfl) (by kernel_rfl) (zG (hs := [_, _, _]) zbL ty3 rfl rfl (by decide) (by decide) rfl) ?_
 refine ahp 16 rfl rfl (by kernel_rfl) (by kernel_rfl) (zo zlb rfl (WeakL.refl _) (zel (l := [_, _, _]) (by simp))) ?_
 refine ahp 17 rfl rfl (by kernel_rfl) (by kernel_rfl) (zar rfl) ?_
 refine ahz (by kernel_rfl) ?_
 refine zl ?_
 refine zD rfl ?_
 rfl

/-- benchwarmer/trade.CheckAnswers -/
theorem zhW [Tracks] {m : MarketS} {l : List ReplyS} (ht : m.Teams.length ≤ 1000000) (hl : l.length ≤ 1000000) : ConP Tryz.prog 83 [zaM m, zb3 l] (.int .i64 (zch m l)) := by
 refine Con.of_body Tryz.func83 rfl Tryz.ntmps83 rfl rfl ?_
 refine za ?_
 refine dq (zas rfl rfl) ?_
 refine das rfl ?_
 refine dn ?_
 refine zj ?_
 refine za ?_
 refine dq (zH zT rfl rfl rfl rfl) ?_
 refine dq (zo zrF rfl (WeakL.refl _) (zd3 (by first | assumption | omega | (simp; omega) | simp_all))) ?_
 refine das rfl ?_
 refine dn ?_
 refine za ?_
 refine dmv rfl ?_
 refine dq (zaD rfl rfl) ?_
 refine dn ?_
 refine zi rfl (fun h1 => ?_) (fun h2 => ?_)
 ·try simp at h1
  refine za ?_
  refine dmv rfl ?_
  refine das rfl ?_
  refine dn ?_
  refine zl ?_
  refine zD rfl ?_
  show HVal.int .i64 _ = _
  first
  | (rw [zch, if_pos (by simpa using h1)]; done)
  | (rw [hE]; exact congrArg _ (zcn (by omega)))
  | (rw [hE]; exact congrArg _ (zcl (by omega) hg))
  | (rw [hE]
     refine congrArg _ (zag (e := 5) (by omega) hg (by decide) ?_)
     rw [zan, if_pos]
     simp_all
     done)
  | (rw [hE]
     refine congrArg _ (zag (e := 8) (by omega) hg (by decide) ?_)
     rw [zan, if_neg, if_pos]
     all_goals simp_all
     done)
  | (rw [hE]
     refine congrArg _ (zag (e := 1) (by omega) hg (by decide) ?_)
     rw [zan, if_neg, if_neg, if_pos]
     all_goals simp_all
     done)
  | (rw [hE]
     refine congrArg _ (zag (e := 4) (by omega) hg (by decide) ?_)
     rw [zan, if_neg, if_neg, if_neg, if_pos]
     all_goals simp_all
     done)
  | (rw [hE]
     refine congrArg _ (zcq (by omega) hg ?_ ?_ ?_)
     ·rw [zan, if_neg, if_neg, if_neg, if_neg] <;> simp_all
     ·simp_all
     ·simp_all)
 ·try simp at h2
  refine zm ?_
  refine zh ?_
  refine zj ?_
  have hz : zaf m = 0 := by simpa using h2
  have hm := zie hz
  have ht20 := hm.len
  have hE : zch m l = zcR m l := by rw [zch, if_neg (by simp [hz])]
  refine za ?_
  refine dmv rfl ?_
  refine dq (zK zcg rfl) ?_
  refine dq (zae rfl rfl) ?_
  refine dn ?_
  refine zi rfl (fun h3 => ?_) (fun h4 => ?_)
  ·try simp at h3
   refine za ?_
   refine das rfl ?_
   refine dn ?_
   refine zl ?_
   refine zD rfl ?_
   show HVal.int .i64 _ = _
   first
   | (rw [zch, if_pos (by simpa using h1)]; done)
   | (rw [hE]; exact congrArg _ (zcn (by omega)))
   | (rw [hE]; exact congrArg _ (zcl (by omega) hg))
   | (rw [hE]
      refine congrArg _ (zag (e := 5) (by omega) hg (by decide) ?_)
      rw [zan, if_pos]
      simp_all
      done)
   | (rw [hE]
      refine congrArg _ (zag (e := 8) (by omega) hg (by decide) ?_)
      rw [zan, if_neg, if_pos]
      all_goals simp_all
      done)
   | (rw [hE]
      refine congrArg _ (zag (e := 1) (by omega) hg (by decide) ?_)
      rw [zan, if_neg, if_neg, if_pos]
      all_goals simp_all
      done)
   | (rw [hE]
      refine congrArg _ (zag (e := 4) (by omega) hg (by decide) ?_)
      rw [zan, if_neg, if_neg, if_neg, if_pos]
      all_goals simp_all
      done)
   | (rw [hE]
      refine congrArg _ (zcq (by omega) hg ?_ ?_ ?_)
      ·rw [zan, if_neg, if_neg, if_neg, if_neg] <;> simp_all
      ·simp_all
      ·simp_all)
  ·try simp at h4
   refine zm ?_
   refine zh ?_
   refine zj ?_
   refine za ?_
   refine dmv rfl ?_
   refine dq (zK zcg rfl) ?_
   refine dmv rfl ?_
   refine dn ?_
   refine zq ?_
   refine zak [4, 6, 7, 18, 19, 20, 21, 22, 23, 24, 25, 26, 27, 28, 29, 30, 31, 32, 33, 34, 35, 36, 37, 38, 39, 40, 41, 42, 43, 44, 45, 46, 47, 48, 49, 50, 51, 52, 53, 54, 55] (fun (k : Nat) => [(18, .int .i64 k)]) (fun (k : Nat) => []) (fun (k : Nat) => k ≤ l.length ∧ (zax (zan m) zca zbN l 0 l = zax (zan m) zca zbN l k (l.drop k))) (fun (k : Nat) => l.length - k) (0) ?_ ?_ ?_ ?_
   ·exact ⟨Nat.zero_le _, rfl⟩
   ·exact ⟨rfl, trivial⟩
   ·exact List.Perm.refl _
   ·intro k hinv
    obtain ⟨hk, hg⟩ := hinv
    refine za ?_
    refine dq (zS rfl rfl) ?_
    refine dn ?_
    refine zj ?_
    refine zi rfl (fun h5 => ?_) (fun h6 => ?_)
    ·try simp at h5
     obtain ⟨x, hx⟩ : ∃ x, l[k]? = some x := ⟨_, List.getElem?_eq_getElem h5⟩
     have hdx := zU hx
     rw [hdx] at hg
     refine zm ?_
     refine zh ?_
     refine zj ?_
     refine zq ?_
     refine za ?_
     refine dmv rfl ?_
     refine dq (zW zcg z8 rfl rfl rfl (by first | assumption | simp_all)) ?_
     refine dq (zH z8 rfl rfl rfl rfl) ?_
     refine de rfl (zY z8 rfl fun b7 => ?_)
     refine das rfl ?_
     refine de0 (zad z8 rfl rfl rfl rfl rfl ?_)
     refine dn ?_
     refine zL (Ghost.fc0 7 rfl) ?_
     refine zq ?_
     refine za ?_
     refine dq (zb z8 rfl ty9 (by decide) rfl) ?_
     refine dq (zg ty9 rfl rfl rfl) ?_
     refine dq (zo ze9 rfl (WeakL.refl _) zbH) ?_
     refine dq (zac rfl) ?_
     refine das rfl ?_
     refine dn ?_
     refine zi rfl (fun h7 => ?_) (fun h8 => ?_)
     ·try simp at h7
      refine za ?_
      refine das rfl ?_
      refine dn ?_
      refine zl ?_
      refine zD rfl ?_
      show HVal.int .i64 _ = _
      first
      | (rw [zch, if_pos (by simpa using h1)]; done)
      | (rw [hE]; exact congrArg _ (zcn (by omega)))
      | (rw [hE]; exact congrArg _ (zcl (by omega) hg))
      | (rw [hE]
         refine congrArg _ (zag (e := 5) (by omega) hg (by decide) ?_)
         rw [zan, if_pos]
         simp_all
         done)
      | (rw [hE]
         refine congrArg _ (zag (e := 8) (by omega) hg (by decide) ?_)
         rw [zan, if_neg, if_pos]
         all_goals simp_all
         done)
      | (rw [hE]
         refine congrArg _ (zag (e := 1) (by omega) hg (by decide) ?_)
         rw [zan, if_neg, if_neg, if_pos]
         all_goals simp_all
         done)
      | (rw [hE]
         refine congrArg _ (zag (e := 4) (by omega) hg (by decide) ?_)
         rw [zan, if_neg, if_neg, if_neg, if_pos]
         all_goals simp_all
         done)
      | (rw [hE]
         refine congrArg _ (zcq (by omega) hg ?_ ?_ ?_)
         ·rw [zan, if_neg, if_neg, if_neg, if_neg] <;> simp_all
         ·simp_all
         ·simp_all)
     ·try simp at h8
      refine za ?_
      refine dq (zb z8 rfl ty9 (by decide) rfl) ?_
      refine dq (zg ty9 rfl rfl rfl) ?_
      refine dq (zo zog rfl (WeakL.refl _) (zdw hm)) ?_
      refine dq (zac rfl) ?_
      refine das rfl ?_
      refine dn ?_
      refine zi rfl (fun h9 => ?_) (fun h10 => ?_)
      ·try simp at h9
       refine za ?_
       refine das rfl ?_
       refine dn ?_
       refine zl ?_
       refine zD rfl ?_
       show HVal.int .i64 _ = _
       first
       | (rw [zch, if_pos (by simpa using h1)]; done)
       | (rw [hE]; exact congrArg _ (zcn (by omega)))
       | (rw [hE]; exact congrArg _ (zcl (by omega) hg))
       | (rw [hE]
          refine congrArg _ (zag (e := 5) (by omega) hg (by decide) ?_)
          rw [zan, if_pos]
          simp_all
          done)
       | (rw [hE]
          refine congrArg _ (zag (e := 8) (by omega) hg (by decide) ?_)
          rw [zan, if_neg, if_pos]
          all_goals simp_all
          done)
       | (rw [hE]
          refine congrArg _ (zag (e := 1) (by omega) hg (by decide) ?_)
          rw [zan, if_neg, if_neg, if_pos]
          all_goals simp_all
          done)
       | (rw [hE]
          refine congrArg _ (zag (e := 4) (by omega) hg (by decide) ?_)
          rw [zan, if_neg, if_neg, if_neg, if_pos]
          all_goals simp_all
          done)
       | (rw [hE]
          refine congrArg _ (zcq (by omega) hg ?_ ?_ ?_)
          ·rw [zan, if_neg, if_neg, if_neg, if_neg] <;> simp_all
          ·simp_all
          ·simp_all)
      ·try simp at h10
       refine za ?_
       refine dq (zb z8 rfl ty3 (by decide) rfl) ?_
       refine dq (zg ty3 rfl rfl rfl) ?_
       refine dq (zo zlV rfl (WeakL.refl _) zde) ?_
       refine dq (zac rfl) ?_
       refine das rfl ?_
       refine dn ?_
       refine zi rfl (fun h11 => ?_) (fun h12 => ?_)
       ·try simp at h11
        refine za ?_
        refine das rfl ?_
        refine dn ?_
        refine zl ?_
        refine zD rfl ?_
        show HVal.int .i64 _ = _
        first
        | (rw [zch, if_pos (by simpa using h1)]; done)
        | (rw [hE]; exact congrArg _ (zcn (by omega)))
        | (rw [hE]; exact congrArg _ (zcl (by omega) hg))
        | (rw [hE]
           refine congrArg _ (zag (e := 5) (by omega) hg (by decide) ?_)
           rw [zan, if_pos]
           simp_all
           done)
        | (rw [hE]
           refine congrArg _ (zag (e := 8) (by omega) hg (by decide) ?_)
           rw [zan, if_neg, if_pos]
           all_goals simp_all
           done)
        | (rw [hE]
           refine congrArg _ (zag (e := 1) (by omega) hg (by decide) ?_)
           rw [zan, if_neg, if_neg, if_pos]
           all_goals simp_all
           done)
        | (rw [hE]
           refine congrArg _ (zag (e := 4) (by omega) hg (by decide) ?_)
           rw [zan, if_neg, if_neg, if_neg, if_pos]
           all_goals simp_all
           done)
        | (rw [hE]
           refine congrArg _ (zcq (by omega) hg ?_ ?_ ?_)
           ·rw [zan, if_neg, if_neg, if_neg, if_neg] <;> simp_all
           ·simp_all
           ·simp_all)
       ·try simp at h12
        refine za ?_
        refine dq (zb z8 rfl ty3 (by decide) rfl) ?_
        refine dq (zg ty3 rfl rfl rfl) ?_
        refine dq (zo zdD rfl (WeakL.refl _) zbc) ?_
        refine das rfl ?_
        refine dn ?_
        refine zi rfl (fun h13 => ?_) (fun h14 => ?_)
        ·try simp at h13
         refine za ?_
         refine das rfl ?_
         refine dn ?_
         refine zl ?_
         refine zD rfl ?_
         show HVal.int .i64 _ = _
         first
         | (rw [zch, if_pos (by simpa using h1)]; done)
         | (rw [hE]; exact congrArg _ (zcn (by omega)))
         | (rw [hE]; exact congrArg _ (zcl (by omega) hg))
         | (rw [hE]
            refine congrArg _ (zag (e := 5) (by omega) hg (by decide) ?_)
            rw [zan, if_pos]
            simp_all
            done)
         | (rw [hE]
            refine congrArg _ (zag (e := 8) (by omega) hg (by decide) ?_)
            rw [zan, if_neg, if_pos]
            all_goals simp_all
            done)
         | (rw [hE]
            refine congrArg _ (zag (e := 1) (by omega) hg (by decide) ?_)
            rw [zan, if_neg, if_neg, if_pos]
            all_goals simp_all
            done)
         | (rw [hE]
            refine congrArg _ (zag (e := 4) (by omega) hg (by decide) ?_)
            rw [zan, if_neg, if_neg, if_neg, if_pos]
            all_goals simp_all
            done)
         | (rw [hE]
            refine congrArg _ (zcq (by omega) hg ?_ ?_ ?_)
            ·rw [zan, if_neg, if_neg, if_neg, if_neg] <;> simp_all
            ·simp_all
            ·simp_all)
        ·try simp at h14
         refine zaF (fun _ => True) [] mixed ?_
         refine ahp 0 rfl rfl (by kernel_rfl) (by kernel_rfl) (zf rfl) ?_
         refine ahp 1 rfl rfl (by kernel_rfl) (by kernel_rfl) (zae rfl rfl) ?_
         refine ahp 2 rfl rfl (by kernel_rfl) (by kernel_rfl) (zf rfl) ?_
         refine ahg 3 rfl rfl (by kernel_rfl) (by kernel_rfl) rfl (fun hc => ⟨_, OpenTo.refl _, zH z8 rfl rfl rfl rfl⟩) ?_
         refine ahg 4 rfl rfl (by kernel_rfl) (by kernel_rfl) rfl (fun hc => ⟨_, OpenTo.refl _, zf rfl⟩) ?_
         refine ahg 5 rfl rfl (by kernel_rfl) (by kernel_rfl) rfl (fun hc => ⟨_, OpenTo.refl _, zf rfl⟩) ?_
         refine ahg 6 rfl rfl (by kernel_rfl) (by kernel_rfl) rfl (fun hc => by have hq := hc; (try simp at hq); exact ⟨_, OpenTo.upd (t := 48) rfl (by first | exact hc | simp_all) (OpenTo.refl _), zap rfl rfl (by omega) (by omega)⟩) ?_
         refine ahg 7 rfl rfl (by kernel_rfl) (by kernel_rfl) rfl (fun hc => by have hq := hc; (try simp at hq); exact ⟨_, OpenTo.upd (t := 49) rfl (by first | exact hc | simp_all) (OpenTo.upd (t := 47) rfl (by first | exact hc | simp_all) (OpenTo.refl _)), zW (j := k - 1) (a := l.getD (k - 1) zbN) zcg z8 rfl rfl (by omega) (getD_some (by omega))⟩) ?_
         refine ahg 8 rfl rfl (by kernel_rfl) (by kernel_rfl) rfl (fun hc => ⟨_, OpenTo.upd (t := 50) rfl (by first | exact hc | simp_all) (OpenTo.refl _), zH z8 rfl rfl rfl rfl⟩) ?_
         refine ahg 9 rfl rfl (by kernel_rfl) (by kernel_rfl) rfl (fun hc => ⟨_, OpenTo.upd (t := 51) rfl (by first | exact hc | simp_all) (OpenTo.upd (t := 46) rfl (by first | exact hc | simp_all) (OpenTo.refl _)), zo zvi rfl (WeakL.refl _) zkF⟩) ?_
         refine ahg 10 rfl rfl (by kernel_rfl) (by kernel_rfl) rfl (fun hc => ⟨_, OpenTo.upd (t := 52) rfl (by first | exact hc | simp_all) (OpenTo.refl _), zcX rfl rfl⟩) ?_
         refine ahp 11 rfl rfl (by kernel_rfl) (by kernel_rfl) (zA rfl (.inr ⟨_, rfl, fun h => by simp_all⟩) (.inl rfl)) ?_
         refine ahp 12 rfl rfl (by kernel_rfl) (by kernel_rfl) (zar rfl) ?_
         refine ahz (by kernel_rfl) ?_
         refine zi rfl (fun h15 => ?_) (fun h16 => ?_)
         ·try simp at h15
          refine za ?_
          refine das rfl ?_
          refine dn ?_
          refine zl ?_
          refine zD rfl ?_
          show HVal.int .i64 _ = _
          first
          | (rw [zch, if_pos (by simpa using h1)]; done)
          | (rw [hE]; exact congrArg _ (zcn (by omega)))
          | (rw [hE]; exact congrArg _ (zcl (by omega) hg))
          | (rw [hE]
             refine congrArg _ (zag (e := 5) (by omega) hg (by decide) ?_)
             rw [zan, if_pos]
             simp_all
             done)
          | (rw [hE]
             refine congrArg _ (zag (e := 8) (by omega) hg (by decide) ?_)
             rw [zan, if_neg, if_pos]
             all_goals simp_all
             done)
          | (rw [hE]
             refine congrArg _ (zag (e := 1) (by omega) hg (by decide) ?_)
             rw [zan, if_neg, if_neg, if_pos]
             all_goals simp_all
             done)
          | (rw [hE]
             refine congrArg _ (zag (e := 4) (by omega) hg (by decide) ?_)
             rw [zan, if_neg, if_neg, if_neg, if_pos]
             all_goals simp_all
             done)
          | (rw [hE]
             refine congrArg _ (zcq (by omega) hg ?_ ?_ ?_)
             ·rw [zan, if_neg, if_neg, if_neg, if_neg] <;> simp_all
             ·simp_all
             ·simp_all)
         ·try simp at h16
          refine zm ?_
          refine zy ?_
          refine zy ?_
          refine zh ?_
          refine zC ?_
          refine dq (zB rfl rfl (by omega) (by omega)) ?_
          refine dmv rfl ?_
          refine dn ?_
          refine ⟨k + 1, ?_, ?_, ⟨rfl, trivial⟩, (by repeat (first | exact zt | refine zw rfl ?_ | refine zu rfl rfl ?_)), List.Perm.refl _⟩
          ·refine ⟨by omega, ?_⟩
           rw [hg, zor (by rw [zan, if_neg (by simp_all), if_neg (by simp_all), if_neg (by simp_all), if_neg (by simp_all)]) (by intro hk0; simp_all)]
          ·dsimp only; omega
    ·try simp at h6
     have hnk : l.length ≤ k := by omega
     obtain rfl : k = l.length := by omega
     rw [zaV (Nat.le_refl _)] at hg
     refine zX ?_
     refine z7 ?_
     refine zaw ?_
     refine zO ?_
     refine zh ?_
     refine za ?_
     refine das rfl ?_
     refine dn ?_
     refine zl ?_
     refine zD rfl ?_
     show HVal.int .i64 _ = _
     first
     | (rw [zch, if_pos (by simpa using h1)]; done)
     | (rw [hE]; exact congrArg _ (zcn (by omega)))
     | (rw [hE]; exact congrArg _ (zcl (by omega) hg))
     | (rw [hE]
        refine congrArg _ (zag (e := 5) (by omega) hg (by decide) ?_)
        rw [zan, if_pos]
        simp_all
        done)
     | (rw [hE]
        refine congrArg _ (zag (e := 8) (by omega) hg (by decide) ?_)
        rw [zan, if_neg, if_pos]
        all_goals simp_all
        done)
     | (rw [hE]
        refine congrArg _ (zag (e := 1) (by omega) hg (by decide) ?_)
        rw [zan, if_neg, if_neg, if_pos]
        all_goals simp_all
        done)
     | (rw [hE]
        refine congrArg _ (zag (e := 4) (by omega) hg (by decide) ?_)
        rw [zan, if_neg, if_neg, if_neg, if_pos]
        all_goals simp_all
        done)
     | (rw [hE]
        refine congrArg _ (zcq (by omega) hg ?_ ?_ ?_)
        ·rw [zan, if_neg, if_neg, if_neg, if_neg] <;> simp_all
        ·simp_all
        ·simp_all)
end
section
open Go.HL
/-- benchwarmer/benchref1.MarketFault -/
theorem zgP [Tracks] {m : MarketS} (ht : m.Teams.length ≤ 1000000) (hs : ∀ s ∈ m.Teams, s.length ≤ 1000000) : ConP Tryz.prog 44 [zaM m] (.int .i64 (zaf m)) := by
 refine Con.of_body Tryz.func44 rfl Tryz.ntmps44 rfl rfl ?_
 refine za ?_
 refine dq (zas rfl rfl) ?_
 refine das rfl ?_
 refine dn ?_
 refine zj ?_
 refine zq ?_
 refine za ?_
 refine dq (zb zT rfl zP (by decide) rfl) ?_
 refine dq (zg zP rfl rfl rfl) ?_
 refine dq (zK zP rfl) ?_
 refine dq (zau rfl rfl) ?_
 refine das rfl ?_
 refine dn ?_
 refine zi rfl (fun h1 => ?_) (fun h2 => ?_)
 ·try simp at h1
  refine za ?_
  refine das rfl ?_
  refine dn ?_
  refine zl ?_
  refine zD rfl ?_
  show HVal.int .i64 _ = _
  first
  | (rw [zaf, if_pos (by simpa using h1)]; done)
  | (rw [zaf, if_neg (by simpa using h2), if_pos (by omega)]; done)
  | (rw [zaf, if_neg (by simpa using h2), if_neg (by omega), hg]; simp_all [zbk, leS]; done)
 ·try simp at h2
  refine za ?_
  refine dq (zb zT rfl zP (by decide) rfl) ?_
  refine dq (zg zP rfl rfl rfl) ?_
  refine dq (zK zP rfl) ?_
  refine dq (zae rfl rfl) ?_
  refine das rfl ?_
  refine dn ?_
  refine zi rfl (fun h3 => ?_) (fun h4 => ?_)
  ·try simp at h3
   refine za ?_
   refine das rfl ?_
   refine dn ?_
   refine zl ?_
   refine zD rfl ?_
   show HVal.int .i64 _ = _
   first
   | (rw [zaf, if_pos (by simpa using h1)]; done)
   | (rw [zaf, if_neg (by simpa using h2), if_pos (by omega)]; done)
   | (rw [zaf, if_neg (by simpa using h2), if_neg (by omega), hg]; simp_all [zbk, leS]; done)
  ·try simp at h4
   refine zm ?_
   refine zy ?_
   refine zh ?_
   refine zj ?_
   refine za ?_
   refine dq (zb zT rfl zP (by decide) rfl) ?_
   refine dq (zg zP rfl rfl rfl) ?_
   refine dq (zK zP rfl) ?_
   refine dmv rfl ?_
   refine dn ?_
   refine zq ?_
   refine zak [2, 3, 4, 18, 19, 20, 21, 22, 23, 24, 25, 26, 27, 28, 29, 30, 31, 32, 33, 34, 35, 36, 37, 38, 39, 40] (fun (k : Nat) => [(18, .int .i64 k)]) (fun (k : Nat) => []) (fun (k : Nat) => k ≤ m.Teams.length ∧ (zdX m.Teams = zbk m.Teams k (m.Teams.drop k))) (fun (k : Nat) => m.Teams.length - k) (0) ?_ ?_ ?_ ?_
   ·exact ⟨Nat.zero_le _, rfl⟩
   ·exact ⟨rfl, trivial⟩
   ·exact List.Perm.refl _
   ·intro k hinv
    obtain ⟨hk, hg⟩ := hinv
    refine za ?_
    refine dq (zS rfl rfl) ?_
    refine dn ?_
    refine zj ?_
    refine zi rfl (fun h5 => ?_) (fun h6 => ?_)
    ·try simp at h5
     obtain ⟨x, hx⟩ : ∃ x, m.Teams[k]? = some x := ⟨_, List.getElem?_eq_getElem h5⟩
     have hdx := zU hx
     rw [hdx] at hg
     refine zm ?_
     refine zh ?_
     refine zj ?_
     refine zq ?_
     refine za ?_
     refine dmv rfl ?_
     refine dq (zW zP ty9 rfl rfl rfl (by first | assumption | simp_all)) ?_
     refine dq (zg ty9 rfl rfl rfl) ?_
     refine das rfl ?_
     refine das rfl ?_
     refine dn ?_
     refine zq ?_
     refine za ?_
     refine dmv rfl ?_
     refine dq (zo zlP rfl (WeakL.refl _) (zcA (hs x (List.mem_of_getElem? hx)))) ?_
     refine dq (zac rfl) ?_
     refine das rfl ?_
     refine dn ?_
     refine zi rfl (fun h7 => ?_) (fun h8 => ?_)
     ·try simp at h7
      refine za ?_
      refine das rfl ?_
      refine dn ?_
      refine zl ?_
      refine zD rfl ?_
      show HVal.int .i64 _ = _
      first
      | (rw [zaf, if_pos (by simpa using h1)]; done)
      | (rw [zaf, if_neg (by simpa using h2), if_pos (by omega)]; done)
      | (rw [zaf, if_neg (by simpa using h2), if_neg (by omega), hg]; simp_all [zbk, leS]; done)
     ·try simp at h8
      refine za ?_
      refine dmv rfl ?_
      refine dq (zae rfl rfl) ?_
      refine dmv rfl ?_
      refine dg rfl rfl (fun hc => ⟨_, OpenTo.refl _, zf rfl⟩) ?_
      refine dg rfl rfl (fun hc => ⟨_, OpenTo.refl _, zb zT rfl zP (by decide) rfl⟩) ?_
      refine dg rfl rfl (fun hc => ⟨_, OpenTo.upd (t := 32) rfl (by first | exact hc | simp_all) (OpenTo.refl _), zg zP rfl rfl rfl⟩) ?_
      refine dg rfl rfl (fun hc => ⟨_, OpenTo.refl _, zf rfl⟩) ?_
      refine dg rfl rfl (fun hc => by have hq := hc; (try simp at hq); exact ⟨_, OpenTo.upd (t := 34) rfl (by first | exact hc | simp_all) (OpenTo.refl _), zap rfl rfl (by omega) (by omega)⟩) ?_
      refine dg rfl rfl (fun hc => by have hq := hc; (try simp at hq); exact ⟨_, OpenTo.upd (t := 35) rfl (by first | exact hc | simp_all) (OpenTo.upd (t := 33) rfl (by first | exact hc | simp_all) (OpenTo.refl _)), zW (j := k - 1) (a := m.Teams.getD (k - 1) []) zP ty9 rfl rfl (by omega) (getD_some (by omega))⟩) ?_
      refine dg rfl rfl (fun hc => ⟨_, OpenTo.upd (t := 36) rfl (by first | exact hc | simp_all) (OpenTo.refl _), zg ty9 rfl rfl rfl⟩) ?_
      refine dg rfl rfl (fun hc => ⟨_, OpenTo.upd (t := 37) rfl (by first | exact hc | simp_all) (OpenTo.upd (t := 31) rfl (by first | exact hc | simp_all) (OpenTo.refl _)), zdt rfl rfl⟩) ?_
      refine dq (zA rfl (.inr ⟨_, rfl, fun h => by simp_all⟩) (.inl rfl)) ?_
      refine das rfl ?_
      refine dn ?_
      refine zi rfl (fun h9 => ?_) (fun h10 => ?_)
      ·try simp at h9
       refine za ?_
       refine das rfl ?_
       refine dn ?_
       refine zl ?_
       refine zD rfl ?_
       show HVal.int .i64 _ = _
       first
       | (rw [zaf, if_pos (by simpa using h1)]; done)
       | (rw [zaf, if_neg (by simpa using h2), if_pos (by omega)]; done)
       | (rw [zaf, if_neg (by simpa using h2), if_neg (by omega), hg]; simp_all [zbk, leS]; done)
      ·try simp at h10
       refine zm ?_
       refine zy ?_
       refine zy ?_
       refine zh ?_
       refine zC ?_
       refine dq (zB rfl rfl (by omega) (by omega)) ?_
       refine dmv rfl ?_
       refine dn ?_
       refine ⟨k + 1, ?_, ?_, ⟨rfl, trivial⟩, (by repeat (first | exact zt | refine zw rfl ?_ | refine zu rfl rfl ?_)), List.Perm.refl _⟩
       ·refine ⟨by omega, ?_⟩
        rw [hg]; simp_all [zbk, leS]
       ·dsimp only; omega
    ·try simp at h6
     have hnk : m.Teams.length ≤ k := by omega
     obtain rfl : k = m.Teams.length := by omega
     rw [zaV (Nat.le_refl _)] at hg
     refine zX ?_
     refine z7 ?_
     refine zaw ?_
     refine zO ?_
     refine zh ?_
     refine zj ?_
     refine za ?_
     refine dq (zb zT rfl ty3 (by decide) rfl) ?_
     refine dq (zg ty3 rfl rfl rfl) ?_
     refine dq (zo zjc rfl (WeakL.refl _) zb7) ?_
     refine dq (zac rfl) ?_
     refine dmv rfl ?_
     refine dg rfl rfl (fun hc => ⟨_, OpenTo.refl _, zb zT rfl ty3 (by decide) rfl⟩) ?_
     refine dg rfl rfl (fun hc => ⟨_, OpenTo.upd (t := 46) rfl (by first | exact hc | simp_all) (OpenTo.refl _), zg ty3 rfl rfl rfl⟩) ?_
     refine dg rfl rfl (fun hc => ⟨_, OpenTo.upd (t := 47) rfl (by first | exact hc | simp_all) (OpenTo.refl _), zo zjc rfl (WeakL.refl _) zb7⟩) ?_
     refine dg rfl rfl (fun hc => ⟨_, OpenTo.upd (t := 48) rfl (by first | exact hc | simp_all) (OpenTo.refl _), zac rfl⟩) ?_
     refine dq (zA rfl (.inl rfl) (.inr ⟨_, rfl, fun h => by simp_all⟩)) ?_
     refine dmv rfl ?_
     refine dg rfl rfl (fun hc => ⟨_, OpenTo.refl _, zb zT rfl ty3 (by decide) rfl⟩) ?_
     refine dg rfl rfl (fun hc => ⟨_, OpenTo.upd (t := 52) rfl (by first | exact hc | simp_all) (OpenTo.refl _), zg ty3 rfl rfl rfl⟩) ?_
     refine dg rfl rfl (fun hc => ⟨_, OpenTo.upd (t := 53) rfl (by first | exact hc | simp_all) (OpenTo.refl _), zo zjc rfl (WeakL.refl _) zb7⟩) ?_
     refine dg rfl rfl (fun hc => ⟨_, OpenTo.upd (t := 54) rfl (by first | exact hc | simp_all) (OpenTo.refl _), zac rfl⟩) ?_
     refine dq (zA rfl (.inl rfl) (.inr ⟨_, rfl, fun h => by simp_all⟩)) ?_
     refine dmv rfl ?_
     refine dg rfl rfl (fun hc => ⟨_, OpenTo.refl _, zb zT rfl ty3 (by decide) rfl⟩) ?_
     refine dg rfl rfl (fun hc => ⟨_, OpenTo.upd (t := 58) rfl (by first | exact hc | simp_all) (OpenTo.refl _), zg ty3 rfl rfl rfl⟩) ?_
     refine dg rfl rfl (fun hc => ⟨_, OpenTo.refl _, zb zT rfl ty3 (by decide) rfl⟩) ?_
     refine dg rfl rfl (fun hc => ⟨_, OpenTo.upd (t := 60) rfl (by first | exact hc | simp_all) (OpenTo.refl _), zg ty3 rfl rfl rfl⟩) ?_
     refine dg rfl rfl (fun hc => ⟨_, OpenTo.upd (t := 61) rfl (by first | exact hc | simp_all) (OpenTo.upd (t := 59) rfl (by first | exact hc | simp_all) (OpenTo.refl _)), zo zjc rfl (WeakL.refl _) zb7⟩) ?_
     refine dg rfl rfl (fun hc => ⟨_, OpenTo.upd (t := 62) rfl (by first | exact hc | simp_all) (OpenTo.refl _), zac rfl⟩) ?_
     refine dq (zA rfl (.inl rfl) (.inr ⟨_, rfl, fun h => by simp_all⟩)) ?_
     refine dmv rfl ?_
     refine dg rfl rfl (fun hc => ⟨_, OpenTo.refl _, zb zT rfl ty3 (by decide) rfl⟩) ?_
     refine dg rfl rfl (fun hc => ⟨_, OpenTo.upd (t := 66) rfl (by first | exact hc | simp_all) (OpenTo.refl _), zg ty3 rfl rfl rfl⟩) ?_
     refine dg rfl rfl (fun hc => ⟨_, OpenTo.upd (t := 67) rfl (by first | exact hc | simp_all) (OpenTo.refl _), zae rfl rfl⟩) ?_
     refine dq (zA rfl (.inl rfl) (.inr ⟨_, rfl, fun h => by simp_all⟩)) ?_
     refine dn ?_
     refine zi rfl (fun h11 => ?_) (fun h12 => ?_)
     ·try simp at h11
      refine za ?_
      refine das rfl ?_
      refine dn ?_
      refine zl ?_
      refine zD rfl ?_
      show HVal.int .i64 _ = _
      first
      | (rw [zaf, if_pos (by simpa using h1)]; done)
      | (rw [zaf, if_neg (by simpa using h2), if_pos (by omega)]; done)
      | (rw [zaf, if_neg (by simpa using h2), if_neg (by omega), hg]; simp_all [zbk, leS]; done)
     ·try simp at h12
      refine zm ?_
      refine zh ?_
      refine za ?_
      refine das rfl ?_
      refine dn ?_
      refine zl ?_
      refine zD rfl ?_
      show HVal.int .i64 _ = _
      first
      | (rw [zaf, if_pos (by simpa using h1)]; done)
      | (rw [zaf, if_neg (by simpa using h2), if_pos (by omega)]; done)
      | (rw [zaf, if_neg (by simpa using h2), if_neg (by omega), hg]; simp_all [zbk, leS]; done)

/-- benchwarmer/benchref1.hasTeam -/
theorem zci [Tracks] {m : MarketS} {t : Str} (ht : m.Teams.length ≤ 1000000) : ConP Tryz.prog 76 [zaM m, .str t] (.bool (m.Teams.contains t)) := by
 refine Con.of_body Tryz.func76 rfl Tryz.ntmps76 rfl rfl ?_
 refine za ?_
 refine dq (zas rfl rfl) ?_
 refine das rfl ?_
 refine dn ?_
 refine za ?_
 refine dq (zb zT rfl zP (by decide) rfl) ?_
 refine dq (zg zP rfl rfl rfl) ?_
 refine dmv rfl ?_
 refine dq (zo ziZ rfl (WeakL.refl _) (zaL (l := m.Teams) (s := t) (by omega))) ?_
 refine das rfl ?_
 refine dn ?_
 refine zl ?_
 refine zD rfl ?_
 rfl

/-- benchwarmer/benchref1.fits -/
theorem zko [Tracks] {m : MarketS} {o : List OwnerS} (ht : m.Teams.length ≤ 1000000) (ho : o.length ≤ 1000000) : ConP Tryz.prog 77 [zaM m, za8 o] (.bool (zfd m o)) := by
 refine Con.of_body Tryz.func77 rfl Tryz.ntmps77 rfl rfl ?_
 refine za ?_
 refine dq (zas rfl rfl) ?_
 refine das rfl ?_
 refine dn ?_
 refine zj ?_
 refine za ?_
 refine dq (zb zT rfl zP (by decide) rfl) ?_
 refine dq (zg zP rfl rfl rfl) ?_
 refine dq (zK zP rfl) ?_
 refine dmv rfl ?_
 refine dn ?_
 refine zq ?_
 refine zak [4, 6, 7, 9, 13, 14, 15, 16, 17, 18, 19, 20, 21, 22, 23, 24, 25, 26, 27, 28, 29, 30, 31, 32, 33, 34, 35, 36, 37] (fun (k : Nat) => [(13, .int .i64 k)]) (fun (k : Nat) => []) (fun (k : Nat) => k ≤ m.Teams.length ∧ (zfd m o = (m.Teams.drop k).all fun t => !(out (zdC o t) m.Least m.Most))) (fun (k : Nat) => m.Teams.length - k) (0) ?_ ?_ ?_ ?_
 ·exact ⟨Nat.zero_le _, rfl⟩
 ·exact ⟨rfl, trivial⟩
 ·exact List.Perm.refl _
 ·intro k hinv
  obtain ⟨hk, hg⟩ := hinv
  refine za ?_
  refine dq (zS rfl rfl) ?_
  refine dn ?_
  refine zj ?_
  refine zi rfl (fun h1 => ?_) (fun h2 => ?_)
  ·try simp at h1
   obtain ⟨x, hx⟩ : ∃ x, m.Teams[k]? = some x := ⟨_, List.getElem?_eq_getElem h1⟩
   have hdx := zU hx
   rw [hdx, List.all_cons] at hg
   refine zm ?_
   refine zh ?_
   refine zj ?_
   refine zq ?_
   refine za ?_
   refine dq (zW zP ty9 rfl rfl rfl (by first | assumption | simp_all)) ?_
   refine dq (zg ty9 rfl rfl rfl) ?_
   refine das rfl ?_
   refine dn ?_
   refine za ?_
   refine das rfl ?_
   refine dn ?_
   refine zj ?_
   refine za ?_
   refine dmv rfl ?_
   refine dq (zK zaN rfl) ?_
   refine dmv rfl ?_
   refine dn ?_
   refine zq ?_
   refine zak [7, 9, 19, 20, 21, 22, 23, 24, 25, 26, 27, 28, 29] (fun (j : Nat) => [(19, .int .i64 j), (7, .int .i64 (zdC (o.take j) x))]) (fun (j : Nat) => []) (fun (j : Nat) => j ≤ o.length ∧ (True)) (fun (j : Nat) => o.length - j) (0) ?_ ?_ ?_ ?_
   ·exact ⟨Nat.zero_le _, trivial⟩
   ·exact ⟨rfl, rfl, trivial⟩
   ·exact List.Perm.refl _
   ·intro j hinv
    obtain ⟨hj, -⟩ := hinv
    refine za ?_
    refine dq (zS rfl rfl) ?_
    refine dn ?_
    refine zj ?_
    refine zi rfl (fun h3 => ?_) (fun h4 => ?_)
    ·try simp at h3
     obtain ⟨y, hy⟩ : ∃ y, o[j]? = some y := ⟨_, List.getElem?_eq_getElem h3⟩
     have hdy := zU hy
     refine zm ?_
     refine zh ?_
     refine zj ?_
     refine zq ?_
     refine za ?_
     refine dq (zW zaN zaj rfl rfl rfl (by first | assumption | simp_all)) ?_
     refine dq (zH zaj rfl rfl rfl rfl) ?_
     refine de rfl (zY zaj rfl fun b9 => ?_)
     refine de0 (zad zaj rfl rfl rfl rfl rfl ?_)
     refine dn ?_
     refine zL (Ghost.fc0 9 rfl) ?_
     refine za ?_
     refine dq (zb zaj rfl ty9 (by decide) rfl) ?_
     refine dq (zg ty9 rfl rfl rfl) ?_
     refine dmv rfl ?_
     refine dq (zbt rfl rfl) ?_
     refine dn ?_
     refine zi rfl (fun h5 => ?_) (fun h6 => ?_)
     ·try simp at h5
      refine zC ?_
      refine dmv rfl ?_
      have hcb := zpb (o.take j) x
      rw [List.length_take] at hcb
      refine dq (zB rfl rfl (by omega) (by omega)) ?_
      refine das rfl ?_
      refine dn ?_
      refine zy ?_
      refine zh ?_
      refine zC ?_
      refine dq (zB rfl rfl (by omega) (by omega)) ?_
      refine dmv rfl ?_
      refine dn ?_
      exact ⟨j + 1, ⟨by omega, trivial⟩, by dsimp only; omega, ⟨rfl, zcG (by rw [zkw o x j y hy, if_pos (by simp_all)]), trivial⟩, (by repeat (first | exact zt | refine zw rfl ?_ | refine zu rfl rfl ?_)), List.Perm.refl _⟩
     ·try simp at h6
      refine zm ?_
      refine zy ?_
      refine zh ?_
      refine zC ?_
      refine dq (zB rfl rfl (by omega) (by omega)) ?_
      refine dmv rfl ?_
      refine dn ?_
      exact ⟨j + 1, ⟨by omega, trivial⟩, by dsimp only; omega, ⟨rfl, zcG (by rw [zkw o x j y hy, if_neg (by simp_all), Int.add_zero]), trivial⟩, (by repeat (first | exact zt | refine zw rfl ?_ | refine zu rfl rfl ?_)), List.Perm.refl _⟩
    ·try simp at h4
     have hnj : o.length ≤ j := by omega
     obtain rfl : j = o.length := by omega
     rw [List.take_length]
     refine zX ?_
     refine z7 ?_
     refine zaw ?_
     refine zO ?_
     refine zh ?_
     refine za ?_
     refine dmv rfl ?_
     refine dq (zb zT rfl ty3 (by decide) rfl) ?_
     refine dq (zg ty3 rfl rfl rfl) ?_
     refine dq (zb zT rfl ty3 (by decide) rfl) ?_
     refine dq (zg ty3 rfl rfl rfl) ?_
     refine dq (zo zjc rfl (WeakL.refl _) zb7) ?_
     refine dq (zac rfl) ?_
     refine dn ?_
     refine zi rfl (fun h7 => ?_) (fun h8 => ?_)
     ·try simp at h7
      refine za ?_
      refine das rfl ?_
      refine dn ?_
      refine zl ?_
      refine zD rfl ?_
      show HVal.bool _ = _
      rw [hg]; simp_all
     ·try simp at h8
      refine zm ?_
      refine zy ?_
      refine zh ?_
      refine zC ?_
      refine dq (zB rfl rfl (by omega) (by omega)) ?_
      refine dmv rfl ?_
      refine dn ?_
      refine ⟨k + 1, ?_, ?_, ⟨rfl, trivial⟩, (by repeat (first | exact zt | refine zw rfl ?_ | refine zu rfl rfl ?_)), List.Perm.refl _⟩
      ·refine ⟨by omega, ?_⟩
       rw [hg]; simp_all
      ·dsimp only; omega
  ·try simp at h2
   have hnk : m.Teams.length ≤ k := by omega
   obtain rfl : k = m.Teams.length := by omega
   rw [zaV (Nat.le_refl _)] at hg
   refine zX ?_
   refine z7 ?_
   refine zaw ?_
   refine zO ?_
   refine zh ?_
   refine za ?_
   refine das rfl ?_
   refine dn ?_
   refine zl ?_
   refine zD rfl ?_
   show HVal.bool _ = _
   rw [hg]; simp_all

/-- benchwarmer/benchref1.OwnersFault -/
theorem zgU [Tracks] {m : MarketS} {o : List OwnerS} (ht : m.Teams.length ≤ 1000000) (ho : o.length ≤ 1000000) (hs : ∀ x ∈ o, x.Player.length ≤ 1000000) : ConP Tryz.prog 45 [zaM m, za8 o] (.int .i64 (zb9 m o)) := by
 refine Con.of_body Tryz.func45 rfl Tryz.ntmps45 rfl rfl ?_
 refine za ?_
 refine dq (zas rfl rfl) ?_
 refine das rfl ?_
 refine dn ?_
 refine zj ?_
 refine za ?_
 refine dmv rfl ?_
 refine dq (zK zaN rfl) ?_
 refine dq (zae rfl rfl) ?_
 refine dn ?_
 refine zi rfl (fun h1 => ?_) (fun h2 => ?_)
 ·try simp at h1
  refine za ?_
  refine das rfl ?_
  refine dn ?_
  refine zl ?_
  refine zD rfl ?_
  show HVal.int .i64 _ = _
  first
  | (exact congrArg _ (zcW (by omega)))
  | (rw [← zcY (by omega) hg]; simp_all; done)
  | (refine congrArg _ (zbm (e := 5) (by omega) hg (by decide) ?_)
     rw [za0, if_pos]
     simp_all
     done)
  | (refine congrArg _ (zbm (e := 8) (by omega) hg (by decide) ?_)
     rw [za0, if_neg, if_pos]
     all_goals simp_all
     done)
  | (refine congrArg _ (zcV (by omega) hg ?_ ?_ ?_)
     ·rw [za0, if_neg, if_neg] <;> simp_all
     ·simp_all
     ·simp_all)
 ·try simp at h2
  refine zm ?_
  refine zh ?_
  refine zj ?_
  refine za ?_
  refine dmv rfl ?_
  refine dq (zK zaN rfl) ?_
  refine dmv rfl ?_
  refine dn ?_
  refine zq ?_
  refine zak [4, 5, 6, 12, 13, 14, 15, 16, 17, 18, 19, 20, 21, 22, 23, 24, 25, 26, 27, 28, 29, 30, 31, 32, 33, 34, 35, 36, 37, 38, 39, 40, 41, 42] (fun (k : Nat) => [(12, .int .i64 k)]) (fun (k : Nat) => []) (fun (k : Nat) => k ≤ o.length ∧ (zdd m o = zax (za0 m) zd6 zb1 o k (o.drop k))) (fun (k : Nat) => o.length - k) (0) ?_ ?_ ?_ ?_
  ·exact ⟨Nat.zero_le _, rfl⟩
  ·exact ⟨rfl, trivial⟩
  ·exact List.Perm.refl _
  ·intro k hinv
   obtain ⟨hk, hg⟩ := hinv
   refine za ?_
   refine dq (zS rfl rfl) ?_
   refine dn ?_
   refine zj ?_
   refine zi rfl (fun h3 => ?_) (fun h4 => ?_)
   ·try simp at h3
    obtain ⟨x, hx⟩ : ∃ x, o[k]? = some x := ⟨_, List.getElem?_eq_getElem h3⟩
    have hdx := zU hx
    rw [hdx] at hg
    refine zm ?_
    refine zh ?_
    refine zj ?_
    refine zq ?_
    refine za ?_
    refine dmv rfl ?_
    refine dq (zW zaN zaj rfl rfl rfl (by first | assumption | simp_all)) ?_
    refine dq (zH zaj rfl rfl rfl rfl) ?_
    refine de rfl (zY zaj rfl fun b6 => ?_)
    refine das rfl ?_
    refine de0 (zad zaj rfl rfl rfl rfl rfl ?_)
    refine dn ?_
    refine zL (Ghost.fc0 6 rfl) ?_
    refine zq ?_
    refine za ?_
    refine dq (zb zaj rfl ty9 (by decide) rfl) ?_
    refine dq (zg ty9 rfl rfl rfl) ?_
    refine dq (zo zlP rfl (WeakL.refl _) (zcA (hs x (List.mem_of_getElem? hx)))) ?_
    refine dq (zac rfl) ?_
    refine das rfl ?_
    refine dn ?_
    refine zi rfl (fun h5 => ?_) (fun h6 => ?_)
    ·try simp at h5
     refine za ?_
     refine das rfl ?_
     refine dn ?_
     refine zl ?_
     refine zD rfl ?_
     show HVal.int .i64 _ = _
     first
     | (exact congrArg _ (zcW (by omega)))
     | (rw [← zcY (by omega) hg]; simp_all; done)
     | (refine congrArg _ (zbm (e := 5) (by omega) hg (by decide) ?_)
        rw [za0, if_pos]
        simp_all
        done)
     | (refine congrArg _ (zbm (e := 8) (by omega) hg (by decide) ?_)
        rw [za0, if_neg, if_pos]
        all_goals simp_all
        done)
     | (refine congrArg _ (zcV (by omega) hg ?_ ?_ ?_)
        ·rw [za0, if_neg, if_neg] <;> simp_all
        ·simp_all
        ·simp_all)
    ·try simp at h6
     refine za ?_
     refine dq (zH zT rfl rfl rfl rfl) ?_
     refine dq (zb zaj rfl ty9 (by decide) rfl) ?_
     refine dq (zg ty9 rfl rfl rfl) ?_
     refine dq (zo zoA rfl (WeakL.refl _) (zci (by first | assumption | omega | (simp; omega) | simp_all))) ?_
     refine dq (zac rfl) ?_
     refine das rfl ?_
     refine dn ?_
     refine zi rfl (fun h7 => ?_) (fun h8 => ?_)
     ·try simp at h7
      refine za ?_
      refine das rfl ?_
      refine dn ?_
      refine zl ?_
      refine zD rfl ?_
      show HVal.int .i64 _ = _
      first
      | (exact congrArg _ (zcW (by omega)))
      | (rw [← zcY (by omega) hg]; simp_all; done)
      | (refine congrArg _ (zbm (e := 5) (by omega) hg (by decide) ?_)
         rw [za0, if_pos]
         simp_all
         done)
      | (refine congrArg _ (zbm (e := 8) (by omega) hg (by decide) ?_)
         rw [za0, if_neg, if_pos]
         all_goals simp_all
         done)
      | (refine congrArg _ (zcV (by omega) hg ?_ ?_ ?_)
         ·rw [za0, if_neg, if_neg] <;> simp_all
         ·simp_all
         ·simp_all)
     ·try simp at h8
      refine zaF (fun _ => True) [] mixed ?_
      refine ahp 0 rfl rfl (by kernel_rfl) (by kernel_rfl) (zf rfl) ?_
      refine ahp 1 rfl rfl (by kernel_rfl) (by kernel_rfl) (zae rfl rfl) ?_
      refine ahp 2 rfl rfl (by kernel_rfl) (by kernel_rfl) (zf rfl) ?_
      refine ahg 3 rfl rfl (by kernel_rfl) (by kernel_rfl) rfl (fun hc => ⟨_, OpenTo.refl _, zb zaj rfl ty9 (by decide) rfl⟩) ?_
      refine ahg 4 rfl rfl (by kernel_rfl) (by kernel_rfl) rfl (fun hc => ⟨_, OpenTo.upd (t := 32) rfl (by first | exact hc | simp_all) (OpenTo.refl _), zg ty9 rfl rfl rfl⟩) ?_
      refine ahg 5 rfl rfl (by kernel_rfl) (by kernel_rfl) rfl (fun hc => ⟨_, OpenTo.refl _, zf rfl⟩) ?_
      refine ahg 6 rfl rfl (by kernel_rfl) (by kernel_rfl) rfl (fun hc => ⟨_, OpenTo.refl _, zf rfl⟩) ?_
      refine ahg 7 rfl rfl (by kernel_rfl) (by kernel_rfl) rfl (fun hc => by have hq := hc; (try simp at hq); exact ⟨_, OpenTo.upd (t := 35) rfl (by first | exact hc | simp_all) (OpenTo.refl _), zap rfl rfl (by omega) (by omega)⟩) ?_
      refine ahg 8 rfl rfl (by kernel_rfl) (by kernel_rfl) rfl (fun hc => by have hq := hc; (try simp at hq); exact ⟨_, OpenTo.upd (t := 36) rfl (by first | exact hc | simp_all) (OpenTo.upd (t := 34) rfl (by first | exact hc | simp_all) (OpenTo.refl _)), zW (j := k - 1) (a := o.getD (k - 1) zb1) zaN zaj rfl rfl (by omega) (getD_some (by omega))⟩) ?_
      refine ahg 9 rfl rfl (by kernel_rfl) (by kernel_rfl) rfl (fun hc => ⟨_, OpenTo.upd (t := 37) rfl (by first | exact hc | simp_all) (OpenTo.refl _), zb zaj rfl ty9 (by decide) rfl⟩) ?_
      refine ahg 10 rfl rfl (by kernel_rfl) (by kernel_rfl) rfl (fun hc => ⟨_, OpenTo.upd (t := 38) rfl (by first | exact hc | simp_all) (OpenTo.refl _), zg ty9 rfl rfl rfl⟩) ?_
      refine ahg 11 rfl rfl (by kernel_rfl) (by kernel_rfl) rfl (fun hc => ⟨_, OpenTo.upd (t := 39) rfl (by first | exact hc | simp_all) (OpenTo.upd (t := 33) rfl (by first | exact hc | simp_all) (OpenTo.refl _)), zdt rfl rfl⟩) ?_
      refine ahp 12 rfl rfl (by kernel_rfl) (by kernel_rfl) (zA rfl (.inr ⟨_, rfl, fun h => by simp_all⟩) (.inl rfl)) ?_
      refine ahp 13 rfl rfl (by kernel_rfl) (by kernel_rfl) (zar rfl) ?_
      refine ahz (by kernel_rfl) ?_
      refine zi rfl (fun h9 => ?_) (fun h10 => ?_)
      ·try simp at h9
       refine za ?_
       refine das rfl ?_
       refine dn ?_
       refine zl ?_
       refine zD rfl ?_
       show HVal.int .i64 _ = _
       first
       | (exact congrArg _ (zcW (by omega)))
       | (rw [← zcY (by omega) hg]; simp_all; done)
       | (refine congrArg _ (zbm (e := 5) (by omega) hg (by decide) ?_)
          rw [za0, if_pos]
          simp_all
          done)
       | (refine congrArg _ (zbm (e := 8) (by omega) hg (by decide) ?_)
          rw [za0, if_neg, if_pos]
          all_goals simp_all
          done)
       | (refine congrArg _ (zcV (by omega) hg ?_ ?_ ?_)
          ·rw [za0, if_neg, if_neg] <;> simp_all
          ·simp_all
          ·simp_all)
      ·try simp at h10
       refine zm ?_
       refine zy ?_
       refine zy ?_
       refine zh ?_
       refine zC ?_
       refine dq (zB rfl rfl (by omega) (by omega)) ?_
       refine dmv rfl ?_
       refine dn ?_
       refine ⟨k + 1, ?_, ?_, ⟨rfl, trivial⟩, (by repeat (first | exact zt | refine zw rfl ?_ | refine zu rfl rfl ?_)), List.Perm.refl _⟩
       ·refine ⟨by omega, ?_⟩
        rw [hg, znH (by rw [za0, if_neg (by simp_all), if_neg (by simp_all)]) (by intro hk0; simp_all)]
       ·dsimp only; omega
   ·try simp at h4
    have hnk : o.length ≤ k := by omega
    obtain rfl : k = o.length := by omega
    rw [zaV (Nat.le_refl _)] at hg
    refine zX ?_
    refine z7 ?_
    refine zaw ?_
    refine zO ?_
    refine zh ?_
    refine zj ?_
    refine za ?_
    refine dq (zH zT rfl rfl rfl rfl) ?_
    refine dmv rfl ?_
    refine dq (zo ca77 rfl (WeakL.refl _) (zko (by first | assumption | omega | (simp; omega) | simp_all) (by first | assumption | omega | (simp; omega) | simp_all))) ?_
    refine dq (zac rfl) ?_
    refine dn ?_
    refine zi rfl (fun h11 => ?_) (fun h12 => ?_)
    ·try simp at h11
     refine za ?_
     refine das rfl ?_
     refine dn ?_
     refine zl ?_
     refine zD rfl ?_
     show HVal.int .i64 _ = _
     first
     | (exact congrArg _ (zcW (by omega)))
     | (rw [← zcY (by omega) hg]; simp_all; done)
     | (refine congrArg _ (zbm (e := 5) (by omega) hg (by decide) ?_)
        rw [za0, if_pos]
        simp_all
        done)
     | (refine congrArg _ (zbm (e := 8) (by omega) hg (by decide) ?_)
        rw [za0, if_neg, if_pos]
        all_goals simp_all
        done)
     | (refine congrArg _ (zcV (by omega) hg ?_ ?_ ?_)
        ·rw [za0, if_neg, if_neg] <;> simp_all
        ·simp_all
        ·simp_all)
    ·try simp at h12
     refine zm ?_
     refine zh ?_
     refine za ?_
     refine das rfl ?_
     refine dn ?_
     refine zl ?_
     refine zD rfl ?_
     show HVal.int .i64 _ = _
     first
     | (exact congrArg _ (zcW (by omega)))
     | (rw [← zcY (by omega) hg]; simp_all; done)
     | (refine congrArg _ (zbm (e := 5) (by omega) hg (by decide) ?_)
        rw [za0, if_pos]
        simp_all
        done)
     | (refine congrArg _ (zbm (e := 8) (by omega) hg (by decide) ?_)
        rw [za0, if_neg, if_pos]
        all_goals simp_all
        done)
     | (refine congrArg _ (zcV (by omega) hg ?_ ?_ ?_)
        ·rw [za0, if_neg, if_neg] <;> simp_all
        ·simp_all
        ·simp_all)

/-- benchwarmer/benchref1.givesFault -/
theorem zg8 [Tracks] {m : MarketS} {l : List GiveS} (ht : m.Teams.length ≤ 1000000) (hl : l.length ≤ 1000000) (hs : ∀ x ∈ l, x.Player.length ≤ 1000000) : ConP Tryz.prog 78 [zaM m, zlu l] (.int .i64 (zaJ m l)) := by
 refine Con.of_body Tryz.func78 rfl Tryz.ntmps78 rfl rfl ?_
 refine za ?_
 refine dq (zas rfl rfl) ?_
 refine das rfl ?_
 refine dn ?_
 refine zj ?_
 refine zq ?_
 refine za ?_
 refine dmv rfl ?_
 refine dq (zK zat rfl) ?_
 refine dq (zau rfl rfl) ?_
 refine das rfl ?_
 refine dn ?_
 refine zi rfl (fun h1 => ?_) (fun h2 => ?_)
 ·try simp at h1
  refine za ?_
  refine das rfl ?_
  refine dn ?_
  refine zl ?_
  refine zD rfl ?_
  show HVal.int .i64 _ = _
  first
  | (rw [zaJ, if_pos (by simpa using h1)]; done)
  | (rw [zaJ, if_neg (by simpa using h2), if_pos (by omega)]; done)
  | (exact congrArg _ (zcD (by simpa using h2) (by omega) hg))
  | (refine congrArg _ (zaE (e := 5) (by simpa using h2) (by omega) hg (by decide) ?_)
     rw [zaA, if_pos]
     simp_all
     done)
  | (refine congrArg _ (zaE (e := 8) (by simpa using h2) (by omega) hg (by decide) ?_)
     rw [zaA, if_neg, if_pos]
     all_goals simp_all
     done)
  | (refine congrArg _ (zaE (e := 16) (by simpa using h2) (by omega) hg (by decide) ?_)
     rw [zaA, if_neg, if_neg, if_pos]
     all_goals simp_all
     done)
  | (refine congrArg _ (zcx (by simpa using h2) (by omega) hg ?_ ?_ ?_)
     ·rw [zaA, if_neg, if_neg, if_neg] <;> simp_all
     ·simp_all
     ·simp_all)
 ·try simp at h2
  refine za ?_
  refine dmv rfl ?_
  refine dq (zK zat rfl) ?_
  refine dq (zae rfl rfl) ?_
  refine das rfl ?_
  refine dn ?_
  refine zi rfl (fun h3 => ?_) (fun h4 => ?_)
  ·try simp at h3
   refine za ?_
   refine das rfl ?_
   refine dn ?_
   refine zl ?_
   refine zD rfl ?_
   show HVal.int .i64 _ = _
   first
   | (rw [zaJ, if_pos (by simpa using h1)]; done)
   | (rw [zaJ, if_neg (by simpa using h2), if_pos (by omega)]; done)
   | (exact congrArg _ (zcD (by simpa using h2) (by omega) hg))
   | (refine congrArg _ (zaE (e := 5) (by simpa using h2) (by omega) hg (by decide) ?_)
      rw [zaA, if_pos]
      simp_all
      done)
   | (refine congrArg _ (zaE (e := 8) (by simpa using h2) (by omega) hg (by decide) ?_)
      rw [zaA, if_neg, if_pos]
      all_goals simp_all
      done)
   | (refine congrArg _ (zaE (e := 16) (by simpa using h2) (by omega) hg (by decide) ?_)
      rw [zaA, if_neg, if_neg, if_pos]
      all_goals simp_all
      done)
   | (refine congrArg _ (zcx (by simpa using h2) (by omega) hg ?_ ?_ ?_)
      ·rw [zaA, if_neg, if_neg, if_neg] <;> simp_all
      ·simp_all
      ·simp_all)
  ·try simp at h4
   refine zm ?_
   refine zy ?_
   refine zh ?_
   refine zj ?_
   refine za ?_
   refine dmv rfl ?_
   refine dq (zK zat rfl) ?_
   refine dmv rfl ?_
   refine dn ?_
   refine zq ?_
   refine zak [4, 5, 6, 17, 18, 19, 20, 21, 22, 23, 24, 25, 26, 27, 28, 29, 30, 31, 32, 33, 34, 35, 36, 37, 38, 39, 40, 41, 42, 43, 44, 45, 46, 47, 48, 49, 50, 51, 52, 53, 54, 55, 56, 57, 58, 59, 60] (fun (k : Nat) => [(17, .int .i64 k)]) (fun (k : Nat) => []) (fun (k : Nat) => k ≤ l.length ∧ (zax (zaA m) zcv zc9 l 0 l = zax (zaA m) zcv zc9 l k (l.drop k))) (fun (k : Nat) => l.length - k) (0) ?_ ?_ ?_ ?_
   ·exact ⟨Nat.zero_le _, rfl⟩
   ·exact ⟨rfl, trivial⟩
   ·exact List.Perm.refl _
   ·intro k hinv
    obtain ⟨hk, hg⟩ := hinv
    refine za ?_
    refine dq (zS rfl rfl) ?_
    refine dn ?_
    refine zj ?_
    refine zi rfl (fun h5 => ?_) (fun h6 => ?_)
    ·try simp at h5
     obtain ⟨x, hx⟩ : ∃ x, l[k]? = some x := ⟨_, List.getElem?_eq_getElem h5⟩
     have hdx := zU hx
     rw [hdx] at hg
     refine zm ?_
     refine zh ?_
     refine zj ?_
     refine zq ?_
     refine za ?_
     refine dmv rfl ?_
     refine dq (zW zat zaq rfl rfl rfl (by first | assumption | simp_all)) ?_
     refine dq (zH zaq rfl rfl rfl rfl) ?_
     refine de rfl (zY zaq rfl fun b6 => ?_)
     refine das rfl ?_
     refine de0 (zad zaq rfl rfl rfl rfl rfl ?_)
     refine dn ?_
     refine zL (Ghost.fc0 6 rfl) ?_
     refine zq ?_
     refine za ?_
     refine dq (zb zaq rfl ty9 (by decide) rfl) ?_
     refine dq (zg ty9 rfl rfl rfl) ?_
     refine dq (zo zlP rfl (WeakL.refl _) (zcA (hs x (List.mem_of_getElem? hx)))) ?_
     refine dq (zac rfl) ?_
     refine das rfl ?_
     refine dn ?_
     refine zi rfl (fun h7 => ?_) (fun h8 => ?_)
     ·try simp at h7
      refine za ?_
      refine das rfl ?_
      refine dn ?_
      refine zl ?_
      refine zD rfl ?_
      show HVal.int .i64 _ = _
      first
      | (rw [zaJ, if_pos (by simpa using h1)]; done)
      | (rw [zaJ, if_neg (by simpa using h2), if_pos (by omega)]; done)
      | (exact congrArg _ (zcD (by simpa using h2) (by omega) hg))
      | (refine congrArg _ (zaE (e := 5) (by simpa using h2) (by omega) hg (by decide) ?_)
         rw [zaA, if_pos]
         simp_all
         done)
      | (refine congrArg _ (zaE (e := 8) (by simpa using h2) (by omega) hg (by decide) ?_)
         rw [zaA, if_neg, if_pos]
         all_goals simp_all
         done)
      | (refine congrArg _ (zaE (e := 16) (by simpa using h2) (by omega) hg (by decide) ?_)
         rw [zaA, if_neg, if_neg, if_pos]
         all_goals simp_all
         done)
      | (refine congrArg _ (zcx (by simpa using h2) (by omega) hg ?_ ?_ ?_)
         ·rw [zaA, if_neg, if_neg, if_neg] <;> simp_all
         ·simp_all
         ·simp_all)
     ·try simp at h8
      refine za ?_
      refine dq (zH zT rfl rfl rfl rfl) ?_
      refine dq (zb zaq rfl ty9 (by decide) rfl) ?_
      refine dq (zg ty9 rfl rfl rfl) ?_
      refine dq (zo zoA rfl (WeakL.refl _) (zci (by first | assumption | omega | (simp; omega) | simp_all))) ?_
      refine dq (zac rfl) ?_
      refine dmv rfl ?_
      refine dg rfl rfl (fun hc => ⟨_, OpenTo.refl _, zH zT rfl rfl rfl rfl⟩) ?_
      refine dg rfl rfl (fun hc => ⟨_, OpenTo.refl _, zb zaq rfl ty9 (by decide) rfl⟩) ?_
      refine dg rfl rfl (fun hc => ⟨_, OpenTo.upd (t := 35) rfl (by first | exact hc | simp_all) (OpenTo.refl _), zg ty9 rfl rfl rfl⟩) ?_
      refine dg rfl rfl (fun hc => by have hq := hc; (try simp at hq); exact ⟨_, OpenTo.upd (t := 36) rfl (by first | exact hc | simp_all) (OpenTo.upd (t := 34) rfl (by first | exact hc | simp_all) (OpenTo.refl _)), zo zoA rfl (WeakL.refl _) (zci (by first | assumption | omega | (simp; omega) | simp_all))⟩) ?_
      refine dg rfl rfl (fun hc => ⟨_, OpenTo.upd (t := 37) rfl (by first | exact hc | simp_all) (OpenTo.refl _), zac rfl⟩) ?_
      refine dq (zA rfl (.inl rfl) (.inr ⟨_, rfl, fun h => by simp_all⟩)) ?_
      refine das rfl ?_
      refine dn ?_
      refine zi rfl (fun h9 => ?_) (fun h10 => ?_)
      ·try simp at h9
       refine za ?_
       refine das rfl ?_
       refine dn ?_
       refine zl ?_
       refine zD rfl ?_
       show HVal.int .i64 _ = _
       first
       | (rw [zaJ, if_pos (by simpa using h1)]; done)
       | (rw [zaJ, if_neg (by simpa using h2), if_pos (by omega)]; done)
       | (exact congrArg _ (zcD (by simpa using h2) (by omega) hg))
       | (refine congrArg _ (zaE (e := 5) (by simpa using h2) (by omega) hg (by decide) ?_)
          rw [zaA, if_pos]
          simp_all
          done)
       | (refine congrArg _ (zaE (e := 8) (by simpa using h2) (by omega) hg (by decide) ?_)
          rw [zaA, if_neg, if_pos]
          all_goals simp_all
          done)
       | (refine congrArg _ (zaE (e := 16) (by simpa using h2) (by omega) hg (by decide) ?_)
          rw [zaA, if_neg, if_neg, if_pos]
          all_goals simp_all
          done)
       | (refine congrArg _ (zcx (by simpa using h2) (by omega) hg ?_ ?_ ?_)
          ·rw [zaA, if_neg, if_neg, if_neg] <;> simp_all
          ·simp_all
          ·simp_all)
      ·try simp at h10
       refine za ?_
       refine dq (zb zaq rfl ty9 (by decide) rfl) ?_
       refine dq (zg ty9 rfl rfl rfl) ?_
       refine dq (zb zaq rfl ty9 (by decide) rfl) ?_
       refine dq (zg ty9 rfl rfl rfl) ?_
       refine dq (zbt rfl rfl) ?_
       refine das rfl ?_
       refine dn ?_
       refine zi rfl (fun h11 => ?_) (fun h12 => ?_)
       ·try simp at h11
        refine za ?_
        refine das rfl ?_
        refine dn ?_
        refine zl ?_
        refine zD rfl ?_
        show HVal.int .i64 _ = _
        first
        | (rw [zaJ, if_pos (by simpa using h1)]; done)
        | (rw [zaJ, if_neg (by simpa using h2), if_pos (by omega)]; done)
        | (exact congrArg _ (zcD (by simpa using h2) (by omega) hg))
        | (refine congrArg _ (zaE (e := 5) (by simpa using h2) (by omega) hg (by decide) ?_)
           rw [zaA, if_pos]
           simp_all
           done)
        | (refine congrArg _ (zaE (e := 8) (by simpa using h2) (by omega) hg (by decide) ?_)
           rw [zaA, if_neg, if_pos]
           all_goals simp_all
           done)
        | (refine congrArg _ (zaE (e := 16) (by simpa using h2) (by omega) hg (by decide) ?_)
           rw [zaA, if_neg, if_neg, if_pos]
           all_goals simp_all
           done)
        | (refine congrArg _ (zcx (by simpa using h2) (by omega) hg ?_ ?_ ?_)
           ·rw [zaA, if_neg, if_neg, if_neg] <;> simp_all
           ·simp_all
           ·simp_all)
       ·try simp at h12
        refine zaF (fun _ => True) [] mixed ?_
        refine ahp 0 rfl rfl (by kernel_rfl) (by kernel_rfl) (zf rfl) ?_
        refine ahp 1 rfl rfl (by kernel_rfl) (by kernel_rfl) (zae rfl rfl) ?_
        refine ahp 2 rfl rfl (by kernel_rfl) (by kernel_rfl) (zf rfl) ?_
        refine ahg 3 rfl rfl (by kernel_rfl) (by kernel_rfl) rfl (fun hc => ⟨_, OpenTo.refl _, zb zaq rfl ty9 (by decide) rfl⟩) ?_
        refine ahg 4 rfl rfl (by kernel_rfl) (by kernel_rfl) rfl (fun hc => ⟨_, OpenTo.upd (t := 50) rfl (by first | exact hc | simp_all) (OpenTo.refl _), zg ty9 rfl rfl rfl⟩) ?_
        refine ahg 5 rfl rfl (by kernel_rfl) (by kernel_rfl) rfl (fun hc => ⟨_, OpenTo.refl _, zf rfl⟩) ?_
        refine ahg 6 rfl rfl (by kernel_rfl) (by kernel_rfl) rfl (fun hc => ⟨_, OpenTo.refl _, zf rfl⟩) ?_
        refine ahg 7 rfl rfl (by kernel_rfl) (by kernel_rfl) rfl (fun hc => by have hq := hc; (try simp at hq); exact ⟨_, OpenTo.upd (t := 53) rfl (by first | exact hc | simp_all) (OpenTo.refl _), zap rfl rfl (by omega) (by omega)⟩) ?_
        refine ahg 8 rfl rfl (by kernel_rfl) (by kernel_rfl) rfl (fun hc => by have hq := hc; (try simp at hq); exact ⟨_, OpenTo.upd (t := 54) rfl (by first | exact hc | simp_all) (OpenTo.upd (t := 52) rfl (by first | exact hc | simp_all) (OpenTo.refl _)), zW (j := k - 1) (a := l.getD (k - 1) zc9) zat zaq rfl rfl (by omega) (getD_some (by omega))⟩) ?_
        refine ahg 9 rfl rfl (by kernel_rfl) (by kernel_rfl) rfl (fun hc => ⟨_, OpenTo.upd (t := 55) rfl (by first | exact hc | simp_all) (OpenTo.refl _), zb zaq rfl ty9 (by decide) rfl⟩) ?_
        refine ahg 10 rfl rfl (by kernel_rfl) (by kernel_rfl) rfl (fun hc => ⟨_, OpenTo.upd (t := 56) rfl (by first | exact hc | simp_all) (OpenTo.refl _), zg ty9 rfl rfl rfl⟩) ?_
        refine ahg 11 rfl rfl (by kernel_rfl) (by kernel_rfl) rfl (fun hc => ⟨_, OpenTo.upd (t := 57) rfl (by first | exact hc | simp_all) (OpenTo.upd (t := 51) rfl (by first | exact hc | simp_all) (OpenTo.refl _)), zdt rfl rfl⟩) ?_
        refine ahp 12 rfl rfl (by kernel_rfl) (by kernel_rfl) (zA rfl (.inr ⟨_, rfl, fun h => by simp_all⟩) (.inl rfl)) ?_
        refine ahp 13 rfl rfl (by kernel_rfl) (by kernel_rfl) (zar rfl) ?_
        refine ahz (by kernel_rfl) ?_
        refine zi rfl (fun h13 => ?_) (fun h14 => ?_)
        ·try simp at h13
         refine za ?_
         refine das rfl ?_
         refine dn ?_
         refine zl ?_
         refine zD rfl ?_
         show HVal.int .i64 _ = _
         first
         | (rw [zaJ, if_pos (by simpa using h1)]; done)
         | (rw [zaJ, if_neg (by simpa using h2), if_pos (by omega)]; done)
         | (exact congrArg _ (zcD (by simpa using h2) (by omega) hg))
         | (refine congrArg _ (zaE (e := 5) (by simpa using h2) (by omega) hg (by decide) ?_)
            rw [zaA, if_pos]
            simp_all
            done)
         | (refine congrArg _ (zaE (e := 8) (by simpa using h2) (by omega) hg (by decide) ?_)
            rw [zaA, if_neg, if_pos]
            all_goals simp_all
            done)
         | (refine congrArg _ (zaE (e := 16) (by simpa using h2) (by omega) hg (by decide) ?_)
            rw [zaA, if_neg, if_neg, if_pos]
            all_goals simp_all
            done)
         | (refine congrArg _ (zcx (by simpa using h2) (by omega) hg ?_ ?_ ?_)
            ·rw [zaA, if_neg, if_neg, if_neg] <;> simp_all
            ·simp_all
            ·simp_all)
        ·try simp at h14
         refine zm ?_
         refine zy ?_
         refine zy ?_
         refine zh ?_
         refine zC ?_
         refine dq (zB rfl rfl (by omega) (by omega)) ?_
         refine dmv rfl ?_
         refine dn ?_
         refine ⟨k + 1, ?_, ?_, ⟨rfl, trivial⟩, (by repeat (first | exact zt | refine zw rfl ?_ | refine zu rfl rfl ?_)), List.Perm.refl _⟩
         ·refine ⟨by omega, ?_⟩
          rw [hg, znN (by rw [zaA, if_neg (by simp_all), if_neg (by simp_all), if_neg (by simp_all)]) (by intro hk0; simp_all)]
         ·dsimp only; omega
    ·try simp at h6
     have hnk : l.length ≤ k := by omega
     obtain rfl : k = l.length := by omega
     rw [zaV (Nat.le_refl _)] at hg
     refine zX ?_
     refine z7 ?_
     refine zaw ?_
     refine zO ?_
     refine zh ?_
     refine za ?_
     refine das rfl ?_
     refine dn ?_
     refine zl ?_
     refine zD rfl ?_
     show HVal.int .i64 _ = _
     first
     | (rw [zaJ, if_pos (by simpa using h1)]; done)
     | (rw [zaJ, if_neg (by simpa using h2), if_pos (by omega)]; done)
     | (exact congrArg _ (zcD (by simpa using h2) (by omega) hg))
     | (refine congrArg _ (zaE (e := 5) (by simpa using h2) (by omega) hg (by decide) ?_)
        rw [zaA, if_pos]
        simp_all
        done)
     | (refine congrArg _ (zaE (e := 8) (by simpa using h2) (by omega) hg (by decide) ?_)
        rw [zaA, if_neg, if_pos]
        all_goals simp_all
        done)
     | (refine congrArg _ (zaE (e := 16) (by simpa using h2) (by omega) hg (by decide) ?_)
        rw [zaA, if_neg, if_neg, if_pos]
        all_goals simp_all
        done)
     | (refine congrArg _ (zcx (by simpa using h2) (by omega) hg ?_ ?_ ?_)
        ·rw [zaA, if_neg, if_neg, if_neg] <;> simp_all
        ·simp_all
        ·simp_all)

/-- benchwarmer/benchref1.concerned -/
theorem zhA [Tracks] {x : DealS} (hx : x.Gives.length ≤ 1000) : ConP Tryz.prog 59 [zii x] (eSs (zbz x.Gives)) := by
 refine Con.of_body Tryz.func59 rfl Tryz.ntmps59 rfl rfl ?_
 refine za ?_
 refine dq (zas rfl rfl) ?_
 refine das rfl ?_
 refine dn ?_
 refine za ?_
 refine das rfl ?_
 refine dn ?_
 refine zL (Ghost.arr_nil 1) ?_
 refine zj ?_
 refine za ?_
 refine dq ((by first | exact zb zam rfl zat (by decide) rfl | exact ze zam rfl zat (by decide) rfl)) ?_
 refine dq (zg zat rfl rfl rfl) ?_
 refine dq (zK zat rfl) ?_
 refine dmv rfl ?_
 refine dn ?_
 refine zq ?_
 refine zbi [3, 5, 9, 10, 11, 12, 13, 14, 15, 16, 17, 18, 19, 20] (fun (k : Nat) (u : Value) => [(9, .int .i64 k), (3, .raw u)]) (fun (k : Nat) (u : Value) => [.arr u 1 ((zcN (x.Gives.take k)).map .str)]) (fun (k : Nat) (u : Value) => k ≤ x.Gives.length ∧ (True)) (fun (k : Nat) (u : Value) => x.Gives.length - k) (0) (.slice none 0 0) ?_ ?_ ?_ ?_
 ·exact ⟨Nat.zero_le _, trivial⟩
 ·exact ⟨rfl, rfl, trivial⟩
 ·exact zR (by simp [zcN])
 ·intro k u hinv
  obtain ⟨hk, -⟩ := hinv
  refine za ?_
  refine dq (zS rfl rfl) ?_
  refine dn ?_
  refine zj ?_
  refine zi rfl (fun h1 => ?_) (fun h2 => ?_)
  ·try simp at h1
   obtain ⟨g, hg⟩ : ∃ g, x.Gives[k]? = some g := ⟨_, List.getElem?_eq_getElem h1⟩
   have hdg := zU hg
   refine zm ?_
   refine zh ?_
   refine zj ?_
   refine zq ?_
   refine za ?_
   refine dq (zW zat zaq rfl rfl rfl (by first | assumption | simp_all)) ?_
   refine dq (zH zaq rfl rfl rfl rfl) ?_
   refine de rfl (zY zaq rfl fun b5 => ?_)
   refine de0 (zad zaq rfl rfl rfl rfl rfl ?_)
   refine dn ?_
   refine zL (Ghost.fc0 5 rfl) ?_
   refine zC ?_
   refine dmv rfl ?_
   refine dq ((by first | exact zb zaq rfl ty9 (by decide) rfl | exact ze zaq rfl ty9 (by decide) rfl)) ?_
   refine dq (zg ty9 rfl rfl rfl) ?_
   refine dq ((by first | exact zb zaq rfl ty9 (by decide) rfl | exact ze zaq rfl ty9 (by decide) rfl)) ?_
   refine dq (zg ty9 rfl rfl rfl) ?_
   refine dq (zG (hs := [_, _]) zP ty9 rfl rfl (by decide) (by decide) rfl) ?_
   refine de rfl (zay (i := 0) zP ty9 rfl rfl rfl rfl rfl (by simp [zbe, zn]) (by have := zeq (x.Gives.take k); simp only [List.length_map, List.length_cons, List.length_nil, List.length_take] at *; omega) fun v19 => ?_)
   refine das rfl ?_
   refine dn ?_
   refine zy ?_
   refine zh ?_
   refine zC ?_
   refine dq (zB rfl rfl (by omega) (by omega)) ?_
   refine dmv rfl ?_
   refine dn ?_
   exact ⟨k + 1, v19, ⟨by omega, trivial⟩, by dsimp only; omega, ⟨rfl, rfl, trivial⟩, (by repeat (first | exact zt | refine zw rfl ?_ | refine zu rfl rfl ?_)), zR (by dsimp only; rw [zkd hg]; simp)⟩
  ·try simp at h2
   have hnk : x.Gives.length ≤ k := by omega
   obtain rfl : k = x.Gives.length := by omega
   rw [List.take_length]
   refine zX ?_
   refine z7 ?_
   refine zbr ?_
   refine zO ?_
   refine zh ?_
   refine zL (Ghost.fa 3 (i := 0) rfl rfl) ?_
   refine za ?_
   refine dmv rfl ?_
   refine de rfl (ze2 ca96 rfl (WeakL.refl _) (zkf (l := zcN x.Gives) (by rw [zeq]; omega)) fun v22 => ?_)
   refine das rfl ?_
   refine dn ?_
   refine zl ?_
   exact zgy (M := []) 2 rfl rfl rfl

/-- benchwarmer/benchref1.OffersFault -/
theorem zgQ [Tracks] {m : MarketS} {l : List DealS} (ht : m.Teams.length ≤ 1000000) (hl : l.length ≤ 1000000) (hx : ∀ x ∈ l, x.Id.length ≤ 1000000 ∧ x.Gives.length ≤ 1000000 ∧ ∀ g ∈ x.Gives, g.Player.length ≤ 1000000) : ConP Tryz.prog 46 [zaM m, zec l] (.int .i64 (zcK m l)) := by
 refine Con.of_body Tryz.func46 rfl Tryz.ntmps46 rfl rfl ?_
 refine za ?_
 refine dq (zas rfl rfl) ?_
 refine das rfl ?_
 refine dn ?_
 refine zj ?_
 refine za ?_
 refine dmv rfl ?_
 refine dq (zK zdv rfl) ?_
 refine dq (zae rfl rfl) ?_
 refine dn ?_
 refine zi rfl (fun h1 => ?_) (fun h2 => ?_)
 ·try simp at h1
  refine za ?_
  refine das rfl ?_
  refine dn ?_
  refine zl ?_
  refine zD rfl ?_
  show HVal.int .i64 _ = _
  first
  | (exact congrArg _ (zcj (by omega)))
  | (exact congrArg _ (zck (by omega) hg))
  | (refine congrArg _ (zbs (by omega) hg (by decide) ?_)
     rw [zaS]; simp_all
     done)
  | (refine congrArg _ (zbs (by omega) hg ?_ ?_)
     ·simp_all
     ·rw [zaS]; simp_all
     done)
  | (refine congrArg _ (zcm (by omega) hg ?_ ?_ ?_)
     ·rw [zaS]; simp_all
     ·simp_all
     ·simp_all)
 ·try simp at h2
  refine zm ?_
  refine zh ?_
  refine zj ?_
  refine za ?_
  refine dmv rfl ?_
  refine dq (zK zdv rfl) ?_
  refine dmv rfl ?_
  refine dn ?_
  refine zq ?_
  refine zak (4 :: 5 :: 6 :: 7 :: 8 :: 14 :: 15 :: 16 :: 17 :: 18 :: 19 :: 20 :: 21 :: 22 :: 23 :: 24 :: 25 :: 26 :: 27 :: 28 :: 29 :: 30 :: 31 :: 32 :: 33 :: 34 :: 35 :: 36 :: 37 :: 38 :: 39 :: 40 :: 41 :: 42 :: 43 :: 44 :: 45 :: 46 :: 47 :: 48 :: 49 :: 50 :: 51 :: 52 :: 53 :: 54 :: 55 :: 56 :: 57 :: 58 :: 59 :: 60 :: 61 :: 62 :: 63 :: 64 :: 65 :: 66 :: 67 :: 68 :: 69 :: 70 :: 71 :: 72 :: 73 :: 74 :: 75 :: 76 :: []) (fun (k : Nat) => [(14, .int .i64 k)]) (fun (k : Nat) => []) (fun (k : Nat) => k ≤ l.length ∧ (zax (zaS m) zdg zcb l 0 l = zax (zaS m) zdg zcb l k (l.drop k))) (fun (k : Nat) => l.length - k) (0) ?_ ?_ ?_ ?_
  ·exact ⟨Nat.zero_le _, rfl⟩
  ·exact ⟨rfl, trivial⟩
  ·exact List.Perm.refl _
  ·intro k hinv
   obtain ⟨hk, hg⟩ := hinv
   refine za ?_
   refine dq (zS rfl rfl) ?_
   refine dn ?_
   refine zj ?_
   refine zi rfl (fun h3 => ?_) (fun h4 => ?_)
   ·try simp at h3
    obtain ⟨y, hy⟩ : ∃ y, l[k]? = some y := ⟨_, List.getElem?_eq_getElem h3⟩
    have hdy := zU hy
    rw [hdy] at hg
    refine zm ?_
    refine zh ?_
    refine zj ?_
    refine zq ?_
    refine za ?_
    refine dmv rfl ?_
    refine dq (zW zdv zam rfl rfl rfl (by first | assumption | simp_all)) ?_
    refine dq (zH zam rfl rfl rfl rfl) ?_
    refine de rfl (zY zam rfl fun b6 => ?_)
    refine das rfl ?_
    refine de0 (zad zam rfl rfl rfl rfl rfl ?_)
    refine dn ?_
    refine zL (Ghost.fc0 6 rfl) ?_
    refine za ?_
    refine dq (zb zam rfl zbZ (by decide) rfl) ?_
    refine dq (zfn (h' := .agg [.int .i64 y.From, .int .i64 y.To]) (zmR zbZ rfl rfl (Nat.le_of_ble_eq_true rfl)) rfl) ?_
    refine de rfl (zY zbZ rfl fun b7 => ?_)
    refine de0 (zad zbZ rfl rfl rfl rfl rfl ?_)
    refine dn ?_
    refine zL (Ghost.fc0 7 rfl) ?_
    refine zj ?_
    refine zq ?_
    refine za ?_
    refine dq (zb zam rfl ty9 (by decide) rfl) ?_
    refine dq (zg ty9 rfl rfl rfl) ?_
    refine dq (zo zlP rfl (WeakL.refl _) (zcA (hx y (List.mem_of_getElem? hy)).1)) ?_
    refine dq (zac rfl) ?_
    refine das rfl ?_
    refine dn ?_
    refine zi rfl (fun h5 => ?_) (fun h6 => ?_)
    ·try simp at h5
     refine za ?_
     refine das rfl ?_
     refine dn ?_
     refine zl ?_
     refine zD rfl ?_
     show HVal.int .i64 _ = _
     first
     | (exact congrArg _ (zcj (by omega)))
     | (exact congrArg _ (zck (by omega) hg))
     | (refine congrArg _ (zbs (by omega) hg (by decide) ?_)
        rw [zaS]; simp_all
        done)
     | (refine congrArg _ (zbs (by omega) hg ?_ ?_)
        ·simp_all
        ·rw [zaS]; simp_all
        done)
     | (refine congrArg _ (zcm (by omega) hg ?_ ?_ ?_)
        ·rw [zaS]; simp_all
        ·simp_all
        ·simp_all)
    ·try simp at h6
     refine za ?_
     refine dq (zH zT rfl rfl rfl rfl) ?_
     refine dq (zb zam rfl ty9 (by decide) rfl) ?_
     refine dq (zg ty9 rfl rfl rfl) ?_
     refine dq (zo zoA rfl (WeakL.refl _) (zci (by first | assumption | omega | (simp; omega) | simp_all))) ?_
     refine dq (zac rfl) ?_
     refine das rfl ?_
     refine dn ?_
     refine zi rfl (fun h7 => ?_) (fun h8 => ?_)
     ·try simp at h7
      refine za ?_
      refine das rfl ?_
      refine dn ?_
      refine zl ?_
      refine zD rfl ?_
      show HVal.int .i64 _ = _
      first
      | (exact congrArg _ (zcj (by omega)))
      | (exact congrArg _ (zck (by omega) hg))
      | (refine congrArg _ (zbs (by omega) hg (by decide) ?_)
         rw [zaS]; simp_all
         done)
      | (refine congrArg _ (zbs (by omega) hg ?_ ?_)
         ·simp_all
         ·rw [zaS]; simp_all
         done)
      | (refine congrArg _ (zcm (by omega) hg ?_ ?_ ?_)
         ·rw [zaS]; simp_all
         ·simp_all
         ·simp_all)
     ·try simp at h8
      refine za ?_
      refine dq (zb zbZ rfl ty3 (by decide) rfl) ?_
      refine dq (zg ty3 rfl rfl rfl) ?_
      refine dq (zS rfl rfl) ?_
      refine dmv rfl ?_
      refine dg rfl rfl (fun hc => ⟨_, OpenTo.refl _, zb zbZ rfl ty3 (by decide) rfl⟩) ?_
      refine dg rfl rfl (fun hc => ⟨_, OpenTo.upd (t := 37) rfl (by first | exact hc | simp_all) (OpenTo.refl _), zg ty3 rfl rfl rfl⟩) ?_
      refine dg rfl rfl (fun hc => ⟨_, OpenTo.refl _, zb zbZ rfl ty3 (by decide) rfl⟩) ?_
      refine dg rfl rfl (fun hc => ⟨_, OpenTo.upd (t := 39) rfl (by first | exact hc | simp_all) (OpenTo.refl _), zg ty3 rfl rfl rfl⟩) ?_
      refine dg rfl rfl (fun hc => ⟨_, OpenTo.upd (t := 40) rfl (by first | exact hc | simp_all) (OpenTo.upd (t := 38) rfl (by first | exact hc | simp_all) (OpenTo.refl _)), zbS rfl rfl⟩) ?_
      refine dq (zA rfl (.inl rfl) (.inr ⟨_, rfl, fun h => by simp_all⟩)) ?_
      refine dmv rfl ?_
      refine dg rfl rfl (fun hc => ⟨_, OpenTo.refl _, zb zbZ rfl ty3 (by decide) rfl⟩) ?_
      refine dg rfl rfl (fun hc => ⟨_, OpenTo.upd (t := 44) rfl (by first | exact hc | simp_all) (OpenTo.refl _), zg ty3 rfl rfl rfl⟩) ?_
      refine dg rfl rfl (fun hc => ⟨_, OpenTo.upd (t := 45) rfl (by first | exact hc | simp_all) (OpenTo.refl _), zae rfl rfl⟩) ?_
      refine dq (zA rfl (.inl rfl) (.inr ⟨_, rfl, fun h => by simp_all⟩)) ?_
      refine das rfl ?_
      refine dn ?_
      refine zi rfl (fun h9 => ?_) (fun h10 => ?_)
      ·try simp at h9
       have hw := zrX h9
       refine za ?_
       refine das rfl ?_
       refine dn ?_
       refine zl ?_
       refine zD rfl ?_
       show HVal.int .i64 _ = _
       first
       | (exact congrArg _ (zcj (by omega)))
       | (exact congrArg _ (zck (by omega) hg))
       | (refine congrArg _ (zbs (by omega) hg (by decide) ?_)
          rw [zaS]; simp_all
          done)
       | (refine congrArg _ (zbs (by omega) hg ?_ ?_)
          ·simp_all
          ·rw [zaS]; simp_all
          done)
       | (refine congrArg _ (zcm (by omega) hg ?_ ?_ ?_)
          ·rw [zaS]; simp_all
          ·simp_all
          ·simp_all)
      ·try simp at h10
       refine zm ?_
       refine zy ?_
       refine zh ?_
       refine zj ?_
       obtain ⟨hw1, hw2⟩ := zso h10
       refine za ?_
       refine dq (zH zT rfl rfl rfl rfl) ?_
       refine dq (zb zam rfl zat (by decide) rfl) ?_
       refine dq (zg zat rfl rfl rfl) ?_
       refine dq (zo ca78 rfl (WeakL.refl _) (zg8 (l := y.Gives) ht (hx y (List.mem_of_getElem? hy)).2.1 (hx y (List.mem_of_getElem? hy)).2.2)) ?_
       refine das rfl ?_
       refine dn ?_
       refine za ?_
       refine dmv rfl ?_
       refine dq (zaD rfl rfl) ?_
       refine dn ?_
       refine zi rfl (fun h11 => ?_) (fun h12 => ?_)
       ·try simp at h11
        refine za ?_
        refine dmv rfl ?_
        refine das rfl ?_
        refine dn ?_
        refine zl ?_
        refine zD rfl ?_
        show HVal.int .i64 _ = _
        first
        | (exact congrArg _ (zcj (by omega)))
        | (exact congrArg _ (zck (by omega) hg))
        | (refine congrArg _ (zbs (by omega) hg (by decide) ?_)
           rw [zaS]; simp_all
           done)
        | (refine congrArg _ (zbs (by omega) hg ?_ ?_)
           ·simp_all
           ·rw [zaS]; simp_all
           done)
        | (refine congrArg _ (zcm (by omega) hg ?_ ?_ ?_)
           ·rw [zaS]; simp_all
           ·simp_all
           ·simp_all)
       ·try simp at h12
        refine zm ?_
        refine zh ?_
        refine zq ?_
        obtain ⟨hgo1, hgo2, _⟩ := zfL (m := m) (l := y.Gives) (by simp_all)
        refine zaF (fun _ => True) [] mixed ?_
        refine ahp 0 rfl rfl (by kernel_rfl) (by kernel_rfl) (zH zam rfl rfl rfl rfl) ?_
        refine ahp 1 rfl rfl (by kernel_rfl) (by kernel_rfl) (zo ca59 rfl (WeakL.refl _) (zhA (by first | assumption | omega | (simp; omega) | simp_all))) ?_
        refine ahp 2 rfl rfl (by kernel_rfl) (by kernel_rfl) (zb zam rfl ty9 (by decide) rfl) ?_
        refine ahp 3 rfl rfl (by kernel_rfl) (by kernel_rfl) (zg ty9 rfl rfl rfl) ?_
        refine ahp 4 rfl rfl (by kernel_rfl) (by kernel_rfl) (zo ziZ rfl (WeakL.refl _) (zaL (l := zbz y.Gives) (s := y.By) (by have := zjl y.Gives; omega))) ?_
        refine ahp 5 rfl rfl (by kernel_rfl) (by kernel_rfl) (zac rfl) ?_
        refine ahp 6 rfl rfl (by kernel_rfl) (by kernel_rfl) (zar rfl) ?_
        refine ahz (by kernel_rfl) ?_
        refine zi rfl (fun h13 => ?_) (fun h14 => ?_)
        ·try simp at h13
         refine za ?_
         refine das rfl ?_
         refine dn ?_
         refine zl ?_
         refine zD rfl ?_
         show HVal.int .i64 _ = _
         first
         | (exact congrArg _ (zcj (by omega)))
         | (exact congrArg _ (zck (by omega) hg))
         | (refine congrArg _ (zbs (by omega) hg (by decide) ?_)
            rw [zaS]; simp_all
            done)
         | (refine congrArg _ (zbs (by omega) hg ?_ ?_)
            ·simp_all
            ·rw [zaS]; simp_all
            done)
         | (refine congrArg _ (zcm (by omega) hg ?_ ?_ ?_)
            ·rw [zaS]; simp_all
            ·simp_all
            ·simp_all)
        ·try simp at h14
         refine zaF (fun _ => True) [] mixed ?_
         refine ahp 0 rfl rfl (by kernel_rfl) (by kernel_rfl) (zf rfl) ?_
         refine ahp 1 rfl rfl (by kernel_rfl) (by kernel_rfl) (zae rfl rfl) ?_
         refine ahp 2 rfl rfl (by kernel_rfl) (by kernel_rfl) (zf rfl) ?_
         refine ahg 3 rfl rfl (by kernel_rfl) (by kernel_rfl) rfl (fun hc => ⟨_, OpenTo.refl _, zb zam rfl ty9 (by decide) rfl⟩) ?_
         refine ahg 4 rfl rfl (by kernel_rfl) (by kernel_rfl) rfl (fun hc => ⟨_, OpenTo.upd (t := 66) rfl (by first | exact hc | simp_all) (OpenTo.refl _), zg ty9 rfl rfl rfl⟩) ?_
         refine ahg 5 rfl rfl (by kernel_rfl) (by kernel_rfl) rfl (fun hc => ⟨_, OpenTo.refl _, zf rfl⟩) ?_
         refine ahg 6 rfl rfl (by kernel_rfl) (by kernel_rfl) rfl (fun hc => ⟨_, OpenTo.refl _, zf rfl⟩) ?_
         refine ahg 7 rfl rfl (by kernel_rfl) (by kernel_rfl) rfl (fun hc => by have hq := hc; (try simp at hq); exact ⟨_, OpenTo.upd (t := 69) rfl (by first | exact hc | simp_all) (OpenTo.refl _), zap rfl rfl (by omega) (by omega)⟩) ?_
         refine ahg 8 rfl rfl (by kernel_rfl) (by kernel_rfl) rfl (fun hc => by have hq := hc; (try simp at hq); exact ⟨_, OpenTo.upd (t := 70) rfl (by first | exact hc | simp_all) (OpenTo.upd (t := 68) rfl (by first | exact hc | simp_all) (OpenTo.refl _)), zW (j := k - 1) (a := l.getD (k - 1) zcb) zdv zam rfl rfl (by omega) (getD_some (by omega))⟩) ?_
         refine ahg 9 rfl rfl (by kernel_rfl) (by kernel_rfl) rfl (fun hc => ⟨_, OpenTo.upd (t := 71) rfl (by first | exact hc | simp_all) (OpenTo.refl _), zb zam rfl ty9 (by decide) rfl⟩) ?_
         refine ahg 10 rfl rfl (by kernel_rfl) (by kernel_rfl) rfl (fun hc => ⟨_, OpenTo.upd (t := 72) rfl (by first | exact hc | simp_all) (OpenTo.refl _), zg ty9 rfl rfl rfl⟩) ?_
         refine ahg 11 rfl rfl (by kernel_rfl) (by kernel_rfl) rfl (fun hc => ⟨_, OpenTo.upd (t := 73) rfl (by first | exact hc | simp_all) (OpenTo.upd (t := 67) rfl (by first | exact hc | simp_all) (OpenTo.refl _)), zdt rfl rfl⟩) ?_
         refine ahp 12 rfl rfl (by kernel_rfl) (by kernel_rfl) (zA rfl (.inr ⟨_, rfl, fun h => by simp_all⟩) (.inl rfl)) ?_
         refine ahp 13 rfl rfl (by kernel_rfl) (by kernel_rfl) (zar rfl) ?_
         refine ahz (by kernel_rfl) ?_
         refine zi rfl (fun h15 => ?_) (fun h16 => ?_)
         ·try simp at h15
          refine za ?_
          refine das rfl ?_
          refine dn ?_
          refine zl ?_
          refine zD rfl ?_
          show HVal.int .i64 _ = _
          first
          | (exact congrArg _ (zcj (by omega)))
          | (exact congrArg _ (zck (by omega) hg))
          | (refine congrArg _ (zbs (by omega) hg (by decide) ?_)
             rw [zaS]; simp_all
             done)
          | (refine congrArg _ (zbs (by omega) hg ?_ ?_)
             ·simp_all
             ·rw [zaS]; simp_all
             done)
          | (refine congrArg _ (zcm (by omega) hg ?_ ?_ ?_)
             ·rw [zaS]; simp_all
             ·simp_all
             ·simp_all)
         ·try simp at h16
          refine zm ?_
          refine zy ?_
          refine zy ?_
          refine zh ?_
          refine zC ?_
          refine dq (zB rfl rfl (by omega) (by omega)) ?_
          refine dmv rfl ?_
          refine dn ?_
          refine ⟨k + 1, ?_, ?_, ⟨rfl, trivial⟩, (by repeat (first | exact zt | refine zw rfl ?_ | refine zu rfl rfl ?_)), List.Perm.refl _⟩
          ·refine ⟨by omega, ?_⟩
           rw [hg, zmi ?_ (by intro hk0; simp_all)]
           rw [zaS]; simp_all
          ·dsimp only; omega
   ·try simp at h4
    have hnk : l.length ≤ k := by omega
    obtain rfl : k = l.length := by omega
    rw [zaV (Nat.le_refl _)] at hg
    refine zX ?_
    refine z7 ?_
    refine zaw ?_
    refine zO ?_
    refine zh ?_
    refine za ?_
    refine das rfl ?_
    refine dn ?_
    refine zl ?_
    refine zD rfl ?_
    show HVal.int .i64 _ = _
    first
    | (exact congrArg _ (zcj (by omega)))
    | (exact congrArg _ (zck (by omega) hg))
    | (refine congrArg _ (zbs (by omega) hg (by decide) ?_)
       rw [zaS]; simp_all
       done)
    | (refine congrArg _ (zbs (by omega) hg ?_ ?_)
       ·simp_all
       ·rw [zaS]; simp_all
       done)
    | (refine congrArg _ (zcm (by omega) hg ?_ ?_ ?_)
       ·rw [zaS]; simp_all
       ·simp_all
       ·simp_all)

/-- benchwarmer/benchref1.byAnswer -/
theorem zhV [Tracks] {a b : ReplyS}  : ConP Tryz.prog 79 [zbJ a, zbJ b] (.int .i64 (zca a b)) := by
 refine Con.of_body Tryz.func79 rfl Tryz.ntmps79 rfl rfl ?_
 refine za ?_
 refine dq (zas rfl rfl) ?_
 refine dq (zas rfl rfl) ?_
 refine das rfl ?_
 refine dn ?_
 refine zaF (fun _ => True) [] mixed ?_
 refine ahp 0 rfl rfl (by kernel_rfl) (by kernel_rfl) (zb z8 rfl ty3 (by decide) rfl) ?_
 refine ahp 1 rfl rfl (by kernel_rfl) (by kernel_rfl) (zg ty3 rfl rfl rfl) ?_
 refine ahp 2 rfl rfl (by kernel_rfl) (by kernel_rfl) (zb z8 rfl ty3 (by decide) rfl) ?_
 refine ahp 3 rfl rfl (by kernel_rfl) (by kernel_rfl) (zg ty3 rfl rfl rfl) ?_
 refine ahp 4 rfl rfl (by kernel_rfl) (by kernel_rfl) (zo zlC rfl (WeakL.refl _) zcL) ?_
 refine ahp 5 rfl rfl (by kernel_rfl) (by kernel_rfl) (zb z8 rfl ty9 (by decide) rfl) ?_
 refine ahp 6 rfl rfl (by kernel_rfl) (by kernel_rfl) (zg ty9 rfl rfl rfl) ?_
 refine ahp 7 rfl rfl (by kernel_rfl) (by kernel_rfl) (zb z8 rfl ty9 (by decide) rfl) ?_
 refine ahp 8 rfl rfl (by kernel_rfl) (by kernel_rfl) (zg ty9 rfl rfl rfl) ?_
 refine ahp 9 rfl rfl (by kernel_rfl) (by kernel_rfl) (zo zhk rfl (WeakL.refl _) zbp) ?_
 refine ahp 10 rfl rfl (by kernel_rfl) (by kernel_rfl) (zb z8 rfl ty9 (by decide) rfl) ?_
 refine ahp 11 rfl rfl (by kernel_rfl) (by kernel_rfl) (zg ty9 rfl rfl rfl) ?_
 refine ahp 12 rfl rfl (by kernel_rfl) (by kernel_rfl) (zb z8 rfl ty9 (by decide) rfl) ?_
 refine ahp 13 rfl rfl (by kernel_rfl) (by kernel_rfl) (zg ty9 rfl rfl rfl) ?_
 refine ahp 14 rfl rfl (by kernel_rfl) (by kernel_rfl) (zo zhk rfl (WeakL.refl _) zbp) ?_
 refine ahp 15 rfl rfl (by kernel_rfl) (by kernel_rfl) (zG (hs := [_, _, _]) zbL ty3 rfl rfl (by decide) (by decide) rfl) ?_
 refine ahp 16 rfl rfl (by kernel_rfl) (by kernel_rfl) (zo zlb rfl (WeakL.refl _) (zel (l := [_, _, _]) (by simp))) ?_
 refine ahp 17 rfl rfl (by kernel_rfl) (by kernel_rfl) (zar rfl) ?_
 refine ahz (by kernel_rfl) ?_
 refine zl ?_
 refine zD rfl ?_
 rfl

/-- benchwarmer/benchref1.AnswersFault -/
theorem zgu [Tracks] {m : MarketS} {l : List ReplyS} (ht : m.Teams.length ≤ 1000000) (hl : l.length ≤ 1000000) (hs : ∀ x ∈ l, x.Offer.length ≤ 1000000) : ConP Tryz.prog 47 [zaM m, zb3 l] (.int .i64 (zcR m l)) := by
 refine Con.of_body Tryz.func47 rfl Tryz.ntmps47 rfl rfl ?_
 refine za ?_
 refine dq (zas rfl rfl) ?_
 refine das rfl ?_
 refine dn ?_
 refine zj ?_
 refine za ?_
 refine dmv rfl ?_
 refine dq (zK zcg rfl) ?_
 refine dq (zae rfl rfl) ?_
 refine dn ?_
 refine zi rfl (fun h1 => ?_) (fun h2 => ?_)
 ·try simp at h1
  refine za ?_
  refine das rfl ?_
  refine dn ?_
  refine zl ?_
  refine zD rfl ?_
  show HVal.int .i64 _ = _
  first
  | (exact congrArg _ (zcn (by omega)))
  | (exact congrArg _ (zcl (by omega) hg))
  | (refine congrArg _ (zag (e := 5) (by omega) hg (by decide) ?_)
     rw [zan, if_pos]
     simp_all
     done)
  | (refine congrArg _ (zag (e := 8) (by omega) hg (by decide) ?_)
     rw [zan, if_neg, if_pos]
     all_goals simp_all
     done)
  | (refine congrArg _ (zag (e := 1) (by omega) hg (by decide) ?_)
     rw [zan, if_neg, if_neg, if_pos]
     all_goals simp_all
     done)
  | (refine congrArg _ (zag (e := 4) (by omega) hg (by decide) ?_)
     rw [zan, if_neg, if_neg, if_neg, if_pos]
     all_goals simp_all
     done)
  | (refine congrArg _ (zcq (by omega) hg ?_ ?_ ?_)
     ·rw [zan, if_neg, if_neg, if_neg, if_neg] <;> simp_all
     ·simp_all
     ·rw [← zfR]; simp_all)
 ·try simp at h2
  refine zm ?_
  refine zh ?_
  refine zj ?_
  refine za ?_
  refine dmv rfl ?_
  refine dq (zK zcg rfl) ?_
  refine dmv rfl ?_
  refine dn ?_
  refine zq ?_
  refine zak [4, 5, 6, 12, 13, 14, 15, 16, 17, 18, 19, 20, 21, 22, 23, 24, 25, 26, 27, 28, 29, 30, 31, 32, 33, 34, 35, 36, 37, 38, 39, 40, 41, 42, 43, 44, 45, 46, 47, 48, 49, 50, 51] (fun (k : Nat) => [(12, .int .i64 k)]) (fun (k : Nat) => []) (fun (k : Nat) => k ≤ l.length ∧ (zax (zan m) zca zbN l 0 l = zax (zan m) zca zbN l k (l.drop k))) (fun (k : Nat) => l.length - k) (0) ?_ ?_ ?_ ?_
  ·exact ⟨Nat.zero_le _, rfl⟩
  ·exact ⟨rfl, trivial⟩
  ·exact List.Perm.refl _
  ·intro k hinv
   obtain ⟨hk, hg⟩ := hinv
   refine za ?_
   refine dq (zS rfl rfl) ?_
   refine dn ?_
   refine zj ?_
   refine zi rfl (fun h3 => ?_) (fun h4 => ?_)
   ·try simp at h3
    obtain ⟨x, hx⟩ : ∃ x, l[k]? = some x := ⟨_, List.getElem?_eq_getElem h3⟩
    have hdx := zU hx
    rw [hdx] at hg
    refine zm ?_
    refine zh ?_
    refine zj ?_
    refine zq ?_
    refine za ?_
    refine dmv rfl ?_
    refine dq (zW zcg z8 rfl rfl rfl (by first | assumption | simp_all)) ?_
    refine dq (zH z8 rfl rfl rfl rfl) ?_
    refine de rfl (zY z8 rfl fun b6 => ?_)
    refine das rfl ?_
    refine de0 (zad z8 rfl rfl rfl rfl rfl ?_)
    refine dn ?_
    refine zL (Ghost.fc0 6 rfl) ?_
    refine zq ?_
    refine za ?_
    refine dq (zb z8 rfl ty9 (by decide) rfl) ?_
    refine dq (zg ty9 rfl rfl rfl) ?_
    refine dq (zo zlP rfl (WeakL.refl _) (zcA (hs x (List.mem_of_getElem? hx)))) ?_
    refine dq (zac rfl) ?_
    refine das rfl ?_
    refine dn ?_
    refine zi rfl (fun h5 => ?_) (fun h6 => ?_)
    ·try simp at h5
     refine za ?_
     refine das rfl ?_
     refine dn ?_
     refine zl ?_
     refine zD rfl ?_
     show HVal.int .i64 _ = _
     first
     | (exact congrArg _ (zcn (by omega)))
     | (exact congrArg _ (zcl (by omega) hg))
     | (refine congrArg _ (zag (e := 5) (by omega) hg (by decide) ?_)
        rw [zan, if_pos]
        simp_all
        done)
     | (refine congrArg _ (zag (e := 8) (by omega) hg (by decide) ?_)
        rw [zan, if_neg, if_pos]
        all_goals simp_all
        done)
     | (refine congrArg _ (zag (e := 1) (by omega) hg (by decide) ?_)
        rw [zan, if_neg, if_neg, if_pos]
        all_goals simp_all
        done)
     | (refine congrArg _ (zag (e := 4) (by omega) hg (by decide) ?_)
        rw [zan, if_neg, if_neg, if_neg, if_pos]
        all_goals simp_all
        done)
     | (refine congrArg _ (zcq (by omega) hg ?_ ?_ ?_)
        ·rw [zan, if_neg, if_neg, if_neg, if_neg] <;> simp_all
        ·simp_all
        ·rw [← zfR]; simp_all)
    ·try simp at h6
     refine za ?_
     refine dq (zH zT rfl rfl rfl rfl) ?_
     refine dq (zb z8 rfl ty9 (by decide) rfl) ?_
     refine dq (zg ty9 rfl rfl rfl) ?_
     refine dq (zo zoA rfl (WeakL.refl _) (zci (by first | assumption | omega | (simp; omega) | simp_all))) ?_
     refine dq (zac rfl) ?_
     refine das rfl ?_
     refine dn ?_
     refine zi rfl (fun h7 => ?_) (fun h8 => ?_)
     ·try simp at h7
      refine za ?_
      refine das rfl ?_
      refine dn ?_
      refine zl ?_
      refine zD rfl ?_
      show HVal.int .i64 _ = _
      first
      | (exact congrArg _ (zcn (by omega)))
      | (exact congrArg _ (zcl (by omega) hg))
      | (refine congrArg _ (zag (e := 5) (by omega) hg (by decide) ?_)
         rw [zan, if_pos]
         simp_all
         done)
      | (refine congrArg _ (zag (e := 8) (by omega) hg (by decide) ?_)
         rw [zan, if_neg, if_pos]
         all_goals simp_all
         done)
      | (refine congrArg _ (zag (e := 1) (by omega) hg (by decide) ?_)
         rw [zan, if_neg, if_neg, if_pos]
         all_goals simp_all
         done)
      | (refine congrArg _ (zag (e := 4) (by omega) hg (by decide) ?_)
         rw [zan, if_neg, if_neg, if_neg, if_pos]
         all_goals simp_all
         done)
      | (refine congrArg _ (zcq (by omega) hg ?_ ?_ ?_)
         ·rw [zan, if_neg, if_neg, if_neg, if_neg] <;> simp_all
         ·simp_all
         ·rw [← zfR]; simp_all)
     ·try simp at h8
      refine za ?_
      refine dq (zb z8 rfl ty3 (by decide) rfl) ?_
      refine dq (zg ty3 rfl rfl rfl) ?_
      refine dq (zo ca18 rfl (WeakL.refl _) zgS) ?_
      refine dq (zaD rfl rfl) ?_
      refine das rfl ?_
      refine dn ?_
      refine zi rfl (fun h9 => ?_) (fun h10 => ?_)
      ·try simp at h9
       refine za ?_
       refine das rfl ?_
       refine dn ?_
       refine zl ?_
       refine zD rfl ?_
       show HVal.int .i64 _ = _
       first
       | (exact congrArg _ (zcn (by omega)))
       | (exact congrArg _ (zcl (by omega) hg))
       | (refine congrArg _ (zag (e := 5) (by omega) hg (by decide) ?_)
          rw [zan, if_pos]
          simp_all
          done)
       | (refine congrArg _ (zag (e := 8) (by omega) hg (by decide) ?_)
          rw [zan, if_neg, if_pos]
          all_goals simp_all
          done)
       | (refine congrArg _ (zag (e := 1) (by omega) hg (by decide) ?_)
          rw [zan, if_neg, if_neg, if_pos]
          all_goals simp_all
          done)
       | (refine congrArg _ (zag (e := 4) (by omega) hg (by decide) ?_)
          rw [zan, if_neg, if_neg, if_neg, if_pos]
          all_goals simp_all
          done)
       | (refine congrArg _ (zcq (by omega) hg ?_ ?_ ?_)
          ·rw [zan, if_neg, if_neg, if_neg, if_neg] <;> simp_all
          ·simp_all
          ·rw [← zfR]; simp_all)
      ·try simp at h10
       refine za ?_
       refine dq (zb z8 rfl ty3 (by decide) rfl) ?_
       refine dq (zg ty3 rfl rfl rfl) ?_
       refine dq (zo zjc rfl (WeakL.refl _) zb7) ?_
       refine dq (zac rfl) ?_
       refine das rfl ?_
       refine dn ?_
       refine zi rfl (fun h11 => ?_) (fun h12 => ?_)
       ·try simp at h11
        refine za ?_
        refine das rfl ?_
        refine dn ?_
        refine zl ?_
        refine zD rfl ?_
        show HVal.int .i64 _ = _
        first
        | (exact congrArg _ (zcn (by omega)))
        | (exact congrArg _ (zcl (by omega) hg))
        | (refine congrArg _ (zag (e := 5) (by omega) hg (by decide) ?_)
           rw [zan, if_pos]
           simp_all
           done)
        | (refine congrArg _ (zag (e := 8) (by omega) hg (by decide) ?_)
           rw [zan, if_neg, if_pos]
           all_goals simp_all
           done)
        | (refine congrArg _ (zag (e := 1) (by omega) hg (by decide) ?_)
           rw [zan, if_neg, if_neg, if_pos]
           all_goals simp_all
           done)
        | (refine congrArg _ (zag (e := 4) (by omega) hg (by decide) ?_)
           rw [zan, if_neg, if_neg, if_neg, if_pos]
           all_goals simp_all
           done)
        | (refine congrArg _ (zcq (by omega) hg ?_ ?_ ?_)
           ·rw [zan, if_neg, if_neg, if_neg, if_neg] <;> simp_all
           ·simp_all
           ·rw [← zfR]; simp_all)
       ·try simp at h12
        refine zaF (fun _ => True) [] mixed ?_
        refine ahp 0 rfl rfl (by kernel_rfl) (by kernel_rfl) (zf rfl) ?_
        refine ahp 1 rfl rfl (by kernel_rfl) (by kernel_rfl) (zae rfl rfl) ?_
        refine ahp 2 rfl rfl (by kernel_rfl) (by kernel_rfl) (zf rfl) ?_
        refine ahg 3 rfl rfl (by kernel_rfl) (by kernel_rfl) rfl (fun hc => ⟨_, OpenTo.refl _, zf rfl⟩) ?_
        refine ahg 4 rfl rfl (by kernel_rfl) (by kernel_rfl) rfl (fun hc => ⟨_, OpenTo.refl _, zf rfl⟩) ?_
        refine ahg 5 rfl rfl (by kernel_rfl) (by kernel_rfl) rfl (fun hc => by have hq := hc; (try simp at hq); exact ⟨_, OpenTo.upd (t := 43) rfl (by first | exact hc | simp_all) (OpenTo.refl _), zap rfl rfl (by omega) (by omega)⟩) ?_
        refine ahg 6 rfl rfl (by kernel_rfl) (by kernel_rfl) rfl (fun hc => by have hq := hc; (try simp at hq); exact ⟨_, OpenTo.upd (t := 44) rfl (by first | exact hc | simp_all) (OpenTo.upd (t := 42) rfl (by first | exact hc | simp_all) (OpenTo.refl _)), zW (j := k - 1) (a := l.getD (k - 1) zbN) zcg z8 rfl rfl (by omega) (getD_some (by omega))⟩) ?_
        refine ahg 7 rfl rfl (by kernel_rfl) (by kernel_rfl) rfl (fun hc => ⟨_, OpenTo.upd (t := 45) rfl (by first | exact hc | simp_all) (OpenTo.refl _), zH z8 rfl rfl rfl rfl⟩) ?_
        refine ahg 8 rfl rfl (by kernel_rfl) (by kernel_rfl) rfl (fun hc => ⟨_, OpenTo.refl _, zH z8 rfl rfl rfl rfl⟩) ?_
        refine ahg 9 rfl rfl (by kernel_rfl) (by kernel_rfl) rfl (fun hc => ⟨_, OpenTo.upd (t := 47) rfl (by first | exact hc | simp_all) (OpenTo.upd (t := 46) rfl (by first | exact hc | simp_all) (OpenTo.refl _)), zo ca79 rfl (WeakL.refl _) zhV⟩) ?_
        refine ahg 10 rfl rfl (by kernel_rfl) (by kernel_rfl) rfl (fun hc => ⟨_, OpenTo.upd (t := 48) rfl (by first | exact hc | simp_all) (OpenTo.refl _), zbS rfl rfl⟩) ?_
        refine ahp 11 rfl rfl (by kernel_rfl) (by kernel_rfl) (zA rfl (.inr ⟨_, rfl, fun h => by simp_all⟩) (.inl rfl)) ?_
        refine ahp 12 rfl rfl (by kernel_rfl) (by kernel_rfl) (zar rfl) ?_
        refine ahz (by kernel_rfl) ?_
        refine zi rfl (fun h13 => ?_) (fun h14 => ?_)
        ·try simp at h13
         refine za ?_
         refine das rfl ?_
         refine dn ?_
         refine zl ?_
         refine zD rfl ?_
         show HVal.int .i64 _ = _
         first
         | (exact congrArg _ (zcn (by omega)))
         | (exact congrArg _ (zcl (by omega) hg))
         | (refine congrArg _ (zag (e := 5) (by omega) hg (by decide) ?_)
            rw [zan, if_pos]
            simp_all
            done)
         | (refine congrArg _ (zag (e := 8) (by omega) hg (by decide) ?_)
            rw [zan, if_neg, if_pos]
            all_goals simp_all
            done)
         | (refine congrArg _ (zag (e := 1) (by omega) hg (by decide) ?_)
            rw [zan, if_neg, if_neg, if_pos]
            all_goals simp_all
            done)
         | (refine congrArg _ (zag (e := 4) (by omega) hg (by decide) ?_)
            rw [zan, if_neg, if_neg, if_neg, if_pos]
            all_goals simp_all
            done)
         | (refine congrArg _ (zcq (by omega) hg ?_ ?_ ?_)
            ·rw [zan, if_neg, if_neg, if_neg, if_neg] <;> simp_all
            ·simp_all
            ·rw [← zfR]; simp_all)
        ·try simp at h14
         refine zm ?_
         refine zy ?_
         refine zy ?_
         refine zh ?_
         refine zC ?_
         refine dq (zB rfl rfl (by omega) (by omega)) ?_
         refine dmv rfl ?_
         refine dn ?_
         refine ⟨k + 1, ?_, ?_, ⟨rfl, trivial⟩, (by repeat (first | exact zt | refine zw rfl ?_ | refine zu rfl rfl ?_)), List.Perm.refl _⟩
         ·refine ⟨by omega, ?_⟩
          rw [hg, zor (by rw [zan, if_neg (by simp_all), if_neg (by simp_all), if_neg (by simp_all), if_neg (by simp_all)]) (by intro hk0; rw [← zfR]; simp_all)]
         ·dsimp only; omega
   ·try simp at h4
    have hnk : l.length ≤ k := by omega
    obtain rfl : k = l.length := by omega
    rw [zaV (Nat.le_refl _)] at hg
    refine zX ?_
    refine z7 ?_
    refine zaw ?_
    refine zO ?_
    refine zh ?_
    refine za ?_
    refine das rfl ?_
    refine dn ?_
    refine zl ?_
    refine zD rfl ?_
    show HVal.int .i64 _ = _
    first
    | (exact congrArg _ (zcn (by omega)))
    | (exact congrArg _ (zcl (by omega) hg))
    | (refine congrArg _ (zag (e := 5) (by omega) hg (by decide) ?_)
       rw [zan, if_pos]
       simp_all
       done)
    | (refine congrArg _ (zag (e := 8) (by omega) hg (by decide) ?_)
       rw [zan, if_neg, if_pos]
       all_goals simp_all
       done)
    | (refine congrArg _ (zag (e := 1) (by omega) hg (by decide) ?_)
       rw [zan, if_neg, if_neg, if_pos]
       all_goals simp_all
       done)
    | (refine congrArg _ (zag (e := 4) (by omega) hg (by decide) ?_)
       rw [zan, if_neg, if_neg, if_neg, if_pos]
       all_goals simp_all
       done)
    | (refine congrArg _ (zcq (by omega) hg ?_ ?_ ?_)
       ·rw [zan, if_neg, if_neg, if_neg, if_neg] <;> simp_all
       ·simp_all
       ·rw [← zfR]; simp_all)
end
section
open Go.HL
/-- slices.Clone[[]benchwarmer/api.Owner,benchwarmer/api.Owner] -/
theorem zcM [Tracks] {l : List OwnerS} (hl : l.length ≤ 1000000) : zqk Tryz.prog 86 [.slice 2 (l.map zaY)] 2 (l.map zaY) := by
 refine Con.of_body Tryz.func86 rfl Tryz.ntmps86 rfl rfl ?_
 refine za ?_
 refine das rfl ?_
 refine dn ?_
 refine zj ?_
 refine za ?_
 refine dmv rfl ?_
 refine de rfl (zmX zaN rfl rfl fun b4 hb4 => ?_)
 refine dn ?_
 refine zi rfl (fun h1 => ?_) (fun h2 => ?_)
 ·try simp at h1
  refine za ?_
  refine das rfl ?_
  refine dn ?_
  refine zl ?_
  first | exact znk rfl rfl | exact zbE (Ghost.arr_nil 2) rfl ⟨_, rfl, by simp_all⟩
 ·try simp at h2
  refine zm ?_
  refine zh ?_
  refine za ?_
  refine de rfl (zpg zaN zaj fun v5 => ?_)
  refine dmv rfl ?_
  refine de rfl (zay (i := 0) zaN zaj rfl rfl rfl rfl rfl (by simp [zbe, zn]) (by first | omega | (simp; omega)) fun v7 => ?_)
  refine das rfl ?_
  refine dn ?_
  refine zl ?_
  first | exact znk rfl rfl | exact zbE (Ghost.arr_nil 2) rfl ⟨_, rfl, by simp_all⟩

/-- slices.BinarySearchFunc[[]benchwarmer/api.Owner,benchwarmer/api.Owner,string] -/
theorem ze7 [Tracks] {l : List OwnerS} {s : Str} {fid : FuncId} (hca : Callable Tryz.prog fid) (hp : ∀ x : OwnerS, ConP Tryz.prog fid [zaY x, .str s] (.int .i64 (zbg x.Player s))) (hl : l.length ≤ 1000000) (hs : SortedS (l.map (·.Player))) : ConP Tryz.prog 144 [za8 l, .str s, .fn (.func fid) [] []] (.tup [.int .i64 (zdL (l.map (·.Player)) s), .bool ((l.map (·.Player)).contains s)]) := by
 have hLl : (l.map (·.Player)).length = l.length := List.length_map _
 refine Con.of_body Tryz.func144 rfl Tryz.ntmps144 rfl rfl ?_
 refine za ?_
 refine das rfl ?_
 refine das rfl ?_
 refine dn ?_
 refine za ?_
 refine dmv rfl ?_
 refine dq (zK zaN rfl) ?_
 refine das rfl ?_
 refine dn ?_
 refine za ?_
 refine dmv rfl ?_
 refine das rfl ?_
 refine das rfl ?_
 refine dn ?_
 refine zj ?_
 refine zq ?_
 refine zbi [9, 10, 11, 15, 16, 17, 18, 19, 20, 21, 22, 23, 24, 25, 26, 27, 28, 29, 30, 31, 32, 33, 34] (fun (i : Nat) (j : Nat) => [(9, .int .i64 i), (10, .int .i64 j)]) (fun (i : Nat) (j : Nat) => []) (fun (i : Nat) (j : Nat) => i ≤ j ∧ j ≤ (l.map (·.Player)).length ∧ (∀ (k : Nat) (x : Str), k < i → (l.map (·.Player))[k]? = some x → Op.bytesLess x s = true) ∧ (∀ (k : Nat) (x : Str), j ≤ k → (l.map (·.Player))[k]? = some x → Op.bytesLess x s = false)) (fun (i : Nat) (j : Nat) => j - i) (0) (l.length) ?_ ?_ ?_ ?_
 ·exact ⟨Nat.zero_le _, by rw [hLl]; exact Nat.le_refl _, fun k x h => by omega, fun k x h1 h2 => by have := zN h2; omega⟩
 ·exact ⟨rfl, rfl, trivial⟩
 ·exact List.Perm.refl _
 ·intro i j hinv
  obtain ⟨hij, hjl, ha, hb⟩ := hinv
  rw [hLl] at hjl
  refine zj ?_
  refine za ?_
  refine dmv rfl ?_
  refine dmv rfl ?_
  refine dq (zS rfl rfl) ?_
  refine dn ?_
  refine zi rfl (fun h1 => ?_) (fun h2 => ?_)
  ·try simp at h1
   obtain ⟨x, hx⟩ : ∃ x, l[(i + j) / 2]? = some x := ⟨_, List.getElem?_eq_getElem (by omega)⟩
   have hxL : (l.map (·.Player))[(i + j) / 2]? = some x.Player := by rw [List.getElem?_map, hx]; rfl
   have hm : (i + j) / 2 < j ∧ i ≤ (i + j) / 2 := by omega
   refine zm ?_
   refine zh ?_
   refine zq ?_
   refine za ?_
   refine dmv rfl ?_
   refine dmv rfl ?_
   refine dq (zB rfl rfl (by omega) (by omega)) ?_
   refine dq (zc1 ty3 zh2 rfl) ?_
   refine dq (zpe rfl rfl (by omega)) ?_
   refine dq (zfn (zc1 zh2 ty3 rfl) (zqL (i := i) (j := j) (by omega))) ?_
   refine das rfl ?_
   refine dn ?_
   refine za ?_
   refine dmv rfl ?_
   refine dmv rfl ?_
   refine dmv rfl ?_
   refine dq (zW (j := (i + j) / 2) (a := x) zaN zaj rfl rfl rfl hx) ?_
   refine dq (zH zaj rfl rfl rfl rfl) ?_
   refine dmv rfl ?_
   refine dq (zfN hca rfl rfl (WeakL.refl _) (hp _)) ?_
   refine dq (zS rfl rfl) ?_
   refine dn ?_
   refine zi rfl (fun h3 => ?_) (fun h4 => ?_)
   ·try simp at h3
    refine zC ?_
    refine dmv rfl ?_
    refine dq (zB rfl rfl (by omega) (by omega)) ?_
    refine das rfl ?_
    refine dn ?_
    refine zy ?_
    exact ⟨(i + j) / 2 + 1, j, ⟨by omega, by rw [hLl]; exact hjl, zst hs hxL (zlO.1 h3), hb⟩, by dsimp only; omega, ⟨rfl, rfl, trivial⟩, (by repeat (first | exact zt | refine zw rfl ?_ | refine zu rfl rfl ?_)), List.Perm.refl _⟩
   ·try simp at h4
    refine zC ?_
    refine dmv rfl ?_
    refine das rfl ?_
    refine dn ?_
    refine zy ?_
    exact ⟨i, (i + j) / 2, ⟨by omega, by omega, ha, zsu hs hxL (by have q := fun e => (show ¬ zbg x.Player s < 0 by omega) (zlO.2 e); simpa using q)⟩, by dsimp only; omega, ⟨rfl, rfl, trivial⟩, (by repeat (first | exact zt | refine zw rfl ?_ | refine zu rfl rfl ?_)), List.Perm.refl _⟩
  ·try simp at h2
   obtain rfl : i = j := by omega
   have hjl2 : i ≤ (l.map (·.Player)).length := by rw [hLl]; exact hjl
   refine zX ?_
   refine z7 ?_
   refine zbr ?_
   refine zO ?_
   refine zh ?_
   refine za ?_
   refine dmv rfl ?_
   refine dmv rfl ?_
   refine dmv rfl ?_
   refine dq (zS rfl rfl) ?_
   refine dmv rfl ?_
   refine dg rfl rfl (fun hc => ⟨_, OpenTo.refl _, zf rfl⟩) ?_
   refine dg rfl rfl (fun hc => ⟨_, OpenTo.refl _, zf rfl⟩) ?_
   refine dg rfl rfl (fun hc => ⟨_, OpenTo.refl _, zf rfl⟩) ?_
   refine dg rfl rfl (fun hc => by have hq := hc; (try simp at hq); exact ⟨_, OpenTo.upd (t := 42) rfl (by first | exact hc | simp_all) (OpenTo.upd (t := 41) rfl (by first | exact hc | simp_all) (OpenTo.refl _)), zW (j := i) (a := l.getD i zb1) zaN zaj rfl rfl rfl (getD_some (by omega))⟩) ?_
   refine dg rfl rfl (fun hc => ⟨_, OpenTo.upd (t := 43) rfl (by first | exact hc | simp_all) (OpenTo.refl _), zH zaj rfl rfl rfl rfl⟩) ?_
   refine dg rfl rfl (fun hc => ⟨_, OpenTo.refl _, zf rfl⟩) ?_
   refine dg rfl rfl (fun hc => ⟨_, OpenTo.upd (t := 45) rfl (by first | exact hc | simp_all) (OpenTo.upd (t := 44) rfl (by first | exact hc | simp_all) (OpenTo.upd (t := 40) rfl (by first | exact hc | simp_all) (OpenTo.refl _))), zfN hca rfl rfl (WeakL.refl _) (hp _)⟩) ?_
   refine dg rfl rfl (fun hc => ⟨_, OpenTo.upd (t := 46) rfl (by first | exact hc | simp_all) (OpenTo.refl _), zau rfl rfl⟩) ?_
   refine dq (zA rfl (.inr ⟨_, rfl, fun h => by simp_all⟩) (.inl rfl)) ?_
   refine das rfl ?_
   refine das rfl ?_
   refine dn ?_
   refine zl ?_
   refine zD rfl ?_
   rw [zlS hjl2 ha hb, ← zoe hs hjl2 ha hb, ← zrm]

/-- benchwarmer/trade.did$1 -/
theorem zm0 [Tracks] {x : OwnerS} {s : Str}  : ConP Tryz.prog 145 [zaY x, .str s] (.int .i64 (zbg x.Player s)) := by
 refine Con.of_body Tryz.func145 rfl Tryz.ntmps145 rfl rfl ?_
 refine za ?_
 refine dq (zas rfl rfl) ?_
 refine das rfl ?_
 refine dn ?_
 refine za ?_
 refine dq (zb zaj rfl ty9 (by decide) rfl) ?_
 refine dq (zg ty9 rfl rfl rfl) ?_
 refine dmv rfl ?_
 refine dq (zo zhk rfl (WeakL.refl _) zbp) ?_
 refine das rfl ?_
 refine dn ?_
 refine zl ?_
 refine zD rfl ?_
 rfl

set_option maxHeartbeats 1000000 in
/-- benchwarmer/trade.did -/
theorem zoJ [Tracks] {m : MarketS} {o : List OwnerS} {x : DealS} (ht : m.Teams.length ≤ 1000000) (h0o : 0 < o.length) (ho : o.length ≤ 1000000) (hs : SortedS (o.map (·.Player))) (hx : x.Gives.length ≤ 1000000) : ConP Tryz.prog 98 [.vptr (zn (zaM m)) 0, za8 o, zii x] (.tup [za8 (zdQ o x.Gives), .bool (zfy m o x.Gives)]) := by
 refine Con.of_body Tryz.func98 rfl Tryz.ntmps98 rfl rfl ?_
 refine za ?_
 refine dq (zas rfl rfl) ?_
 refine das rfl ?_
 refine das rfl ?_
 refine dn ?_
 refine za ?_
 refine dmv rfl ?_
 refine de rfl (ze2 ca86 rfl (WeakL.refl _) (zcM (l := o) ho) fun v14 => ?_)
 refine das rfl ?_
 refine dn ?_
 refine zj ?_
 refine zdc (i := 0) rfl (fun h0 he => ?_) (fun ob off cap hv hcap => ?_)
 ·exfalso; have := congrArg List.length he; simp at this; subst this; simp at h0o
 rw [List.length_map] at hv hcap
 subst hv
 refine za ?_
 refine dq ((by first | exact zb zam rfl zat (by decide) rfl | exact ze zam rfl zat (by decide) rfl)) ?_
 refine dq (zg zat rfl rfl rfl) ?_
 refine dq (zK zat rfl) ?_
 refine dmv rfl ?_
 refine dn ?_
 refine zq ?_
 refine zbi [6, 7, 10, 11, 12, 18, 19, 20, 21, 22, 23, 24, 25, 26, 27, 28, 29, 30, 31, 32, 33, 34, 35, 36, 37, 38, 39, 40, 41, 42, 43, 44, 45, 46, 47] (fun (k : Nat) (D : List OwnerS) => [(18, .int .i64 k)]) (fun (k : Nat) (D : List OwnerS) => [.arr (.slice (some ⟨ob, off, none⟩) o.length cap) 2 (D.map zaY)]) (fun (k : Nat) (D : List OwnerS) => k ≤ x.Gives.length ∧ (zb5 o x.Gives = zb5 D (x.Gives.drop k) ∧ D.map (·.Player) = o.map (·.Player))) (fun (k : Nat) (D : List OwnerS) => x.Gives.length - k) (0) (o) ?_ ?_ ?_ ?_
 ·exact ⟨Nat.zero_le _, rfl, rfl⟩
 ·exact ⟨rfl, trivial⟩
 ·exact zR rfl
 ·intro k D hinv
  obtain ⟨hk, hf, hD⟩ := hinv
  have hDs : SortedS (D.map (·.Player)) := by rw [hD]; exact hs
  have hDl : D.length = o.length := by have := congrArg List.length hD; simpa using this
  refine za ?_
  refine dq (zS rfl rfl) ?_
  refine dn ?_
  refine zj ?_
  refine zi rfl (fun h1 => ?_) (fun h2 => ?_)
  ·try simp at h1
   obtain ⟨g, hg⟩ : ∃ g, x.Gives[k]? = some g := ⟨_, List.getElem?_eq_getElem h1⟩
   have hdg := zU hg
   rw [hdg] at hf
   refine zm ?_
   refine zh ?_
   refine zj ?_
   refine zq ?_
   refine za ?_
   refine dq (zW zat zaq rfl rfl rfl (by first | assumption | simp_all)) ?_
   refine dq (zH zaq rfl rfl rfl rfl) ?_
   refine de rfl (zY zaq rfl fun b10 => ?_)
   refine de0 (zad zaq rfl rfl rfl rfl rfl ?_)
   refine dn ?_
   refine zL (Ghost.fc0 10 rfl) ?_
   refine za ?_
   refine dmv rfl ?_
   refine dq ((by first | exact zb zaq rfl ty9 (by decide) rfl | exact ze zaq rfl ty9 (by decide) rfl)) ?_
   refine dq (zg ty9 rfl rfl rfl) ?_
   refine de rfl (zqv (hs' := [za8 D, .str g.Player, .fn (.func 145) [] []]) zul rfl ⟨.arr (i := 0) rfl, .weak (Weak.refl _), .weak (Weak.refl _), trivial⟩ (ze7 (l := D) (s := g.Player) zuz (fun _ => zm0) (by omega) hDs) rfl ?_)
   refine dmv rfl ?_
   refine dq (z6 rfl rfl) ?_
   refine dq (z6 rfl rfl) ?_
   refine das rfl ?_
   refine das rfl ?_
   refine dn ?_
   refine zj ?_
   refine zaF (fun M => M = [.arr (.slice (some ⟨ob, off, none⟩) o.length cap) 2 (D.map zaY)]) [7] mixed ?_
   refine ahp 0 rfl rfl (by kernel_rfl) (by kernel_rfl) (zf rfl) ?_
   refine ahp 1 rfl rfl (by kernel_rfl) (by kernel_rfl) (zac rfl) ?_
   refine ahp 2 rfl rfl (by kernel_rfl) (by kernel_rfl) (zf rfl) ?_
   refine ahg 3 rfl rfl (by kernel_rfl) (by kernel_rfl) rfl (fun hc => ⟨_, OpenTo.refl _, zf rfl⟩) ?_
   refine ahg 4 rfl rfl (by kernel_rfl) (by kernel_rfl) rfl (fun hc => ⟨_, OpenTo.refl _, zf rfl⟩) ?_
   refine ahg 5 rfl rfl (by kernel_rfl) (by kernel_rfl) rfl (fun hc => by
    obtain ⟨hql, hq1, hq2, hq3⟩ := zjo hDs (by simpa using hc)
    exact ⟨_, OpenTo.upd (t := 33) rfl (by first | exact hc | simp_all) (OpenTo.upd (t := 32) rfl (by first | exact hc | simp_all) (OpenTo.refl _)), zaC (j := (zdL (D.map (·.Player)) g.Player)) zaN zaj rfl rfl rfl (by omega)⟩) ?_
   refine ahg 6 rfl rfl (by kernel_rfl) (by kernel_rfl) rfl (fun hc => ⟨_, OpenTo.upd (t := 34) rfl (by first | exact hc | simp_all) (OpenTo.refl _), (by first | exact zb zaj rfl ty9 (by decide) rfl | exact ze zaj rfl ty9 (by decide) rfl)⟩) ?_
   refine zhj 7 rfl rfl (by kernel_rfl) (by kernel_rfl) (by simp) rfl rfl (fun hc => ⟨_, OpenTo.upd (t := 35) rfl (by first | exact hc | simp_all) (OpenTo.refl _), fun M hM => by
    obtain ⟨hql, hq1, hq2, hq3⟩ := zjo hDs (by simpa using hc); subst hM; exact za7 (i := 0) (j := (zdL (D.map (·.Player)) g.Player)) 1 ty9 rfl (by omega) rfl hq1 rfl rfl ⟨rfl, rfl⟩
    ⟩) ?_
   refine ahg 8 rfl rfl (by kernel_rfl) (by kernel_rfl) rfl (fun hc => ⟨_, OpenTo.refl _, (by first | exact zb zaq rfl ty9 (by decide) rfl | exact ze zaq rfl ty9 (by decide) rfl)⟩) ?_
   refine ahg 9 rfl rfl (by kernel_rfl) (by kernel_rfl) rfl (fun hc => ⟨_, OpenTo.upd (t := 37) rfl (by first | exact hc | simp_all) (OpenTo.refl _), zg ty9 rfl rfl rfl⟩) ?_
   refine ahg 10 rfl rfl (by kernel_rfl) (by kernel_rfl) rfl (fun hc => ⟨_, OpenTo.upd (t := 38) rfl (by first | exact hc | simp_all) (OpenTo.upd (t := 36) rfl (by first | exact hc | simp_all) (OpenTo.refl _)), zdN rfl rfl⟩) ?_
   refine ahp 11 rfl rfl (by kernel_rfl) (by kernel_rfl) (zA rfl (.inl rfl) (.inr ⟨_, rfl, fun h => by simp_all⟩)) ?_
   refine ahz (by kernel_rfl) ?_
   refine zi rfl (fun h3 => ?_) (fun h4 => ?_)
   ·try simp at h3
    refine za ?_
    refine das rfl ?_
    refine das rfl ?_
    refine dn ?_
    refine zl ?_
    first
    | (refine zD rfl ?_
       rw [e1, e2])
    | (have hno : zb5 o x.Gives = none := by
        by_cases hco : (D.map (·.Player)).contains g.Player = true
        ·obtain ⟨hql, hq1, hq2, hq3⟩ := zjo hDs hco
         exact zkZ hf hq1 hq2 hq3 (by simpa using h3.resolve_left fun q => q _ (List.mem_of_getElem? hq1) hq2)
        ·exact zmu hf (zre (by simpa using hco))
       obtain ⟨e1, e2⟩ := zmL (m := m) hno
       exact ⟨_, [], Ghost.clear, _, _, rfl, za9 (by rw [e2]; exact za3 2) (by rw [e1]; exact Weak.refl _), rfl, rfl⟩)
   ·try simp at h4
    refine zm ?_
    refine zh ?_
    have hco : (D.map (·.Player)).contains g.Player = true := by simpa using h4.1
    obtain ⟨hql, hq1, hq2, hq3⟩ := zjo hDs hco
    refine zC ?_
    refine dmv rfl ?_
    refine dmv rfl ?_
    refine dq ((by first | exact zb zaq rfl ty9 (by decide) rfl | exact ze zaq rfl ty9 (by decide) rfl)) ?_
    refine dq (zg ty9 rfl rfl rfl) ?_
    refine dq (zaC (j := (zdL (D.map (·.Player)) g.Player)) zaN zaj rfl rfl rfl (by omega)) ?_
    refine dq ((by first | exact zb zaj rfl ty9 (by decide) rfl | exact ze zaj rfl ty9 (by decide) rfl)) ?_
    refine de0 (zaQ (i := 0) (j := (zdL (D.map (·.Player)) g.Player)) (f := 1) (y := zaY (D.getD (zdL (D.map (·.Player)) g.Player) zb1)) (y' := zaY ⟨(D.getD (zdL (D.map (·.Player)) g.Player) zb1).Player, g.To⟩) ty9 rfl (by omega) rfl rfl (zcf hq1) rfl rfl (by simp [zn]) rfl ?_)
    refine dn ?_
    refine zy ?_
    refine zh ?_
    refine zC ?_
    refine dq (zB rfl rfl (by omega) (by omega)) ?_
    refine dmv rfl ?_
    refine dn ?_
    exact ⟨k + 1, _, ⟨by omega, zqE hf hq1 hq2 hq3 (by simpa using h4.2), by rw [zlr hq1, hD]⟩, by dsimp only; omega, ⟨rfl, trivial⟩, (by repeat (first | exact zt | refine zw rfl ?_ | refine zu rfl rfl ?_)), zR (by dsimp only; rw [List.map_set]; rfl)⟩
  ·try simp at h2
   have hnk : x.Gives.length ≤ k := by omega
   obtain rfl : k = x.Gives.length := by omega
   rw [zaV (Nat.le_refl _), zb5] at hf
   refine zX ?_
   refine z7 ?_
   refine zbr ?_
   refine zO ?_
   refine zh ?_
   refine zL (Ghost.fa 8 (i := 0) rfl rfl) ?_
   obtain ⟨e1, e2⟩ := zro (m := m) hf
   refine za ?_
   refine dmv rfl ?_
   refine dmv rfl ?_
   refine dmv rfl ?_
   refine dq (zo ca66 rfl (WeakL.refl _) (zhv (by first | assumption | omega | (simp; omega) | simp_all) (by first | assumption | omega | (simp; omega) | simp_all))) ?_
   refine das rfl ?_
   refine das rfl ?_
   refine dn ?_
   refine zl ?_
   first
   | (refine zD rfl ?_
      rw [e1, e2])
   | (have hno : zb5 o x.Gives = none := by
       by_cases hco : (D.map (·.Player)).contains g.Player = true
       ·obtain ⟨hql, hq1, hq2, hq3⟩ := zjo hDs hco
        exact zkZ hf hq1 hq2 hq3 (by simpa using h3.resolve_left fun q => q _ (List.mem_of_getElem? hq1) hq2)
       ·exact zmu hf (zre (by simpa using hco))
      obtain ⟨e1, e2⟩ := zmL (m := m) hno
      exact ⟨_, [], Ghost.clear, _, _, rfl, za9 (by rw [e2]; exact za3 2) (by rw [e1]; exact Weak.refl _), rfl, rfl⟩)
end
section
open Go.HL
set_option linter.unusedSimpArgs false
end
end Go.Proofs.YtpcaaekefgkhjaaGreatDoor
namespace Go.HL
section

end
section

end
section
open Go
/-- The pieces of a string between the places where a byte stands. -/
def spl (c : UInt8) : Str → List Str
 | [] => [[]]
 | b :: l => if b = c then [] :: spl c l else match spl c l with
   | [] => [[b]]
   | x :: r => (b :: x) :: r
theorem ztV (c : UInt8) (s : Str) : spl c s ≠ [] := by
 cases s with
 | nil => simp [spl]
 | cons b l =>
   simp only [spl]
   split
   ·simp
   ·split <;> simp
theorem zrM {c : UInt8} (s : Str) : ∃ x r, spl c s = x :: r := by
 cases h : spl c s with
 | nil => exact absurd h (ztV c s)
 | cons x r => exact ⟨x, r, rfl⟩
theorem zt1 (c : UInt8) (l : Str) : spl c (c :: l) = [] :: spl c l := by simp [spl]
theorem zq1 {b c : UInt8} (h : b ≠ c) {l x : Str} {r : List Str} (hl : spl c l = x :: r) : spl c (b :: l) = (b :: x) :: r := by
 simp only [spl, h, if_false, hl]
theorem zkc (c : UInt8) : ∀ (s : Str), ∀ x ∈ spl c s, x.length ≤ s.length
 | [], x, hx => by simp [spl] at hx; subst hx; simp
 | b :: l, x, hx => by
   have ih := zkc c l
   by_cases hb : b = c
   ·subst hb
    rw [zt1] at hx
    rcases List.mem_cons.1 hx with rfl | hx
    ·simp
    ·have := ih x hx; simp only [List.length_cons]; omega
   ·obtain ⟨y, r, hy⟩ := zrM (c := c) l
    rw [zq1 hb hy] at hx
    rcases List.mem_cons.1 hx with rfl | hx
    ·have := ih y (by rw [hy]; simp); simp only [List.length_cons]; omega
    ·have := ih x (by rw [hy]; simp [hx]); simp only [List.length_cons]; omega
end
section

end
section

end
section
theorem zi8 {line : Str} (j : Nat) : ((spl 32 line).getD j []).length ≤ line.length := by
 rw [List.getD_eq_getElem?_getD]
 cases h : (spl 32 line)[j]? with
 | none => simp
 | some x => exact zkc 32 line x (List.mem_of_getElem? h)
end
section
theorem zoE {s : Str} (h : key s = true) : s ≠ [] := by
 rintro rfl; simp [key, zf4] at h
end
section

end
section

end
section

end
section
section
variable {α : Type} (rB : Str → Bool) (rP : Str → α) (F : List α → Int) (W : α → List Str) (enc : α → HVal) (sz : Nat)
end
end
section
/-! what the next line is -/
def ztY : Str := [111, 102, 102, 101, 114]
def givS : Str := [103, 105, 118, 101]
def zqQ (line : Str) : Bool := (spl 32 line).all fun w => !w.isEmpty
def odB (line : Str) : Bool := zqQ line && ((spl 32 line).getD 0 [] == ztY) && ((((spl 32 line).length : Nat) : Int) == 5) && ((spl 32 line).drop 3).all (numB · 15)
def gvB (line : Str) : Bool := zqQ line && ((spl 32 line).getD 0 [] == givS) && ((((spl 32 line).length : Nat) : Int) == 4)
/-- Whether a line is taken, by what the first line of the text is. -/
def okT (s0 s : Str) : Bool := odB s || (gvB s && odB s0)
def odP (line : Str) : DealS := ⟨(spl 32 line).getD 1 [], (spl 32 line).getD 2 [], zpQ ((spl 32 line).getD 3 []) 15, zpQ ((spl 32 line).getD 4 []) 15, []⟩
def gvP (line : Str) : GiveS := ⟨(spl 32 line).getD 1 [], (spl 32 line).getD 2 [], (spl 32 line).getD 3 []⟩
def addG (d : DealS) (g : GiveS) : DealS := { d with Gives := d.Gives ++ [g] }
def zjR (ds : List DealS) (g : GiveS) : List DealS := ds.set (ds.length - 1) (addG (ds.getD (ds.length - 1) zcb) g)
def zet (ds : List DealS) (line : Str) : List DealS := if odB line then ds ++ [odP line] else if gvB line then zjR ds (gvP line) else ds
def rdD (ls : List Str) : List DealS := ls.foldl zet []
theorem zr5 (ls : List Str) (s : Str) : rdD (ls ++ [s]) = zet (rdD ls) s := by unfold rdD; rw [List.foldl_append]; rfl
theorem zlx {l : List Str} : ∀ (r : List Str) (k : Nat), zbk l k r = 0 → ∀ s ∈ r, key s = true
 | [], _, _, s, hs => by cases hs
 | x :: r, k, h, s, hs => by
   rw [zbk] at h
   split at h
   ·cases h
   ·rename_i h1
    split at h
    ·cases h
    ·rcases List.mem_cons.1 hs with rfl | hs
     ·simpa using h1
     ·exact zlx r (k + 1) h s hs
theorem zq8 {m : MarketS} (h : zaf m = 0) : ∀ s ∈ m.Teams, key s = true := by
 unfold zaf at h
 split at h
 ·cases h
 split at h
 ·cases h
 split at h
 ·rename_i h3; exact absurd h h3
 ·rename_i h3
  have h4 : zdX m.Teams = 0 := by simpa using h3
  exact zlx _ 0 h4
def dvH (text : Str) : Str := (spl 10 text).headD []
end
section
structure GoodM (m : MarketS) : Prop where
 pos : 0 < m.Teams.length
 len : m.Teams.length ≤ 5
 sh : ∀ s ∈ m.Teams, s.length ≤ 10
def zbW : List Str := [[116, 97], [116, 98], [116, 99], [116, 100]]
theorem zem : ∀ s ∈ zbW, s.length ≤ 10 := by decide
def zjM (x : OwnerS) : Prop := Sh x.Player ∧ Sh x.Team
structure GoodOw (l : List OwnerS) : Prop where
 len : l.length ≤ 13
 all : ∀ x ∈ l, Sh x.Player ∧ Sh x.Team
def zpx (x : ReplyS) : Prop := Sh x.Offer
structure GoodRp (l : List ReplyS) : Prop where
 len : l.length ≤ 12
 all : ∀ x ∈ l, Sh x.Offer
structure GoodDl1 (x : DealS) : Prop where
 id : Sh x.Id
 len : x.Gives.length ≤ 3
 all : ∀ g ∈ x.Gives, Sh g.Player
structure GoodDl (l : List DealS) : Prop where
 len : l.length ≤ 5
 all : ∀ x ∈ l, GoodDl1 x
theorem zgf {s : Str} {n : Nat} (h : s.length ≤ n) (hn : n ≤ 1000000) : Sh s := by unfold Sh; omega
theorem zsX [Tracks] {P : Program} {n : Nat} {e : Env} {M : List MObj} {c : Code} {Q : Exit → Env → List MObj → Prop} {i : Nat} {v : Value} {sz : Nat} {es : List HVal} (hm : M[i]? = some (.arr v sz es))
 (h : ∀ p b off cap, (p = some ⟨b, off, none⟩ ∨ es = []) → v = .slice p es.length cap → HWp P n c e M Q) : HWp P n c e M Q :=
 zdc hm (fun h0 he => h none 0 0 0 (.inr he) (by rw [h0, he]; rfl)) (fun b off cap hv _ => h _ b off cap (.inl rfl) hv)
/-- What is left of a list, some of it gone. -/
structure LeftOf {α : Type} (l k : List α) : Prop where
 len : k.length ≤ l.length
 sub : ∀ x ∈ k, x ∈ l
theorem LeftOf.take {α : Type} {l D : List α} (n : Nat) (hl : D.length = l.length) (h : ∀ x ∈ D, x ∈ l) : LeftOf l (D.take n) :=
 ⟨by rw [List.length_take]; omega, fun x hx => h x (List.mem_of_mem_take hx)⟩
theorem LeftOf.refl {α : Type} (l : List α) : LeftOf l l := ⟨Nat.le_refl _, fun _ h => h⟩
end
section
/-- The slice in a cell of an element of an owned slice. -/
theorem Ghost.farr [Tracks] {e : Env} {M : List MObj} {i k r j : Nat} {u v : Value} {sz sz' : Nat} {es fs cs : List HVal} (hm : M[i]? = some (.arr v sz es)) (hk : (M.eraseIdx i)[k]? = some (.arr u sz' fs)) (hr : fs[r]? = some (.agg cs)) (hj : cs[j]? = some (.raw v)) :
 Ghost e M e ((M.eraseIdx i).set k (.arr u sz' (fs.set r (.agg (cs.set j (.slice sz es)))))) := fun P I F tmps w h1 hs => by
 obtain ⟨J, hl, hs', hv⟩ := (hs.pull hm).freeze_arr
 have hp := hs'.pull hk
 have hnd : (MObj.arr u sz' (fs.set r (.agg (cs.set j (.slice sz es))))).blocks.Nodup := by
  have := hp.nodup
  simp only [blocks, List.flatMap_cons] at this
  have h2 := (List.nodup_append.1 this).1
  have e1 : (MObj.arr u sz' (fs.set r (.agg (cs.set j (.slice sz es))))).blocks = (MObj.arr u sz' fs).blocks := by
   cases u <;> try rfl
   rename_i a _ _; cases a <;> rfl
  rw [e1]; exact h2
 have hbl : ∀ b ∈ (MObj.arr u sz' (fs.set r (.agg (cs.set j (.slice sz es))))).blocks, b ∈ (MObj.arr u sz' fs).blocks ∨ w.heap.size ≤ b := fun b hb => by
  left
  have e1 : (MObj.arr u sz' (fs.set r (.agg (cs.set j (.slice sz es))))).blocks = (MObj.arr u sz' fs).blocks := by
   cases u <;> try rfl
   rename_i a _ _; cases a <;> rfl
  rw [← e1]; exact hb
 refine ⟨J, hl, h1.mono hl, Sat.unpull hk (hp.change (m' := .arr u sz' (fs.set r (.agg (cs.set j (.slice sz es))))) (fun _ _ _ => rfl) hbl hnd ?_ rfl rfl rfl)⟩
 rcases hp.obj _ List.mem_cons_self with ⟨_, h0⟩ | ⟨b, off, cap, rc, el, fr, a1, a2, a3, a4, a5, a6, a7⟩
 ·rw [h0] at hr; simp at hr
 ·refine .inr ⟨b, off, cap, rc, el, fr, by rw [List.length_set]; exact a1, a2, a3, fun x hx => ?_, by rw [List.length_set]; exact a5, a6, fun i' j' e' c' v' b1 b2 b3 => ?_⟩
  ·rcases List.mem_or_eq_of_mem_set hx with hx | hx
   ·exact a4 x hx
   ·have := a4 _ (List.mem_of_getElem? hr)
    rw [hx]; simp only [zn, List.length_set] at this ⊢; exact this
  ·by_cases hi : i' = r
   ·subst hi
    have hlt := zN hr
    rw [List.getElem?_set_self hlt] at b1
    obtain rfl := Option.some.inj b1
    simp only [zn] at b2
    by_cases hj' : j' = j
    ·subst hj'
     have hjl := zN hj
     rw [List.getElem?_set_self hjl] at b2
     obtain rfl := Option.some.inj b2
     have := a7 i' j' _ _ v' hr hj b3
     rw [this.raw_inv]; exact hv
    ·rw [List.getElem?_set_ne (Ne.symm hj')] at b2
     exact a7 i' j' _ c' v' hr b2 b3
   ·rw [List.getElem?_set_ne (Ne.symm hi)] at b1
    exact a7 i' j' e' c' v' b1 b2 b3
/-- One after the other: the elements from n on hold their slices as owned ones. -/
theorem Ghost.fz_each [Tracks] {e : Env} {α β : Type} {A : List MObj} {u : Value} {sz sz' : Nat} {enc : α → HVal} {raw : α → Value → HVal} {st : α → List β} {eb : β → HVal} {j : Nat} {cs : α → Value → List HVal}
 (h1 : ∀ x v, raw x v = .agg (cs x v)) (h2 : ∀ x v, (cs x v)[j]? = some (.raw v)) (h3 : ∀ x v, HVal.agg ((cs x v).set j (.slice sz ((st x).map eb))) = enc x) :
 ∀ (O : List (α × Value)) (D : List α), Ghost e (A ++ .arr u sz' (D.map enc ++ O.map fun p => raw p.1 p.2) :: O.map fun p => .arr p.2 sz ((st p.1).map eb)) e (A ++ [.arr u sz' ((D ++ O.map (·.1)).map enc)])
 | [], D => by
   refine Ghost.of_eq ?_
   simp
 | p :: O, D => by
   have key := Ghost.fz_each (e := e) (A := A) (u := u) (sz := sz) (sz' := sz') h1 h2 h3 O (D ++ [p.1])
   have e9 : D ++ (p :: O).map (·.1) = (D ++ [p.1]) ++ O.map (·.1) := by simp
   rw [e9]
   refine Ghost.trans ?_ key
   have hm : (A ++ .arr u sz' (D.map enc ++ (p :: O).map fun p => raw p.1 p.2) :: (p :: O).map fun p => MObj.arr p.2 sz ((st p.1).map eb))[A.length + 1]? = some (.arr p.2 sz ((st p.1).map eb)) := by
    rw [List.getElem?_append_right (by omega)]; simp
   have he : (A ++ .arr u sz' (D.map enc ++ (p :: O).map fun p => raw p.1 p.2) :: (p :: O).map fun p => MObj.arr p.2 sz ((st p.1).map eb)).eraseIdx (A.length + 1) = A ++ .arr u sz' (D.map enc ++ (p :: O).map fun p => raw p.1 p.2) :: O.map fun p => MObj.arr p.2 sz ((st p.1).map eb) := by
    rw [List.eraseIdx_append_of_length_le (by omega)]; simp
   have hk : ((A ++ .arr u sz' (D.map enc ++ (p :: O).map fun p => raw p.1 p.2) :: (p :: O).map fun p => MObj.arr p.2 sz ((st p.1).map eb)).eraseIdx (A.length + 1))[A.length]? = some (.arr u sz' (D.map enc ++ (p :: O).map fun p => raw p.1 p.2)) := by
    rw [he]; simp
   have hr : (D.map enc ++ (p :: O).map fun p => raw p.1 p.2)[D.length]? = some (.agg (cs p.1 p.2)) := by
    rw [List.getElem?_append_right (by simp)]; simp [h1]
   have g := Ghost.farr (e := e) hm hk hr (h2 p.1 p.2)
   have e5 : ((A ++ .arr u sz' (D.map enc ++ (p :: O).map fun p => raw p.1 p.2) :: (p :: O).map fun p => MObj.arr p.2 sz ((st p.1).map eb)).eraseIdx (A.length + 1)).set A.length (.arr u sz' ((D.map enc ++ (p :: O).map fun p => raw p.1 p.2).set D.length (.agg ((cs p.1 p.2).set j (.slice sz ((st p.1).map eb)))))) = A ++ .arr u sz' ((D ++ [p.1]).map enc ++ O.map fun p => raw p.1 p.2) :: O.map fun p => MObj.arr p.2 sz ((st p.1).map eb) := by
    rw [he, h3, List.set_append_right _ _ (Nat.le_refl _)]
    simp
   rw [e5] at g
   exact g
end
section
abbrev DlV := DealS × Value
abbrev rDl (p : DlV) : HVal := .agg [.str p.1.Id, .str p.1.By, .int .i64 p.1.From, .int .i64 p.1.To, .raw p.2]
abbrev sDl (p : DlV) : MObj := .arr p.2 3 (p.1.Gives.map za6)
def ztP (p : DlV) : Prop := GoodDl1 p.1 ∧ 0 < p.1.Gives.length
theorem ztx [Tracks] {P : Program} {s m0 m1 m3 : MObj} {T : List MObj} (J : Imm) (F : List MObj) (w : World) (hs : Sat P J ((s :: m0 :: m1 :: m3 :: T) ++ F) w) : Sat P J ((s :: m3 :: (T ++ [m0])) ++ F) w := by
 have h1 : Sat P J (m1 :: (s :: m0 :: m3 :: T) ++ F) w := hs.perm (((List.perm_middle (l₁ := [s, m0]) (a := m1) (l₂ := m3 :: T))).append_right F)
 have h2 : Sat P J ((s :: m0 :: m3 :: T) ++ F) w := h1.drop
 have hp : (s :: m0 :: m3 :: T).Perm (s :: m3 :: (T ++ [m0])) := by
  refine List.Perm.cons _ ((List.Perm.swap m3 m0 T).trans (List.Perm.cons _ ?_))
  exact (List.perm_append_comm (l₁ := [m0]) (l₂ := T))
 exact h2.perm (hp.append_right F)
/-- What an offer that gives nothing leaves behind is let go. -/
theorem Ghost.drop12 [Tracks] {e : Env} {s : MObj} {v : Value} {es cs : List HVal} {b : Nat} {T : List MObj} : Ghost e (s :: .arr v 3 es :: .cells b cs :: T) e (s :: T) :=
 (Ghost.perm (List.perm_middle (l₁ := [s]) (a := .arr v 3 es) (l₂ := .cells b cs :: T))).trans (Ghost.drop.trans ((Ghost.perm (List.Perm.swap _ _ _)).trans Ghost.drop))
theorem zmc {α : Type} {l : List α} {j : Nat} {y : α} (hj : j < l.length) : (l.set j y).Perm (y :: l.eraseIdx j) := by
 rw [List.set_eq_take_append_cons_drop, if_pos hj, List.eraseIdx_eq_take_drop_succ]
 exact List.perm_middle
theorem zs7 {s m : MObj} {out : List DlV} {j : Nat} {n : DlV} (hj : j < out.length) : (sDl n :: s :: m :: (out.map sDl).eraseIdx j).Perm (s :: m :: (out.set j n).map sDl) := by
 have h : ((out.set j n).map sDl).Perm (sDl n :: (out.map sDl).eraseIdx j) := by
  rw [List.map_set]; exact zmc (by simpa using hj)
 refine List.Perm.trans ?_ ((List.Perm.cons s (List.Perm.cons m h.symm)))
 exact (List.perm_middle (l₁ := [s, m]) (a := sDl n) (l₂ := (out.map sDl).eraseIdx j)).symm
theorem zrE {out : List DlV} {j : Nat} {x n : DlV} (hx : out[j]? = some x) (h : rDl n = rDl x) : (out.set j n).map rDl = out.map rDl := by
 rw [List.map_set, h]
 refine List.ext_getElem? fun i => ?_
 by_cases hj : i = j
 ·subst hj
  have hlt := zN hx
  rw [List.getElem?_set_self (by simpa using hlt), List.getElem?_map, hx]; rfl
 ·rw [List.getElem?_set_ne (Ne.symm hj)]
theorem zn8 {out : List DlV} {j : Nat} {x n : DlV} (hx : out[j]? = some x) (h : sDl n = sDl x) : (out.set j n).map sDl = out.map sDl := by
 rw [List.map_set, h]
 refine List.ext_getElem? fun i => ?_
 by_cases hj : i = j
 ·subst hj
  have hlt := zN hx
  rw [List.getElem?_set_self (by simpa using hlt), List.getElem?_map, hx]; rfl
 ·rw [List.getElem?_set_ne (Ne.symm hj)]
theorem zp3 {l : List GiveS} {x : GiveS} : x ∈ zbf zcv l → x ∈ l := fun h => (zes (c := zcv) l).mem_iff.1 h
end
section
theorem zt8 {m : MarketS} (h : zaf m = 0) (o : List OwnerS) (x : List DealS) (a c : List ReplyS) :
 zb9 m o = zbR m o ∧ zcK m x = zdE m x ∧ zcR m a = zch m a ∧ orI [zch m a, zcR m c] = orI [zch m a, zch m c] := by
 have h1 : ¬ zaf m ≠ 0 := by simp [h]
 have hr : ∀ z, zcR m z = zch m z := fun z => by rw [zch, if_neg h1]
 exact ⟨by rw [zbR, if_neg h1], by rw [zdE, if_neg h1], hr a, by rw [hr c]⟩
end
section

end
section

end
section
def zkG (a b : Of2) : Int := orI [zbg a.1 b.1, zbg a.2 b.2]
theorem zto (a b : Of2) : zkG a b = if zbg a.1 b.1 ≠ 0 then zbg a.1 b.1 else zbg a.2 b.2 := by unfold zkG; rw [zsl]
theorem zqY (a b : Of2) : zkG a b = -zkG b a := by
 unfold zkG
 rw [zek a.1, zek a.2, zsk]
theorem zrW : Cmp zkG (fun _ => True) where
 flip x y _ _ := by rw [zqY x y]; omega
 trans x y z _ _ _ h1 h2 := by
  rw [zto] at *
  have k1 : zbg x.1 y.1 ≤ 0 := by split at h1 <;> omega
  have k2 : zbg y.1 z.1 ≤ 0 := by split at h2 <;> omega
  have k3 := zf9 k1 k2
  split
  ·exact k3
  ·rename_i hz
   have hz' : zbg x.1 z.1 = 0 := by simpa using hz
   obtain ⟨e1, e2⟩ := znf k1 k2 hz'
   rw [if_neg (by simp [e1])] at h1
   rw [if_neg (by simp [e2])] at h2
   exact zf9 h1 h2
def OLt (a b : Of2) : Prop := zkG a b < 0
end
section
section
variable {κ : Type}
/-- The zc8 maps by the outer key: block and entries. -/
abbrev GrM (κ : Type) := List (Str × (Nat × List (κ × Int)))
end
end
section
theorem zir {α : Type} {s : Str} {v : α} : ∀ {G : List (Str × α)}, (zaK s v G).map (·.1) = zaR s (G.map (·.1))
 | [] => by simp [zaK, zaR]
 | p :: r => by
   have ih := zir (s := s) (v := v) (G := r)
   simp only [zaK]
   by_cases h : s = p.1
   ·rw [if_pos h]
    unfold zaR
    rw [if_pos (by simp [h])]
    simp [h]
   ·rw [if_neg h, List.map_cons, ih]
    unfold zaR
    by_cases hc : (r.map (·.1)).contains s = true
    ·rw [if_pos hc, if_pos (by simp at hc ⊢; exact .inr hc)]; rfl
    ·rw [if_neg hc, if_neg (by simp at hc ⊢; exact ⟨h, hc⟩)]; rfl
theorem zjj {α : Type} {s : Str} {v : α} {p : Str × α} : ∀ {G : List (Str × α)}, ANodup G → p ∈ zaK s v G → p = (s, v) ∨ (p ∈ G ∧ p.1 ≠ s)
 | [], _, h => by simp [zaK] at h; exact .inl h
 | q :: r, hn, h => by
   have h1 := List.nodup_cons.1 hn
   simp only [zaK] at h
   by_cases hs : s = q.1
   ·rw [if_pos hs] at h
    rcases List.mem_cons.1 h with h | h
    ·exact .inl h
    ·refine .inr ⟨List.mem_cons_of_mem _ h, fun e => h1.1 ?_⟩
     show q.1 ∈ r.map (·.1)
     rw [← hs, ← e]; exact List.mem_map_of_mem h
   ·rw [if_neg hs] at h
    rcases List.mem_cons.1 h with h | h
    ·subst h; exact .inr ⟨by simp, fun e => hs e.symm⟩
    ·rcases zjj h1.2 h with e | e
     ·exact .inl e
     ·exact .inr ⟨List.mem_cons_of_mem _ e.1, e.2⟩
section
variable {κ : Type}
/-- The maps of maps hold the zbe sums. -/
structure GrOk (S : List Str) (c : List ((Str × κ) × Int)) (G : GrM κ) : Prop where
 keys : G.map (·.1) = S
 nodup : S.Nodup
 val : ∀ p ∈ G, p.2.2 = zc8 c p.1
 inS : ∀ e ∈ c, e.1.1 ∈ S
theorem GrOk.anodup {S : List Str} {c : List ((Str × κ) × Int)} {G : GrM κ} (h : GrOk S c G) : ANodup G := by unfold ANodup; rw [h.keys]; exact h.nodup
theorem GrOk.nil : GrOk ([] : List Str) ([] : List ((Str × κ) × Int)) [] := ⟨rfl, List.nodup_nil, (fun p h => by cases h), (fun e h => by cases h)⟩
theorem GrOk.get {S : List Str} {c : List ((Str × κ) × Int)} {G : GrM κ} (h : GrOk S c G) {s : Str} {b : Nat} {L : List (κ × Int)} (hq : alk s G = some (b, L)) : L = zc8 c s := h.val _ (zfm hq)
theorem GrOk.none {S : List Str} {c : List ((Str × κ) × Int)} {G : GrM κ} (h : GrOk S c G) {s : Str} : alk s G = none ↔ s ∉ S := by rw [zeR, h.keys]
theorem zq4 {S : List Str} {c : List ((Str × κ) × Int)} {s : Str} (h : ∀ e ∈ c, e.1.1 ∈ S) (hs : s ∉ S) : zc8 c s = [] := by
 unfold zc8
 rw [List.map_eq_nil_iff, List.filter_eq_nil_iff]
 intro e he hq
 exact hs ((eq_of_beq hq) ▸ h e he)
theorem GrOk.add {S : List Str} {c : List ((Str × κ) × Int)} {G : GrM κ} (h : GrOk S c G) {s : Str} (b : Nat) (hs : alk s G = Option.none) : GrOk (zaR s S) c (zaK s (b, []) G) := by
 have hn := h.none.1 hs
 refine ⟨by rw [zir, h.keys], zin h.nodup, fun p hp => ?_, fun e he => zkp.2 (.inr (h.inS e he))⟩
 rcases zjj h.anodup hp with rfl | ⟨hp, _⟩
 ·exact (zq4 h.inS hn).symm
 ·exact h.val p hp
variable [DecidableEq κ]
theorem GrOk.put {S : List Str} {c : List ((Str × κ) × Int)} {G : GrM κ} (h : GrOk S c G) {s : Str} {b : Nat} {L : List (κ × Int)} (hq : alk s G = some (b, L)) (k : κ) (v : Int) : GrOk S (zaK (s, k) v c) (zaK s (b, zaK k v L) G) := by
 have hs : s ∈ S := by
  refine Decidable.not_not.1 fun hn => ?_
  have := h.none.2 hn
  rw [this] at hq; cases hq
 refine ⟨?_, h.nodup, fun p hp => ?_, fun e he => ?_⟩
 ·rw [zir, h.keys]
  unfold zaR
  rw [if_pos (by simpa using hs)]
 ·rw [zmo]
  rcases zjj h.anodup hp with rfl | ⟨hp, hne⟩
  ·rw [if_pos rfl, ← h.get hq]
  ·rw [if_neg hne]; exact h.val p hp
 ·rcases zfC he with rfl | he
  ·exact hs
  ·exact h.inS e he
end
end
section

end
section
theorem OLt.trans {a b c : Of2} (h1 : OLt a b) (h2 : OLt b c) : OLt a c := zrW.lt_trans trivial trivial trivial h1 h2
end
section
/-- The plays of the sources that count. -/
def zu7 (l : List Play) (trust : List Str) (n : Int) (x : Play) : Bool := decide (zjQ l trust n x.Match = some x.Source)
def kept (l : List Play) (trust : List Str) (n : Int) : List Play := l.filter (zu7 l trust n)
end
section
structure ChkIs (q : ChkS) (l : List Play) : Prop where
 sn : q.S.Nodup
 s : ∀ s, s ∈ q.S ↔ ∃ x ∈ l, x.Source = s
 wn : ANodup q.W
 w : ∀ m, m ∈ q.W.map (·.1) ↔ ∃ x ∈ l, x.Match = m
 wv : ∀ m v, alk m q.W = some v → ∃ x ∈ l, x.Match = m ∧ x.Week = v
 c : q.c = false ↔ ∀ x ∈ l, ∀ y ∈ l, x.Match = y.Match → x.Week = y.Week
theorem ChkIs.step {q : ChkS} {l : List Play} (h : ChkIs q l) (p : Play) : ChkIs (zhK q p) (l ++ [p]) where
 sn := zin h.sn
 s s := by
  show s ∈ zaR p.Source q.S ↔ _
  rw [zkp, h.s]
  constructor
  ·rintro (rfl | ⟨x, hx, e⟩)
   ·exact ⟨p, by simp, rfl⟩
   ·exact ⟨x, List.mem_append_left _ hx, e⟩
  ·rintro ⟨x, hx, e⟩
   rcases List.mem_append.1 hx with hx | hx
   ·exact .inr ⟨x, hx, e⟩
   ·rw [List.mem_singleton.1 hx] at e; exact .inl e.symm
 wn := h.wn.put
 w m := by
  show m ∈ (zaK p.Match p.Week q.W).map (·.1) ↔ _
  rw [ziS, h.w]
  constructor
  ·rintro (rfl | ⟨x, hx, e⟩)
   ·exact ⟨p, by simp, rfl⟩
   ·exact ⟨x, List.mem_append_left _ hx, e⟩
  ·rintro ⟨x, hx, e⟩
   rcases List.mem_append.1 hx with hx | hx
   ·exact .inr ⟨x, hx, e⟩
   ·rw [List.mem_singleton.1 hx] at e; exact .inl e.symm
 wv m v hv := by
  have hv' : alk m (zaK p.Match p.Week q.W) = some v := hv
  rw [zl6] at hv'
  by_cases e : m = p.Match
  ·rw [if_pos e] at hv'; cases hv'
   exact ⟨p, by simp, e.symm, rfl⟩
  ·rw [if_neg e] at hv'
   obtain ⟨x, hx, e1⟩ := h.wv m v hv'
   exact ⟨x, List.mem_append_left _ hx, e1⟩
 c := by
  show (q.c || ((alk p.Match q.W).isSome && ((alk p.Match q.W).getD 0 != p.Week))) = false ↔ _
  rw [Bool.or_eq_false_iff, h.c]
  constructor
  ·rintro ⟨h1, h2⟩
   have hp : ∀ x ∈ l, x.Match = p.Match → x.Week = p.Week := fun x hx e => by
    have hk : p.Match ∈ q.W.map (·.1) := (h.w _).2 ⟨x, hx, e⟩
    have hne : ¬ alk p.Match q.W = none := by rw [zeR]; exact fun z => z hk
    obtain ⟨v, hv⟩ := Option.ne_none_iff_exists'.1 hne
    rw [hv] at h2
    simp at h2
    obtain ⟨y, hy, e1, e2⟩ := h.wv _ _ hv
    rw [h1 x hx y hy (by rw [e, e1]), e2, h2]
   intro x hx y hy e
   rcases List.mem_append.1 hx with hx | hx <;> rcases List.mem_append.1 hy with hy | hy
   ·exact h1 x hx y hy e
   ·rw [List.mem_singleton.1 hy] at e ⊢; exact hp x hx e
   ·rw [List.mem_singleton.1 hx] at e ⊢; exact (hp y hy e.symm).symm
   ·rw [List.mem_singleton.1 hx, List.mem_singleton.1 hy]
  ·intro hall
   refine ⟨fun x hx y hy e => hall x (List.mem_append_left _ hx) y (List.mem_append_left _ hy) e, ?_⟩
   cases hv : alk p.Match q.W with
   | none => rfl
   | some v =>
     obtain ⟨y, hy, e1, e2⟩ := h.wv _ _ hv
     have := hall y (List.mem_append_left _ hy) p (by simp) e1
     simp
     rw [← e2, this]
end
section

end
section

end
section
section
variable {κ : Type}
end
end
section
section
variable {P : Program} {e : Env} {dst : Option Tmp} {ty : TypeId} {pos : String} {af : Array Edge} {g : Option (Nat × Bool)} {M : List MObj} {K : HVal → List MObj → Prop}
end
end
section
variable {P : Program}
open Go.Sort Go.Proofs
end
section
section
variable {κ : Type} [DecidableEq κ] {β : Type}
end
section
variable {P : Program} {e : Env} {κ : Type} [DecidableEq κ] {β : Type} {eb : β → HVal}
theorem EOp.post_ghost [Tracks] {M : List MObj} {K : HVal → List MObj → Prop} {o : Oper} (h : EOp P e M o fun x N => ∃ N', (∀ J F w, Sat P J (N ++ F) w → Sat P J (N' ++ F) w) ∧ K x N') : EOp P e M o K := fun I F a w ho hs =>
 Oper.wp_noQ (fun _ _ ⟨v, x, M', J, h1, h2, ⟨N', h3, h4⟩, h5, h6⟩ => ⟨v, x, N', J, h1, h2, h4, h5, h3 J F _ h6⟩) (h I F a w ho hs)
end
end
section
/-! lines by their places, with mends -/
abbrev GrS := List (Plc × List StatS)
def zpI (x : MendS) (l : List StatS) : List StatS := l.filter fun s => !(s.Name == x.Stat)
def zlt (x : MendS) (l : List StatS) : List StatS := zpI x l ++ if x.Count ≠ 0 then [⟨x.Stat, x.Count⟩] else []
def zlJ (n : Int) (G : GrS) (x : MendS) : GrS := if n < x.At then G else zaK (x.Player, x.Week) (zlt x ((alk (x.Player, x.Week) G).getD [])) G
def GLen (b : Nat) (G : GrS) : Prop := ∀ q ∈ G, q.2.length ≤ b
theorem GLen.put {b : Nat} {G : GrS} {p : Plc} {l : List StatS} (h : GLen b G) (hl : l.length ≤ b) : GLen b (zaK p l G) := fun q hq => by
 rcases zfC hq with rfl | hq
 ·exact hl
 ·exact h q hq
theorem GLen.get {b : Nat} {G : GrS} (h : GLen b G) (p : Plc) : ((alk p G).getD []).length ≤ b := by
 cases hq : alk p G with
 | none => simp
 | some l => exact h _ (zfm hq)
theorem GLen.up {b c : Nat} {G : GrS} (h : GLen b G) (hb : b ≤ c) : GLen c G := fun q hq => Nat.le_trans (h q hq) hb
theorem zqs (x : MendS) (l : List StatS) : (zpI x l).length ≤ l.length := List.length_filter_le _ _
theorem zqn (x : MendS) (l : List StatS) : (zlt x l).length ≤ l.length + 1 := by
 have := zqs x l
 unfold zlt; rw [List.length_append]; split
 ·simp only [List.length_cons, List.length_nil]; omega
 ·simp only [List.length_nil]; omega
theorem GLen.step {b : Nat} {n : Int} {G : GrS} {x : MendS} (h : GLen b G) : GLen (b + 1) (zlJ n G x) := by
 unfold zlJ; split
 ·exact h.up (by omega)
 ·refine (h.up (by omega)).put ?_
  have h1 := zqn x ((alk (x.Player, x.Week) G).getD [])
  have h2 := h.get (x.Player, x.Week)
  omega
def GNm (G : GrS) : Prop := ∀ q ∈ G, (q.2.map (·.Name)).Nodup
theorem GNm.put {G : GrS} {p : Plc} {l : List StatS} (h : GNm G) (hl : (l.map (·.Name)).Nodup) : GNm (zaK p l G) := fun q hq => by
 rcases zfC hq with rfl | hq
 ·exact hl
 ·exact h q hq
theorem GNm.get {G : GrS} (h : GNm G) (p : Plc) : (((alk p G).getD []).map (·.Name)).Nodup := by
 cases hq : alk p G with
 | none => exact List.nodup_nil
 | some l => exact h _ (zfm hq)
theorem zoU {x : MendS} {l : List StatS} (h : (l.map (·.Name)).Nodup) : ((zlt x l).map (·.Name)).Nodup := by
 have h1 : ((zpI x l).map (·.Name)).Nodup := h.sublist ((List.filter_sublist).map _)
 unfold zlt
 split
 ·rw [List.map_append]
  refine List.nodup_append.2 ⟨h1, by simp, fun a ha b hb => ?_⟩
  simp at hb; subst hb
  obtain ⟨s, hs, rfl⟩ := List.mem_map.1 ha
  have := (List.mem_filter.1 hs).2
  simpa using this
 ·rw [List.append_nil]; exact h1
theorem GNm.step {n : Int} {G : GrS} {x : MendS} (h : GNm G) : GNm (zlJ n G x) := by
 unfold zlJ; split
 ·exact h
 ·exact h.put (zoU (h.get _))
end
section

end
section

end
section
structure GdN (n k : Nat) (ds : List DealS) : Prop where
 len : ds.length ≤ k
 all : ∀ x ∈ ds, x.Id.length ≤ n ∧ x.Gives.length ≤ k ∧ ∀ g ∈ x.Gives, g.Player.length ≤ n
theorem GdN.step {n k : Nat} {ds : List DealS} {s : Str} (h : GdN n k ds) (hs : s.length ≤ n) : GdN n (k + 1) (zet ds s) := by
 obtain ⟨h1, h2⟩ := h
 have h2' : ∀ x ∈ ds, x.Id.length ≤ n ∧ x.Gives.length ≤ k + 1 ∧ ∀ g ∈ x.Gives, g.Player.length ≤ n := fun x hx => ⟨(h2 x hx).1, by have := (h2 x hx).2.1; omega, (h2 x hx).2.2⟩
 unfold zet
 split
 ·refine ⟨by simp; omega, fun x hx => ?_⟩
  rcases List.mem_append.1 hx with hx | hx
  ·exact h2' x hx
  ·rw [List.mem_singleton.1 hx]
   exact ⟨Nat.le_trans (zi8 1) hs, Nat.zero_le _, fun g hg => by cases hg⟩
 split
 ·unfold zjR
  refine ⟨by simp; omega, fun x hx => ?_⟩
  rcases List.mem_or_eq_of_mem_set hx with hx | hx
  ·exact h2' x hx
  ·subst hx
   have hy : (ds.getD (ds.length - 1) zcb).Id.length ≤ n ∧ (ds.getD (ds.length - 1) zcb).Gives.length ≤ k ∧ ∀ g ∈ (ds.getD (ds.length - 1) zcb).Gives, g.Player.length ≤ n := by
    rw [List.getD_eq_getElem?_getD]
    cases hq : ds[ds.length - 1]? with
    | none => exact ⟨Nat.zero_le _, Nat.zero_le _, fun g hg => by cases hg⟩
    | some y => exact h2 y (List.mem_of_getElem? hq)
   refine ⟨hy.1, by show ((_ : List GiveS) ++ [_]).length ≤ _; rw [List.length_append]; have := hy.2.1; simp only [List.length_cons, List.length_nil]; omega, fun g hg => ?_⟩
   rcases List.mem_append.1 hg with hg | hg
   ·exact hy.2.2 g hg
   ·rw [List.mem_singleton.1 hg]; exact Nat.le_trans (zi8 1) hs
 ·exact ⟨by omega, h2'⟩
theorem zs4 {ds : List DealS} {s : Str} {k : Nat} (h1 : ds.length ≤ k) (h2 : ∀ x ∈ ds, x.Gives.length ≤ k) : (zet ds s).length ≤ ds.length + 1 ∧ ∀ x ∈ zet ds s, x.Gives.length ≤ k + 1 := by
 unfold zet
 split
 ·refine ⟨by simp, fun x hx => ?_⟩
  rcases List.mem_append.1 hx with hx | hx
  ·exact Nat.le_succ_of_le (h2 x hx)
  ·rw [List.mem_singleton.1 hx]; exact Nat.zero_le _
 split
 ·unfold zjR
  refine ⟨by simp, fun x hx => ?_⟩
  rcases List.mem_or_eq_of_mem_set hx with hx | hx
  ·exact Nat.le_succ_of_le (h2 x hx)
  ·subst hx
   have hy : (ds.getD (ds.length - 1) zcb).Gives.length ≤ k := by
    rw [List.getD_eq_getElem?_getD]
    cases hq : ds[ds.length - 1]? with
    | none => exact Nat.zero_le _
    | some y => exact h2 y (List.mem_of_getElem? hq)
   show ((_ : List GiveS) ++ [_]).length ≤ _
   rw [List.length_append]; simp only [List.length_cons, List.length_nil]; omega
 ·exact ⟨by omega, fun x hx => Nat.le_succ_of_le (h2 x hx)⟩
/-! the state of a reader -/
def InvD (text : Str) (done : List Str) (st : Value × List DlV) : Prop := st.2.map (·.1) = rdD done ∧ (done ≠ [] → odB (dvH text) = true ∧ st.2 ≠ []) ∧ st.2.length ≤ done.length ∧ ∀ p ∈ st.2, p.1.Gives.length ≤ done.length
/-- Whether a line is taken, by whether offers are there. -/
def okS (ds : List DlV) (s : Str) : Bool := odB s || (gvB s && !ds.isEmpty)
theorem zuy {text s : Str} {done : List Str} {st : Value × List DlV} (hq : (spl 10 text)[done.length]? = some s) (h : InvD text done st) : okS st.2 s = okT (dvH text) s := by
 obtain ⟨h1, h2, h3, _⟩ := h
 unfold okS okT
 by_cases hd : done = []
 ·have h0 : st.2 = [] := by
   have : st.2.length ≤ 0 := by rw [hd] at h3; simpa using h3
   exact List.length_eq_zero_iff.1 (by omega)
  have hs : dvH text = s := by
   unfold dvH
   rw [hd] at hq
   cases hl : spl 10 text with
   | nil => rw [hl] at hq; cases hq
   | cons a b => rw [hl] at hq; simpa using hq
  rw [h0, hs]
  cases odB s <;> simp
 ·obtain ⟨a1, a2⟩ := h2 hd
  have : st.2.isEmpty = false := by
   cases hq2 : st.2 with
   | nil => exact absurd hq2 a2
   | cons _ _ => rfl
  rw [a1, this]; rfl
theorem InvD.next {text s : Str} {done : List Str} {st st' : Value × List DlV} (hq : (spl 10 text)[done.length]? = some s) (h : InvD text done st) (hok : okS st.2 s = true) (h1 : st'.2.map (·.1) = zet (st.2.map (·.1)) s) : InvD text (done ++ [s]) st' := by
 have hT := zuy hq h
 obtain ⟨a1, a2, a3, a4⟩ := h
 have hlen : (zet (st.2.map (·.1)) s).length ≤ st.2.length + 1 ∧ 0 < (zet (st.2.map (·.1)) s).length ∧ ∀ x ∈ zet (st.2.map (·.1)) s, x.Gives.length ≤ done.length + 1 := by
  have h5 := zs4 (k := done.length) (ds := st.2.map (·.1)) (s := s) (by simpa using a3) (fun x hx => by obtain ⟨p, hp, rfl⟩ := List.mem_map.1 hx; exact a4 p hp)
  refine ⟨by simpa using h5.1, ?_, h5.2⟩
  ·unfold okS at hok
   unfold zet
   cases ho : odB s with
   | true => simp
   | false =>
     rw [ho, Bool.false_or, Bool.and_eq_true] at hok
     rw [if_neg (by simp), if_pos hok.1]
     unfold zjR
     rw [List.length_set, List.length_map]
     cases hq2 : st.2 with
     | nil => rw [hq2] at hok; simp at hok
     | cons _ _ => simp
 have hl' : st'.2.length = (zet (st.2.map (·.1)) s).length := by rw [← h1, List.length_map]
 refine ⟨by rw [h1, a1, zr5], fun _ => ⟨?_, fun e => ?_⟩, ?_, fun p hp => ?_⟩
 ·by_cases hd : done = []
  ·rw [hT] at hok
   unfold okT at hok
   have hs : dvH text = s := by
    unfold dvH
    rw [hd] at hq
    cases hl : spl 10 text with
    | nil => rw [hl] at hq; cases hq
    | cons a b => rw [hl] at hq; simpa using hq
   rw [hs] at hok ⊢
   cases ho : odB s with
   | true => rfl
   | false => rw [ho] at hok; simp at hok
  ·exact (a2 hd).1
 ·rw [e] at hl'; simp at hl'; omega
 ·rw [List.length_append, List.length_cons, List.length_nil]; omega
 ·rw [List.length_append, List.length_cons, List.length_nil]
  exact hlen.2.2 p.1 (by rw [← h1]; exact List.mem_map_of_mem hp)
end
end Go.HL
section
namespace Go.HL
theorem zi2 {o : List OwnerS} : ∀ (l : List GiveS) (p d : List OwnerS), p.map (·.Player) = o.map (·.Player) → zb5 p l = some d → d.map (·.Player) = o.map (·.Player)
 | [], p, d, hp, h => by rw [zb5] at h; cases h; exact hp
 | g :: r, p, d, hp, h => by
   rw [zb5] at h
   cases hs : zfG p g with
   | none => rw [hs] at h; cases h
   | some q =>
     rw [hs] at h
     refine zi2 r q d ?_ h
     unfold zfG at hs
     split at hs
     ·rename_i y hy
      split at hs
      ·cases hs; rw [zlr hy, hp]
      ·cases hs
     ·cases hs
theorem ziF {m : MarketS} {o : List OwnerS} {x : DealS} (h : zfy m o x.Gives = true) : (zdQ o x.Gives).map (·.Player) = o.map (·.Player) := by
 unfold zfy at h
 cases hd : zb5 o x.Gives with
 | none => rw [hd] at h; cases h
 | some d => unfold zdQ; rw [hd]; exact zi2 x.Gives o d rfl hd
end Go.HL
namespace Go.HL
def zbX (m : MarketS) (o : List OwnerS) (l : List DealS) (a : List ReplyS) : Int := orI [zbR m o, zdE m l, zch m a]
theorem zlA {m : MarketS} (h : zaf m ≠ 0) (o : List OwnerS) (l : List DealS) (a : List ReplyS) : zbX m o l a = zaf m := by
 have h1 : zbR m o = zaf m := by rw [zbR, if_pos h]
 unfold zbX
 rw [h1, zki, if_pos h]
theorem zms {m : MarketS} (h : zaf m = 0) (o : List OwnerS) (l : List DealS) (a : List ReplyS) : orI [zb9 m o, zcK m l, zcR m a] = zbX m o l a := by
 obtain ⟨h1, h2, h3, _⟩ := zt8 h o l a a
 have h4 : ¬ zaf m ≠ 0 := by simp [h]
 unfold zbX
 rw [h1, h2, show zcR m a = zch m a by rw [zch, if_neg h4]]
theorem zqz {m : MarketS} {o : List OwnerS} {x : DealS} (h : zfy m o x.Gives = true) : (zdQ o x.Gives).length = o.length := by
 have := congrArg List.length (ziF h)
 simpa using this
end Go.HL
namespace Go.HL
end Go.HL
end
namespace Go.HL
section
/-- How an offer stands: 0 not yet, 1 open, 2 waits, 3 done, 4 refused, 5 back, 6 stopped, 7 late, 8 broken. -/
structure Dst where
 how : Int
 since : Int
 yes : List Str
 veto : List Str
def zg6 : Dst := ⟨0, 0, [], []⟩
abbrev DD := DealS × Dst
structure FS where
 o : List OwnerS
 ds : List DD
 log : List (DealS × List OwnerS)
def zbo (p : DD) (how t : Int) : DD := (p.1, ⟨how, t, p.2.yes, p.2.veto⟩)
def zcQ (t : Int) (p : DD) : DD := if p.2.how = 0 ∧ p.1.From = t then (p.1, ⟨1, t, zaR p.1.By p.2.yes, p.2.veto⟩) else p
def zb2 (m : MarketS) (a : ReplyS) (p : DD) : DD :=
 if p.2.how ≠ 1 ∧ p.2.how ≠ 2 then p
 else if a.Kind = 1 ∧ (zbz p.1.Gives).contains a.Team = true ∧ p.2.how = 1 then
  if ((zaR a.Team p.2.yes).length : Int) = (zbz p.1.Gives).length then (p.1, ⟨2, a.At, zaR a.Team p.2.yes, p.2.veto⟩) else (p.1, ⟨p.2.how, p.2.since, zaR a.Team p.2.yes, p.2.veto⟩)
 else if a.Kind = 2 ∧ (zbz p.1.Gives).contains a.Team = true then zbo p 4 a.At
 else if a.Kind = 4 ∧ a.Team = p.1.By then zbo p 5 a.At
 else if a.Kind = 3 ∧ (zbz p.1.Gives).contains a.Team = false ∧ p.2.how = 2 then
  if ((zaR a.Team p.2.veto).length : Int) = m.Vetoes then (p.1, ⟨6, a.At, p.2.yes, zaR a.Team p.2.veto⟩) else (p.1, ⟨p.2.how, p.2.since, p.2.yes, zaR a.Team p.2.veto⟩)
 else p
def zcS (m : MarketS) (a : ReplyS) : List DD → List DD
 | [] => []
 | p :: r => if p.1.Id = a.Offer then zb2 m a p :: r else p :: zcS m a r
def zba (m : MarketS) (t : Int) (o : List OwnerS) (p : DD) : List OwnerS × DD × List (DealS × List OwnerS) :=
 if p.2.how = 2 ∧ p.2.since + m.Wait ≤ t then
  if m.Deadline ≤ t then (o, zbo p 7 t, [])
  else if zfy m o p.1.Gives = true then (zdQ o p.1.Gives, zbo p 3 t, [(p.1, zdQ o p.1.Gives)])
  else (o, zbo p 8 t, [])
 else if p.2.how = 1 ∧ (p.1.To ≤ t ∨ m.Deadline ≤ t) then (o, zbo p 7 t, [])
 else (o, p, [])
def zbq (m : MarketS) (t : Int) : List OwnerS → List DD → FS
 | o, [] => ⟨o, [], []⟩
 | o, p :: r => ⟨(zbq m t (zba m t o p).1 r).o, (zba m t o p).2.1 :: (zbq m t (zba m t o p).1 r).ds, (zba m t o p).2.2 ++ (zbq m t (zba m t o p).1 r).log⟩
def zeC (m : MarketS) (rs : List ReplyS) (ds : List DD) : List DD := rs.foldl (fun d r => zcS m r d) ds
def atL (a : List ReplyS) (t : Int) : List ReplyS := a.filter fun r => decide (r.At = t)
def stF (m : MarketS) (a : List ReplyS) (st : FS) (t : Int) : FS :=
 ⟨(zbq m t st.o (zeC m (atL a t) (st.ds.map (zcQ t)))).o, (zbq m t st.o (zeC m (atL a t) (st.ds.map (zcQ t)))).ds, st.log ++ (zbq m t st.o (zeC m (atL a t) (st.ds.map (zcQ t)))).log⟩
def zni (o : List OwnerS) (l : List DealS) : FS := ⟨o, l.map fun x => (x, zg6), []⟩
/-- What all moments before one have brought. -/
def zaz (m : MarketS) (o : List OwnerS) (l : List DealS) (a : List ReplyS) : Nat → FS
 | 0 => zni o l
 | n + 1 => stF m a (zaz m o l a n) n
/-! the offers stay the same -/
theorem zkH (t : Int) (p : DD) : (zcQ t p).1 = p.1 := by unfold zcQ; split <;> rfl
theorem zkk (m : MarketS) (a : ReplyS) (p : DD) : (zb2 m a p).1 = p.1 := by
 unfold zb2
 split
 ·rfl
 split
 ·split <;> rfl
 split
 ·rfl
 split
 ·rfl
 split
 ·split <;> rfl
 ·rfl
theorem zkD (m : MarketS) (a : ReplyS) : ∀ ds : List DD, (zcS m a ds).map (·.1) = ds.map (·.1)
 | [] => rfl
 | p :: r => by
   rw [zcS]
   split
   ·simp [zkk]
   ·simp [zkD m a r]
theorem zoC (m : MarketS) (t : Int) (o : List OwnerS) (p : DD) : (zba m t o p).2.1.1 = p.1 := by
 unfold zba
 split
 ·split
  ·rfl
  split <;> rfl
 split <;> rfl
theorem znT (m : MarketS) (t : Int) : ∀ (ds : List DD) (o : List OwnerS), (zbq m t o ds).ds.map (·.1) = ds.map (·.1)
 | [], _ => rfl
 | p :: r, o => by rw [zbq]; simp [zoC, znT m t r]
theorem zkE (m : MarketS) : ∀ (rs : List ReplyS) (ds : List DD), (zeC m rs ds).map (·.1) = ds.map (·.1)
 | [], _ => rfl
 | a :: r, ds => by
   have := zkE m r (zcS m a ds)
   unfold zeC at this ⊢
   rw [List.foldl_cons, this, zkD]
theorem zlW (t : Int) (ds : List DD) : (ds.map (zcQ t)).map (·.1) = ds.map (·.1) := by
 rw [List.map_map]; exact List.map_congr_left fun p _ => zkH t p
theorem zs6 (m : MarketS) (a : List ReplyS) (st : FS) (t : Int) : (stF m a st t).ds.map (·.1) = st.ds.map (·.1) := by
 unfold stF; dsimp only
 rw [znT, zkE, zlW]
theorem zeV (m : MarketS) (o : List OwnerS) (l : List DealS) (a : List ReplyS) : ∀ n, (zaz m o l a n).ds.map (·.1) = l
 | 0 => by
   show (l.map fun x => (x, zg6)).map (·.1) = l
   rw [List.map_map]
   exact (List.map_congr_left (g := id) fun _ _ => rfl).trans (List.map_id l)
 | n + 1 => by rw [zaz, zs6, zeV m o l a n]
/-! what holds of each offer after all moments before one -/
structure DInv (m : MarketS) (n : Int) (p : DD) : Prop where
 zero : p.2.how = 0 → p.2.yes = [] ∧ p.2.veto = []
 fr : p.2.how ≠ 0 → p.1.From < n
 op : p.2.how = 1 → n ≤ p.1.To ∧ n ≤ m.Deadline ∧ p.2.yes.length ≠ (zbz p.1.Gives).length ∧ p.2.veto = []
 wt : p.2.how = 2 → n ≤ p.2.since + m.Wait ∧ (p.2.veto.length : Int) ≠ m.Vetoes
 since : p.2.how ≠ 0 → 0 ≤ p.2.since ∧ p.2.since < n
/-- The same within a za4: the offers of the za4 are open, but time has not passed. -/
structure DMid (m : MarketS) (n : Int) (p : DD) : Prop where
 zero : p.2.how = 0 → p.2.yes = [] ∧ p.2.veto = []
 fr : p.2.how ≠ 0 → p.1.From ≤ n
 op : p.2.how = 1 → p.2.yes.length ≠ (zbz p.1.Gives).length ∧ p.2.veto = []
 wt : p.2.how = 2 → (p.2.veto.length : Int) ≠ m.Vetoes
 since : p.2.how ≠ 0 → 0 ≤ p.2.since ∧ p.2.since ≤ n
theorem DInv.opn {m : MarketS} {n : Int} {p : DD} (hn : 0 ≤ n) (h : DInv m n p) (h2 : 2 ≤ (zbz p.1.Gives).length) : DMid m n (zcQ n p) := by
 unfold zcQ
 split
 ·rename_i hc
  obtain ⟨h0, h1⟩ := hc
  obtain ⟨hy, hv⟩ := h.zero h0
  refine ⟨fun e => by (simp [zbo] at e), fun _ => by (dsimp only; omega), fun _ => ⟨?_, hv⟩, fun e => by (simp [zbo] at e), fun _ => by (dsimp only; omega)⟩
  dsimp only
  rw [hy]
  have : (zaR p.1.By ([] : List Str)).length = 1 := rfl
  omega
 ·exact ⟨h.zero, fun e => by (have := h.fr e; omega), fun e => ⟨(h.op e).2.2.1, (h.op e).2.2.2⟩, fun e => (h.wt e).2, fun e => by (have := h.since e; omega)⟩
theorem DMid.ans {m : MarketS} {n : Int} {p : DD} {a : ReplyS} (hn : 0 ≤ n) (ha : a.At = n) (hv : 1 ≤ m.Vetoes) (h : DMid m n p) : DMid m n (zb2 m a p) := by
 unfold zb2
 split
 ·exact h
 rename_i hh
 have h0 : p.2.how ≠ 0 := fun e => hh ⟨by omega, by omega⟩
 have hf := h.fr h0
 have hs := h.since h0
 split
 ·rename_i hc
  obtain ⟨_, _, h1⟩ := hc
  obtain ⟨o1, o2⟩ := h.op h1
  split
  ·refine ⟨fun e => by (simp [zbo] at e), fun _ => hf, fun e => by (simp [zbo] at e), fun _ => ?_, fun _ => by (dsimp only; omega)⟩
   dsimp only; rw [o2]; simp; omega
  ·rename_i hl
   exact ⟨fun e => absurd e h0, fun _ => hf, fun _ => ⟨by (dsimp only at hl ⊢; omega), o2⟩, fun e => by (dsimp only at e; omega), fun _ => hs⟩
 split
 ·exact ⟨fun e => by (simp [zbo] at e), fun _ => hf, fun e => by (simp [zbo] at e), fun e => by (simp [zbo] at e), fun _ => by (unfold zbo; dsimp only; omega)⟩
 split
 ·exact ⟨fun e => by (simp [zbo] at e), fun _ => hf, fun e => by (simp [zbo] at e), fun e => by (simp [zbo] at e), fun _ => by (unfold zbo; dsimp only; omega)⟩
 split
 ·rename_i hc
  obtain ⟨_, _, h2⟩ := hc
  split
  ·exact ⟨fun e => by (simp [zbo] at e), fun _ => hf, fun e => by (simp [zbo] at e), fun e => by (simp [zbo] at e), fun _ => by (dsimp only; omega)⟩
  ·rename_i hl
   exact ⟨fun e => absurd e h0, fun _ => hf, fun e => by (dsimp only at e; omega), fun _ => hl, fun _ => hs⟩
 ·exact h
theorem DMid.pas {m : MarketS} {n : Int} {p : DD} {o : List OwnerS} (hn : 0 ≤ n) (h : DMid m n p) : DInv m (n + 1) (zba m n o p).2.1 := by
 have key : ∀ k : Int, 3 ≤ k → p.2.how ≠ 0 → DInv m (n + 1) (zbo p k n) := fun k hk h0 =>
  ⟨fun e => by (unfold zbo at e; dsimp only at e; omega), fun _ => by (have := h.fr h0; unfold zbo; dsimp only; omega), fun e => by (unfold zbo at e; dsimp only at e; omega), fun e => by (unfold zbo at e; dsimp only at e; omega), fun _ => by (unfold zbo; dsimp only; omega)⟩
 unfold zba
 split
 ·rename_i hc
  split
  ·exact key 7 (by omega) (by omega)
  split
  ·exact key 3 (by omega) (by omega)
  ·exact key 8 (by omega) (by omega)
 rename_i h2
 split
 ·exact key 7 (by omega) (by omega)
 rename_i h1
 refine ⟨h.zero, fun e => by (have := h.fr e; dsimp only; omega), fun e => ⟨?_, ?_, (h.op e).1, (h.op e).2⟩, fun e => ⟨?_, h.wt e⟩, fun e => by (have := h.since e; dsimp only; omega)⟩ <;> dsimp only at * <;> omega
def zgM (P : DD → Prop) (ds : List DD) : Prop := ∀ p ∈ ds, P p
theorem znx {P : DD → Prop} {m : MarketS} {a : ReplyS} (hp : ∀ p, P p → P (zb2 m a p)) : ∀ {ds : List DD}, zgM P ds → zgM P (zcS m a ds)
 | [], h => h
 | p :: r, h => by
   have hr := znx hp (ds := r) fun q hq => h q (List.mem_cons_of_mem p hq)
   rw [zcS]
   split
   ·intro q hq
    rcases List.mem_cons.1 hq with rfl | hq
    ·exact hp _ (h p (by simp))
    ·exact h q (List.mem_cons_of_mem p hq)
   ·intro q hq
    rcases List.mem_cons.1 hq with rfl | hq
    ·exact h _ (by simp)
    ·exact hr q hq
theorem zkj {P : DD → Prop} {m : MarketS} : ∀ {rs : List ReplyS} {ds : List DD}, (∀ a ∈ rs, ∀ p, P p → P (zb2 m a p)) → zgM P ds → zgM P (zeC m rs ds)
 | [], _, _, h => h
 | a :: r, ds, hp, h => by
   have := zkj (m := m) (rs := r) (ds := zcS m a ds) (fun x hx => hp x (List.mem_cons_of_mem a hx)) (znx (hp a (by simp)) h)
   exact this
theorem znC {P Q : DD → Prop} {m : MarketS} {t : Int} (hp : ∀ o p, P p → Q (zba m t o p).2.1) : ∀ {ds : List DD} {o : List OwnerS}, zgM P ds → zgM Q (zbq m t o ds).ds
 | [], _, _ => fun q hq => by cases hq
 | p :: r, o, h => by
   have hr := znC hp (ds := r) (o := (zba m t o p).1) fun q hq => h q (List.mem_cons_of_mem p hq)
   rw [zbq]
   intro q hq
   rcases List.mem_cons.1 hq with rfl | hq
   ·exact hp o p (h p (by simp))
   ·exact hr q hq
/-- What a right market and right offers give. -/
structure FOk (m : MarketS) (l : List DealS) : Prop where
 veto : 1 ≤ m.Vetoes
 two : ∀ x ∈ l, 2 ≤ (zbz x.Gives).length
def At0 (m : MarketS) (l : List DealS) (n : Int) (p : DD) : Prop := DInv m n p ∧ p.1 ∈ l
theorem zgn {m : MarketS} {o : List OwnerS} {l : List DealS} {a : List ReplyS} (h : FOk m l) : ∀ n : Nat, zgM (At0 m l n) (zaz m o l a n).ds
 | 0 => fun p hp => by
   unfold zaz zni at hp
   obtain ⟨x, hx, rfl⟩ := List.mem_map.1 hp
   exact ⟨⟨fun _ => ⟨rfl, rfl⟩, fun e => absurd rfl e, fun e => by (simp [zg6] at e), fun e => by (simp [zg6] at e), fun e => absurd rfl e⟩, hx⟩
 | n + 1 => by
   have ih := zgn (o := o) (a := a) h n
   rw [zaz]
   have h1 : zgM (fun p => DMid m n p ∧ p.1 ∈ l) ((zaz m o l a n).ds.map (zcQ n)) := fun p hp => by
    obtain ⟨q, hq, rfl⟩ := List.mem_map.1 hp
    obtain ⟨i1, i2⟩ := ih q hq
    exact ⟨i1.opn (by omega) (h.two _ i2), by rw [zkH]; exact i2⟩
   have h2 := zkj (m := m) (rs := atL a n) (P := fun p => DMid m n p ∧ p.1 ∈ l) (fun r hr p hp => by
    unfold atL at hr
    obtain ⟨_, hat⟩ := List.mem_filter.1 hr
    exact ⟨hp.1.ans (by omega) (by simpa using hat) h.veto, by rw [zkk]; exact hp.2⟩) h1
   have h3 := znC (m := m) (t := n) (Q := fun p => DInv m (n + 1) p ∧ p.1 ∈ l) (o := (zaz m o l a n).o) (fun o p hp => ⟨hp.1.pas (by omega), by rw [zoC]; exact hp.2⟩) h2
   intro p hp
   obtain ⟨h4, h5⟩ := h3 p hp
   have e : ((n + 1 : Nat) : Int) = (n : Int) + 1 := by omega
   refine ⟨?_, h5⟩; rw [e]; exact h4
/-! moments that bring nothing -/
def zjI (m : MarketS) (a : List ReplyS) (ds : List DD) (t : Int) : Prop :=
 t ≠ m.Deadline ∧ (∀ r ∈ a, r.At ≠ t) ∧ ∀ p ∈ ds, p.1.From ≠ t ∧ p.1.To ≠ t ∧ (p.2.how = 2 → p.2.since + m.Wait ≠ t)
theorem zlK {m : MarketS} {t : Int} : ∀ (ds : List DD) (o : List OwnerS), (∀ p ∈ ds, ∀ o, zba m t o p = (o, p, [])) → zbq m t o ds = ⟨o, ds, []⟩
 | [], _, _ => rfl
 | p :: r, o, h => by
   have hp := h p (by simp) o
   have ih := zlK r o fun q hq => h q (List.mem_cons_of_mem p hq)
   rw [zbq, hp]
   dsimp only
   rw [ih]; rfl
theorem zp9 {m : MarketS} {a : List ReplyS} {st : FS} {t : Int} (hi : zgM (DInv m t) st.ds) (hq : zjI m a st.ds t) : stF m a st t = st := by
 obtain ⟨q1, q2, q3⟩ := hq
 have e1 : st.ds.map (zcQ t) = st.ds := by
  conv => rhs; rw [← List.map_id st.ds]
  refine List.map_congr_left fun p hp => ?_
  unfold zcQ
  rw [if_neg fun hc => (q3 p hp).1 hc.2]; rfl
 have e2 : atL a t = [] := by
  unfold atL
  rw [List.filter_eq_nil_iff]
  intro r hr
  simpa using q2 r hr
 have e3 : zbq m t st.o st.ds = ⟨st.o, st.ds, []⟩ := zlK _ _ fun p hp o => by
  have h := hi p hp
  obtain ⟨a1, a2, a3⟩ := q3 p hp
  unfold zba
  rw [if_neg, if_neg]
  ·rintro ⟨h1, h2⟩
   have := h.op h1
   omega
  ·rintro ⟨h1, h2⟩
   have := h.wt h1
   have := a3 h1
   omega
 unfold stF
 rw [e1, e2]
 show (⟨(zbq m t st.o st.ds).o, (zbq m t st.o st.ds).ds, st.log ++ (zbq m t st.o st.ds).log⟩ : FS) = st
 rw [e3]; simp
/-- Through moments that bring nothing all stays. -/
theorem zmt {m : MarketS} {o : List OwnerS} {l : List DealS} {a : List ReplyS} (h : FOk m l) {q : Nat} : ∀ k : Nat, (∀ t : Nat, q ≤ t → t < q + k → zjI m a (zaz m o l a q).ds t) → zaz m o l a (q + k) = zaz m o l a q
 | 0, _ => rfl
 | k + 1, hk => by
   have ih := zmt h k fun t h1 h2 => hk t h1 (by omega)
   rw [show q + (k + 1) = (q + k) + 1 by omega, zaz]
   have hi : zgM (DInv m ((q + k : Nat) : Int)) (zaz m o l a (q + k)).ds := fun p hp => (zgn h (q + k) p hp).1
   rw [zp9 hi, ih]
   rw [ih]
   exact hk (q + k) (by omega) (by omega)
theorem zol {m : MarketS} {o : List OwnerS} {l : List DealS} {a : List ReplyS} (h : FOk m l) {q n : Nat} (hn : q ≤ n) (hk : ∀ t : Nat, q ≤ t → t < n → zjI m a (zaz m o l a q).ds t) : zaz m o l a n = zaz m o l a q := by
 have := zmt (o := o) (a := a) h (q := q) (n - q) (fun t h1 h2 => hk t h1 (by omega))
 rwa [show q + (n - q) = n by omega] at this
end
section
theorem zrN {α : Type} {M : List α} {i : Nat} {m m' : α} (h : M[i]? = some m) : ([m'] ++ M.eraseIdx i).Perm (M.set i m') := (zkr m' h).symm
/-- A call that changes one owned object: it stays at its place. -/
theorem zdm [Tracks] {P : Program} {e : Env} {dst : Option Tmp} {ty : TypeId} {pos : String} {af : Array Edge} {g : Option (Nat × Bool)} {M : List MObj} {K : HVal → List MObj → Prop} {f : FuncId} {args : Array Operand} {ats : Array TypeId}
 {hs hs' : List HVal} {i : Nat} {m m' : MObj} {h : HVal} (hc : Callable P f) (ha : zdh e args.toList = some hs) (hw : WeakL hs hs') (hm : M[i]? = some m)
 (hp : Con P f hs' [m] fun x M' => x = h ∧ M' = [m']) (hk : K h (M.set i m')) : EOp P e M ⟨dst, .call ⟨.value (.func f), args, ats⟩, ty, pos, af, g⟩ K := by
 refine EOp.post_ghost (zd hc ha hw hm hp ?_)
 rintro _ _ ⟨rfl, rfl⟩
 exact ⟨M.set i m', fun J F w hs => hs.perm ((zrN hm).append_right F), hk⟩
structure DV where
 p : DD
 b : Nat
 my : Nat
 mv : Nat
def cD (d : DV) : List HVal := [.str d.p.1.Id, .str d.p.1.By, .int .i64 d.p.1.From, .int .i64 d.p.1.To, zlu d.p.1.Gives, .int .i64 d.p.2.how, .int .i64 d.p.2.since, eSs (zbz d.p.1.Gives), .raw (.map (some d.my)), .raw (.map (some d.mv))]
def o3 (d : DV) : List MObj := [.cells d.b (cD d), .map d.my (sk (zbh d.p.2.yes)), .map d.mv (sk (zbh d.p.2.veto))]
def flD (E : List DV) : List MObj := E.flatMap o3
abbrev pD (d : DV) : HVal := .raw (.pointer (some ⟨d.b, 0, none⟩))
def FL (bf : Nat) (m : MarketS) (o : List OwnerS) (fn : HVal) (E : List DV) : List MObj := .cells bf [.vptr (zn (zaM m)) 0, .slice 1 (E.map pD), za8 o, fn] :: flD E
theorem zhO : ∀ {E : List DV} {k j : Nat} {d : DV}, E[k]? = some d → j < 3 → (flD E)[3 * k + j]? = (o3 d)[j]?
 | [], k, j, d, h, _ => by simp at h
 | e :: r, 0, j, d, h, hj => by
   simp at h; subst h
   show (o3 e ++ flD r)[3 * 0 + j]? = _
   rw [show 3 * 0 + j = j by omega, List.getElem?_append_left (by show j < 3; exact hj)]
 | e :: r, k + 1, j, d, h, hj => by
   simp at h
   show (o3 e ++ flD r)[3 * (k + 1) + j]? = _
   rw [List.getElem?_append_right (by show 3 ≤ _; omega), show 3 * (k + 1) + j - (o3 e).length = 3 * k + j by show 3 * (k + 1) + j - 3 = _; omega]
   exact zhO h hj
theorem zpa : ∀ {E : List DV} {k j : Nat} {d d' : DV} {x : MObj}, E[k]? = some d → j < 3 → (o3 d).set j x = o3 d' → (flD E).set (3 * k + j) x = flD (E.set k d')
 | [], k, j, d, d', x, h, _, _ => by simp at h
 | e :: r, 0, j, d, d', x, h, hj, hx => by
   simp at h; subst h
   show (o3 e ++ flD r).set (3 * 0 + j) x = o3 d' ++ flD r
   rw [show 3 * 0 + j = j by omega, List.set_append_left _ _ (by show j < 3; exact hj), hx]
 | e :: r, k + 1, j, d, d', x, h, hj, hx => by
   simp at h
   show (o3 e ++ flD r).set (3 * (k + 1) + j) x = o3 e ++ flD (r.set k d')
   rw [List.set_append_right _ _ (by show 3 ≤ _; omega), show 3 * (k + 1) + j - (o3 e).length = 3 * k + j by show 3 * (k + 1) + j - 3 = _; omega, zpa h hj hx]
section
variable {bf : Nat} {m : MarketS} {o : List OwnerS} {fn : HVal} {E : List DV} {k : Nat} {d : DV} {S : List MObj}
theorem zbB (h : E[k]? = some d) : (FL bf m o fn E ++ S)[3 * k + 1]? = some (.cells d.b (cD d)) := by
 have h1 := zhO h (j := 0) (by omega)
 have h2 : (flD E)[3 * k]? = some (.cells d.b (cD d)) := h1
 show (flD E ++ S)[3 * k]? = _
 rw [List.getElem?_append_left (zN h2)]; exact h2
theorem zsc (h : E[k]? = some d) : (FL bf m o fn E ++ S)[3 * k + 2]? = some (.map d.my (sk (zbh d.p.2.yes))) := by
 have h2 : (flD E)[3 * k + 1]? = some (.map d.my (sk (zbh d.p.2.yes))) := zhO h (j := 1) (by omega)
 show (flD E ++ S)[3 * k + 1]? = _
 rw [List.getElem?_append_left (zN h2)]; exact h2
theorem FL_v (h : E[k]? = some d) : (FL bf m o fn E ++ S)[3 * k + 3]? = some (.map d.mv (sk (zbh d.p.2.veto))) := by
 have h2 : (flD E)[3 * k + 2]? = some (.map d.mv (sk (zbh d.p.2.veto))) := zhO h (j := 2) (by omega)
 show (flD E ++ S)[3 * k + 2]? = _
 rw [List.getElem?_append_left (zN h2)]; exact h2
theorem zt6 {d' : DV} (h : E[k]? = some d) (hb : d'.b = d.b) : (E.set k d').map pD = E.map pD := by
 rw [List.map_set]
 refine List.ext_getElem? fun j => ?_
 by_cases e : k = j
 ·subst e
  rw [List.getElem?_set_self (by simpa using zN h), List.getElem?_map, h]
  show some (pD d') = some (pD d)
  unfold pD; rw [hb]
 ·rw [List.getElem?_set_ne e]
theorem zlT {d' : DV} {x : MObj} {j : Nat} (h : E[k]? = some d) (hj : j < 3) (hb : d'.b = d.b) (hx : (o3 d).set j x = o3 d') : (FL bf m o fn E ++ S).set (3 * k + j + 1) x = FL bf m o fn (E.set k d') ++ S := by
 have h1 := zpa h hj hx
 have hl : 3 * k + j < (flD E).length := by
  have h2 := zhO h hj
  rcases Nat.lt_or_ge (3 * k + j) (flD E).length with q | q
  ·exact q
  ·rw [List.getElem?_eq_none q] at h2
   have : j < (o3 d).length := hj
   rw [List.getElem?_eq_getElem this] at h2; cases h2
 unfold FL
 rw [zt6 h hb, ← h1]
 show _ :: ((flD E ++ S).set (3 * k + j) x) = _ :: (_ ++ S)
 rw [List.set_append_left _ _ hl]
/-- The record of an offer changes. -/
theorem zsz {w : Dst} (h : E[k]? = some d) (hy : w.yes = d.p.2.yes) (hv : w.veto = d.p.2.veto) : (FL bf m o fn E ++ S).set (3 * k + 1) (.cells d.b (cD { d with p := (d.p.1, w) })) = FL bf m o fn (E.set k { d with p := (d.p.1, w) }) ++ S :=
 zlT (j := 0) (d' := { d with p := (d.p.1, w) }) h (by omega) rfl (by unfold o3; simp [hy, hv])
theorem zsF {w : List Str} (h : E[k]? = some d) : (FL bf m o fn E ++ S).set (3 * k + 2) (.map d.my (sk (zbh w))) = FL bf m o fn (E.set k { d with p := (d.p.1, { d.p.2 with yes := w }) }) ++ S :=
 zlT (j := 1) (d' := { d with p := (d.p.1, { d.p.2 with yes := w }) }) h (by omega) rfl rfl
theorem zu2 {w : List Str} (h : E[k]? = some d) : (FL bf m o fn E ++ S).set (3 * k + 3) (.map d.mv (sk (zbh w))) = FL bf m o fn (E.set k { d with p := (d.p.1, { d.p.2 with veto := w }) }) ++ S :=
 zlT (j := 2) (d' := { d with p := (d.p.1, { d.p.2 with veto := w }) }) h (by omega) rfl rfl
end
/-! walks over all offers -/
def EK (f : DV → DV) (k : Nat) (E : List DV) : List DV := (E.take k).map f ++ E.drop k
theorem EK_0 (f : DV → DV) (E : List DV) : EK f 0 E = E := by simp [EK]
theorem ztZ (f : DV → DV) (E : List DV) : EK f E.length E = E.map f := by simp [EK]
theorem zqU {f : DV → DV} {k : Nat} {E : List DV} {d : DV} (h : E[k]? = some d) : (EK f k E)[k]? = some d := by
 unfold EK
 have hl := zN h
 rw [List.getElem?_append_right (by simp; omega)]
 simp only [List.length_map, List.length_take, Nat.min_eq_left (Nat.le_of_lt hl), Nat.sub_self, List.getElem?_drop, Nat.add_zero]
 exact h
theorem zqx {f : DV → DV} {k : Nat} {E : List DV} {d : DV} (h : E[k]? = some d) : (EK f k E).set k (f d) = EK f (k + 1) E := by
 unfold EK
 have hl := zN h
 rw [List.set_append_right _ _ (by simp; omega), zaI h, List.map_append, zU h]
 simp only [List.length_map, List.length_take, Nat.min_eq_left (Nat.le_of_lt hl), Nat.sub_self]
 simp
theorem ztc {f : DV → DV} {k : Nat} {E : List DV} {d : DV} (h : E[k]? = some d) (hf : f d = d) : EK f (k + 1) E = EK f k E := by
 have h1 := zqx (f := f) h
 rw [hf] at h1
 rw [← h1]
 have hg := zqU (f := f) h
 refine List.ext_getElem? fun j => ?_
 by_cases e : k = j
 ·subst e; rw [List.getElem?_set_self (zN hg), hg]
 ·rw [List.getElem?_set_ne e]
theorem zai [Tracks] {rs : List ResultVar} {e : Env} {M : List MObj} {h : HVal} {Q : HVal → List MObj → Prop} (hr : zfZ e rs = some h) (hh : Q h M) : zhf rs Q .normal e M :=
 ⟨e, M, Ghost.sub (Sub.refl _), h, h, hr, Weak.refl _, hh⟩
def dU (d : DV) (w : Dst) : DV := { d with p := (d.p.1, w) }
def zfU (t : Int) (d : DV) : DV := { d with p := zcQ t d.p }
theorem zt3 {t : Int} {d : DV} (h : d.p.2.how = 0 → ¬ d.p.1.From = t) : zfU t d = d := by
 unfold zfU zcQ; rw [if_neg fun q => h q.1 q.2]
theorem zti {bf : Nat} {m : MarketS} {o : List OwnerS} {fn : HVal} {E : List DV} {k : Nat} {d : DV} {S : List MObj} {t : Int} (h : d.p.2.how = 0 ∧ d.p.1.From = t) :
 FL bf m o fn ((E.set k (dU d ⟨1, t, d.p.2.yes, d.p.2.veto⟩)).set k { dU d ⟨1, t, d.p.2.yes, d.p.2.veto⟩ with p := ((dU d ⟨1, t, d.p.2.yes, d.p.2.veto⟩).p.1, { (dU d ⟨1, t, d.p.2.yes, d.p.2.veto⟩).p.2 with yes := zaR d.p.1.By d.p.2.yes }) }) ++ S = FL bf m o fn (E.set k (zfU t d)) ++ S := by
 rw [List.set_set]
 unfold zfU zcQ
 rw [if_pos h]; rfl
end
section
def zbd (t out x : Int) : Int := if t < x then min out x else out
def zbI (m : MarketS) (t out : Int) (p : DD) : Int := if p.2.how = 2 then zbd t (zbd t (zbd t out p.1.From) p.1.To) (p.2.since + m.Wait) else zbd t (zbd t out p.1.From) p.1.To
def zcB (m : MarketS) (t : Int) (a : List ReplyS) : Int := match a with | [] => zbd t 345686400000 m.Deadline | r :: _ => zbd t (zbd t 345686400000 m.Deadline) r.At
def zcF (m : MarketS) (t : Int) (a : List ReplyS) (ps : List DD) : Int := ps.foldl (zbI m t) (zcB m t a)
theorem zej (t out x : Int) : zbd t out x ≤ out := by unfold zbd; split <;> omega
theorem zgt {t out x : Int} (h : t < out) : t < zbd t out x := by unfold zbd; split <;> omega
theorem zgq {t out x : Int} (h : t < x) : zbd t out x ≤ x := by unfold zbd; rw [if_pos h]; omega
theorem zsd (m : MarketS) (t out : Int) (p : DD) : zbI m t out p ≤ out := by
 have h1 := zej t out p.1.From
 have h2 := zej t (zbd t out p.1.From) p.1.To
 have h3 := zej t (zbd t (zbd t out p.1.From) p.1.To) (p.2.since + m.Wait)
 unfold zbI; split <;> omega
theorem zrt {m : MarketS} {t out : Int} {p : DD} (h : t < out) : t < zbI m t out p := by
 have h2 := zgt (x := p.1.To) (zgt (x := p.1.From) h)
 unfold zbI; split
 ·exact zgt h2
 ·exact h2
theorem zsV {m : MarketS} {t out : Int} {p : DD} : (t < p.1.From → zbI m t out p ≤ p.1.From) ∧ (t < p.1.To → zbI m t out p ≤ p.1.To) ∧ (p.2.how = 2 → t < p.2.since + m.Wait → zbI m t out p ≤ p.2.since + m.Wait) := by
 have h2 := zej t (zbd t out p.1.From) p.1.To
 have h3 := zej t (zbd t (zbd t out p.1.From) p.1.To) (p.2.since + m.Wait)
 refine ⟨fun h => ?_, fun h => ?_, fun hh h => ?_⟩
 ·have h1 := zgq (out := out) h
  unfold zbI; split <;> omega
 ·have h1 := zgq (out := zbd t out p.1.From) h
  unfold zbI; split <;> omega
 ·unfold zbI; rw [if_pos hh]; exact zgq h
theorem zht (m : MarketS) (t : Int) : ∀ (ps : List DD) (out : Int), ps.foldl (zbI m t) out ≤ out
 | [], _ => Int.le_refl _
 | p :: r, out => by
   have h1 := zht m t r (zbI m t out p)
   have h2 := zsd m t out p
   rw [List.foldl_cons]; omega
theorem zo7 {m : MarketS} {t : Int} : ∀ (ps : List DD) (out : Int), t < out → t < ps.foldl (zbI m t) out
 | [], _, h => h
 | p :: r, out, h => by rw [List.foldl_cons]; exact zo7 r _ (zrt h)
theorem zqG {m : MarketS} {t : Int} : ∀ (ps : List DD) (out : Int), ∀ p ∈ ps, (t < p.1.From → ps.foldl (zbI m t) out ≤ p.1.From) ∧ (t < p.1.To → ps.foldl (zbI m t) out ≤ p.1.To) ∧ (p.2.how = 2 → t < p.2.since + m.Wait → ps.foldl (zbI m t) out ≤ p.2.since + m.Wait)
 | [], _, p, hp => by cases hp
 | q :: r, out, p, hp => by
   rw [List.foldl_cons]
   rcases List.mem_cons.1 hp with rfl | hp
   ·obtain ⟨h1, h2, h3⟩ := zsV (m := m) (t := t) (out := out) (p := p)
    have h4 := zht m t r (zbI m t out p)
    exact ⟨fun h => Int.le_trans h4 (h1 h), fun h => Int.le_trans h4 (h2 h), fun hh h => Int.le_trans h4 (h3 hh h)⟩
   ·exact zqG r _ p hp
theorem zkm {m : MarketS} {t : Int} {a : List ReplyS} {ps : List DD} (h : t < 345686400000) : t < zcF m t a ps ∧ zcF m t a ps ≤ 345686400000 := by
 have h0 : t < zcB m t a ∧ zcB m t a ≤ 345686400000 := by
  have h1 := zej t 345686400000 m.Deadline
  have h2 := zgt (x := m.Deadline) h
  unfold zcB
  cases a with
  | nil => exact ⟨h2, h1⟩
  | cons r _ => have h3 := zej t (zbd t 345686400000 m.Deadline) r.At; exact ⟨zgt h2, by dsimp only; omega⟩
 exact ⟨zo7 ps _ h0.1, Int.le_trans (zht m t ps _) h0.2⟩
/-- Between a za4 and the next one nothing happens. -/
theorem zka {m : MarketS} {t u : Int} {a A : List ReplyS} {ps : List DD} (h1 : t < u) (h2 : u < zcF m t a ps) (hs : ∀ r ∈ A, r.At ≤ t ∨ ∃ x, a.head? = some x ∧ t < x.At ∧ x.At ≤ r.At)
 (hw : ∀ p ∈ ps, p.2.how = 2 → t < p.2.since + m.Wait) : zjI m A ps u := by
 have hle : zcF m t a ps ≤ zcB m t a := zht m t ps _
 refine ⟨fun e => ?_, fun r hr e => ?_, fun p hp => ?_⟩
 ·subst e
  have h3 := zgq (out := 345686400000) h1
  unfold zcB at hle
  cases a with
  | nil => dsimp only at hle; omega
  | cons r _ => have h4 := zej t (zbd t 345686400000 m.Deadline) r.At; dsimp only at hle; omega
 ·rcases hs r hr with h | ⟨x, hx, hy, h⟩
  ·omega
  ·cases a with
   | nil => cases hx
   | cons y _ =>
     simp at hx; subst hx
     unfold zcB at hle
     dsimp only at hle
     have := zgq (out := zbd t 345686400000 m.Deadline) hy
     omega
 ·obtain ⟨n1, n2, n3⟩ := zqG (m := m) (t := t) ps (zcB m t a) p hp
  refine ⟨fun e => ?_, fun e => ?_, fun hh e => ?_⟩
  ·have := n1 (by omega); unfold zcF at h2; omega
  ·have := n2 (by omega); unfold zcF at h2; omega
  ·have := n3 hh (hw p hp hh); unfold zcF at h2; omega
end
end Go.HL
section
namespace Go.HL
section
variable {P : Program} {e : Env} {dst : Option Tmp} {ty : TypeId} {pos : String} {af : Array Edge} {g : Option (Nat × Bool)}
theorem zkA {t el : TypeId} (hu : P.underlying t = some (.pointer el)) (a : Option Addr) (w : World) : (Op.equal t (.pointer a) (.pointer none)).run P w = .ok a.isNone w := by
 have h : ∀ d, (Op.equalIn (d + 1) t (.pointer a) (.pointer none)).run P w = .ok a.isNone w := fun d => by
  cases a <;> simp only [Op.equalIn, Sem.run_bind, run_underlying hu, Result.andThen_ok, Sem.run_pure, Option.isNone]
 exact h 9999
end
end Go.HL
namespace Go.HL
end Go.HL
end
namespace Go.HL
section
section
variable {P : Program} {e : Env} {dst : Option Tmp} {ty : TypeId} {pos : String} {af : Array Edge} {g : Option (Nat × Bool)}
theorem zlE [Tracks] {x y : Operand} {t t' el : TypeId} {size bytes : Nat} {zero : Value} {a : Option Addr} (hf : Fits P t (.ptr el) size bytes zero) (hx : zF e x = some (.raw (.pointer a))) (hy : zF e y = some (.raw (.pointer none))) :
 POp P e ⟨dst, .binOp .eql t x y t', ty, pos, af, g⟩ (.bool a.isNone) :=
 POp.of_val fun I s w ho => by
  have h1 := (ho.one (x := x) (by simp [Op.operands]) hx).raw_inv
  have h2 := (ho.one (x := y) (by simp [Op.operands]) hy).raw_inv
  refine ⟨_, ?_, .bool _⟩
  simp [execOp, h1, h2, eqGuard, binOp, zkA hf.ptrD]
end
theorem za1 (l : List Str) : (sk (zbh l)).length = l.length := by unfold sk zbh; simp
def dY (d : DV) (w : List Str) : DV := { d with p := (d.p.1, { d.p.2 with yes := w }) }
def dV (d : DV) (w : List Str) : DV := { d with p := (d.p.1, { d.p.2 with veto := w }) }
def dT (d : DV) (how t : Int) : DV := { d with p := zbo d.p how t }
def dP (d : DV) (p : DD) : DV := { d with p := p }
theorem zof {E : List DV} {k : Nat} {d : DV} (h : E[k]? = some d) : E.set k d = E := by
 refine List.ext_getElem? fun j => ?_
 by_cases e : k = j
 ·subst e; rw [List.getElem?_set_self (zN h), h]
 ·rw [List.getElem?_set_ne e]
section
variable {bf : Nat} {m : MarketS} {o : List OwnerS} {fn : HVal} {E : List DV} {k : Nat} {d : DV} {S : List MObj} {a : ReplyS}
theorem zbA {how t : Int} (h : E[k]? = some d) : (FL bf m o fn E ++ S).set (3 * k + 1) (.cells d.b (cD { d with p := zbo d.p how t })) = FL bf m o fn (E.set k (dT d how t)) ++ S := zsz h rfl rfl
theorem zmd {x : DV} (h : E[k]? = some d) : (E.set k x)[k]? = some x := List.getElem?_set_self (zN h)
theorem ze6 (h : E[k]? = some d) (h1 : ¬ d.p.2.how = 1 ∧ ¬ d.p.2.how = 2) : FL bf m o fn E ++ S = FL bf m o fn (E.set k (dP d (zb2 m a d.p))) ++ S := by
 have e : zb2 m a d.p = d.p := by unfold zb2; rw [if_pos h1]
 rw [e]
 show _ = FL bf m o fn (E.set k d) ++ S
 rw [zof h]
theorem ze0 (h : E[k]? = some d) (h1 : ¬ (a.Kind = 1 ∧ (zbz d.p.1.Gives).contains a.Team = true ∧ d.p.2.how = 1)) (h2 : ¬ (a.Kind = 2 ∧ (zbz d.p.1.Gives).contains a.Team = true)) (h3 : ¬ (a.Kind = 4 ∧ a.Team = d.p.1.By))
 (h4 : ¬ (a.Kind = 3 ∧ (zbz d.p.1.Gives).contains a.Team = false ∧ d.p.2.how = 2)) : FL bf m o fn E ++ S = FL bf m o fn (E.set k (dP d (zb2 m a d.p))) ++ S := by
 have e : zb2 m a d.p = d.p := by
  unfold zb2; split
  ·rfl
  simp only [if_neg h1, if_neg h2, if_neg h3, if_neg h4]
 rw [e]
 show _ = FL bf m o fn (E.set k d) ++ S
 rw [zof h]
theorem zcO (h0 : ¬ (d.p.2.how ≠ 1 ∧ d.p.2.how ≠ 2)) (h1 : a.Kind = 1 ∧ (zbz d.p.1.Gives).contains a.Team = true ∧ d.p.2.how = 1) :
 (((zaR a.Team d.p.2.yes).length : Int) = (zbz d.p.1.Gives).length → dT (dY d (zaR a.Team d.p.2.yes)) 2 a.At = dP d (zb2 m a d.p)) ∧ (¬ ((zaR a.Team d.p.2.yes).length : Int) = (zbz d.p.1.Gives).length → dY d (zaR a.Team d.p.2.yes) = dP d (zb2 m a d.p)) := by
 refine ⟨fun h => ?_, fun h => ?_⟩
 ·unfold dP zb2; rw [if_neg h0, if_pos h1, if_pos h]; rfl
 ·unfold dP zb2; rw [if_neg h0, if_pos h1, if_neg h]; rfl
theorem zgV (h0 : ¬ (d.p.2.how ≠ 1 ∧ d.p.2.how ≠ 2)) (h1 : ¬ (a.Kind = 1 ∧ (zbz d.p.1.Gives).contains a.Team = true ∧ d.p.2.how = 1)) (h2 : a.Kind = 2 ∧ (zbz d.p.1.Gives).contains a.Team = true) : dT d 4 a.At = dP d (zb2 m a d.p) := by
 unfold dP zb2; rw [if_neg h0, if_neg h1, if_pos h2]; rfl
theorem zeY (h0 : ¬ (d.p.2.how ≠ 1 ∧ d.p.2.how ≠ 2)) (h1 : ¬ (a.Kind = 1 ∧ (zbz d.p.1.Gives).contains a.Team = true ∧ d.p.2.how = 1)) (h2 : ¬ (a.Kind = 2 ∧ (zbz d.p.1.Gives).contains a.Team = true)) (h3 : a.Kind = 4 ∧ a.Team = d.p.1.By) : dT d 5 a.At = dP d (zb2 m a d.p) := by
 unfold dP zb2; rw [if_neg h0, if_neg h1, if_neg h2, if_pos h3]; rfl
theorem zce (h0 : ¬ (d.p.2.how ≠ 1 ∧ d.p.2.how ≠ 2)) (h1 : ¬ (a.Kind = 1 ∧ (zbz d.p.1.Gives).contains a.Team = true ∧ d.p.2.how = 1)) (h2 : ¬ (a.Kind = 2 ∧ (zbz d.p.1.Gives).contains a.Team = true)) (h3 : ¬ (a.Kind = 4 ∧ a.Team = d.p.1.By))
 (h4 : a.Kind = 3 ∧ (zbz d.p.1.Gives).contains a.Team = false ∧ d.p.2.how = 2) :
 (((zaR a.Team d.p.2.veto).length : Int) = m.Vetoes → dT (dV d (zaR a.Team d.p.2.veto)) 6 a.At = dP d (zb2 m a d.p)) ∧ (¬ ((zaR a.Team d.p.2.veto).length : Int) = m.Vetoes → dV d (zaR a.Team d.p.2.veto) = dP d (zb2 m a d.p)) := by
 refine ⟨fun h => ?_, fun h => ?_⟩
 ·unfold dP zb2; rw [if_neg h0, if_neg h1, if_neg h2, if_neg h3, if_pos h4, if_pos h]; rfl
 ·unfold dP zb2; rw [if_neg h0, if_neg h1, if_neg h2, if_neg h3, if_pos h4, if_neg h]; rfl
end
theorem zpv {m : MarketS} {a : ReplyS} : ∀ {E : List DV} {k : Nat} {d : DV}, E[k]? = some d → d.p.1.Id = a.Offer → (∀ (j : Nat) (z : DV), j < k → E[j]? = some z → z.p.1.Id ≠ a.Offer) → zcS m a (E.map (·.p)) = (E.set k (dP d (zb2 m a d.p))).map (·.p)
 | [], k, d, h, _, _ => by simp at h
 | x :: r, 0, d, h, hi, _ => by
   simp at h; subst h
   show zcS m a (x.p :: r.map (·.p)) = _
   rw [zcS, if_pos hi]; rfl
 | x :: r, k + 1, d, h, hi, hl => by
   simp at h
   have h0 := hl 0 x (by omega) rfl
   have ih := zpv (m := m) (a := a) h hi fun j z hj hz => hl (j + 1) z (by omega) (by simpa using hz)
   show zcS m a (x.p :: r.map (·.p)) = x.p :: (r.set k (dP d (zb2 m a d.p))).map (·.p)
   rw [zcS, if_neg h0, ih]
theorem zmy {m : MarketS} {a : ReplyS} : ∀ {E : List DV}, (∀ z ∈ E, z.p.1.Id ≠ a.Offer) → zcS m a (E.map (·.p)) = E.map (·.p)
 | [], _ => rfl
 | x :: r, h => by
   show zcS m a (x.p :: r.map (·.p)) = _
   rw [zcS, if_neg (h x (by simp)), zmy fun z hz => h z (List.mem_cons_of_mem x hz)]; rfl
theorem zsZ (E : List DV) (s : Str) : (∀ z ∈ E, z.p.1.Id ≠ s) ∨ ∃ (k : Nat) (d : DV), E[k]? = some d ∧ d.p.1.Id = s ∧ ∀ (j : Nat) (z : DV), j < k → E[j]? = some z → z.p.1.Id ≠ s := by
 induction E with
 | nil => exact .inl fun z hz => by cases hz
 | cons x r ih =>
   by_cases hx : x.p.1.Id = s
   ·exact .inr ⟨0, x, rfl, hx, fun j z hj => by omega⟩
   ·rcases ih with h | ⟨k, d, h1, h2, h3⟩
    ·refine .inl fun z hz => ?_
     rcases List.mem_cons.1 hz with rfl | hz
     ·exact hx
     ·exact h z hz
    ·refine .inr ⟨k + 1, d, by simpa using h1, h2, fun j z hj hz => ?_⟩
     cases j with
     | zero => simp at hz; subst hz; exact hx
     | succ j => exact h3 j z (by omega) (by simpa using hz)
end
end Go.HL
