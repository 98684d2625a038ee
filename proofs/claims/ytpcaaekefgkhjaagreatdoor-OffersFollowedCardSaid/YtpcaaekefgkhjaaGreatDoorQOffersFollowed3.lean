/- Part 3 of the proof: a program logic, contracts of functions and plain facts; no conditions. -/
import Derived.Test.YtpcaaekefgkhjaaGreatDoorQOffersFollowed2
import Derived.KernelRfl
import Derived.Lib.AtoiBound
import Derived.Lib.ItoaMem
import Derived.Lib.Join
import Derived.Lib.SplitLaws
import Derived.Lib.Strings
import Derived.Shelf.Slices.CompactI
import Derived.Shelf.Slices.In.SortNone
import Derived.Shelf.Sort.Plain
set_option linter.unusedVariables false
set_option linter.unusedSimpArgs false
namespace Go.Proofs.YtpcaaekefgkhjaaGreatDoor
set_option maxRecDepth 100000
set_option linter.unusedVariables false
set_option linter.unusedSimpArgs false
section
open Go.HL
/-- slices.IndexFunc[[]string,string] -/
theorem zeJ [Tracks] {l : List Str} {fid : FuncId} {caps : List HVal} {p : Str → Bool} (hca : Callable Tryz.prog fid) (hp : ∀ x, zah Tryz.prog fid ([HVal.str x] ++ caps) (.bool (p x))) (hl : l.length ≤ 1000000) : zah Tryz.prog 157 [.slice 1 (l.map HVal.str), .fn (.func fid) [] caps] (.int .i64 (za4 p l 0)) := by
 refine Con.of_body Tryz.func157 rfl Tryz.ntmps157 rfl rfl ?_
 refine za ?_
 refine das rfl ?_
 refine dn ?_
 refine zm ?_
 refine za ?_
 refine dmv rfl ?_
 refine dq (zR zQ rfl) ?_
 refine dmv rfl ?_
 refine dn ?_
 refine zu ?_
 refine zaJ [4, 5, 8, 9, 10, 11, 12, 13, 14, 15, 16, 17, 18] (fun (k : Nat) => [(8, .int .i64 k)]) (fun (k : Nat) => []) (fun (k : Nat) => k ≤ l.length ∧ (za4 p l 0 = za4 p (l.drop k) k)) (fun (k : Nat) => l.length - k) (0) ?_ ?_ ?_ ?_
 ·exact ⟨Nat.zero_le _, rfl⟩
 ·exact ⟨rfl, trivial⟩
 ·exact List.Perm.refl _
 ·intro k hinv
  obtain ⟨hk, hg⟩ := hinv
  refine za ?_
  refine dq (zY rfl rfl) ?_
  refine dn ?_
  refine zm ?_
  refine zl rfl (fun h1 => ?_) (fun h2 => ?_)
  ·try simp at h1
   obtain ⟨x, hx⟩ : ∃ x, l[k]? = some x := ⟨_, List.getElem?_eq_getElem h1⟩
   have hdx := zU hx
   rw [hdx] at hg
   refine zo ?_
   refine zk ?_
   refine zm ?_
   refine zu ?_
   refine za ?_
   refine dmv rfl ?_
   refine das rfl ?_
   refine dn ?_
   refine za ?_
   refine dmv rfl ?_
   refine dmv rfl ?_
   refine dmv rfl ?_
   refine dq (zZ zQ ty9 rfl rfl rfl (by first | assumption | simp_all)) ?_
   refine dq (zh ty9 rfl rfl rfl) ?_
   refine dq (zdI hca rfl rfl (WeakL.refl _) (hp _)) ?_
   refine dn ?_
   refine zl rfl (fun h3 => ?_) (fun h4 => ?_)
   ·try simp at h3
    refine za ?_
    refine dmv rfl ?_
    refine das rfl ?_
    refine dn ?_
    refine zp ?_
    refine zI rfl ?_
    show HVal.int .i64 _ = _
    first | (rw [hg]; rfl) | (rw [hg]; simp_all [za4])
   ·try simp at h4
    refine zo ?_
    refine zA ?_
    refine zk ?_
    refine zB ?_
    refine dq (zC rfl rfl (by omega) (by omega)) ?_
    refine dmv rfl ?_
    refine dn ?_
    refine ⟨k + 1, ?_, ?_, ⟨rfl, trivial⟩, (by repeat (first | exact zq | refine zx rfl ?_ | refine zt rfl rfl ?_)), List.Perm.refl _⟩
    ·refine ⟨by omega, ?_⟩
     rw [hg, za4, if_neg (by simp_all)]; rfl
    ·dsimp only; omega
  ·try simp at h2
   have hnk : l.length ≤ k := by omega
   obtain rfl : k = l.length := by omega
   rw [zaS (Nat.le_refl _)] at hg
   refine z7 ?_
   refine zag ?_
   refine zaY ?_
   refine zT ?_
   refine zk ?_
   refine za ?_
   refine das rfl ?_
   refine dn ?_
   refine zp ?_
   refine zI rfl ?_
   show HVal.int .i64 _ = _
   first | (rw [hg]; rfl) | (rw [hg]; simp_all [za4])

/-- slices.ContainsFunc[[]string,string] -/
theorem zeh [Tracks] {l : List Str} {fid : FuncId} {caps : List HVal} {p : Str → Bool} (hca : Callable Tryz.prog fid) (hp : ∀ x, zah Tryz.prog fid ([HVal.str x] ++ caps) (.bool (p x))) (hl : l.length ≤ 1000000) : zah Tryz.prog 109 [.slice 1 (l.map HVal.str), .fn (.func fid) [] caps] (.bool (l.any p)) := by
 refine Con.of_body Tryz.func109 rfl Tryz.ntmps109 rfl rfl ?_
 refine za ?_
 refine das rfl ?_
 refine dn ?_
 refine za ?_
 refine dmv rfl ?_
 refine dmv rfl ?_
 refine dq (zw zs9 rfl (WeakL.refl _) (zeJ hca hp hl)) ?_
 refine dq (zbG rfl rfl) ?_
 refine das rfl ?_
 refine dn ?_
 refine zp ?_
 refine zI rfl ?_
 congr 1; exact zg3 p l 0 (by omega)

/-- benchwarmer/trade.isTeam -/
theorem zc5 [Tracks] {m : MarketS} {t : Str} (hm : MarketOk m) : zah Tryz.prog 51 [.vptr (zj (zaC m)) 0, .str t] (.bool (m.Teams.contains t)) := by
 refine Con.of_body Tryz.func51 rfl Tryz.ntmps51 rfl rfl ?_
 refine za ?_
 refine das rfl ?_
 refine dn ?_
 refine za ?_
 refine dmv rfl ?_
 refine dq ((by first | exact zn rfl | exact zg rfl)) ?_
 refine dq (zd zN rfl zQ (by decide) rfl) ?_
 refine dq (zh zQ rfl rfl rfl) ?_
 refine dmv rfl ?_
 refine dq (zw ca84 rfl (WeakL.refl _) (zei (l := m.Teams) (s := t) (by have := hm.len; omega) hm.sorted)) ?_
 refine dmv rfl ?_
 refine dq (zaO rfl rfl) ?_
 refine dq (zaO rfl rfl) ?_
 refine das rfl ?_
 refine das rfl ?_
 refine dn ?_
 refine za ?_
 refine dmv rfl ?_
 refine das rfl ?_
 refine dn ?_
 refine zp ?_
 refine zI rfl ?_
 rfl

/-- benchwarmer/trade.CheckMarket -/
theorem zd2 [Tracks] {m : MarketS} (ht : m.Teams.length ≤ 1000000) : zah Tryz.prog 64 [zaC m] (.int .i64 (zad m)) := by
 refine Con.of_body Tryz.func64 rfl Tryz.ntmps64 rfl rfl ?_
 refine za ?_
 refine dq (zal rfl rfl) ?_
 refine das rfl ?_
 refine dn ?_
 refine zm ?_
 refine zu ?_
 refine za ?_
 refine dq (zd zN rfl zQ (by decide) rfl) ?_
 refine dq (zh zQ rfl rfl rfl) ?_
 refine dq (zR zQ rfl) ?_
 refine dq (zaj rfl rfl) ?_
 refine das rfl ?_
 refine dn ?_
 refine zl rfl (fun h1 => ?_) (fun h2 => ?_)
 ·try simp at h1
  refine za ?_
  refine das rfl ?_
  refine dn ?_
  refine zp ?_
  refine zI rfl ?_
  show HVal.int .i64 _ = _
  first
  | (rw [zad, if_pos (by simpa using h1)]; done)
  | (rw [zad, if_neg (by simpa using h2), if_pos (by omega)]; done)
  | (rw [zad, if_neg (by simpa using h2), if_neg (by omega)]; simp_all; done)
 ·try simp at h2
  refine za ?_
  refine dq (zd zN rfl zQ (by decide) rfl) ?_
  refine dq (zh zQ rfl rfl rfl) ?_
  refine dq (zR zQ rfl) ?_
  refine dq (zaT rfl rfl) ?_
  refine das rfl ?_
  refine dn ?_
  refine zl rfl (fun h3 => ?_) (fun h4 => ?_)
  ·try simp at h3
   refine za ?_
   refine das rfl ?_
   refine dn ?_
   refine zp ?_
   refine zI rfl ?_
   show HVal.int .i64 _ = _
   first
   | (rw [zad, if_pos (by simpa using h1)]; done)
   | (rw [zad, if_neg (by simpa using h2), if_pos (by omega)]; done)
   | (rw [zad, if_neg (by simpa using h2), if_neg (by omega)]; simp_all; done)
  ·try simp at h4
   refine zo ?_
   refine zA ?_
   refine zk ?_
   refine zm ?_
   refine za ?_
   refine dq (zd zN rfl zQ (by decide) rfl) ?_
   refine dq (zh zQ rfl rfl rfl) ?_
   refine dq (zw zs5 rfl (WeakL.refl _) (zlQ (by first | assumption | omega | (simp; omega) | simp_all))) ?_
   refine das rfl ?_
   refine dn ?_
   refine za ?_
   refine dmv rfl ?_
   refine dq (zbq rfl rfl) ?_
   refine dn ?_
   refine zl rfl (fun h5 => ?_) (fun h6 => ?_)
   ·try simp at h5
    refine za ?_
    refine dmv rfl ?_
    refine das rfl ?_
    refine dn ?_
    refine zp ?_
    refine zI rfl ?_
    show HVal.int .i64 _ = _
    first
    | (rw [zad, if_pos (by simpa using h1)]; done)
    | (rw [zad, if_neg (by simpa using h2), if_pos (by omega)]; done)
    | (rw [zad, if_neg (by simpa using h2), if_neg (by omega)]; simp_all; done)
   ·try simp at h6
    refine zo ?_
    refine zk ?_
    refine zm ?_
    refine za ?_
    refine dq (zd zN rfl ty3 (by decide) rfl) ?_
    refine dq (zh ty3 rfl rfl rfl) ?_
    refine dq (zw zhu rfl (WeakL.refl _) zc0) ?_
    refine dmv rfl ?_
    refine dg rfl rfl (fun hc => ⟨_, OpenTo.refl _, zd zN rfl ty3 (by decide) rfl⟩) ?_
    refine dg rfl rfl (fun hc => ⟨_, OpenTo.upd (t := 24) rfl (by first | exact hc | simp_all) (OpenTo.refl _), zh ty3 rfl rfl rfl⟩) ?_
    refine dg rfl rfl (fun hc => ⟨_, OpenTo.upd (t := 25) rfl (by first | exact hc | simp_all) (OpenTo.refl _), zw zhu rfl (WeakL.refl _) zc0⟩) ?_
    refine dq (zG rfl (.inl rfl) (.inr ⟨_, rfl, fun h => by simp_all⟩)) ?_
    refine dmv rfl ?_
    refine dg rfl rfl (fun hc => ⟨_, OpenTo.refl _, zd zN rfl ty3 (by decide) rfl⟩) ?_
    refine dg rfl rfl (fun hc => ⟨_, OpenTo.upd (t := 29) rfl (by first | exact hc | simp_all) (OpenTo.refl _), zh ty3 rfl rfl rfl⟩) ?_
    refine dg rfl rfl (fun hc => ⟨_, OpenTo.upd (t := 30) rfl (by first | exact hc | simp_all) (OpenTo.refl _), zw zhu rfl (WeakL.refl _) zc0⟩) ?_
    refine dq (zG rfl (.inl rfl) (.inr ⟨_, rfl, fun h => by simp_all⟩)) ?_
    refine dmv rfl ?_
    refine dg rfl rfl (fun hc => ⟨_, OpenTo.refl _, zd zN rfl ty3 (by decide) rfl⟩) ?_
    refine dg rfl rfl (fun hc => ⟨_, OpenTo.upd (t := 34) rfl (by first | exact hc | simp_all) (OpenTo.refl _), zh ty3 rfl rfl rfl⟩) ?_
    refine dg rfl rfl (fun hc => ⟨_, OpenTo.refl _, zd zN rfl ty3 (by decide) rfl⟩) ?_
    refine dg rfl rfl (fun hc => ⟨_, OpenTo.upd (t := 36) rfl (by first | exact hc | simp_all) (OpenTo.refl _), zh ty3 rfl rfl rfl⟩) ?_
    refine dg rfl rfl (fun hc => ⟨_, OpenTo.upd (t := 37) rfl (by first | exact hc | simp_all) (OpenTo.upd (t := 35) rfl (by first | exact hc | simp_all) (OpenTo.refl _)), zw zhu rfl (WeakL.refl _) zc0⟩) ?_
    refine dq (zG rfl (.inl rfl) (.inr ⟨_, rfl, fun h => by simp_all⟩)) ?_
    refine dmv rfl ?_
    refine dg rfl rfl (fun hc => ⟨_, OpenTo.refl _, zd zN rfl ty3 (by decide) rfl⟩) ?_
    refine dg rfl rfl (fun hc => ⟨_, OpenTo.upd (t := 41) rfl (by first | exact hc | simp_all) (OpenTo.refl _), zh ty3 rfl rfl rfl⟩) ?_
    refine dg rfl rfl (fun hc => ⟨_, OpenTo.upd (t := 42) rfl (by first | exact hc | simp_all) (OpenTo.refl _), zaT rfl rfl⟩) ?_
    refine dq (zG rfl (.inl rfl) (.inr ⟨_, rfl, fun h => by simp_all⟩)) ?_
    refine dn ?_
    refine zl rfl (fun h7 => ?_) (fun h8 => ?_)
    ·try simp at h7
     refine za ?_
     refine das rfl ?_
     refine dn ?_
     refine zp ?_
     refine zI rfl ?_
     show HVal.int .i64 _ = _
     first
     | (rw [zad, if_pos (by simpa using h1)]; done)
     | (rw [zad, if_neg (by simpa using h2), if_pos (by omega)]; done)
     | (rw [zad, if_neg (by simpa using h2), if_neg (by omega)]; simp_all; done)
    ·try simp at h8
     refine zo ?_
     refine zk ?_
     refine za ?_
     refine das rfl ?_
     refine dn ?_
     refine zp ?_
     refine zI rfl ?_
     show HVal.int .i64 _ = _
     first
     | (rw [zad, if_pos (by simpa using h1)]; done)
     | (rw [zad, if_neg (by simpa using h2), if_pos (by omega)]; done)
     | (rw [zad, if_neg (by simpa using h2), if_neg (by omega)]; simp_all; done)

/-- benchwarmer/trade.within$1 -/
theorem zjU [Tracks] {m : MarketS} {o : List OwnerS} {L : zc9} {t : Str} (hL : ∀ t, lkI L t = .int .i64 (zdG o t)) : zah Tryz.prog 110 [.str t, .vptr [hsm L] 0, .vptr [.vptr (zj (zaC m)) 0] 0] (.bool (out (zdG o t) m.Least m.Most)) := by
 refine Con.of_body Tryz.func110 rfl Tryz.ntmps110 rfl rfl ?_
 refine za ?_
 refine das rfl ?_
 refine dn ?_
 refine zar (fun _ => True) [] mixed ?_
 refine ahp 0 rfl rfl (by kernel_rfl) (by kernel_rfl) (zh zhy rfl rfl rfl) ?_
 refine ahp 1 rfl rfl (by kernel_rfl) (by kernel_rfl) (zf rfl) ?_
 refine ahp 2 rfl rfl (by kernel_rfl) (by kernel_rfl) (zfO (zme zhy ty9 ty3 rfl rfl) (show _ = _ from hL t)) ?_
 refine ahp 3 rfl rfl (by kernel_rfl) (by kernel_rfl) (zh zdY rfl rfl rfl) ?_
 refine ahp 4 rfl rfl (by kernel_rfl) (by kernel_rfl) ((by first | exact zn rfl | exact zg rfl)) ?_
 refine ahp 5 rfl rfl (by kernel_rfl) (by kernel_rfl) (zd zN rfl ty3 (by decide) rfl) ?_
 refine ahp 6 rfl rfl (by kernel_rfl) (by kernel_rfl) (zh ty3 rfl rfl rfl) ?_
 refine ahp 7 rfl rfl (by kernel_rfl) (by kernel_rfl) (zh zdY rfl rfl rfl) ?_
 refine ahp 8 rfl rfl (by kernel_rfl) (by kernel_rfl) ((by first | exact zn rfl | exact zg rfl)) ?_
 refine ahp 9 rfl rfl (by kernel_rfl) (by kernel_rfl) (zd zN rfl ty3 (by decide) rfl) ?_
 refine ahp 10 rfl rfl (by kernel_rfl) (by kernel_rfl) (zh ty3 rfl rfl rfl) ?_
 refine ahp 11 rfl rfl (by kernel_rfl) (by kernel_rfl) (zw zhu rfl (WeakL.refl _) zc0) ?_
 refine ahp 12 rfl rfl (by kernel_rfl) (by kernel_rfl) (z8 rfl) ?_
 refine ahz (by kernel_rfl) ?_
 refine zp ?_
 refine zI rfl ?_
 rfl

/-- benchwarmer/trade.within -/
theorem zhk [Tracks] {m : MarketS} {o : List OwnerS} (ht : m.Teams.length ≤ 1000000) (ho : o.length ≤ 1000000) : zah Tryz.prog 66 [.vptr (zj (zaC m)) 0, zat o] (.bool (zfd m o)) := by
 refine Con.of_body Tryz.func66 rfl Tryz.ntmps66 rfl rfl ?_
 refine za ?_
 refine dq (zal rfl rfl) ?_
 refine das rfl ?_
 refine dn ?_
 refine za ?_
 refine de rfl (za9 fun m8 => ?_)
 refine de rfl (zac zhy rfl fun b5 => ?_)
 refine de0 (zax zhy rfl rfl rfl rfl rfl ?_)
 refine dn ?_
 refine zP (Ghost.fc0 5 rfl) ?_
 refine zm ?_
 refine za ?_
 refine dmv rfl ?_
 refine dq (zR zaD rfl) ?_
 refine dmv rfl ?_
 refine dn ?_
 refine zu ?_
 refine zaZ [7, 11, 12, 13, 14, 15, 16, 17, 18, 19, 20] (fun (k : Nat) (L : zc9) => [(11, .int .i64 k)]) (fun (k : Nat) (L : zc9) => [.map m8 (sk L)]) (fun (k : Nat) (L : zc9) => k ≤ o.length ∧ (∀ t, lkI L t = .int .i64 (zdG (o.take k) t))) (fun (k : Nat) (L : zc9) => o.length - k) (0) ([]) ?_ ?_ ?_ ?_
 ·exact ⟨Nat.zero_le _, fun t => by simp [lkI, zaK, zdG]⟩
 ·exact ⟨rfl, trivial⟩
 ·exact zO rfl
 ·intro k L hinv
  obtain ⟨hk, hL⟩ := hinv
  refine za ?_
  refine dq (zY rfl rfl) ?_
  refine dn ?_
  refine zm ?_
  refine zl rfl (fun h1 => ?_) (fun h2 => ?_)
  ·try simp at h1
   obtain ⟨x, hx⟩ : ∃ x, o[k]? = some x := ⟨_, List.getElem?_eq_getElem h1⟩
   have hdx := zU hx
   have hcb := znp (o.take k) x.Team
   rw [List.length_take] at hcb
   refine zo ?_
   refine zk ?_
   refine zm ?_
   refine zu ?_
   refine za ?_
   refine dq (zZ zaD zaa rfl rfl rfl (by first | assumption | simp_all)) ?_
   refine dq (zD zaa rfl rfl rfl rfl) ?_
   refine de rfl (zac zaa rfl fun b7 => ?_)
   refine de0 (zax zaa rfl rfl rfl rfl rfl ?_)
   refine dn ?_
   refine zP (Ghost.fc0 7 rfl) ?_
   refine zB ?_
   refine dq (zh zhy rfl rfl rfl) ?_
   refine dq (zd zaa rfl ty9 (by decide) rfl) ?_
   refine dq (zh ty9 rfl rfl rfl) ?_
   refine de rfl (zm7 (i := 0) zhy ty9 ty3 rfl rfl rfl (hL x.Team) ?_)
   refine dq (zC rfl rfl (by omega) (by omega)) ?_
   refine de0 (zfP (i := 0) zhy ty9 rfl rfl rfl rfl ?_)
   refine dn ?_
   refine zA ?_
   refine zk ?_
   refine zB ?_
   refine dq (zC rfl rfl (by omega) (by omega)) ?_
   refine dmv rfl ?_
   refine dn ?_
   refine ⟨k + 1, _, ?_, ?_, ⟨rfl, trivial⟩, (by repeat (first | exact zq | refine zx rfl ?_ | refine zt rfl rfl ?_)), zO rfl⟩
   ·refine ⟨by omega, fun t => ?_⟩
    rw [zk0, zjA o t k x hx]
    by_cases e : t = x.Team
    ·rw [if_pos e, if_pos e.symm, e]
    ·rw [if_neg e, if_neg (fun q => e q.symm), hL t, Int.add_zero]
   ·dsimp only; omega
  ·try simp at h2
   have hnk : o.length ≤ k := by omega
   obtain rfl : k = o.length := by omega
   rw [List.take_length] at hL
   refine z7 ?_
   refine zag ?_
   refine zbc ?_
   refine zT ?_
   refine zk ?_
   refine za ?_
   refine dq (zh zdY rfl rfl rfl) ?_
   refine dq ((by first | exact zn rfl | exact zg rfl)) ?_
   refine dq (zd zN rfl zQ (by decide) rfl) ?_
   refine dq (zh zQ rfl rfl rfl) ?_
   refine dq (zda rfl rfl) ?_
   refine de rfl (zpj (hs' := [eSs m.Teams, .fn (.func 110) [] [.vptr [hsm L] 0, .vptr [.vptr (zj (zaC m)) 0] 0]]) zs0 rfl ⟨.refl, .fnL ⟨.vptrL ⟨.map (i := 0) rfl, trivial⟩, .refl, trivial⟩, trivial⟩ (zeh (p := fun t => out (zdG o t) m.Least m.Most) zsx (fun _ => zjU hL) ht) rfl ?_)
   refine dq (zam rfl) ?_
   refine das rfl ?_
   refine dn ?_
   refine zp ?_
   refine zbO Ghost.clear rfl ⟨?_, rfl⟩
   show HVal.bool _ = _
   rw [← zpp]

/-- benchwarmer/trade.CheckOwners -/
theorem zfl [Tracks] {m : MarketS} {o : List OwnerS} (ht : m.Teams.length ≤ 1000000) (ho : o.length ≤ 1000000) : zah Tryz.prog 31 [zaC m, zat o] (.int .i64 (zbS m o)) := by
 refine Con.of_body Tryz.func31 rfl Tryz.ntmps31 rfl rfl ?_
 refine za ?_
 refine dq (zal rfl rfl) ?_
 refine das rfl ?_
 refine dn ?_
 refine zm ?_
 refine za ?_
 refine dq (zD zN rfl rfl rfl rfl) ?_
 refine dq (zw zp5 rfl (WeakL.refl _) (zd2 (by first | assumption | omega | (simp; omega) | simp_all))) ?_
 refine das rfl ?_
 refine dn ?_
 refine za ?_
 refine dmv rfl ?_
 refine dq (zbq rfl rfl) ?_
 refine dn ?_
 refine zl rfl (fun h1 => ?_) (fun h2 => ?_)
 ·try simp at h1
  refine za ?_
  refine dmv rfl ?_
  refine das rfl ?_
  refine dn ?_
  refine zp ?_
  refine zI rfl ?_
  show HVal.int .i64 _ = _
  first
  | (rw [zbS, if_pos (by simpa using h1)]; done)
  | (rw [hE]; exact congrArg _ (zc7 (by omega)))
  | (rw [hE, ← zc4 (by omega) hg]; simp_all; done)
  | (rw [hE]
     refine congrArg _ (zbp (e := 5) (by omega) hg (by decide) ?_)
     rw [za8, if_pos]
     simp_all
     done)
  | (rw [hE]
     refine congrArg _ (zbp (e := 8) (by omega) hg (by decide) ?_)
     rw [za8, if_neg, if_pos]
     all_goals simp_all
     done)
  | (rw [hE]
     refine congrArg _ (zc3 (by omega) hg ?_ ?_ ?_)
     ·rw [za8, if_neg, if_neg] <;> simp_all
     ·simp_all
     ·simp_all)
 ·try simp at h2
  refine zo ?_
  refine zk ?_
  refine zm ?_
  have hz : zad m = 0 := by simpa using h2
  have hm := zfc hz
  have ht20 := hm.len
  have hE : zbS m o = zct m o := by rw [zbS, if_neg (by simp [hz])]
  refine za ?_
  refine dmv rfl ?_
  refine dq (zR zaD rfl) ?_
  refine dq (zaT rfl rfl) ?_
  refine dn ?_
  refine zl rfl (fun h3 => ?_) (fun h4 => ?_)
  ·try simp at h3
   refine za ?_
   refine das rfl ?_
   refine dn ?_
   refine zp ?_
   refine zI rfl ?_
   show HVal.int .i64 _ = _
   first
   | (rw [zbS, if_pos (by simpa using h1)]; done)
   | (rw [hE]; exact congrArg _ (zc7 (by omega)))
   | (rw [hE, ← zc4 (by omega) hg]; simp_all; done)
   | (rw [hE]
      refine congrArg _ (zbp (e := 5) (by omega) hg (by decide) ?_)
      rw [za8, if_pos]
      simp_all
      done)
   | (rw [hE]
      refine congrArg _ (zbp (e := 8) (by omega) hg (by decide) ?_)
      rw [za8, if_neg, if_pos]
      all_goals simp_all
      done)
   | (rw [hE]
      refine congrArg _ (zc3 (by omega) hg ?_ ?_ ?_)
      ·rw [za8, if_neg, if_neg] <;> simp_all
      ·simp_all
      ·simp_all)
  ·try simp at h4
   refine zo ?_
   refine zk ?_
   refine zm ?_
   refine za ?_
   refine dmv rfl ?_
   refine dq (zR zaD rfl) ?_
   refine dmv rfl ?_
   refine dn ?_
   refine zu ?_
   refine zaJ [4, 6, 7, 18, 19, 20, 21, 22, 23, 24, 25, 26, 27, 28, 29, 30, 31, 32, 33, 34, 35, 36, 37, 38, 39, 40, 41, 42, 43, 44, 45, 46, 47] (fun (k : Nat) => [(18, .int .i64 k)]) (fun (k : Nat) => []) (fun (k : Nat) => k ≤ o.length ∧ (zdA m o = zaI (za8 m) zeD zbE o k (o.drop k))) (fun (k : Nat) => o.length - k) (0) ?_ ?_ ?_ ?_
   ·exact ⟨Nat.zero_le _, rfl⟩
   ·exact ⟨rfl, trivial⟩
   ·exact List.Perm.refl _
   ·intro k hinv
    obtain ⟨hk, hg⟩ := hinv
    refine za ?_
    refine dq (zY rfl rfl) ?_
    refine dn ?_
    refine zm ?_
    refine zl rfl (fun h5 => ?_) (fun h6 => ?_)
    ·try simp at h5
     obtain ⟨x, hx⟩ : ∃ x, o[k]? = some x := ⟨_, List.getElem?_eq_getElem h5⟩
     have hdx := zU hx
     rw [hdx] at hg
     refine zo ?_
     refine zk ?_
     refine zm ?_
     refine zu ?_
     refine za ?_
     refine dmv rfl ?_
     refine dq (zZ zaD zaa rfl rfl rfl (by first | assumption | simp_all)) ?_
     refine dq (zD zaa rfl rfl rfl rfl) ?_
     refine de rfl (zac zaa rfl fun b7 => ?_)
     refine das rfl ?_
     refine de0 (zax zaa rfl rfl rfl rfl rfl ?_)
     refine dn ?_
     refine zP (Ghost.fc0 7 rfl) ?_
     refine zu ?_
     refine za ?_
     refine dq (zd zaa rfl ty9 (by decide) rfl) ?_
     refine dq (zh ty9 rfl rfl rfl) ?_
     refine dq (zw zmU rfl (WeakL.refl _) zfa) ?_
     refine dq (zam rfl) ?_
     refine das rfl ?_
     refine dn ?_
     refine zl rfl (fun h7 => ?_) (fun h8 => ?_)
     ·try simp at h7
      refine za ?_
      refine das rfl ?_
      refine dn ?_
      refine zp ?_
      refine zI rfl ?_
      show HVal.int .i64 _ = _
      first
      | (rw [zbS, if_pos (by simpa using h1)]; done)
      | (rw [hE]; exact congrArg _ (zc7 (by omega)))
      | (rw [hE, ← zc4 (by omega) hg]; simp_all; done)
      | (rw [hE]
         refine congrArg _ (zbp (e := 5) (by omega) hg (by decide) ?_)
         rw [za8, if_pos]
         simp_all
         done)
      | (rw [hE]
         refine congrArg _ (zbp (e := 8) (by omega) hg (by decide) ?_)
         rw [za8, if_neg, if_pos]
         all_goals simp_all
         done)
      | (rw [hE]
         refine congrArg _ (zc3 (by omega) hg ?_ ?_ ?_)
         ·rw [za8, if_neg, if_neg] <;> simp_all
         ·simp_all
         ·simp_all)
     ·try simp at h8
      refine za ?_
      refine dq (zd zaa rfl ty9 (by decide) rfl) ?_
      refine dq (zh ty9 rfl rfl rfl) ?_
      refine dq (zw zkH rfl (WeakL.refl _) (zc5 hm)) ?_
      refine dq (zam rfl) ?_
      refine das rfl ?_
      refine dn ?_
      refine zl rfl (fun h9 => ?_) (fun h10 => ?_)
      ·try simp at h9
       refine za ?_
       refine das rfl ?_
       refine dn ?_
       refine zp ?_
       refine zI rfl ?_
       show HVal.int .i64 _ = _
       first
       | (rw [zbS, if_pos (by simpa using h1)]; done)
       | (rw [hE]; exact congrArg _ (zc7 (by omega)))
       | (rw [hE, ← zc4 (by omega) hg]; simp_all; done)
       | (rw [hE]
          refine congrArg _ (zbp (e := 5) (by omega) hg (by decide) ?_)
          rw [za8, if_pos]
          simp_all
          done)
       | (rw [hE]
          refine congrArg _ (zbp (e := 8) (by omega) hg (by decide) ?_)
          rw [za8, if_neg, if_pos]
          all_goals simp_all
          done)
       | (rw [hE]
          refine congrArg _ (zc3 (by omega) hg ?_ ?_ ?_)
          ·rw [za8, if_neg, if_neg] <;> simp_all
          ·simp_all
          ·simp_all)
      ·try simp at h10
       refine zar (fun _ => True) [] mixed ?_
       refine ahp 0 rfl rfl (by kernel_rfl) (by kernel_rfl) (zf rfl) ?_
       refine ahp 1 rfl rfl (by kernel_rfl) (by kernel_rfl) (zaT rfl rfl) ?_
       refine ahp 2 rfl rfl (by kernel_rfl) (by kernel_rfl) (zf rfl) ?_
       refine ahg 3 rfl rfl (by kernel_rfl) (by kernel_rfl) rfl (fun hc => ⟨_, OpenTo.refl _, zd zaa rfl ty9 (by decide) rfl⟩) ?_
       refine ahg 4 rfl rfl (by kernel_rfl) (by kernel_rfl) rfl (fun hc => ⟨_, OpenTo.upd (t := 37) rfl (by first | exact hc | simp_all) (OpenTo.refl _), zh ty9 rfl rfl rfl⟩) ?_
       refine ahg 5 rfl rfl (by kernel_rfl) (by kernel_rfl) rfl (fun hc => ⟨_, OpenTo.refl _, zf rfl⟩) ?_
       refine ahg 6 rfl rfl (by kernel_rfl) (by kernel_rfl) rfl (fun hc => ⟨_, OpenTo.refl _, zf rfl⟩) ?_
       refine ahg 7 rfl rfl (by kernel_rfl) (by kernel_rfl) rfl (fun hc => by have hq := hc; (try simp at hq); exact ⟨_, OpenTo.upd (t := 40) rfl (by first | exact hc | simp_all) (OpenTo.refl _), za5 rfl rfl (by omega) (by omega)⟩) ?_
       refine ahg 8 rfl rfl (by kernel_rfl) (by kernel_rfl) rfl (fun hc => by have hq := hc; (try simp at hq); exact ⟨_, OpenTo.upd (t := 41) rfl (by first | exact hc | simp_all) (OpenTo.upd (t := 39) rfl (by first | exact hc | simp_all) (OpenTo.refl _)), zZ (j := k - 1) (a := o.getD (k - 1) zbE) zaD zaa rfl rfl (by omega) (getD_some (by omega))⟩) ?_
       refine ahg 9 rfl rfl (by kernel_rfl) (by kernel_rfl) rfl (fun hc => ⟨_, OpenTo.upd (t := 42) rfl (by first | exact hc | simp_all) (OpenTo.refl _), zd zaa rfl ty9 (by decide) rfl⟩) ?_
       refine ahg 10 rfl rfl (by kernel_rfl) (by kernel_rfl) rfl (fun hc => ⟨_, OpenTo.upd (t := 43) rfl (by first | exact hc | simp_all) (OpenTo.refl _), zh ty9 rfl rfl rfl⟩) ?_
       refine ahg 11 rfl rfl (by kernel_rfl) (by kernel_rfl) rfl (fun hc => ⟨_, OpenTo.upd (t := 44) rfl (by first | exact hc | simp_all) (OpenTo.upd (t := 38) rfl (by first | exact hc | simp_all) (OpenTo.refl _)), zec rfl rfl⟩) ?_
       refine ahp 12 rfl rfl (by kernel_rfl) (by kernel_rfl) (zG rfl (.inr ⟨_, rfl, fun h => by simp_all⟩) (.inl rfl)) ?_
       refine ahp 13 rfl rfl (by kernel_rfl) (by kernel_rfl) (z8 rfl) ?_
       refine ahz (by kernel_rfl) ?_
       refine zl rfl (fun h11 => ?_) (fun h12 => ?_)
       ·try simp at h11
        refine za ?_
        refine das rfl ?_
        refine dn ?_
        refine zp ?_
        refine zI rfl ?_
        show HVal.int .i64 _ = _
        first
        | (rw [zbS, if_pos (by simpa using h1)]; done)
        | (rw [hE]; exact congrArg _ (zc7 (by omega)))
        | (rw [hE, ← zc4 (by omega) hg]; simp_all; done)
        | (rw [hE]
           refine congrArg _ (zbp (e := 5) (by omega) hg (by decide) ?_)
           rw [za8, if_pos]
           simp_all
           done)
        | (rw [hE]
           refine congrArg _ (zbp (e := 8) (by omega) hg (by decide) ?_)
           rw [za8, if_neg, if_pos]
           all_goals simp_all
           done)
        | (rw [hE]
           refine congrArg _ (zc3 (by omega) hg ?_ ?_ ?_)
           ·rw [za8, if_neg, if_neg] <;> simp_all
           ·simp_all
           ·simp_all)
       ·try simp at h12
        refine zo ?_
        refine zA ?_
        refine zA ?_
        refine zk ?_
        refine zB ?_
        refine dq (zC rfl rfl (by omega) (by omega)) ?_
        refine dmv rfl ?_
        refine dn ?_
        refine ⟨k + 1, ?_, ?_, ⟨rfl, trivial⟩, (by repeat (first | exact zq | refine zx rfl ?_ | refine zt rfl rfl ?_)), List.Perm.refl _⟩
        ·refine ⟨by omega, ?_⟩
         rw [hg, zmC (by rw [za8, if_neg (by simp_all), if_neg (by simp_all)]) (by intro hk0; simp_all)]
        ·dsimp only; omega
    ·try simp at h6
     have hnk : o.length ≤ k := by omega
     obtain rfl : k = o.length := by omega
     rw [zaS (Nat.le_refl _)] at hg
     refine z7 ?_
     refine zag ?_
     refine zaY ?_
     refine zT ?_
     refine zk ?_
     refine zm ?_
     refine za ?_
     refine dmv rfl ?_
     refine dq (zw ca66 rfl (WeakL.refl _) (zhk (by first | assumption | omega | (simp; omega) | simp_all) (by first | assumption | omega | (simp; omega) | simp_all))) ?_
     refine dq (zam rfl) ?_
     refine dn ?_
     refine zl rfl (fun h13 => ?_) (fun h14 => ?_)
     ·try simp at h13
      refine za ?_
      refine das rfl ?_
      refine dn ?_
      refine zp ?_
      refine zI rfl ?_
      show HVal.int .i64 _ = _
      first
      | (rw [zbS, if_pos (by simpa using h1)]; done)
      | (rw [hE]; exact congrArg _ (zc7 (by omega)))
      | (rw [hE, ← zc4 (by omega) hg]; simp_all; done)
      | (rw [hE]
         refine congrArg _ (zbp (e := 5) (by omega) hg (by decide) ?_)
         rw [za8, if_pos]
         simp_all
         done)
      | (rw [hE]
         refine congrArg _ (zbp (e := 8) (by omega) hg (by decide) ?_)
         rw [za8, if_neg, if_pos]
         all_goals simp_all
         done)
      | (rw [hE]
         refine congrArg _ (zc3 (by omega) hg ?_ ?_ ?_)
         ·rw [za8, if_neg, if_neg] <;> simp_all
         ·simp_all
         ·simp_all)
     ·try simp at h14
      refine zo ?_
      refine zk ?_
      refine za ?_
      refine das rfl ?_
      refine dn ?_
      refine zp ?_
      refine zI rfl ?_
      show HVal.int .i64 _ = _
      first
      | (rw [zbS, if_pos (by simpa using h1)]; done)
      | (rw [hE]; exact congrArg _ (zc7 (by omega)))
      | (rw [hE, ← zc4 (by omega) hg]; simp_all; done)
      | (rw [hE]
         refine congrArg _ (zbp (e := 5) (by omega) hg (by decide) ?_)
         rw [za8, if_pos]
         simp_all
         done)
      | (rw [hE]
         refine congrArg _ (zbp (e := 8) (by omega) hg (by decide) ?_)
         rw [za8, if_neg, if_pos]
         all_goals simp_all
         done)
      | (rw [hE]
         refine congrArg _ (zc3 (by omega) hg ?_ ?_ ?_)
         ·rw [za8, if_neg, if_neg] <;> simp_all
         ·simp_all
         ·simp_all)

/-- benchwarmer/trade.givesFault -/
theorem zh8 [Tracks] {m : MarketS} {l : List GiveS} (hm : MarketOk m) (hl : l.length ≤ 1000000) : zah Tryz.prog 176 [.vptr (zj (zaC m)) 0, zki l] (.int .i64 (zaR m l)) := by
 refine Con.of_body Tryz.func176 rfl Tryz.ntmps176 rfl rfl ?_
 refine za ?_
 refine das rfl ?_
 refine dn ?_
 refine zm ?_
 refine zu ?_
 refine za ?_
 refine dmv rfl ?_
 refine dq (zR zao rfl) ?_
 refine dq (zaj rfl rfl) ?_
 refine das rfl ?_
 refine dn ?_
 refine zl rfl (fun h1 => ?_) (fun h2 => ?_)
 ·try simp at h1
  refine za ?_
  refine das rfl ?_
  refine dn ?_
  refine zp ?_
  refine zI rfl ?_
  show HVal.int .i64 _ = _
  first
  | (rw [zaR, if_pos (by simpa using h1)]; done)
  | (rw [zaR, if_neg (by simpa using h2), if_pos (by omega)]; done)
  | (exact congrArg _ (zcS (by simpa using h2) (by omega) hg))
  | (refine congrArg _ (zaN (e := 5) (by simpa using h2) (by omega) hg (by decide) ?_)
     rw [zaH, if_pos]
     simp_all
     done)
  | (refine congrArg _ (zaN (e := 8) (by simpa using h2) (by omega) hg (by decide) ?_)
     rw [zaH, if_neg, if_pos]
     all_goals simp_all
     done)
  | (refine congrArg _ (zaN (e := 16) (by simpa using h2) (by omega) hg (by decide) ?_)
     rw [zaH, if_neg, if_neg, if_pos]
     all_goals simp_all
     done)
  | (refine congrArg _ (zcL (by simpa using h2) (by omega) hg ?_ ?_ ?_)
     ·rw [zaH, if_neg, if_neg, if_neg] <;> simp_all
     ·simp_all
     ·simp_all)
 ·try simp at h2
  refine za ?_
  refine dmv rfl ?_
  refine dq (zR zao rfl) ?_
  refine dq (zaT rfl rfl) ?_
  refine das rfl ?_
  refine dn ?_
  refine zl rfl (fun h3 => ?_) (fun h4 => ?_)
  ·try simp at h3
   refine za ?_
   refine das rfl ?_
   refine dn ?_
   refine zp ?_
   refine zI rfl ?_
   show HVal.int .i64 _ = _
   first
   | (rw [zaR, if_pos (by simpa using h1)]; done)
   | (rw [zaR, if_neg (by simpa using h2), if_pos (by omega)]; done)
   | (exact congrArg _ (zcS (by simpa using h2) (by omega) hg))
   | (refine congrArg _ (zaN (e := 5) (by simpa using h2) (by omega) hg (by decide) ?_)
      rw [zaH, if_pos]
      simp_all
      done)
   | (refine congrArg _ (zaN (e := 8) (by simpa using h2) (by omega) hg (by decide) ?_)
      rw [zaH, if_neg, if_pos]
      all_goals simp_all
      done)
   | (refine congrArg _ (zaN (e := 16) (by simpa using h2) (by omega) hg (by decide) ?_)
      rw [zaH, if_neg, if_neg, if_pos]
      all_goals simp_all
      done)
   | (refine congrArg _ (zcL (by simpa using h2) (by omega) hg ?_ ?_ ?_)
      ·rw [zaH, if_neg, if_neg, if_neg] <;> simp_all
      ·simp_all
      ·simp_all)
  ·try simp at h4
   refine zo ?_
   refine zA ?_
   refine zk ?_
   refine zm ?_
   refine za ?_
   refine dmv rfl ?_
   refine dq (zR zao rfl) ?_
   refine dmv rfl ?_
   refine dn ?_
   refine zu ?_
   refine zaJ [4, 5, 6, 17, 18, 19, 20, 21, 22, 23, 24, 25, 26, 27, 28, 29, 30, 31, 32, 33, 34, 35, 36, 37, 38, 39, 40, 41, 42, 43, 44, 45, 46, 47, 48, 49, 50, 51, 52, 53, 54, 55, 56, 57, 58, 59, 60] (fun (k : Nat) => [(17, .int .i64 k)]) (fun (k : Nat) => []) (fun (k : Nat) => k ≤ l.length ∧ (zaI (zaH m) zci zdf l 0 l = zaI (zaH m) zci zdf l k (l.drop k))) (fun (k : Nat) => l.length - k) (0) ?_ ?_ ?_ ?_
   ·exact ⟨Nat.zero_le _, rfl⟩
   ·exact ⟨rfl, trivial⟩
   ·exact List.Perm.refl _
   ·intro k hinv
    obtain ⟨hk, hg⟩ := hinv
    refine za ?_
    refine dq (zY rfl rfl) ?_
    refine dn ?_
    refine zm ?_
    refine zl rfl (fun h5 => ?_) (fun h6 => ?_)
    ·try simp at h5
     obtain ⟨x, hx⟩ : ∃ x, l[k]? = some x := ⟨_, List.getElem?_eq_getElem h5⟩
     have hdx := zU hx
     rw [hdx] at hg
     refine zo ?_
     refine zk ?_
     refine zm ?_
     refine zu ?_
     refine za ?_
     refine dmv rfl ?_
     refine dq (zZ zao zaf rfl rfl rfl (by first | assumption | simp_all)) ?_
     refine dq (zD zaf rfl rfl rfl rfl) ?_
     refine de rfl (zac zaf rfl fun b6 => ?_)
     refine das rfl ?_
     refine de0 (zax zaf rfl rfl rfl rfl rfl ?_)
     refine dn ?_
     refine zP (Ghost.fc0 6 rfl) ?_
     refine zu ?_
     refine za ?_
     refine dq (zd zaf rfl ty9 (by decide) rfl) ?_
     refine dq (zh ty9 rfl rfl rfl) ?_
     refine dq (zw zmU rfl (WeakL.refl _) zfa) ?_
     refine dq (zam rfl) ?_
     refine das rfl ?_
     refine dn ?_
     refine zl rfl (fun h7 => ?_) (fun h8 => ?_)
     ·try simp at h7
      refine za ?_
      refine das rfl ?_
      refine dn ?_
      refine zp ?_
      refine zI rfl ?_
      show HVal.int .i64 _ = _
      first
      | (rw [zaR, if_pos (by simpa using h1)]; done)
      | (rw [zaR, if_neg (by simpa using h2), if_pos (by omega)]; done)
      | (exact congrArg _ (zcS (by simpa using h2) (by omega) hg))
      | (refine congrArg _ (zaN (e := 5) (by simpa using h2) (by omega) hg (by decide) ?_)
         rw [zaH, if_pos]
         simp_all
         done)
      | (refine congrArg _ (zaN (e := 8) (by simpa using h2) (by omega) hg (by decide) ?_)
         rw [zaH, if_neg, if_pos]
         all_goals simp_all
         done)
      | (refine congrArg _ (zaN (e := 16) (by simpa using h2) (by omega) hg (by decide) ?_)
         rw [zaH, if_neg, if_neg, if_pos]
         all_goals simp_all
         done)
      | (refine congrArg _ (zcL (by simpa using h2) (by omega) hg ?_ ?_ ?_)
         ·rw [zaH, if_neg, if_neg, if_neg] <;> simp_all
         ·simp_all
         ·simp_all)
     ·try simp at h8
      refine za ?_
      refine dmv rfl ?_
      refine dq (zd zaf rfl ty9 (by decide) rfl) ?_
      refine dq (zh ty9 rfl rfl rfl) ?_
      refine dq (zw zkH rfl (WeakL.refl _) (zc5 hm)) ?_
      refine dq (zam rfl) ?_
      refine dmv rfl ?_
      refine dg rfl rfl (fun hc => ⟨_, OpenTo.refl _, zf rfl⟩) ?_
      refine dg rfl rfl (fun hc => ⟨_, OpenTo.refl _, zd zaf rfl ty9 (by decide) rfl⟩) ?_
      refine dg rfl rfl (fun hc => ⟨_, OpenTo.upd (t := 35) rfl (by first | exact hc | simp_all) (OpenTo.refl _), zh ty9 rfl rfl rfl⟩) ?_
      refine dg rfl rfl (fun hc => ⟨_, OpenTo.upd (t := 36) rfl (by first | exact hc | simp_all) (OpenTo.upd (t := 34) rfl (by first | exact hc | simp_all) (OpenTo.refl _)), zw zkH rfl (WeakL.refl _) (zc5 hm)⟩) ?_
      refine dg rfl rfl (fun hc => ⟨_, OpenTo.upd (t := 37) rfl (by first | exact hc | simp_all) (OpenTo.refl _), zam rfl⟩) ?_
      refine dq (zG rfl (.inl rfl) (.inr ⟨_, rfl, fun h => by simp_all⟩)) ?_
      refine das rfl ?_
      refine dn ?_
      refine zl rfl (fun h9 => ?_) (fun h10 => ?_)
      ·try simp at h9
       refine za ?_
       refine das rfl ?_
       refine dn ?_
       refine zp ?_
       refine zI rfl ?_
       show HVal.int .i64 _ = _
       first
       | (rw [zaR, if_pos (by simpa using h1)]; done)
       | (rw [zaR, if_neg (by simpa using h2), if_pos (by omega)]; done)
       | (exact congrArg _ (zcS (by simpa using h2) (by omega) hg))
       | (refine congrArg _ (zaN (e := 5) (by simpa using h2) (by omega) hg (by decide) ?_)
          rw [zaH, if_pos]
          simp_all
          done)
       | (refine congrArg _ (zaN (e := 8) (by simpa using h2) (by omega) hg (by decide) ?_)
          rw [zaH, if_neg, if_pos]
          all_goals simp_all
          done)
       | (refine congrArg _ (zaN (e := 16) (by simpa using h2) (by omega) hg (by decide) ?_)
          rw [zaH, if_neg, if_neg, if_pos]
          all_goals simp_all
          done)
       | (refine congrArg _ (zcL (by simpa using h2) (by omega) hg ?_ ?_ ?_)
          ·rw [zaH, if_neg, if_neg, if_neg] <;> simp_all
          ·simp_all
          ·simp_all)
      ·try simp at h10
       refine za ?_
       refine dq (zd zaf rfl ty9 (by decide) rfl) ?_
       refine dq (zh ty9 rfl rfl rfl) ?_
       refine dq (zd zaf rfl ty9 (by decide) rfl) ?_
       refine dq (zh ty9 rfl rfl rfl) ?_
       refine dq (zbs rfl rfl) ?_
       refine das rfl ?_
       refine dn ?_
       refine zl rfl (fun h11 => ?_) (fun h12 => ?_)
       ·try simp at h11
        refine za ?_
        refine das rfl ?_
        refine dn ?_
        refine zp ?_
        refine zI rfl ?_
        show HVal.int .i64 _ = _
        first
        | (rw [zaR, if_pos (by simpa using h1)]; done)
        | (rw [zaR, if_neg (by simpa using h2), if_pos (by omega)]; done)
        | (exact congrArg _ (zcS (by simpa using h2) (by omega) hg))
        | (refine congrArg _ (zaN (e := 5) (by simpa using h2) (by omega) hg (by decide) ?_)
           rw [zaH, if_pos]
           simp_all
           done)
        | (refine congrArg _ (zaN (e := 8) (by simpa using h2) (by omega) hg (by decide) ?_)
           rw [zaH, if_neg, if_pos]
           all_goals simp_all
           done)
        | (refine congrArg _ (zaN (e := 16) (by simpa using h2) (by omega) hg (by decide) ?_)
           rw [zaH, if_neg, if_neg, if_pos]
           all_goals simp_all
           done)
        | (refine congrArg _ (zcL (by simpa using h2) (by omega) hg ?_ ?_ ?_)
           ·rw [zaH, if_neg, if_neg, if_neg] <;> simp_all
           ·simp_all
           ·simp_all)
       ·try simp at h12
        refine zar (fun _ => True) [] mixed ?_
        refine ahp 0 rfl rfl (by kernel_rfl) (by kernel_rfl) (zf rfl) ?_
        refine ahp 1 rfl rfl (by kernel_rfl) (by kernel_rfl) (zaT rfl rfl) ?_
        refine ahp 2 rfl rfl (by kernel_rfl) (by kernel_rfl) (zf rfl) ?_
        refine ahg 3 rfl rfl (by kernel_rfl) (by kernel_rfl) rfl (fun hc => ⟨_, OpenTo.refl _, zd zaf rfl ty9 (by decide) rfl⟩) ?_
        refine ahg 4 rfl rfl (by kernel_rfl) (by kernel_rfl) rfl (fun hc => ⟨_, OpenTo.upd (t := 50) rfl (by first | exact hc | simp_all) (OpenTo.refl _), zh ty9 rfl rfl rfl⟩) ?_
        refine ahg 5 rfl rfl (by kernel_rfl) (by kernel_rfl) rfl (fun hc => ⟨_, OpenTo.refl _, zf rfl⟩) ?_
        refine ahg 6 rfl rfl (by kernel_rfl) (by kernel_rfl) rfl (fun hc => ⟨_, OpenTo.refl _, zf rfl⟩) ?_
        refine ahg 7 rfl rfl (by kernel_rfl) (by kernel_rfl) rfl (fun hc => by have hq := hc; (try simp at hq); exact ⟨_, OpenTo.upd (t := 53) rfl (by first | exact hc | simp_all) (OpenTo.refl _), za5 rfl rfl (by omega) (by omega)⟩) ?_
        refine ahg 8 rfl rfl (by kernel_rfl) (by kernel_rfl) rfl (fun hc => by have hq := hc; (try simp at hq); exact ⟨_, OpenTo.upd (t := 54) rfl (by first | exact hc | simp_all) (OpenTo.upd (t := 52) rfl (by first | exact hc | simp_all) (OpenTo.refl _)), zZ (j := k - 1) (a := l.getD (k - 1) zdf) zao zaf rfl rfl (by omega) (getD_some (by omega))⟩) ?_
        refine ahg 9 rfl rfl (by kernel_rfl) (by kernel_rfl) rfl (fun hc => ⟨_, OpenTo.upd (t := 55) rfl (by first | exact hc | simp_all) (OpenTo.refl _), zd zaf rfl ty9 (by decide) rfl⟩) ?_
        refine ahg 10 rfl rfl (by kernel_rfl) (by kernel_rfl) rfl (fun hc => ⟨_, OpenTo.upd (t := 56) rfl (by first | exact hc | simp_all) (OpenTo.refl _), zh ty9 rfl rfl rfl⟩) ?_
        refine ahg 11 rfl rfl (by kernel_rfl) (by kernel_rfl) rfl (fun hc => ⟨_, OpenTo.upd (t := 57) rfl (by first | exact hc | simp_all) (OpenTo.upd (t := 51) rfl (by first | exact hc | simp_all) (OpenTo.refl _)), zec rfl rfl⟩) ?_
        refine ahp 12 rfl rfl (by kernel_rfl) (by kernel_rfl) (zG rfl (.inr ⟨_, rfl, fun h => by simp_all⟩) (.inl rfl)) ?_
        refine ahp 13 rfl rfl (by kernel_rfl) (by kernel_rfl) (z8 rfl) ?_
        refine ahz (by kernel_rfl) ?_
        refine zl rfl (fun h13 => ?_) (fun h14 => ?_)
        ·try simp at h13
         refine za ?_
         refine das rfl ?_
         refine dn ?_
         refine zp ?_
         refine zI rfl ?_
         show HVal.int .i64 _ = _
         first
         | (rw [zaR, if_pos (by simpa using h1)]; done)
         | (rw [zaR, if_neg (by simpa using h2), if_pos (by omega)]; done)
         | (exact congrArg _ (zcS (by simpa using h2) (by omega) hg))
         | (refine congrArg _ (zaN (e := 5) (by simpa using h2) (by omega) hg (by decide) ?_)
            rw [zaH, if_pos]
            simp_all
            done)
         | (refine congrArg _ (zaN (e := 8) (by simpa using h2) (by omega) hg (by decide) ?_)
            rw [zaH, if_neg, if_pos]
            all_goals simp_all
            done)
         | (refine congrArg _ (zaN (e := 16) (by simpa using h2) (by omega) hg (by decide) ?_)
            rw [zaH, if_neg, if_neg, if_pos]
            all_goals simp_all
            done)
         | (refine congrArg _ (zcL (by simpa using h2) (by omega) hg ?_ ?_ ?_)
            ·rw [zaH, if_neg, if_neg, if_neg] <;> simp_all
            ·simp_all
            ·simp_all)
        ·try simp at h14
         refine zo ?_
         refine zA ?_
         refine zA ?_
         refine zk ?_
         refine zB ?_
         refine dq (zC rfl rfl (by omega) (by omega)) ?_
         refine dmv rfl ?_
         refine dn ?_
         refine ⟨k + 1, ?_, ?_, ⟨rfl, trivial⟩, (by repeat (first | exact zq | refine zx rfl ?_ | refine zt rfl rfl ?_)), List.Perm.refl _⟩
         ·refine ⟨by omega, ?_⟩
          rw [hg, zl5 (by rw [zaH, if_neg (by simp_all), if_neg (by simp_all), if_neg (by simp_all)]) (by intro hk0; simp_all)]
         ·dsimp only; omega
    ·try simp at h6
     have hnk : l.length ≤ k := by omega
     obtain rfl : k = l.length := by omega
     rw [zaS (Nat.le_refl _)] at hg
     refine z7 ?_
     refine zag ?_
     refine zaY ?_
     refine zT ?_
     refine zk ?_
     refine za ?_
     refine das rfl ?_
     refine dn ?_
     refine zp ?_
     refine zI rfl ?_
     show HVal.int .i64 _ = _
     first
     | (rw [zaR, if_pos (by simpa using h1)]; done)
     | (rw [zaR, if_neg (by simpa using h2), if_pos (by omega)]; done)
     | (exact congrArg _ (zcS (by simpa using h2) (by omega) hg))
     | (refine congrArg _ (zaN (e := 5) (by simpa using h2) (by omega) hg (by decide) ?_)
        rw [zaH, if_pos]
        simp_all
        done)
     | (refine congrArg _ (zaN (e := 8) (by simpa using h2) (by omega) hg (by decide) ?_)
        rw [zaH, if_neg, if_pos]
        all_goals simp_all
        done)
     | (refine congrArg _ (zaN (e := 16) (by simpa using h2) (by omega) hg (by decide) ?_)
        rw [zaH, if_neg, if_neg, if_pos]
        all_goals simp_all
        done)
     | (refine congrArg _ (zcL (by simpa using h2) (by omega) hg ?_ ?_ ?_)
        ·rw [zaH, if_neg, if_neg, if_neg] <;> simp_all
        ·simp_all
        ·simp_all)

/-- benchwarmer/trade.concerned -/
theorem zfW [Tracks] {x : DealS} (hx : x.Gives.length ≤ 1000) : zah Tryz.prog 87 [zdr x] (eSs (zaV x.Gives)) := by
 refine Con.of_body Tryz.func87 rfl Tryz.ntmps87 rfl rfl ?_
 refine za ?_
 refine dq (zal rfl rfl) ?_
 refine das rfl ?_
 refine dn ?_
 refine za ?_
 refine das rfl ?_
 refine dn ?_
 refine zP (Ghost.arr_nil 1) ?_
 refine zm ?_
 refine za ?_
 refine dq ((by first | exact zd zJ rfl zao (by decide) rfl | exact zb zJ rfl zao (by decide) rfl)) ?_
 refine dq (zh zao rfl rfl rfl) ?_
 refine dq (zR zao rfl) ?_
 refine dmv rfl ?_
 refine dn ?_
 refine zu ?_
 refine zaZ [3, 5, 9, 10, 11, 12, 13, 14, 15, 16, 17, 18, 19, 20] (fun (k : Nat) (u : Value) => [(9, .int .i64 k), (3, .raw u)]) (fun (k : Nat) (u : Value) => [.arr u 1 ((zcX (x.Gives.take k)).map .str)]) (fun (k : Nat) (u : Value) => k ≤ x.Gives.length ∧ (True)) (fun (k : Nat) (u : Value) => x.Gives.length - k) (0) (.slice none 0 0) ?_ ?_ ?_ ?_
 ·exact ⟨Nat.zero_le _, trivial⟩
 ·exact ⟨rfl, rfl, trivial⟩
 ·exact zO (by simp [zcX])
 ·intro k u hinv
  obtain ⟨hk, -⟩ := hinv
  refine za ?_
  refine dq (zY rfl rfl) ?_
  refine dn ?_
  refine zm ?_
  refine zl rfl (fun h1 => ?_) (fun h2 => ?_)
  ·try simp at h1
   obtain ⟨g, hg⟩ : ∃ g, x.Gives[k]? = some g := ⟨_, List.getElem?_eq_getElem h1⟩
   have hdg := zU hg
   refine zo ?_
   refine zk ?_
   refine zm ?_
   refine zu ?_
   refine za ?_
   refine dq (zZ zao zaf rfl rfl rfl (by first | assumption | simp_all)) ?_
   refine dq (zD zaf rfl rfl rfl rfl) ?_
   refine de rfl (zac zaf rfl fun b5 => ?_)
   refine de0 (zax zaf rfl rfl rfl rfl rfl ?_)
   refine dn ?_
   refine zP (Ghost.fc0 5 rfl) ?_
   refine zB ?_
   refine dmv rfl ?_
   refine dq ((by first | exact zd zaf rfl ty9 (by decide) rfl | exact zb zaf rfl ty9 (by decide) rfl)) ?_
   refine dq (zh ty9 rfl rfl rfl) ?_
   refine dq ((by first | exact zd zaf rfl ty9 (by decide) rfl | exact zb zaf rfl ty9 (by decide) rfl)) ?_
   refine dq (zh ty9 rfl rfl rfl) ?_
   refine dq (zE (hs := [_, _]) zQ ty9 rfl rfl (by decide) (by decide) rfl) ?_
   refine de rfl (zay (i := 0) zQ ty9 rfl rfl rfl rfl rfl (by simp [zbi, zj]) (by have := zeo (x.Gives.take k); simp only [List.length_map, List.length_cons, List.length_nil, List.length_take] at *; omega) fun v19 => ?_)
   refine das rfl ?_
   refine dn ?_
   refine zA ?_
   refine zk ?_
   refine zB ?_
   refine dq (zC rfl rfl (by omega) (by omega)) ?_
   refine dmv rfl ?_
   refine dn ?_
   exact ⟨k + 1, v19, ⟨by omega, trivial⟩, by dsimp only; omega, ⟨rfl, rfl, trivial⟩, (by repeat (first | exact zq | refine zx rfl ?_ | refine zt rfl rfl ?_)), zO (by dsimp only; rw [zjs hg]; simp)⟩
  ·try simp at h2
   have hnk : x.Gives.length ≤ k := by omega
   obtain rfl : k = x.Gives.length := by omega
   rw [List.take_length]
   refine z7 ?_
   refine zag ?_
   refine zbc ?_
   refine zT ?_
   refine zk ?_
   refine za ?_
   refine dmv rfl ?_
   refine de rfl (zb2 (M1 := [_]) (R := []) zqM rfl (WeakL.refl _) (List.Perm.refl _) (zhZ (l := zcX x.Gives) (by rw [zeo]; omega)) ?_)
   rintro _ _ ⟨rfl, rfl⟩
   refine dn ?_
   refine za ?_
   refine dmv rfl ?_
   refine de rfl (zb2 (M1 := [_]) (R := []) zqz rfl (WeakL.refl _) (List.Perm.refl _) (zgA (l := zem (zcX x.Gives)) (by rw [zgL, zeo]; omega)) ?_)
   rintro _ _ ⟨u24, rfl, rfl⟩
   refine das rfl ?_
   refine dn ?_
   refine zp ?_
   exact zoF (M := []) 2 rfl rfl rfl

/-- benchwarmer/trade.offerFault -/
theorem ziA [Tracks] {m : MarketS} {x : DealS} (hm : MarketOk m) (hx : x.Gives.length ≤ 1000000) : zah Tryz.prog 127 [.vptr (zj (zaC m)) 0, zdr x] (.int .i64 (zaU m x)) := by
 refine Con.of_body Tryz.func127 rfl Tryz.ntmps127 rfl rfl ?_
 refine za ?_
 refine dq (zal rfl rfl) ?_
 refine das rfl ?_
 refine dn ?_
 refine zm ?_
 refine zu ?_
 refine za ?_
 refine dq (zd zJ rfl ty9 (by decide) rfl) ?_
 refine dq (zh ty9 rfl rfl rfl) ?_
 refine dq (zw zmU rfl (WeakL.refl _) zfa) ?_
 refine dq (zam rfl) ?_
 refine das rfl ?_
 refine dn ?_
 refine zl rfl (fun h1 => ?_) (fun h2 => ?_)
 ·try simp at h1
  refine za ?_
  refine das rfl ?_
  refine dn ?_
  refine zp ?_
  refine zI rfl ?_
  show HVal.int .i64 _ = _
  simp_all [zaU]
 ·try simp at h2
  refine za ?_
  refine dmv rfl ?_
  refine dq (zd zJ rfl ty9 (by decide) rfl) ?_
  refine dq (zh ty9 rfl rfl rfl) ?_
  refine dq (zw zkH rfl (WeakL.refl _) (zc5 hm)) ?_
  refine dq (zam rfl) ?_
  refine das rfl ?_
  refine dn ?_
  refine zl rfl (fun h3 => ?_) (fun h4 => ?_)
  ·try simp at h3
   refine za ?_
   refine das rfl ?_
   refine dn ?_
   refine zp ?_
   refine zI rfl ?_
   show HVal.int .i64 _ = _
   simp_all [zaU]
  ·try simp at h4
   refine za ?_
   refine dq (zd zJ rfl zbn (by decide) rfl) ?_
   refine dq (zd zbn rfl ty3 (by decide) rfl) ?_
   refine dq (zh ty3 rfl rfl rfl) ?_
   refine dq (zw zhu rfl (WeakL.refl _) zc0) ?_
   refine dmv rfl ?_
   refine dg rfl rfl (fun hc => ⟨_, OpenTo.refl _, zd zJ rfl zbn (by decide) rfl⟩) ?_
   refine dg rfl rfl (fun hc => ⟨_, OpenTo.upd (t := 23) rfl (by first | exact hc | simp_all) (OpenTo.refl _), zd zbn rfl ty3 (by decide) rfl⟩) ?_
   refine dg rfl rfl (fun hc => ⟨_, OpenTo.upd (t := 24) rfl (by first | exact hc | simp_all) (OpenTo.refl _), zh ty3 rfl rfl rfl⟩) ?_
   refine dg rfl rfl (fun hc => ⟨_, OpenTo.refl _, zd zJ rfl zbn (by decide) rfl⟩) ?_
   refine dg rfl rfl (fun hc => ⟨_, OpenTo.upd (t := 26) rfl (by first | exact hc | simp_all) (OpenTo.refl _), zd zbn rfl ty3 (by decide) rfl⟩) ?_
   refine dg rfl rfl (fun hc => ⟨_, OpenTo.upd (t := 27) rfl (by first | exact hc | simp_all) (OpenTo.refl _), zh ty3 rfl rfl rfl⟩) ?_
   refine dg rfl rfl (fun hc => by
    have hxo := zej (n := x.To) (lo := 1) (hi := 345686400000) (by simpa using hc)
    exact ⟨_, OpenTo.upd (t := 28) rfl (by first | exact hc | simp_all) (OpenTo.refl _), za5 rfl rfl (by omega) (by omega)⟩) ?_
   refine dg rfl rfl (fun hc => ⟨_, OpenTo.upd (t := 29) rfl (by first | exact hc | simp_all) (OpenTo.upd (t := 25) rfl (by first | exact hc | simp_all) (OpenTo.refl _)), zw zhu rfl (WeakL.refl _) zc0⟩) ?_
   refine dq (zG rfl (.inl rfl) (.inr ⟨_, rfl, fun h => by simp_all⟩)) ?_
   refine das rfl ?_
   refine dn ?_
   refine zl rfl (fun h5 => ?_) (fun h6 => ?_)
   ·try simp at h5
    refine za ?_
    refine das rfl ?_
    refine dn ?_
    refine zp ?_
    refine zI rfl ?_
    show HVal.int .i64 _ = _
    simp_all [zaU]
   ·try simp at h6
    refine zo ?_
    refine zA ?_
    refine zk ?_
    refine zm ?_
    refine za ?_
    refine dmv rfl ?_
    refine dq (zd zJ rfl zao (by decide) rfl) ?_
    refine dq (zh zao rfl rfl rfl) ?_
    refine dq (zw zs8 rfl (WeakL.refl _) (zh8 (by first | assumption | omega | (simp; omega) | simp_all) (by first | assumption | omega | (simp; omega) | simp_all))) ?_
    refine das rfl ?_
    refine dn ?_
    refine za ?_
    refine dmv rfl ?_
    refine dq (zbq rfl rfl) ?_
    refine dn ?_
    refine zl rfl (fun h7 => ?_) (fun h8 => ?_)
    ·try simp at h7
     refine za ?_
     refine dmv rfl ?_
     refine das rfl ?_
     refine dn ?_
     refine zp ?_
     refine zI rfl ?_
     show HVal.int .i64 _ = _
     simp_all [zaU]
    ·try simp at h8
     refine zo ?_
     refine zk ?_
     refine zm ?_
     obtain ⟨hgo1, hgo2, _⟩ := zdJ (m := m) (l := x.Gives) (by simp_all)
     refine zar (fun _ => True) [] mixed ?_
     refine ahp 0 rfl rfl (by kernel_rfl) (by kernel_rfl) (zD zJ rfl rfl rfl rfl) ?_
     refine ahp 1 rfl rfl (by kernel_rfl) (by kernel_rfl) (zw ca87 rfl (WeakL.refl _) (zfW (by first | assumption | omega | (simp; omega) | simp_all))) ?_
     refine ahp 2 rfl rfl (by kernel_rfl) (by kernel_rfl) (zd zJ rfl ty9 (by decide) rfl) ?_
     refine ahp 3 rfl rfl (by kernel_rfl) (by kernel_rfl) (zh ty9 rfl rfl rfl) ?_
     refine ahp 4 rfl rfl (by kernel_rfl) (by kernel_rfl) (zw zgm rfl (WeakL.refl _) (zaw (l := zaV x.Gives) (s := x.By) (by have := zdn x.Gives; omega))) ?_
     refine ahp 5 rfl rfl (by kernel_rfl) (by kernel_rfl) (zam rfl) ?_
     refine ahz (by kernel_rfl) ?_
     refine zl rfl (fun h9 => ?_) (fun h10 => ?_)
     ·try simp at h9
      refine za ?_
      refine das rfl ?_
      refine dn ?_
      refine zp ?_
      refine zI rfl ?_
      show HVal.int .i64 _ = _
      simp_all [zaU]
     ·try simp at h10
      refine zo ?_
      refine zk ?_
      refine za ?_
      refine das rfl ?_
      refine dn ?_
      refine zp ?_
      refine zI rfl ?_
      show HVal.int .i64 _ = _
      simp_all [zaU]

/-- benchwarmer/trade.CheckOffers -/
theorem zfk [Tracks] {m : MarketS} {l : List DealS} (ht : m.Teams.length ≤ 1000000) (hl : l.length ≤ 1000000) (hx : ∀ x ∈ l, x.Gives.length ≤ 1000000) : zah Tryz.prog 82 [zaC m, zcA l] (.int .i64 (zcb m l)) := by
 refine Con.of_body Tryz.func82 rfl Tryz.ntmps82 rfl rfl ?_
 refine za ?_
 refine dq (zal rfl rfl) ?_
 refine das rfl ?_
 refine dn ?_
 refine zm ?_
 refine za ?_
 refine dq (zD zN rfl rfl rfl rfl) ?_
 refine dq (zw zp5 rfl (WeakL.refl _) (zd2 (by first | assumption | omega | (simp; omega) | simp_all))) ?_
 refine das rfl ?_
 refine dn ?_
 refine za ?_
 refine dmv rfl ?_
 refine dq (zbq rfl rfl) ?_
 refine dn ?_
 refine zl rfl (fun h1 => ?_) (fun h2 => ?_)
 ·try simp at h1
  refine za ?_
  refine dmv rfl ?_
  refine das rfl ?_
  refine dn ?_
  refine zp ?_
  refine zI rfl ?_
  show HVal.int .i64 _ = _
  first
  | (rw [zcb, if_pos (by simpa using h1)]; done)
  | (rw [hE]; exact congrArg _ (zcB (by omega)))
  | (rw [hE]; exact congrArg _ (zcD (by omega) hg))
  | (rw [hE]
     refine congrArg _ (zby (by omega) hg ?_ rfl)
     simp_all
     done)
  | (rw [hE]
     refine congrArg _ (zcH (by omega) hg ?_ ?_ ?_)
     ·simp_all
     ·simp_all
     ·simp_all)
 ·try simp at h2
  refine zo ?_
  refine zk ?_
  refine zm ?_
  have hz : zad m = 0 := by simpa using h2
  have hm := zfc hz
  have ht20 := hm.len
  have hE : zcb m l = zck m l := by rw [zcb, if_neg (by simp [hz])]
  refine za ?_
  refine dmv rfl ?_
  refine dq (zR zbv rfl) ?_
  refine dq (zaT rfl rfl) ?_
  refine dn ?_
  refine zl rfl (fun h3 => ?_) (fun h4 => ?_)
  ·try simp at h3
   refine za ?_
   refine das rfl ?_
   refine dn ?_
   refine zp ?_
   refine zI rfl ?_
   show HVal.int .i64 _ = _
   first
   | (rw [zcb, if_pos (by simpa using h1)]; done)
   | (rw [hE]; exact congrArg _ (zcB (by omega)))
   | (rw [hE]; exact congrArg _ (zcD (by omega) hg))
   | (rw [hE]
      refine congrArg _ (zby (by omega) hg ?_ rfl)
      simp_all
      done)
   | (rw [hE]
      refine congrArg _ (zcH (by omega) hg ?_ ?_ ?_)
      ·simp_all
      ·simp_all
      ·simp_all)
  ·try simp at h4
   refine zo ?_
   refine zk ?_
   refine zm ?_
   refine za ?_
   refine dmv rfl ?_
   refine dq (zR zbv rfl) ?_
   refine dmv rfl ?_
   refine dn ?_
   refine zu ?_
   refine zaJ [4, 6, 7, 8, 19, 20, 21, 22, 23, 24, 25, 26, 27, 28, 29, 30, 31, 32, 33, 34, 35, 36, 37, 38, 39, 40, 41, 42] (fun (k : Nat) => [(19, .int .i64 k)]) (fun (k : Nat) => []) (fun (k : Nat) => k ≤ l.length ∧ (zaI (zaU m) zcY zcu l 0 l = zaI (zaU m) zcY zcu l k (l.drop k))) (fun (k : Nat) => l.length - k) (0) ?_ ?_ ?_ ?_
   ·exact ⟨Nat.zero_le _, rfl⟩
   ·exact ⟨rfl, trivial⟩
   ·exact List.Perm.refl _
   ·intro k hinv
    obtain ⟨hk, hg⟩ := hinv
    refine za ?_
    refine dq (zY rfl rfl) ?_
    refine dn ?_
    refine zm ?_
    refine zl rfl (fun h5 => ?_) (fun h6 => ?_)
    ·try simp at h5
     obtain ⟨y, hy⟩ : ∃ y, l[k]? = some y := ⟨_, List.getElem?_eq_getElem h5⟩
     have hdy := zU hy
     rw [hdy] at hg
     refine zo ?_
     refine zk ?_
     refine zm ?_
     refine zu ?_
     refine za ?_
     refine dmv rfl ?_
     refine dq (zZ zbv zJ rfl rfl rfl (by first | assumption | simp_all)) ?_
     refine dq (zD zJ rfl rfl rfl rfl) ?_
     refine de rfl (zac zJ rfl fun b7 => ?_)
     refine das rfl ?_
     refine de0 (zax zJ rfl rfl rfl rfl rfl ?_)
     refine dn ?_
     refine zP (Ghost.fc0 7 rfl) ?_
     refine zm ?_
     refine za ?_
     refine dq (zD zJ rfl rfl rfl rfl) ?_
     refine dq (zw zsW rfl (WeakL.refl _) (ziA (x := y) hm (hx y (List.mem_of_getElem? hy)))) ?_
     refine das rfl ?_
     refine dn ?_
     refine za ?_
     refine dmv rfl ?_
     refine dq (zbq rfl rfl) ?_
     refine dn ?_
     refine zl rfl (fun h7 => ?_) (fun h8 => ?_)
     ·try simp at h7
      refine za ?_
      refine dmv rfl ?_
      refine das rfl ?_
      refine dn ?_
      refine zp ?_
      refine zI rfl ?_
      show HVal.int .i64 _ = _
      first
      | (rw [zcb, if_pos (by simpa using h1)]; done)
      | (rw [hE]; exact congrArg _ (zcB (by omega)))
      | (rw [hE]; exact congrArg _ (zcD (by omega) hg))
      | (rw [hE]
         refine congrArg _ (zby (by omega) hg ?_ rfl)
         simp_all
         done)
      | (rw [hE]
         refine congrArg _ (zcH (by omega) hg ?_ ?_ ?_)
         ·simp_all
         ·simp_all
         ·simp_all)
     ·try simp at h8
      refine zo ?_
      refine zk ?_
      refine zar (fun _ => True) [] mixed ?_
      refine ahp 0 rfl rfl (by kernel_rfl) (by kernel_rfl) (zf rfl) ?_
      refine ahp 1 rfl rfl (by kernel_rfl) (by kernel_rfl) (zaT rfl rfl) ?_
      refine ahp 2 rfl rfl (by kernel_rfl) (by kernel_rfl) (zf rfl) ?_
      refine ahg 3 rfl rfl (by kernel_rfl) (by kernel_rfl) rfl (fun hc => ⟨_, OpenTo.refl _, zd zJ rfl ty9 (by decide) rfl⟩) ?_
      refine ahg 4 rfl rfl (by kernel_rfl) (by kernel_rfl) rfl (fun hc => ⟨_, OpenTo.upd (t := 32) rfl (by first | exact hc | simp_all) (OpenTo.refl _), zh ty9 rfl rfl rfl⟩) ?_
      refine ahg 5 rfl rfl (by kernel_rfl) (by kernel_rfl) rfl (fun hc => ⟨_, OpenTo.refl _, zf rfl⟩) ?_
      refine ahg 6 rfl rfl (by kernel_rfl) (by kernel_rfl) rfl (fun hc => ⟨_, OpenTo.refl _, zf rfl⟩) ?_
      refine ahg 7 rfl rfl (by kernel_rfl) (by kernel_rfl) rfl (fun hc => by have hq := hc; (try simp at hq); exact ⟨_, OpenTo.upd (t := 35) rfl (by first | exact hc | simp_all) (OpenTo.refl _), za5 rfl rfl (by omega) (by omega)⟩) ?_
      refine ahg 8 rfl rfl (by kernel_rfl) (by kernel_rfl) rfl (fun hc => by have hq := hc; (try simp at hq); exact ⟨_, OpenTo.upd (t := 36) rfl (by first | exact hc | simp_all) (OpenTo.upd (t := 34) rfl (by first | exact hc | simp_all) (OpenTo.refl _)), zZ (j := k - 1) (a := l.getD (k - 1) zcu) zbv zJ rfl rfl (by omega) (getD_some (by omega))⟩) ?_
      refine ahg 9 rfl rfl (by kernel_rfl) (by kernel_rfl) rfl (fun hc => ⟨_, OpenTo.upd (t := 37) rfl (by first | exact hc | simp_all) (OpenTo.refl _), zd zJ rfl ty9 (by decide) rfl⟩) ?_
      refine ahg 10 rfl rfl (by kernel_rfl) (by kernel_rfl) rfl (fun hc => ⟨_, OpenTo.upd (t := 38) rfl (by first | exact hc | simp_all) (OpenTo.refl _), zh ty9 rfl rfl rfl⟩) ?_
      refine ahg 11 rfl rfl (by kernel_rfl) (by kernel_rfl) rfl (fun hc => ⟨_, OpenTo.upd (t := 39) rfl (by first | exact hc | simp_all) (OpenTo.upd (t := 33) rfl (by first | exact hc | simp_all) (OpenTo.refl _)), zec rfl rfl⟩) ?_
      refine ahp 12 rfl rfl (by kernel_rfl) (by kernel_rfl) (zG rfl (.inr ⟨_, rfl, fun h => by simp_all⟩) (.inl rfl)) ?_
      refine ahz (by kernel_rfl) ?_
      refine zl rfl (fun h9 => ?_) (fun h10 => ?_)
      ·try simp at h9
       refine za ?_
       refine das rfl ?_
       refine dn ?_
       refine zp ?_
       refine zI rfl ?_
       show HVal.int .i64 _ = _
       first
       | (rw [zcb, if_pos (by simpa using h1)]; done)
       | (rw [hE]; exact congrArg _ (zcB (by omega)))
       | (rw [hE]; exact congrArg _ (zcD (by omega) hg))
       | (rw [hE]
          refine congrArg _ (zby (by omega) hg ?_ rfl)
          simp_all
          done)
       | (rw [hE]
          refine congrArg _ (zcH (by omega) hg ?_ ?_ ?_)
          ·simp_all
          ·simp_all
          ·simp_all)
      ·try simp at h10
       refine zo ?_
       refine zA ?_
       refine zk ?_
       refine zB ?_
       refine dq (zC rfl rfl (by omega) (by omega)) ?_
       refine dmv rfl ?_
       refine dn ?_
       refine ⟨k + 1, ?_, ?_, ⟨rfl, trivial⟩, (by repeat (first | exact zq | refine zx rfl ?_ | refine zt rfl rfl ?_)), List.Perm.refl _⟩
       ·refine ⟨by omega, ?_⟩
        rw [hg, zlC (by simp_all) (by intro hk0; simp_all)]
       ·dsimp only; omega
    ·try simp at h6
     have hnk : l.length ≤ k := by omega
     obtain rfl : k = l.length := by omega
     rw [zaS (Nat.le_refl _)] at hg
     refine z7 ?_
     refine zag ?_
     refine zaY ?_
     refine zT ?_
     refine zk ?_
     refine za ?_
     refine das rfl ?_
     refine dn ?_
     refine zp ?_
     refine zI rfl ?_
     show HVal.int .i64 _ = _
     first
     | (rw [zcb, if_pos (by simpa using h1)]; done)
     | (rw [hE]; exact congrArg _ (zcB (by omega)))
     | (rw [hE]; exact congrArg _ (zcD (by omega) hg))
     | (rw [hE]
        refine congrArg _ (zby (by omega) hg ?_ rfl)
        simp_all
        done)
     | (rw [hE]
        refine congrArg _ (zcH (by omega) hg ?_ ?_ ?_)
        ·simp_all
        ·simp_all
        ·simp_all)

/-- benchwarmer/trade.byAnswer -/
theorem zjH [Tracks] {a b : ReplyS}  : zah Tryz.prog 128 [zbA a, zbA b] (.int .i64 (zcf a b)) := by
 refine Con.of_body Tryz.func128 rfl Tryz.ntmps128 rfl rfl ?_
 refine za ?_
 refine dq (zal rfl rfl) ?_
 refine dq (zal rfl rfl) ?_
 refine das rfl ?_
 refine dn ?_
 refine zar (fun _ => True) [] mixed ?_
 refine ahp 0 rfl rfl (by kernel_rfl) (by kernel_rfl) (zd zS rfl ty3 (by decide) rfl) ?_
 refine ahp 1 rfl rfl (by kernel_rfl) (by kernel_rfl) (zh ty3 rfl rfl rfl) ?_
 refine ahp 2 rfl rfl (by kernel_rfl) (by kernel_rfl) (zd zS rfl ty3 (by decide) rfl) ?_
 refine ahp 3 rfl rfl (by kernel_rfl) (by kernel_rfl) (zh ty3 rfl rfl rfl) ?_
 refine ahp 4 rfl rfl (by kernel_rfl) (by kernel_rfl) (zw zqr rfl (WeakL.refl _) zfU) ?_
 refine ahp 5 rfl rfl (by kernel_rfl) (by kernel_rfl) (zd zS rfl ty9 (by decide) rfl) ?_
 refine ahp 6 rfl rfl (by kernel_rfl) (by kernel_rfl) (zh ty9 rfl rfl rfl) ?_
 refine ahp 7 rfl rfl (by kernel_rfl) (by kernel_rfl) (zd zS rfl ty9 (by decide) rfl) ?_
 refine ahp 8 rfl rfl (by kernel_rfl) (by kernel_rfl) (zh ty9 rfl rfl rfl) ?_
 refine ahp 9 rfl rfl (by kernel_rfl) (by kernel_rfl) (zw zkI rfl (WeakL.refl _) zcr) ?_
 refine ahp 10 rfl rfl (by kernel_rfl) (by kernel_rfl) (zd zS rfl ty9 (by decide) rfl) ?_
 refine ahp 11 rfl rfl (by kernel_rfl) (by kernel_rfl) (zh ty9 rfl rfl rfl) ?_
 refine ahp 12 rfl rfl (by kernel_rfl) (by kernel_rfl) (zd zS rfl ty9 (by decide) rfl) ?_
 refine ahp 13 rfl rfl (by kernel_rfl) (by kernel_rfl) (zh ty9 rfl rfl rfl) ?_
 refine ahp 14 rfl rfl (by kernel_rfl) (by kernel_rfl) (zw zkI rfl (WeakL.refl _) zcr) ?_
 refine ahp 15 rfl rfl (by kernel_rfl) (by kernel_rfl) (zE (hs := [_, _, _]) zbh ty3 rfl rfl (by decide) (by decide) rfl) ?_
 refine ahp 16 rfl rfl (by kernel_rfl) (by kernel_rfl) (zw zqC rfl (WeakL.refl _) (zh7 (l := [_, _, _]) (by simp))) ?_
 refine ahp 17 rfl rfl (by kernel_rfl) (by kernel_rfl) (z8 rfl) ?_
 refine ahz (by kernel_rfl) ?_
 refine zp ?_
 refine zI rfl ?_
 rfl

/-- benchwarmer/trade.CheckAnswers -/
theorem zhD [Tracks] {m : MarketS} {l : List ReplyS} (ht : m.Teams.length ≤ 1000000) (hl : l.length ≤ 1000000) : zah Tryz.prog 83 [zaC m, zbr l] (.int .i64 (zcw m l)) := by
 refine Con.of_body Tryz.func83 rfl Tryz.ntmps83 rfl rfl ?_
 refine za ?_
 refine dq (zal rfl rfl) ?_
 refine das rfl ?_
 refine dn ?_
 refine zm ?_
 refine za ?_
 refine dq (zD zN rfl rfl rfl rfl) ?_
 refine dq (zw zp5 rfl (WeakL.refl _) (zd2 (by first | assumption | omega | (simp; omega) | simp_all))) ?_
 refine das rfl ?_
 refine dn ?_
 refine za ?_
 refine dmv rfl ?_
 refine dq (zbq rfl rfl) ?_
 refine dn ?_
 refine zl rfl (fun h1 => ?_) (fun h2 => ?_)
 ·try simp at h1
  refine za ?_
  refine dmv rfl ?_
  refine das rfl ?_
  refine dn ?_
  refine zp ?_
  refine zI rfl ?_
  show HVal.int .i64 _ = _
  first
  | (rw [zcw, if_pos (by simpa using h1)]; done)
  | (rw [hE]; exact congrArg _ (zcF (by omega)))
  | (rw [hE]; exact congrArg _ (zcC (by omega) hg))
  | (rw [hE]
     refine congrArg _ (zai (e := 5) (by omega) hg (by decide) ?_)
     rw [zas, if_pos]
     simp_all
     done)
  | (rw [hE]
     refine congrArg _ (zai (e := 8) (by omega) hg (by decide) ?_)
     rw [zas, if_neg, if_pos]
     all_goals simp_all
     done)
  | (rw [hE]
     refine congrArg _ (zai (e := 1) (by omega) hg (by decide) ?_)
     rw [zas, if_neg, if_neg, if_pos]
     all_goals simp_all
     done)
  | (rw [hE]
     refine congrArg _ (zai (e := 4) (by omega) hg (by decide) ?_)
     rw [zas, if_neg, if_neg, if_neg, if_pos]
     all_goals simp_all
     done)
  | (rw [hE]
     refine congrArg _ (zcG (by omega) hg ?_ ?_ ?_)
     ·rw [zas, if_neg, if_neg, if_neg, if_neg] <;> simp_all
     ·simp_all
     ·simp_all)
 ·try simp at h2
  refine zo ?_
  refine zk ?_
  refine zm ?_
  have hz : zad m = 0 := by simpa using h2
  have hm := zfc hz
  have ht20 := hm.len
  have hE : zcw m l = zc1 m l := by rw [zcw, if_neg (by simp [hz])]
  refine za ?_
  refine dmv rfl ?_
  refine dq (zR zb5 rfl) ?_
  refine dq (zaT rfl rfl) ?_
  refine dn ?_
  refine zl rfl (fun h3 => ?_) (fun h4 => ?_)
  ·try simp at h3
   refine za ?_
   refine das rfl ?_
   refine dn ?_
   refine zp ?_
   refine zI rfl ?_
   show HVal.int .i64 _ = _
   first
   | (rw [zcw, if_pos (by simpa using h1)]; done)
   | (rw [hE]; exact congrArg _ (zcF (by omega)))
   | (rw [hE]; exact congrArg _ (zcC (by omega) hg))
   | (rw [hE]
      refine congrArg _ (zai (e := 5) (by omega) hg (by decide) ?_)
      rw [zas, if_pos]
      simp_all
      done)
   | (rw [hE]
      refine congrArg _ (zai (e := 8) (by omega) hg (by decide) ?_)
      rw [zas, if_neg, if_pos]
      all_goals simp_all
      done)
   | (rw [hE]
      refine congrArg _ (zai (e := 1) (by omega) hg (by decide) ?_)
      rw [zas, if_neg, if_neg, if_pos]
      all_goals simp_all
      done)
   | (rw [hE]
      refine congrArg _ (zai (e := 4) (by omega) hg (by decide) ?_)
      rw [zas, if_neg, if_neg, if_neg, if_pos]
      all_goals simp_all
      done)
   | (rw [hE]
      refine congrArg _ (zcG (by omega) hg ?_ ?_ ?_)
      ·rw [zas, if_neg, if_neg, if_neg, if_neg] <;> simp_all
      ·simp_all
      ·simp_all)
  ·try simp at h4
   refine zo ?_
   refine zk ?_
   refine zm ?_
   refine za ?_
   refine dmv rfl ?_
   refine dq (zR zb5 rfl) ?_
   refine dmv rfl ?_
   refine dn ?_
   refine zu ?_
   refine zaJ [4, 6, 7, 18, 19, 20, 21, 22, 23, 24, 25, 26, 27, 28, 29, 30, 31, 32, 33, 34, 35, 36, 37, 38, 39, 40, 41, 42, 43, 44, 45, 46, 47, 48, 49, 50, 51, 52, 53, 54, 55] (fun (k : Nat) => [(18, .int .i64 k)]) (fun (k : Nat) => []) (fun (k : Nat) => k ≤ l.length ∧ (zaI (zas m) zcf zbU l 0 l = zaI (zas m) zcf zbU l k (l.drop k))) (fun (k : Nat) => l.length - k) (0) ?_ ?_ ?_ ?_
   ·exact ⟨Nat.zero_le _, rfl⟩
   ·exact ⟨rfl, trivial⟩
   ·exact List.Perm.refl _
   ·intro k hinv
    obtain ⟨hk, hg⟩ := hinv
    refine za ?_
    refine dq (zY rfl rfl) ?_
    refine dn ?_
    refine zm ?_
    refine zl rfl (fun h5 => ?_) (fun h6 => ?_)
    ·try simp at h5
     obtain ⟨x, hx⟩ : ∃ x, l[k]? = some x := ⟨_, List.getElem?_eq_getElem h5⟩
     have hdx := zU hx
     rw [hdx] at hg
     refine zo ?_
     refine zk ?_
     refine zm ?_
     refine zu ?_
     refine za ?_
     refine dmv rfl ?_
     refine dq (zZ zb5 zS rfl rfl rfl (by first | assumption | simp_all)) ?_
     refine dq (zD zS rfl rfl rfl rfl) ?_
     refine de rfl (zac zS rfl fun b7 => ?_)
     refine das rfl ?_
     refine de0 (zax zS rfl rfl rfl rfl rfl ?_)
     refine dn ?_
     refine zP (Ghost.fc0 7 rfl) ?_
     refine zu ?_
     refine za ?_
     refine dq (zd zS rfl ty9 (by decide) rfl) ?_
     refine dq (zh ty9 rfl rfl rfl) ?_
     refine dq (zw zmU rfl (WeakL.refl _) zfa) ?_
     refine dq (zam rfl) ?_
     refine das rfl ?_
     refine dn ?_
     refine zl rfl (fun h7 => ?_) (fun h8 => ?_)
     ·try simp at h7
      refine za ?_
      refine das rfl ?_
      refine dn ?_
      refine zp ?_
      refine zI rfl ?_
      show HVal.int .i64 _ = _
      first
      | (rw [zcw, if_pos (by simpa using h1)]; done)
      | (rw [hE]; exact congrArg _ (zcF (by omega)))
      | (rw [hE]; exact congrArg _ (zcC (by omega) hg))
      | (rw [hE]
         refine congrArg _ (zai (e := 5) (by omega) hg (by decide) ?_)
         rw [zas, if_pos]
         simp_all
         done)
      | (rw [hE]
         refine congrArg _ (zai (e := 8) (by omega) hg (by decide) ?_)
         rw [zas, if_neg, if_pos]
         all_goals simp_all
         done)
      | (rw [hE]
         refine congrArg _ (zai (e := 1) (by omega) hg (by decide) ?_)
         rw [zas, if_neg, if_neg, if_pos]
         all_goals simp_all
         done)
      | (rw [hE]
         refine congrArg _ (zai (e := 4) (by omega) hg (by decide) ?_)
         rw [zas, if_neg, if_neg, if_neg, if_pos]
         all_goals simp_all
         done)
      | (rw [hE]
         refine congrArg _ (zcG (by omega) hg ?_ ?_ ?_)
         ·rw [zas, if_neg, if_neg, if_neg, if_neg] <;> simp_all
         ·simp_all
         ·simp_all)
     ·try simp at h8
      refine za ?_
      refine dq (zd zS rfl ty9 (by decide) rfl) ?_
      refine dq (zh ty9 rfl rfl rfl) ?_
      refine dq (zw zkH rfl (WeakL.refl _) (zc5 hm)) ?_
      refine dq (zam rfl) ?_
      refine das rfl ?_
      refine dn ?_
      refine zl rfl (fun h9 => ?_) (fun h10 => ?_)
      ·try simp at h9
       refine za ?_
       refine das rfl ?_
       refine dn ?_
       refine zp ?_
       refine zI rfl ?_
       show HVal.int .i64 _ = _
       first
       | (rw [zcw, if_pos (by simpa using h1)]; done)
       | (rw [hE]; exact congrArg _ (zcF (by omega)))
       | (rw [hE]; exact congrArg _ (zcC (by omega) hg))
       | (rw [hE]
          refine congrArg _ (zai (e := 5) (by omega) hg (by decide) ?_)
          rw [zas, if_pos]
          simp_all
          done)
       | (rw [hE]
          refine congrArg _ (zai (e := 8) (by omega) hg (by decide) ?_)
          rw [zas, if_neg, if_pos]
          all_goals simp_all
          done)
       | (rw [hE]
          refine congrArg _ (zai (e := 1) (by omega) hg (by decide) ?_)
          rw [zas, if_neg, if_neg, if_pos]
          all_goals simp_all
          done)
       | (rw [hE]
          refine congrArg _ (zai (e := 4) (by omega) hg (by decide) ?_)
          rw [zas, if_neg, if_neg, if_neg, if_pos]
          all_goals simp_all
          done)
       | (rw [hE]
          refine congrArg _ (zcG (by omega) hg ?_ ?_ ?_)
          ·rw [zas, if_neg, if_neg, if_neg, if_neg] <;> simp_all
          ·simp_all
          ·simp_all)
      ·try simp at h10
       refine za ?_
       refine dq (zd zS rfl ty3 (by decide) rfl) ?_
       refine dq (zh ty3 rfl rfl rfl) ?_
       refine dq (zw znY rfl (WeakL.refl _) zeB) ?_
       refine dq (zam rfl) ?_
       refine das rfl ?_
       refine dn ?_
       refine zl rfl (fun h11 => ?_) (fun h12 => ?_)
       ·try simp at h11
        refine za ?_
        refine das rfl ?_
        refine dn ?_
        refine zp ?_
        refine zI rfl ?_
        show HVal.int .i64 _ = _
        first
        | (rw [zcw, if_pos (by simpa using h1)]; done)
        | (rw [hE]; exact congrArg _ (zcF (by omega)))
        | (rw [hE]; exact congrArg _ (zcC (by omega) hg))
        | (rw [hE]
           refine congrArg _ (zai (e := 5) (by omega) hg (by decide) ?_)
           rw [zas, if_pos]
           simp_all
           done)
        | (rw [hE]
           refine congrArg _ (zai (e := 8) (by omega) hg (by decide) ?_)
           rw [zas, if_neg, if_pos]
           all_goals simp_all
           done)
        | (rw [hE]
           refine congrArg _ (zai (e := 1) (by omega) hg (by decide) ?_)
           rw [zas, if_neg, if_neg, if_pos]
           all_goals simp_all
           done)
        | (rw [hE]
           refine congrArg _ (zai (e := 4) (by omega) hg (by decide) ?_)
           rw [zas, if_neg, if_neg, if_neg, if_pos]
           all_goals simp_all
           done)
        | (rw [hE]
           refine congrArg _ (zcG (by omega) hg ?_ ?_ ?_)
           ·rw [zas, if_neg, if_neg, if_neg, if_neg] <;> simp_all
           ·simp_all
           ·simp_all)
       ·try simp at h12
        refine za ?_
        refine dq (zd zS rfl ty3 (by decide) rfl) ?_
        refine dq (zh ty3 rfl rfl rfl) ?_
        refine dq (zw zhu rfl (WeakL.refl _) zc0) ?_
        refine das rfl ?_
        refine dn ?_
        refine zl rfl (fun h13 => ?_) (fun h14 => ?_)
        ·try simp at h13
         refine za ?_
         refine das rfl ?_
         refine dn ?_
         refine zp ?_
         refine zI rfl ?_
         show HVal.int .i64 _ = _
         first
         | (rw [zcw, if_pos (by simpa using h1)]; done)
         | (rw [hE]; exact congrArg _ (zcF (by omega)))
         | (rw [hE]; exact congrArg _ (zcC (by omega) hg))
         | (rw [hE]
            refine congrArg _ (zai (e := 5) (by omega) hg (by decide) ?_)
            rw [zas, if_pos]
            simp_all
            done)
         | (rw [hE]
            refine congrArg _ (zai (e := 8) (by omega) hg (by decide) ?_)
            rw [zas, if_neg, if_pos]
            all_goals simp_all
            done)
         | (rw [hE]
            refine congrArg _ (zai (e := 1) (by omega) hg (by decide) ?_)
            rw [zas, if_neg, if_neg, if_pos]
            all_goals simp_all
            done)
         | (rw [hE]
            refine congrArg _ (zai (e := 4) (by omega) hg (by decide) ?_)
            rw [zas, if_neg, if_neg, if_neg, if_pos]
            all_goals simp_all
            done)
         | (rw [hE]
            refine congrArg _ (zcG (by omega) hg ?_ ?_ ?_)
            ·rw [zas, if_neg, if_neg, if_neg, if_neg] <;> simp_all
            ·simp_all
            ·simp_all)
        ·try simp at h14
         refine zar (fun _ => True) [] mixed ?_
         refine ahp 0 rfl rfl (by kernel_rfl) (by kernel_rfl) (zf rfl) ?_
         refine ahp 1 rfl rfl (by kernel_rfl) (by kernel_rfl) (zaT rfl rfl) ?_
         refine ahp 2 rfl rfl (by kernel_rfl) (by kernel_rfl) (zf rfl) ?_
         refine ahg 3 rfl rfl (by kernel_rfl) (by kernel_rfl) rfl (fun hc => ⟨_, OpenTo.refl _, zD zS rfl rfl rfl rfl⟩) ?_
         refine ahg 4 rfl rfl (by kernel_rfl) (by kernel_rfl) rfl (fun hc => ⟨_, OpenTo.refl _, zf rfl⟩) ?_
         refine ahg 5 rfl rfl (by kernel_rfl) (by kernel_rfl) rfl (fun hc => ⟨_, OpenTo.refl _, zf rfl⟩) ?_
         refine ahg 6 rfl rfl (by kernel_rfl) (by kernel_rfl) rfl (fun hc => by have hq := hc; (try simp at hq); exact ⟨_, OpenTo.upd (t := 48) rfl (by first | exact hc | simp_all) (OpenTo.refl _), za5 rfl rfl (by omega) (by omega)⟩) ?_
         refine ahg 7 rfl rfl (by kernel_rfl) (by kernel_rfl) rfl (fun hc => by have hq := hc; (try simp at hq); exact ⟨_, OpenTo.upd (t := 49) rfl (by first | exact hc | simp_all) (OpenTo.upd (t := 47) rfl (by first | exact hc | simp_all) (OpenTo.refl _)), zZ (j := k - 1) (a := l.getD (k - 1) zbU) zb5 zS rfl rfl (by omega) (getD_some (by omega))⟩) ?_
         refine ahg 8 rfl rfl (by kernel_rfl) (by kernel_rfl) rfl (fun hc => ⟨_, OpenTo.upd (t := 50) rfl (by first | exact hc | simp_all) (OpenTo.refl _), zD zS rfl rfl rfl rfl⟩) ?_
         refine ahg 9 rfl rfl (by kernel_rfl) (by kernel_rfl) rfl (fun hc => ⟨_, OpenTo.upd (t := 51) rfl (by first | exact hc | simp_all) (OpenTo.upd (t := 46) rfl (by first | exact hc | simp_all) (OpenTo.refl _)), zw zsQ rfl (WeakL.refl _) zjH⟩) ?_
         refine ahg 10 rfl rfl (by kernel_rfl) (by kernel_rfl) rfl (fun hc => ⟨_, OpenTo.upd (t := 52) rfl (by first | exact hc | simp_all) (OpenTo.refl _), zeR rfl rfl⟩) ?_
         refine ahp 11 rfl rfl (by kernel_rfl) (by kernel_rfl) (zG rfl (.inr ⟨_, rfl, fun h => by simp_all⟩) (.inl rfl)) ?_
         refine ahp 12 rfl rfl (by kernel_rfl) (by kernel_rfl) (z8 rfl) ?_
         refine ahz (by kernel_rfl) ?_
         refine zl rfl (fun h15 => ?_) (fun h16 => ?_)
         ·try simp at h15
          refine za ?_
          refine das rfl ?_
          refine dn ?_
          refine zp ?_
          refine zI rfl ?_
          show HVal.int .i64 _ = _
          first
          | (rw [zcw, if_pos (by simpa using h1)]; done)
          | (rw [hE]; exact congrArg _ (zcF (by omega)))
          | (rw [hE]; exact congrArg _ (zcC (by omega) hg))
          | (rw [hE]
             refine congrArg _ (zai (e := 5) (by omega) hg (by decide) ?_)
             rw [zas, if_pos]
             simp_all
             done)
          | (rw [hE]
             refine congrArg _ (zai (e := 8) (by omega) hg (by decide) ?_)
             rw [zas, if_neg, if_pos]
             all_goals simp_all
             done)
          | (rw [hE]
             refine congrArg _ (zai (e := 1) (by omega) hg (by decide) ?_)
             rw [zas, if_neg, if_neg, if_pos]
             all_goals simp_all
             done)
          | (rw [hE]
             refine congrArg _ (zai (e := 4) (by omega) hg (by decide) ?_)
             rw [zas, if_neg, if_neg, if_neg, if_pos]
             all_goals simp_all
             done)
          | (rw [hE]
             refine congrArg _ (zcG (by omega) hg ?_ ?_ ?_)
             ·rw [zas, if_neg, if_neg, if_neg, if_neg] <;> simp_all
             ·simp_all
             ·simp_all)
         ·try simp at h16
          refine zo ?_
          refine zA ?_
          refine zA ?_
          refine zk ?_
          refine zB ?_
          refine dq (zC rfl rfl (by omega) (by omega)) ?_
          refine dmv rfl ?_
          refine dn ?_
          refine ⟨k + 1, ?_, ?_, ⟨rfl, trivial⟩, (by repeat (first | exact zq | refine zx rfl ?_ | refine zt rfl rfl ?_)), List.Perm.refl _⟩
          ·refine ⟨by omega, ?_⟩
           rw [hg, zmy (by rw [zas, if_neg (by simp_all), if_neg (by simp_all), if_neg (by simp_all), if_neg (by simp_all)]) (by intro hk0; simp_all)]
          ·dsimp only; omega
    ·try simp at h6
     have hnk : l.length ≤ k := by omega
     obtain rfl : k = l.length := by omega
     rw [zaS (Nat.le_refl _)] at hg
     refine z7 ?_
     refine zag ?_
     refine zaY ?_
     refine zT ?_
     refine zk ?_
     refine za ?_
     refine das rfl ?_
     refine dn ?_
     refine zp ?_
     refine zI rfl ?_
     show HVal.int .i64 _ = _
     first
     | (rw [zcw, if_pos (by simpa using h1)]; done)
     | (rw [hE]; exact congrArg _ (zcF (by omega)))
     | (rw [hE]; exact congrArg _ (zcC (by omega) hg))
     | (rw [hE]
        refine congrArg _ (zai (e := 5) (by omega) hg (by decide) ?_)
        rw [zas, if_pos]
        simp_all
        done)
     | (rw [hE]
        refine congrArg _ (zai (e := 8) (by omega) hg (by decide) ?_)
        rw [zas, if_neg, if_pos]
        all_goals simp_all
        done)
     | (rw [hE]
        refine congrArg _ (zai (e := 1) (by omega) hg (by decide) ?_)
        rw [zas, if_neg, if_neg, if_pos]
        all_goals simp_all
        done)
     | (rw [hE]
        refine congrArg _ (zai (e := 4) (by omega) hg (by decide) ?_)
        rw [zas, if_neg, if_neg, if_neg, if_pos]
        all_goals simp_all
        done)
     | (rw [hE]
        refine congrArg _ (zcG (by omega) hg ?_ ?_ ?_)
        ·rw [zas, if_neg, if_neg, if_neg, if_neg] <;> simp_all
        ·simp_all
        ·simp_all)
end
section
open Go.HL
/-- benchwarmer/benchref1.MarketFault -/
theorem zgF [Tracks] {m : MarketS} (ht : m.Teams.length ≤ 1000000) (hs : ∀ s ∈ m.Teams, s.length ≤ 1000000) : zah Tryz.prog 44 [zaC m] (.int .i64 (zad m)) := by
 refine Con.of_body Tryz.func44 rfl Tryz.ntmps44 rfl rfl ?_
 refine za ?_
 refine dq (zal rfl rfl) ?_
 refine das rfl ?_
 refine dn ?_
 refine zm ?_
 refine zu ?_
 refine za ?_
 refine dq (zd zN rfl zQ (by decide) rfl) ?_
 refine dq (zh zQ rfl rfl rfl) ?_
 refine dq (zR zQ rfl) ?_
 refine dq (zaj rfl rfl) ?_
 refine das rfl ?_
 refine dn ?_
 refine zl rfl (fun h1 => ?_) (fun h2 => ?_)
 ·try simp at h1
  refine za ?_
  refine das rfl ?_
  refine dn ?_
  refine zp ?_
  refine zI rfl ?_
  show HVal.int .i64 _ = _
  first
  | (rw [zad, if_pos (by simpa using h1)]; done)
  | (rw [zad, if_neg (by simpa using h2), if_pos (by omega)]; done)
  | (rw [zad, if_neg (by simpa using h2), if_neg (by omega), hg]; simp_all [zbM, leS]; done)
 ·try simp at h2
  refine za ?_
  refine dq (zd zN rfl zQ (by decide) rfl) ?_
  refine dq (zh zQ rfl rfl rfl) ?_
  refine dq (zR zQ rfl) ?_
  refine dq (zaT rfl rfl) ?_
  refine das rfl ?_
  refine dn ?_
  refine zl rfl (fun h3 => ?_) (fun h4 => ?_)
  ·try simp at h3
   refine za ?_
   refine das rfl ?_
   refine dn ?_
   refine zp ?_
   refine zI rfl ?_
   show HVal.int .i64 _ = _
   first
   | (rw [zad, if_pos (by simpa using h1)]; done)
   | (rw [zad, if_neg (by simpa using h2), if_pos (by omega)]; done)
   | (rw [zad, if_neg (by simpa using h2), if_neg (by omega), hg]; simp_all [zbM, leS]; done)
  ·try simp at h4
   refine zo ?_
   refine zA ?_
   refine zk ?_
   refine zm ?_
   refine za ?_
   refine dq (zd zN rfl zQ (by decide) rfl) ?_
   refine dq (zh zQ rfl rfl rfl) ?_
   refine dq (zR zQ rfl) ?_
   refine dmv rfl ?_
   refine dn ?_
   refine zu ?_
   refine zaJ [2, 3, 4, 18, 19, 20, 21, 22, 23, 24, 25, 26, 27, 28, 29, 30, 31, 32, 33, 34, 35, 36, 37, 38, 39, 40] (fun (k : Nat) => [(18, .int .i64 k)]) (fun (k : Nat) => []) (fun (k : Nat) => k ≤ m.Teams.length ∧ (ze4 m.Teams = zbM m.Teams k (m.Teams.drop k))) (fun (k : Nat) => m.Teams.length - k) (0) ?_ ?_ ?_ ?_
   ·exact ⟨Nat.zero_le _, rfl⟩
   ·exact ⟨rfl, trivial⟩
   ·exact List.Perm.refl _
   ·intro k hinv
    obtain ⟨hk, hg⟩ := hinv
    refine za ?_
    refine dq (zY rfl rfl) ?_
    refine dn ?_
    refine zm ?_
    refine zl rfl (fun h5 => ?_) (fun h6 => ?_)
    ·try simp at h5
     obtain ⟨x, hx⟩ : ∃ x, m.Teams[k]? = some x := ⟨_, List.getElem?_eq_getElem h5⟩
     have hdx := zU hx
     rw [hdx] at hg
     refine zo ?_
     refine zk ?_
     refine zm ?_
     refine zu ?_
     refine za ?_
     refine dmv rfl ?_
     refine dq (zZ zQ ty9 rfl rfl rfl (by first | assumption | simp_all)) ?_
     refine dq (zh ty9 rfl rfl rfl) ?_
     refine das rfl ?_
     refine das rfl ?_
     refine dn ?_
     refine zu ?_
     refine za ?_
     refine dmv rfl ?_
     refine dq (zw zkX rfl (WeakL.refl _) (zcO (hs x (List.mem_of_getElem? hx)))) ?_
     refine dq (zam rfl) ?_
     refine das rfl ?_
     refine dn ?_
     refine zl rfl (fun h7 => ?_) (fun h8 => ?_)
     ·try simp at h7
      refine za ?_
      refine das rfl ?_
      refine dn ?_
      refine zp ?_
      refine zI rfl ?_
      show HVal.int .i64 _ = _
      first
      | (rw [zad, if_pos (by simpa using h1)]; done)
      | (rw [zad, if_neg (by simpa using h2), if_pos (by omega)]; done)
      | (rw [zad, if_neg (by simpa using h2), if_neg (by omega), hg]; simp_all [zbM, leS]; done)
     ·try simp at h8
      refine za ?_
      refine dmv rfl ?_
      refine dq (zaT rfl rfl) ?_
      refine dmv rfl ?_
      refine dg rfl rfl (fun hc => ⟨_, OpenTo.refl _, zf rfl⟩) ?_
      refine dg rfl rfl (fun hc => ⟨_, OpenTo.refl _, zd zN rfl zQ (by decide) rfl⟩) ?_
      refine dg rfl rfl (fun hc => ⟨_, OpenTo.upd (t := 32) rfl (by first | exact hc | simp_all) (OpenTo.refl _), zh zQ rfl rfl rfl⟩) ?_
      refine dg rfl rfl (fun hc => ⟨_, OpenTo.refl _, zf rfl⟩) ?_
      refine dg rfl rfl (fun hc => by have hq := hc; (try simp at hq); exact ⟨_, OpenTo.upd (t := 34) rfl (by first | exact hc | simp_all) (OpenTo.refl _), za5 rfl rfl (by omega) (by omega)⟩) ?_
      refine dg rfl rfl (fun hc => by have hq := hc; (try simp at hq); exact ⟨_, OpenTo.upd (t := 35) rfl (by first | exact hc | simp_all) (OpenTo.upd (t := 33) rfl (by first | exact hc | simp_all) (OpenTo.refl _)), zZ (j := k - 1) (a := m.Teams.getD (k - 1) []) zQ ty9 rfl rfl (by omega) (getD_some (by omega))⟩) ?_
      refine dg rfl rfl (fun hc => ⟨_, OpenTo.upd (t := 36) rfl (by first | exact hc | simp_all) (OpenTo.refl _), zh ty9 rfl rfl rfl⟩) ?_
      refine dg rfl rfl (fun hc => ⟨_, OpenTo.upd (t := 37) rfl (by first | exact hc | simp_all) (OpenTo.upd (t := 31) rfl (by first | exact hc | simp_all) (OpenTo.refl _)), zec rfl rfl⟩) ?_
      refine dq (zG rfl (.inr ⟨_, rfl, fun h => by simp_all⟩) (.inl rfl)) ?_
      refine das rfl ?_
      refine dn ?_
      refine zl rfl (fun h9 => ?_) (fun h10 => ?_)
      ·try simp at h9
       refine za ?_
       refine das rfl ?_
       refine dn ?_
       refine zp ?_
       refine zI rfl ?_
       show HVal.int .i64 _ = _
       first
       | (rw [zad, if_pos (by simpa using h1)]; done)
       | (rw [zad, if_neg (by simpa using h2), if_pos (by omega)]; done)
       | (rw [zad, if_neg (by simpa using h2), if_neg (by omega), hg]; simp_all [zbM, leS]; done)
      ·try simp at h10
       refine zo ?_
       refine zA ?_
       refine zA ?_
       refine zk ?_
       refine zB ?_
       refine dq (zC rfl rfl (by omega) (by omega)) ?_
       refine dmv rfl ?_
       refine dn ?_
       refine ⟨k + 1, ?_, ?_, ⟨rfl, trivial⟩, (by repeat (first | exact zq | refine zx rfl ?_ | refine zt rfl rfl ?_)), List.Perm.refl _⟩
       ·refine ⟨by omega, ?_⟩
        rw [hg]; simp_all [zbM, leS]
       ·dsimp only; omega
    ·try simp at h6
     have hnk : m.Teams.length ≤ k := by omega
     obtain rfl : k = m.Teams.length := by omega
     rw [zaS (Nat.le_refl _)] at hg
     refine z7 ?_
     refine zag ?_
     refine zaY ?_
     refine zT ?_
     refine zk ?_
     refine zm ?_
     refine za ?_
     refine dq (zd zN rfl ty3 (by decide) rfl) ?_
     refine dq (zh ty3 rfl rfl rfl) ?_
     refine dq (zw ziU rfl (WeakL.refl _) zcd) ?_
     refine dq (zam rfl) ?_
     refine dmv rfl ?_
     refine dg rfl rfl (fun hc => ⟨_, OpenTo.refl _, zd zN rfl ty3 (by decide) rfl⟩) ?_
     refine dg rfl rfl (fun hc => ⟨_, OpenTo.upd (t := 46) rfl (by first | exact hc | simp_all) (OpenTo.refl _), zh ty3 rfl rfl rfl⟩) ?_
     refine dg rfl rfl (fun hc => ⟨_, OpenTo.upd (t := 47) rfl (by first | exact hc | simp_all) (OpenTo.refl _), zw ziU rfl (WeakL.refl _) zcd⟩) ?_
     refine dg rfl rfl (fun hc => ⟨_, OpenTo.upd (t := 48) rfl (by first | exact hc | simp_all) (OpenTo.refl _), zam rfl⟩) ?_
     refine dq (zG rfl (.inl rfl) (.inr ⟨_, rfl, fun h => by simp_all⟩)) ?_
     refine dmv rfl ?_
     refine dg rfl rfl (fun hc => ⟨_, OpenTo.refl _, zd zN rfl ty3 (by decide) rfl⟩) ?_
     refine dg rfl rfl (fun hc => ⟨_, OpenTo.upd (t := 52) rfl (by first | exact hc | simp_all) (OpenTo.refl _), zh ty3 rfl rfl rfl⟩) ?_
     refine dg rfl rfl (fun hc => ⟨_, OpenTo.upd (t := 53) rfl (by first | exact hc | simp_all) (OpenTo.refl _), zw ziU rfl (WeakL.refl _) zcd⟩) ?_
     refine dg rfl rfl (fun hc => ⟨_, OpenTo.upd (t := 54) rfl (by first | exact hc | simp_all) (OpenTo.refl _), zam rfl⟩) ?_
     refine dq (zG rfl (.inl rfl) (.inr ⟨_, rfl, fun h => by simp_all⟩)) ?_
     refine dmv rfl ?_
     refine dg rfl rfl (fun hc => ⟨_, OpenTo.refl _, zd zN rfl ty3 (by decide) rfl⟩) ?_
     refine dg rfl rfl (fun hc => ⟨_, OpenTo.upd (t := 58) rfl (by first | exact hc | simp_all) (OpenTo.refl _), zh ty3 rfl rfl rfl⟩) ?_
     refine dg rfl rfl (fun hc => ⟨_, OpenTo.refl _, zd zN rfl ty3 (by decide) rfl⟩) ?_
     refine dg rfl rfl (fun hc => ⟨_, OpenTo.upd (t := 60) rfl (by first | exact hc | simp_all) (OpenTo.refl _), zh ty3 rfl rfl rfl⟩) ?_
     refine dg rfl rfl (fun hc => ⟨_, OpenTo.upd (t := 61) rfl (by first | exact hc | simp_all) (OpenTo.upd (t := 59) rfl (by first | exact hc | simp_all) (OpenTo.refl _)), zw ziU rfl (WeakL.refl _) zcd⟩) ?_
     refine dg rfl rfl (fun hc => ⟨_, OpenTo.upd (t := 62) rfl (by first | exact hc | simp_all) (OpenTo.refl _), zam rfl⟩) ?_
     refine dq (zG rfl (.inl rfl) (.inr ⟨_, rfl, fun h => by simp_all⟩)) ?_
     refine dmv rfl ?_
     refine dg rfl rfl (fun hc => ⟨_, OpenTo.refl _, zd zN rfl ty3 (by decide) rfl⟩) ?_
     refine dg rfl rfl (fun hc => ⟨_, OpenTo.upd (t := 66) rfl (by first | exact hc | simp_all) (OpenTo.refl _), zh ty3 rfl rfl rfl⟩) ?_
     refine dg rfl rfl (fun hc => ⟨_, OpenTo.upd (t := 67) rfl (by first | exact hc | simp_all) (OpenTo.refl _), zaT rfl rfl⟩) ?_
     refine dq (zG rfl (.inl rfl) (.inr ⟨_, rfl, fun h => by simp_all⟩)) ?_
     refine dn ?_
     refine zl rfl (fun h11 => ?_) (fun h12 => ?_)
     ·try simp at h11
      refine za ?_
      refine das rfl ?_
      refine dn ?_
      refine zp ?_
      refine zI rfl ?_
      show HVal.int .i64 _ = _
      first
      | (rw [zad, if_pos (by simpa using h1)]; done)
      | (rw [zad, if_neg (by simpa using h2), if_pos (by omega)]; done)
      | (rw [zad, if_neg (by simpa using h2), if_neg (by omega), hg]; simp_all [zbM, leS]; done)
     ·try simp at h12
      refine zo ?_
      refine zk ?_
      refine za ?_
      refine das rfl ?_
      refine dn ?_
      refine zp ?_
      refine zI rfl ?_
      show HVal.int .i64 _ = _
      first
      | (rw [zad, if_pos (by simpa using h1)]; done)
      | (rw [zad, if_neg (by simpa using h2), if_pos (by omega)]; done)
      | (rw [zad, if_neg (by simpa using h2), if_neg (by omega), hg]; simp_all [zbM, leS]; done)

/-- benchwarmer/benchref1.hasTeam -/
theorem zcz [Tracks] {m : MarketS} {t : Str} (ht : m.Teams.length ≤ 1000000) : zah Tryz.prog 76 [zaC m, .str t] (.bool (m.Teams.contains t)) := by
 refine Con.of_body Tryz.func76 rfl Tryz.ntmps76 rfl rfl ?_
 refine za ?_
 refine dq (zal rfl rfl) ?_
 refine das rfl ?_
 refine dn ?_
 refine za ?_
 refine dq (zd zN rfl zQ (by decide) rfl) ?_
 refine dq (zh zQ rfl rfl rfl) ?_
 refine dmv rfl ?_
 refine dq (zw zgm rfl (WeakL.refl _) (zaw (l := m.Teams) (s := t) (by omega))) ?_
 refine das rfl ?_
 refine dn ?_
 refine zp ?_
 refine zI rfl ?_
 rfl

/-- benchwarmer/benchref1.fits -/
theorem zgz [Tracks] {m : MarketS} {o : List OwnerS} (ht : m.Teams.length ≤ 1000000) (ho : o.length ≤ 1000000) : zah Tryz.prog 77 [zaC m, zat o] (.bool (zfd m o)) := by
 refine Con.of_body Tryz.func77 rfl Tryz.ntmps77 rfl rfl ?_
 refine za ?_
 refine dq (zal rfl rfl) ?_
 refine das rfl ?_
 refine dn ?_
 refine zm ?_
 refine za ?_
 refine dq (zd zN rfl zQ (by decide) rfl) ?_
 refine dq (zh zQ rfl rfl rfl) ?_
 refine dq (zR zQ rfl) ?_
 refine dmv rfl ?_
 refine dn ?_
 refine zu ?_
 refine zaJ [4, 6, 7, 9, 13, 14, 15, 16, 17, 18, 19, 20, 21, 22, 23, 24, 25, 26, 27, 28, 29, 30, 31, 32, 33, 34, 35, 36, 37] (fun (k : Nat) => [(13, .int .i64 k)]) (fun (k : Nat) => []) (fun (k : Nat) => k ≤ m.Teams.length ∧ (zfd m o = (m.Teams.drop k).all fun t => !(out (zdG o t) m.Least m.Most))) (fun (k : Nat) => m.Teams.length - k) (0) ?_ ?_ ?_ ?_
 ·exact ⟨Nat.zero_le _, rfl⟩
 ·exact ⟨rfl, trivial⟩
 ·exact List.Perm.refl _
 ·intro k hinv
  obtain ⟨hk, hg⟩ := hinv
  refine za ?_
  refine dq (zY rfl rfl) ?_
  refine dn ?_
  refine zm ?_
  refine zl rfl (fun h1 => ?_) (fun h2 => ?_)
  ·try simp at h1
   obtain ⟨x, hx⟩ : ∃ x, m.Teams[k]? = some x := ⟨_, List.getElem?_eq_getElem h1⟩
   have hdx := zU hx
   rw [hdx, List.all_cons] at hg
   refine zo ?_
   refine zk ?_
   refine zm ?_
   refine zu ?_
   refine za ?_
   refine dq (zZ zQ ty9 rfl rfl rfl (by first | assumption | simp_all)) ?_
   refine dq (zh ty9 rfl rfl rfl) ?_
   refine das rfl ?_
   refine dn ?_
   refine za ?_
   refine das rfl ?_
   refine dn ?_
   refine zm ?_
   refine za ?_
   refine dmv rfl ?_
   refine dq (zR zaD rfl) ?_
   refine dmv rfl ?_
   refine dn ?_
   refine zu ?_
   refine zaJ [7, 9, 19, 20, 21, 22, 23, 24, 25, 26, 27, 28, 29] (fun (j : Nat) => [(19, .int .i64 j), (7, .int .i64 (zdG (o.take j) x))]) (fun (j : Nat) => []) (fun (j : Nat) => j ≤ o.length ∧ (True)) (fun (j : Nat) => o.length - j) (0) ?_ ?_ ?_ ?_
   ·exact ⟨Nat.zero_le _, trivial⟩
   ·exact ⟨rfl, rfl, trivial⟩
   ·exact List.Perm.refl _
   ·intro j hinv
    obtain ⟨hj, -⟩ := hinv
    refine za ?_
    refine dq (zY rfl rfl) ?_
    refine dn ?_
    refine zm ?_
    refine zl rfl (fun h3 => ?_) (fun h4 => ?_)
    ·try simp at h3
     obtain ⟨y, hy⟩ : ∃ y, o[j]? = some y := ⟨_, List.getElem?_eq_getElem h3⟩
     have hdy := zU hy
     refine zo ?_
     refine zk ?_
     refine zm ?_
     refine zu ?_
     refine za ?_
     refine dq (zZ zaD zaa rfl rfl rfl (by first | assumption | simp_all)) ?_
     refine dq (zD zaa rfl rfl rfl rfl) ?_
     refine de rfl (zac zaa rfl fun b9 => ?_)
     refine de0 (zax zaa rfl rfl rfl rfl rfl ?_)
     refine dn ?_
     refine zP (Ghost.fc0 9 rfl) ?_
     refine za ?_
     refine dq (zd zaa rfl ty9 (by decide) rfl) ?_
     refine dq (zh ty9 rfl rfl rfl) ?_
     refine dmv rfl ?_
     refine dq (zbs rfl rfl) ?_
     refine dn ?_
     refine zl rfl (fun h5 => ?_) (fun h6 => ?_)
     ·try simp at h5
      refine zB ?_
      refine dmv rfl ?_
      have hcb := znp (o.take j) x
      rw [List.length_take] at hcb
      refine dq (zC rfl rfl (by omega) (by omega)) ?_
      refine das rfl ?_
      refine dn ?_
      refine zA ?_
      refine zk ?_
      refine zB ?_
      refine dq (zC rfl rfl (by omega) (by omega)) ?_
      refine dmv rfl ?_
      refine dn ?_
      exact ⟨j + 1, ⟨by omega, trivial⟩, by dsimp only; omega, ⟨rfl, zdv (by rw [zjA o x j y hy, if_pos (by simp_all)]), trivial⟩, (by repeat (first | exact zq | refine zx rfl ?_ | refine zt rfl rfl ?_)), List.Perm.refl _⟩
     ·try simp at h6
      refine zo ?_
      refine zA ?_
      refine zk ?_
      refine zB ?_
      refine dq (zC rfl rfl (by omega) (by omega)) ?_
      refine dmv rfl ?_
      refine dn ?_
      exact ⟨j + 1, ⟨by omega, trivial⟩, by dsimp only; omega, ⟨rfl, zdv (by rw [zjA o x j y hy, if_neg (by simp_all), Int.add_zero]), trivial⟩, (by repeat (first | exact zq | refine zx rfl ?_ | refine zt rfl rfl ?_)), List.Perm.refl _⟩
    ·try simp at h4
     have hnj : o.length ≤ j := by omega
     obtain rfl : j = o.length := by omega
     rw [List.take_length]
     refine z7 ?_
     refine zag ?_
     refine zaY ?_
     refine zT ?_
     refine zk ?_
     refine za ?_
     refine dmv rfl ?_
     refine dq (zd zN rfl ty3 (by decide) rfl) ?_
     refine dq (zh ty3 rfl rfl rfl) ?_
     refine dq (zd zN rfl ty3 (by decide) rfl) ?_
     refine dq (zh ty3 rfl rfl rfl) ?_
     refine dq (zw ziU rfl (WeakL.refl _) zcd) ?_
     refine dq (zam rfl) ?_
     refine dn ?_
     refine zl rfl (fun h7 => ?_) (fun h8 => ?_)
     ·try simp at h7
      refine za ?_
      refine das rfl ?_
      refine dn ?_
      refine zp ?_
      refine zI rfl ?_
      show HVal.bool _ = _
      rw [hg]; simp_all
     ·try simp at h8
      refine zo ?_
      refine zA ?_
      refine zk ?_
      refine zB ?_
      refine dq (zC rfl rfl (by omega) (by omega)) ?_
      refine dmv rfl ?_
      refine dn ?_
      refine ⟨k + 1, ?_, ?_, ⟨rfl, trivial⟩, (by repeat (first | exact zq | refine zx rfl ?_ | refine zt rfl rfl ?_)), List.Perm.refl _⟩
      ·refine ⟨by omega, ?_⟩
       rw [hg]; simp_all
      ·dsimp only; omega
  ·try simp at h2
   have hnk : m.Teams.length ≤ k := by omega
   obtain rfl : k = m.Teams.length := by omega
   rw [zaS (Nat.le_refl _)] at hg
   refine z7 ?_
   refine zag ?_
   refine zaY ?_
   refine zT ?_
   refine zk ?_
   refine za ?_
   refine das rfl ?_
   refine dn ?_
   refine zp ?_
   refine zI rfl ?_
   show HVal.bool _ = _
   rw [hg]; simp_all

/-- benchwarmer/benchref1.OwnersFault -/
theorem zgB [Tracks] {m : MarketS} {o : List OwnerS} (ht : m.Teams.length ≤ 1000000) (ho : o.length ≤ 1000000) (hs : ∀ x ∈ o, x.Player.length ≤ 1000000) : zah Tryz.prog 45 [zaC m, zat o] (.int .i64 (zct m o)) := by
 refine Con.of_body Tryz.func45 rfl Tryz.ntmps45 rfl rfl ?_
 refine za ?_
 refine dq (zal rfl rfl) ?_
 refine das rfl ?_
 refine dn ?_
 refine zm ?_
 refine za ?_
 refine dmv rfl ?_
 refine dq (zR zaD rfl) ?_
 refine dq (zaT rfl rfl) ?_
 refine dn ?_
 refine zl rfl (fun h1 => ?_) (fun h2 => ?_)
 ·try simp at h1
  refine za ?_
  refine das rfl ?_
  refine dn ?_
  refine zp ?_
  refine zI rfl ?_
  show HVal.int .i64 _ = _
  first
  | (exact congrArg _ (zc7 (by omega)))
  | (rw [← zc4 (by omega) hg]; simp_all; done)
  | (refine congrArg _ (zbp (e := 5) (by omega) hg (by decide) ?_)
     rw [za8, if_pos]
     simp_all
     done)
  | (refine congrArg _ (zbp (e := 8) (by omega) hg (by decide) ?_)
     rw [za8, if_neg, if_pos]
     all_goals simp_all
     done)
  | (refine congrArg _ (zc3 (by omega) hg ?_ ?_ ?_)
     ·rw [za8, if_neg, if_neg] <;> simp_all
     ·simp_all
     ·simp_all)
 ·try simp at h2
  refine zo ?_
  refine zk ?_
  refine zm ?_
  refine za ?_
  refine dmv rfl ?_
  refine dq (zR zaD rfl) ?_
  refine dmv rfl ?_
  refine dn ?_
  refine zu ?_
  refine zaJ [4, 5, 6, 12, 13, 14, 15, 16, 17, 18, 19, 20, 21, 22, 23, 24, 25, 26, 27, 28, 29, 30, 31, 32, 33, 34, 35, 36, 37, 38, 39, 40, 41, 42] (fun (k : Nat) => [(12, .int .i64 k)]) (fun (k : Nat) => []) (fun (k : Nat) => k ≤ o.length ∧ (zdA m o = zaI (za8 m) zeD zbE o k (o.drop k))) (fun (k : Nat) => o.length - k) (0) ?_ ?_ ?_ ?_
  ·exact ⟨Nat.zero_le _, rfl⟩
  ·exact ⟨rfl, trivial⟩
  ·exact List.Perm.refl _
  ·intro k hinv
   obtain ⟨hk, hg⟩ := hinv
   refine za ?_
   refine dq (zY rfl rfl) ?_
   refine dn ?_
   refine zm ?_
   refine zl rfl (fun h3 => ?_) (fun h4 => ?_)
   ·try simp at h3
    obtain ⟨x, hx⟩ : ∃ x, o[k]? = some x := ⟨_, List.getElem?_eq_getElem h3⟩
    have hdx := zU hx
    rw [hdx] at hg
    refine zo ?_
    refine zk ?_
    refine zm ?_
    refine zu ?_
    refine za ?_
    refine dmv rfl ?_
    refine dq (zZ zaD zaa rfl rfl rfl (by first | assumption | simp_all)) ?_
    refine dq (zD zaa rfl rfl rfl rfl) ?_
    refine de rfl (zac zaa rfl fun b6 => ?_)
    refine das rfl ?_
    refine de0 (zax zaa rfl rfl rfl rfl rfl ?_)
    refine dn ?_
    refine zP (Ghost.fc0 6 rfl) ?_
    refine zu ?_
    refine za ?_
    refine dq (zd zaa rfl ty9 (by decide) rfl) ?_
    refine dq (zh ty9 rfl rfl rfl) ?_
    refine dq (zw zkX rfl (WeakL.refl _) (zcO (hs x (List.mem_of_getElem? hx)))) ?_
    refine dq (zam rfl) ?_
    refine das rfl ?_
    refine dn ?_
    refine zl rfl (fun h5 => ?_) (fun h6 => ?_)
    ·try simp at h5
     refine za ?_
     refine das rfl ?_
     refine dn ?_
     refine zp ?_
     refine zI rfl ?_
     show HVal.int .i64 _ = _
     first
     | (exact congrArg _ (zc7 (by omega)))
     | (rw [← zc4 (by omega) hg]; simp_all; done)
     | (refine congrArg _ (zbp (e := 5) (by omega) hg (by decide) ?_)
        rw [za8, if_pos]
        simp_all
        done)
     | (refine congrArg _ (zbp (e := 8) (by omega) hg (by decide) ?_)
        rw [za8, if_neg, if_pos]
        all_goals simp_all
        done)
     | (refine congrArg _ (zc3 (by omega) hg ?_ ?_ ?_)
        ·rw [za8, if_neg, if_neg] <;> simp_all
        ·simp_all
        ·simp_all)
    ·try simp at h6
     refine za ?_
     refine dq (zD zN rfl rfl rfl rfl) ?_
     refine dq (zd zaa rfl ty9 (by decide) rfl) ?_
     refine dq (zh ty9 rfl rfl rfl) ?_
     refine dq (zw zmt rfl (WeakL.refl _) (zcz (by first | assumption | omega | (simp; omega) | simp_all))) ?_
     refine dq (zam rfl) ?_
     refine das rfl ?_
     refine dn ?_
     refine zl rfl (fun h7 => ?_) (fun h8 => ?_)
     ·try simp at h7
      refine za ?_
      refine das rfl ?_
      refine dn ?_
      refine zp ?_
      refine zI rfl ?_
      show HVal.int .i64 _ = _
      first
      | (exact congrArg _ (zc7 (by omega)))
      | (rw [← zc4 (by omega) hg]; simp_all; done)
      | (refine congrArg _ (zbp (e := 5) (by omega) hg (by decide) ?_)
         rw [za8, if_pos]
         simp_all
         done)
      | (refine congrArg _ (zbp (e := 8) (by omega) hg (by decide) ?_)
         rw [za8, if_neg, if_pos]
         all_goals simp_all
         done)
      | (refine congrArg _ (zc3 (by omega) hg ?_ ?_ ?_)
         ·rw [za8, if_neg, if_neg] <;> simp_all
         ·simp_all
         ·simp_all)
     ·try simp at h8
      refine zar (fun _ => True) [] mixed ?_
      refine ahp 0 rfl rfl (by kernel_rfl) (by kernel_rfl) (zf rfl) ?_
      refine ahp 1 rfl rfl (by kernel_rfl) (by kernel_rfl) (zaT rfl rfl) ?_
      refine ahp 2 rfl rfl (by kernel_rfl) (by kernel_rfl) (zf rfl) ?_
      refine ahg 3 rfl rfl (by kernel_rfl) (by kernel_rfl) rfl (fun hc => ⟨_, OpenTo.refl _, zd zaa rfl ty9 (by decide) rfl⟩) ?_
      refine ahg 4 rfl rfl (by kernel_rfl) (by kernel_rfl) rfl (fun hc => ⟨_, OpenTo.upd (t := 32) rfl (by first | exact hc | simp_all) (OpenTo.refl _), zh ty9 rfl rfl rfl⟩) ?_
      refine ahg 5 rfl rfl (by kernel_rfl) (by kernel_rfl) rfl (fun hc => ⟨_, OpenTo.refl _, zf rfl⟩) ?_
      refine ahg 6 rfl rfl (by kernel_rfl) (by kernel_rfl) rfl (fun hc => ⟨_, OpenTo.refl _, zf rfl⟩) ?_
      refine ahg 7 rfl rfl (by kernel_rfl) (by kernel_rfl) rfl (fun hc => by have hq := hc; (try simp at hq); exact ⟨_, OpenTo.upd (t := 35) rfl (by first | exact hc | simp_all) (OpenTo.refl _), za5 rfl rfl (by omega) (by omega)⟩) ?_
      refine ahg 8 rfl rfl (by kernel_rfl) (by kernel_rfl) rfl (fun hc => by have hq := hc; (try simp at hq); exact ⟨_, OpenTo.upd (t := 36) rfl (by first | exact hc | simp_all) (OpenTo.upd (t := 34) rfl (by first | exact hc | simp_all) (OpenTo.refl _)), zZ (j := k - 1) (a := o.getD (k - 1) zbE) zaD zaa rfl rfl (by omega) (getD_some (by omega))⟩) ?_
      refine ahg 9 rfl rfl (by kernel_rfl) (by kernel_rfl) rfl (fun hc => ⟨_, OpenTo.upd (t := 37) rfl (by first | exact hc | simp_all) (OpenTo.refl _), zd zaa rfl ty9 (by decide) rfl⟩) ?_
      refine ahg 10 rfl rfl (by kernel_rfl) (by kernel_rfl) rfl (fun hc => ⟨_, OpenTo.upd (t := 38) rfl (by first | exact hc | simp_all) (OpenTo.refl _), zh ty9 rfl rfl rfl⟩) ?_
      refine ahg 11 rfl rfl (by kernel_rfl) (by kernel_rfl) rfl (fun hc => ⟨_, OpenTo.upd (t := 39) rfl (by first | exact hc | simp_all) (OpenTo.upd (t := 33) rfl (by first | exact hc | simp_all) (OpenTo.refl _)), zec rfl rfl⟩) ?_
      refine ahp 12 rfl rfl (by kernel_rfl) (by kernel_rfl) (zG rfl (.inr ⟨_, rfl, fun h => by simp_all⟩) (.inl rfl)) ?_
      refine ahp 13 rfl rfl (by kernel_rfl) (by kernel_rfl) (z8 rfl) ?_
      refine ahz (by kernel_rfl) ?_
      refine zl rfl (fun h9 => ?_) (fun h10 => ?_)
      ·try simp at h9
       refine za ?_
       refine das rfl ?_
       refine dn ?_
       refine zp ?_
       refine zI rfl ?_
       show HVal.int .i64 _ = _
       first
       | (exact congrArg _ (zc7 (by omega)))
       | (rw [← zc4 (by omega) hg]; simp_all; done)
       | (refine congrArg _ (zbp (e := 5) (by omega) hg (by decide) ?_)
          rw [za8, if_pos]
          simp_all
          done)
       | (refine congrArg _ (zbp (e := 8) (by omega) hg (by decide) ?_)
          rw [za8, if_neg, if_pos]
          all_goals simp_all
          done)
       | (refine congrArg _ (zc3 (by omega) hg ?_ ?_ ?_)
          ·rw [za8, if_neg, if_neg] <;> simp_all
          ·simp_all
          ·simp_all)
      ·try simp at h10
       refine zo ?_
       refine zA ?_
       refine zA ?_
       refine zk ?_
       refine zB ?_
       refine dq (zC rfl rfl (by omega) (by omega)) ?_
       refine dmv rfl ?_
       refine dn ?_
       refine ⟨k + 1, ?_, ?_, ⟨rfl, trivial⟩, (by repeat (first | exact zq | refine zx rfl ?_ | refine zt rfl rfl ?_)), List.Perm.refl _⟩
       ·refine ⟨by omega, ?_⟩
        rw [hg, zmC (by rw [za8, if_neg (by simp_all), if_neg (by simp_all)]) (by intro hk0; simp_all)]
       ·dsimp only; omega
   ·try simp at h4
    have hnk : o.length ≤ k := by omega
    obtain rfl : k = o.length := by omega
    rw [zaS (Nat.le_refl _)] at hg
    refine z7 ?_
    refine zag ?_
    refine zaY ?_
    refine zT ?_
    refine zk ?_
    refine zm ?_
    refine za ?_
    refine dq (zD zN rfl rfl rfl rfl) ?_
    refine dmv rfl ?_
    refine dq (zw ca77 rfl (WeakL.refl _) (zgz (by first | assumption | omega | (simp; omega) | simp_all) (by first | assumption | omega | (simp; omega) | simp_all))) ?_
    refine dq (zam rfl) ?_
    refine dn ?_
    refine zl rfl (fun h11 => ?_) (fun h12 => ?_)
    ·try simp at h11
     refine za ?_
     refine das rfl ?_
     refine dn ?_
     refine zp ?_
     refine zI rfl ?_
     show HVal.int .i64 _ = _
     first
     | (exact congrArg _ (zc7 (by omega)))
     | (rw [← zc4 (by omega) hg]; simp_all; done)
     | (refine congrArg _ (zbp (e := 5) (by omega) hg (by decide) ?_)
        rw [za8, if_pos]
        simp_all
        done)
     | (refine congrArg _ (zbp (e := 8) (by omega) hg (by decide) ?_)
        rw [za8, if_neg, if_pos]
        all_goals simp_all
        done)
     | (refine congrArg _ (zc3 (by omega) hg ?_ ?_ ?_)
        ·rw [za8, if_neg, if_neg] <;> simp_all
        ·simp_all
        ·simp_all)
    ·try simp at h12
     refine zo ?_
     refine zk ?_
     refine za ?_
     refine das rfl ?_
     refine dn ?_
     refine zp ?_
     refine zI rfl ?_
     show HVal.int .i64 _ = _
     first
     | (exact congrArg _ (zc7 (by omega)))
     | (rw [← zc4 (by omega) hg]; simp_all; done)
     | (refine congrArg _ (zbp (e := 5) (by omega) hg (by decide) ?_)
        rw [za8, if_pos]
        simp_all
        done)
     | (refine congrArg _ (zbp (e := 8) (by omega) hg (by decide) ?_)
        rw [za8, if_neg, if_pos]
        all_goals simp_all
        done)
     | (refine congrArg _ (zc3 (by omega) hg ?_ ?_ ?_)
        ·rw [za8, if_neg, if_neg] <;> simp_all
        ·simp_all
        ·simp_all)

/-- benchwarmer/benchref1.givesFault -/
theorem zg6 [Tracks] {m : MarketS} {l : List GiveS} (ht : m.Teams.length ≤ 1000000) (hl : l.length ≤ 1000000) (hs : ∀ x ∈ l, x.Player.length ≤ 1000000) : zah Tryz.prog 78 [zaC m, zki l] (.int .i64 (zaR m l)) := by
 refine Con.of_body Tryz.func78 rfl Tryz.ntmps78 rfl rfl ?_
 refine za ?_
 refine dq (zal rfl rfl) ?_
 refine das rfl ?_
 refine dn ?_
 refine zm ?_
 refine zu ?_
 refine za ?_
 refine dmv rfl ?_
 refine dq (zR zao rfl) ?_
 refine dq (zaj rfl rfl) ?_
 refine das rfl ?_
 refine dn ?_
 refine zl rfl (fun h1 => ?_) (fun h2 => ?_)
 ·try simp at h1
  refine za ?_
  refine das rfl ?_
  refine dn ?_
  refine zp ?_
  refine zI rfl ?_
  show HVal.int .i64 _ = _
  first
  | (rw [zaR, if_pos (by simpa using h1)]; done)
  | (rw [zaR, if_neg (by simpa using h2), if_pos (by omega)]; done)
  | (exact congrArg _ (zcS (by simpa using h2) (by omega) hg))
  | (refine congrArg _ (zaN (e := 5) (by simpa using h2) (by omega) hg (by decide) ?_)
     rw [zaH, if_pos]
     simp_all
     done)
  | (refine congrArg _ (zaN (e := 8) (by simpa using h2) (by omega) hg (by decide) ?_)
     rw [zaH, if_neg, if_pos]
     all_goals simp_all
     done)
  | (refine congrArg _ (zaN (e := 16) (by simpa using h2) (by omega) hg (by decide) ?_)
     rw [zaH, if_neg, if_neg, if_pos]
     all_goals simp_all
     done)
  | (refine congrArg _ (zcL (by simpa using h2) (by omega) hg ?_ ?_ ?_)
     ·rw [zaH, if_neg, if_neg, if_neg] <;> simp_all
     ·simp_all
     ·simp_all)
 ·try simp at h2
  refine za ?_
  refine dmv rfl ?_
  refine dq (zR zao rfl) ?_
  refine dq (zaT rfl rfl) ?_
  refine das rfl ?_
  refine dn ?_
  refine zl rfl (fun h3 => ?_) (fun h4 => ?_)
  ·try simp at h3
   refine za ?_
   refine das rfl ?_
   refine dn ?_
   refine zp ?_
   refine zI rfl ?_
   show HVal.int .i64 _ = _
   first
   | (rw [zaR, if_pos (by simpa using h1)]; done)
   | (rw [zaR, if_neg (by simpa using h2), if_pos (by omega)]; done)
   | (exact congrArg _ (zcS (by simpa using h2) (by omega) hg))
   | (refine congrArg _ (zaN (e := 5) (by simpa using h2) (by omega) hg (by decide) ?_)
      rw [zaH, if_pos]
      simp_all
      done)
   | (refine congrArg _ (zaN (e := 8) (by simpa using h2) (by omega) hg (by decide) ?_)
      rw [zaH, if_neg, if_pos]
      all_goals simp_all
      done)
   | (refine congrArg _ (zaN (e := 16) (by simpa using h2) (by omega) hg (by decide) ?_)
      rw [zaH, if_neg, if_neg, if_pos]
      all_goals simp_all
      done)
   | (refine congrArg _ (zcL (by simpa using h2) (by omega) hg ?_ ?_ ?_)
      ·rw [zaH, if_neg, if_neg, if_neg] <;> simp_all
      ·simp_all
      ·simp_all)
  ·try simp at h4
   refine zo ?_
   refine zA ?_
   refine zk ?_
   refine zm ?_
   refine za ?_
   refine dmv rfl ?_
   refine dq (zR zao rfl) ?_
   refine dmv rfl ?_
   refine dn ?_
   refine zu ?_
   refine zaJ [4, 5, 6, 17, 18, 19, 20, 21, 22, 23, 24, 25, 26, 27, 28, 29, 30, 31, 32, 33, 34, 35, 36, 37, 38, 39, 40, 41, 42, 43, 44, 45, 46, 47, 48, 49, 50, 51, 52, 53, 54, 55, 56, 57, 58, 59, 60] (fun (k : Nat) => [(17, .int .i64 k)]) (fun (k : Nat) => []) (fun (k : Nat) => k ≤ l.length ∧ (zaI (zaH m) zci zdf l 0 l = zaI (zaH m) zci zdf l k (l.drop k))) (fun (k : Nat) => l.length - k) (0) ?_ ?_ ?_ ?_
   ·exact ⟨Nat.zero_le _, rfl⟩
   ·exact ⟨rfl, trivial⟩
   ·exact List.Perm.refl _
   ·intro k hinv
    obtain ⟨hk, hg⟩ := hinv
    refine za ?_
    refine dq (zY rfl rfl) ?_
    refine dn ?_
    refine zm ?_
    refine zl rfl (fun h5 => ?_) (fun h6 => ?_)
    ·try simp at h5
     obtain ⟨x, hx⟩ : ∃ x, l[k]? = some x := ⟨_, List.getElem?_eq_getElem h5⟩
     have hdx := zU hx
     rw [hdx] at hg
     refine zo ?_
     refine zk ?_
     refine zm ?_
     refine zu ?_
     refine za ?_
     refine dmv rfl ?_
     refine dq (zZ zao zaf rfl rfl rfl (by first | assumption | simp_all)) ?_
     refine dq (zD zaf rfl rfl rfl rfl) ?_
     refine de rfl (zac zaf rfl fun b6 => ?_)
     refine das rfl ?_
     refine de0 (zax zaf rfl rfl rfl rfl rfl ?_)
     refine dn ?_
     refine zP (Ghost.fc0 6 rfl) ?_
     refine zu ?_
     refine za ?_
     refine dq (zd zaf rfl ty9 (by decide) rfl) ?_
     refine dq (zh ty9 rfl rfl rfl) ?_
     refine dq (zw zkX rfl (WeakL.refl _) (zcO (hs x (List.mem_of_getElem? hx)))) ?_
     refine dq (zam rfl) ?_
     refine das rfl ?_
     refine dn ?_
     refine zl rfl (fun h7 => ?_) (fun h8 => ?_)
     ·try simp at h7
      refine za ?_
      refine das rfl ?_
      refine dn ?_
      refine zp ?_
      refine zI rfl ?_
      show HVal.int .i64 _ = _
      first
      | (rw [zaR, if_pos (by simpa using h1)]; done)
      | (rw [zaR, if_neg (by simpa using h2), if_pos (by omega)]; done)
      | (exact congrArg _ (zcS (by simpa using h2) (by omega) hg))
      | (refine congrArg _ (zaN (e := 5) (by simpa using h2) (by omega) hg (by decide) ?_)
         rw [zaH, if_pos]
         simp_all
         done)
      | (refine congrArg _ (zaN (e := 8) (by simpa using h2) (by omega) hg (by decide) ?_)
         rw [zaH, if_neg, if_pos]
         all_goals simp_all
         done)
      | (refine congrArg _ (zaN (e := 16) (by simpa using h2) (by omega) hg (by decide) ?_)
         rw [zaH, if_neg, if_neg, if_pos]
         all_goals simp_all
         done)
      | (refine congrArg _ (zcL (by simpa using h2) (by omega) hg ?_ ?_ ?_)
         ·rw [zaH, if_neg, if_neg, if_neg] <;> simp_all
         ·simp_all
         ·simp_all)
     ·try simp at h8
      refine za ?_
      refine dq (zD zN rfl rfl rfl rfl) ?_
      refine dq (zd zaf rfl ty9 (by decide) rfl) ?_
      refine dq (zh ty9 rfl rfl rfl) ?_
      refine dq (zw zmt rfl (WeakL.refl _) (zcz (by first | assumption | omega | (simp; omega) | simp_all))) ?_
      refine dq (zam rfl) ?_
      refine dmv rfl ?_
      refine dg rfl rfl (fun hc => ⟨_, OpenTo.refl _, zD zN rfl rfl rfl rfl⟩) ?_
      refine dg rfl rfl (fun hc => ⟨_, OpenTo.refl _, zd zaf rfl ty9 (by decide) rfl⟩) ?_
      refine dg rfl rfl (fun hc => ⟨_, OpenTo.upd (t := 35) rfl (by first | exact hc | simp_all) (OpenTo.refl _), zh ty9 rfl rfl rfl⟩) ?_
      refine dg rfl rfl (fun hc => by have hq := hc; (try simp at hq); exact ⟨_, OpenTo.upd (t := 36) rfl (by first | exact hc | simp_all) (OpenTo.upd (t := 34) rfl (by first | exact hc | simp_all) (OpenTo.refl _)), zw zmt rfl (WeakL.refl _) (zcz (by first | assumption | omega | (simp; omega) | simp_all))⟩) ?_
      refine dg rfl rfl (fun hc => ⟨_, OpenTo.upd (t := 37) rfl (by first | exact hc | simp_all) (OpenTo.refl _), zam rfl⟩) ?_
      refine dq (zG rfl (.inl rfl) (.inr ⟨_, rfl, fun h => by simp_all⟩)) ?_
      refine das rfl ?_
      refine dn ?_
      refine zl rfl (fun h9 => ?_) (fun h10 => ?_)
      ·try simp at h9
       refine za ?_
       refine das rfl ?_
       refine dn ?_
       refine zp ?_
       refine zI rfl ?_
       show HVal.int .i64 _ = _
       first
       | (rw [zaR, if_pos (by simpa using h1)]; done)
       | (rw [zaR, if_neg (by simpa using h2), if_pos (by omega)]; done)
       | (exact congrArg _ (zcS (by simpa using h2) (by omega) hg))
       | (refine congrArg _ (zaN (e := 5) (by simpa using h2) (by omega) hg (by decide) ?_)
          rw [zaH, if_pos]
          simp_all
          done)
       | (refine congrArg _ (zaN (e := 8) (by simpa using h2) (by omega) hg (by decide) ?_)
          rw [zaH, if_neg, if_pos]
          all_goals simp_all
          done)
       | (refine congrArg _ (zaN (e := 16) (by simpa using h2) (by omega) hg (by decide) ?_)
          rw [zaH, if_neg, if_neg, if_pos]
          all_goals simp_all
          done)
       | (refine congrArg _ (zcL (by simpa using h2) (by omega) hg ?_ ?_ ?_)
          ·rw [zaH, if_neg, if_neg, if_neg] <;> simp_all
          ·simp_all
          ·simp_all)
      ·try simp at h10
       refine za ?_
       refine dq (zd zaf rfl ty9 (by decide) rfl) ?_
       refine dq (zh ty9 rfl rfl rfl) ?_
       refine dq (zd zaf rfl ty9 (by decide) rfl) ?_
       refine dq (zh ty9 rfl rfl rfl) ?_
       refine dq (zbs rfl rfl) ?_
       refine das rfl ?_
       refine dn ?_
       refine zl rfl (fun h11 => ?_) (fun h12 => ?_)
       ·try simp at h11
        refine za ?_
        refine das rfl ?_
        refine dn ?_
        refine zp ?_
        refine zI rfl ?_
        show HVal.int .i64 _ = _
        first
        | (rw [zaR, if_pos (by simpa using h1)]; done)
        | (rw [zaR, if_neg (by simpa using h2), if_pos (by omega)]; done)
        | (exact congrArg _ (zcS (by simpa using h2) (by omega) hg))
        | (refine congrArg _ (zaN (e := 5) (by simpa using h2) (by omega) hg (by decide) ?_)
           rw [zaH, if_pos]
           simp_all
           done)
        | (refine congrArg _ (zaN (e := 8) (by simpa using h2) (by omega) hg (by decide) ?_)
           rw [zaH, if_neg, if_pos]
           all_goals simp_all
           done)
        | (refine congrArg _ (zaN (e := 16) (by simpa using h2) (by omega) hg (by decide) ?_)
           rw [zaH, if_neg, if_neg, if_pos]
           all_goals simp_all
           done)
        | (refine congrArg _ (zcL (by simpa using h2) (by omega) hg ?_ ?_ ?_)
           ·rw [zaH, if_neg, if_neg, if_neg] <;> simp_all
           ·simp_all
           ·simp_all)
       ·try simp at h12
        refine zar (fun _ => True) [] mixed ?_
        refine ahp 0 rfl rfl (by kernel_rfl) (by kernel_rfl) (zf rfl) ?_
        refine ahp 1 rfl rfl (by kernel_rfl) (by kernel_rfl) (zaT rfl rfl) ?_
        refine ahp 2 rfl rfl (by kernel_rfl) (by kernel_rfl) (zf rfl) ?_
        refine ahg 3 rfl rfl (by kernel_rfl) (by kernel_rfl) rfl (fun hc => ⟨_, OpenTo.refl _, zd zaf rfl ty9 (by decide) rfl⟩) ?_
        refine ahg 4 rfl rfl (by kernel_rfl) (by kernel_rfl) rfl (fun hc => ⟨_, OpenTo.upd (t := 50) rfl (by first | exact hc | simp_all) (OpenTo.refl _), zh ty9 rfl rfl rfl⟩) ?_
        refine ahg 5 rfl rfl (by kernel_rfl) (by kernel_rfl) rfl (fun hc => ⟨_, OpenTo.refl _, zf rfl⟩) ?_
        refine ahg 6 rfl rfl (by kernel_rfl) (by kernel_rfl) rfl (fun hc => ⟨_, OpenTo.refl _, zf rfl⟩) ?_
        refine ahg 7 rfl rfl (by kernel_rfl) (by kernel_rfl) rfl (fun hc => by have hq := hc; (try simp at hq); exact ⟨_, OpenTo.upd (t := 53) rfl (by first | exact hc | simp_all) (OpenTo.refl _), za5 rfl rfl (by omega) (by omega)⟩) ?_
        refine ahg 8 rfl rfl (by kernel_rfl) (by kernel_rfl) rfl (fun hc => by have hq := hc; (try simp at hq); exact ⟨_, OpenTo.upd (t := 54) rfl (by first | exact hc | simp_all) (OpenTo.upd (t := 52) rfl (by first | exact hc | simp_all) (OpenTo.refl _)), zZ (j := k - 1) (a := l.getD (k - 1) zdf) zao zaf rfl rfl (by omega) (getD_some (by omega))⟩) ?_
        refine ahg 9 rfl rfl (by kernel_rfl) (by kernel_rfl) rfl (fun hc => ⟨_, OpenTo.upd (t := 55) rfl (by first | exact hc | simp_all) (OpenTo.refl _), zd zaf rfl ty9 (by decide) rfl⟩) ?_
        refine ahg 10 rfl rfl (by kernel_rfl) (by kernel_rfl) rfl (fun hc => ⟨_, OpenTo.upd (t := 56) rfl (by first | exact hc | simp_all) (OpenTo.refl _), zh ty9 rfl rfl rfl⟩) ?_
        refine ahg 11 rfl rfl (by kernel_rfl) (by kernel_rfl) rfl (fun hc => ⟨_, OpenTo.upd (t := 57) rfl (by first | exact hc | simp_all) (OpenTo.upd (t := 51) rfl (by first | exact hc | simp_all) (OpenTo.refl _)), zec rfl rfl⟩) ?_
        refine ahp 12 rfl rfl (by kernel_rfl) (by kernel_rfl) (zG rfl (.inr ⟨_, rfl, fun h => by simp_all⟩) (.inl rfl)) ?_
        refine ahp 13 rfl rfl (by kernel_rfl) (by kernel_rfl) (z8 rfl) ?_
        refine ahz (by kernel_rfl) ?_
        refine zl rfl (fun h13 => ?_) (fun h14 => ?_)
        ·try simp at h13
         refine za ?_
         refine das rfl ?_
         refine dn ?_
         refine zp ?_
         refine zI rfl ?_
         show HVal.int .i64 _ = _
         first
         | (rw [zaR, if_pos (by simpa using h1)]; done)
         | (rw [zaR, if_neg (by simpa using h2), if_pos (by omega)]; done)
         | (exact congrArg _ (zcS (by simpa using h2) (by omega) hg))
         | (refine congrArg _ (zaN (e := 5) (by simpa using h2) (by omega) hg (by decide) ?_)
            rw [zaH, if_pos]
            simp_all
            done)
         | (refine congrArg _ (zaN (e := 8) (by simpa using h2) (by omega) hg (by decide) ?_)
            rw [zaH, if_neg, if_pos]
            all_goals simp_all
            done)
         | (refine congrArg _ (zaN (e := 16) (by simpa using h2) (by omega) hg (by decide) ?_)
            rw [zaH, if_neg, if_neg, if_pos]
            all_goals simp_all
            done)
         | (refine congrArg _ (zcL (by simpa using h2) (by omega) hg ?_ ?_ ?_)
            ·rw [zaH, if_neg, if_neg, if_neg] <;> simp_all
            ·simp_all
            ·simp_all)
        ·try simp at h14
         refine zo ?_
         refine zA ?_
         refine zA ?_
         refine zk ?_
         refine zB ?_
         refine dq (zC rfl rfl (by omega) (by omega)) ?_
         refine dmv rfl ?_
         refine dn ?_
         refine ⟨k + 1, ?_, ?_, ⟨rfl, trivial⟩, (by repeat (first | exact zq | refine zx rfl ?_ | refine zt rfl rfl ?_)), List.Perm.refl _⟩
         ·refine ⟨by omega, ?_⟩
          rw [hg, zl5 (by rw [zaH, if_neg (by simp_all), if_neg (by simp_all), if_neg (by simp_all)]) (by intro hk0; simp_all)]
         ·dsimp only; omega
    ·try simp at h6
     have hnk : l.length ≤ k := by omega
     obtain rfl : k = l.length := by omega
     rw [zaS (Nat.le_refl _)] at hg
     refine z7 ?_
     refine zag ?_
     refine zaY ?_
     refine zT ?_
     refine zk ?_
     refine za ?_
     refine das rfl ?_
     refine dn ?_
     refine zp ?_
     refine zI rfl ?_
     show HVal.int .i64 _ = _
     first
     | (rw [zaR, if_pos (by simpa using h1)]; done)
     | (rw [zaR, if_neg (by simpa using h2), if_pos (by omega)]; done)
     | (exact congrArg _ (zcS (by simpa using h2) (by omega) hg))
     | (refine congrArg _ (zaN (e := 5) (by simpa using h2) (by omega) hg (by decide) ?_)
        rw [zaH, if_pos]
        simp_all
        done)
     | (refine congrArg _ (zaN (e := 8) (by simpa using h2) (by omega) hg (by decide) ?_)
        rw [zaH, if_neg, if_pos]
        all_goals simp_all
        done)
     | (refine congrArg _ (zaN (e := 16) (by simpa using h2) (by omega) hg (by decide) ?_)
        rw [zaH, if_neg, if_neg, if_pos]
        all_goals simp_all
        done)
     | (refine congrArg _ (zcL (by simpa using h2) (by omega) hg ?_ ?_ ?_)
        ·rw [zaH, if_neg, if_neg, if_neg] <;> simp_all
        ·simp_all
        ·simp_all)

/-- benchwarmer/benchref1.concerned -/
theorem zcR [Tracks] {x : DealS} (hx : x.Gives.length ≤ 1000) : zah Tryz.prog 59 [zdr x] (eSs (zaV x.Gives)) := by
 refine Con.of_body Tryz.func59 rfl Tryz.ntmps59 rfl rfl ?_
 refine za ?_
 refine dq (zal rfl rfl) ?_
 refine das rfl ?_
 refine dn ?_
 refine za ?_
 refine das rfl ?_
 refine dn ?_
 refine zP (Ghost.arr_nil 1) ?_
 refine zm ?_
 refine za ?_
 refine dq ((by first | exact zd zJ rfl zao (by decide) rfl | exact zb zJ rfl zao (by decide) rfl)) ?_
 refine dq (zh zao rfl rfl rfl) ?_
 refine dq (zR zao rfl) ?_
 refine dmv rfl ?_
 refine dn ?_
 refine zu ?_
 refine zaZ [3, 5, 9, 10, 11, 12, 13, 14, 15, 16, 17, 18, 19, 20] (fun (k : Nat) (u : Value) => [(9, .int .i64 k), (3, .raw u)]) (fun (k : Nat) (u : Value) => [.arr u 1 ((zcX (x.Gives.take k)).map .str)]) (fun (k : Nat) (u : Value) => k ≤ x.Gives.length ∧ (True)) (fun (k : Nat) (u : Value) => x.Gives.length - k) (0) (.slice none 0 0) ?_ ?_ ?_ ?_
 ·exact ⟨Nat.zero_le _, trivial⟩
 ·exact ⟨rfl, rfl, trivial⟩
 ·exact zO (by simp [zcX])
 ·intro k u hinv
  obtain ⟨hk, -⟩ := hinv
  refine za ?_
  refine dq (zY rfl rfl) ?_
  refine dn ?_
  refine zm ?_
  refine zl rfl (fun h1 => ?_) (fun h2 => ?_)
  ·try simp at h1
   obtain ⟨g, hg⟩ : ∃ g, x.Gives[k]? = some g := ⟨_, List.getElem?_eq_getElem h1⟩
   have hdg := zU hg
   refine zo ?_
   refine zk ?_
   refine zm ?_
   refine zu ?_
   refine za ?_
   refine dq (zZ zao zaf rfl rfl rfl (by first | assumption | simp_all)) ?_
   refine dq (zD zaf rfl rfl rfl rfl) ?_
   refine de rfl (zac zaf rfl fun b5 => ?_)
   refine de0 (zax zaf rfl rfl rfl rfl rfl ?_)
   refine dn ?_
   refine zP (Ghost.fc0 5 rfl) ?_
   refine zB ?_
   refine dmv rfl ?_
   refine dq ((by first | exact zd zaf rfl ty9 (by decide) rfl | exact zb zaf rfl ty9 (by decide) rfl)) ?_
   refine dq (zh ty9 rfl rfl rfl) ?_
   refine dq ((by first | exact zd zaf rfl ty9 (by decide) rfl | exact zb zaf rfl ty9 (by decide) rfl)) ?_
   refine dq (zh ty9 rfl rfl rfl) ?_
   refine dq (zE (hs := [_, _]) zQ ty9 rfl rfl (by decide) (by decide) rfl) ?_
   refine de rfl (zay (i := 0) zQ ty9 rfl rfl rfl rfl rfl (by simp [zbi, zj]) (by have := zeo (x.Gives.take k); simp only [List.length_map, List.length_cons, List.length_nil, List.length_take] at *; omega) fun v19 => ?_)
   refine das rfl ?_
   refine dn ?_
   refine zA ?_
   refine zk ?_
   refine zB ?_
   refine dq (zC rfl rfl (by omega) (by omega)) ?_
   refine dmv rfl ?_
   refine dn ?_
   exact ⟨k + 1, v19, ⟨by omega, trivial⟩, by dsimp only; omega, ⟨rfl, rfl, trivial⟩, (by repeat (first | exact zq | refine zx rfl ?_ | refine zt rfl rfl ?_)), zO (by dsimp only; rw [zjs hg]; simp)⟩
  ·try simp at h2
   have hnk : x.Gives.length ≤ k := by omega
   obtain rfl : k = x.Gives.length := by omega
   rw [List.take_length]
   refine z7 ?_
   refine zag ?_
   refine zbc ?_
   refine zT ?_
   refine zk ?_
   refine zP (Ghost.fa 3 (i := 0) rfl rfl) ?_
   refine za ?_
   refine dmv rfl ?_
   refine de rfl (zef ca96 rfl (WeakL.refl _) (zju (l := zcX x.Gives) (by rw [zeo]; omega)) fun v22 => ?_)
   refine das rfl ?_
   refine dn ?_
   refine zp ?_
   exact zoF (M := []) 2 rfl rfl rfl

/-- benchwarmer/benchref1.OffersFault -/
theorem zgD [Tracks] {m : MarketS} {l : List DealS} (ht : m.Teams.length ≤ 1000000) (hl : l.length ≤ 1000000) (hx : ∀ x ∈ l, x.Id.length ≤ 1000000 ∧ x.Gives.length ≤ 1000000 ∧ ∀ g ∈ x.Gives, g.Player.length ≤ 1000000) : zah Tryz.prog 46 [zaC m, zcA l] (.int .i64 (zck m l)) := by
 refine Con.of_body Tryz.func46 rfl Tryz.ntmps46 rfl rfl ?_
 refine za ?_
 refine dq (zal rfl rfl) ?_
 refine das rfl ?_
 refine dn ?_
 refine zm ?_
 refine za ?_
 refine dmv rfl ?_
 refine dq (zR zbv rfl) ?_
 refine dq (zaT rfl rfl) ?_
 refine dn ?_
 refine zl rfl (fun h1 => ?_) (fun h2 => ?_)
 ·try simp at h1
  refine za ?_
  refine das rfl ?_
  refine dn ?_
  refine zp ?_
  refine zI rfl ?_
  show HVal.int .i64 _ = _
  first
  | (exact congrArg _ (zcB (by omega)))
  | (exact congrArg _ (zcD (by omega) hg))
  | (refine congrArg _ (zby (by omega) hg (by decide) ?_)
     rw [zaU]; simp_all
     done)
  | (refine congrArg _ (zby (by omega) hg ?_ ?_)
     ·simp_all
     ·rw [zaU]; simp_all
     done)
  | (refine congrArg _ (zcH (by omega) hg ?_ ?_ ?_)
     ·rw [zaU]; simp_all
     ·simp_all
     ·simp_all)
 ·try simp at h2
  refine zo ?_
  refine zk ?_
  refine zm ?_
  refine za ?_
  refine dmv rfl ?_
  refine dq (zR zbv rfl) ?_
  refine dmv rfl ?_
  refine dn ?_
  refine zu ?_
  refine zaJ (4 :: 5 :: 6 :: 7 :: 8 :: 14 :: 15 :: 16 :: 17 :: 18 :: 19 :: 20 :: 21 :: 22 :: 23 :: 24 :: 25 :: 26 :: 27 :: 28 :: 29 :: 30 :: 31 :: 32 :: 33 :: 34 :: 35 :: 36 :: 37 :: 38 :: 39 :: 40 :: 41 :: 42 :: 43 :: 44 :: 45 :: 46 :: 47 :: 48 :: 49 :: 50 :: 51 :: 52 :: 53 :: 54 :: 55 :: 56 :: 57 :: 58 :: 59 :: 60 :: 61 :: 62 :: 63 :: 64 :: 65 :: 66 :: 67 :: 68 :: 69 :: 70 :: 71 :: 72 :: 73 :: 74 :: 75 :: 76 :: []) (fun (k : Nat) => [(14, .int .i64 k)]) (fun (k : Nat) => []) (fun (k : Nat) => k ≤ l.length ∧ (zaI (zaU m) zcY zcu l 0 l = zaI (zaU m) zcY zcu l k (l.drop k))) (fun (k : Nat) => l.length - k) (0) ?_ ?_ ?_ ?_
  ·exact ⟨Nat.zero_le _, rfl⟩
  ·exact ⟨rfl, trivial⟩
  ·exact List.Perm.refl _
  ·intro k hinv
   obtain ⟨hk, hg⟩ := hinv
   refine za ?_
   refine dq (zY rfl rfl) ?_
   refine dn ?_
   refine zm ?_
   refine zl rfl (fun h3 => ?_) (fun h4 => ?_)
   ·try simp at h3
    obtain ⟨y, hy⟩ : ∃ y, l[k]? = some y := ⟨_, List.getElem?_eq_getElem h3⟩
    have hdy := zU hy
    rw [hdy] at hg
    refine zo ?_
    refine zk ?_
    refine zm ?_
    refine zu ?_
    refine za ?_
    refine dmv rfl ?_
    refine dq (zZ zbv zJ rfl rfl rfl (by first | assumption | simp_all)) ?_
    refine dq (zD zJ rfl rfl rfl rfl) ?_
    refine de rfl (zac zJ rfl fun b6 => ?_)
    refine das rfl ?_
    refine de0 (zax zJ rfl rfl rfl rfl rfl ?_)
    refine dn ?_
    refine zP (Ghost.fc0 6 rfl) ?_
    refine za ?_
    refine dq (zd zJ rfl zbn (by decide) rfl) ?_
    refine dq (zfO (h' := .agg [.int .i64 y.From, .int .i64 y.To]) (zlF zbn rfl rfl (Nat.le_of_ble_eq_true rfl)) rfl) ?_
    refine de rfl (zac zbn rfl fun b7 => ?_)
    refine de0 (zax zbn rfl rfl rfl rfl rfl ?_)
    refine dn ?_
    refine zP (Ghost.fc0 7 rfl) ?_
    refine zm ?_
    refine zu ?_
    refine za ?_
    refine dq (zd zJ rfl ty9 (by decide) rfl) ?_
    refine dq (zh ty9 rfl rfl rfl) ?_
    refine dq (zw zkX rfl (WeakL.refl _) (zcO (hx y (List.mem_of_getElem? hy)).1)) ?_
    refine dq (zam rfl) ?_
    refine das rfl ?_
    refine dn ?_
    refine zl rfl (fun h5 => ?_) (fun h6 => ?_)
    ·try simp at h5
     refine za ?_
     refine das rfl ?_
     refine dn ?_
     refine zp ?_
     refine zI rfl ?_
     show HVal.int .i64 _ = _
     first
     | (exact congrArg _ (zcB (by omega)))
     | (exact congrArg _ (zcD (by omega) hg))
     | (refine congrArg _ (zby (by omega) hg (by decide) ?_)
        rw [zaU]; simp_all
        done)
     | (refine congrArg _ (zby (by omega) hg ?_ ?_)
        ·simp_all
        ·rw [zaU]; simp_all
        done)
     | (refine congrArg _ (zcH (by omega) hg ?_ ?_ ?_)
        ·rw [zaU]; simp_all
        ·simp_all
        ·simp_all)
    ·try simp at h6
     refine za ?_
     refine dq (zD zN rfl rfl rfl rfl) ?_
     refine dq (zd zJ rfl ty9 (by decide) rfl) ?_
     refine dq (zh ty9 rfl rfl rfl) ?_
     refine dq (zw zmt rfl (WeakL.refl _) (zcz (by first | assumption | omega | (simp; omega) | simp_all))) ?_
     refine dq (zam rfl) ?_
     refine das rfl ?_
     refine dn ?_
     refine zl rfl (fun h7 => ?_) (fun h8 => ?_)
     ·try simp at h7
      refine za ?_
      refine das rfl ?_
      refine dn ?_
      refine zp ?_
      refine zI rfl ?_
      show HVal.int .i64 _ = _
      first
      | (exact congrArg _ (zcB (by omega)))
      | (exact congrArg _ (zcD (by omega) hg))
      | (refine congrArg _ (zby (by omega) hg (by decide) ?_)
         rw [zaU]; simp_all
         done)
      | (refine congrArg _ (zby (by omega) hg ?_ ?_)
         ·simp_all
         ·rw [zaU]; simp_all
         done)
      | (refine congrArg _ (zcH (by omega) hg ?_ ?_ ?_)
         ·rw [zaU]; simp_all
         ·simp_all
         ·simp_all)
     ·try simp at h8
      refine za ?_
      refine dq (zd zbn rfl ty3 (by decide) rfl) ?_
      refine dq (zh ty3 rfl rfl rfl) ?_
      refine dq (zY rfl rfl) ?_
      refine dmv rfl ?_
      refine dg rfl rfl (fun hc => ⟨_, OpenTo.refl _, zd zbn rfl ty3 (by decide) rfl⟩) ?_
      refine dg rfl rfl (fun hc => ⟨_, OpenTo.upd (t := 37) rfl (by first | exact hc | simp_all) (OpenTo.refl _), zh ty3 rfl rfl rfl⟩) ?_
      refine dg rfl rfl (fun hc => ⟨_, OpenTo.refl _, zd zbn rfl ty3 (by decide) rfl⟩) ?_
      refine dg rfl rfl (fun hc => ⟨_, OpenTo.upd (t := 39) rfl (by first | exact hc | simp_all) (OpenTo.refl _), zh ty3 rfl rfl rfl⟩) ?_
      refine dg rfl rfl (fun hc => ⟨_, OpenTo.upd (t := 40) rfl (by first | exact hc | simp_all) (OpenTo.upd (t := 38) rfl (by first | exact hc | simp_all) (OpenTo.refl _)), zbG rfl rfl⟩) ?_
      refine dq (zG rfl (.inl rfl) (.inr ⟨_, rfl, fun h => by simp_all⟩)) ?_
      refine dmv rfl ?_
      refine dg rfl rfl (fun hc => ⟨_, OpenTo.refl _, zd zbn rfl ty3 (by decide) rfl⟩) ?_
      refine dg rfl rfl (fun hc => ⟨_, OpenTo.upd (t := 44) rfl (by first | exact hc | simp_all) (OpenTo.refl _), zh ty3 rfl rfl rfl⟩) ?_
      refine dg rfl rfl (fun hc => ⟨_, OpenTo.upd (t := 45) rfl (by first | exact hc | simp_all) (OpenTo.refl _), zaT rfl rfl⟩) ?_
      refine dq (zG rfl (.inl rfl) (.inr ⟨_, rfl, fun h => by simp_all⟩)) ?_
      refine das rfl ?_
      refine dn ?_
      refine zl rfl (fun h9 => ?_) (fun h10 => ?_)
      ·try simp at h9
       have hw := zpH h9
       refine za ?_
       refine das rfl ?_
       refine dn ?_
       refine zp ?_
       refine zI rfl ?_
       show HVal.int .i64 _ = _
       first
       | (exact congrArg _ (zcB (by omega)))
       | (exact congrArg _ (zcD (by omega) hg))
       | (refine congrArg _ (zby (by omega) hg (by decide) ?_)
          rw [zaU]; simp_all
          done)
       | (refine congrArg _ (zby (by omega) hg ?_ ?_)
          ·simp_all
          ·rw [zaU]; simp_all
          done)
       | (refine congrArg _ (zcH (by omega) hg ?_ ?_ ?_)
          ·rw [zaU]; simp_all
          ·simp_all
          ·simp_all)
      ·try simp at h10
       refine zo ?_
       refine zA ?_
       refine zk ?_
       refine zm ?_
       obtain ⟨hw1, hw2⟩ := zpY h10
       refine za ?_
       refine dq (zD zN rfl rfl rfl rfl) ?_
       refine dq (zd zJ rfl zao (by decide) rfl) ?_
       refine dq (zh zao rfl rfl rfl) ?_
       refine dq (zw ca78 rfl (WeakL.refl _) (zg6 (l := y.Gives) ht (hx y (List.mem_of_getElem? hy)).2.1 (hx y (List.mem_of_getElem? hy)).2.2)) ?_
       refine das rfl ?_
       refine dn ?_
       refine za ?_
       refine dmv rfl ?_
       refine dq (zbq rfl rfl) ?_
       refine dn ?_
       refine zl rfl (fun h11 => ?_) (fun h12 => ?_)
       ·try simp at h11
        refine za ?_
        refine dmv rfl ?_
        refine das rfl ?_
        refine dn ?_
        refine zp ?_
        refine zI rfl ?_
        show HVal.int .i64 _ = _
        first
        | (exact congrArg _ (zcB (by omega)))
        | (exact congrArg _ (zcD (by omega) hg))
        | (refine congrArg _ (zby (by omega) hg (by decide) ?_)
           rw [zaU]; simp_all
           done)
        | (refine congrArg _ (zby (by omega) hg ?_ ?_)
           ·simp_all
           ·rw [zaU]; simp_all
           done)
        | (refine congrArg _ (zcH (by omega) hg ?_ ?_ ?_)
           ·rw [zaU]; simp_all
           ·simp_all
           ·simp_all)
       ·try simp at h12
        refine zo ?_
        refine zk ?_
        refine zu ?_
        obtain ⟨hgo1, hgo2, _⟩ := zdJ (m := m) (l := y.Gives) (by simp_all)
        refine zar (fun _ => True) [] mixed ?_
        refine ahp 0 rfl rfl (by kernel_rfl) (by kernel_rfl) (zD zJ rfl rfl rfl rfl) ?_
        refine ahp 1 rfl rfl (by kernel_rfl) (by kernel_rfl) (zw zn1 rfl (WeakL.refl _) (zcR (by first | assumption | omega | (simp; omega) | simp_all))) ?_
        refine ahp 2 rfl rfl (by kernel_rfl) (by kernel_rfl) (zd zJ rfl ty9 (by decide) rfl) ?_
        refine ahp 3 rfl rfl (by kernel_rfl) (by kernel_rfl) (zh ty9 rfl rfl rfl) ?_
        refine ahp 4 rfl rfl (by kernel_rfl) (by kernel_rfl) (zw zgm rfl (WeakL.refl _) (zaw (l := zaV y.Gives) (s := y.By) (by have := zdn y.Gives; omega))) ?_
        refine ahp 5 rfl rfl (by kernel_rfl) (by kernel_rfl) (zam rfl) ?_
        refine ahp 6 rfl rfl (by kernel_rfl) (by kernel_rfl) (z8 rfl) ?_
        refine ahz (by kernel_rfl) ?_
        refine zl rfl (fun h13 => ?_) (fun h14 => ?_)
        ·try simp at h13
         refine za ?_
         refine das rfl ?_
         refine dn ?_
         refine zp ?_
         refine zI rfl ?_
         show HVal.int .i64 _ = _
         first
         | (exact congrArg _ (zcB (by omega)))
         | (exact congrArg _ (zcD (by omega) hg))
         | (refine congrArg _ (zby (by omega) hg (by decide) ?_)
            rw [zaU]; simp_all
            done)
         | (refine congrArg _ (zby (by omega) hg ?_ ?_)
            ·simp_all
            ·rw [zaU]; simp_all
            done)
         | (refine congrArg _ (zcH (by omega) hg ?_ ?_ ?_)
            ·rw [zaU]; simp_all
            ·simp_all
            ·simp_all)
        ·try simp at h14
         refine zar (fun _ => True) [] mixed ?_
         refine ahp 0 rfl rfl (by kernel_rfl) (by kernel_rfl) (zf rfl) ?_
         refine ahp 1 rfl rfl (by kernel_rfl) (by kernel_rfl) (zaT rfl rfl) ?_
         refine ahp 2 rfl rfl (by kernel_rfl) (by kernel_rfl) (zf rfl) ?_
         refine ahg 3 rfl rfl (by kernel_rfl) (by kernel_rfl) rfl (fun hc => ⟨_, OpenTo.refl _, zd zJ rfl ty9 (by decide) rfl⟩) ?_
         refine ahg 4 rfl rfl (by kernel_rfl) (by kernel_rfl) rfl (fun hc => ⟨_, OpenTo.upd (t := 66) rfl (by first | exact hc | simp_all) (OpenTo.refl _), zh ty9 rfl rfl rfl⟩) ?_
         refine ahg 5 rfl rfl (by kernel_rfl) (by kernel_rfl) rfl (fun hc => ⟨_, OpenTo.refl _, zf rfl⟩) ?_
         refine ahg 6 rfl rfl (by kernel_rfl) (by kernel_rfl) rfl (fun hc => ⟨_, OpenTo.refl _, zf rfl⟩) ?_
         refine ahg 7 rfl rfl (by kernel_rfl) (by kernel_rfl) rfl (fun hc => by have hq := hc; (try simp at hq); exact ⟨_, OpenTo.upd (t := 69) rfl (by first | exact hc | simp_all) (OpenTo.refl _), za5 rfl rfl (by omega) (by omega)⟩) ?_
         refine ahg 8 rfl rfl (by kernel_rfl) (by kernel_rfl) rfl (fun hc => by have hq := hc; (try simp at hq); exact ⟨_, OpenTo.upd (t := 70) rfl (by first | exact hc | simp_all) (OpenTo.upd (t := 68) rfl (by first | exact hc | simp_all) (OpenTo.refl _)), zZ (j := k - 1) (a := l.getD (k - 1) zcu) zbv zJ rfl rfl (by omega) (getD_some (by omega))⟩) ?_
         refine ahg 9 rfl rfl (by kernel_rfl) (by kernel_rfl) rfl (fun hc => ⟨_, OpenTo.upd (t := 71) rfl (by first | exact hc | simp_all) (OpenTo.refl _), zd zJ rfl ty9 (by decide) rfl⟩) ?_
         refine ahg 10 rfl rfl (by kernel_rfl) (by kernel_rfl) rfl (fun hc => ⟨_, OpenTo.upd (t := 72) rfl (by first | exact hc | simp_all) (OpenTo.refl _), zh ty9 rfl rfl rfl⟩) ?_
         refine ahg 11 rfl rfl (by kernel_rfl) (by kernel_rfl) rfl (fun hc => ⟨_, OpenTo.upd (t := 73) rfl (by first | exact hc | simp_all) (OpenTo.upd (t := 67) rfl (by first | exact hc | simp_all) (OpenTo.refl _)), zec rfl rfl⟩) ?_
         refine ahp 12 rfl rfl (by kernel_rfl) (by kernel_rfl) (zG rfl (.inr ⟨_, rfl, fun h => by simp_all⟩) (.inl rfl)) ?_
         refine ahp 13 rfl rfl (by kernel_rfl) (by kernel_rfl) (z8 rfl) ?_
         refine ahz (by kernel_rfl) ?_
         refine zl rfl (fun h15 => ?_) (fun h16 => ?_)
         ·try simp at h15
          refine za ?_
          refine das rfl ?_
          refine dn ?_
          refine zp ?_
          refine zI rfl ?_
          show HVal.int .i64 _ = _
          first
          | (exact congrArg _ (zcB (by omega)))
          | (exact congrArg _ (zcD (by omega) hg))
          | (refine congrArg _ (zby (by omega) hg (by decide) ?_)
             rw [zaU]; simp_all
             done)
          | (refine congrArg _ (zby (by omega) hg ?_ ?_)
             ·simp_all
             ·rw [zaU]; simp_all
             done)
          | (refine congrArg _ (zcH (by omega) hg ?_ ?_ ?_)
             ·rw [zaU]; simp_all
             ·simp_all
             ·simp_all)
         ·try simp at h16
          refine zo ?_
          refine zA ?_
          refine zA ?_
          refine zk ?_
          refine zB ?_
          refine dq (zC rfl rfl (by omega) (by omega)) ?_
          refine dmv rfl ?_
          refine dn ?_
          refine ⟨k + 1, ?_, ?_, ⟨rfl, trivial⟩, (by repeat (first | exact zq | refine zx rfl ?_ | refine zt rfl rfl ?_)), List.Perm.refl _⟩
          ·refine ⟨by omega, ?_⟩
           rw [hg, zlC ?_ (by intro hk0; simp_all)]
           rw [zaU]; simp_all
          ·dsimp only; omega
   ·try simp at h4
    have hnk : l.length ≤ k := by omega
    obtain rfl : k = l.length := by omega
    rw [zaS (Nat.le_refl _)] at hg
    refine z7 ?_
    refine zag ?_
    refine zaY ?_
    refine zT ?_
    refine zk ?_
    refine za ?_
    refine das rfl ?_
    refine dn ?_
    refine zp ?_
    refine zI rfl ?_
    show HVal.int .i64 _ = _
    first
    | (exact congrArg _ (zcB (by omega)))
    | (exact congrArg _ (zcD (by omega) hg))
    | (refine congrArg _ (zby (by omega) hg (by decide) ?_)
       rw [zaU]; simp_all
       done)
    | (refine congrArg _ (zby (by omega) hg ?_ ?_)
       ·simp_all
       ·rw [zaU]; simp_all
       done)
    | (refine congrArg _ (zcH (by omega) hg ?_ ?_ ?_)
       ·rw [zaU]; simp_all
       ·simp_all
       ·simp_all)

/-- benchwarmer/benchref1.byAnswer -/
theorem zhz [Tracks] {a b : ReplyS}  : zah Tryz.prog 79 [zbA a, zbA b] (.int .i64 (zcf a b)) := by
 refine Con.of_body Tryz.func79 rfl Tryz.ntmps79 rfl rfl ?_
 refine za ?_
 refine dq (zal rfl rfl) ?_
 refine dq (zal rfl rfl) ?_
 refine das rfl ?_
 refine dn ?_
 refine zar (fun _ => True) [] mixed ?_
 refine ahp 0 rfl rfl (by kernel_rfl) (by kernel_rfl) (zd zS rfl ty3 (by decide) rfl) ?_
 refine ahp 1 rfl rfl (by kernel_rfl) (by kernel_rfl) (zh ty3 rfl rfl rfl) ?_
 refine ahp 2 rfl rfl (by kernel_rfl) (by kernel_rfl) (zd zS rfl ty3 (by decide) rfl) ?_
 refine ahp 3 rfl rfl (by kernel_rfl) (by kernel_rfl) (zh ty3 rfl rfl rfl) ?_
 refine ahp 4 rfl rfl (by kernel_rfl) (by kernel_rfl) (zw zqr rfl (WeakL.refl _) zfU) ?_
 refine ahp 5 rfl rfl (by kernel_rfl) (by kernel_rfl) (zd zS rfl ty9 (by decide) rfl) ?_
 refine ahp 6 rfl rfl (by kernel_rfl) (by kernel_rfl) (zh ty9 rfl rfl rfl) ?_
 refine ahp 7 rfl rfl (by kernel_rfl) (by kernel_rfl) (zd zS rfl ty9 (by decide) rfl) ?_
 refine ahp 8 rfl rfl (by kernel_rfl) (by kernel_rfl) (zh ty9 rfl rfl rfl) ?_
 refine ahp 9 rfl rfl (by kernel_rfl) (by kernel_rfl) (zw zkI rfl (WeakL.refl _) zcr) ?_
 refine ahp 10 rfl rfl (by kernel_rfl) (by kernel_rfl) (zd zS rfl ty9 (by decide) rfl) ?_
 refine ahp 11 rfl rfl (by kernel_rfl) (by kernel_rfl) (zh ty9 rfl rfl rfl) ?_
 refine ahp 12 rfl rfl (by kernel_rfl) (by kernel_rfl) (zd zS rfl ty9 (by decide) rfl) ?_
 refine ahp 13 rfl rfl (by kernel_rfl) (by kernel_rfl) (zh ty9 rfl rfl rfl) ?_
 refine ahp 14 rfl rfl (by kernel_rfl) (by kernel_rfl) (zw zkI rfl (WeakL.refl _) zcr) ?_
 refine ahp 15 rfl rfl (by kernel_rfl) (by kernel_rfl) (zE (hs := [_, _, _]) zbh ty3 rfl rfl (by decide) (by decide) rfl) ?_
 refine ahp 16 rfl rfl (by kernel_rfl) (by kernel_rfl) (zw zqC rfl (WeakL.refl _) (zh7 (l := [_, _, _]) (by simp))) ?_
 refine ahp 17 rfl rfl (by kernel_rfl) (by kernel_rfl) (z8 rfl) ?_
 refine ahz (by kernel_rfl) ?_
 refine zp ?_
 refine zI rfl ?_
 rfl

/-- benchwarmer/benchref1.AnswersFault -/
theorem zgs [Tracks] {m : MarketS} {l : List ReplyS} (ht : m.Teams.length ≤ 1000000) (hl : l.length ≤ 1000000) (hs : ∀ x ∈ l, x.Offer.length ≤ 1000000) : zah Tryz.prog 47 [zaC m, zbr l] (.int .i64 (zc1 m l)) := by
 refine Con.of_body Tryz.func47 rfl Tryz.ntmps47 rfl rfl ?_
 refine za ?_
 refine dq (zal rfl rfl) ?_
 refine das rfl ?_
 refine dn ?_
 refine zm ?_
 refine za ?_
 refine dmv rfl ?_
 refine dq (zR zb5 rfl) ?_
 refine dq (zaT rfl rfl) ?_
 refine dn ?_
 refine zl rfl (fun h1 => ?_) (fun h2 => ?_)
 ·try simp at h1
  refine za ?_
  refine das rfl ?_
  refine dn ?_
  refine zp ?_
  refine zI rfl ?_
  show HVal.int .i64 _ = _
  first
  | (exact congrArg _ (zcF (by omega)))
  | (exact congrArg _ (zcC (by omega) hg))
  | (refine congrArg _ (zai (e := 5) (by omega) hg (by decide) ?_)
     rw [zas, if_pos]
     simp_all
     done)
  | (refine congrArg _ (zai (e := 8) (by omega) hg (by decide) ?_)
     rw [zas, if_neg, if_pos]
     all_goals simp_all
     done)
  | (refine congrArg _ (zai (e := 1) (by omega) hg (by decide) ?_)
     rw [zas, if_neg, if_neg, if_pos]
     all_goals simp_all
     done)
  | (refine congrArg _ (zai (e := 4) (by omega) hg (by decide) ?_)
     rw [zas, if_neg, if_neg, if_neg, if_pos]
     all_goals simp_all
     done)
  | (refine congrArg _ (zcG (by omega) hg ?_ ?_ ?_)
     ·rw [zas, if_neg, if_neg, if_neg, if_neg] <;> simp_all
     ·simp_all
     ·rw [← zfG]; simp_all)
 ·try simp at h2
  refine zo ?_
  refine zk ?_
  refine zm ?_
  refine za ?_
  refine dmv rfl ?_
  refine dq (zR zb5 rfl) ?_
  refine dmv rfl ?_
  refine dn ?_
  refine zu ?_
  refine zaJ [4, 5, 6, 12, 13, 14, 15, 16, 17, 18, 19, 20, 21, 22, 23, 24, 25, 26, 27, 28, 29, 30, 31, 32, 33, 34, 35, 36, 37, 38, 39, 40, 41, 42, 43, 44, 45, 46, 47, 48, 49, 50, 51] (fun (k : Nat) => [(12, .int .i64 k)]) (fun (k : Nat) => []) (fun (k : Nat) => k ≤ l.length ∧ (zaI (zas m) zcf zbU l 0 l = zaI (zas m) zcf zbU l k (l.drop k))) (fun (k : Nat) => l.length - k) (0) ?_ ?_ ?_ ?_
  ·exact ⟨Nat.zero_le _, rfl⟩
  ·exact ⟨rfl, trivial⟩
  ·exact List.Perm.refl _
  ·intro k hinv
   obtain ⟨hk, hg⟩ := hinv
   refine za ?_
   refine dq (zY rfl rfl) ?_
   refine dn ?_
   refine zm ?_
   refine zl rfl (fun h3 => ?_) (fun h4 => ?_)
   ·try simp at h3
    obtain ⟨x, hx⟩ : ∃ x, l[k]? = some x := ⟨_, List.getElem?_eq_getElem h3⟩
    have hdx := zU hx
    rw [hdx] at hg
    refine zo ?_
    refine zk ?_
    refine zm ?_
    refine zu ?_
    refine za ?_
    refine dmv rfl ?_
    refine dq (zZ zb5 zS rfl rfl rfl (by first | assumption | simp_all)) ?_
    refine dq (zD zS rfl rfl rfl rfl) ?_
    refine de rfl (zac zS rfl fun b6 => ?_)
    refine das rfl ?_
    refine de0 (zax zS rfl rfl rfl rfl rfl ?_)
    refine dn ?_
    refine zP (Ghost.fc0 6 rfl) ?_
    refine zu ?_
    refine za ?_
    refine dq (zd zS rfl ty9 (by decide) rfl) ?_
    refine dq (zh ty9 rfl rfl rfl) ?_
    refine dq (zw zkX rfl (WeakL.refl _) (zcO (hs x (List.mem_of_getElem? hx)))) ?_
    refine dq (zam rfl) ?_
    refine das rfl ?_
    refine dn ?_
    refine zl rfl (fun h5 => ?_) (fun h6 => ?_)
    ·try simp at h5
     refine za ?_
     refine das rfl ?_
     refine dn ?_
     refine zp ?_
     refine zI rfl ?_
     show HVal.int .i64 _ = _
     first
     | (exact congrArg _ (zcF (by omega)))
     | (exact congrArg _ (zcC (by omega) hg))
     | (refine congrArg _ (zai (e := 5) (by omega) hg (by decide) ?_)
        rw [zas, if_pos]
        simp_all
        done)
     | (refine congrArg _ (zai (e := 8) (by omega) hg (by decide) ?_)
        rw [zas, if_neg, if_pos]
        all_goals simp_all
        done)
     | (refine congrArg _ (zai (e := 1) (by omega) hg (by decide) ?_)
        rw [zas, if_neg, if_neg, if_pos]
        all_goals simp_all
        done)
     | (refine congrArg _ (zai (e := 4) (by omega) hg (by decide) ?_)
        rw [zas, if_neg, if_neg, if_neg, if_pos]
        all_goals simp_all
        done)
     | (refine congrArg _ (zcG (by omega) hg ?_ ?_ ?_)
        ·rw [zas, if_neg, if_neg, if_neg, if_neg] <;> simp_all
        ·simp_all
        ·rw [← zfG]; simp_all)
    ·try simp at h6
     refine za ?_
     refine dq (zD zN rfl rfl rfl rfl) ?_
     refine dq (zd zS rfl ty9 (by decide) rfl) ?_
     refine dq (zh ty9 rfl rfl rfl) ?_
     refine dq (zw zmt rfl (WeakL.refl _) (zcz (by first | assumption | omega | (simp; omega) | simp_all))) ?_
     refine dq (zam rfl) ?_
     refine das rfl ?_
     refine dn ?_
     refine zl rfl (fun h7 => ?_) (fun h8 => ?_)
     ·try simp at h7
      refine za ?_
      refine das rfl ?_
      refine dn ?_
      refine zp ?_
      refine zI rfl ?_
      show HVal.int .i64 _ = _
      first
      | (exact congrArg _ (zcF (by omega)))
      | (exact congrArg _ (zcC (by omega) hg))
      | (refine congrArg _ (zai (e := 5) (by omega) hg (by decide) ?_)
         rw [zas, if_pos]
         simp_all
         done)
      | (refine congrArg _ (zai (e := 8) (by omega) hg (by decide) ?_)
         rw [zas, if_neg, if_pos]
         all_goals simp_all
         done)
      | (refine congrArg _ (zai (e := 1) (by omega) hg (by decide) ?_)
         rw [zas, if_neg, if_neg, if_pos]
         all_goals simp_all
         done)
      | (refine congrArg _ (zai (e := 4) (by omega) hg (by decide) ?_)
         rw [zas, if_neg, if_neg, if_neg, if_pos]
         all_goals simp_all
         done)
      | (refine congrArg _ (zcG (by omega) hg ?_ ?_ ?_)
         ·rw [zas, if_neg, if_neg, if_neg, if_neg] <;> simp_all
         ·simp_all
         ·rw [← zfG]; simp_all)
     ·try simp at h8
      refine za ?_
      refine dq (zd zS rfl ty3 (by decide) rfl) ?_
      refine dq (zh ty3 rfl rfl rfl) ?_
      refine dq (zw zn2 rfl (WeakL.refl _) zcy) ?_
      refine dq (zbq rfl rfl) ?_
      refine das rfl ?_
      refine dn ?_
      refine zl rfl (fun h9 => ?_) (fun h10 => ?_)
      ·try simp at h9
       refine za ?_
       refine das rfl ?_
       refine dn ?_
       refine zp ?_
       refine zI rfl ?_
       show HVal.int .i64 _ = _
       first
       | (exact congrArg _ (zcF (by omega)))
       | (exact congrArg _ (zcC (by omega) hg))
       | (refine congrArg _ (zai (e := 5) (by omega) hg (by decide) ?_)
          rw [zas, if_pos]
          simp_all
          done)
       | (refine congrArg _ (zai (e := 8) (by omega) hg (by decide) ?_)
          rw [zas, if_neg, if_pos]
          all_goals simp_all
          done)
       | (refine congrArg _ (zai (e := 1) (by omega) hg (by decide) ?_)
          rw [zas, if_neg, if_neg, if_pos]
          all_goals simp_all
          done)
       | (refine congrArg _ (zai (e := 4) (by omega) hg (by decide) ?_)
          rw [zas, if_neg, if_neg, if_neg, if_pos]
          all_goals simp_all
          done)
       | (refine congrArg _ (zcG (by omega) hg ?_ ?_ ?_)
          ·rw [zas, if_neg, if_neg, if_neg, if_neg] <;> simp_all
          ·simp_all
          ·rw [← zfG]; simp_all)
      ·try simp at h10
       refine za ?_
       refine dq (zd zS rfl ty3 (by decide) rfl) ?_
       refine dq (zh ty3 rfl rfl rfl) ?_
       refine dq (zw ziU rfl (WeakL.refl _) zcd) ?_
       refine dq (zam rfl) ?_
       refine das rfl ?_
       refine dn ?_
       refine zl rfl (fun h11 => ?_) (fun h12 => ?_)
       ·try simp at h11
        refine za ?_
        refine das rfl ?_
        refine dn ?_
        refine zp ?_
        refine zI rfl ?_
        show HVal.int .i64 _ = _
        first
        | (exact congrArg _ (zcF (by omega)))
        | (exact congrArg _ (zcC (by omega) hg))
        | (refine congrArg _ (zai (e := 5) (by omega) hg (by decide) ?_)
           rw [zas, if_pos]
           simp_all
           done)
        | (refine congrArg _ (zai (e := 8) (by omega) hg (by decide) ?_)
           rw [zas, if_neg, if_pos]
           all_goals simp_all
           done)
        | (refine congrArg _ (zai (e := 1) (by omega) hg (by decide) ?_)
           rw [zas, if_neg, if_neg, if_pos]
           all_goals simp_all
           done)
        | (refine congrArg _ (zai (e := 4) (by omega) hg (by decide) ?_)
           rw [zas, if_neg, if_neg, if_neg, if_pos]
           all_goals simp_all
           done)
        | (refine congrArg _ (zcG (by omega) hg ?_ ?_ ?_)
           ·rw [zas, if_neg, if_neg, if_neg, if_neg] <;> simp_all
           ·simp_all
           ·rw [← zfG]; simp_all)
       ·try simp at h12
        refine zar (fun _ => True) [] mixed ?_
        refine ahp 0 rfl rfl (by kernel_rfl) (by kernel_rfl) (zf rfl) ?_
        refine ahp 1 rfl rfl (by kernel_rfl) (by kernel_rfl) (zaT rfl rfl) ?_
        refine ahp 2 rfl rfl (by kernel_rfl) (by kernel_rfl) (zf rfl) ?_
        refine ahg 3 rfl rfl (by kernel_rfl) (by kernel_rfl) rfl (fun hc => ⟨_, OpenTo.refl _, zf rfl⟩) ?_
        refine ahg 4 rfl rfl (by kernel_rfl) (by kernel_rfl) rfl (fun hc => ⟨_, OpenTo.refl _, zf rfl⟩) ?_
        refine ahg 5 rfl rfl (by kernel_rfl) (by kernel_rfl) rfl (fun hc => by have hq := hc; (try simp at hq); exact ⟨_, OpenTo.upd (t := 43) rfl (by first | exact hc | simp_all) (OpenTo.refl _), za5 rfl rfl (by omega) (by omega)⟩) ?_
        refine ahg 6 rfl rfl (by kernel_rfl) (by kernel_rfl) rfl (fun hc => by have hq := hc; (try simp at hq); exact ⟨_, OpenTo.upd (t := 44) rfl (by first | exact hc | simp_all) (OpenTo.upd (t := 42) rfl (by first | exact hc | simp_all) (OpenTo.refl _)), zZ (j := k - 1) (a := l.getD (k - 1) zbU) zb5 zS rfl rfl (by omega) (getD_some (by omega))⟩) ?_
        refine ahg 7 rfl rfl (by kernel_rfl) (by kernel_rfl) rfl (fun hc => ⟨_, OpenTo.upd (t := 45) rfl (by first | exact hc | simp_all) (OpenTo.refl _), zD zS rfl rfl rfl rfl⟩) ?_
        refine ahg 8 rfl rfl (by kernel_rfl) (by kernel_rfl) rfl (fun hc => ⟨_, OpenTo.refl _, zD zS rfl rfl rfl rfl⟩) ?_
        refine ahg 9 rfl rfl (by kernel_rfl) (by kernel_rfl) rfl (fun hc => ⟨_, OpenTo.upd (t := 47) rfl (by first | exact hc | simp_all) (OpenTo.upd (t := 46) rfl (by first | exact hc | simp_all) (OpenTo.refl _)), zw ca79 rfl (WeakL.refl _) zhz⟩) ?_
        refine ahg 10 rfl rfl (by kernel_rfl) (by kernel_rfl) rfl (fun hc => ⟨_, OpenTo.upd (t := 48) rfl (by first | exact hc | simp_all) (OpenTo.refl _), zbG rfl rfl⟩) ?_
        refine ahp 11 rfl rfl (by kernel_rfl) (by kernel_rfl) (zG rfl (.inr ⟨_, rfl, fun h => by simp_all⟩) (.inl rfl)) ?_
        refine ahp 12 rfl rfl (by kernel_rfl) (by kernel_rfl) (z8 rfl) ?_
        refine ahz (by kernel_rfl) ?_
        refine zl rfl (fun h13 => ?_) (fun h14 => ?_)
        ·try simp at h13
         refine za ?_
         refine das rfl ?_
         refine dn ?_
         refine zp ?_
         refine zI rfl ?_
         show HVal.int .i64 _ = _
         first
         | (exact congrArg _ (zcF (by omega)))
         | (exact congrArg _ (zcC (by omega) hg))
         | (refine congrArg _ (zai (e := 5) (by omega) hg (by decide) ?_)
            rw [zas, if_pos]
            simp_all
            done)
         | (refine congrArg _ (zai (e := 8) (by omega) hg (by decide) ?_)
            rw [zas, if_neg, if_pos]
            all_goals simp_all
            done)
         | (refine congrArg _ (zai (e := 1) (by omega) hg (by decide) ?_)
            rw [zas, if_neg, if_neg, if_pos]
            all_goals simp_all
            done)
         | (refine congrArg _ (zai (e := 4) (by omega) hg (by decide) ?_)
            rw [zas, if_neg, if_neg, if_neg, if_pos]
            all_goals simp_all
            done)
         | (refine congrArg _ (zcG (by omega) hg ?_ ?_ ?_)
            ·rw [zas, if_neg, if_neg, if_neg, if_neg] <;> simp_all
            ·simp_all
            ·rw [← zfG]; simp_all)
        ·try simp at h14
         refine zo ?_
         refine zA ?_
         refine zA ?_
         refine zk ?_
         refine zB ?_
         refine dq (zC rfl rfl (by omega) (by omega)) ?_
         refine dmv rfl ?_
         refine dn ?_
         refine ⟨k + 1, ?_, ?_, ⟨rfl, trivial⟩, (by repeat (first | exact zq | refine zx rfl ?_ | refine zt rfl rfl ?_)), List.Perm.refl _⟩
         ·refine ⟨by omega, ?_⟩
          rw [hg, zmy (by rw [zas, if_neg (by simp_all), if_neg (by simp_all), if_neg (by simp_all), if_neg (by simp_all)]) (by intro hk0; rw [← zfG]; simp_all)]
         ·dsimp only; omega
   ·try simp at h4
    have hnk : l.length ≤ k := by omega
    obtain rfl : k = l.length := by omega
    rw [zaS (Nat.le_refl _)] at hg
    refine z7 ?_
    refine zag ?_
    refine zaY ?_
    refine zT ?_
    refine zk ?_
    refine za ?_
    refine das rfl ?_
    refine dn ?_
    refine zp ?_
    refine zI rfl ?_
    show HVal.int .i64 _ = _
    first
    | (exact congrArg _ (zcF (by omega)))
    | (exact congrArg _ (zcC (by omega) hg))
    | (refine congrArg _ (zai (e := 5) (by omega) hg (by decide) ?_)
       rw [zas, if_pos]
       simp_all
       done)
    | (refine congrArg _ (zai (e := 8) (by omega) hg (by decide) ?_)
       rw [zas, if_neg, if_pos]
       all_goals simp_all
       done)
    | (refine congrArg _ (zai (e := 1) (by omega) hg (by decide) ?_)
       rw [zas, if_neg, if_neg, if_pos]
       all_goals simp_all
       done)
    | (refine congrArg _ (zai (e := 4) (by omega) hg (by decide) ?_)
       rw [zas, if_neg, if_neg, if_neg, if_pos]
       all_goals simp_all
       done)
    | (refine congrArg _ (zcG (by omega) hg ?_ ?_ ?_)
       ·rw [zas, if_neg, if_neg, if_neg, if_neg] <;> simp_all
       ·simp_all
       ·rw [← zfG]; simp_all)
end
section
open Go.HL
/-- slices.IndexFunc[[]benchwarmer/api.Owner,benchwarmer/api.Owner] -/
theorem zdX [Tracks] {l : List OwnerS} {fid : FuncId} {caps : List HVal} {p : OwnerS → Bool} (hca : Callable Tryz.prog fid) (hp : ∀ x, zah Tryz.prog fid ([zaL x] ++ caps) (.bool (p x))) (hl : l.length ≤ 1000000) : zah Tryz.prog 69 [.slice 2 (l.map zaL), .fn (.func fid) [] caps] (.int .i64 (za4 p l 0)) := by
 refine Con.of_body Tryz.func69 rfl Tryz.ntmps69 rfl rfl ?_
 refine za ?_
 refine das rfl ?_
 refine dn ?_
 refine zm ?_
 refine za ?_
 refine dmv rfl ?_
 refine dq (zR zaD rfl) ?_
 refine dmv rfl ?_
 refine dn ?_
 refine zu ?_
 refine zaJ [4, 5, 8, 9, 10, 11, 12, 13, 14, 15, 16, 17, 18] (fun (k : Nat) => [(8, .int .i64 k)]) (fun (k : Nat) => []) (fun (k : Nat) => k ≤ l.length ∧ (za4 p l 0 = za4 p (l.drop k) k)) (fun (k : Nat) => l.length - k) (0) ?_ ?_ ?_ ?_
 ·exact ⟨Nat.zero_le _, rfl⟩
 ·exact ⟨rfl, trivial⟩
 ·exact List.Perm.refl _
 ·intro k hinv
  obtain ⟨hk, hg⟩ := hinv
  refine za ?_
  refine dq (zY rfl rfl) ?_
  refine dn ?_
  refine zm ?_
  refine zl rfl (fun h1 => ?_) (fun h2 => ?_)
  ·try simp at h1
   obtain ⟨x, hx⟩ : ∃ x, l[k]? = some x := ⟨_, List.getElem?_eq_getElem h1⟩
   have hdx := zU hx
   rw [hdx] at hg
   refine zo ?_
   refine zk ?_
   refine zm ?_
   refine zu ?_
   refine za ?_
   refine dmv rfl ?_
   refine das rfl ?_
   refine dn ?_
   refine za ?_
   refine dmv rfl ?_
   refine dmv rfl ?_
   refine dmv rfl ?_
   refine dq (zZ zaD zaa rfl rfl rfl (by first | assumption | simp_all)) ?_
   refine dq (zD zaa rfl rfl rfl rfl) ?_
   refine dq (zdI hca rfl rfl (WeakL.refl _) (hp _)) ?_
   refine dn ?_
   refine zl rfl (fun h3 => ?_) (fun h4 => ?_)
   ·try simp at h3
    refine za ?_
    refine dmv rfl ?_
    refine das rfl ?_
    refine dn ?_
    refine zp ?_
    refine zI rfl ?_
    show HVal.int .i64 _ = _
    first | (rw [hg]; rfl) | (rw [hg]; simp_all [za4])
   ·try simp at h4
    refine zo ?_
    refine zA ?_
    refine zk ?_
    refine zB ?_
    refine dq (zC rfl rfl (by omega) (by omega)) ?_
    refine dmv rfl ?_
    refine dn ?_
    refine ⟨k + 1, ?_, ?_, ⟨rfl, trivial⟩, (by repeat (first | exact zq | refine zx rfl ?_ | refine zt rfl rfl ?_)), List.Perm.refl _⟩
    ·refine ⟨by omega, ?_⟩
     rw [hg, za4, if_neg (by simp_all)]; rfl
    ·dsimp only; omega
  ·try simp at h2
   have hnk : l.length ≤ k := by omega
   obtain rfl : k = l.length := by omega
   rw [zaS (Nat.le_refl _)] at hg
   refine z7 ?_
   refine zag ?_
   refine zaY ?_
   refine zT ?_
   refine zk ?_
   refine za ?_
   refine das rfl ?_
   refine dn ?_
   refine zp ?_
   refine zI rfl ?_
   show HVal.int .i64 _ = _
   first | (rw [hg]; rfl) | (rw [hg]; simp_all [za4])

/-- slices.Clone[[]benchwarmer/api.Owner,benchwarmer/api.Owner] -/
theorem zbC [Tracks] {l : List OwnerS} (hl : l.length ≤ 1000000) : zoh Tryz.prog 86 [.slice 2 (l.map zaL)] 2 (l.map zaL) := by
 refine Con.of_body Tryz.func86 rfl Tryz.ntmps86 rfl rfl ?_
 refine za ?_
 refine das rfl ?_
 refine dn ?_
 refine zm ?_
 refine za ?_
 refine dmv rfl ?_
 refine de rfl (zld zaD rfl rfl fun b4 hb4 => ?_)
 refine dn ?_
 refine zl rfl (fun h1 => ?_) (fun h2 => ?_)
 ·try simp at h1
  refine za ?_
  refine das rfl ?_
  refine dn ?_
  refine zp ?_
  first | exact zl3 rfl rfl | exact zbO (Ghost.arr_nil 2) rfl ⟨_, rfl, by simp_all⟩
 ·try simp at h2
  refine zo ?_
  refine zk ?_
  refine za ?_
  refine de rfl (zni zaD zaa fun v5 => ?_)
  refine dmv rfl ?_
  refine de rfl (zay (i := 0) zaD zaa rfl rfl rfl rfl rfl (by simp [zbi, zj]) (by first | omega | (simp; omega)) fun v7 => ?_)
  refine das rfl ?_
  refine dn ?_
  refine zp ?_
  first | exact zl3 rfl rfl | exact zbO (Ghost.arr_nil 2) rfl ⟨_, rfl, by simp_all⟩

/-- slices.BinarySearchFunc[[]benchwarmer/api.Owner,benchwarmer/api.Owner,string] -/
theorem ze5 [Tracks] {l : List OwnerS} {s : Str} {fid : FuncId} (hca : Callable Tryz.prog fid) (hp : ∀ x : OwnerS, zah Tryz.prog fid [zaL x, .str s] (.int .i64 (zbu x.Player s))) (hl : l.length ≤ 1000000) (hs : SortedS (l.map (·.Player))) : zah Tryz.prog 144 [zat l, .str s, .fn (.func fid) [] []] (.tup [.int .i64 (zdS (l.map (·.Player)) s), .bool ((l.map (·.Player)).contains s)]) := by
 have hLl : (l.map (·.Player)).length = l.length := List.length_map _
 refine Con.of_body Tryz.func144 rfl Tryz.ntmps144 rfl rfl ?_
 refine za ?_
 refine das rfl ?_
 refine das rfl ?_
 refine dn ?_
 refine za ?_
 refine dmv rfl ?_
 refine dq (zR zaD rfl) ?_
 refine das rfl ?_
 refine dn ?_
 refine za ?_
 refine dmv rfl ?_
 refine das rfl ?_
 refine das rfl ?_
 refine dn ?_
 refine zm ?_
 refine zu ?_
 refine zaZ [9, 10, 11, 15, 16, 17, 18, 19, 20, 21, 22, 23, 24, 25, 26, 27, 28, 29, 30, 31, 32, 33, 34] (fun (i : Nat) (j : Nat) => [(9, .int .i64 i), (10, .int .i64 j)]) (fun (i : Nat) (j : Nat) => []) (fun (i : Nat) (j : Nat) => i ≤ j ∧ j ≤ (l.map (·.Player)).length ∧ (∀ (k : Nat) (x : Str), k < i → (l.map (·.Player))[k]? = some x → Op.bytesLess x s = true) ∧ (∀ (k : Nat) (x : Str), j ≤ k → (l.map (·.Player))[k]? = some x → Op.bytesLess x s = false)) (fun (i : Nat) (j : Nat) => j - i) (0) (l.length) ?_ ?_ ?_ ?_
 ·exact ⟨Nat.zero_le _, by rw [hLl]; exact Nat.le_refl _, fun k x h => by omega, fun k x h1 h2 => by have := zM h2; omega⟩
 ·exact ⟨rfl, rfl, trivial⟩
 ·exact List.Perm.refl _
 ·intro i j hinv
  obtain ⟨hij, hjl, ha, hb⟩ := hinv
  rw [hLl] at hjl
  refine zm ?_
  refine za ?_
  refine dmv rfl ?_
  refine dmv rfl ?_
  refine dq (zY rfl rfl) ?_
  refine dn ?_
  refine zl rfl (fun h1 => ?_) (fun h2 => ?_)
  ·try simp at h1
   obtain ⟨x, hx⟩ : ∃ x, l[(i + j) / 2]? = some x := ⟨_, List.getElem?_eq_getElem (by omega)⟩
   have hxL : (l.map (·.Player))[(i + j) / 2]? = some x.Player := by rw [List.getElem?_map, hx]; rfl
   have hm : (i + j) / 2 < j ∧ i ≤ (i + j) / 2 := by omega
   refine zo ?_
   refine zk ?_
   refine zu ?_
   refine za ?_
   refine dmv rfl ?_
   refine dmv rfl ?_
   refine dq (zC rfl rfl (by omega) (by omega)) ?_
   refine dq (zdu ty3 zi7 rfl) ?_
   refine dq (znv rfl rfl (by omega)) ?_
   refine dq (zfO (zdu zi7 ty3 rfl) (zpe (i := i) (j := j) (by omega))) ?_
   refine das rfl ?_
   refine dn ?_
   refine za ?_
   refine dmv rfl ?_
   refine dmv rfl ?_
   refine dmv rfl ?_
   refine dq (zZ (j := (i + j) / 2) (a := x) zaD zaa rfl rfl rfl hx) ?_
   refine dq (zD zaa rfl rfl rfl rfl) ?_
   refine dmv rfl ?_
   refine dq (zdI hca rfl rfl (WeakL.refl _) (hp _)) ?_
   refine dq (zY rfl rfl) ?_
   refine dn ?_
   refine zl rfl (fun h3 => ?_) (fun h4 => ?_)
   ·try simp at h3
    refine zB ?_
    refine dmv rfl ?_
    refine dq (zC rfl rfl (by omega) (by omega)) ?_
    refine das rfl ?_
    refine dn ?_
    refine zA ?_
    exact ⟨(i + j) / 2 + 1, j, ⟨by omega, by rw [hLl]; exact hjl, zqt hs hxL (znd.1 h3), hb⟩, by dsimp only; omega, ⟨rfl, rfl, trivial⟩, (by repeat (first | exact zq | refine zx rfl ?_ | refine zt rfl rfl ?_)), List.Perm.refl _⟩
   ·try simp at h4
    refine zB ?_
    refine dmv rfl ?_
    refine das rfl ?_
    refine dn ?_
    refine zA ?_
    exact ⟨i, (i + j) / 2, ⟨by omega, by omega, ha, zqu hs hxL (by have q := fun e => (show ¬ zbu x.Player s < 0 by omega) (znd.2 e); simpa using q)⟩, by dsimp only; omega, ⟨rfl, rfl, trivial⟩, (by repeat (first | exact zq | refine zx rfl ?_ | refine zt rfl rfl ?_)), List.Perm.refl _⟩
  ·try simp at h2
   obtain rfl : i = j := by omega
   have hjl2 : i ≤ (l.map (·.Player)).length := by rw [hLl]; exact hjl
   refine z7 ?_
   refine zag ?_
   refine zbc ?_
   refine zT ?_
   refine zk ?_
   refine za ?_
   refine dmv rfl ?_
   refine dmv rfl ?_
   refine dmv rfl ?_
   refine dq (zY rfl rfl) ?_
   refine dmv rfl ?_
   refine dg rfl rfl (fun hc => ⟨_, OpenTo.refl _, zf rfl⟩) ?_
   refine dg rfl rfl (fun hc => ⟨_, OpenTo.refl _, zf rfl⟩) ?_
   refine dg rfl rfl (fun hc => ⟨_, OpenTo.refl _, zf rfl⟩) ?_
   refine dg rfl rfl (fun hc => by have hq := hc; (try simp at hq); exact ⟨_, OpenTo.upd (t := 42) rfl (by first | exact hc | simp_all) (OpenTo.upd (t := 41) rfl (by first | exact hc | simp_all) (OpenTo.refl _)), zZ (j := i) (a := l.getD i zbE) zaD zaa rfl rfl rfl (getD_some (by omega))⟩) ?_
   refine dg rfl rfl (fun hc => ⟨_, OpenTo.upd (t := 43) rfl (by first | exact hc | simp_all) (OpenTo.refl _), zD zaa rfl rfl rfl rfl⟩) ?_
   refine dg rfl rfl (fun hc => ⟨_, OpenTo.refl _, zf rfl⟩) ?_
   refine dg rfl rfl (fun hc => ⟨_, OpenTo.upd (t := 45) rfl (by first | exact hc | simp_all) (OpenTo.upd (t := 44) rfl (by first | exact hc | simp_all) (OpenTo.upd (t := 40) rfl (by first | exact hc | simp_all) (OpenTo.refl _))), zdI hca rfl rfl (WeakL.refl _) (hp _)⟩) ?_
   refine dg rfl rfl (fun hc => ⟨_, OpenTo.upd (t := 46) rfl (by first | exact hc | simp_all) (OpenTo.refl _), zaj rfl rfl⟩) ?_
   refine dq (zG rfl (.inr ⟨_, rfl, fun h => by simp_all⟩) (.inl rfl)) ?_
   refine das rfl ?_
   refine das rfl ?_
   refine dn ?_
   refine zp ?_
   refine zI rfl ?_
   rw [zkD hjl2 ha hb, ← zmj hs hjl2 ha hb, ← zo6]

/-- benchwarmer/trade.did$1 -/
theorem zlT [Tracks] {x : OwnerS} {s : Str}  : zah Tryz.prog 145 [zaL x, .str s] (.int .i64 (zbu x.Player s)) := by
 refine Con.of_body Tryz.func145 rfl Tryz.ntmps145 rfl rfl ?_
 refine za ?_
 refine dq (zal rfl rfl) ?_
 refine das rfl ?_
 refine dn ?_
 refine za ?_
 refine dq (zd zaa rfl ty9 (by decide) rfl) ?_
 refine dq (zh ty9 rfl rfl rfl) ?_
 refine dmv rfl ?_
 refine dq (zw zkI rfl (WeakL.refl _) zcr) ?_
 refine das rfl ?_
 refine dn ?_
 refine zp ?_
 refine zI rfl ?_
 rfl

set_option maxHeartbeats 1000000 in
/-- benchwarmer/trade.did -/
theorem zjq [Tracks] {m : MarketS} {o : List OwnerS} {x : DealS} (ht : m.Teams.length ≤ 1000000) (h0o : 0 < o.length) (ho : o.length ≤ 1000000) (hs : SortedS (o.map (·.Player))) (hx : x.Gives.length ≤ 1000000) : zah Tryz.prog 98 [.vptr (zj (zaC m)) 0, zat o, zdr x] (.tup [zat (zb8 o x.Gives), .bool (zb1 m o x.Gives)]) := by
 refine Con.of_body Tryz.func98 rfl Tryz.ntmps98 rfl rfl ?_
 refine za ?_
 refine dq (zal rfl rfl) ?_
 refine das rfl ?_
 refine das rfl ?_
 refine dn ?_
 refine za ?_
 refine dmv rfl ?_
 refine de rfl (zef zn0 rfl (WeakL.refl _) (zbC (l := o) ho) fun v14 => ?_)
 refine das rfl ?_
 refine dn ?_
 refine zm ?_
 refine zc6 (i := 0) rfl (fun h0 he => ?_) (fun ob off cap hv hcap => ?_)
 ·exfalso; have := congrArg List.length he; simp at this; subst this; simp at h0o
 rw [List.length_map] at hv hcap
 subst hv
 refine za ?_
 refine dq ((by first | exact zd zJ rfl zao (by decide) rfl | exact zb zJ rfl zao (by decide) rfl)) ?_
 refine dq (zh zao rfl rfl rfl) ?_
 refine dq (zR zao rfl) ?_
 refine dmv rfl ?_
 refine dn ?_
 refine zu ?_
 refine zaZ [6, 7, 10, 11, 12, 18, 19, 20, 21, 22, 23, 24, 25, 26, 27, 28, 29, 30, 31, 32, 33, 34, 35, 36, 37, 38, 39, 40, 41, 42, 43, 44, 45, 46, 47] (fun (k : Nat) (D : List OwnerS) => [(18, .int .i64 k)]) (fun (k : Nat) (D : List OwnerS) => [.arr (.slice (some ⟨ob, off, none⟩) o.length cap) 2 (D.map zaL)]) (fun (k : Nat) (D : List OwnerS) => k ≤ x.Gives.length ∧ (zbw o x.Gives = zbw D (x.Gives.drop k) ∧ D.map (·.Player) = o.map (·.Player))) (fun (k : Nat) (D : List OwnerS) => x.Gives.length - k) (0) (o) ?_ ?_ ?_ ?_
 ·exact ⟨Nat.zero_le _, rfl, rfl⟩
 ·exact ⟨rfl, trivial⟩
 ·exact zO rfl
 ·intro k D hinv
  obtain ⟨hk, hf, hD⟩ := hinv
  have hDs : SortedS (D.map (·.Player)) := by rw [hD]; exact hs
  have hDl : D.length = o.length := by have := congrArg List.length hD; simpa using this
  refine za ?_
  refine dq (zY rfl rfl) ?_
  refine dn ?_
  refine zm ?_
  refine zl rfl (fun h1 => ?_) (fun h2 => ?_)
  ·try simp at h1
   obtain ⟨g, hg⟩ : ∃ g, x.Gives[k]? = some g := ⟨_, List.getElem?_eq_getElem h1⟩
   have hdg := zU hg
   rw [hdg] at hf
   refine zo ?_
   refine zk ?_
   refine zm ?_
   refine zu ?_
   refine za ?_
   refine dq (zZ zao zaf rfl rfl rfl (by first | assumption | simp_all)) ?_
   refine dq (zD zaf rfl rfl rfl rfl) ?_
   refine de rfl (zac zaf rfl fun b10 => ?_)
   refine de0 (zax zaf rfl rfl rfl rfl rfl ?_)
   refine dn ?_
   refine zP (Ghost.fc0 10 rfl) ?_
   refine za ?_
   refine dmv rfl ?_
   refine dq ((by first | exact zd zaf rfl ty9 (by decide) rfl | exact zb zaf rfl ty9 (by decide) rfl)) ?_
   refine dq (zh ty9 rfl rfl rfl) ?_
   refine de rfl (zeY (hs' := [zat D, .str g.Player, .fn (.func 145) [] []]) zsG rfl ⟨.arr (i := 0) rfl, .weak (Weak.refl _), .weak (Weak.refl _), trivial⟩ (ze5 (l := D) (s := g.Player) zsg (fun _ => zlT) (by omega) hDs) rfl ?_)
   refine dmv rfl ?_
   refine dq (zaO rfl rfl) ?_
   refine dq (zaO rfl rfl) ?_
   refine das rfl ?_
   refine das rfl ?_
   refine dn ?_
   refine zm ?_
   refine zar (fun M => M = [.arr (.slice (some ⟨ob, off, none⟩) o.length cap) 2 (D.map zaL)]) [7] mixed ?_
   refine ahp 0 rfl rfl (by kernel_rfl) (by kernel_rfl) (zf rfl) ?_
   refine ahp 1 rfl rfl (by kernel_rfl) (by kernel_rfl) (zam rfl) ?_
   refine ahp 2 rfl rfl (by kernel_rfl) (by kernel_rfl) (zf rfl) ?_
   refine ahg 3 rfl rfl (by kernel_rfl) (by kernel_rfl) rfl (fun hc => ⟨_, OpenTo.refl _, zf rfl⟩) ?_
   refine ahg 4 rfl rfl (by kernel_rfl) (by kernel_rfl) rfl (fun hc => ⟨_, OpenTo.refl _, zf rfl⟩) ?_
   refine ahg 5 rfl rfl (by kernel_rfl) (by kernel_rfl) rfl (fun hc => by
    obtain ⟨hql, hq1, hq2, hq3⟩ := ziw hDs (by simpa using hc)
    exact ⟨_, OpenTo.upd (t := 33) rfl (by first | exact hc | simp_all) (OpenTo.upd (t := 32) rfl (by first | exact hc | simp_all) (OpenTo.refl _)), za1 (j := (zdS (D.map (·.Player)) g.Player)) zaD zaa rfl rfl rfl (by omega)⟩) ?_
   refine ahg 6 rfl rfl (by kernel_rfl) (by kernel_rfl) rfl (fun hc => ⟨_, OpenTo.upd (t := 34) rfl (by first | exact hc | simp_all) (OpenTo.refl _), (by first | exact zd zaa rfl ty9 (by decide) rfl | exact zb zaa rfl ty9 (by decide) rfl)⟩) ?_
   refine zdt 7 rfl rfl (by kernel_rfl) (by kernel_rfl) (by simp) rfl rfl (fun hc => ⟨_, OpenTo.upd (t := 35) rfl (by first | exact hc | simp_all) (OpenTo.refl _), fun M hM => by
    obtain ⟨hql, hq1, hq2, hq3⟩ := ziw hDs (by simpa using hc); subst hM; exact za6 (i := 0) (j := (zdS (D.map (·.Player)) g.Player)) 1 ty9 rfl (by omega) rfl hq1 rfl rfl ⟨rfl, rfl⟩
    ⟩) ?_
   refine ahg 8 rfl rfl (by kernel_rfl) (by kernel_rfl) rfl (fun hc => ⟨_, OpenTo.refl _, (by first | exact zd zaf rfl ty9 (by decide) rfl | exact zb zaf rfl ty9 (by decide) rfl)⟩) ?_
   refine ahg 9 rfl rfl (by kernel_rfl) (by kernel_rfl) rfl (fun hc => ⟨_, OpenTo.upd (t := 37) rfl (by first | exact hc | simp_all) (OpenTo.refl _), zh ty9 rfl rfl rfl⟩) ?_
   refine ahg 10 rfl rfl (by kernel_rfl) (by kernel_rfl) rfl (fun hc => ⟨_, OpenTo.upd (t := 38) rfl (by first | exact hc | simp_all) (OpenTo.upd (t := 36) rfl (by first | exact hc | simp_all) (OpenTo.refl _)), zeb rfl rfl⟩) ?_
   refine ahp 11 rfl rfl (by kernel_rfl) (by kernel_rfl) (zG rfl (.inl rfl) (.inr ⟨_, rfl, fun h => by simp_all⟩)) ?_
   refine ahz (by kernel_rfl) ?_
   refine zl rfl (fun h3 => ?_) (fun h4 => ?_)
   ·try simp at h3
    refine za ?_
    refine das rfl ?_
    refine das rfl ?_
    refine dn ?_
    refine zp ?_
    first
    | (refine zI rfl ?_
       rw [e1, e2])
    | (have hno : zbw o x.Gives = none := by
        by_cases hco : (D.map (·.Player)).contains g.Player = true
        ·obtain ⟨hql, hq1, hq2, hq3⟩ := ziw hDs hco
         exact zfg hf hq1 hq2 hq3 (by simpa using h3.resolve_left fun q => q _ (List.mem_of_getElem? hq1) hq2)
        ·exact zfM hf (zoH (by simpa using hco))
       obtain ⟨e1, e2⟩ := zeZ (m := m) hno
       exact ⟨_, [], Ghost.clear, _, _, rfl, zan (by rw [e2]; exact zak 2) (by rw [e1]; exact Weak.refl _), rfl, rfl⟩)
   ·try simp at h4
    refine zo ?_
    refine zk ?_
    have hco : (D.map (·.Player)).contains g.Player = true := by simpa using h4.1
    obtain ⟨hql, hq1, hq2, hq3⟩ := ziw hDs hco
    refine zB ?_
    refine dmv rfl ?_
    refine dmv rfl ?_
    refine dq ((by first | exact zd zaf rfl ty9 (by decide) rfl | exact zb zaf rfl ty9 (by decide) rfl)) ?_
    refine dq (zh ty9 rfl rfl rfl) ?_
    refine dq (za1 (j := (zdS (D.map (·.Player)) g.Player)) zaD zaa rfl rfl rfl (by omega)) ?_
    refine dq ((by first | exact zd zaa rfl ty9 (by decide) rfl | exact zb zaa rfl ty9 (by decide) rfl)) ?_
    refine de0 (za3 (i := 0) (j := (zdS (D.map (·.Player)) g.Player)) (f := 1) (y := zaL (D.getD (zdS (D.map (·.Player)) g.Player) zbE)) (y' := zaL ⟨(D.getD (zdS (D.map (·.Player)) g.Player) zbE).Player, g.To⟩) ty9 rfl (by omega) rfl rfl (zce hq1) rfl rfl (by simp [zj]) rfl ?_)
    refine dn ?_
    refine zA ?_
    refine zk ?_
    refine zB ?_
    refine dq (zC rfl rfl (by omega) (by omega)) ?_
    refine dmv rfl ?_
    refine dn ?_
    exact ⟨k + 1, _, ⟨by omega, zlK hf hq1 hq2 hq3 (by simpa using h4.2), by rw [zkw hq1, hD]⟩, by dsimp only; omega, ⟨rfl, trivial⟩, (by repeat (first | exact zq | refine zx rfl ?_ | refine zt rfl rfl ?_)), zO (by dsimp only; rw [List.map_set]; rfl)⟩
  ·try simp at h2
   have hnk : x.Gives.length ≤ k := by omega
   obtain rfl : k = x.Gives.length := by omega
   rw [zaS (Nat.le_refl _), zbw] at hf
   refine z7 ?_
   refine zag ?_
   refine zbc ?_
   refine zT ?_
   refine zk ?_
   refine zP (Ghost.fa 8 (i := 0) rfl rfl) ?_
   obtain ⟨e1, e2⟩ := zid (m := m) hf
   refine za ?_
   refine dmv rfl ?_
   refine dmv rfl ?_
   refine dmv rfl ?_
   refine dq (zw ca66 rfl (WeakL.refl _) (zhk (by first | assumption | omega | (simp; omega) | simp_all) (by first | assumption | omega | (simp; omega) | simp_all))) ?_
   refine das rfl ?_
   refine das rfl ?_
   refine dn ?_
   refine zp ?_
   first
   | (refine zI rfl ?_
      rw [e1, e2])
   | (have hno : zbw o x.Gives = none := by
       by_cases hco : (D.map (·.Player)).contains g.Player = true
       ·obtain ⟨hql, hq1, hq2, hq3⟩ := ziw hDs hco
        exact zfg hf hq1 hq2 hq3 (by simpa using h3.resolve_left fun q => q _ (List.mem_of_getElem? hq1) hq2)
       ·exact zfM hf (zoH (by simpa using hco))
      obtain ⟨e1, e2⟩ := zeZ (m := m) hno
      exact ⟨_, [], Ghost.clear, _, _, rfl, zan (by rw [e2]; exact zak 2) (by rw [e1]; exact Weak.refl _), rfl, rfl⟩)
end
section
open Go.HL
/-- benchwarmer/trade.tradeFault -/
theorem zik [Tracks] {m : MarketS} {o : List OwnerS} {x : DealS} (ht : m.Teams.length ≤ 1000000) (ho : o.length ≤ 1000000) (hx : x.Gives.length ≤ 1000000) : zah Tryz.prog 97 [zaC m, zat o, zdr x] (.int .i64 (zdd m o x)) := by
 refine Con.of_body Tryz.func97 rfl Tryz.ntmps97 rfl rfl ?_
 refine za ?_
 refine dq (zal rfl rfl) ?_
 refine dq (zal rfl rfl) ?_
 refine das rfl ?_
 refine dn ?_
 refine zar (fun _ => True) [] mixed ?_
 refine ahp 0 rfl rfl (by kernel_rfl) (by kernel_rfl) (zD zN rfl rfl rfl rfl) ?_
 refine ahp 1 rfl rfl (by kernel_rfl) (by kernel_rfl) (zf rfl) ?_
 refine ahp 2 rfl rfl (by kernel_rfl) (by kernel_rfl) (zw ca31 rfl (WeakL.refl _) (zfl (by first | assumption | omega | (simp; omega) | simp_all) (by first | assumption | omega | (simp; omega) | simp_all))) ?_
 refine ahp 3 rfl rfl (by kernel_rfl) (by kernel_rfl) (zD zN rfl rfl rfl rfl) ?_
 refine ahp 4 rfl rfl (by kernel_rfl) (by kernel_rfl) (zD zJ rfl rfl rfl rfl) ?_
 refine ahp 5 rfl rfl (by kernel_rfl) (by kernel_rfl) (zE (hs := [_]) zbv zJ rfl rfl (by decide) (by decide) rfl) ?_
 refine ahp 6 rfl rfl (by kernel_rfl) (by kernel_rfl) (zw ca82 rfl (WeakL.refl _) (zfk (l := [x]) ht (by simp) (by simpa using hx))) ?_
 refine ahp 7 rfl rfl (by kernel_rfl) (by kernel_rfl) (zE (hs := [_, _]) zfA zgY rfl rfl (by decide) (by decide) rfl) ?_
 refine ahp 8 rfl rfl (by kernel_rfl) (by kernel_rfl) (zw ca81 rfl (WeakL.refl _) (ziZ (l := [_, _]) (by simp))) ?_
 refine ahp 9 rfl rfl (by kernel_rfl) (by kernel_rfl) (z8 rfl) ?_
 refine ahz (by kernel_rfl) ?_
 refine zp ?_
 refine zI rfl ?_
 rfl

/-- benchwarmer/trade.Did -/
theorem zm1 [Tracks] {m : MarketS} {o : List OwnerS} {x : DealS} (ht : m.Teams.length ≤ 1000000) (h0o : 0 < o.length) (ho : o.length ≤ 1000000) (hx : x.Gives.length ≤ 1000000) : zah Tryz.prog 60 [zaC m, zat o, zdr x] (.tup [zat (zi0 m o x), .int .i64 (ziF m o x)]) := by
 refine Con.of_body Tryz.func60 rfl Tryz.ntmps60 rfl rfl ?_
 refine za ?_
 refine dq (zal rfl rfl) ?_
 refine dq (zal rfl rfl) ?_
 refine das rfl ?_
 refine das rfl ?_
 refine dn ?_
 refine zm ?_
 refine za ?_
 refine dq (zD zN rfl rfl rfl rfl) ?_
 refine dmv rfl ?_
 refine dq (zD zJ rfl rfl rfl rfl) ?_
 refine dq (zw ca97 rfl (WeakL.refl _) (zik (by first | assumption | omega | (simp; omega) | simp_all) (by first | assumption | omega | (simp; omega) | simp_all) (by first | assumption | omega | (simp; omega) | simp_all))) ?_
 refine das rfl ?_
 refine dn ?_
 refine za ?_
 refine dmv rfl ?_
 refine dq (zbq rfl rfl) ?_
 refine dn ?_
 refine zl rfl (fun h1 => ?_) (fun h2 => ?_)
 ·try simp at h1
  refine za ?_
  refine dmv rfl ?_
  refine das rfl ?_
  refine das rfl ?_
  refine dn ?_
  refine zp ?_
  first
  | (refine zbo rfl ?_
     obtain ⟨e1, e2⟩ := zjR (m := m) (o := o) (x := x) (by simpa using h1)
     rw [e1, e2]
     exact zan (zak 2) (Weak.refl _))
  | (refine zbo rfl ?_
     obtain ⟨e1, e2⟩ := zk8 hz (by simpa using h3)
     rw [e1, e2]
     exact zan (zak 2) (Weak.refl _))
  | (refine zI rfl ?_
     obtain ⟨e1, e2⟩ := zgk hz (by simpa using h4)
     rw [e1, e2]; rfl)
 ·try simp at h2
  refine zo ?_
  refine zk ?_
  have hz : zdd m o x = 0 := by simpa using h2
  obtain ⟨hso, hx40⟩ := zqc hz
  refine za ?_
  refine dmv rfl ?_
  refine dq (zD zJ rfl rfl rfl rfl) ?_
  refine dq (zw ca98 rfl (WeakL.refl _) (zjq (m := m) (o := o) (x := x) ht h0o ho hso hx)) ?_
  refine dmv rfl ?_
  refine dq (zaO rfl rfl) ?_
  refine dq (zaO rfl rfl) ?_
  refine das rfl ?_
  refine das rfl ?_
  refine dn ?_
  refine zm ?_
  refine za ?_
  refine dmv rfl ?_
  refine dq (zam rfl) ?_
  refine dn ?_
  refine zl rfl (fun h3 => ?_) (fun h4 => ?_)
  ·try simp at h3
   refine za ?_
   refine das rfl ?_
   refine das rfl ?_
   refine dn ?_
   refine zp ?_
   first
   | (refine zbo rfl ?_
      obtain ⟨e1, e2⟩ := zjR (m := m) (o := o) (x := x) (by simpa using h1)
      rw [e1, e2]
      exact zan (zak 2) (Weak.refl _))
   | (refine zbo rfl ?_
      obtain ⟨e1, e2⟩ := zk8 hz (by simpa using h3)
      rw [e1, e2]
      exact zan (zak 2) (Weak.refl _))
   | (refine zI rfl ?_
      obtain ⟨e1, e2⟩ := zgk hz (by simpa using h4)
      rw [e1, e2]; rfl)
  ·try simp at h4
   refine zo ?_
   refine zk ?_
   refine za ?_
   refine dmv rfl ?_
   refine das rfl ?_
   refine das rfl ?_
   refine dn ?_
   refine zp ?_
   first
   | (refine zbo rfl ?_
      obtain ⟨e1, e2⟩ := zjR (m := m) (o := o) (x := x) (by simpa using h1)
      rw [e1, e2]
      exact zan (zak 2) (Weak.refl _))
   | (refine zbo rfl ?_
      obtain ⟨e1, e2⟩ := zk8 hz (by simpa using h3)
      rw [e1, e2]
      exact zan (zak 2) (Weak.refl _))
   | (refine zI rfl ?_
      obtain ⟨e1, e2⟩ := zgk hz (by simpa using h4)
      rw [e1, e2]; rfl)

/-- benchwarmer/benchref1.DidOf$1 -/
theorem zh6 [Tracks] {y : OwnerS} {g : GiveS}  : zah Tryz.prog 181 [zaL y, .vptr (zj (zbb g)) 0] (.bool (y.Player == g.Player)) := by
 refine Con.of_body Tryz.func181 rfl Tryz.ntmps181 rfl rfl ?_
 refine za ?_
 refine dq (zal rfl rfl) ?_
 refine das rfl ?_
 refine dn ?_
 refine za ?_
 refine dq (zd zaa rfl ty9 (by decide) rfl) ?_
 refine dq (zh ty9 rfl rfl rfl) ?_
 refine dq (zd zaf rfl ty9 (by decide) rfl) ?_
 refine dq (zh ty9 rfl rfl rfl) ?_
 refine dq (zbs rfl rfl) ?_
 refine das rfl ?_
 refine dn ?_
 refine zp ?_
 refine zI rfl ?_
 rfl

set_option maxHeartbeats 1000000 in
/-- benchwarmer/benchref1.DidOf -/
theorem zjg [Tracks] {m : MarketS} {o : List OwnerS} {x : DealS} (ht : m.Teams.length ≤ 1000000) (h0o : 0 < o.length) (ho : o.length ≤ 1000000) (hx : x.Gives.length ≤ 1000000) : zah Tryz.prog 143 [zaC m, zat o, zdr x] (.tup [zat (zj2 m o x.Gives), .bool (zb1 m o x.Gives)]) := by
 refine Con.of_body Tryz.func143 rfl Tryz.ntmps143 rfl rfl ?_
 refine za ?_
 refine dq (zal rfl rfl) ?_
 refine dq (zal rfl rfl) ?_
 refine das rfl ?_
 refine das rfl ?_
 refine dn ?_
 refine za ?_
 refine dmv rfl ?_
 refine de rfl (zef zn0 rfl (WeakL.refl _) (zbC (l := o) ho) fun v13 => ?_)
 refine das rfl ?_
 refine dn ?_
 refine zm ?_
 refine zc6 (i := 0) rfl (fun h0 he => ?_) (fun ob off cap hv hcap => ?_)
 ·exfalso; have := congrArg List.length he; simp at this; subst this; simp at h0o
 rw [List.length_map] at hv hcap
 subst hv
 refine za ?_
 refine dq ((by first | exact zd zJ rfl zao (by decide) rfl | exact zb zJ rfl zao (by decide) rfl)) ?_
 refine dq (zh zao rfl rfl rfl) ?_
 refine dq (zR zao rfl) ?_
 refine dmv rfl ?_
 refine dn ?_
 refine zu ?_
 refine zaZ [6, 7, 10, 11, 17, 18, 19, 20, 21, 22, 23, 24, 25, 26, 27, 28, 29, 30, 31, 32, 33, 34, 35, 36, 37, 38, 39, 40, 41, 42] (fun (k : Nat) (D : List OwnerS) => [(17, .int .i64 k)]) (fun (k : Nat) (D : List OwnerS) => [.arr (.slice (some ⟨ob, off, none⟩) o.length cap) 2 (D.map zaL)]) (fun (k : Nat) (D : List OwnerS) => k ≤ x.Gives.length ∧ (zbw o x.Gives = zbw D (x.Gives.drop k) ∧ D.length = o.length)) (fun (k : Nat) (D : List OwnerS) => x.Gives.length - k) (0) (o) ?_ ?_ ?_ ?_
 ·exact ⟨Nat.zero_le _, rfl, rfl⟩
 ·exact ⟨rfl, trivial⟩
 ·exact zO rfl
 ·intro k D hinv
  obtain ⟨hk, hf, hDl⟩ := hinv
  refine za ?_
  refine dq (zY rfl rfl) ?_
  refine dn ?_
  refine zm ?_
  refine zl rfl (fun h1 => ?_) (fun h2 => ?_)
  ·try simp at h1
   obtain ⟨g, hg⟩ : ∃ g, x.Gives[k]? = some g := ⟨_, List.getElem?_eq_getElem h1⟩
   have hdg := zU hg
   rw [hdg] at hf
   refine zo ?_
   refine zk ?_
   refine zm ?_
   refine zu ?_
   refine za ?_
   refine dq (zZ zao zaf rfl rfl rfl (by first | assumption | simp_all)) ?_
   refine dq (zD zaf rfl rfl rfl rfl) ?_
   refine de rfl (zac zaf rfl fun b10 => ?_)
   refine de0 (zax zaf rfl rfl rfl rfl rfl ?_)
   refine dn ?_
   refine zP (Ghost.fc0 10 rfl) ?_
   refine za ?_
   refine dmv rfl ?_
   refine dq (zda rfl rfl) ?_
   refine de rfl (zeY (hs' := [zat D, .fn (.func 181) [] [.vptr (zj (zbb g)) 0]]) ca69 rfl ⟨.arr (i := 0) rfl, .weak (Weak.refl _), trivial⟩ (zdX (l := D) (p := fun y => y.Player == g.Player) zsD (fun _ => zh6) (by omega)) rfl ?_)
   refine das rfl ?_
   refine dn ?_
   refine zm ?_
   refine zar (fun M => M = [.arr (.slice (some ⟨ob, off, none⟩) o.length cap) 2 (D.map zaL)]) [7] mixed ?_
   refine ahp 0 rfl rfl (by kernel_rfl) (by kernel_rfl) (zf rfl) ?_
   refine ahp 1 rfl rfl (by kernel_rfl) (by kernel_rfl) (zY rfl rfl) ?_
   refine ahp 2 rfl rfl (by kernel_rfl) (by kernel_rfl) (zf rfl) ?_
   refine ahg 3 rfl rfl (by kernel_rfl) (by kernel_rfl) rfl (fun hc => ⟨_, OpenTo.refl _, zf rfl⟩) ?_
   refine ahg 4 rfl rfl (by kernel_rfl) (by kernel_rfl) rfl (fun hc => ⟨_, OpenTo.refl _, zf rfl⟩) ?_
   refine ahg 5 rfl rfl (by kernel_rfl) (by kernel_rfl) rfl (fun hc => by
    obtain ⟨i0, hi0, hql, hq1, hq2, hq3⟩ := zgb (by simpa using hc)
    exact ⟨_, OpenTo.upd (t := 28) rfl (by first | exact hc | simp_all) (OpenTo.upd (t := 27) rfl (by first | exact hc | simp_all) (OpenTo.refl _)), za1 (j := (za4 (fun y : OwnerS => y.Player == g.Player) D 0).toNat) zaD zaa rfl rfl (by omega) (by omega)⟩) ?_
   refine ahg 6 rfl rfl (by kernel_rfl) (by kernel_rfl) rfl (fun hc => ⟨_, OpenTo.upd (t := 29) rfl (by first | exact hc | simp_all) (OpenTo.refl _), (by first | exact zd zaa rfl ty9 (by decide) rfl | exact zb zaa rfl ty9 (by decide) rfl)⟩) ?_
   refine zdt 7 rfl rfl (by kernel_rfl) (by kernel_rfl) (by simp) rfl rfl (fun hc => ⟨_, OpenTo.upd (t := 30) rfl (by first | exact hc | simp_all) (OpenTo.refl _), fun M hM => by
    obtain ⟨i0, hi0, hql, hq1, hq2, hq3⟩ := zgb (by simpa using hc); subst hM; exact za6 (i := 0) (j := (za4 (fun y : OwnerS => y.Player == g.Player) D 0).toNat) (y := D.getD (za4 (fun y : OwnerS => y.Player == g.Player) D 0).toNat zbE) 1 ty9 rfl (by omega) rfl (by rw [hi0]; exact hq1) rfl rfl ⟨rfl, rfl⟩
    ⟩) ?_
   refine ahg 8 rfl rfl (by kernel_rfl) (by kernel_rfl) rfl (fun hc => ⟨_, OpenTo.refl _, (by first | exact zd zaf rfl ty9 (by decide) rfl | exact zb zaf rfl ty9 (by decide) rfl)⟩) ?_
   refine ahg 9 rfl rfl (by kernel_rfl) (by kernel_rfl) rfl (fun hc => ⟨_, OpenTo.upd (t := 32) rfl (by first | exact hc | simp_all) (OpenTo.refl _), zh ty9 rfl rfl rfl⟩) ?_
   refine ahg 10 rfl rfl (by kernel_rfl) (by kernel_rfl) rfl (fun hc => ⟨_, OpenTo.upd (t := 33) rfl (by first | exact hc | simp_all) (OpenTo.upd (t := 31) rfl (by first | exact hc | simp_all) (OpenTo.refl _)), zeb rfl rfl⟩) ?_
   refine ahp 11 rfl rfl (by kernel_rfl) (by kernel_rfl) (zG rfl (.inl rfl) (.inr ⟨_, rfl, fun h => by simp_all⟩)) ?_
   refine ahz (by kernel_rfl) ?_
   refine zl rfl (fun h3 => ?_) (fun h4 => ?_)
   ·try simp at h3
    refine za ?_
    refine das rfl ?_
    refine das rfl ?_
    refine dn ?_
    refine zp ?_
    first
    | (refine zI rfl ?_
       have hy : zb1 m o x.Gives = true := by rw [e1]; simpa using h6
       show HVal.tup [zat D, .bool true] = _
       rw [zgR hy, hy, e2])
    | (refine zbo rfl ?_
       have hno : zb1 m o x.Gives = false := by rw [e1]; simpa using h5
       rw [zfu hno, hno]
       exact zan (zak 2) (Weak.refl _))
    | (have hno : zbw o x.Gives = none := by
        by_cases hco : 0 ≤ (za4 (fun y : OwnerS => y.Player == g.Player) D 0)
        ·obtain ⟨i0, hi0, hql, hq1, hq2, hq3⟩ := zgb hco
         have hi1 : (za4 (fun y : OwnerS => y.Player == g.Player) D 0).toNat = i0 := by rw [hi0]; rfl
         exact zfg hf hq1 hq2 hq3 (by have q := h3.resolve_left (by omega); rw [hi1] at q; simpa using q)
        ·exact zfM hf (zjM (by omega))
       obtain ⟨e1, e2⟩ := zeZ (m := m) hno
       exact ⟨_, [], Ghost.clear, _, _, rfl, zan (by rw [zfu e1]; exact zak 2) (by rw [e1]; exact Weak.refl _), rfl, rfl⟩)
   ·try simp at h4
    refine zo ?_
    refine zk ?_
    obtain ⟨i0, hi0, hql, hq1, hq2, hq3⟩ := zgb (by simpa using h4.1)
    have hi1 : (za4 (fun y : OwnerS => y.Player == g.Player) D 0).toNat = i0 := by rw [hi0]; rfl
    refine zB ?_
    refine dmv rfl ?_
    refine dmv rfl ?_
    refine dq ((by first | exact zd zaf rfl ty9 (by decide) rfl | exact zb zaf rfl ty9 (by decide) rfl)) ?_
    refine dq (zh ty9 rfl rfl rfl) ?_
    refine dq (za1 (j := i0) zaD zaa rfl rfl hi0 (by omega)) ?_
    refine dq ((by first | exact zd zaa rfl ty9 (by decide) rfl | exact zb zaa rfl ty9 (by decide) rfl)) ?_
    refine de0 (za3 (i := 0) (j := i0) (f := 1) (y := zaL (D.getD i0 zbE)) (y' := zaL ⟨(D.getD i0 zbE).Player, g.To⟩) ty9 rfl (by omega) rfl rfl (zce hq1) rfl rfl (by simp [zj]) rfl ?_)
    refine dn ?_
    refine zA ?_
    refine zk ?_
    refine zB ?_
    refine dq (zC rfl rfl (by omega) (by omega)) ?_
    refine dmv rfl ?_
    refine dn ?_
    exact ⟨k + 1, _, ⟨by omega, zlK hf hq1 hq2 hq3 (by have q := h4.2; rw [hi1] at q; simpa using q), by simpa using hDl⟩, by dsimp only; omega, ⟨rfl, trivial⟩, (by repeat (first | exact zq | refine zx rfl ?_ | refine zt rfl rfl ?_)), zO (by dsimp only; rw [List.map_set]; rfl)⟩
  ·try simp at h2
   have hnk : x.Gives.length ≤ k := by omega
   obtain rfl : k = x.Gives.length := by omega
   rw [zaS (Nat.le_refl _), zbw] at hf
   refine z7 ?_
   refine zag ?_
   refine zbc ?_
   refine zT ?_
   refine zk ?_
   refine zm ?_
   refine zP (Ghost.fa 8 (i := 0) rfl rfl) ?_
   obtain ⟨e1, e2⟩ := zid (m := m) hf
   refine za ?_
   refine dq (zD zN rfl rfl rfl rfl) ?_
   refine dmv rfl ?_
   refine dq (zw ca77 rfl (WeakL.refl _) (zgz (by first | assumption | omega | (simp; omega) | simp_all) (by first | assumption | omega | (simp; omega) | simp_all))) ?_
   refine dq (zam rfl) ?_
   refine dn ?_
   refine zl rfl (fun h5 => ?_) (fun h6 => ?_)
   ·try simp at h5
    refine za ?_
    refine das rfl ?_
    refine das rfl ?_
    refine dn ?_
    refine zp ?_
    first
    | (refine zI rfl ?_
       have hy : zb1 m o x.Gives = true := by rw [e1]; simpa using h6
       show HVal.tup [zat D, .bool true] = _
       rw [zgR hy, hy, e2])
    | (refine zbo rfl ?_
       have hno : zb1 m o x.Gives = false := by rw [e1]; simpa using h5
       rw [zfu hno, hno]
       exact zan (zak 2) (Weak.refl _))
    | (have hno : zbw o x.Gives = none := by
        by_cases hco : 0 ≤ (za4 (fun y : OwnerS => y.Player == g.Player) D 0)
        ·obtain ⟨i0, hi0, hql, hq1, hq2, hq3⟩ := zgb hco
         have hi1 : (za4 (fun y : OwnerS => y.Player == g.Player) D 0).toNat = i0 := by rw [hi0]; rfl
         exact zfg hf hq1 hq2 hq3 (by have q := h3.resolve_left (by omega); rw [hi1] at q; simpa using q)
        ·exact zfM hf (zjM (by omega))
       obtain ⟨e1, e2⟩ := zeZ (m := m) hno
       exact ⟨_, [], Ghost.clear, _, _, rfl, zan (by rw [zfu e1]; exact zak 2) (by rw [e1]; exact Weak.refl _), rfl, rfl⟩)
   ·try simp at h6
    refine zo ?_
    refine zk ?_
    refine za ?_
    refine dmv rfl ?_
    refine das rfl ?_
    refine das rfl ?_
    refine dn ?_
    refine zp ?_
    first
    | (refine zI rfl ?_
       have hy : zb1 m o x.Gives = true := by rw [e1]; simpa using h6
       show HVal.tup [zat D, .bool true] = _
       rw [zgR hy, hy, e2])
    | (refine zbo rfl ?_
       have hno : zb1 m o x.Gives = false := by rw [e1]; simpa using h5
       rw [zfu hno, hno]
       exact zan (zak 2) (Weak.refl _))
    | (have hno : zbw o x.Gives = none := by
        by_cases hco : 0 ≤ (za4 (fun y : OwnerS => y.Player == g.Player) D 0)
        ·obtain ⟨i0, hi0, hql, hq1, hq2, hq3⟩ := zgb hco
         have hi1 : (za4 (fun y : OwnerS => y.Player == g.Player) D 0).toNat = i0 := by rw [hi0]; rfl
         exact zfg hf hq1 hq2 hq3 (by have q := h3.resolve_left (by omega); rw [hi1] at q; simpa using q)
        ·exact zfM hf (zjM (by omega))
       obtain ⟨e1, e2⟩ := zeZ (m := m) hno
       exact ⟨_, [], Ghost.clear, _, _, rfl, zan (by rw [zfu e1]; exact zak 2) (by rw [e1]; exact Weak.refl _), rfl, rfl⟩)
end
end Go.Proofs.YtpcaaekefgkhjaaGreatDoor
namespace Go.HL
section

end
section

end
section
open Go
/-- The pieces of a string between the places where a byte stands. -/
def spl (c : UInt8) : Str → List Str
 | [] => [[]]
 | b :: l => if b = c then [] :: spl c l else match spl c l with
   | [] => [[b]]
   | x :: r => (b :: x) :: r
theorem zr1 (c : UInt8) (s : Str) : spl c s ≠ [] := by
 cases s with
 | nil => simp [spl]
 | cons b l =>
   simp only [spl]
   split
   ·simp
   ·split <;> simp
theorem zqf {c : UInt8} (s : Str) : ∃ x r, spl c s = x :: r := by
 cases h : spl c s with
 | nil => exact absurd h (zr1 c s)
 | cons x r => exact ⟨x, r, rfl⟩
theorem zrT (c : UInt8) (l : Str) : spl c (c :: l) = [] :: spl c l := by simp [spl]
theorem zoy {b c : UInt8} (h : b ≠ c) {l x : Str} {r : List Str} (hl : spl c l = x :: r) : spl c (b :: l) = (b :: x) :: r := by
 simp only [spl, h, if_false, hl]
theorem zjm (c : UInt8) : ∀ (s : Str), ∀ x ∈ spl c s, x.length ≤ s.length
 | [], x, hx => by simp [spl] at hx; subst hx; simp
 | b :: l, x, hx => by
   have ih := zjm c l
   by_cases hb : b = c
   ·subst hb
    rw [zrT] at hx
    rcases List.mem_cons.1 hx with rfl | hx
    ·simp
    ·have := ih x hx; simp only [List.length_cons]; omega
   ·obtain ⟨y, r, hy⟩ := zqf (c := c) l
    rw [zoy hb hy] at hx
    rcases List.mem_cons.1 hx with rfl | hx
    ·have := ih y (by rw [hy]; simp); simp only [List.length_cons]; omega
    ·have := ih x (by rw [hy]; simp [hx]); simp only [List.length_cons]; omega
end
section

end
section

end
section
theorem zh9 {line : Str} (j : Nat) : ((spl 32 line).getD j []).length ≤ line.length := by
 rw [List.getD_eq_getElem?_getD]
 cases h : (spl 32 line)[j]? with
 | none => simp
 | some x => exact zjm 32 line x (List.mem_of_getElem? h)
end
section
theorem zm4 {s : Str} (h : key s = true) : s ≠ [] := by
 rintro rfl; simp [key, zgM] at h
end
section

end
section
theorem zo2 [Tracks] {rs : List ResultVar} {e e' : Env} {M M' : List MObj} {h h' : HVal} {Q : HVal → List MObj → Prop} (hg : Ghost e M e' M') (hr : zfq e' rs = some h) (hw : Weak h h') (hh : Q h' M') : zgr rs Q .ret e M :=
 ⟨e', M', hg, h, h', hr, hw, hh⟩
end
section

end
section
section
variable {α : Type} (rB : Str → Bool) (rP : Str → α) (F : List α → Int) (W : α → List Str) (enc : α → HVal) (sz : Nat)
end
end
section
/-! what the next line is -/
def zr8 : Str := [111, 102, 102, 101, 114]
def givS : Str := [103, 105, 118, 101]
def zpd (line : Str) : Bool := (spl 32 line).all fun w => !w.isEmpty
def odB (line : Str) : Bool := zpd line && ((spl 32 line).getD 0 [] == zr8) && ((((spl 32 line).length : Nat) : Int) == 5) && ((spl 32 line).drop 3).all (numB · 15)
def gvB (line : Str) : Bool := zpd line && ((spl 32 line).getD 0 [] == givS) && ((((spl 32 line).length : Nat) : Int) == 4)
def odP (line : Str) : DealS := ⟨(spl 32 line).getD 1 [], (spl 32 line).getD 2 [], zog ((spl 32 line).getD 3 []) 15, zog ((spl 32 line).getD 4 []) 15, []⟩
def gvP (line : Str) : GiveS := ⟨(spl 32 line).getD 1 [], (spl 32 line).getD 2 [], (spl 32 line).getD 3 []⟩
def addG (d : DealS) (g : GiveS) : DealS := { d with Gives := d.Gives ++ [g] }
def zng (ds : List DealS) (g : GiveS) : List DealS := ds.set (ds.length - 1) (addG (ds.getD (ds.length - 1) zcu) g)
def zqD (ds : List DealS) (line : Str) : List DealS := if odB line then ds ++ [odP line] else if gvB line then zng ds (gvP line) else ds
theorem zky {l : List Str} : ∀ (r : List Str) (k : Nat), zbM l k r = 0 → ∀ s ∈ r, key s = true
 | [], _, _, s, hs => by cases hs
 | x :: r, k, h, s, hs => by
   rw [zbM] at h
   split at h
   ·cases h
   ·rename_i h1
    split at h
    ·cases h
    ·rcases List.mem_cons.1 hs with rfl | hs
     ·simpa using h1
     ·exact zky r (k + 1) h s hs
theorem zlH {m : MarketS} (h : zad m = 0) : ∀ s ∈ m.Teams, key s = true := by
 unfold zad at h
 split at h
 ·cases h
 split at h
 ·cases h
 split at h
 ·rename_i h3; exact absurd h h3
 ·rename_i h3
  have h4 : ze4 m.Teams = 0 := by simpa using h3
  exact zky _ 0 h4
structure DealK (x : DealS) : Prop where
 id : key x.Id = true
 by' : key x.By = true
 fr : 0 ≤ x.From ∧ x.From ≤ 345686400000
 to : 0 ≤ x.To ∧ x.To ≤ 345686400000
 len : x.Gives.length ≤ 40
 gv : ∀ g ∈ x.Gives, key g.Player = true ∧ key g.From = true ∧ key g.To = true
theorem zrV {m : MarketS} (hm : zad m = 0) {x : DealS} (h : zaU m x = 0) : DealK x := by
 have hk := zlH hm
 obtain ⟨_, hg2, hg3, _⟩ := zdJ (zgp h)
 unfold zaU at h
 split at h
 ·cases h
 rename_i h1
 split at h
 ·cases h
 rename_i h2
 split at h
 ·cases h
 rename_i h3
 simp only [Bool.or_eq_true, not_or, Bool.not_eq_true] at h3
 have a1 := zej h3.1
 have a2 := zej h3.2
 refine ⟨by simpa using h1, hk _ (by simpa using h2), by omega, by omega, hg2, fun g hg => ?_⟩
 have h4 := hg3 g hg
 unfold zaH at h4
 split at h4
 ·cases h4
 rename_i h5
 split at h4
 ·cases h4
 rename_i h6
 simp only [Bool.or_eq_true, not_or] at h6
 exact ⟨by simpa using h5, hk _ (by simpa using h6.1), hk _ (by simpa using h6.2)⟩
theorem zrq {m : MarketS} {l : List DealS} (h : zcb m l = 0) : l.length ≤ 500 ∧ ∀ x ∈ l, DealK x := by
 obtain ⟨h1, h2⟩ := zfF h
 obtain ⟨h3, h4, _⟩ := zfK h2
 exact ⟨h3, fun x hx => zrV h1 (h4 x hx)⟩
end
section
structure GoodM (m : MarketS) : Prop where
 pos : 0 < m.Teams.length
 len : m.Teams.length ≤ 5
 sh : ∀ s ∈ m.Teams, s.length ≤ 10
def zb3 : List Str := [[116, 97], [116, 98], [116, 99], [116, 100]]
theorem zea : ∀ s ∈ zb3, s.length ≤ 10 := by decide
def zi4 (x : OwnerS) : Prop := Sh x.Player ∧ Sh x.Team
structure GoodOw (l : List OwnerS) : Prop where
 len : l.length ≤ 13
 all : ∀ x ∈ l, Sh x.Player ∧ Sh x.Team
def znH (x : ReplyS) : Prop := Sh x.Offer
structure GoodRp (l : List ReplyS) : Prop where
 len : l.length ≤ 12
 all : ∀ x ∈ l, Sh x.Offer
structure GoodDl1 (x : DealS) : Prop where
 id : Sh x.Id
 len : x.Gives.length ≤ 3
 all : ∀ g ∈ x.Gives, Sh g.Player
structure GoodDl (l : List DealS) : Prop where
 len : l.length ≤ 5
 all : ∀ x ∈ l, GoodDl1 x
theorem zfY {s : Str} {n : Nat} (h : s.length ≤ n) (hn : n ≤ 1000000) : Sh s := by unfold Sh; omega
theorem zrA [Tracks] {P : Program} {n : Nat} {e : Env} {M : List MObj} {c : Code} {Q : Exit → Env → List MObj → Prop} {i : Nat} {v : Value} {sz : Nat} {es : List HVal} (hm : M[i]? = some (.arr v sz es))
 (h : ∀ p b off cap, (p = some ⟨b, off, none⟩ ∨ es = []) → v = .slice p es.length cap → HWp P n c e M Q) : HWp P n c e M Q :=
 zc6 hm (fun h0 he => h none 0 0 0 (.inr he) (by rw [h0, he]; rfl)) (fun b off cap hv _ => h _ b off cap (.inl rfl) hv)
/-- What is left of a list, some of it gone. -/
structure LeftOf {α : Type} (l k : List α) : Prop where
 len : k.length ≤ l.length
 sub : ∀ x ∈ k, x ∈ l
theorem LeftOf.take {α : Type} {l D : List α} (n : Nat) (hl : D.length = l.length) (h : ∀ x ∈ D, x ∈ l) : LeftOf l (D.take n) :=
 ⟨by rw [List.length_take]; omega, fun x hx => h x (List.mem_of_mem_take hx)⟩
theorem LeftOf.refl {α : Type} (l : List α) : LeftOf l l := ⟨Nat.le_refl _, fun _ h => h⟩
end
section
/-- The slice in a cell of an element of an owned slice. -/
theorem Ghost.farr [Tracks] {e : Env} {M : List MObj} {i k r j : Nat} {u v : Value} {sz sz' : Nat} {es fs cs : List HVal} (hm : M[i]? = some (.arr v sz es)) (hk : (M.eraseIdx i)[k]? = some (.arr u sz' fs)) (hr : fs[r]? = some (.agg cs)) (hj : cs[j]? = some (.raw v)) :
 Ghost e M e ((M.eraseIdx i).set k (.arr u sz' (fs.set r (.agg (cs.set j (.slice sz es)))))) := fun P I F tmps w h1 hs => by
 obtain ⟨J, hl, hs', hv⟩ := (hs.pull hm).freeze_arr
 have hp := hs'.pull hk
 have hnd : (MObj.arr u sz' (fs.set r (.agg (cs.set j (.slice sz es))))).blocks.Nodup := by
  have := hp.nodup
  simp only [blocks, List.flatMap_cons] at this
  have h2 := (List.nodup_append.1 this).1
  have e1 : (MObj.arr u sz' (fs.set r (.agg (cs.set j (.slice sz es))))).blocks = (MObj.arr u sz' fs).blocks := by
   cases u <;> try rfl
   rename_i a _ _; cases a <;> rfl
  rw [e1]; exact h2
 have hbl : ∀ b ∈ (MObj.arr u sz' (fs.set r (.agg (cs.set j (.slice sz es))))).blocks, b ∈ (MObj.arr u sz' fs).blocks ∨ w.heap.size ≤ b := fun b hb => by
  left
  have e1 : (MObj.arr u sz' (fs.set r (.agg (cs.set j (.slice sz es))))).blocks = (MObj.arr u sz' fs).blocks := by
   cases u <;> try rfl
   rename_i a _ _; cases a <;> rfl
  rw [← e1]; exact hb
 refine ⟨J, hl, h1.mono hl, Sat.unpull hk (hp.change (m' := .arr u sz' (fs.set r (.agg (cs.set j (.slice sz es))))) (fun _ _ _ => rfl) hbl hnd ?_ rfl rfl rfl)⟩
 rcases hp.obj _ List.mem_cons_self with ⟨_, h0⟩ | ⟨b, off, cap, rc, el, fr, a1, a2, a3, a4, a5, a6, a7⟩
 ·rw [h0] at hr; simp at hr
 ·refine .inr ⟨b, off, cap, rc, el, fr, by rw [List.length_set]; exact a1, a2, a3, fun x hx => ?_, by rw [List.length_set]; exact a5, a6, fun i' j' e' c' v' b1 b2 b3 => ?_⟩
  ·rcases List.mem_or_eq_of_mem_set hx with hx | hx
   ·exact a4 x hx
   ·have := a4 _ (List.mem_of_getElem? hr)
    rw [hx]; simp only [zj, List.length_set] at this ⊢; exact this
  ·by_cases hi : i' = r
   ·subst hi
    have hlt := zM hr
    rw [List.getElem?_set_self hlt] at b1
    obtain rfl := Option.some.inj b1
    simp only [zj] at b2
    by_cases hj' : j' = j
    ·subst hj'
     have hjl := zM hj
     rw [List.getElem?_set_self hjl] at b2
     obtain rfl := Option.some.inj b2
     have := a7 i' j' _ _ v' hr hj b3
     rw [this.raw_inv]; exact hv
    ·rw [List.getElem?_set_ne (Ne.symm hj')] at b2
     exact a7 i' j' _ c' v' hr b2 b3
   ·rw [List.getElem?_set_ne (Ne.symm hi)] at b1
    exact a7 i' j' e' c' v' b1 b2 b3
/-- One after the other: the elements from n on hold their slices as owned ones. -/
theorem Ghost.fz_each [Tracks] {e : Env} {α β : Type} {A : List MObj} {u : Value} {sz sz' : Nat} {enc : α → HVal} {raw : α → Value → HVal} {st : α → List β} {eb : β → HVal} {j : Nat} {cs : α → Value → List HVal}
 (h1 : ∀ x v, raw x v = .agg (cs x v)) (h2 : ∀ x v, (cs x v)[j]? = some (.raw v)) (h3 : ∀ x v, HVal.agg ((cs x v).set j (.slice sz ((st x).map eb))) = enc x) :
 ∀ (O : List (α × Value)) (D : List α), Ghost e (A ++ .arr u sz' (D.map enc ++ O.map fun p => raw p.1 p.2) :: O.map fun p => .arr p.2 sz ((st p.1).map eb)) e (A ++ [.arr u sz' ((D ++ O.map (·.1)).map enc)])
 | [], D => by
   refine Ghost.of_eq ?_
   simp
 | p :: O, D => by
   have key := Ghost.fz_each (e := e) (A := A) (u := u) (sz := sz) (sz' := sz') h1 h2 h3 O (D ++ [p.1])
   have e9 : D ++ (p :: O).map (·.1) = (D ++ [p.1]) ++ O.map (·.1) := by simp
   rw [e9]
   refine Ghost.trans ?_ key
   have hm : (A ++ .arr u sz' (D.map enc ++ (p :: O).map fun p => raw p.1 p.2) :: (p :: O).map fun p => MObj.arr p.2 sz ((st p.1).map eb))[A.length + 1]? = some (.arr p.2 sz ((st p.1).map eb)) := by
    rw [List.getElem?_append_right (by omega)]; simp
   have he : (A ++ .arr u sz' (D.map enc ++ (p :: O).map fun p => raw p.1 p.2) :: (p :: O).map fun p => MObj.arr p.2 sz ((st p.1).map eb)).eraseIdx (A.length + 1) = A ++ .arr u sz' (D.map enc ++ (p :: O).map fun p => raw p.1 p.2) :: O.map fun p => MObj.arr p.2 sz ((st p.1).map eb) := by
    rw [List.eraseIdx_append_of_length_le (by omega)]; simp
   have hk : ((A ++ .arr u sz' (D.map enc ++ (p :: O).map fun p => raw p.1 p.2) :: (p :: O).map fun p => MObj.arr p.2 sz ((st p.1).map eb)).eraseIdx (A.length + 1))[A.length]? = some (.arr u sz' (D.map enc ++ (p :: O).map fun p => raw p.1 p.2)) := by
    rw [he]; simp
   have hr : (D.map enc ++ (p :: O).map fun p => raw p.1 p.2)[D.length]? = some (.agg (cs p.1 p.2)) := by
    rw [List.getElem?_append_right (by simp)]; simp [h1]
   have g := Ghost.farr (e := e) hm hk hr (h2 p.1 p.2)
   have e5 : ((A ++ .arr u sz' (D.map enc ++ (p :: O).map fun p => raw p.1 p.2) :: (p :: O).map fun p => MObj.arr p.2 sz ((st p.1).map eb)).eraseIdx (A.length + 1)).set A.length (.arr u sz' ((D.map enc ++ (p :: O).map fun p => raw p.1 p.2).set D.length (.agg ((cs p.1 p.2).set j (.slice sz ((st p.1).map eb)))))) = A ++ .arr u sz' ((D ++ [p.1]).map enc ++ O.map fun p => raw p.1 p.2) :: O.map fun p => MObj.arr p.2 sz ((st p.1).map eb) := by
    rw [he, h3, List.set_append_right _ _ (Nat.le_refl _)]
    simp
   rw [e5] at g
   exact g
end
section
abbrev DlV := DealS × Value
abbrev rDl (p : DlV) : HVal := .agg [.str p.1.Id, .str p.1.By, .int .i64 p.1.From, .int .i64 p.1.To, .raw p.2]
abbrev sDl (p : DlV) : MObj := .arr p.2 3 (p.1.Gives.map zbb)
def zrY (p : DlV) : Prop := GoodDl1 p.1 ∧ 0 < p.1.Gives.length
theorem zrt [Tracks] {P : Program} {s m0 m1 m3 : MObj} {T : List MObj} (J : Imm) (F : List MObj) (w : World) (hs : Sat P J ((s :: m0 :: m1 :: m3 :: T) ++ F) w) : Sat P J ((s :: m3 :: (T ++ [m0])) ++ F) w := by
 have h1 : Sat P J (m1 :: (s :: m0 :: m3 :: T) ++ F) w := hs.perm (((List.perm_middle (l₁ := [s, m0]) (a := m1) (l₂ := m3 :: T))).append_right F)
 have h2 : Sat P J ((s :: m0 :: m3 :: T) ++ F) w := h1.drop
 have hp : (s :: m0 :: m3 :: T).Perm (s :: m3 :: (T ++ [m0])) := by
  refine List.Perm.cons _ ((List.Perm.swap m3 m0 T).trans (List.Perm.cons _ ?_))
  exact (List.perm_append_comm (l₁ := [m0]) (l₂ := T))
 exact h2.perm (hp.append_right F)
/-- What an offer that gives nothing leaves behind is let go. -/
theorem Ghost.drop12 [Tracks] {e : Env} {s : MObj} {v : Value} {es cs : List HVal} {b : Nat} {T : List MObj} : Ghost e (s :: .arr v 3 es :: .cells b cs :: T) e (s :: T) :=
 (Ghost.perm (List.perm_middle (l₁ := [s]) (a := .arr v 3 es) (l₂ := .cells b cs :: T))).trans (Ghost.drop.trans ((Ghost.perm (List.Perm.swap _ _ _)).trans Ghost.drop))
theorem zkJ {α : Type} {l : List α} {j : Nat} {y : α} (hj : j < l.length) : (l.set j y).Perm (y :: l.eraseIdx j) := by
 rw [List.set_eq_take_append_cons_drop, if_pos hj, List.eraseIdx_eq_take_drop_succ]
 exact List.perm_middle
theorem zq5 {s m : MObj} {out : List DlV} {j : Nat} {n : DlV} (hj : j < out.length) : (sDl n :: s :: m :: (out.map sDl).eraseIdx j).Perm (s :: m :: (out.set j n).map sDl) := by
 have h : ((out.set j n).map sDl).Perm (sDl n :: (out.map sDl).eraseIdx j) := by
  rw [List.map_set]; exact zkJ (by simpa using hj)
 refine List.Perm.trans ?_ ((List.Perm.cons s (List.Perm.cons m h.symm)))
 exact (List.perm_middle (l₁ := [s, m]) (a := sDl n) (l₂ := (out.map sDl).eraseIdx j)).symm
theorem zpX {out : List DlV} {j : Nat} {x n : DlV} (hx : out[j]? = some x) (h : rDl n = rDl x) : (out.set j n).map rDl = out.map rDl := by
 rw [List.map_set, h]
 refine List.ext_getElem? fun i => ?_
 by_cases hj : i = j
 ·subst hj
  have hlt := zM hx
  rw [List.getElem?_set_self (by simpa using hlt), List.getElem?_map, hx]; rfl
 ·rw [List.getElem?_set_ne (Ne.symm hj)]
theorem zmB {out : List DlV} {j : Nat} {x n : DlV} (hx : out[j]? = some x) (h : sDl n = sDl x) : (out.set j n).map sDl = out.map sDl := by
 rw [List.map_set, h]
 refine List.ext_getElem? fun i => ?_
 by_cases hj : i = j
 ·subst hj
  have hlt := zM hx
  rw [List.getElem?_set_self (by simpa using hlt), List.getElem?_map, hx]; rfl
 ·rw [List.getElem?_set_ne (Ne.symm hj)]
theorem zn6 {l : List GiveS} {x : GiveS} : x ∈ zcn zci l → x ∈ l := fun h => (zkB (c := zci) l).mem_iff.1 h
end
section
theorem zhY : ∀ l : List OwnerS, zcK zaL l l = true
 | [] => rfl
 | a :: r => by simp [zcK, zgw, zhY r, zj, zgh, eqH]
theorem zrP {m : MarketS} (h : zad m = 0) (o : List OwnerS) (x : List DealS) (a c : List ReplyS) :
 zct m o = zbS m o ∧ zck m x = zcb m x ∧ zc1 m a = zcw m a ∧ orI [zcw m a, zc1 m c] = orI [zcw m a, zcw m c] := by
 have h1 : ¬ zad m ≠ 0 := by simp [h]
 have hr : ∀ z, zc1 m z = zcw m z := fun z => by rw [zcw, if_neg h1]
 exact ⟨by rw [zbS, if_neg h1], by rw [zcb, if_neg h1], hr a, by rw [hr c]⟩
theorem zrm {m : MarketS} (h : zad m = 0) (o : List OwnerS) (z : DealS) : zck m [z] = zcb m [z] ∧ orI [zbS m o, zcb m [z]] = zdd m o z := by
 have h1 : ¬ zad m ≠ 0 := by simp [h]
 exact ⟨by rw [zcb, if_neg h1], rfl⟩
def zdz : MarketS := ⟨[[97], [98]], 1, 0, 345686400000, 0, 2⟩
def zdx : DealS := ⟨[111], [97], 0, 1, [⟨[112], [97], [98]⟩]⟩
theorem zsj : zem [[97], [98]] = [[97], [98]] := by
 unfold zem; exact List.mergeSort_of_pairwise (by simp; decide)
theorem zsf : zaV [⟨[112], [97], [98]⟩] = [[97], [98]] := by
 show Lib.compact (zem [[97], [98]]) = _
 rw [zsj, zff]; rfl
theorem zoK : zaU zdz zdx = 0 := by
 have h1 : zaR zdz zdx.Gives = 0 := by kernel_rfl
 have h2 : (zaV zdx.Gives).contains zdx.By = true := by show (zaV [⟨[112], [97], [98]⟩]).contains [97] = true; rw [zsf]; rfl
 have h3 : key zdx.Id = true := by kernel_rfl
 have h4 : zdz.Teams.contains zdx.By = true := by kernel_rfl
 have h5 : (out zdx.To 1 345686400000 || out zdx.From 0 (zdx.To - 1)) = false := by kernel_rfl
 unfold zaU
 rw [h1, h2, h3, h4, h5]
 rfl
theorem znX : zad zdz = 0 := by kernel_rfl
theorem zln : zdd zdz [⟨[112], [97]⟩] zdx = 0 := by
 have h1 : zbS zdz [⟨[112], [97]⟩] = 0 := by kernel_rfl
 have h2 : zcb zdz [zdx] = 0 := by rw [← (zrm znX [] zdx).1, znU, zoK]
 rw [zdd, h1, h2]; rfl
theorem zoZ : zb1 zdz [⟨[112], [97]⟩] zdx.Gives = true := by kernel_rfl
theorem zrK : zi0 zdz [⟨[112], [97]⟩] zdx = [⟨[112], [98]⟩] := by
 rw [(zgk zln zoZ).1]; kernel_rfl
theorem zrS : ziF zdz [⟨[112], [97]⟩] zdx = 0 := (zgk zln zoZ).2
end
section

end
section

end
section
def zjX (a b : Of2) : Int := orI [zbu a.1 b.1, zbu a.2 b.2]
theorem zqW (a b : Of2) : zjX a b = if zbu a.1 b.1 ≠ 0 then zbu a.1 b.1 else zbu a.2 b.2 := by unfold zjX; rw [zpO]
theorem zoP (a b : Of2) : zjX a b = -zjX b a := by
 unfold zjX
 rw [zeV a.1, zeV a.2, zpM]
theorem zp0 : Cmp zjX (fun _ => True) where
 flip x y _ _ := by rw [zoP x y]; omega
 trans x y z _ _ _ h1 h2 := by
  rw [zqW] at *
  have k1 : zbu x.1 y.1 ≤ 0 := by split at h1 <;> omega
  have k2 : zbu y.1 z.1 ≤ 0 := by split at h2 <;> omega
  have k3 := zhB k1 k2
  split
  ·exact k3
  ·rename_i hz
   have hz' : zbu x.1 z.1 = 0 := by simpa using hz
   obtain ⟨e1, e2⟩ := zlP k1 k2 hz'
   rw [if_neg (by simp [e1])] at h1
   rw [if_neg (by simp [e2])] at h2
   exact zhB h1 h2
def OLt (a b : Of2) : Prop := zjX a b < 0
end
section
section
variable {κ : Type}
/-- The zdg maps by the outer key: block and entries. -/
abbrev GrM (κ : Type) := List (Str × (Nat × List (κ × Int)))
end
end
section
theorem zhI {α : Type} {s : Str} {v : α} : ∀ {G : List (Str × α)}, (zaz s v G).map (·.1) = zaX s (G.map (·.1))
 | [] => by simp [zaz, zaX]
 | p :: r => by
   have ih := zhI (s := s) (v := v) (G := r)
   simp only [zaz]
   by_cases h : s = p.1
   ·rw [if_pos h]
    unfold zaX
    rw [if_pos (by simp [h])]
    simp [h]
   ·rw [if_neg h, List.map_cons, ih]
    unfold zaX
    by_cases hc : (r.map (·.1)).contains s = true
    ·rw [if_pos hc, if_pos (by simp at hc ⊢; exact .inr hc)]; rfl
    ·rw [if_neg hc, if_neg (by simp at hc ⊢; exact ⟨h, hc⟩)]; rfl
theorem zil {α : Type} {s : Str} {v : α} {p : Str × α} : ∀ {G : List (Str × α)}, ANodup G → p ∈ zaz s v G → p = (s, v) ∨ (p ∈ G ∧ p.1 ≠ s)
 | [], _, h => by simp [zaz] at h; exact .inl h
 | q :: r, hn, h => by
   have h1 := List.nodup_cons.1 hn
   simp only [zaz] at h
   by_cases hs : s = q.1
   ·rw [if_pos hs] at h
    rcases List.mem_cons.1 h with h | h
    ·exact .inl h
    ·refine .inr ⟨List.mem_cons_of_mem _ h, fun e => h1.1 ?_⟩
     show q.1 ∈ r.map (·.1)
     rw [← hs, ← e]; exact List.mem_map_of_mem h
   ·rw [if_neg hs] at h
    rcases List.mem_cons.1 h with h | h
    ·subst h; exact .inr ⟨by simp, fun e => hs e.symm⟩
    ·rcases zil h1.2 h with e | e
     ·exact .inl e
     ·exact .inr ⟨List.mem_cons_of_mem _ e.1, e.2⟩
section
variable {κ : Type}
/-- The maps of maps hold the zbi sums. -/
structure GrOk (S : List Str) (c : List ((Str × κ) × Int)) (G : GrM κ) : Prop where
 keys : G.map (·.1) = S
 nodup : S.Nodup
 val : ∀ p ∈ G, p.2.2 = zdg c p.1
 inS : ∀ e ∈ c, e.1.1 ∈ S
theorem GrOk.anodup {S : List Str} {c : List ((Str × κ) × Int)} {G : GrM κ} (h : GrOk S c G) : ANodup G := by unfold ANodup; rw [h.keys]; exact h.nodup
theorem GrOk.nil : GrOk ([] : List Str) ([] : List ((Str × κ) × Int)) [] := ⟨rfl, List.nodup_nil, (fun p h => by cases h), (fun e h => by cases h)⟩
theorem GrOk.get {S : List Str} {c : List ((Str × κ) × Int)} {G : GrM κ} (h : GrOk S c G) {s : Str} {b : Nat} {L : List (κ × Int)} (hq : alk s G = some (b, L)) : L = zdg c s := h.val _ (ze8 hq)
theorem GrOk.none {S : List Str} {c : List ((Str × κ) × Int)} {G : GrM κ} (h : GrOk S c G) {s : Str} : alk s G = none ↔ s ∉ S := by rw [zjV, h.keys]
theorem zoJ {S : List Str} {c : List ((Str × κ) × Int)} {s : Str} (h : ∀ e ∈ c, e.1.1 ∈ S) (hs : s ∉ S) : zdg c s = [] := by
 unfold zdg
 rw [List.map_eq_nil_iff, List.filter_eq_nil_iff]
 intro e he hq
 exact hs ((eq_of_beq hq) ▸ h e he)
theorem GrOk.add {S : List Str} {c : List ((Str × κ) × Int)} {G : GrM κ} (h : GrOk S c G) {s : Str} (b : Nat) (hs : alk s G = Option.none) : GrOk (zaX s S) c (zaz s (b, []) G) := by
 have hn := h.none.1 hs
 refine ⟨by rw [zhI, h.keys], zhJ h.nodup, fun p hp => ?_, fun e he => zjB.2 (.inr (h.inS e he))⟩
 rcases zil h.anodup hp with rfl | ⟨hp, _⟩
 ·exact (zoJ h.inS hn).symm
 ·exact h.val p hp
variable [DecidableEq κ]
theorem GrOk.put {S : List Str} {c : List ((Str × κ) × Int)} {G : GrM κ} (h : GrOk S c G) {s : Str} {b : Nat} {L : List (κ × Int)} (hq : alk s G = some (b, L)) (k : κ) (v : Int) : GrOk S (zaz (s, k) v c) (zaz s (b, zaz k v L) G) := by
 have hs : s ∈ S := by
  refine Decidable.not_not.1 fun hn => ?_
  have := h.none.2 hn
  rw [this] at hq; cases hq
 refine ⟨?_, h.nodup, fun p hp => ?_, fun e he => ?_⟩
 ·rw [zhI, h.keys]
  unfold zaX
  rw [if_pos (by simpa using hs)]
 ·rw [zlg]
  rcases zil h.anodup hp with rfl | ⟨hp, hne⟩
  ·rw [if_pos rfl, ← h.get hq]
  ·rw [if_neg hne]; exact h.val p hp
 ·rcases zgt he with rfl | he
  ·exact hs
  ·exact h.inS e he
end
end
section

end
section
theorem OLt.trans {a b c : Of2} (h1 : OLt a b) (h2 : OLt b c) : OLt a c := zp0.lt_trans trivial trivial trivial h1 h2
end
section
/-- The plays of the sources that count. -/
def zsA (l : List Play) (trust : List Str) (n : Int) (x : Play) : Bool := decide (zs4 l trust n x.Match = some x.Source)
def kept (l : List Play) (trust : List Str) (n : Int) : List Play := l.filter (zsA l trust n)
end
section
structure ChkIs (q : ChkS) (l : List Play) : Prop where
 sn : q.S.Nodup
 s : ∀ s, s ∈ q.S ↔ ∃ x ∈ l, x.Source = s
 wn : ANodup q.W
 w : ∀ m, m ∈ q.W.map (·.1) ↔ ∃ x ∈ l, x.Match = m
 wv : ∀ m v, alk m q.W = some v → ∃ x ∈ l, x.Match = m ∧ x.Week = v
 c : q.c = false ↔ ∀ x ∈ l, ∀ y ∈ l, x.Match = y.Match → x.Week = y.Week
theorem ChkIs.step {q : ChkS} {l : List Play} (h : ChkIs q l) (p : Play) : ChkIs (zrH q p) (l ++ [p]) where
 sn := zhJ h.sn
 s s := by
  show s ∈ zaX p.Source q.S ↔ _
  rw [zjB, h.s]
  constructor
  ·rintro (rfl | ⟨x, hx, e⟩)
   ·exact ⟨p, by simp, rfl⟩
   ·exact ⟨x, List.mem_append_left _ hx, e⟩
  ·rintro ⟨x, hx, e⟩
   rcases List.mem_append.1 hx with hx | hx
   ·exact .inr ⟨x, hx, e⟩
   ·rw [List.mem_singleton.1 hx] at e; exact .inl e.symm
 wn := h.wn.put
 w m := by
  show m ∈ (zaz p.Match p.Week q.W).map (·.1) ↔ _
  rw [zim, h.w]
  constructor
  ·rintro (rfl | ⟨x, hx, e⟩)
   ·exact ⟨p, by simp, rfl⟩
   ·exact ⟨x, List.mem_append_left _ hx, e⟩
  ·rintro ⟨x, hx, e⟩
   rcases List.mem_append.1 hx with hx | hx
   ·exact .inr ⟨x, hx, e⟩
   ·rw [List.mem_singleton.1 hx] at e; exact .inl e.symm
 wv m v hv := by
  have hv' : alk m (zaz p.Match p.Week q.W) = some v := hv
  rw [zhg] at hv'
  by_cases e : m = p.Match
  ·rw [if_pos e] at hv'; cases hv'
   exact ⟨p, by simp, e.symm, rfl⟩
  ·rw [if_neg e] at hv'
   obtain ⟨x, hx, e1⟩ := h.wv m v hv'
   exact ⟨x, List.mem_append_left _ hx, e1⟩
 c := by
  show (q.c || ((alk p.Match q.W).isSome && ((alk p.Match q.W).getD 0 != p.Week))) = false ↔ _
  rw [Bool.or_eq_false_iff, h.c]
  constructor
  ·rintro ⟨h1, h2⟩
   have hp : ∀ x ∈ l, x.Match = p.Match → x.Week = p.Week := fun x hx e => by
    have hk : p.Match ∈ q.W.map (·.1) := (h.w _).2 ⟨x, hx, e⟩
    have hne : ¬ alk p.Match q.W = none := by rw [zjV]; exact fun z => z hk
    obtain ⟨v, hv⟩ := Option.ne_none_iff_exists'.1 hne
    rw [hv] at h2
    simp at h2
    obtain ⟨y, hy, e1, e2⟩ := h.wv _ _ hv
    rw [h1 x hx y hy (by rw [e, e1]), e2, h2]
   intro x hx y hy e
   rcases List.mem_append.1 hx with hx | hx <;> rcases List.mem_append.1 hy with hy | hy
   ·exact h1 x hx y hy e
   ·rw [List.mem_singleton.1 hy] at e ⊢; exact hp x hx e
   ·rw [List.mem_singleton.1 hx] at e ⊢; exact (hp y hy e.symm).symm
   ·rw [List.mem_singleton.1 hx, List.mem_singleton.1 hy]
  ·intro hall
   refine ⟨fun x hx y hy e => hall x (List.mem_append_left _ hx) y (List.mem_append_left _ hy) e, ?_⟩
   cases hv : alk p.Match q.W with
   | none => rfl
   | some v =>
     obtain ⟨y, hy, e1, e2⟩ := h.wv _ _ hv
     have := hall y (List.mem_append_left _ hy) p (by simp) e1
     simp
     rw [← e2, this]
end
section

end
section

end
section
section
variable {κ : Type}
end
end
section
section
variable {P : Program} {e : Env} {dst : Option Tmp} {ty : TypeId} {pos : String} {af : Array Edge} {g : Option (Nat × Bool)} {M : List MObj} {K : HVal → List MObj → Prop}
end
end
section
variable {P : Program}
open Go.Sort Go.Proofs
theorem zj7 [Tracks] {I : Imm} {F : List MObj} {w : World} {b off n cap : Nat} {l : List Int} (h : Sat P I (.arr (.slice (some ⟨b, off, none⟩) n cap) 1 (l.map (.int .i64)) :: F) w) :
 Holds (Value.int .i64) w b off l.toArray ∧ b < w.heap.size ∧ l.length ≤ cap ∧ n = l.length := by
 obtain ⟨h0, rc, el, fr, h2, h3, h4, h5, h6, h7⟩ := zft h
 simp only [List.length_map] at h0 h5
 refine ⟨fun j hj => ?_, ?_, h5.1, h0⟩
 ·have hj' : j < l.length := by simpa using hj
  have hlt : off + j < rc.size := by omega
  constructor
  ·rw [zfx h2, Array.getElem?_eq_getElem hlt]
   have hv := h7 j 0 (.int .i64 l[j]) (.int .i64 l[j]) rc[off + j] (by simp [hj']) (by simp [zj]) (by simp [Array.getElem?_eq_getElem hlt])
   rw [hv.int_inv]
   simp [hj']
  ·simp only [World.frozen?, h2]
   have := h3 (off + j) hlt
   simpa using this
 ·rcases Nat.lt_or_ge b w.heap.size with h' | h'
  ·exact h'
  ·simp [Array.getElem?_eq_none h'] at h2
theorem zmc [Tracks] {I : Imm} {F : List MObj} {w : World} {b off n cap n' k : Nat} {os : Array Obj} {l zs : List Int} (h : Sat P I (.arr (.slice (some ⟨b, off, none⟩) n cap) 1 (l.map (.int .i64)) :: F) w) (hz : zs.length = l.length) (hn : n' ≤ l.length) :
 Sat P I (.arr (.slice (some ⟨b, off, none⟩) n' cap) 1 ((zs.take n').map (.int .i64)) :: F) (grow (putRow (Value.int .i64) (Sort.ahead w k) b off zs.toArray) os) := by
 obtain ⟨h0, rc, el, fr, h2, h3, h4, h5, h6, h7⟩ := zft h
 simp only [List.length_map] at h0 h5
 have hlt : b < w.heap.size := by
  rcases Nat.lt_or_ge b w.heap.size with h' | h'
  ·exact h'
  ·simp [Array.getElem?_eq_none h'] at h2
 have hheap : ∀ c, c < w.heap.size → (grow (putRow (Value.int .i64) (Sort.ahead w k) b off zs.toArray) os).heap[c]? = (w.heap.modify b (onCells (putCells (Value.int .i64) off zs.toArray)))[c]? := fun c hc => by
  simp only [grow, putRow, mapBlock, Sort.ahead]
  rw [Array.getElem?_append_left (by simpa using hc)]
 refine h.change (m' := .arr (.slice (some ⟨b, off, none⟩) n' cap) 1 ((zs.take n').map (.int .i64))) (fun c hc hnc => ?_) (fun c hc => .inl hc) (by simp [MObj.blocks]) ?_ rfl rfl rfl
 ·rw [hheap c hc, Array.getElem?_modify]
  have : b ≠ c := fun hh => hnc (by subst hh; simp [MObj.blocks])
  rw [if_neg this]
 ·refine .inr ⟨b, off, cap, putCells (Value.int .i64) off zs.toArray rc, el, fr, ?_, ?_, ?_, ?_, ?_, ?_, ?_⟩
  ·simp [hz, Nat.min_eq_left hn]
  ·rw [hheap b hlt, Array.getElem?_modify, if_pos rfl, h2]; rfl
  ·simpa [putCells] using h3
  ·intro e he; obtain ⟨a, _, rfl⟩ := List.mem_map.1 he; simp [zj]
  ·simp; omega
  ·simpa [putCells] using h6
  ·intro i j e c v a1 a2 a3
   have hi : i < n' := by
    have := zM a1; simp at this; omega
   rw [List.getElem?_map, List.getElem?_take_of_lt hi] at a1
   cases hq : zs[i]? with
   | none => rw [hq] at a1; simp at a1
   | some s =>
     rw [hq] at a1; simp at a1; subst a1
     have hj : j = 0 := by have := zM a2; simp [zj] at this; omega
     subst hj
     simp [zj] at a2; subst a2
     have hil : i < zs.length := zM hq
     have hr : off + i * 1 + 0 < rc.size := by omega
     rw [putCells, Array.getElem?_mapIdx, Array.getElem?_eq_getElem hr, Option.map_some, if_pos ⟨by omega, by simp; omega⟩] at a3
     have e1 : off + i * 1 + 0 - off = i := by omega
     rw [e1] at a3
     have e2 : zs.toArray[i]! = s := by
      rw [getElem!_pos zs.toArray i (by simpa using hil)]
      have := List.getElem?_eq_getElem hil
      rw [hq] at this; simpa using (Option.some.inj this).symm
     rw [e2] at a3
     cases a3
     exact .int _ s

/-- A function that works on a slice of numbers in place and hands on nothing. -/
theorem zpU [Tracks] {P : Program} {f : FuncId} {l zs : List Int} {v : Value} (hz : zs.length = l.length)
 (h1 : ∀ (b off cap : Nat) (w : World), Holds (Value.int .i64) w b off l.toArray → b < w.heap.size → l.length ≤ cap → Calls P f #[.slice (some ⟨b, off, none⟩) l.length cap] w fun e w' => e = .returned (.tuple #[]) ∧ ∃ n os, w' = grow (putRow (Value.int .i64) (Sort.ahead w n) b off zs.toArray) os)
 (h0 : l = [] → zah P f [.slice 1 []] (.tup [])) : Con P f [.raw v] [.arr v 1 (l.map (.int .i64))] fun x M' => x = .tup [] ∧ M' = [.arr v 1 (zs.map (.int .i64))] := by
 intro I F w args ha hs
 obtain ⟨u, rfl, hu⟩ := ha.one
 obtain rfl : u = v := hu.raw_inv
 rcases hs.obj (.arr u 1 (l.map (.int .i64))) (by simp) with ⟨rfl, hn⟩ | ⟨b, off, cap, rc, el, fr, rfl, _⟩
 ·have hl : l = [] := by simpa using hn
  subst hl
  have hz0 : zs = [] := List.length_eq_zero_iff.1 hz
  subst hz0
  refine (h0 rfl I (.arr (.slice none 0 0) 1 [] :: F) w [.slice none 0 0] (VL.cons (.slice0 _ _ _) VL.nil) (by simpa using hs)).mono ?_
  rintro _ w' ⟨v, h, M', J, rfl, hle, ⟨rfl, rfl⟩, hv, hsat⟩
  exact ⟨v, _, [.arr (.slice none 0 0) 1 []], J, rfl, hle, ⟨rfl, rfl⟩, hv, by simpa using hsat⟩
 ·rw [List.length_map] at hs ⊢
  obtain ⟨g1, g2, g3, g4⟩ := zj7 hs
  refine (h1 b off cap w g1 g2 g3).mono ?_
  rintro _ w' ⟨rfl, n, os, rfl⟩
  refine ⟨_, .tup [], _, I, rfl, .refl I, ⟨rfl, rfl⟩, .tup (by simp) (fun j c v h _ => by simp at h), ?_⟩
  have := zmc (n' := l.length) (k := n) (os := os) hs hz (Nat.le_refl _)
  rw [← hz, List.take_length, hz] at this
  exact this
/-- The same, where the slice comes back, cut. -/
theorem zo8 [Tracks] {P : Program} {f : FuncId} {l zs : List Int} {v : Value} (hz : zs.length ≤ l.length)
 (h1 : ∀ (b off cap : Nat) (w : World), Holds (Value.int .i64) w b off l.toArray → b < w.heap.size → l.length ≤ cap → Calls P f #[.slice (some ⟨b, off, none⟩) l.length cap] w fun e w' => e = .returned (.slice (some ⟨b, off, none⟩) zs.length cap) ∧ ∃ n, w' = putRow (Value.int .i64) (Sort.ahead w n) b off (zs ++ List.replicate (l.length - zs.length) 0).toArray)
 (h0 : l = [] → ∀ w, Calls P f #[.slice none 0 0] w fun e w' => e = .returned (.slice none 0 0) ∧ w' = w) : Con P f [.raw v] [.arr v 1 (l.map (.int .i64))] fun x M' => ∃ u, x = .raw u ∧ M' = [.arr u 1 (zs.map (.int .i64))] := by
 intro I F w args ha hs
 obtain ⟨u, rfl, hu⟩ := ha.one
 obtain rfl : u = v := hu.raw_inv
 rcases hs.obj (.arr u 1 (l.map (.int .i64))) (by simp) with ⟨rfl, hn⟩ | ⟨b, off, cap, rc, el, fr, rfl, _⟩
 ·have hl : l = [] := by simpa using hn
  subst hl
  have hz0 : zs = [] := List.length_eq_zero_iff.1 (by simpa using hz)
  subst hz0
  refine (h0 rfl w).mono ?_
  rintro _ w' ⟨rfl, rfl⟩
  exact ⟨_, .raw (.slice none 0 0), _, I, rfl, .refl I, ⟨_, rfl, rfl⟩, .raw _ rfl, hs⟩
 ·rw [List.length_map] at hs ⊢
  obtain ⟨g1, g2, g3, g4⟩ := zj7 hs
  refine (h1 b off cap w g1 g2 g3).mono ?_
  rintro _ w' ⟨rfl, n, rfl⟩
  refine ⟨_, .raw (.slice (some ⟨b, off, none⟩) zs.length cap), _, I, rfl, .refl I, ⟨_, rfl, rfl⟩, .raw _ rfl, ?_⟩
  have := zmc (zs := zs ++ List.replicate (l.length - zs.length) 0) (n' := zs.length) (k := n) (os := #[]) hs (by simp; omega) hz
  rw [List.take_left' rfl, grow_empty] at this
  exact this
theorem zmd {l : List Int} {z : Int} : z ∈ Lib.compact l ↔ z ∈ l := by
 unfold Lib.compact Lib.compactUpTo
 rw [List.mem_map]
 have hget : ∀ j, (hj : j < l.length) → l.toArray[j]! = l[j] := fun j hj => by rw [getElem!_pos l.toArray j (by simpa using hj)]; simp
 constructor
 ·rintro ⟨j, hj, rfl⟩
  have hlt := List.mem_range.1 (List.mem_filter.1 hj).1
  rw [hget j hlt]; exact List.getElem_mem _
 ·intro hz
  obtain ⟨j, hj⟩ := List.getElem?_of_mem hz
  induction j with
  | zero =>
    have h0 := zM hj
    refine ⟨0, List.mem_filter.2 ⟨List.mem_range.2 h0, by simp [Lib.keeps]⟩, ?_⟩
    rw [hget 0 h0]
    rw [List.getElem?_eq_getElem h0] at hj
    exact Option.some.inj hj
  | succ j ih =>
    have h1 := zM hj
    have e1 : l[j + 1] = z := by
     rw [List.getElem?_eq_getElem h1] at hj
     exact Option.some.inj hj
    by_cases h : l[j]? = some z
    ·exact ih h
    ·refine ⟨j + 1, List.mem_filter.2 ⟨List.mem_range.2 h1, ?_⟩, ?_⟩
     ·unfold Lib.keeps
      rw [decide_eq_true_eq]
      right
      rw [hget _ h1, Nat.add_sub_cancel, hget j (by omega), e1]
      intro e
      apply h
      rw [List.getElem?_eq_getElem (by omega), ← e]
     ·rw [hget _ h1, e1]
def zd4 (l : List Int) : List Int := l.mergeSort fun x y => decide (x ≤ y)
theorem zgV (l : List Int) : (zd4 l).length = l.length := by simp [zd4]
theorem zo7 {l : List Int} {z : Int} : z ∈ zd4 l ↔ z ∈ l := (List.mergeSort_perm _ _).mem_iff
theorem zg0 (l : List Int) : (Lib.compact l).length ≤ l.length := by
 unfold Lib.compact Lib.compactUpTo
 rw [List.length_map]
 exact Nat.le_trans (List.length_filter_le _ _) (by simp)
end
section
section
variable {κ : Type} [DecidableEq κ] {β : Type}
end
section
variable {P : Program} {e : Env} {κ : Type} [DecidableEq κ] {β : Type} {eb : β → HVal}
theorem EOp.post_ghost [Tracks] {M : List MObj} {K : HVal → List MObj → Prop} {o : Oper} (h : EOp P e M o fun x N => ∃ N', (∀ J F w, Sat P J (N ++ F) w → Sat P J (N' ++ F) w) ∧ K x N') : EOp P e M o K := fun I F a w ho hs =>
 Oper.wp_noQ (fun _ _ ⟨v, x, M', J, h1, h2, ⟨N', h3, h4⟩, h5, h6⟩ => ⟨v, x, N', J, h1, h2, h4, h5, h3 J F _ h6⟩) (h I F a w ho hs)
end
end
section
/-! lines by their places, with mends -/
abbrev GrS := List (Plc × List StatS)
def zof (x : MendS) (l : List StatS) : List StatS := l.filter fun s => !(s.Name == x.Stat)
def zkp (x : MendS) (l : List StatS) : List StatS := zof x l ++ if x.Count ≠ 0 then [⟨x.Stat, x.Count⟩] else []
def zj6 (n : Int) (G : GrS) (x : MendS) : GrS := if n < x.At then G else zaz (x.Player, x.Week) (zkp x ((alk (x.Player, x.Week) G).getD [])) G
def GLen (b : Nat) (G : GrS) : Prop := ∀ q ∈ G, q.2.length ≤ b
theorem GLen.put {b : Nat} {G : GrS} {p : Plc} {l : List StatS} (h : GLen b G) (hl : l.length ≤ b) : GLen b (zaz p l G) := fun q hq => by
 rcases zgt hq with rfl | hq
 ·exact hl
 ·exact h q hq
theorem GLen.get {b : Nat} {G : GrS} (h : GLen b G) (p : Plc) : ((alk p G).getD []).length ≤ b := by
 cases hq : alk p G with
 | none => simp
 | some l => exact h _ (ze8 hq)
theorem GLen.up {b c : Nat} {G : GrS} (h : GLen b G) (hb : b ≤ c) : GLen c G := fun q hq => Nat.le_trans (h q hq) hb
theorem zoW (x : MendS) (l : List StatS) : (zof x l).length ≤ l.length := List.length_filter_le _ _
theorem zot (x : MendS) (l : List StatS) : (zkp x l).length ≤ l.length + 1 := by
 have := zoW x l
 unfold zkp; rw [List.length_append]; split
 ·simp only [List.length_cons, List.length_nil]; omega
 ·simp only [List.length_nil]; omega
theorem GLen.step {b : Nat} {n : Int} {G : GrS} {x : MendS} (h : GLen b G) : GLen (b + 1) (zj6 n G x) := by
 unfold zj6; split
 ·exact h.up (by omega)
 ·refine (h.up (by omega)).put ?_
  have h1 := zot x ((alk (x.Player, x.Week) G).getD [])
  have h2 := h.get (x.Player, x.Week)
  omega
def GNm (G : GrS) : Prop := ∀ q ∈ G, (q.2.map (·.Name)).Nodup
theorem GNm.put {G : GrS} {p : Plc} {l : List StatS} (h : GNm G) (hl : (l.map (·.Name)).Nodup) : GNm (zaz p l G) := fun q hq => by
 rcases zgt hq with rfl | hq
 ·exact hl
 ·exact h q hq
theorem GNm.get {G : GrS} (h : GNm G) (p : Plc) : (((alk p G).getD []).map (·.Name)).Nodup := by
 cases hq : alk p G with
 | none => exact List.nodup_nil
 | some l => exact h _ (ze8 hq)
theorem zm5 {x : MendS} {l : List StatS} (h : (l.map (·.Name)).Nodup) : ((zkp x l).map (·.Name)).Nodup := by
 have h1 : ((zof x l).map (·.Name)).Nodup := h.sublist ((List.filter_sublist).map _)
 unfold zkp
 split
 ·rw [List.map_append]
  refine List.nodup_append.2 ⟨h1, by simp, fun a ha b hb => ?_⟩
  simp at hb; subst hb
  obtain ⟨s, hs, rfl⟩ := List.mem_map.1 ha
  have := (List.mem_filter.1 hs).2
  simpa using this
 ·rw [List.append_nil]; exact h1
theorem GNm.step {n : Int} {G : GrS} {x : MendS} (h : GNm G) : GNm (zj6 n G x) := by
 unfold zj6; split
 ·exact h
 ·exact h.put (zm5 (h.get _))
end
section
theorem zfT (l : List Int) : ∀ m, m ≤ l.length → Lib.compactUpTo l.toArray m = zco none (l.take m)
 | 0, _ => by simp [Lib.compactUpTo, zco]
 | m + 1, h => by
   have hm : m < l.length := by omega
   have hx := List.getElem?_eq_getElem hm
   rw [Lib.compactUpTo_succ, zfT l m (by omega), zaE hx, zj4]
   congr 1
   have e1 : l.toArray[m]! = l[m] := by simp [getElem!_pos, hm]
   rw [e1]
   cases m with
   | zero => simp [Lib.keeps]
   | succ m =>
     have hl : (l.take (m + 1)).getLast? = some l[m] := by
      rw [zaE (List.getElem?_eq_getElem (show m < l.length by omega)), List.getLast?_append]; rfl
     have e2 : l.toArray[m]! = l[m] := by simp [getElem!_pos, show m < l.length by omega]
     rw [hl]
     simp only [Lib.keeps, e1, Nat.add_sub_cancel, e2]
     by_cases hh : l[m] = l[m + 1]
     ·simp [hh]
     ·have hh' : ¬ l[m + 1] = l[m] := fun h => hh h.symm
      simp [hh, hh']
theorem zlV (l : List Int) : Lib.compact l = zco none l := by
 unfold Lib.compact
 rw [zfT l _ (Nat.le_refl _), List.take_length]
theorem znO (l : List Int) : (zd4 l).Pairwise fun a b => zdh a b ≤ 0 := by
 have := List.pairwise_mergeSort (le := fun x y : Int => decide (x ≤ y)) (fun a b c h1 h2 => by simp only [decide_eq_true_eq] at *; omega) (fun a b => by simp only [Bool.or_eq_true, decide_eq_true_eq]; omega) l
 exact this.imp fun {a b} h => by rw [zkK]; simpa using h
theorem zlW (l : List Int) : (Lib.compact (zd4 l)).Pairwise fun a b => a < b := by
 rw [zlV]
 have h1 := znO l
 have h2 := zod (c := zdh) (znt fun x : Int => x) (zjD (c := zdh) (zd4 l) none h1 (fun q e => by cases e)).1 fun i x y hx hy e => by
  have := ziG (c := zdh) (zd4 l) none h1 (fun q e => by cases e) i x y hx hy
  exact this (zor.1 e)
 refine h2.imp fun {a b} h => ?_
 have h3 : ¬ b ≤ a := fun h4 => by
  have h5 := zkK.2 h4
  have h6 := zlI a b
  omega
 omega
end
section

end
section
structure GdN (n k : Nat) (ds : List DealS) : Prop where
 len : ds.length ≤ k
 all : ∀ x ∈ ds, x.Id.length ≤ n ∧ x.Gives.length ≤ k ∧ ∀ g ∈ x.Gives, g.Player.length ≤ n
theorem GdN.step {n k : Nat} {ds : List DealS} {s : Str} (h : GdN n k ds) (hs : s.length ≤ n) : GdN n (k + 1) (zqD ds s) := by
 obtain ⟨h1, h2⟩ := h
 have h2' : ∀ x ∈ ds, x.Id.length ≤ n ∧ x.Gives.length ≤ k + 1 ∧ ∀ g ∈ x.Gives, g.Player.length ≤ n := fun x hx => ⟨(h2 x hx).1, by have := (h2 x hx).2.1; omega, (h2 x hx).2.2⟩
 unfold zqD
 split
 ·refine ⟨by simp; omega, fun x hx => ?_⟩
  rcases List.mem_append.1 hx with hx | hx
  ·exact h2' x hx
  ·rw [List.mem_singleton.1 hx]
   exact ⟨Nat.le_trans (zh9 1) hs, Nat.zero_le _, fun g hg => by cases hg⟩
 split
 ·unfold zng
  refine ⟨by simp; omega, fun x hx => ?_⟩
  rcases List.mem_or_eq_of_mem_set hx with hx | hx
  ·exact h2' x hx
  ·subst hx
   have hy : (ds.getD (ds.length - 1) zcu).Id.length ≤ n ∧ (ds.getD (ds.length - 1) zcu).Gives.length ≤ k ∧ ∀ g ∈ (ds.getD (ds.length - 1) zcu).Gives, g.Player.length ≤ n := by
    rw [List.getD_eq_getElem?_getD]
    cases hq : ds[ds.length - 1]? with
    | none => exact ⟨Nat.zero_le _, Nat.zero_le _, fun g hg => by cases hg⟩
    | some y => exact h2 y (List.mem_of_getElem? hq)
   refine ⟨hy.1, by show ((_ : List GiveS) ++ [_]).length ≤ _; rw [List.length_append]; have := hy.2.1; simp only [List.length_cons, List.length_nil]; omega, fun g hg => ?_⟩
   rcases List.mem_append.1 hg with hg | hg
   ·exact hy.2.2 g hg
   ·rw [List.mem_singleton.1 hg]; exact Nat.le_trans (zh9 1) hs
 ·exact ⟨by omega, h2'⟩
end
end Go.HL
section
namespace Go.HL
theorem ziD {o : List OwnerS} : ∀ (l : List GiveS) (p d : List OwnerS), p.map (·.Player) = o.map (·.Player) → zbw p l = some d → d.map (·.Player) = o.map (·.Player)
 | [], p, d, hp, h => by rw [zbw] at h; cases h; exact hp
 | g :: r, p, d, hp, h => by
   rw [zbw] at h
   cases hs : zdo p g with
   | none => rw [hs] at h; cases h
   | some q =>
     rw [hs] at h
     refine ziD r q d ?_ h
     unfold zdo at hs
     split at hs
     ·rename_i y hy
      split at hs
      ·cases hs; rw [zkw hy, hp]
      ·cases hs
     ·cases hs
theorem zic {m : MarketS} {o : List OwnerS} {x : DealS} (h : zb1 m o x.Gives = true) : (zb8 o x.Gives).map (·.Player) = o.map (·.Player) := by
 unfold zb1 at h
 cases hd : zbw o x.Gives with
 | none => rw [hd] at h; cases h
 | some d => unfold zb8; rw [hd]; exact ziD x.Gives o d rfl hd
end Go.HL
namespace Go.HL
def za0 (m : MarketS) (o : List OwnerS) (l : List DealS) (a : List ReplyS) : Int := orI [zbS m o, zcb m l, zcw m a]
theorem zko {m : MarketS} (h : zad m ≠ 0) (o : List OwnerS) (l : List DealS) (a : List ReplyS) : za0 m o l a = zad m := by
 have h1 : zbS m o = zad m := by rw [zbS, if_pos h]
 unfold za0
 rw [h1, zjw, if_pos h]
theorem zlG {m : MarketS} (h : zad m = 0) (o : List OwnerS) (l : List DealS) (a : List ReplyS) : orI [zct m o, zck m l, zc1 m a] = za0 m o l a := by
 obtain ⟨h1, h2, h3, _⟩ := zrP h o l a a
 have h4 : ¬ zad m ≠ 0 := by simp [h]
 unfold za0
 rw [h1, h2, show zc1 m a = zcw m a by rw [zcw, if_neg h4]]
theorem zoQ {m : MarketS} {o : List OwnerS} {x : DealS} (h : zb1 m o x.Gives = true) : (zb8 o x.Gives).length = o.length := by
 have := congrArg List.length (zic h)
 simpa using this
end Go.HL
namespace Go.HL
end Go.HL
end
namespace Go.HL
section
/-- How an offer stands: 0 not yet, 1 open, 2 waits, 3 done, 4 refused, 5 back, 6 stopped, 7 late, 8 broken. -/
structure Dst where
 how : Int
 since : Int
 yes : List Str
 veto : List Str
def zdQ : Dst := ⟨0, 0, [], []⟩
abbrev DD := DealS × Dst
structure FS where
 o : List OwnerS
 ds : List DD
 log : List (DealS × List OwnerS)
def setH (p : DD) (how t : Int) : DD := (p.1, ⟨how, t, p.2.yes, p.2.veto⟩)
def zbB (t : Int) (p : DD) : DD := if p.2.how = 0 ∧ p.1.From = t then (p.1, ⟨1, t, zaX p.1.By p.2.yes, p.2.veto⟩) else p
def zbe (m : MarketS) (a : ReplyS) (p : DD) : DD :=
 if p.2.how ≠ 1 ∧ p.2.how ≠ 2 then p
 else if a.Kind = 1 ∧ (zaV p.1.Gives).contains a.Team = true ∧ p.2.how = 1 then
  if ((zaX a.Team p.2.yes).length : Int) = (zaV p.1.Gives).length then (p.1, ⟨2, a.At, zaX a.Team p.2.yes, p.2.veto⟩) else (p.1, ⟨p.2.how, p.2.since, zaX a.Team p.2.yes, p.2.veto⟩)
 else if a.Kind = 2 ∧ (zaV p.1.Gives).contains a.Team = true then setH p 4 a.At
 else if a.Kind = 4 ∧ a.Team = p.1.By then setH p 5 a.At
 else if a.Kind = 3 ∧ (zaV p.1.Gives).contains a.Team = false ∧ p.2.how = 2 then
  if ((zaX a.Team p.2.veto).length : Int) = m.Vetoes then (p.1, ⟨6, a.At, p.2.yes, zaX a.Team p.2.veto⟩) else (p.1, ⟨p.2.how, p.2.since, p.2.yes, zaX a.Team p.2.veto⟩)
 else p
def zcl (m : MarketS) (a : ReplyS) : List DD → List DD
 | [] => []
 | p :: r => if p.1.Id = a.Offer then zbe m a p :: r else p :: zcl m a r
def zaB (m : MarketS) (t : Int) (o : List OwnerS) (p : DD) : List OwnerS × DD × List (DealS × List OwnerS) :=
 if p.2.how = 2 ∧ p.2.since + m.Wait ≤ t then
  if m.Deadline ≤ t then (o, setH p 7 t, [])
  else if zb1 m o p.1.Gives = true then (zb8 o p.1.Gives, setH p 3 t, [(p.1, zb8 o p.1.Gives)])
  else (o, setH p 8 t, [])
 else if p.2.how = 1 ∧ (p.1.To ≤ t ∨ m.Deadline ≤ t) then (o, setH p 7 t, [])
 else (o, p, [])
def zaM (m : MarketS) (t : Int) : List OwnerS → List DD → FS
 | o, [] => ⟨o, [], []⟩
 | o, p :: r => ⟨(zaM m t (zaB m t o p).1 r).o, (zaB m t o p).2.1 :: (zaM m t (zaB m t o p).1 r).ds, (zaB m t o p).2.2 ++ (zaM m t (zaB m t o p).1 r).log⟩
def zcj (m : MarketS) (rs : List ReplyS) (ds : List DD) : List DD := rs.foldl (fun d r => zcl m r d) ds
def atL (a : List ReplyS) (t : Int) : List ReplyS := a.filter fun r => decide (r.At = t)
def stF (m : MarketS) (a : List ReplyS) (st : FS) (t : Int) : FS :=
 ⟨(zaM m t st.o (zcj m (atL a t) (st.ds.map (zbB t)))).o, (zaM m t st.o (zcj m (atL a t) (st.ds.map (zbB t)))).ds, st.log ++ (zaM m t st.o (zcj m (atL a t) (st.ds.map (zbB t)))).log⟩
def zl0 (o : List OwnerS) (l : List DealS) : FS := ⟨o, l.map fun x => (x, zdQ), []⟩
/-- What all moments before one have brought. -/
def zV (m : MarketS) (o : List OwnerS) (l : List DealS) (a : List ReplyS) : Nat → FS
 | 0 => zl0 o l
 | n + 1 => stF m a (zV m o l a n) n
/-! the offers stay the same -/
theorem zhM (t : Int) (p : DD) : (zbB t p).1 = p.1 := by unfold zbB; split <;> rfl
theorem zhO (m : MarketS) (a : ReplyS) (p : DD) : (zbe m a p).1 = p.1 := by
 unfold zbe
 split
 ·rfl
 split
 ·split <;> rfl
 split
 ·rfl
 split
 ·rfl
 split
 ·split <;> rfl
 ·rfl
theorem zjv (m : MarketS) (a : ReplyS) : ∀ ds : List DD, (zcl m a ds).map (·.1) = ds.map (·.1)
 | [] => rfl
 | p :: r => by
   rw [zcl]
   split
   ·simp [zhO]
   ·simp [zjv m a r]
theorem zmo (m : MarketS) (t : Int) (o : List OwnerS) (p : DD) : (zaB m t o p).2.1.1 = p.1 := by
 unfold zaB
 split
 ·split
  ·rfl
  split <;> rfl
 split <;> rfl
theorem zmM (m : MarketS) (t : Int) : ∀ (ds : List DD) (o : List OwnerS), (zaM m t o ds).ds.map (·.1) = ds.map (·.1)
 | [], _ => rfl
 | p :: r, o => by rw [zaM]; simp [zmo, zmM m t r]
theorem zjK (m : MarketS) : ∀ (rs : List ReplyS) (ds : List DD), (zcj m rs ds).map (·.1) = ds.map (·.1)
 | [], _ => rfl
 | a :: r, ds => by
   have := zjK m r (zcl m a ds)
   unfold zcj at this ⊢
   rw [List.foldl_cons, this, zjv]
theorem zkM (t : Int) (ds : List DD) : (ds.map (zbB t)).map (·.1) = ds.map (·.1) := by
 rw [List.map_map]; exact List.map_congr_left fun p _ => zhM t p
theorem zqO (m : MarketS) (a : List ReplyS) (st : FS) (t : Int) : (stF m a st t).ds.map (·.1) = st.ds.map (·.1) := by
 unfold stF; dsimp only
 rw [zmM, zjK, zkM]
theorem zbt (m : MarketS) (o : List OwnerS) (l : List DealS) (a : List ReplyS) : ∀ n, (zV m o l a n).ds.map (·.1) = l
 | 0 => by
   show (l.map fun x => (x, zdQ)).map (·.1) = l
   rw [List.map_map]
   exact (List.map_congr_left (g := id) fun _ _ => rfl).trans (List.map_id l)
 | n + 1 => by rw [zV, zqO, zbt m o l a n]
/-! what holds of each offer after all moments before one -/
structure DInv (m : MarketS) (n : Int) (p : DD) : Prop where
 zero : p.2.how = 0 → p.2.yes = [] ∧ p.2.veto = []
 fr : p.2.how ≠ 0 → p.1.From < n
 op : p.2.how = 1 → n ≤ p.1.To ∧ n ≤ m.Deadline ∧ p.2.yes.length ≠ (zaV p.1.Gives).length ∧ p.2.veto = []
 wt : p.2.how = 2 → n ≤ p.2.since + m.Wait ∧ (p.2.veto.length : Int) ≠ m.Vetoes
 since : p.2.how ≠ 0 → 0 ≤ p.2.since ∧ p.2.since < n
/-- The same within a za7: the offers of the za7 are open, but time has not passed. -/
structure DMid (m : MarketS) (n : Int) (p : DD) : Prop where
 zero : p.2.how = 0 → p.2.yes = [] ∧ p.2.veto = []
 fr : p.2.how ≠ 0 → p.1.From ≤ n
 op : p.2.how = 1 → p.2.yes.length ≠ (zaV p.1.Gives).length ∧ p.2.veto = []
 wt : p.2.how = 2 → (p.2.veto.length : Int) ≠ m.Vetoes
 since : p.2.how ≠ 0 → 0 ≤ p.2.since ∧ p.2.since ≤ n
theorem DInv.opn {m : MarketS} {n : Int} {p : DD} (hn : 0 ≤ n) (h : DInv m n p) (h2 : 2 ≤ (zaV p.1.Gives).length) : DMid m n (zbB n p) := by
 unfold zbB
 split
 ·rename_i hc
  obtain ⟨h0, h1⟩ := hc
  obtain ⟨hy, hv⟩ := h.zero h0
  refine ⟨fun e => by (simp [setH] at e), fun _ => by (dsimp only; omega), fun _ => ⟨?_, hv⟩, fun e => by (simp [setH] at e), fun _ => by (dsimp only; omega)⟩
  dsimp only
  rw [hy]
  have : (zaX p.1.By ([] : List Str)).length = 1 := rfl
  omega
 ·exact ⟨h.zero, fun e => by (have := h.fr e; omega), fun e => ⟨(h.op e).2.2.1, (h.op e).2.2.2⟩, fun e => (h.wt e).2, fun e => by (have := h.since e; omega)⟩
theorem DMid.ans {m : MarketS} {n : Int} {p : DD} {a : ReplyS} (hn : 0 ≤ n) (ha : a.At = n) (hv : 1 ≤ m.Vetoes) (h : DMid m n p) : DMid m n (zbe m a p) := by
 unfold zbe
 split
 ·exact h
 rename_i hh
 have h0 : p.2.how ≠ 0 := fun e => hh ⟨by omega, by omega⟩
 have hf := h.fr h0
 have hs := h.since h0
 split
 ·rename_i hc
  obtain ⟨_, _, h1⟩ := hc
  obtain ⟨o1, o2⟩ := h.op h1
  split
  ·refine ⟨fun e => by (simp [setH] at e), fun _ => hf, fun e => by (simp [setH] at e), fun _ => ?_, fun _ => by (dsimp only; omega)⟩
   dsimp only; rw [o2]; simp; omega
  ·rename_i hl
   exact ⟨fun e => absurd e h0, fun _ => hf, fun _ => ⟨by (dsimp only at hl ⊢; omega), o2⟩, fun e => by (dsimp only at e; omega), fun _ => hs⟩
 split
 ·exact ⟨fun e => by (simp [setH] at e), fun _ => hf, fun e => by (simp [setH] at e), fun e => by (simp [setH] at e), fun _ => by (unfold setH; dsimp only; omega)⟩
 split
 ·exact ⟨fun e => by (simp [setH] at e), fun _ => hf, fun e => by (simp [setH] at e), fun e => by (simp [setH] at e), fun _ => by (unfold setH; dsimp only; omega)⟩
 split
 ·rename_i hc
  obtain ⟨_, _, h2⟩ := hc
  split
  ·exact ⟨fun e => by (simp [setH] at e), fun _ => hf, fun e => by (simp [setH] at e), fun e => by (simp [setH] at e), fun _ => by (dsimp only; omega)⟩
  ·rename_i hl
   exact ⟨fun e => absurd e h0, fun _ => hf, fun e => by (dsimp only at e; omega), fun _ => hl, fun _ => hs⟩
 ·exact h
theorem DMid.pas {m : MarketS} {n : Int} {p : DD} {o : List OwnerS} (hn : 0 ≤ n) (h : DMid m n p) : DInv m (n + 1) (zaB m n o p).2.1 := by
 have key : ∀ k : Int, 3 ≤ k → p.2.how ≠ 0 → DInv m (n + 1) (setH p k n) := fun k hk h0 =>
  ⟨fun e => by (unfold setH at e; dsimp only at e; omega), fun _ => by (have := h.fr h0; unfold setH; dsimp only; omega), fun e => by (unfold setH at e; dsimp only at e; omega), fun e => by (unfold setH at e; dsimp only at e; omega), fun _ => by (unfold setH; dsimp only; omega)⟩
 unfold zaB
 split
 ·rename_i hc
  split
  ·exact key 7 (by omega) (by omega)
  split
  ·exact key 3 (by omega) (by omega)
  ·exact key 8 (by omega) (by omega)
 rename_i h2
 split
 ·exact key 7 (by omega) (by omega)
 rename_i h1
 refine ⟨h.zero, fun e => by (have := h.fr e; dsimp only; omega), fun e => ⟨?_, ?_, (h.op e).1, (h.op e).2⟩, fun e => ⟨?_, h.wt e⟩, fun e => by (have := h.since e; dsimp only; omega)⟩ <;> dsimp only at * <;> omega
def zd6 (P : DD → Prop) (ds : List DD) : Prop := ∀ p ∈ ds, P p
theorem zml {P : DD → Prop} {m : MarketS} {a : ReplyS} (hp : ∀ p, P p → P (zbe m a p)) : ∀ {ds : List DD}, zd6 P ds → zd6 P (zcl m a ds)
 | [], h => h
 | p :: r, h => by
   have hr := zml hp (ds := r) fun q hq => h q (List.mem_cons_of_mem p hq)
   rw [zcl]
   split
   ·intro q hq
    rcases List.mem_cons.1 hq with rfl | hq
    ·exact hp _ (h p (by simp))
    ·exact h q (List.mem_cons_of_mem p hq)
   ·intro q hq
    rcases List.mem_cons.1 hq with rfl | hq
    ·exact h _ (by simp)
    ·exact hr q hq
theorem zeK {P : DD → Prop} {m : MarketS} : ∀ {rs : List ReplyS} {ds : List DD}, (∀ a ∈ rs, ∀ p, P p → P (zbe m a p)) → zd6 P ds → zd6 P (zcj m rs ds)
 | [], _, _, h => h
 | a :: r, ds, hp, h => by
   have := zeK (m := m) (rs := r) (ds := zcl m a ds) (fun x hx => hp x (List.mem_cons_of_mem a hx)) (zml (hp a (by simp)) h)
   exact this
theorem zhV {P Q : DD → Prop} {m : MarketS} {t : Int} (hp : ∀ o p, P p → Q (zaB m t o p).2.1) : ∀ {ds : List DD} {o : List OwnerS}, zd6 P ds → zd6 Q (zaM m t o ds).ds
 | [], _, _ => fun q hq => by cases hq
 | p :: r, o, h => by
   have hr := zhV hp (ds := r) (o := (zaB m t o p).1) fun q hq => h q (List.mem_cons_of_mem p hq)
   rw [zaM]
   intro q hq
   rcases List.mem_cons.1 hq with rfl | hq
   ·exact hp o p (h p (by simp))
   ·exact hr q hq
/-- What a right market and right offers give. -/
structure FOk (m : MarketS) (l : List DealS) : Prop where
 veto : 1 ≤ m.Vetoes
 two : ∀ x ∈ l, 2 ≤ (zaV x.Gives).length
def At0 (m : MarketS) (l : List DealS) (n : Int) (p : DD) : Prop := DInv m n p ∧ p.1 ∈ l
theorem zfy {m : MarketS} {o : List OwnerS} {l : List DealS} {a : List ReplyS} (h : FOk m l) : ∀ n : Nat, zd6 (At0 m l n) (zV m o l a n).ds
 | 0 => fun p hp => by
   unfold zV zl0 at hp
   obtain ⟨x, hx, rfl⟩ := List.mem_map.1 hp
   exact ⟨⟨fun _ => ⟨rfl, rfl⟩, fun e => absurd rfl e, fun e => by (simp [zdQ] at e), fun e => by (simp [zdQ] at e), fun e => absurd rfl e⟩, hx⟩
 | n + 1 => by
   have ih := zfy (o := o) (a := a) h n
   rw [zV]
   have h1 : zd6 (fun p => DMid m n p ∧ p.1 ∈ l) ((zV m o l a n).ds.map (zbB n)) := fun p hp => by
    obtain ⟨q, hq, rfl⟩ := List.mem_map.1 hp
    obtain ⟨i1, i2⟩ := ih q hq
    exact ⟨i1.opn (by omega) (h.two _ i2), by rw [zhM]; exact i2⟩
   have h2 := zeK (m := m) (rs := atL a n) (P := fun p => DMid m n p ∧ p.1 ∈ l) (fun r hr p hp => by
    unfold atL at hr
    obtain ⟨_, hat⟩ := List.mem_filter.1 hr
    exact ⟨hp.1.ans (by omega) (by simpa using hat) h.veto, by rw [zhO]; exact hp.2⟩) h1
   have h3 := zhV (m := m) (t := n) (Q := fun p => DInv m (n + 1) p ∧ p.1 ∈ l) (o := (zV m o l a n).o) (fun o p hp => ⟨hp.1.pas (by omega), by rw [zmo]; exact hp.2⟩) h2
   intro p hp
   obtain ⟨h4, h5⟩ := h3 p hp
   have e : ((n + 1 : Nat) : Int) = (n : Int) + 1 := by omega
   refine ⟨?_, h5⟩; rw [e]; exact h4
/-! moments that bring nothing -/
def zhn (m : MarketS) (a : List ReplyS) (ds : List DD) (t : Int) : Prop :=
 t ≠ m.Deadline ∧ (∀ r ∈ a, r.At ≠ t) ∧ ∀ p ∈ ds, p.1.From ≠ t ∧ p.1.To ≠ t ∧ (p.2.how = 2 → p.2.since + m.Wait ≠ t)
theorem zj9 {m : MarketS} {t : Int} : ∀ (ds : List DD) (o : List OwnerS), (∀ p ∈ ds, ∀ o, zaB m t o p = (o, p, [])) → zaM m t o ds = ⟨o, ds, []⟩
 | [], _, _ => rfl
 | p :: r, o, h => by
   have hp := h p (by simp) o
   have ih := zj9 r o fun q hq => h q (List.mem_cons_of_mem p hq)
   rw [zaM, hp]
   dsimp only
   rw [ih]; rfl
theorem znT {m : MarketS} {a : List ReplyS} {st : FS} {t : Int} (hi : zd6 (DInv m t) st.ds) (hq : zhn m a st.ds t) : stF m a st t = st := by
 obtain ⟨q1, q2, q3⟩ := hq
 have e1 : st.ds.map (zbB t) = st.ds := by
  conv => rhs; rw [← List.map_id st.ds]
  refine List.map_congr_left fun p hp => ?_
  unfold zbB
  rw [if_neg fun hc => (q3 p hp).1 hc.2]; rfl
 have e2 : atL a t = [] := by
  unfold atL
  rw [List.filter_eq_nil_iff]
  intro r hr
  simpa using q2 r hr
 have e3 : zaM m t st.o st.ds = ⟨st.o, st.ds, []⟩ := zj9 _ _ fun p hp o => by
  have h := hi p hp
  obtain ⟨a1, a2, a3⟩ := q3 p hp
  unfold zaB
  rw [if_neg, if_neg]
  ·rintro ⟨h1, h2⟩
   have := h.op h1
   omega
  ·rintro ⟨h1, h2⟩
   have := h.wt h1
   have := a3 h1
   omega
 unfold stF
 rw [e1, e2]
 show (⟨(zaM m t st.o st.ds).o, (zaM m t st.o st.ds).ds, st.log ++ (zaM m t st.o st.ds).log⟩ : FS) = st
 rw [e3]; simp
/-- Through moments that bring nothing all stays. -/
theorem zlx {m : MarketS} {o : List OwnerS} {l : List DealS} {a : List ReplyS} (h : FOk m l) {q : Nat} : ∀ k : Nat, (∀ t : Nat, q ≤ t → t < q + k → zhn m a (zV m o l a q).ds t) → zV m o l a (q + k) = zV m o l a q
 | 0, _ => rfl
 | k + 1, hk => by
   have ih := zlx h k fun t h1 h2 => hk t h1 (by omega)
   rw [show q + (k + 1) = (q + k) + 1 by omega, zV]
   have hi : zd6 (DInv m ((q + k : Nat) : Int)) (zV m o l a (q + k)).ds := fun p hp => (zfy h (q + k) p hp).1
   rw [znT hi, ih]
   rw [ih]
   exact hk (q + k) (by omega) (by omega)
theorem zjz {m : MarketS} {o : List OwnerS} {l : List DealS} {a : List ReplyS} (h : FOk m l) {q n : Nat} (hn : q ≤ n) (hk : ∀ t : Nat, q ≤ t → t < n → zhn m a (zV m o l a q).ds t) : zV m o l a n = zV m o l a q := by
 have := zlx (o := o) (a := a) h (q := q) (n - q) (fun t h1 h2 => hk t h1 (by omega))
 rwa [show q + (n - q) = n by omega] at this
end
section
theorem zpN {α : Type} {M : List α} {i : Nat} {m m' : α} (h : M[i]? = some m) : ([m'] ++ M.eraseIdx i).Perm (M.set i m') := (zjy m' h).symm
/-- A call that changes one owned object: it stays at its place. -/
theorem zdp [Tracks] {P : Program} {e : Env} {dst : Option Tmp} {ty : TypeId} {pos : String} {af : Array Edge} {g : Option (Nat × Bool)} {M : List MObj} {K : HVal → List MObj → Prop} {f : FuncId} {args : Array Operand} {ats : Array TypeId}
 {hs hs' : List HVal} {i : Nat} {m m' : MObj} {h : HVal} (hc : Callable P f) (ha : zdq e args.toList = some hs) (hw : WeakL hs hs') (hm : M[i]? = some m)
 (hp : Con P f hs' [m] fun x M' => x = h ∧ M' = [m']) (hk : K h (M.set i m')) : EOp P e M ⟨dst, .call ⟨.value (.func f), args, ats⟩, ty, pos, af, g⟩ K := by
 refine EOp.post_ghost (ze hc ha hw hm hp ?_)
 rintro _ _ ⟨rfl, rfl⟩
 exact ⟨M.set i m', fun J F w hs => hs.perm ((zpN hm).append_right F), hk⟩
structure DV where
 p : DD
 b : Nat
 my : Nat
 mv : Nat
def cD (d : DV) : List HVal := [.str d.p.1.Id, .str d.p.1.By, .int .i64 d.p.1.From, .int .i64 d.p.1.To, zki d.p.1.Gives, .int .i64 d.p.2.how, .int .i64 d.p.2.since, eSs (zaV d.p.1.Gives), .raw (.map (some d.my)), .raw (.map (some d.mv))]
def o3 (d : DV) : List MObj := [.cells d.b (cD d), .map d.my (sk (zb6 d.p.2.yes)), .map d.mv (sk (zb6 d.p.2.veto))]
def flD (E : List DV) : List MObj := E.flatMap o3
abbrev pD (d : DV) : HVal := .raw (.pointer (some ⟨d.b, 0, none⟩))
def FL (bf : Nat) (m : MarketS) (o : List OwnerS) (fn : HVal) (E : List DV) : List MObj := .cells bf [.vptr (zj (zaC m)) 0, .slice 1 (E.map pD), zat o, fn] :: flD E
theorem zhf : ∀ {E : List DV} {k j : Nat} {d : DV}, E[k]? = some d → j < 3 → (flD E)[3 * k + j]? = (o3 d)[j]?
 | [], k, j, d, h, _ => by simp at h
 | e :: r, 0, j, d, h, hj => by
   simp at h; subst h
   show (o3 e ++ flD r)[3 * 0 + j]? = _
   rw [show 3 * 0 + j = j by omega, List.getElem?_append_left (by show j < 3; exact hj)]
 | e :: r, k + 1, j, d, h, hj => by
   simp at h
   show (o3 e ++ flD r)[3 * (k + 1) + j]? = _
   rw [List.getElem?_append_right (by show 3 ≤ _; omega), show 3 * (k + 1) + j - (o3 e).length = 3 * k + j by show 3 * (k + 1) + j - 3 = _; omega]
   exact zhf h hj
theorem znF : ∀ {E : List DV} {k j : Nat} {d d' : DV} {x : MObj}, E[k]? = some d → j < 3 → (o3 d).set j x = o3 d' → (flD E).set (3 * k + j) x = flD (E.set k d')
 | [], k, j, d, d', x, h, _, _ => by simp at h
 | e :: r, 0, j, d, d', x, h, hj, hx => by
   simp at h; subst h
   show (o3 e ++ flD r).set (3 * 0 + j) x = o3 d' ++ flD r
   rw [show 3 * 0 + j = j by omega, List.set_append_left _ _ (by show j < 3; exact hj), hx]
 | e :: r, k + 1, j, d, d', x, h, hj, hx => by
   simp at h
   show (o3 e ++ flD r).set (3 * (k + 1) + j) x = o3 e ++ flD (r.set k d')
   rw [List.set_append_right _ _ (by show 3 ≤ _; omega), show 3 * (k + 1) + j - (o3 e).length = 3 * k + j by show 3 * (k + 1) + j - 3 = _; omega, znF h hj hx]
section
variable {bf : Nat} {m : MarketS} {o : List OwnerS} {fn : HVal} {E : List DV} {k : Nat} {d : DV} {S : List MObj}
theorem zbx (h : E[k]? = some d) : (FL bf m o fn E ++ S)[3 * k + 1]? = some (.cells d.b (cD d)) := by
 have h1 := zhf h (j := 0) (by omega)
 have h2 : (flD E)[3 * k]? = some (.cells d.b (cD d)) := h1
 show (flD E ++ S)[3 * k]? = _
 rw [List.getElem?_append_left (zM h2)]; exact h2
theorem zoc (h : E[k]? = some d) : (FL bf m o fn E ++ S)[3 * k + 2]? = some (.map d.my (sk (zb6 d.p.2.yes))) := by
 have h2 : (flD E)[3 * k + 1]? = some (.map d.my (sk (zb6 d.p.2.yes))) := zhf h (j := 1) (by omega)
 show (flD E ++ S)[3 * k + 1]? = _
 rw [List.getElem?_append_left (zM h2)]; exact h2
theorem FL_v (h : E[k]? = some d) : (FL bf m o fn E ++ S)[3 * k + 3]? = some (.map d.mv (sk (zb6 d.p.2.veto))) := by
 have h2 : (flD E)[3 * k + 2]? = some (.map d.mv (sk (zb6 d.p.2.veto))) := zhf h (j := 2) (by omega)
 show (flD E ++ S)[3 * k + 2]? = _
 rw [List.getElem?_append_left (zM h2)]; exact h2
theorem zr5 {d' : DV} (h : E[k]? = some d) (hb : d'.b = d.b) : (E.set k d').map pD = E.map pD := by
 rw [List.map_set]
 refine List.ext_getElem? fun j => ?_
 by_cases e : k = j
 ·subst e
  rw [List.getElem?_set_self (by simpa using zM h), List.getElem?_map, h]
  show some (pD d') = some (pD d)
  unfold pD; rw [hb]
 ·rw [List.getElem?_set_ne e]
theorem zk5 {d' : DV} {x : MObj} {j : Nat} (h : E[k]? = some d) (hj : j < 3) (hb : d'.b = d.b) (hx : (o3 d).set j x = o3 d') : (FL bf m o fn E ++ S).set (3 * k + j + 1) x = FL bf m o fn (E.set k d') ++ S := by
 have h1 := znF h hj hx
 have hl : 3 * k + j < (flD E).length := by
  have h2 := zhf h hj
  rcases Nat.lt_or_ge (3 * k + j) (flD E).length with q | q
  ·exact q
  ·rw [List.getElem?_eq_none q] at h2
   have : j < (o3 d).length := hj
   rw [List.getElem?_eq_getElem this] at h2; cases h2
 unfold FL
 rw [zr5 h hb, ← h1]
 show _ :: ((flD E ++ S).set (3 * k + j) x) = _ :: (_ ++ S)
 rw [List.set_append_left _ _ hl]
/-- The record of an offer changes. -/
theorem zqF {w : Dst} (h : E[k]? = some d) (hy : w.yes = d.p.2.yes) (hv : w.veto = d.p.2.veto) : (FL bf m o fn E ++ S).set (3 * k + 1) (.cells d.b (cD { d with p := (d.p.1, w) })) = FL bf m o fn (E.set k { d with p := (d.p.1, w) }) ++ S :=
 zk5 (j := 0) (d' := { d with p := (d.p.1, w) }) h (by omega) rfl (by unfold o3; simp [hy, hv])
theorem zqw {w : List Str} (h : E[k]? = some d) : (FL bf m o fn E ++ S).set (3 * k + 2) (.map d.my (sk (zb6 w))) = FL bf m o fn (E.set k { d with p := (d.p.1, { d.p.2 with yes := w }) }) ++ S :=
 zk5 (j := 1) (d' := { d with p := (d.p.1, { d.p.2 with yes := w }) }) h (by omega) rfl rfl
theorem zsz {w : List Str} (h : E[k]? = some d) : (FL bf m o fn E ++ S).set (3 * k + 3) (.map d.mv (sk (zb6 w))) = FL bf m o fn (E.set k { d with p := (d.p.1, { d.p.2 with veto := w }) }) ++ S :=
 zk5 (j := 2) (d' := { d with p := (d.p.1, { d.p.2 with veto := w }) }) h (by omega) rfl rfl
end
/-! walks over all offers -/
def EK (f : DV → DV) (k : Nat) (E : List DV) : List DV := (E.take k).map f ++ E.drop k
theorem EK_0 (f : DV → DV) (E : List DV) : EK f 0 E = E := by simp [EK]
theorem zrZ (f : DV → DV) (E : List DV) : EK f E.length E = E.map f := by simp [EK]
theorem zo1 {f : DV → DV} {k : Nat} {E : List DV} {d : DV} (h : E[k]? = some d) : (EK f k E)[k]? = some d := by
 unfold EK
 have hl := zM h
 rw [List.getElem?_append_right (by simp; omega)]
 simp only [List.length_map, List.length_take, Nat.min_eq_left (Nat.le_of_lt hl), Nat.sub_self, List.getElem?_drop, Nat.add_zero]
 exact h
theorem zpq {f : DV → DV} {k : Nat} {E : List DV} {d : DV} (h : E[k]? = some d) : (EK f k E).set k (f d) = EK f (k + 1) E := by
 unfold EK
 have hl := zM h
 rw [List.set_append_right _ _ (by simp; omega), zaE h, List.map_append, zU h]
 simp only [List.length_map, List.length_take, Nat.min_eq_left (Nat.le_of_lt hl), Nat.sub_self]
 simp
theorem zrg {f : DV → DV} {k : Nat} {E : List DV} {d : DV} (h : E[k]? = some d) (hf : f d = d) : EK f (k + 1) E = EK f k E := by
 have h1 := zpq (f := f) h
 rw [hf] at h1
 rw [← h1]
 have hg := zo1 (f := f) h
 refine List.ext_getElem? fun j => ?_
 by_cases e : k = j
 ·subst e; rw [List.getElem?_set_self (zM hg), hg]
 ·rw [List.getElem?_set_ne e]
theorem zH [Tracks] {rs : List ResultVar} {e : Env} {M : List MObj} {h : HVal} {Q : HVal → List MObj → Prop} (hr : zfq e rs = some h) (hh : Q h M) : zgr rs Q .normal e M :=
 ⟨e, M, Ghost.sub (Sub.refl _), h, h, hr, Weak.refl _, hh⟩
def dU (d : DV) (w : Dst) : DV := { d with p := (d.p.1, w) }
def zfQ (t : Int) (d : DV) : DV := { d with p := zbB t d.p }
theorem zsb {t : Int} {d : DV} (h : d.p.2.how = 0 → ¬ d.p.1.From = t) : zfQ t d = d := by
 unfold zfQ zbB; rw [if_neg fun q => h q.1 q.2]
theorem zqS {bf : Nat} {m : MarketS} {o : List OwnerS} {fn : HVal} {E : List DV} {k : Nat} {d : DV} {S : List MObj} {t : Int} (h : d.p.2.how = 0 ∧ d.p.1.From = t) :
 FL bf m o fn ((E.set k (dU d ⟨1, t, d.p.2.yes, d.p.2.veto⟩)).set k { dU d ⟨1, t, d.p.2.yes, d.p.2.veto⟩ with p := ((dU d ⟨1, t, d.p.2.yes, d.p.2.veto⟩).p.1, { (dU d ⟨1, t, d.p.2.yes, d.p.2.veto⟩).p.2 with yes := zaX d.p.1.By d.p.2.yes }) }) ++ S = FL bf m o fn (E.set k (zfQ t d)) ++ S := by
 rw [List.set_set]
 unfold zfQ zbB
 rw [if_pos h]; rfl
end
section
def zbk (t out x : Int) : Int := if t < x then min out x else out
def zbR (m : MarketS) (t out : Int) (p : DD) : Int := if p.2.how = 2 then zbk t (zbk t (zbk t out p.1.From) p.1.To) (p.2.since + m.Wait) else zbk t (zbk t out p.1.From) p.1.To
def zcN (m : MarketS) (t : Int) (a : List ReplyS) : Int := match a with | [] => zbk t 345686400000 m.Deadline | r :: _ => zbk t (zbk t 345686400000 m.Deadline) r.At
def zcQ (m : MarketS) (t : Int) (a : List ReplyS) (ps : List DD) : Int := ps.foldl (zbR m t) (zcN m t a)
theorem zd9 (t out x : Int) : zbk t out x ≤ out := by unfold zbk; split <;> omega
theorem zgo {t out x : Int} (h : t < out) : t < zbk t out x := by unfold zbk; split <;> omega
theorem zf6 {t out x : Int} (h : t < x) : zbk t out x ≤ x := by unfold zbk; rw [if_pos h]; omega
theorem zp3 (m : MarketS) (t out : Int) (p : DD) : zbR m t out p ≤ out := by
 have h1 := zd9 t out p.1.From
 have h2 := zd9 t (zbk t out p.1.From) p.1.To
 have h3 := zd9 t (zbk t (zbk t out p.1.From) p.1.To) (p.2.since + m.Wait)
 unfold zbR; split <;> omega
theorem zpT {m : MarketS} {t out : Int} {p : DD} (h : t < out) : t < zbR m t out p := by
 have h2 := zgo (x := p.1.To) (zgo (x := p.1.From) h)
 unfold zbR; split
 ·exact zgo h2
 ·exact h2
theorem zrw {m : MarketS} {t out : Int} {p : DD} : (t < p.1.From → zbR m t out p ≤ p.1.From) ∧ (t < p.1.To → zbR m t out p ≤ p.1.To) ∧ (p.2.how = 2 → t < p.2.since + m.Wait → zbR m t out p ≤ p.2.since + m.Wait) := by
 have h2 := zd9 t (zbk t out p.1.From) p.1.To
 have h3 := zd9 t (zbk t (zbk t out p.1.From) p.1.To) (p.2.since + m.Wait)
 refine ⟨fun h => ?_, fun h => ?_, fun hh h => ?_⟩
 ·have h1 := zf6 (out := out) h
  unfold zbR; split <;> omega
 ·have h1 := zf6 (out := zbk t out p.1.From) h
  unfold zbR; split <;> omega
 ·unfold zbR; rw [if_pos hh]; exact zf6 h
theorem zhl (m : MarketS) (t : Int) : ∀ (ps : List DD) (out : Int), ps.foldl (zbR m t) out ≤ out
 | [], _ => Int.le_refl _
 | p :: r, out => by
   have h1 := zhl m t r (zbR m t out p)
   have h2 := zp3 m t out p
   rw [List.foldl_cons]; omega
theorem znA {m : MarketS} {t : Int} : ∀ (ps : List DD) (out : Int), t < out → t < ps.foldl (zbR m t) out
 | [], _, h => h
 | p :: r, out, h => by rw [List.foldl_cons]; exact znA r _ (zpT h)
theorem zo3 {m : MarketS} {t : Int} : ∀ (ps : List DD) (out : Int), ∀ p ∈ ps, (t < p.1.From → ps.foldl (zbR m t) out ≤ p.1.From) ∧ (t < p.1.To → ps.foldl (zbR m t) out ≤ p.1.To) ∧ (p.2.how = 2 → t < p.2.since + m.Wait → ps.foldl (zbR m t) out ≤ p.2.since + m.Wait)
 | [], _, p, hp => by cases hp
 | q :: r, out, p, hp => by
   rw [List.foldl_cons]
   rcases List.mem_cons.1 hp with rfl | hp
   ·obtain ⟨h1, h2, h3⟩ := zrw (m := m) (t := t) (out := out) (p := p)
    have h4 := zhl m t r (zbR m t out p)
    exact ⟨fun h => Int.le_trans h4 (h1 h), fun h => Int.le_trans h4 (h2 h), fun hh h => Int.le_trans h4 (h3 hh h)⟩
   ·exact zo3 r _ p hp
theorem zjC {m : MarketS} {t : Int} {a : List ReplyS} {ps : List DD} (h : t < 345686400000) : t < zcQ m t a ps ∧ zcQ m t a ps ≤ 345686400000 := by
 have h0 : t < zcN m t a ∧ zcN m t a ≤ 345686400000 := by
  have h1 := zd9 t 345686400000 m.Deadline
  have h2 := zgo (x := m.Deadline) h
  unfold zcN
  cases a with
  | nil => exact ⟨h2, h1⟩
  | cons r _ => have h3 := zd9 t (zbk t 345686400000 m.Deadline) r.At; exact ⟨zgo h2, by dsimp only; omega⟩
 exact ⟨znA ps _ h0.1, Int.le_trans (zhl m t ps _) h0.2⟩
/-- Between a za7 and the next one nothing happens. -/
theorem zjo {m : MarketS} {t u : Int} {a A : List ReplyS} {ps : List DD} (h1 : t < u) (h2 : u < zcQ m t a ps) (hs : ∀ r ∈ A, r.At ≤ t ∨ ∃ x, a.head? = some x ∧ t < x.At ∧ x.At ≤ r.At)
 (hw : ∀ p ∈ ps, p.2.how = 2 → t < p.2.since + m.Wait) : zhn m A ps u := by
 have hle : zcQ m t a ps ≤ zcN m t a := zhl m t ps _
 refine ⟨fun e => ?_, fun r hr e => ?_, fun p hp => ?_⟩
 ·subst e
  have h3 := zf6 (out := 345686400000) h1
  unfold zcN at hle
  cases a with
  | nil => dsimp only at hle; omega
  | cons r _ => have h4 := zd9 t (zbk t 345686400000 m.Deadline) r.At; dsimp only at hle; omega
 ·rcases hs r hr with h | ⟨x, hx, hy, h⟩
  ·omega
  ·cases a with
   | nil => cases hx
   | cons y _ =>
     simp at hx; subst hx
     unfold zcN at hle
     dsimp only at hle
     have := zf6 (out := zbk t 345686400000 m.Deadline) hy
     omega
 ·obtain ⟨n1, n2, n3⟩ := zo3 (m := m) (t := t) ps (zcN m t a) p hp
  refine ⟨fun e => ?_, fun e => ?_, fun hh e => ?_⟩
  ·have := n1 (by omega); unfold zcQ at h2; omega
  ·have := n2 (by omega); unfold zcQ at h2; omega
  ·have := n3 hh (hw p hp hh); unfold zcQ at h2; omega
end
end Go.HL
section
namespace Go.HL
section
variable {P : Program} {e : Env} {dst : Option Tmp} {ty : TypeId} {pos : String} {af : Array Edge} {g : Option (Nat × Bool)}
theorem zdb {t el : TypeId} (hu : P.underlying t = some (.pointer el)) (a : Option Addr) (w : World) : (Op.equal t (.pointer a) (.pointer none)).run P w = .ok a.isNone w := by
 have h : ∀ d, (Op.equalIn (d + 1) t (.pointer a) (.pointer none)).run P w = .ok a.isNone w := fun d => by
  cases a <;> simp only [Op.equalIn, Sem.run_bind, run_underlying hu, Result.andThen_ok, Sem.run_pure, Option.isNone]
 exact h 9999
/-- What a variable holds that is nil or points to contents. -/
def zgi : Option (List HVal) → HVal
 | none => .raw (.pointer none)
 | some cs => .vptr cs 0
theorem zf5 [Tracks] {x y : Operand} {t t' el : TypeId} {size bytes : Nat} {zero : Value} {o : Option (List HVal)} (hf : Fits P t (.ptr el) size bytes zero) (hx : zL e x = some (zgi o)) (hy : zL e y = some (.raw (.pointer none))) :
 POp P e ⟨dst, .binOp .eql t x y t', ty, pos, af, g⟩ (.bool o.isNone) :=
 POp.of_val fun I a w ho => by
  have hv := ho.one (x := x) (by simp [Op.operands]) hx
  have h2 := (ho.one (x := y) (by simp [Op.operands]) hy).raw_inv
  cases o with
  | none =>
    have h1 := hv.raw_inv
    refine ⟨_, ?_, .bool _⟩
    simp [execOp, h1, h2, eqGuard, binOp, zdb hf.ptrD]
  | some cs =>
    obtain ⟨b, base, rc, el', fr, h1, h3, h4, h5⟩ := hv.vptr_inv
    refine ⟨_, ?_, .bool _⟩
    simp [execOp, h1, h2, eqGuard, binOp, zdb hf.ptrD]
end
end Go.HL
namespace Go.HL
end Go.HL
end
namespace Go.HL
section
section
variable {P : Program} {e : Env} {dst : Option Tmp} {ty : TypeId} {pos : String} {af : Array Edge} {g : Option (Nat × Bool)}
theorem zkj [Tracks] {x y : Operand} {t t' el : TypeId} {size bytes : Nat} {zero : Value} {a : Option Addr} (hf : Fits P t (.ptr el) size bytes zero) (hx : zL e x = some (.raw (.pointer a))) (hy : zL e y = some (.raw (.pointer none))) :
 POp P e ⟨dst, .binOp .eql t x y t', ty, pos, af, g⟩ (.bool a.isNone) :=
 POp.of_val fun I s w ho => by
  have h1 := (ho.one (x := x) (by simp [Op.operands]) hx).raw_inv
  have h2 := (ho.one (x := y) (by simp [Op.operands]) hy).raw_inv
  refine ⟨_, ?_, .bool _⟩
  simp [execOp, h1, h2, eqGuard, binOp, zdb hf.ptrD]
end
theorem zba (l : List Str) : (sk (zb6 l)).length = l.length := by unfold sk zb6; simp
def dY (d : DV) (w : List Str) : DV := { d with p := (d.p.1, { d.p.2 with yes := w }) }
def dV (d : DV) (w : List Str) : DV := { d with p := (d.p.1, { d.p.2 with veto := w }) }
def dT (d : DV) (how t : Int) : DV := { d with p := setH d.p how t }
def dP (d : DV) (p : DD) : DV := { d with p := p }
theorem zmw {E : List DV} {k : Nat} {d : DV} (h : E[k]? = some d) : E.set k d = E := by
 refine List.ext_getElem? fun j => ?_
 by_cases e : k = j
 ·subst e; rw [List.getElem?_set_self (zM h), h]
 ·rw [List.getElem?_set_ne e]
section
variable {bf : Nat} {m : MarketS} {o : List OwnerS} {fn : HVal} {E : List DV} {k : Nat} {d : DV} {S : List MObj} {a : ReplyS}
theorem zbI {how t : Int} (h : E[k]? = some d) : (FL bf m o fn E ++ S).set (3 * k + 1) (.cells d.b (cD { d with p := setH d.p how t })) = FL bf m o fn (E.set k (dT d how t)) ++ S := zqF h rfl rfl
theorem zk3 {x : DV} (h : E[k]? = some d) : (E.set k x)[k]? = some x := List.getElem?_set_self (zM h)
theorem zeT (h : E[k]? = some d) (h1 : ¬ d.p.2.how = 1 ∧ ¬ d.p.2.how = 2) : FL bf m o fn E ++ S = FL bf m o fn (E.set k (dP d (zbe m a d.p))) ++ S := by
 have e : zbe m a d.p = d.p := by unfold zbe; rw [if_pos h1]
 rw [e]
 show _ = FL bf m o fn (E.set k d) ++ S
 rw [zmw h]
theorem zeW (h : E[k]? = some d) (h1 : ¬ (a.Kind = 1 ∧ (zaV d.p.1.Gives).contains a.Team = true ∧ d.p.2.how = 1)) (h2 : ¬ (a.Kind = 2 ∧ (zaV d.p.1.Gives).contains a.Team = true)) (h3 : ¬ (a.Kind = 4 ∧ a.Team = d.p.1.By))
 (h4 : ¬ (a.Kind = 3 ∧ (zaV d.p.1.Gives).contains a.Team = false ∧ d.p.2.how = 2)) : FL bf m o fn E ++ S = FL bf m o fn (E.set k (dP d (zbe m a d.p))) ++ S := by
 have e : zbe m a d.p = d.p := by
  unfold zbe; split
  ·rfl
  simp only [if_neg h1, if_neg h2, if_neg h3, if_neg h4]
 rw [e]
 show _ = FL bf m o fn (E.set k d) ++ S
 rw [zmw h]
theorem zcZ (h0 : ¬ (d.p.2.how ≠ 1 ∧ d.p.2.how ≠ 2)) (h1 : a.Kind = 1 ∧ (zaV d.p.1.Gives).contains a.Team = true ∧ d.p.2.how = 1) :
 (((zaX a.Team d.p.2.yes).length : Int) = (zaV d.p.1.Gives).length → dT (dY d (zaX a.Team d.p.2.yes)) 2 a.At = dP d (zbe m a d.p)) ∧ (¬ ((zaX a.Team d.p.2.yes).length : Int) = (zaV d.p.1.Gives).length → dY d (zaX a.Team d.p.2.yes) = dP d (zbe m a d.p)) := by
 refine ⟨fun h => ?_, fun h => ?_⟩
 ·unfold dP zbe; rw [if_neg h0, if_pos h1, if_pos h]; rfl
 ·unfold dP zbe; rw [if_neg h0, if_pos h1, if_neg h]; rfl
theorem zgU (h0 : ¬ (d.p.2.how ≠ 1 ∧ d.p.2.how ≠ 2)) (h1 : ¬ (a.Kind = 1 ∧ (zaV d.p.1.Gives).contains a.Team = true ∧ d.p.2.how = 1)) (h2 : a.Kind = 2 ∧ (zaV d.p.1.Gives).contains a.Team = true) : dT d 4 a.At = dP d (zbe m a d.p) := by
 unfold dP zbe; rw [if_neg h0, if_neg h1, if_pos h2]; rfl
theorem ze3 (h0 : ¬ (d.p.2.how ≠ 1 ∧ d.p.2.how ≠ 2)) (h1 : ¬ (a.Kind = 1 ∧ (zaV d.p.1.Gives).contains a.Team = true ∧ d.p.2.how = 1)) (h2 : ¬ (a.Kind = 2 ∧ (zaV d.p.1.Gives).contains a.Team = true)) (h3 : a.Kind = 4 ∧ a.Team = d.p.1.By) : dT d 5 a.At = dP d (zbe m a d.p) := by
 unfold dP zbe; rw [if_neg h0, if_neg h1, if_neg h2, if_pos h3]; rfl
theorem zcp (h0 : ¬ (d.p.2.how ≠ 1 ∧ d.p.2.how ≠ 2)) (h1 : ¬ (a.Kind = 1 ∧ (zaV d.p.1.Gives).contains a.Team = true ∧ d.p.2.how = 1)) (h2 : ¬ (a.Kind = 2 ∧ (zaV d.p.1.Gives).contains a.Team = true)) (h3 : ¬ (a.Kind = 4 ∧ a.Team = d.p.1.By))
 (h4 : a.Kind = 3 ∧ (zaV d.p.1.Gives).contains a.Team = false ∧ d.p.2.how = 2) :
 (((zaX a.Team d.p.2.veto).length : Int) = m.Vetoes → dT (dV d (zaX a.Team d.p.2.veto)) 6 a.At = dP d (zbe m a d.p)) ∧ (¬ ((zaX a.Team d.p.2.veto).length : Int) = m.Vetoes → dV d (zaX a.Team d.p.2.veto) = dP d (zbe m a d.p)) := by
 refine ⟨fun h => ?_, fun h => ?_⟩
 ·unfold dP zbe; rw [if_neg h0, if_neg h1, if_neg h2, if_neg h3, if_pos h4, if_pos h]; rfl
 ·unfold dP zbe; rw [if_neg h0, if_neg h1, if_neg h2, if_neg h3, if_pos h4, if_neg h]; rfl
end
theorem znb {m : MarketS} {a : ReplyS} : ∀ {E : List DV} {k : Nat} {d : DV}, E[k]? = some d → d.p.1.Id = a.Offer → (∀ (j : Nat) (z : DV), j < k → E[j]? = some z → z.p.1.Id ≠ a.Offer) → zcl m a (E.map (·.p)) = (E.set k (dP d (zbe m a d.p))).map (·.p)
 | [], k, d, h, _, _ => by simp at h
 | x :: r, 0, d, h, hi, _ => by
   simp at h; subst h
   show zcl m a (x.p :: r.map (·.p)) = _
   rw [zcl, if_pos hi]; rfl
 | x :: r, k + 1, d, h, hi, hl => by
   simp at h
   have h0 := hl 0 x (by omega) rfl
   have ih := znb (m := m) (a := a) h hi fun j z hj hz => hl (j + 1) z (by omega) (by simpa using hz)
   show zcl m a (x.p :: r.map (·.p)) = x.p :: (r.set k (dP d (zbe m a d.p))).map (·.p)
   rw [zcl, if_neg h0, ih]
theorem zlc {m : MarketS} {a : ReplyS} : ∀ {E : List DV}, (∀ z ∈ E, z.p.1.Id ≠ a.Offer) → zcl m a (E.map (·.p)) = E.map (·.p)
 | [], _ => rfl
 | x :: r, h => by
   show zcl m a (x.p :: r.map (·.p)) = _
   rw [zcl, if_neg (h x (by simp)), zlc fun z hz => h z (List.mem_cons_of_mem x hz)]; rfl
theorem zqY (E : List DV) (s : Str) : (∀ z ∈ E, z.p.1.Id ≠ s) ∨ ∃ (k : Nat) (d : DV), E[k]? = some d ∧ d.p.1.Id = s ∧ ∀ (j : Nat) (z : DV), j < k → E[j]? = some z → z.p.1.Id ≠ s := by
 induction E with
 | nil => exact .inl fun z hz => by cases hz
 | cons x r ih =>
   by_cases hx : x.p.1.Id = s
   ·exact .inr ⟨0, x, rfl, hx, fun j z hj => by omega⟩
   ·rcases ih with h | ⟨k, d, h1, h2, h3⟩
    ·refine .inl fun z hz => ?_
     rcases List.mem_cons.1 hz with rfl | hz
     ·exact hx
     ·exact h z hz
    ·refine .inr ⟨k + 1, d, by simpa using h1, h2, fun j z hj hz => ?_⟩
     cases j with
     | zero => simp at hz; subst hz; exact hx
     | succ j => exact h3 j z (by omega) (by simpa using hz)
end
end Go.HL
