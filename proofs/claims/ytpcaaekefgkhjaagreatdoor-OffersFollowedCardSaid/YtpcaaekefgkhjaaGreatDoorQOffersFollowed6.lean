/- The statement is proved: the card of the law, out of its function's contract; no conditions. -/
import Derived.Test.YtpcaaekefgkhjaaGreatDoorQOffersFollowed5
import Derived.Handed
import Derived.LaidMore
import Derived.Lay
import Derived.OpenShut
import Derived.ProofKit
import Derived.SevenTiedAt
import Derived.Shelf.Vars
import Derived.Stop.Joined
import Derived.Test.YtpcaaekefgkhjaaGreatDoorCards
import Derived.Test.YtpcaaekefgkhjaaGreatDoorTie
set_option linter.unusedVariables false
set_option linter.unusedSimpArgs false
namespace Go.Proofs.YtpcaaekefgkhjaaGreatDoor
set_option maxRecDepth 100000
set_option linter.unusedVariables false
set_option linter.unusedSimpArgs false
section
open Go.HL
/-- (*benchwarmer/benchmake.Stream).OwnerList$1 -/
theorem zfh [Tracks] {m : MarketS} {x : OwnerS} {t : Str} {bn n : Nat} (hn : n ≤ 1000000) : Con Tryz.prog 38 [zaL x, .vptr [.str t] 0, pAt bn, .vptr (zj (zaC m)) 0] [.cells bn [.int .i64 (n : Int)]] (fun r M' => ∃ (y : Bool) (n' : Nat), r = .bool y ∧ n' ≤ n + 1 ∧ M' = [.cells bn [.int .i64 (n' : Int)]]) := by
 refine Con.of_body Tryz.func38 rfl Tryz.ntmps38 rfl rfl ?_
 refine za ?_
 refine dq (zal rfl rfl) ?_
 refine das rfl ?_
 refine dn ?_
 refine zdi [6, 7, 8, 9, 10, 11] (fun (n2 : Nat) => []) (fun (n2 : Nat) => [.cells bn [.int .i64 (n2 : Int)]]) (fun (n2 : Nat) => n2 ≤ n + 1) ?_ ?_
 ·skip
  refine za ?_
  refine dq ((by first | exact zd zaa rfl ty9 (by decide) rfl | exact zb zaa rfl ty9 (by decide) rfl)) ?_
  refine dq (zh ty9 rfl rfl rfl) ?_
  refine dq (zh ty9 rfl rfl rfl) ?_
  refine dq (zbs rfl rfl) ?_
  refine dn ?_
  refine zl rfl (fun h1 => ?_) (fun h2 => ?_)
  ·try simp at h1
   refine zB ?_
   first
   | refine de rfl (zy (i := 0) ty3 rfl rfl (.inl ⟨rfl, rfl⟩) ?_)
   | refine de rfl (zy (i := 1) ty3 rfl rfl (.inl ⟨rfl, rfl⟩) ?_)
   | refine de rfl (zy (i := 2) ty3 rfl rfl (.inl ⟨rfl, rfl⟩) ?_)
   | refine de rfl (zy (i := 3) ty3 rfl rfl (.inl ⟨rfl, rfl⟩) ?_)
   refine dq (zC rfl rfl (by omega) (by omega)) ?_
   first
   | refine de0 (zz (i := 0) ty3 rfl rfl rfl rfl rfl (Nat.le_of_ble_eq_true rfl) ?_)
   | refine de0 (zz (i := 1) ty3 rfl rfl rfl rfl rfl (Nat.le_of_ble_eq_true rfl) ?_)
   | refine de0 (zz (i := 2) ty3 rfl rfl rfl rfl rfl (Nat.le_of_ble_eq_true rfl) ?_)
   | refine de0 (zz (i := 3) ty3 rfl rfl rfl rfl rfl (Nat.le_of_ble_eq_true rfl) ?_)
   refine dn ?_
   exact ⟨n + 1, Nat.le_refl _, trivial, (by repeat (first | exact zq | refine zx rfl ?_ | refine zt rfl rfl ?_)), zO rfl⟩
  ·try simp at h2
   refine zo ?_
   exact ⟨n, by omega, trivial, (by repeat (first | exact zq | refine zx rfl ?_ | refine zt rfl rfl ?_)), zO rfl⟩
 ·intro n2 hn2
  refine za ?_
  refine dq ((by first | exact zd zaa rfl ty9 (by decide) rfl | exact zb zaa rfl ty9 (by decide) rfl)) ?_
  refine dq (zh ty9 rfl rfl rfl) ?_
  refine dq (zh ty9 rfl rfl rfl) ?_
  refine dq (zbs rfl rfl) ?_
  refine dmv rfl ?_
  refine dgl rfl rfl (fun hc => ⟨_, OpenTo.refl _, zy (i := 0) ty3 rfl rfl (.inl ⟨rfl, rfl⟩) ⟨rfl, rfl⟩⟩) ?_
  refine dg rfl rfl (fun hc => ⟨_, OpenTo.refl _, (by first | exact zd zN rfl ty3 (by decide) rfl | exact zb zN rfl ty3 (by decide) rfl)⟩) ?_
  refine dg rfl rfl (fun hc => ⟨_, OpenTo.upd (t := 18) rfl (by first | exact hc | simp_all) (OpenTo.refl _), zh ty3 rfl rfl rfl⟩) ?_
  refine dg rfl rfl (fun hc => ⟨_, OpenTo.upd (t := 19) rfl (by first | exact hc | simp_all) (OpenTo.upd (t := 17) rfl (by first | exact hc | simp_all) (OpenTo.refl _)), zaT rfl rfl⟩) ?_
  refine dq (zG rfl (.inr ⟨_, rfl, fun h => by simp_all⟩) (.inl rfl)) ?_
  refine das rfl ?_
  refine dn ?_
  refine zp ?_
  exact zaQ rfl ⟨_, n2, rfl, hn2, rfl⟩

/-- slices.IndexFunc[[]benchwarmer/api.Owner,benchwarmer/api.Owner] -/
theorem zht [Tracks] {l : List OwnerS} {v : Value} {fid : FuncId} {caps : List HVal} {bn n : Nat} (hca : Callable Tryz.prog fid) (hp : ∀ (x : OwnerS) (n : Nat), n ≤ 1000000 → Con Tryz.prog fid ([zaL x] ++ caps) [.cells bn [.int .i64 (n : Int)]] fun r M' => ∃ (y : Bool) (n' : Nat), r = .bool y ∧ n' ≤ n + 1 ∧ M' = [.cells bn [.int .i64 (n' : Int)]]) (hl : l.length ≤ 1000) (hn : n ≤ 1000) : Con Tryz.prog 69 [.raw v, .fn (.func fid) [] caps] [.arr v 2 (l.map zaL), .cells bn [.int .i64 (n : Int)]] (fun r M' => ∃ (i : Int) (n' : Nat), r = .int .i64 i ∧ (-1 ≤ i ∧ i < l.length) ∧ n' ≤ n + l.length ∧ M' = [.arr v 2 (l.map zaL), .cells bn [.int .i64 (n' : Int)]]) := by
 refine Con.of_body Tryz.func69 rfl Tryz.ntmps69 rfl rfl ?_
 refine za ?_
 refine das rfl ?_
 refine dn ?_
 refine zm ?_
 refine za ?_
 refine dmv rfl ?_
 refine de rfl (zaA (i := 0) (es := l) zaD rfl rfl ?_)
 refine dmv rfl ?_
 refine dn ?_
 refine zu ?_
 refine zaZ [4, 5, 8, 9, 10, 11, 12, 13, 14, 15, 16, 17, 18] (fun (k : Nat) (n2 : Nat) => [(8, .int .i64 k)]) (fun (k : Nat) (n2 : Nat) => [.arr v 2 (l.map zaL), .cells bn [.int .i64 (n2 : Int)]]) (fun (k : Nat) (n2 : Nat) => k ≤ l.length ∧ (n2 ≤ n + k)) (fun (k : Nat) (n2 : Nat) => l.length - k) (0) (n) ?_ ?_ ?_ ?_
 ·exact ⟨Nat.zero_le _, Nat.le_refl _⟩
 ·exact ⟨rfl, trivial⟩
 ·exact zO rfl
 ·intro k n2 hinv
  obtain ⟨hk, hn2⟩ := hinv
  refine za ?_
  refine dq (zY rfl rfl) ?_
  refine dn ?_
  refine zm ?_
  refine zl rfl (fun h1 => ?_) (fun h2 => ?_)
  ·try simp at h1
   obtain ⟨x, hx⟩ : ∃ x, l[k]? = some x := ⟨_, List.getElem?_eq_getElem h1⟩
   have hdx := zU hx
   refine zo ?_
   refine zk ?_
   refine zm ?_
   refine zu ?_
   refine za ?_
   refine dmv rfl ?_
   refine das rfl ?_
   refine dn ?_
   refine zc6 (i := 0) rfl (fun h0 he => ?_) (fun ob off cap hv hcap => ?_)
   ·exfalso; have := congrArg List.length he; simp at this; subst this; simp at hx
   rw [List.length_map] at hv hcap
   subst hv
   refine za ?_
   refine dmv rfl ?_
   refine dmv rfl ?_
   refine dmv rfl ?_
   refine dq (za1 (j := k) zaD zaa rfl rfl rfl (by omega)) ?_
   refine de rfl (zdF (i := 0) (j := k) (f := zaL) (es := l) zaa rfl rfl rfl hx rfl rfl rfl ?_)
   refine de rfl (EOp.perm (M := [.cells bn [.int .i64 (n2 : Int)]] ++ [.arr (.slice (some ⟨ob, off, none⟩) l.length cap) 2 (l.map zaL)]) (List.Perm.swap _ _ _) (EOp.mono ?_ ((zdj hca rfl rfl (WeakL.refl _) (hp _ n2 (by omega))).frame [.arr (.slice (some ⟨ob, off, none⟩) l.length cap) 2 (l.map zaL)])))
   rintro _ _ ⟨N, rfl, y16, n16, rfl, hn16, rfl⟩
   refine dn ?_
   refine zl rfl (fun h3 => ?_) (fun h4 => ?_)
   ·try simp at h3
    refine za ?_
    refine dmv rfl ?_
    refine das rfl ?_
    refine dn ?_
    refine zp ?_
    first
    | exact zbO (Ghost.perm (List.Perm.swap _ _ _)) rfl ⟨(k : Int), n16, rfl, ⟨by omega, by omega⟩, by omega, rfl⟩
    | exact zaQ rfl ⟨-1, n2, rfl, ⟨by omega, by omega⟩, by omega, rfl⟩
   ·try simp at h4
    refine zo ?_
    refine zA ?_
    refine zk ?_
    refine zB ?_
    refine dq (zC rfl rfl (by omega) (by omega)) ?_
    refine dmv rfl ?_
    refine dn ?_
    exact ⟨k + 1, n16, ⟨by omega, by omega⟩, by dsimp only; omega, ⟨rfl, trivial⟩, (by repeat (first | exact zq | refine zx rfl ?_ | refine zt rfl rfl ?_)), List.Perm.swap _ _ _⟩
  ·try simp at h2
   have hnk : l.length ≤ k := by omega
   obtain rfl : k = l.length := by omega
   refine z7 ?_
   refine zag ?_
   refine zbc ?_
   refine zT ?_
   refine zk ?_
   refine za ?_
   refine das rfl ?_
   refine dn ?_
   refine zp ?_
   first
   | exact zbO (Ghost.perm (List.Perm.swap _ _ _)) rfl ⟨(k : Int), n16, rfl, ⟨by omega, by omega⟩, by omega, rfl⟩
   | exact zaQ rfl ⟨-1, n2, rfl, ⟨by omega, by omega⟩, by omega, rfl⟩

set_option maxHeartbeats 2000000 in
/-- slices.DeleteFunc[[]benchwarmer/api.Owner,benchwarmer/api.Owner] -/
theorem zhj [Tracks] {l : List OwnerS} {v : Value} {fid : FuncId} {caps : List HVal} {bn n : Nat} (hca : Callable Tryz.prog fid) (hp : ∀ (x : OwnerS) (n : Nat), n ≤ 1000000 → Con Tryz.prog fid ([zaL x] ++ caps) [.cells bn [.int .i64 (n : Int)]] fun r M' => ∃ (y : Bool) (n' : Nat), r = .bool y ∧ n' ≤ n + 1 ∧ M' = [.cells bn [.int .i64 (n' : Int)]]) (hl : l.length ≤ 1000) (hn : n ≤ 1000) : Con Tryz.prog 37 [.raw v, .fn (.func fid) [] caps] [.arr v 2 (l.map zaL), .cells bn [.int .i64 (n : Int)]] (fun r M' => ∃ (u : Value) (l' : List OwnerS) (n' : Nat), r = .raw u ∧ LeftOf l l' ∧ n' ≤ n + 2 * l.length ∧ M' = [.arr u 2 (l'.map zaL), .cells bn [.int .i64 (n' : Int)]]) := by
 refine Con.of_body Tryz.func37 rfl Tryz.ntmps37 rfl rfl ?_
 refine za ?_
 refine das rfl ?_
 refine dn ?_
 refine za ?_
 refine dmv rfl ?_
 refine dmv rfl ?_
 refine de rfl (zb2 (M1 := [.arr v 2 (l.map zaL), .cells bn [.int .i64 (n : Int)]]) (R := []) ca69 rfl (WeakL.refl _) (List.Perm.refl _) (zht hca hp hl hn) ?_)
 rintro _ _ ⟨i10, n10, rfl, hi10, hn10, rfl⟩
 refine das rfl ?_
 refine dn ?_
 refine zm ?_
 refine za ?_
 refine dmv rfl ?_
 refine dq (zaj rfl rfl) ?_
 refine dn ?_
 refine zl rfl (fun h1 => ?_) (fun h2 => ?_)
 ·try simp at h1
  refine za ?_
  refine dmv rfl ?_
  refine das rfl ?_
  refine dn ?_
  refine zp ?_
  first
  | exact zaQ rfl ⟨_, l, n10, rfl, LeftOf.refl l, by omega, rfl⟩
  | (refine zaQ rfl ⟨_, D.take i, n2, rfl, LeftOf.take i hDl hDs, by omega, ?_⟩
     rw [List.map_take]; rfl)
 ·try simp at h2
  refine zo ?_
  refine zk ?_
  refine zm ?_
  obtain ⟨i0, rfl⟩ : ∃ i0 : Nat, i10 = (i0 : Int) := ⟨i10.toNat, by omega⟩
  have hl0 : 0 < l.length := by omega
  refine zc6 (i := 0) rfl (fun h0 he => ?_) (fun ob off cap hv hcap => ?_)
  ·exfalso; have := congrArg List.length he; simp at this; subst this; simp at hl0
  rw [List.length_map] at hv hcap
  subst hv
  refine za ?_
  refine dmv rfl ?_
  refine dq (zC rfl rfl (by omega) (by omega)) ?_
  refine das rfl ?_
  refine dn ?_
  refine zu ?_
  refine zgS [5, 6, 7, 16, 17, 18, 19, 20, 21, 22, 23, 24, 25, 26, 27, 28, 29, 30, 31, 32, 33, 34, 35] (fun (j : Nat) (i : Nat) (D : List OwnerS) (n2 : Nat) => [(6, .int .i64 (j : Int)), (5, .int .i64 (i : Int))]) (fun (j : Nat) (i : Nat) (D : List OwnerS) (n2 : Nat) => [.arr (.slice (some ⟨ob, off, none⟩) l.length cap) 2 (D.map zaL), .cells bn [.int .i64 (n2 : Int)]]) (fun (j : Nat) (i : Nat) (D : List OwnerS) (n2 : Nat) => (i < j ∧ j ≤ l.length) ∧ D.length = l.length ∧ (∀ x ∈ D, x ∈ l) ∧ n2 ≤ n + l.length + j) (fun (j : Nat) (i : Nat) (D : List OwnerS) (n2 : Nat) => l.length - j) (i0 + 1) (i0) (l) (n10) ?_ ?_ ?_ ?_
  ·exact ⟨⟨by omega, by omega⟩, rfl, fun _ h => h, by omega⟩
  ·exact ⟨zdv (by omega), rfl, trivial⟩
  ·exact zO rfl
  ·intro j i D n2 hinv
   obtain ⟨⟨hij, hjl⟩, hDl, hDs, hn2⟩ := hinv
   refine zm ?_
   refine za ?_
   refine dmv rfl ?_
   refine dmv rfl ?_
   refine de rfl (zaA (i := 0) (es := D) zaD rfl rfl ?_)
   refine dq (zY rfl rfl) ?_
   refine dn ?_
   refine zl rfl (fun h3 => ?_) (fun h4 => ?_)
   ·try simp at h3
    obtain ⟨x, hx⟩ : ∃ x, D[j]? = some x := ⟨_, List.getElem?_eq_getElem (by omega)⟩
    refine zo ?_
    refine zk ?_
    refine zm ?_
    refine zu ?_
    refine za ?_
    refine dmv rfl ?_
    refine dmv rfl ?_
    refine dq (za1 (j := j) zaD zaa rfl rfl rfl (by omega)) ?_
    refine de rfl (zdF (i := 0) (j := j) (f := zaL) (es := D) zaa rfl rfl rfl hx rfl rfl rfl ?_)
    refine de rfl (zac zaa rfl fun b7 => ?_)
    refine de0 (zax zaa rfl rfl rfl rfl rfl ?_)
    refine dn ?_
    refine zP (Ghost.fc0 7 rfl) ?_
    refine za ?_
    refine dmv rfl ?_
    refine dq (zD zaa rfl rfl rfl rfl) ?_
    refine de rfl (EOp.perm (M := [.cells bn [.int .i64 (n2 : Int)]] ++ [.arr (.slice (some ⟨ob, off, none⟩) l.length cap) 2 (D.map zaL)]) (List.Perm.swap _ _ _) (EOp.mono ?_ ((zdj hca rfl rfl (WeakL.refl _) (hp _ n2 (by omega))).frame [.arr (.slice (some ⟨ob, off, none⟩) l.length cap) 2 (D.map zaL)])))
    rintro _ _ ⟨N, rfl, y28, n28, rfl, hn28, rfl⟩
    refine dq (zam rfl) ?_
    refine dn ?_
    refine zl rfl (fun h5 => ?_) (fun h6 => ?_)
    ·try simp at h5
     refine za ?_
     refine dmv rfl ?_
     refine dmv rfl ?_
     refine dq (zD zaa rfl rfl rfl rfl) ?_
     refine dq (za1 (j := i) zaD zaa rfl rfl rfl (by omega)) ?_
     refine de0 (zeF (i := 1) (j := i) (y := D[i]'(by omega)) (y' := x) zaa rfl rfl rfl rfl (List.getElem?_eq_getElem _) rfl rfl rfl ?_)
     refine dn ?_
     refine zB ?_
     refine dmv rfl ?_
     refine dq (zC rfl rfl (by omega) (by omega)) ?_
     refine das rfl ?_
     refine dn ?_
     refine zA ?_
     refine zk ?_
     refine zB ?_
     refine dmv rfl ?_
     refine dq (zC rfl rfl (by omega) (by omega)) ?_
     refine das rfl ?_
     refine dn ?_
     exact ⟨j + 1, i + 1, D.set i x, n28, ⟨⟨by omega, by omega⟩, by simpa using hDl, zfm (P := fun x => x ∈ l) hDs (hDs x (List.mem_of_getElem? hx)), by omega⟩, by dsimp only; omega, ⟨rfl, rfl, trivial⟩, (by repeat (first | exact zq | refine zx rfl ?_ | refine zt rfl rfl ?_)), by dsimp only; rw [List.map_set]; exact List.Perm.swap _ _ _⟩
    ·try simp at h6
     refine zo ?_
     refine zA ?_
     refine zk ?_
     refine zB ?_
     refine dmv rfl ?_
     refine dq (zC rfl rfl (by omega) (by omega)) ?_
     refine das rfl ?_
     refine dn ?_
     exact ⟨j + 1, i, D, n28, ⟨⟨by omega, by omega⟩, hDl, hDs, by omega⟩, by dsimp only; omega, ⟨rfl, rfl, trivial⟩, (by repeat (first | exact zq | refine zx rfl ?_ | refine zt rfl rfl ?_)), List.Perm.swap _ _ _⟩
   ·try simp at h4
    refine z7 ?_
    refine zag ?_
    refine zhw ?_
    refine zT ?_
    refine zk ?_
    refine za ?_
    refine dmv rfl ?_
    refine dmv rfl ?_
    refine dq (zlB (l := i) zaD zaa rfl ⟨_, _, rfl, rfl⟩ rfl (by omega) (by omega) hcap) ?_
    refine de0 (ziK (i := 0) (m := i) i zaD zaa rfl rfl rfl (zmP (by omega) hcap) rfl (by omega) (Nat.le_refl _) (by rw [List.length_map, hDl]; omega) ?_)
    refine dn ?_
    refine za ?_
    refine dmv rfl ?_
    refine dmv rfl ?_
    refine dq (zks (h := i) zaD zaa rfl ⟨_, _, rfl, rfl⟩ (by omega)) ?_
    refine das rfl ?_
    refine dn ?_
    refine zp ?_
    first
    | exact zaQ rfl ⟨_, l, n10, rfl, LeftOf.refl l, by omega, rfl⟩
    | (refine zaQ rfl ⟨_, D.take i, n2, rfl, LeftOf.take i hDl hDs, by omega, ?_⟩
       rw [List.map_take]; rfl)

/-- benchwarmer/benchmake.Key -/
theorem zkm [Tracks] {s : Str} (hs : s.length ≤ 1000000) : zah Tryz.prog 39 [.str s] (.bool (key s)) := by
 refine Con.of_body Tryz.func39 rfl Tryz.ntmps39 rfl rfl ?_
 refine za ?_
 refine das rfl ?_
 refine dn ?_
 refine za ?_
 refine dmv rfl ?_
 refine dq (zw zkX rfl (WeakL.refl _) (zcO (by first | assumption | omega | (simp; omega) | simp_all))) ?_
 refine das rfl ?_
 refine dn ?_
 refine zp ?_
 refine zI rfl ?_
 rfl

set_option maxHeartbeats 4000000 in
/-- (*benchwarmer/benchmake.Stream).OwnerList -/
theorem zbW [Tracks] {b : Nat} {l : List Int} {a : Nat} {m : MarketS} (ha : a ≤ 700000) (hm : GoodM m) : Con Tryz.prog 7 [pAt b, zaC m] [St b l a] (fun x M' => ∃ k a', x = zat k ∧ GoodOw k ∧ a' ≤ a + 40 ∧ M' = [St b l a']) := by
 have hm0 := hm.pos
 have hm5 := hm.len
 refine Con.of_body Tryz.func7 rfl Tryz.ntmps7 rfl rfl ?_
 refine za ?_
 refine dq (zal rfl rfl) ?_
 refine das rfl ?_
 refine dn ?_
 refine za ?_
 refine das rfl ?_
 refine dn ?_
 refine zm ?_
 refine za ?_
 refine dmv rfl ?_
 first
 | refine de rfl (ze (i := 0) zdw rfl (WeakL.refl _) rfl (z6 (by first | assumption | omega | (simp; omega) | simp_all) (by first | assumption | omega | (simp; omega) | simp_all) (by first | assumption | omega | (simp; omega) | simp_all) (by first | assumption | omega | (simp; omega) | simp_all)) ?_)
 | refine de rfl (ze (i := 1) zdw rfl (WeakL.refl _) rfl (z6 (by first | assumption | omega | (simp; omega) | simp_all) (by first | assumption | omega | (simp; omega) | simp_all) (by first | assumption | omega | (simp; omega) | simp_all) (by first | assumption | omega | (simp; omega) | simp_all)) ?_)
 | refine de rfl (ze (i := 2) zdw rfl (WeakL.refl _) rfl (z6 (by first | assumption | omega | (simp; omega) | simp_all) (by first | assumption | omega | (simp; omega) | simp_all) (by first | assumption | omega | (simp; omega) | simp_all) (by first | assumption | omega | (simp; omega) | simp_all)) ?_)
 | refine de rfl (ze (i := 3) zdw rfl (WeakL.refl _) rfl (z6 (by first | assumption | omega | (simp; omega) | simp_all) (by first | assumption | omega | (simp; omega) | simp_all) (by first | assumption | omega | (simp; omega) | simp_all) (by first | assumption | omega | (simp; omega) | simp_all)) ?_)
 rintro _ _ ⟨y12, rfl, hy12, rfl⟩
 refine dmv rfl ?_
 refine dn ?_
 refine zP (Ghost.perm (M' := [St b l (a + 1)]) (List.Perm.refl _)) ?_
 refine zP (Ghost.arr_nil 2) ?_
 refine zu ?_
 refine zaZ [5, 6, 13, 14, 15, 16, 17, 18, 19, 20, 21, 22, 23, 24, 25, 26, 27] (fun (k : Nat) (q : GL OwnerS) => [(13, .int .i64 (k : Int)), (5, .raw q.u)]) (fun (k : Nat) (q : GL OwnerS) => [St b l q.a, .arr q.u 2 (q.out.map zaL)]) (fun (k : Nat) (q : GL OwnerS) => (k : Int) ≤ y12 ∧ GLok zi4 k (a + 1 + k) q) (fun (k : Nat) (q : GL OwnerS) => y12.toNat - k) (0) (⟨.slice none 0 0, [], a + 1⟩) ?_ ?_ ?_ ?_
 ·exact ⟨by omega, ⟨by simp, by simp, by dsimp only; omega⟩⟩
 ·exact ⟨rfl, rfl, trivial⟩
 ·repeat (first | exact List.Perm.nil | refine zK 0 rfl ?_ | refine zK 1 rfl ?_ | refine zK 2 rfl ?_ | refine zK 3 rfl ?_ | (refine zF 0 rfl ?hq ?_; (case hq => simp [zW, zj]; done)) | (refine zF 1 rfl ?hq ?_; (case hq => simp [zW, zj]; done)) | (refine zF 2 rfl ?hq ?_; (case hq => simp [zW, zj]; done)) | (refine zF 3 rfl ?hq ?_; (case hq => simp [zW, zj]; done)) | fail)
 ·intro k q hinv
  obtain ⟨hk, hq⟩ := hinv
  obtain ⟨u, out, a1⟩ := q
  obtain ⟨g1, g2, g3⟩ := id hq
  dsimp only at g1 g2 g3
  refine za ?_
  refine dq (zY rfl rfl) ?_
  refine dn ?_
  refine zm ?_
  refine zl rfl (fun h1 => ?_) (fun h2 => ?_)
  ·try simp at h1
   refine zo ?_
   refine zk ?_
   refine zm ?_
   refine zu ?_
   refine za ?_
   refine dmv rfl ?_
   refine das rfl ?_
   refine dn ?_
   refine zbZ (fun _ => True) [] mixed ?_
   refine ahp 0 rfl rfl (by kernel_rfl) (by kernel_rfl) (zf rfl) ?_
   refine ahp 1 rfl rfl (by kernel_rfl) (by kernel_rfl) (zf rfl) ?_
   refine ahp 2 rfl rfl (by kernel_rfl) (by kernel_rfl) (zw ca36 rfl (WeakL.refl _) (zhi (i := k) (by omega))) ?_
   have hdl := znI (i := k) (by omega)
   refine ahp 3 rfl rfl (by kernel_rfl) (by kernel_rfl) (zjE rfl rfl (by simp; omega)) ?_
   refine ahp 4 rfl rfl (by kernel_rfl) (by kernel_rfl) (zf rfl) ?_
   refine ahp 5 rfl rfl (by kernel_rfl) (by kernel_rfl) ((by first | exact zd zN rfl zQ (by decide) rfl | exact zb zN rfl zQ (by decide) rfl)) ?_
   refine ahp 6 rfl rfl (by kernel_rfl) (by kernel_rfl) (zh zQ rfl rfl rfl) ?_
   refine ahe 7 rfl (by kernel_rfl) ?_
   first
   | refine zv rfl (ze (i := 0) zaF rfl (WeakL.refl _) rfl (zi (by first | assumption | omega | (simp; omega) | simp_all) (by first | assumption | omega | (simp; omega) | simp_all) (by first | assumption | omega | (simp; omega) | simp_all)) ?_)
   | refine zv rfl (ze (i := 1) zaF rfl (WeakL.refl _) rfl (zi (by first | assumption | omega | (simp; omega) | simp_all) (by first | assumption | omega | (simp; omega) | simp_all) (by first | assumption | omega | (simp; omega) | simp_all)) ?_)
   | refine zv rfl (ze (i := 2) zaF rfl (WeakL.refl _) rfl (zi (by first | assumption | omega | (simp; omega) | simp_all) (by first | assumption | omega | (simp; omega) | simp_all) (by first | assumption | omega | (simp; omega) | simp_all)) ?_)
   | refine zv rfl (ze (i := 3) zaF rfl (WeakL.refl _) rfl (zi (by first | assumption | omega | (simp; omega) | simp_all) (by first | assumption | omega | (simp; omega) | simp_all) (by first | assumption | omega | (simp; omega) | simp_all)) ?_)
   rintro _ _ ⟨y23, rfl, hy23, rfl⟩
   refine ⟨fun _ => .inl trivial, ?_⟩
   refine ahp 8 rfl rfl (by kernel_rfl) (by kernel_rfl) (zaG (cs := [_, _]) zaa zom rfl) ?_
   refine ahp 9 rfl rfl (by kernel_rfl) (by kernel_rfl) (zE (hs := [_]) zaD zaa rfl rfl (by decide) (by decide) rfl) ?_
   refine ahe 10 rfl (by kernel_rfl) ?_
   first
   | refine zv rfl (zay (i := 0) zaD zaa rfl rfl rfl rfl rfl (by simp [zbi, zj]) (by first | omega | (simp; omega)) fun v26 => ?_)
   | refine zv rfl (zay (i := 1) zaD zaa rfl rfl rfl rfl rfl (by simp [zbi, zj]) (by first | omega | (simp; omega)) fun v26 => ?_)
   | refine zv rfl (zay (i := 2) zaD zaa rfl rfl rfl rfl rfl (by simp [zbi, zj]) (by first | omega | (simp; omega)) fun v26 => ?_)
   | refine zv rfl (zay (i := 3) zaD zaa rfl rfl rfl rfl rfl (by simp [zbi, zj]) (by first | omega | (simp; omega)) fun v26 => ?_)
   refine ⟨fun _ => .inl trivial, ?_⟩
   refine ahp 11 rfl rfl (by kernel_rfl) (by kernel_rfl) (z8 rfl) ?_
   refine ahz (by kernel_rfl) ?_
   refine zA ?_
   refine zk ?_
   refine zB ?_
   refine dq (zC rfl rfl (by omega) (by omega)) ?_
   refine dmv rfl ?_
   refine dn ?_
   exact ⟨k + 1, ⟨v26, out ++ [⟨112 :: Lib.decDigits k, y23⟩], a1 + 1⟩, ⟨by omega, hq.add (x := (⟨112 :: Lib.decDigits k, y23⟩ : OwnerS)) ⟨zfY (n := 11) (by simp; omega) (by decide), zfY (hm.sh y23 hy23) (by decide)⟩ (by omega)⟩, by dsimp only; omega, ⟨rfl, rfl, trivial⟩, (by repeat (first | exact zq | refine zx rfl ?_ | refine zt rfl rfl ?_)), by repeat (first | exact List.Perm.nil | refine zK 0 rfl ?_ | refine zK 1 rfl ?_ | refine zK 2 rfl ?_ | refine zK 3 rfl ?_ | (refine zF 0 rfl ?hq ?_; (case hq => simp [zW, zj]; done)) | (refine zF 1 rfl ?hq ?_; (case hq => simp [zW, zj]; done)) | (refine zF 2 rfl ?hq ?_; (case hq => simp [zW, zj]; done)) | (refine zF 3 rfl ?hq ?_; (case hq => simp [zW, zj]; done)) | fail)⟩
  ·try simp at h2
   refine z7 ?_
   refine zag ?_
   refine zbc ?_
   refine zT ?_
   refine zk ?_
   refine zm ?_
   refine za ?_
   refine dq ((by first | exact zd zN rfl zQ (by decide) rfl | exact zb zN rfl zQ (by decide) rfl)) ?_
   refine dq (zh zQ rfl rfl rfl) ?_
   refine dq (zR zQ rfl) ?_
   refine dmv rfl ?_
   refine dn ?_
   refine zu ?_
   refine ziS [5, 8, 9, 31, 32, 33, 34, 35, 36, 37, 38, 39, 40, 41, 42, 43, 44, 45, 46, 47, 48, 49, 50, 51, 52, 53, 54, 55, 56] (fun (k : Nat) (u : Value) (out : List OwnerS) => [(31, .int .i64 k), (5, .raw u)]) (fun (k : Nat) (u : Value) (out : List OwnerS) => [St b l a1, .arr u 2 (out.map zaL)]) (fun (k : Nat) (u : Value) (out : List OwnerS) => k ≤ m.Teams.length ∧ (out.length ≤ 8 + k ∧ (∀ x ∈ out, zi4 x))) (fun (k : Nat) (u : Value) (out : List OwnerS) => m.Teams.length - k) (0) (u) (out) ?_ ?_ ?_ ?_
   ·exact ⟨Nat.zero_le _, by omega, g2⟩
   ·exact ⟨rfl, rfl, trivial⟩
   ·repeat (first | exact List.Perm.nil | refine zK 0 rfl ?_ | refine zK 1 rfl ?_ | refine zK 2 rfl ?_ | refine zK 3 rfl ?_ | (refine zF 0 rfl ?hq ?_; (case hq => simp [zW, zj]; done)) | (refine zF 1 rfl ?hq ?_; (case hq => simp [zW, zj]; done)) | (refine zF 2 rfl ?hq ?_; (case hq => simp [zW, zj]; done)) | (refine zF 3 rfl ?hq ?_; (case hq => simp [zW, zj]; done)) | fail)
   ·intro k u out hinv
    obtain ⟨hk, g1, g2⟩ := hinv
    refine za ?_
    refine dq (zY rfl rfl) ?_
    refine dn ?_
    refine zm ?_
    refine zl rfl (fun h3 => ?_) (fun h4 => ?_)
    ·try simp at h3
     obtain ⟨x, hx⟩ : ∃ x, m.Teams[k]? = some x := ⟨_, List.getElem?_eq_getElem h3⟩
     have hdx := zU hx
     refine zo ?_
     refine zk ?_
     refine zm ?_
     refine zu ?_
     refine za ?_
     refine dq (zZ zQ ty9 rfl rfl rfl (by first | assumption | simp_all)) ?_
     refine dq (zh ty9 rfl rfl rfl) ?_
     refine de rfl (zac ty9 rfl fun b8 => ?_)
     refine de0 (zax ty9 rfl rfl rfl rfl rfl ?_)
     refine dn ?_
     refine zP (Ghost.fc0 8 rfl) ?_
     refine za ?_
     refine de rfl (zac ty3 rfl fun b9 => ?_)
     first
     | refine de0 (zz (i := 0) ty3 rfl rfl rfl rfl rfl (Nat.le_of_ble_eq_true rfl) ?_)
     | refine de0 (zz (i := 1) ty3 rfl rfl rfl rfl rfl (Nat.le_of_ble_eq_true rfl) ?_)
     | refine de0 (zz (i := 2) ty3 rfl rfl rfl rfl rfl (Nat.le_of_ble_eq_true rfl) ?_)
     | refine de0 (zz (i := 3) ty3 rfl rfl rfl rfl rfl (Nat.le_of_ble_eq_true rfl) ?_)
     refine dn ?_
     refine za ?_
     refine dmv rfl ?_
     refine dq (zda rfl rfl) ?_
     refine de rfl (zb2 (M1 := [.arr u 2 (out.map zaL), .cells b9 [.int .i64 ((0 : Nat) : Int)]]) (R := [St b l a1]) ca37 rfl (WeakL.refl _) (by repeat (first | exact List.Perm.nil | refine zK 0 rfl ?_ | refine zK 1 rfl ?_ | refine zK 2 rfl ?_ | refine zK 3 rfl ?_ | (refine zF 0 rfl ?hq ?_; (case hq => simp [zW, zj]; done)) | (refine zF 1 rfl ?hq ?_; (case hq => simp [zW, zj]; done)) | (refine zF 2 rfl ?hq ?_; (case hq => simp [zW, zj]; done)) | (refine zF 3 rfl ?hq ?_; (case hq => simp [zW, zj]; done)) | fail)) (zhj (l := out) (n := 0) (caps := [.vptr [.str x] 0, pAt b9, .vptr (zj (zaC m)) 0]) ca38 (fun x n hn => zfh hn) (by omega) (by omega)) ?_)
     rintro _ _ ⟨u37, out2, n2, rfl, hlo, hn2, rfl⟩
     have hol := hlo.len
     refine das rfl ?_
     refine dn ?_
     refine zP (Ghost.fc 9 (i := 1) rfl rfl) ?_
     refine za ?_
     refine dq (zh ty3 rfl rfl rfl) ?_
     refine dq (zaj rfl rfl) ?_
     refine dmv rfl ?_
     refine dg rfl rfl (fun hc => ⟨_, OpenTo.refl _, (by first | exact zd zN rfl ty3 (by decide) rfl | exact zb zN rfl ty3 (by decide) rfl)⟩) ?_
     refine dg rfl rfl (fun hc => ⟨_, OpenTo.upd (t := 41) rfl (by first | exact hc | simp_all) (OpenTo.refl _), zh ty3 rfl rfl rfl⟩) ?_
     refine dg rfl rfl (fun hc => ⟨_, OpenTo.upd (t := 42) rfl (by first | exact hc | simp_all) (OpenTo.refl _), zaj rfl rfl⟩) ?_
     refine dq (zG rfl (.inr ⟨_, rfl, fun h => by simp_all⟩) (.inl rfl)) ?_
     refine dmv rfl ?_
     refine dg rfl rfl (fun hc => ⟨_, OpenTo.refl _, zh ty9 rfl rfl rfl⟩) ?_
     refine dg rfl rfl (fun hc => by have hq := hc; (try simp at hq); exact ⟨_, OpenTo.upd (t := 46) rfl (by first | exact hc | simp_all) (OpenTo.refl _), zw ca39 rfl (WeakL.refl _) (zkm (s := x) (by have := hm.sh x (List.mem_of_getElem? hx); omega))⟩) ?_
     refine dq (zG rfl (.inr ⟨_, rfl, fun h => by simp_all⟩) (.inl rfl)) ?_
     refine dn ?_
     refine zl rfl (fun h5 => ?_) (fun h6 => ?_)
     ·try simp at h5
      refine zB ?_
      refine dmv rfl ?_
      refine dq (zh ty9 rfl rfl rfl) ?_
      have hxl := hm.sh x (List.mem_of_getElem? hx)
      refine dq (zjE rfl rfl (by simp; omega)) ?_
      refine dq (zh ty9 rfl rfl rfl) ?_
      refine dq (zaG (cs := [_, _]) zaa zom rfl) ?_
      refine dq (zE (hs := [_]) zaD zaa rfl rfl (by decide) (by decide) rfl) ?_
      first
      | refine de rfl (zay (i := 0) zaD zaa rfl rfl rfl rfl rfl (by simp [zbi, zj]) (by first | omega | (simp; omega)) fun v55 => ?_)
      | refine de rfl (zay (i := 1) zaD zaa rfl rfl rfl rfl rfl (by simp [zbi, zj]) (by first | omega | (simp; omega)) fun v55 => ?_)
      | refine de rfl (zay (i := 2) zaD zaa rfl rfl rfl rfl rfl (by simp [zbi, zj]) (by first | omega | (simp; omega)) fun v55 => ?_)
      | refine de rfl (zay (i := 3) zaD zaa rfl rfl rfl rfl rfl (by simp [zbi, zj]) (by first | omega | (simp; omega)) fun v55 => ?_)
      refine das rfl ?_
      refine dn ?_
      refine zA ?_
      refine zk ?_
      refine zB ?_
      refine dq (zC rfl rfl (by omega) (by omega)) ?_
      refine dmv rfl ?_
      refine dn ?_
      exact ⟨k + 1, v55, out2 ++ [⟨113 :: x, x⟩], ⟨by omega, by simp; have := hlo.len; omega, fun z hz => by
       rcases List.mem_append.1 hz with hz | hz
       ·exact g2 z (hlo.sub z hz)
       ·rw [List.mem_singleton.1 hz]; exact ⟨zfY (s := 113 :: x) (n := 11) (by simp; omega) (by decide), zfY hxl (by decide)⟩⟩, by dsimp only; omega, ⟨rfl, rfl, trivial⟩, (by repeat (first | exact zq | refine zx rfl ?_ | refine zt rfl rfl ?_)), by repeat (first | exact List.Perm.nil | refine zK 0 rfl ?_ | refine zK 1 rfl ?_ | refine zK 2 rfl ?_ | refine zK 3 rfl ?_ | (refine zF 0 rfl ?hq ?_; (case hq => simp [zW, zj]; done)) | (refine zF 1 rfl ?hq ?_; (case hq => simp [zW, zj]; done)) | (refine zF 2 rfl ?hq ?_; (case hq => simp [zW, zj]; done)) | (refine zF 3 rfl ?hq ?_; (case hq => simp [zW, zj]; done)) | fail)⟩
     ·try simp at h6
      refine zo ?_
      refine zA ?_
      refine zk ?_
      refine zB ?_
      refine dq (zC rfl rfl (by omega) (by omega)) ?_
      refine dmv rfl ?_
      refine dn ?_
      exact ⟨k + 1, u37, out2, ⟨by omega, by have := hlo.len; omega, fun z hz => g2 z (hlo.sub z hz)⟩, by dsimp only; omega, ⟨rfl, rfl, trivial⟩, (by repeat (first | exact zq | refine zx rfl ?_ | refine zt rfl rfl ?_)), by repeat (first | exact List.Perm.nil | refine zK 0 rfl ?_ | refine zK 1 rfl ?_ | refine zK 2 rfl ?_ | refine zK 3 rfl ?_ | (refine zF 0 rfl ?hq ?_; (case hq => simp [zW, zj]; done)) | (refine zF 1 rfl ?hq ?_; (case hq => simp [zW, zj]; done)) | (refine zF 2 rfl ?hq ?_; (case hq => simp [zW, zj]; done)) | (refine zF 3 rfl ?hq ?_; (case hq => simp [zW, zj]; done)) | fail)⟩
    ·try simp at h4
     have hnk : m.Teams.length ≤ k := by omega
     obtain rfl : k = m.Teams.length := by omega
     refine z7 ?_
     refine zag ?_
     refine zjL ?_
     refine zT ?_
     refine zk ?_
     refine zdi [10, 57, 58, 59, 60, 61, 62, 63, 64, 65, 66, 67, 68, 69, 70, 71, 72, 73, 74, 75, 76, 77, 78, 79, 80, 81, 82, 83, 84, 85, 86, 87, 88, 89] (fun (q : List OwnerS × Nat) => []) (fun (q : List OwnerS × Nat) => [St b l q.2, .arr u 2 (q.1.map zaL)]) (fun (q : List OwnerS × Nat) => q.1.length ≤ 13 ∧ (∀ x ∈ q.1, zi4 x) ∧ q.2 ≤ a + 40) ?_ ?_
     ·skip
      refine za ?_
      refine dmv rfl ?_
      first
      | refine de rfl (zaA (i := 0) zaD rfl rfl ?_)
      | refine de rfl (zaA (i := 1) zaD rfl rfl ?_)
      | refine de rfl (zaA (i := 2) zaD rfl rfl ?_)
      | refine de rfl (zaA (i := 3) zaD rfl rfl ?_)
      refine dq (zaT rfl rfl) ?_
      refine dmv rfl ?_
      refine dg rfl rfl (fun hc => ⟨_, OpenTo.refl _, zf rfl⟩) ?_
      refine dgx (fun x M' => ∃ (y : Bool) (a3 : Nat), x = .bool y ∧ a3 ≤ a1 + 1 ∧ M' = [St b l a3, .arr u 2 (out.map zaL)]) rfl rfl (fun hc => ⟨_, false, a1, rfl, by omega, rfl⟩) (fun hc => ⟨_, OpenTo.upd (t := 61) rfl (by first | exact hc | simp_all) (OpenTo.refl _), ze (i := 0) zep rfl (WeakL.refl _) rfl (zap (a := a1) (by omega) (by omega)) (fun h M' hh => by
       obtain ⟨y, h1, h2⟩ := hh
       exact ⟨y, a1 + 1, h1, by omega, by rw [h2]; rfl⟩)⟩) ?_
      rintro _ _ ⟨y, a3, rfl, ha3, rfl⟩
      refine dq (zG rfl (.inr ⟨_, rfl, fun h => by simp_all⟩) (.inl rfl)) ?_
      refine dn ?_
      refine zl rfl (fun h7 => ?_) (fun h8 => ?_)
      ·try simp at h7
       have ho0 : 0 < out.length := by simp_all
       refine zc6 (i := 1) rfl (fun h0 he => ?_) (fun ob off cap hv hcap => ?_)
       ·exfalso; have := congrArg List.length he; simp at this; subst this; simp at ho0
       subst hv
       refine za ?_
       refine dmv rfl ?_
       refine dmv rfl ?_
       refine dmv rfl ?_
       first
       | refine de rfl (zaA (i := 0) zaD rfl rfl ?_)
       | refine de rfl (zaA (i := 1) zaD rfl rfl ?_)
       | refine de rfl (zaA (i := 2) zaD rfl rfl ?_)
       | refine de rfl (zaA (i := 3) zaD rfl rfl ?_)
       first
       | refine de rfl (ze (i := 0) zdy rfl (WeakL.refl _) rfl (zab (by first | assumption | omega | (simp; omega) | simp_all) (by first | assumption | omega | (simp; omega) | simp_all)) ?_)
       | refine de rfl (ze (i := 1) zdy rfl (WeakL.refl _) rfl (zab (by first | assumption | omega | (simp; omega) | simp_all) (by first | assumption | omega | (simp; omega) | simp_all)) ?_)
       | refine de rfl (ze (i := 2) zdy rfl (WeakL.refl _) rfl (zab (by first | assumption | omega | (simp; omega) | simp_all) (by first | assumption | omega | (simp; omega) | simp_all)) ?_)
       | refine de rfl (ze (i := 3) zdy rfl (WeakL.refl _) rfl (zab (by first | assumption | omega | (simp; omega) | simp_all) (by first | assumption | omega | (simp; omega) | simp_all)) ?_)
       rintro _ _ ⟨y68, rfl, hy68, rfl⟩
       refine dq (za1 (j := y68) zaD zaa rfl rfl rfl (by simp; omega)) ?_
       refine das rfl ?_
       refine dn ?_
       obtain ⟨x, hx⟩ : ∃ x, out[y68]? = some x := ⟨_, List.getElem?_eq_getElem (by omega)⟩
       refine zbZ (fun M => ∃ i : Nat, M[i]? = some (.arr (.slice (some ⟨ob, off, none⟩) (out.map zaL).length cap) 2 (out.map zaL))) [6, 13] mixed ?_
       refine ahp 0 rfl rfl (by kernel_rfl) (by kernel_rfl) (zf rfl) ?_
       refine ahp 1 rfl rfl (by kernel_rfl) (by kernel_rfl) (zf rfl) ?_
       refine ahp 2 rfl rfl (by kernel_rfl) (by kernel_rfl) (zf rfl) ?_
       refine ahp 3 rfl rfl (by kernel_rfl) (by kernel_rfl) (zf rfl) ?_
       refine ahp 4 rfl rfl (by kernel_rfl) (by kernel_rfl) ((by first | exact zn rfl | exact zg rfl)) ?_
       refine ahp 5 rfl rfl (by kernel_rfl) (by kernel_rfl) ((by first | exact zd zaa rfl ty9 (by decide) rfl | exact zb zaa rfl ty9 (by decide) rfl)) ?_
       refine ahl 6 rfl rfl (by kernel_rfl) (by kernel_rfl) (by simp) ⟨1, rfl⟩ (fun M hM => by obtain ⟨i, hi⟩ := hM; exact za6 (i := i) (j := y68) 0 ty9 rfl (by omega) hi hx rfl rfl ⟨rfl, rfl⟩) ?_
       refine ahp 7 rfl rfl (by kernel_rfl) (by kernel_rfl) (zE (hs := [_, _, _]) zQ ty9 rfl rfl (by decide) (by decide) rfl) ?_
       refine ahp 9 rfl rfl (by kernel_rfl) (by kernel_rfl) (zf rfl) ?_
       refine ahp 10 rfl rfl (by kernel_rfl) (by kernel_rfl) (zf rfl) ?_
       refine ahp 11 rfl rfl (by kernel_rfl) (by kernel_rfl) ((by first | exact zn rfl | exact zg rfl)) ?_
       refine ahp 12 rfl rfl (by kernel_rfl) (by kernel_rfl) ((by first | exact zd zaa rfl ty9 (by decide) rfl | exact zb zaa rfl ty9 (by decide) rfl)) ?_
       refine ahl 13 rfl rfl (by kernel_rfl) (by kernel_rfl) (by simp) ⟨1, rfl⟩ (fun M hM => by obtain ⟨i, hi⟩ := hM; exact za6 (i := i) (j := y68) 1 ty9 rfl (by omega) hi hx rfl rfl ⟨rfl, rfl⟩) ?_
       refine ahp 14 rfl rfl (by kernel_rfl) (by kernel_rfl) (zE (hs := [_, _]) zQ ty9 rfl rfl (by decide) (by decide) rfl) ?_
       refine ahe 8 rfl (by kernel_rfl) ?_
       first
       | refine zv rfl (ze (i := 0) zaF rfl (WeakL.refl _) rfl (zi (L := [_, _, _]) (by first | assumption | omega | (simp; omega) | simp_all) (by first | assumption | omega | (simp; omega) | simp_all) (by first | assumption | omega | (simp; omega) | simp_all)) ?_)
       | refine zv rfl (ze (i := 1) zaF rfl (WeakL.refl _) rfl (zi (L := [_, _, _]) (by first | assumption | omega | (simp; omega) | simp_all) (by first | assumption | omega | (simp; omega) | simp_all) (by first | assumption | omega | (simp; omega) | simp_all)) ?_)
       | refine zv rfl (ze (i := 2) zaF rfl (WeakL.refl _) rfl (zi (L := [_, _, _]) (by first | assumption | omega | (simp; omega) | simp_all) (by first | assumption | omega | (simp; omega) | simp_all) (by first | assumption | omega | (simp; omega) | simp_all)) ?_)
       | refine zv rfl (ze (i := 3) zaF rfl (WeakL.refl _) rfl (zi (L := [_, _, _]) (by first | assumption | omega | (simp; omega) | simp_all) (by first | assumption | omega | (simp; omega) | simp_all) (by first | assumption | omega | (simp; omega) | simp_all)) ?_)
       rintro _ _ ⟨y78, rfl, hy78, rfl⟩
       refine ⟨fun _ => by first | exact .inl ⟨0, rfl⟩ | exact .inl ⟨1, rfl⟩ | exact .inl ⟨2, rfl⟩ | exact .inr (by simp [zaq, Region.binds]), ?_⟩
       refine ahe 15 rfl (by kernel_rfl) ?_
       first
       | refine zv rfl (ze (i := 0) zaF rfl (WeakL.refl _) rfl (zi (L := [_, _]) (by first | assumption | omega | (simp; omega) | simp_all) (by first | assumption | omega | (simp; omega) | simp_all) (by first | assumption | omega | (simp; omega) | simp_all)) ?_)
       | refine zv rfl (ze (i := 1) zaF rfl (WeakL.refl _) rfl (zi (L := [_, _]) (by first | assumption | omega | (simp; omega) | simp_all) (by first | assumption | omega | (simp; omega) | simp_all) (by first | assumption | omega | (simp; omega) | simp_all)) ?_)
       | refine zv rfl (ze (i := 2) zaF rfl (WeakL.refl _) rfl (zi (L := [_, _]) (by first | assumption | omega | (simp; omega) | simp_all) (by first | assumption | omega | (simp; omega) | simp_all) (by first | assumption | omega | (simp; omega) | simp_all)) ?_)
       | refine zv rfl (ze (i := 3) zaF rfl (WeakL.refl _) rfl (zi (L := [_, _]) (by first | assumption | omega | (simp; omega) | simp_all) (by first | assumption | omega | (simp; omega) | simp_all) (by first | assumption | omega | (simp; omega) | simp_all)) ?_)
       rintro _ _ ⟨y85, rfl, hy85, rfl⟩
       refine ⟨fun _ => by first | exact .inl ⟨0, rfl⟩ | exact .inl ⟨1, rfl⟩ | exact .inl ⟨2, rfl⟩ | exact .inr (by simp [zaq, Region.binds]), ?_⟩
       refine ahp 16 rfl rfl (by kernel_rfl) (by kernel_rfl) ((by first | exact zn rfl | exact zg rfl)) ?_
       refine ahp 17 rfl rfl (by kernel_rfl) (by kernel_rfl) ((by first | exact zd zaa rfl ty9 (by decide) rfl | exact zb zaa rfl ty9 (by decide) rfl)) ?_
       refine ahe 18 rfl (by kernel_rfl) ?_
       refine zae (za3 (i := 1) (j := y68) (f := 0) (y := zaL x) (y' := zaL ⟨y78, x.Team⟩) ty9 rfl (by omega) rfl rfl (zce hx) rfl rfl (by simp [zj]) rfl ?_)
       refine ⟨fun _ => .inr (by simp [zaq, Region.binds]), ?_⟩
       refine ahp 19 rfl rfl (by kernel_rfl) (by kernel_rfl) ((by first | exact zn rfl | exact zg rfl)) ?_
       refine ahp 20 rfl rfl (by kernel_rfl) (by kernel_rfl) ((by first | exact zd zaa rfl ty9 (by decide) rfl | exact zb zaa rfl ty9 (by decide) rfl)) ?_
       refine ahe 21 rfl (by kernel_rfl) ?_
       refine zae (za3 (i := 1) (j := y68) (f := 1) (y := zaL ⟨y78, x.Team⟩) (y' := zaL ⟨y78, y85⟩) ty9 rfl (by omega) rfl rfl (zcm (zce hx)) rfl rfl (by simp [zj]) rfl ?_)
       refine ⟨fun _ => .inr (by simp [zaq, Region.binds]), ?_⟩
       refine ahz (by kernel_rfl) ?_
       exact ⟨(out.set y68 ⟨y78, y85⟩, a3 + 3), ⟨by simp; omega, zfm (P := zi4) g2 ⟨by simp at hy78; rcases hy78 with rfl | rfl | rfl; exact (g2 x (List.mem_of_getElem? hx)).1; exact zkg; (unfold Sh; simp), by simp at hy85; rcases hy85 with rfl | rfl; exact (g2 x (List.mem_of_getElem? hx)).2; (unfold Sh; simp)⟩, by dsimp only; omega⟩, trivial, (by repeat (first | exact zq | refine zx rfl ?_ | refine zt rfl rfl ?_)), by repeat (first | exact List.Perm.nil | refine zK 0 rfl ?_ | refine zK 1 rfl ?_ | refine zK 2 rfl ?_ | refine zK 3 rfl ?_ | (refine zF 0 rfl ?hq ?_; (case hq => simp [zW, zj]; done)) | (refine zF 1 rfl ?hq ?_; (case hq => simp [zW, zj]; done)) | (refine zF 2 rfl ?hq ?_; (case hq => simp [zW, zj]; done)) | (refine zF 3 rfl ?hq ?_; (case hq => simp [zW, zj]; done)) | fail)⟩
      ·try simp at h8
       refine zo ?_
       exact ⟨(out, a3), ⟨by dsimp only; omega, g2, by dsimp only; omega⟩, trivial, (by repeat (first | exact zq | refine zx rfl ?_ | refine zt rfl rfl ?_)), by repeat (first | exact List.Perm.nil | refine zK 0 rfl ?_ | refine zK 1 rfl ?_ | refine zK 2 rfl ?_ | refine zK 3 rfl ?_ | (refine zF 0 rfl ?hq ?_; (case hq => simp [zW, zj]; done)) | (refine zF 1 rfl ?hq ?_; (case hq => simp [zW, zj]; done)) | (refine zF 2 rfl ?hq ?_; (case hq => simp [zW, zj]; done)) | (refine zF 3 rfl ?hq ?_; (case hq => simp [zW, zj]; done)) | fail)⟩
     ·intro q hq3
      obtain ⟨k1, a4⟩ := q
      dsimp only at hq3
      obtain ⟨q1, q2, q3⟩ := hq3
      refine za ?_
      refine dmv rfl ?_
      refine das rfl ?_
      refine dn ?_
      refine zp ?_
      refine zbO (Ghost.fa 4 (i := 1) rfl rfl) rfl ⟨k1, a4, rfl, ⟨q1, q2⟩, by omega, rfl⟩
end
section
open Go.HL
/-- math/bits.Len64 -/
theorem zkU [Tracks] {x : Nat} (hx : x < 16) : Con Tryz.prog 123 [.int .u64 (x : Int)] [] (fun y M' => ∃ n : Int, y = .int .i64 n ∧ M' = []) := by
 refine Con.of_body Tryz.func123 rfl Tryz.ntmps123 rfl rfl ?_
 refine za ?_
 refine das rfl ?_
 refine dn ?_
 refine zm ?_
 refine za ?_
 refine dmv rfl ?_
 refine dq (zbG rfl rfl) ?_
 refine dn ?_
 refine zl rfl (fun h1 => ?_) (fun h1 => ?_)
 ·exfalso
  try simp at h1
  omega
 ·try simp at h1
  refine zo ?_
  refine zk ?_
  refine zm ?_
  refine za ?_
  refine dmv rfl ?_
  refine dq (zbG rfl rfl) ?_
  refine dn ?_
  refine zl rfl (fun h2 => ?_) (fun h2 => ?_)
  ·exfalso
   try simp at h2
   omega
  ·try simp at h2
   refine zo ?_
   refine zk ?_
   refine zm ?_
   refine za ?_
   refine dmv rfl ?_
   refine dq (zbG rfl rfl) ?_
   refine dn ?_
   refine zl rfl (fun h3 => ?_) (fun h3 => ?_)
   ·exfalso
    try simp at h3
    omega
   ·try simp at h3
    refine zo ?_
    refine zk ?_
    refine za ?_
    refine dmv rfl ?_
    refine dmv rfl ?_
    refine dq (zdu zqx ty5 rfl) ?_
    refine dq (zcI (j := x) ty9 rfl rfl (zs7 hx) (List.getElem?_eq_getElem (Nat.lt_of_lt_of_le hx (Nat.le_of_ble_eq_true (by kernel_rfl))))) ?_
    refine dq (zdu ty5 ty3 rfl) ?_
    refine dq (zi6 rfl rfl) ?_
    refine das rfl ?_
    refine dn ?_
    refine zp ?_
    exact zaQ rfl ⟨_, rfl, rfl⟩

/-- math/bits.Len -/
theorem zl6 [Tracks] {x : Nat} (hx : x < 16) : Con Tryz.prog 73 [.int .u64 (x : Int)] [] (fun y M' => ∃ n : Int, y = .int .i64 n ∧ M' = []) := by
 refine Con.of_body Tryz.func73 rfl Tryz.ntmps73 rfl rfl ?_
 refine za ?_
 refine das rfl ?_
 refine dn ?_
 refine zm ?_
 refine zdL rfl ?_
 refine zo ?_
 refine zk ?_
 refine za ?_
 refine dmv rfl ?_
 refine de rfl (zb2 (M1 := []) (R := []) zqs rfl (WeakL.refl _) (List.Perm.refl _) (zkU hx) ?_)
 rintro _ _ ⟨n7, rfl, rfl⟩
 refine das rfl ?_
 refine dn ?_
 refine zp ?_
 exact zaQ rfl ⟨_, rfl, rfl⟩

set_option maxHeartbeats 1000000 in
/-- slices.insertionSortCmpFunc[benchwarmer/api.Give] -/
theorem zd3 [Tracks] {l : List GiveS} {v : Value} {fid : FuncId} {caps : List HVal} {c : GiveS → GiveS → Int} {n : Int} (hca : Callable Tryz.prog fid) (hp : ∀ x y, zah Tryz.prog fid ([zbb x, zbb y] ++ caps) (.int .i64 (c x y))) (hn : n = l.length) (hl : l.length ≤ 1000000) : Con Tryz.prog 114 [.raw v, .int .i64 0, .int .i64 n, .fn (.func fid) [] caps] [.arr v 3 (l.map zbb)] (fun x M' => x = .tup [] ∧ M' = [.arr v 3 ((zcn c l).map zbb)]) := by
 subst hn
 refine Con.of_body Tryz.func114 rfl Tryz.ntmps114 rfl rfl ?_
 refine za ?_
 refine dmv rfl ?_
 refine dq (zC rfl rfl (by omega) (by omega)) ?_
 refine das rfl ?_
 refine dn ?_
 refine zu ?_
 refine zaJ [8, 9, 12, 13, 14, 15, 16, 17, 18, 19, 20, 21, 22, 23, 24, 25, 26, 27, 28, 29, 30, 31, 32, 33, 34, 35, 36, 37, 38, 39, 40, 41, 42, 43, 44, 45, 46, 47, 48, 49, 50, 51, 52] (fun (k : Nat) => [(8, .int .i64 (k : Int))]) (fun (k : Nat) => [.arr v 3 ((zcn c (l.take k) ++ l.drop k).map zbb)]) (fun (k : Nat) => 1 ≤ k) (fun (k : Nat) => l.length - k) (1) ?_ ?_ ?_ ?_
 ·exact Nat.le_refl _
 ·exact ⟨rfl, trivial⟩
 ·exact zO (by rw [zm2])
 ·intro k hk
  refine zm ?_
  refine za ?_
  refine dmv rfl ?_
  refine dmv rfl ?_
  refine dq (zY rfl rfl) ?_
  refine dn ?_
  refine zl rfl (fun h1 => ?_) (fun h2 => ?_)
  ·try simp at h1
   obtain ⟨x, hx⟩ : ∃ x, l[k]? = some x := ⟨_, List.getElem?_eq_getElem (by omega)⟩
   refine zc6 (i := 0) rfl (fun h0 he => ?_) (fun b off cap hv hcap => ?_)
   ·exfalso; have := congrArg List.length he; simp [zeQ] at this; omega
   rw [show ((zcn c (l.take k) ++ l.drop k).map zbb).length = l.length by simp [zeQ]; omega] at hv
   subst hv
   refine zo ?_
   refine zk ?_
   refine zm ?_
   refine zu ?_
   refine za ?_
   refine dmv rfl ?_
   refine das rfl ?_
   refine dn ?_
   refine zu ?_
   refine zaZ [9, 18, 19, 20, 21, 22, 23, 24, 25, 26, 27, 28, 29, 30, 31, 32, 33, 34, 35, 36, 37, 38, 39, 40, 41, 42, 43, 44, 45, 46, 47, 48, 49, 50, 51, 52] (fun (A : List GiveS) (B : List GiveS) => [(9, .int .i64 (A.length : Int))]) (fun (A : List GiveS) (B : List GiveS) => [.arr (.slice (some ⟨b, off, none⟩) l.length cap) 3 ((A ++ x :: (B ++ l.drop (k + 1))).map zbb)]) (fun (A : List GiveS) (B : List GiveS) => A.length + B.length = k ∧ zd0 c x (zcn c (l.take k)) = zd0 c x A ++ B) (fun (A : List GiveS) (B : List GiveS) => A.length) (zcn c (l.take k)) ([]) ?_ ?_ ?_ ?_
   ·exact ⟨by simp [zeQ]; omega, by simp⟩
   ·exact ⟨zdv (by simp [zeQ]; omega), trivial⟩
   ·exact zO (by rw [zU hx]; rfl)
   ·intro A B hinv
    obtain ⟨hA, hB⟩ := hinv
    have hlA : A.length < l.length := by omega
    have hll : ((A ++ x :: (B ++ l.drop (k + 1)))).length = l.length := by simp; omega
    refine zm ?_
    refine zar (fun M => M = [.arr (.slice (some ⟨b, off, none⟩) l.length cap) 3 ((A ++ x :: (B ++ l.drop (k + 1))).map zbb)]) [8, 13] mixed ?_
    refine ahp 0 rfl rfl (by kernel_rfl) (by kernel_rfl) (zf rfl) ?_
    refine ahp 1 rfl rfl (by kernel_rfl) (by kernel_rfl) (zf rfl) ?_
    refine ahp 2 rfl rfl (by kernel_rfl) (by kernel_rfl) (zaT rfl rfl) ?_
    refine ahp 3 rfl rfl (by kernel_rfl) (by kernel_rfl) (zf rfl) ?_
    refine ahg 4 rfl rfl (by kernel_rfl) (by kernel_rfl) rfl (fun hc => ⟨_, OpenTo.refl _, zf rfl⟩) ?_
    refine ahg 5 rfl rfl (by kernel_rfl) (by kernel_rfl) rfl (fun hc => ⟨_, OpenTo.refl _, zf rfl⟩) ?_
    refine ahg 6 rfl rfl (by kernel_rfl) (by kernel_rfl) rfl (fun hc => ⟨_, OpenTo.refl _, zf rfl⟩) ?_
    refine ahg 7 rfl rfl (by kernel_rfl) (by kernel_rfl) rfl (fun hc => by
     have hq : 0 < A.length := by simpa using hc
     exact ⟨_, OpenTo.upd (t := 24) rfl (by first | exact hc | simp_all) (OpenTo.upd (t := 23) rfl (by first | exact hc | simp_all) (OpenTo.refl _)), za1 (j := A.length) zao zaf rfl rfl (by rfl) (by omega)⟩) ?_
    refine zdt 8 rfl rfl (by kernel_rfl) (by kernel_rfl) (by simp) rfl rfl (fun hc => ⟨_, OpenTo.upd (t := 25) rfl (by first | exact hc | simp_all) (OpenTo.refl _), fun M hM => by
     subst hM; exact zdF (i := 0) (j := A.length) zaf rfl rfl rfl zkO rfl rfl rfl ⟨rfl, rfl⟩
     ⟩) ?_
    refine ahg 9 rfl rfl (by kernel_rfl) (by kernel_rfl) rfl (fun hc => ⟨_, OpenTo.refl _, zf rfl⟩) ?_
    refine ahg 10 rfl rfl (by kernel_rfl) (by kernel_rfl) rfl (fun hc => ⟨_, OpenTo.refl _, zf rfl⟩) ?_
    refine ahg 11 rfl rfl (by kernel_rfl) (by kernel_rfl) rfl (fun hc => by
     have hq : 0 < A.length := by simpa using hc
     exact ⟨_, OpenTo.upd (t := 28) rfl (by first | exact hc | simp_all) (OpenTo.refl _), za5 rfl rfl (by omega) (by omega)⟩) ?_
    refine ahg 12 rfl rfl (by kernel_rfl) (by kernel_rfl) rfl (fun hc => by
     have hq : 0 < A.length := by simpa using hc
     exact ⟨_, OpenTo.upd (t := 29) rfl (by first | exact hc | simp_all) (OpenTo.upd (t := 27) rfl (by first | exact hc | simp_all) (OpenTo.refl _)), za1 (j := A.length - 1) zao zaf rfl rfl (by omega) (by omega)⟩) ?_
    refine zdt 13 rfl rfl (by kernel_rfl) (by kernel_rfl) (by simp) rfl rfl (fun hc => ⟨_, OpenTo.upd (t := 30) rfl (by first | exact hc | simp_all) (OpenTo.refl _), fun M hM => by
     have hq : 0 < A.length := by simpa using hc
     subst hM; exact zdF (i := 0) (j := A.length - 1) zaf rfl rfl rfl (zhU hq) rfl rfl rfl ⟨rfl, rfl⟩
     ⟩) ?_
    refine ahg 14 rfl rfl (by kernel_rfl) (by kernel_rfl) rfl (fun hc => ⟨_, OpenTo.upd (t := 31) rfl (by first | exact hc | simp_all) (OpenTo.upd (t := 26) rfl (by first | exact hc | simp_all) (OpenTo.upd (t := 22) rfl (by first | exact hc | simp_all) (OpenTo.refl _))), zdI hca rfl rfl (WeakL.refl _) (hp _ _)⟩) ?_
    refine ahg 15 rfl rfl (by kernel_rfl) (by kernel_rfl) rfl (fun hc => ⟨_, OpenTo.upd (t := 32) rfl (by first | exact hc | simp_all) (OpenTo.refl _), zY rfl rfl⟩) ?_
    refine ahp 16 rfl rfl (by kernel_rfl) (by kernel_rfl) (zG rfl (.inr ⟨_, rfl, fun h => by simp_all⟩) (.inl rfl)) ?_
    refine ahz (by kernel_rfl) ?_
    refine zl rfl (fun h3 => ?_) (fun h4 => ?_)
    ·try simp at h3
     obtain ⟨hA0, hcx⟩ := h3
     obtain ⟨A1, y, rfl⟩ := znc hA0
     rw [zgG] at hcx
     refine zo ?_
     refine zk ?_
     refine zm ?_
     refine zu ?_
     refine zbZ (fun M => M = [.arr (.slice (some ⟨b, off, none⟩) l.length cap) 3 (((A1 ++ [y]) ++ x :: (B ++ l.drop (k + 1))).map zbb)]) [9, 13] mixed ?_
     refine ahp 0 rfl rfl (by kernel_rfl) (by kernel_rfl) (zf rfl) ?_
     refine ahp 1 rfl rfl (by kernel_rfl) (by kernel_rfl) (zf rfl) ?_
     refine ahp 2 rfl rfl (by kernel_rfl) (by kernel_rfl) (zf rfl) ?_
     refine ahp 3 rfl rfl (by kernel_rfl) (by kernel_rfl) (zf rfl) ?_
     refine ahp 4 rfl rfl (by kernel_rfl) (by kernel_rfl) (za5 rfl rfl (by omega) (by omega)) ?_
     refine ahp 5 rfl rfl (by kernel_rfl) (by kernel_rfl) (zf rfl) ?_
     refine ahp 6 rfl rfl (by kernel_rfl) (by kernel_rfl) (zf rfl) ?_
     refine ahp 7 rfl rfl (by kernel_rfl) (by kernel_rfl) (za5 rfl rfl (by omega) (by omega)) ?_
     refine ahp 8 rfl rfl (by kernel_rfl) (by kernel_rfl) (za1 (j := (A1 ++ [y]).length - 1) zao zaf rfl rfl (by omega) (by omega)) ?_
     refine ahl 9 rfl rfl (by kernel_rfl) (by kernel_rfl) (by simp) rfl (fun M hM => by subst hM; exact zdF (i := 0) (j := (A1 ++ [y]).length - 1) zaf rfl rfl rfl ((zhU hA0).trans (by rw [zgG])) rfl rfl rfl ⟨rfl, rfl⟩) ?_
     refine ahp 10 rfl rfl (by kernel_rfl) (by kernel_rfl) (zf rfl) ?_
     refine ahp 11 rfl rfl (by kernel_rfl) (by kernel_rfl) (zf rfl) ?_
     refine ahp 12 rfl rfl (by kernel_rfl) (by kernel_rfl) (za1 (j := (A1 ++ [y]).length) zao zaf rfl rfl rfl (by omega)) ?_
     refine ahl 13 rfl rfl (by kernel_rfl) (by kernel_rfl) (by simp) rfl (fun M hM => by subst hM; exact zdF (i := 0) (j := (A1 ++ [y]).length) zaf rfl rfl rfl zkO rfl rfl rfl ⟨rfl, rfl⟩) ?_
     refine ahp 14 rfl rfl (by kernel_rfl) (by kernel_rfl) (za1 (j := (A1 ++ [y]).length) zao zaf rfl rfl rfl (by omega)) ?_
     refine ahe 15 rfl (by kernel_rfl) ?_
     refine zae (zeF (i := 0) (j := (A1 ++ [y]).length) (y := x) (y' := y) zaf rfl rfl rfl rfl zkO rfl rfl rfl ?_)
     refine ⟨fun _ => .inr (by simp [zaq, Region.binds]), ?_⟩
     refine ahp 16 rfl rfl (by kernel_rfl) (by kernel_rfl) (za1 (j := (A1 ++ [y]).length - 1) zao zaf rfl rfl (by omega) (by omega)) ?_
     refine ahe 17 rfl (by kernel_rfl) ?_
     refine zae (zeF (i := 0) (j := (A1 ++ [y]).length - 1) (y := y) (y' := x) zaf rfl rfl rfl rfl (by rw [List.getElem?_set_ne (by simp)]; exact (zhU hA0).trans (by rw [zgG])) rfl rfl rfl ?_)
     refine ⟨fun _ => .inr (by simp [zaq, Region.binds]), ?_⟩
     refine ahz (by kernel_rfl) ?_
     refine zA ?_
     refine zk ?_
     refine zB ?_
     refine dmv rfl ?_
     refine dq (za5 rfl rfl (by omega) (by omega)) ?_
     refine das rfl ?_
     refine dn ?_
     exact ⟨A1, y :: B, ⟨by simp at hA ⊢; omega, zqe hB hcx⟩, by dsimp only; simp, ⟨zdv (by simp), trivial⟩, (by repeat (first | exact zq | refine zx rfl ?_ | refine zt rfl rfl ?_)), zO (by rw [zp4]; rfl)⟩
    ·try simp at h4
     have hins := zpD (l := l) (k := k) hx hB (by intro h0; have := h4 h0; omega)
     refine z7 ?_
     refine zag ?_
     refine zbc ?_
     refine zT ?_
     refine zA ?_
     refine zk ?_
     refine zB ?_
     refine dmv rfl ?_
     refine dq (zC rfl rfl (by omega) (by omega)) ?_
     refine das rfl ?_
     refine dn ?_
     refine ⟨k + 1, ?_, ?_, ⟨rfl, trivial⟩, (by repeat (first | exact zq | refine zx rfl ?_ | refine zt rfl rfl ?_)), zO (by rw [hins])⟩
     ·omega
     ·dsimp only; omega
  ·try simp at h2
   have hend : zcn c (l.take k) ++ l.drop k = zcn c l := by rw [List.take_of_length_le (by omega), zaS (by omega)]; simp
   refine z7 ?_
   refine zag ?_
   refine zaY ?_
   refine zT ?_
   exact ⟨_, _, Ghost.sub (Sub.refl _), _, _, rfl, Weak.refl _, rfl, by rw [hend]⟩

/-- slices.pdqsortCmpFunc[benchwarmer/api.Give] -/
theorem zbK [Tracks] {l : List GiveS} {v : Value} {fid : FuncId} {caps : List HVal} {c : GiveS → GiveS → Int} {lim : Int} (hca : Callable Tryz.prog fid) (hp : ∀ x y, zah Tryz.prog fid ([zbb x, zbb y] ++ caps) (.int .i64 (c x y))) (hl : l.length ≤ 12) : Con Tryz.prog 72 [.raw v, .int .i64 0, .int .i64 (l.length : Int), .int .i64 lim, .fn (.func fid) [] caps] [.arr v 3 (l.map zbb)] (fun x M' => x = .tup [] ∧ M' = [.arr v 3 ((zcn c l).map zbb)]) := by
 refine Con.of_body Tryz.func72 rfl Tryz.ntmps72 rfl rfl ?_
 refine za ?_
 refine das rfl ?_
 refine dn ?_
 refine za ?_
 refine das rfl ?_
 refine dn ?_
 refine zu ?_
 refine zaJ (1 :: 2 :: 3 :: 10 :: 11 :: 12 :: 13 :: 14 :: 15 :: 16 :: 17 :: 18 :: 19 :: 20 :: 21 :: 22 :: 23 :: 24 :: 25 :: 26 :: 27 :: 28 :: 29 :: 30 :: 31 :: 32 :: 33 :: 34 :: 35 :: 36 :: 37 :: 38 :: 39 :: 40 :: 41 :: 42 :: 43 :: 44 :: 45 :: 46 :: 47 :: 48 :: 49 :: 50 :: 51 :: 52 :: 53 :: 54 :: 55 :: 56 :: 57 :: 58 :: 59 :: 60 :: 61 :: 62 :: 63 :: 64 :: 65 :: 66 :: 67 :: 68 :: 69 :: 70 :: 71 :: 72 :: 73 :: 74 :: 75 :: 76 :: 77 :: 78 :: 79 :: 80 :: 81 :: 82 :: 83 :: 84 :: 85 :: 86 :: 87 :: 88 :: 89 :: 90 :: 91 :: 92 :: 93 :: 94 :: 95 :: 96 :: 97 :: 98 :: 99 :: 100 :: 101 :: 102 :: 103 :: 104 :: 105 :: 106 :: 107 :: 108 :: 109 :: 110 :: 111 :: 112 :: 113 :: 114 :: 115 :: 116 :: 117 :: 118 :: 119 :: 120 :: 121 :: 122 :: 123 :: 124 :: 125 :: 126 :: 127 :: 128 :: 129 :: 130 :: 131 :: 132 :: 133 :: 134 :: 135 :: 136 :: 137 :: 138 :: 139 :: 140 :: 141 :: 142 :: 143 :: 144 :: 145 :: 146 :: 147 :: []) (fun (u : Unit) => [(1, .int .i64 0), (2, .int .i64 (l.length : Int))]) (fun (u : Unit) => [.arr v 3 (l.map zbb)]) (fun (u : Unit) => True) (fun (u : Unit) => 0) (()) ?_ ?_ ?_ ?_
 ·trivial
 ·exact ⟨rfl, rfl, trivial⟩
 ·exact List.Perm.refl _
 ·intro u hu
  refine zu ?_
  refine za ?_
  refine dmv rfl ?_
  refine dmv rfl ?_
  refine dq (za5 rfl rfl (by omega) (by omega)) ?_
  refine das rfl ?_
  refine dn ?_
  refine zm ?_
  refine za ?_
  refine dmv rfl ?_
  refine dq (zeR rfl rfl) ?_
  refine dn ?_
  refine zl rfl (fun h1 => ?_) (fun h1 => ?_)
  ·try simp at h1
   refine za ?_
   refine dmv rfl ?_
   refine dmv rfl ?_
   refine dmv rfl ?_
   refine dmv rfl ?_
   refine de rfl (ze (i := 0) zsq rfl (WeakL.refl _) rfl (zd3 (l := l) hca hp (by omega) (by omega)) ?_)
   rintro _ _ ⟨rfl, rfl⟩
   refine dn ?_
   refine zp ?_
   exact zaQ rfl ⟨rfl, rfl⟩
  ·exfalso
   try simp at h1
   omega

/-- slices.SortFunc[[]benchwarmer/api.Give,benchwarmer/api.Give] -/
theorem zen [Tracks] {l : List GiveS} {v : Value} {fid : FuncId} {caps : List HVal} {c : GiveS → GiveS → Int} (hca : Callable Tryz.prog fid) (hp : ∀ x y, zah Tryz.prog fid ([zbb x, zbb y] ++ caps) (.int .i64 (c x y))) (hl : l.length ≤ 12) : Con Tryz.prog 41 [.raw v, .fn (.func fid) [] caps] [.arr v 3 (l.map zbb)] (fun x M' => x = .tup [] ∧ M' = [.arr v 3 ((zcn c l).map zbb)]) := by
 refine Con.of_body Tryz.func41 rfl Tryz.ntmps41 rfl rfl ?_
 refine za ?_
 refine dmv rfl ?_
 first
 | refine de rfl (zaA (i := 0) zao rfl rfl ?_)
 | refine de rfl (zaA (i := 1) zao rfl rfl ?_)
 | refine de rfl (zaA (i := 2) zao rfl rfl ?_)
 | refine de rfl (zaA (i := 3) zao rfl rfl ?_)
 refine das rfl ?_
 refine dn ?_
 refine zB ?_
 refine dmv rfl ?_
 refine dmv rfl ?_
 refine dmv rfl ?_
 refine dq (zfO (zdu ty3 zi7 rfl) (congrArg _ (zrF (by omega)))) ?_
 refine de rfl (zb2 (M1 := []) (R := [_]) ca73 rfl (WeakL.refl _) (List.Perm.refl _) (zl6 (x := l.length) (by omega)) ?_)
 rintro _ _ ⟨n11, rfl, rfl⟩
 refine dmv rfl ?_
 first
 | refine de rfl (ze (i := 0) znR rfl (WeakL.refl _) rfl (zbK hca hp hl) ?_)
 | refine de rfl (ze (i := 1) znR rfl (WeakL.refl _) rfl (zbK hca hp hl) ?_)
 | refine de rfl (ze (i := 2) znR rfl (WeakL.refl _) rfl (zbK hca hp hl) ?_)
 | refine de rfl (ze (i := 3) znR rfl (WeakL.refl _) rfl (zbK hca hp hl) ?_)
 rintro _ _ ⟨rfl, rfl⟩
 refine dn ?_
 exact ⟨_, _, Ghost.sub (Sub.refl _), _, _, rfl, Weak.refl _, rfl, rfl⟩

/-- (*benchwarmer/benchmake.Stream).OfferList$1 -/
theorem ze6 [Tracks] {x y : GiveS}  : zah Tryz.prog 42 [zbb x, zbb y] (.int .i64 (zci x y)) := by
 refine Con.of_body Tryz.func42 rfl Tryz.ntmps42 rfl rfl ?_
 refine za ?_
 refine dq (zal rfl rfl) ?_
 refine dq (zal rfl rfl) ?_
 refine das rfl ?_
 refine dn ?_
 refine za ?_
 refine dq (zd zaf rfl ty9 (by decide) rfl) ?_
 refine dq (zh ty9 rfl rfl rfl) ?_
 refine dq (zd zaf rfl ty9 (by decide) rfl) ?_
 refine dq (zh ty9 rfl rfl rfl) ?_
 refine dq (zw zkI rfl (WeakL.refl _) zcr) ?_
 refine das rfl ?_
 refine dn ?_
 refine zp ?_
 refine zI rfl ?_
 rfl

set_option maxHeartbeats 8000000 in
/-- (*benchwarmer/benchmake.Stream).OfferList -/
theorem zbX [Tracks] {b : Nat} {l : List Int} {a : Nat} {m : MarketS} {o : List OwnerS} (ha : a ≤ 700000) (hm : GoodM m) (ho : GoodOw o) : Con Tryz.prog 8 [pAt b, zaC m, zat o] [St b l a] (fun x M' => ∃ k a', x = zcA k ∧ GoodDl k ∧ (o = [] → k = []) ∧ a' ≤ a + 400 ∧ M' = [St b l a']) := by
 have hm0 := hm.pos
 have hm5 := hm.len
 have hol := ho.len
 refine Con.of_body Tryz.func8 rfl Tryz.ntmps8 rfl rfl ?_
 refine za ?_
 refine dq (zal rfl rfl) ?_
 refine das rfl ?_
 refine dn ?_
 refine za ?_
 refine das rfl ?_
 refine dn ?_
 refine zm ?_
 refine za ?_
 refine dmv rfl ?_
 refine dq (zR zaD rfl) ?_
 refine dq (zaj rfl rfl) ?_
 refine dn ?_
 refine zl rfl (fun h1 => ?_) (fun h2 => ?_)
 ·try simp at h1
  refine za ?_
  refine das rfl ?_
  refine dn ?_
  refine zp ?_
  first
  | exact ⟨_, _, Ghost.sub (Sub.refl _), _, .slice 5 [], rfl, zak 5, [], a, rfl, ⟨by simp, by simp⟩, fun _ => rfl, by omega, rfl⟩
  | exact zbO (Ghost.fa 6 (i := 1) rfl rfl) rfl ⟨k1.map (·.1), a4, by simp, ⟨by simpa using q1, fun x hx => by
     obtain ⟨p, hp, rfl⟩ := List.mem_map.1 hx; exact q2 p hp⟩, fun e => absurd (congrArg List.length e) (by simp_all), by omega, rfl⟩
 ·try simp at h2
  refine zo ?_
  refine zk ?_
  refine zm ?_
  refine za ?_
  refine dmv rfl ?_
  first
  | refine de rfl (ze (i := 0) zdw rfl (WeakL.refl _) rfl (z6 (by first | assumption | omega | (simp; omega) | simp_all) (by first | assumption | omega | (simp; omega) | simp_all) (by first | assumption | omega | (simp; omega) | simp_all) (by first | assumption | omega | (simp; omega) | simp_all)) ?_)
  | refine de rfl (ze (i := 1) zdw rfl (WeakL.refl _) rfl (z6 (by first | assumption | omega | (simp; omega) | simp_all) (by first | assumption | omega | (simp; omega) | simp_all) (by first | assumption | omega | (simp; omega) | simp_all) (by first | assumption | omega | (simp; omega) | simp_all)) ?_)
  | refine de rfl (ze (i := 2) zdw rfl (WeakL.refl _) rfl (z6 (by first | assumption | omega | (simp; omega) | simp_all) (by first | assumption | omega | (simp; omega) | simp_all) (by first | assumption | omega | (simp; omega) | simp_all) (by first | assumption | omega | (simp; omega) | simp_all)) ?_)
  | refine de rfl (ze (i := 3) zdw rfl (WeakL.refl _) rfl (z6 (by first | assumption | omega | (simp; omega) | simp_all) (by first | assumption | omega | (simp; omega) | simp_all) (by first | assumption | omega | (simp; omega) | simp_all) (by first | assumption | omega | (simp; omega) | simp_all)) ?_)
  rintro _ _ ⟨y21, rfl, hy21, rfl⟩
  refine dmv rfl ?_
  refine dn ?_
  refine zP (Ghost.perm (M' := [St b l (a + 1)]) (List.Perm.refl _)) ?_
  refine zP (Ghost.arr_nil 5) ?_
  refine zu ?_
  refine zaZ (7 :: 8 :: 9 :: 10 :: 12 :: 13 :: 14 :: 22 :: 23 :: 24 :: 25 :: 26 :: 27 :: 28 :: 29 :: 30 :: 31 :: 32 :: 33 :: 34 :: 35 :: 36 :: 37 :: 38 :: 39 :: 40 :: 41 :: 42 :: 43 :: 44 :: 45 :: 46 :: 47 :: 48 :: 49 :: 50 :: 51 :: 52 :: 53 :: 54 :: 55 :: 56 :: 57 :: 58 :: 59 :: 60 :: 61 :: 62 :: 63 :: 64 :: 65 :: 66 :: 67 :: 68 :: 69 :: 70 :: 71 :: 72 :: 73 :: 74 :: 75 :: 76 :: 77 :: 78 :: 79 :: 80 :: 81 :: 82 :: 83 :: 84 :: 85 :: 86 :: 87 :: 88 :: 89 :: 90 :: 91 :: 92 :: 93 :: 94 :: 95 :: 96 :: 97 :: 98 :: 99 :: 100 :: 101 :: 102 :: 103 :: 104 :: []) (fun (k : Nat) (q : GL DlV) => [(22, .int .i64 (k : Int)), (7, .raw q.u)]) (fun (k : Nat) (q : GL DlV) => [St b l q.a, .arr q.u 5 (q.out.map rDl)] ++ q.out.map sDl) (fun (k : Nat) (q : GL DlV) => (k : Int) ≤ y21 ∧ GLok zrY k (a + 1 + 60 * k) q) (fun (k : Nat) (q : GL DlV) => y21.toNat - k) (0) (⟨.slice none 0 0, [], a + 1⟩) ?_ ?_ ?_ ?_
  ·exact ⟨by omega, ⟨by simp, by simp, by dsimp only; omega⟩⟩
  ·exact ⟨rfl, rfl, trivial⟩
  ·repeat (first | exact List.Perm.nil | refine zK 0 rfl ?_ | refine zK 1 rfl ?_ | refine zK 2 rfl ?_ | refine zK 3 rfl ?_ | (refine zF 0 rfl ?hq ?_; (case hq => simp [zW, zj]; done)) | (refine zF 1 rfl ?hq ?_; (case hq => simp [zW, zj]; done)) | (refine zF 2 rfl ?hq ?_; (case hq => simp [zW, zj]; done)) | (refine zF 3 rfl ?hq ?_; (case hq => simp [zW, zj]; done)) | fail)
  ·intro k q hinv
   obtain ⟨hk, hq⟩ := hinv
   obtain ⟨u, out, a2⟩ := q
   obtain ⟨g1, g2, g3⟩ := id hq
   dsimp only at g1 g2 g3
   refine za ?_
   refine dq (zY rfl rfl) ?_
   refine dn ?_
   refine zm ?_
   refine zl rfl (fun h3 => ?_) (fun h4 => ?_)
   ·try simp at h3
    refine zo ?_
    refine zk ?_
    refine zm ?_
    refine zu ?_
    refine za ?_
    refine dmv rfl ?_
    refine das rfl ?_
    refine dn ?_
    refine za ?_
    refine dmv rfl ?_
    refine dq (zE (hs := [_, _, _, _]) zbh ty3 rfl rfl (by decide) (by decide) rfl) ?_
    first
    | refine de rfl (ze (i := 0) zX rfl (WeakL.refl _) rfl (zc (L := [_, _, _, _]) (by first | assumption | omega | (simp; omega) | simp_all) (by first | assumption | omega | (simp; omega) | simp_all) (by first | assumption | omega | (simp; omega) | simp_all)) ?_)
    | refine de rfl (ze (i := 1) zX rfl (WeakL.refl _) rfl (zc (L := [_, _, _, _]) (by first | assumption | omega | (simp; omega) | simp_all) (by first | assumption | omega | (simp; omega) | simp_all) (by first | assumption | omega | (simp; omega) | simp_all)) ?_)
    | refine de rfl (ze (i := 2) zX rfl (WeakL.refl _) rfl (zc (L := [_, _, _, _]) (by first | assumption | omega | (simp; omega) | simp_all) (by first | assumption | omega | (simp; omega) | simp_all) (by first | assumption | omega | (simp; omega) | simp_all)) ?_)
    | refine de rfl (ze (i := 3) zX rfl (WeakL.refl _) rfl (zc (L := [_, _, _, _]) (by first | assumption | omega | (simp; omega) | simp_all) (by first | assumption | omega | (simp; omega) | simp_all) (by first | assumption | omega | (simp; omega) | simp_all)) ?_)
    rintro _ _ ⟨y27, rfl, hy27, rfl⟩
    refine das rfl ?_
    refine dn ?_
    refine za ?_
    refine dmv rfl ?_
    refine dq (zw ca36 rfl (WeakL.refl _) (zhi (i := k) (by omega))) ?_
    have hdl := znI (i := k) (by omega)
    refine dq (zjE rfl rfl (by simp; omega)) ?_
    refine dmv rfl ?_
    refine dmv rfl ?_
    refine dmv rfl ?_
    refine dq (zE (hs := [_, _, _]) zbh ty3 rfl rfl (by decide) (by decide) rfl) ?_
    first
    | refine de rfl (ze (i := 0) zX rfl (WeakL.refl _) rfl (zc (L := [_, _, _]) (by first | assumption | omega | (simp; omega) | simp_all) (by first | assumption | omega | (simp; omega) | simp_all) (by first | assumption | omega | (simp; omega) | simp_all)) ?_)
    | refine de rfl (ze (i := 1) zX rfl (WeakL.refl _) rfl (zc (L := [_, _, _]) (by first | assumption | omega | (simp; omega) | simp_all) (by first | assumption | omega | (simp; omega) | simp_all) (by first | assumption | omega | (simp; omega) | simp_all)) ?_)
    | refine de rfl (ze (i := 2) zX rfl (WeakL.refl _) rfl (zc (L := [_, _, _]) (by first | assumption | omega | (simp; omega) | simp_all) (by first | assumption | omega | (simp; omega) | simp_all) (by first | assumption | omega | (simp; omega) | simp_all)) ?_)
    | refine de rfl (ze (i := 3) zX rfl (WeakL.refl _) rfl (zc (L := [_, _, _]) (by first | assumption | omega | (simp; omega) | simp_all) (by first | assumption | omega | (simp; omega) | simp_all) (by first | assumption | omega | (simp; omega) | simp_all)) ?_)
    rintro _ _ ⟨y35, rfl, hy35, rfl⟩
    refine dq (zC rfl rfl (by simp at hy27 hy35; omega) (by simp at hy27 hy35; omega)) ?_
    refine dq (zaG (cs := [_, _]) zbn pl78 rfl) ?_
    refine dq (zaG (cs := [_, _, _, _, _]) zJ pl81 rfl) ?_
    refine de rfl (zac zJ rfl fun b10 => ?_)
    first
    | refine de0 (zz (i := 0) zJ rfl rfl rfl rfl rfl (Nat.le_of_ble_eq_true rfl) ?_)
    | refine de0 (zz (i := 1) zJ rfl rfl rfl rfl rfl (Nat.le_of_ble_eq_true rfl) ?_)
    | refine de0 (zz (i := 2) zJ rfl rfl rfl rfl rfl (Nat.le_of_ble_eq_true rfl) ?_)
    | refine de0 (zz (i := 3) zJ rfl rfl rfl rfl rfl (Nat.le_of_ble_eq_true rfl) ?_)
    refine dn ?_
    refine zP (Ghost.arr_nil 3) ?_
    refine zP (Ghost.perm (List.perm_middle (l₁ := [_, _]))) ?_
    refine zm ?_
    refine za ?_
    refine dmv rfl ?_
    refine dq (zR zaD rfl) ?_
    refine dmv rfl ?_
    refine dn ?_
    refine zu ?_
    refine zgS [12, 13, 14, 41, 42, 43, 44, 45, 46, 47, 48, 49, 50, 51, 52, 53, 54, 55, 56, 57, 58, 59, 60, 61, 62, 63, 64, 65, 66, 67, 68, 69, 70, 71, 72, 73, 74, 75, 76, 77, 78] (fun (j : Nat) (v : Value) (gs : List GiveS) (a4 : Nat) => [(41, .int .i64 j)]) (fun (j : Nat) (v : Value) (gs : List GiveS) (a4 : Nat) => [St b l a4, .arr v 3 (gs.map zbb), .cells b10 [.str (111 :: Lib.decDigits k), .str [], .int .i64 y27, .int .i64 (y27 + y35), .raw v], .arr u 5 (out.map rDl)] ++ out.map sDl) (fun (j : Nat) (v : Value) (gs : List GiveS) (a4 : Nat) => j ≤ o.length ∧ (gs.length ≤ j ∧ (gs.length ≤ 3) ∧ (∀ g ∈ gs, Sh g.Player) ∧ a4 ≤ a2 + 2 + 4 * j)) (fun (j : Nat) (v : Value) (gs : List GiveS) (a4 : Nat) => o.length - j) (0) (.slice none 0 0) ([]) (a2 + 2) ?_ ?_ ?_ ?_
    ·exact ⟨Nat.zero_le _, Nat.le_refl _, by simp, by simp, by omega⟩
    ·exact ⟨rfl, trivial⟩
    ·exact zO rfl
    ·intro j v gs a4 hinv
     obtain ⟨hj, hgj, hg3, hgs, ha4⟩ := hinv
     refine za ?_
     refine dq (zY rfl rfl) ?_
     refine dn ?_
     refine zm ?_
     refine zl rfl (fun h5 => ?_) (fun h6 => ?_)
     ·try simp at h5
      obtain ⟨z, hz⟩ : ∃ z, o[j]? = some z := ⟨_, List.getElem?_eq_getElem h5⟩
      have hdz := zU hz
      refine zo ?_
      refine zk ?_
      refine zm ?_
      refine zu ?_
      refine za ?_
      refine dq (zZ zaD zaa rfl rfl rfl (by first | assumption | simp_all)) ?_
      refine dq (zD zaa rfl rfl rfl rfl) ?_
      refine de rfl (zac zaa rfl fun b12 => ?_)
      refine de0 (zax zaa rfl rfl rfl rfl rfl ?_)
      refine dn ?_
      refine zP (Ghost.fc0 12 rfl) ?_
      refine za ?_
      refine dmv rfl ?_
      first
      | refine de rfl (ze (i := 0) zep rfl (WeakL.refl _) rfl (zap (by first | assumption | omega | (simp; omega) | simp_all) (by first | assumption | omega | (simp; omega) | simp_all)) ?_)
      | refine de rfl (ze (i := 1) zep rfl (WeakL.refl _) rfl (zap (by first | assumption | omega | (simp; omega) | simp_all) (by first | assumption | omega | (simp; omega) | simp_all)) ?_)
      | refine de rfl (ze (i := 2) zep rfl (WeakL.refl _) rfl (zap (by first | assumption | omega | (simp; omega) | simp_all) (by first | assumption | omega | (simp; omega) | simp_all)) ?_)
      | refine de rfl (ze (i := 3) zep rfl (WeakL.refl _) rfl (zap (by first | assumption | omega | (simp; omega) | simp_all) (by first | assumption | omega | (simp; omega) | simp_all)) ?_)
      rintro _ _ ⟨y46, rfl, rfl⟩
      refine dmv rfl ?_
      refine dg rfl rfl (fun hc => ⟨_, OpenTo.refl _, zb zJ rfl zao (by decide) rfl⟩) ?_
      refine dgl rfl rfl (fun hc => ⟨_, OpenTo.upd (t := 48) rfl (by first | exact hc | simp_all) (OpenTo.refl _), zy (i := 2) zao rfl rfl (.inl ⟨rfl, rfl⟩) ⟨rfl, rfl⟩⟩) ?_
      refine dgl rfl rfl (fun hc => ⟨_, OpenTo.upd (t := 49) rfl (by first | exact hc | simp_all) (OpenTo.refl _), zaA (i := 1) (es := gs) zao rfl rfl ⟨rfl, rfl⟩⟩) ?_
      refine dg rfl rfl (fun hc => ⟨_, OpenTo.upd (t := 50) rfl (by first | exact hc | simp_all) (OpenTo.refl _), zY rfl rfl⟩) ?_
      refine dq (zG rfl (.inr ⟨_, rfl, fun h => by simp_all⟩) (.inl rfl)) ?_
      refine dn ?_
      refine zl rfl (fun h7 => ?_) (fun h8 => ?_)
      ·try simp at h7
       refine za ?_
       refine dmv rfl ?_
       refine dq ((by first | exact zd zN rfl zQ (by decide) rfl | exact zb zN rfl zQ (by decide) rfl)) ?_
       refine dq (zh zQ rfl rfl rfl) ?_
       first
       | refine de rfl (ze (i := 0) zaF rfl (WeakL.refl _) rfl (zi (by first | assumption | omega | (simp; omega) | simp_all) (by first | assumption | omega | (simp; omega) | simp_all) (by first | assumption | omega | (simp; omega) | simp_all)) ?_)
       | refine de rfl (ze (i := 1) zaF rfl (WeakL.refl _) rfl (zi (by first | assumption | omega | (simp; omega) | simp_all) (by first | assumption | omega | (simp; omega) | simp_all) (by first | assumption | omega | (simp; omega) | simp_all)) ?_)
       | refine de rfl (ze (i := 2) zaF rfl (WeakL.refl _) rfl (zi (by first | assumption | omega | (simp; omega) | simp_all) (by first | assumption | omega | (simp; omega) | simp_all) (by first | assumption | omega | (simp; omega) | simp_all)) ?_)
       | refine de rfl (ze (i := 3) zaF rfl (WeakL.refl _) rfl (zi (by first | assumption | omega | (simp; omega) | simp_all) (by first | assumption | omega | (simp; omega) | simp_all) (by first | assumption | omega | (simp; omega) | simp_all)) ?_)
       rintro _ _ ⟨y56, rfl, hy56, rfl⟩
       refine das rfl ?_
       refine dn ?_
       refine za ?_
       refine dq ((by first | exact zd zaa rfl ty9 (by decide) rfl | exact zb zaa rfl ty9 (by decide) rfl)) ?_
       refine dq (zh ty9 rfl rfl rfl) ?_
       refine das rfl ?_
       refine dn ?_
       refine zm ?_
       refine za ?_
       refine dmv rfl ?_
       first
       | refine de rfl (ze (i := 0) zep rfl (WeakL.refl _) rfl (zap (by first | assumption | omega | (simp; omega) | simp_all) (by first | assumption | omega | (simp; omega) | simp_all)) ?_)
       | refine de rfl (ze (i := 1) zep rfl (WeakL.refl _) rfl (zap (by first | assumption | omega | (simp; omega) | simp_all) (by first | assumption | omega | (simp; omega) | simp_all)) ?_)
       | refine de rfl (ze (i := 2) zep rfl (WeakL.refl _) rfl (zap (by first | assumption | omega | (simp; omega) | simp_all) (by first | assumption | omega | (simp; omega) | simp_all)) ?_)
       | refine de rfl (ze (i := 3) zep rfl (WeakL.refl _) rfl (zap (by first | assumption | omega | (simp; omega) | simp_all) (by first | assumption | omega | (simp; omega) | simp_all)) ?_)
       rintro _ _ ⟨y60, rfl, rfl⟩
       refine dn ?_
       refine zl rfl (fun h9 => ?_) (fun h10 => ?_)
       ·try simp at h9
        refine zB ?_
        refine dmv rfl ?_
        refine dq ((by first | exact zd zN rfl zQ (by decide) rfl | exact zb zN rfl zQ (by decide) rfl)) ?_
        refine dq (zh zQ rfl rfl rfl) ?_
        first
        | refine de rfl (ze (i := 0) zaF rfl (WeakL.refl _) rfl (zi (by first | assumption | omega | (simp; omega) | simp_all) (by first | assumption | omega | (simp; omega) | simp_all) (by first | assumption | omega | (simp; omega) | simp_all)) ?_)
        | refine de rfl (ze (i := 1) zaF rfl (WeakL.refl _) rfl (zi (by first | assumption | omega | (simp; omega) | simp_all) (by first | assumption | omega | (simp; omega) | simp_all) (by first | assumption | omega | (simp; omega) | simp_all)) ?_)
        | refine de rfl (ze (i := 2) zaF rfl (WeakL.refl _) rfl (zi (by first | assumption | omega | (simp; omega) | simp_all) (by first | assumption | omega | (simp; omega) | simp_all) (by first | assumption | omega | (simp; omega) | simp_all)) ?_)
        | refine de rfl (ze (i := 3) zaF rfl (WeakL.refl _) rfl (zi (by first | assumption | omega | (simp; omega) | simp_all) (by first | assumption | omega | (simp; omega) | simp_all) (by first | assumption | omega | (simp; omega) | simp_all)) ?_)
        rintro _ _ ⟨y64, rfl, hy64, rfl⟩
        refine das rfl ?_
        refine dn ?_
        refine zk ?_
        refine za ?_
        refine dmv rfl ?_
        refine dmv rfl ?_
        refine dq (zeb rfl rfl) ?_
        refine dn ?_
        refine zl rfl (fun h11 => ?_) (fun h12 => ?_)
        ·try simp at h11
         refine zB ?_
         refine dq (zb zJ rfl zao (by decide) rfl) ?_
         first
         | refine de rfl (zy (i := 0) zao rfl rfl (.inl ⟨rfl, rfl⟩) ?_)
         | refine de rfl (zy (i := 1) zao rfl rfl (.inl ⟨rfl, rfl⟩) ?_)
         | refine de rfl (zy (i := 2) zao rfl rfl (.inl ⟨rfl, rfl⟩) ?_)
         | refine de rfl (zy (i := 3) zao rfl rfl (.inl ⟨rfl, rfl⟩) ?_)
         refine dq ((by first | exact zd zaa rfl ty9 (by decide) rfl | exact zb zaa rfl ty9 (by decide) rfl)) ?_
         refine dq (zh ty9 rfl rfl rfl) ?_
         refine dmv rfl ?_
         refine dmv rfl ?_
         refine dq (zaG (cs := [_, _, _]) zaf zpv rfl) ?_
         refine dq (zE (hs := [_]) zao zaf rfl rfl (by decide) (by decide) rfl) ?_
         refine de rfl (zay (i := 1) (v := v) (es := gs.map zbb) zao zaf rfl rfl rfl rfl rfl (by simp [zbi, zj]) (by simp; omega) fun v76 => ?_)
         refine dq (zb zJ rfl zao (by decide) rfl) ?_
         first
         | refine de0 (zz (i := 0) zao rfl rfl rfl rfl rfl (Nat.le_of_ble_eq_true rfl) ?_)
         | refine de0 (zz (i := 1) zao rfl rfl rfl rfl rfl (Nat.le_of_ble_eq_true rfl) ?_)
         | refine de0 (zz (i := 2) zao rfl rfl rfl rfl rfl (Nat.le_of_ble_eq_true rfl) ?_)
         | refine de0 (zz (i := 3) zao rfl rfl rfl rfl rfl (Nat.le_of_ble_eq_true rfl) ?_)
         refine dn ?_
         refine zA ?_
         refine zk ?_
         refine zB ?_
         refine dq (zC rfl rfl (by omega) (by omega)) ?_
         refine dmv rfl ?_
         refine dn ?_
         exact ⟨j + 1, v76, (gs ++ [⟨z.Player, y64, y56⟩]), a4 + 4, ⟨by omega, by first | omega | (simp; omega), by first | omega | (simp; omega), fun g hg => by
          rcases List.mem_append.1 hg with hg | hg
          ·exact hgs g hg
          ·rw [List.mem_singleton.1 hg]; exact (ho.all z (List.mem_of_getElem? hz)).1, by omega⟩, by dsimp only; omega, ⟨rfl, trivial⟩, (by repeat (first | exact zq | refine zx rfl ?_ | refine zt rfl rfl ?_)), zO (by first | rfl | (dsimp only; rw [List.map_append]; rfl))⟩
        ·try simp at h12
         refine zo ?_
         refine zA ?_
         refine zk ?_
         refine zB ?_
         refine dq (zC rfl rfl (by omega) (by omega)) ?_
         refine dmv rfl ?_
         refine dn ?_
         exact ⟨j + 1, v, gs, a4 + 4, ⟨by omega, by first | omega | (simp; omega), by first | omega | (simp; omega), hgs, by omega⟩, by dsimp only; omega, ⟨rfl, trivial⟩, (by repeat (first | exact zq | refine zx rfl ?_ | refine zt rfl rfl ?_)), zO (by first | rfl | (dsimp only; rw [List.map_append]; rfl))⟩
       ·try simp at h10
        refine zo ?_
        refine zk ?_
        refine za ?_
        refine dmv rfl ?_
        refine dmv rfl ?_
        refine dq (zeb rfl rfl) ?_
        refine dn ?_
        refine zl rfl (fun h13 => ?_) (fun h14 => ?_)
        ·try simp at h13
         refine zB ?_
         refine dq (zb zJ rfl zao (by decide) rfl) ?_
         first
         | refine de rfl (zy (i := 0) zao rfl rfl (.inl ⟨rfl, rfl⟩) ?_)
         | refine de rfl (zy (i := 1) zao rfl rfl (.inl ⟨rfl, rfl⟩) ?_)
         | refine de rfl (zy (i := 2) zao rfl rfl (.inl ⟨rfl, rfl⟩) ?_)
         | refine de rfl (zy (i := 3) zao rfl rfl (.inl ⟨rfl, rfl⟩) ?_)
         refine dq ((by first | exact zd zaa rfl ty9 (by decide) rfl | exact zb zaa rfl ty9 (by decide) rfl)) ?_
         refine dq (zh ty9 rfl rfl rfl) ?_
         refine dmv rfl ?_
         refine dmv rfl ?_
         refine dq (zaG (cs := [_, _, _]) zaf zpv rfl) ?_
         refine dq (zE (hs := [_]) zao zaf rfl rfl (by decide) (by decide) rfl) ?_
         refine de rfl (zay (i := 1) (v := v) (es := gs.map zbb) zao zaf rfl rfl rfl rfl rfl (by simp [zbi, zj]) (by simp; omega) fun v76 => ?_)
         refine dq (zb zJ rfl zao (by decide) rfl) ?_
         first
         | refine de0 (zz (i := 0) zao rfl rfl rfl rfl rfl (Nat.le_of_ble_eq_true rfl) ?_)
         | refine de0 (zz (i := 1) zao rfl rfl rfl rfl rfl (Nat.le_of_ble_eq_true rfl) ?_)
         | refine de0 (zz (i := 2) zao rfl rfl rfl rfl rfl (Nat.le_of_ble_eq_true rfl) ?_)
         | refine de0 (zz (i := 3) zao rfl rfl rfl rfl rfl (Nat.le_of_ble_eq_true rfl) ?_)
         refine dn ?_
         refine zA ?_
         refine zk ?_
         refine zB ?_
         refine dq (zC rfl rfl (by omega) (by omega)) ?_
         refine dmv rfl ?_
         refine dn ?_
         exact ⟨j + 1, v76, (gs ++ [⟨z.Player, z.Team, y56⟩]), a4 + 3, ⟨by omega, by first | omega | (simp; omega), by first | omega | (simp; omega), fun g hg => by
          rcases List.mem_append.1 hg with hg | hg
          ·exact hgs g hg
          ·rw [List.mem_singleton.1 hg]; exact (ho.all z (List.mem_of_getElem? hz)).1, by omega⟩, by dsimp only; omega, ⟨rfl, trivial⟩, (by repeat (first | exact zq | refine zx rfl ?_ | refine zt rfl rfl ?_)), zO (by first | rfl | (dsimp only; rw [List.map_append]; rfl))⟩
        ·try simp at h14
         refine zo ?_
         refine zA ?_
         refine zk ?_
         refine zB ?_
         refine dq (zC rfl rfl (by omega) (by omega)) ?_
         refine dmv rfl ?_
         refine dn ?_
         exact ⟨j + 1, v, gs, a4 + 3, ⟨by omega, by first | omega | (simp; omega), by first | omega | (simp; omega), hgs, by omega⟩, by dsimp only; omega, ⟨rfl, trivial⟩, (by repeat (first | exact zq | refine zx rfl ?_ | refine zt rfl rfl ?_)), zO (by first | rfl | (dsimp only; rw [List.map_append]; rfl))⟩
      ·try simp at h8
       refine zo ?_
       refine zA ?_
       refine zk ?_
       refine zB ?_
       refine dq (zC rfl rfl (by omega) (by omega)) ?_
       refine dmv rfl ?_
       refine dn ?_
       exact ⟨j + 1, v, gs, a4 + 1, ⟨by omega, by first | omega | (simp; omega), by first | omega | (simp; omega), hgs, by omega⟩, by dsimp only; omega, ⟨rfl, trivial⟩, (by repeat (first | exact zq | refine zx rfl ?_ | refine zt rfl rfl ?_)), zO (by first | rfl | (dsimp only; rw [List.map_append]; rfl))⟩
     ·try simp at h6
      have hnj : o.length ≤ j := by omega
      obtain rfl : j = o.length := by omega
      refine z7 ?_
      refine zag ?_
      refine zhw ?_
      refine zT ?_
      refine zk ?_
      refine zm ?_
      refine za ?_
      refine dq (zb zJ rfl zao (by decide) rfl) ?_
      first
      | refine de rfl (zy (i := 0) zao rfl rfl (.inl ⟨rfl, rfl⟩) ?_)
      | refine de rfl (zy (i := 1) zao rfl rfl (.inl ⟨rfl, rfl⟩) ?_)
      | refine de rfl (zy (i := 2) zao rfl rfl (.inl ⟨rfl, rfl⟩) ?_)
      | refine de rfl (zy (i := 3) zao rfl rfl (.inl ⟨rfl, rfl⟩) ?_)
      refine de rfl (zaA (i := 1) (es := gs) zao rfl rfl ?_)
      refine dq (zaj rfl rfl) ?_
      refine dn ?_
      refine zl rfl (fun h15 => ?_) (fun h16 => ?_)
      ·try simp at h15
       refine z7 ?_
       refine zag ?_
       refine zT ?_
       refine zk ?_
       try refine zP Ghost.drop12 ?_
       refine zB ?_
       refine dq (zC rfl rfl (by omega) (by omega)) ?_
       refine dmv rfl ?_
       refine dn ?_
       exact ⟨k + 1, ⟨u, out, a4⟩, ⟨by omega, hq.same (by omega)⟩, by dsimp only; omega, ⟨rfl, rfl, trivial⟩, (by repeat (first | exact zq | refine zx rfl ?_ | refine zt rfl rfl ?_)), zO rfl⟩
      ·try simp at h16
       refine zo ?_
       refine zk ?_
       have hg0 : 0 < gs.length := List.length_pos_iff.2 (by assumption)
       refine zc6 (i := 1) rfl (fun h0 he => ?_) (fun gb goff gcap hv hcap => ?_)
       ·exfalso; have := congrArg List.length he; simp at this; subst this; simp at hg0
       rw [List.length_map] at hv hcap
       subst hv
       obtain ⟨g0, hg0x⟩ : ∃ g, gs[0]? = some g := ⟨_, List.getElem?_eq_getElem hg0⟩
       refine zar (fun M => (∃ i : Nat, M[i]? = some (.cells b10 [.str (111 :: Lib.decDigits k), .str [], .int .i64 y27, .int .i64 (y27 + y35), .raw (.slice (some ⟨gb, goff, none⟩) gs.length gcap)])) ∧ ∃ i : Nat, M[i]? = some (.arr (.slice (some ⟨gb, goff, none⟩) gs.length gcap) 3 (gs.map zbb))) [2, 5, 7, 10] mixed ?_
       refine ahp 0 rfl rfl (by kernel_rfl) (by kernel_rfl) (zf rfl) ?_
       refine ahp 1 rfl rfl (by kernel_rfl) (by kernel_rfl) (zb zJ rfl zao (by decide) rfl) ?_
       refine ahl 2 rfl rfl (by kernel_rfl) (by kernel_rfl) (by simp) ⟨⟨2, rfl⟩, ⟨1, rfl⟩⟩ (fun M hM => by obtain ⟨⟨i, hi⟩, _⟩ := hM; exact zy (i := i) zao rfl hi (.inl ⟨rfl, rfl⟩) ⟨rfl, rfl⟩) ?_
       refine ahp 3 rfl rfl (by kernel_rfl) (by kernel_rfl) (za1 (j := 0) zao zaf rfl rfl rfl (by omega)) ?_
       refine ahp 4 rfl rfl (by kernel_rfl) (by kernel_rfl) ((by first | exact zd zaf rfl ty9 (by decide) rfl | exact zb zaf rfl ty9 (by decide) rfl)) ?_
       refine ahl 5 rfl rfl (by kernel_rfl) (by kernel_rfl) (by simp) ⟨⟨2, rfl⟩, ⟨1, rfl⟩⟩ (fun M hM => by obtain ⟨_, ⟨i, hi⟩⟩ := hM; exact za6 (i := i) (j := 0) (y := g0) 1 ty9 rfl (by omega) hi hg0x rfl rfl ⟨rfl, rfl⟩) ?_
       refine ahp 6 rfl rfl (by kernel_rfl) (by kernel_rfl) (zb zJ rfl zao (by decide) rfl) ?_
       refine ahl 7 rfl rfl (by kernel_rfl) (by kernel_rfl) (by simp) ⟨⟨2, rfl⟩, ⟨1, rfl⟩⟩ (fun M hM => by obtain ⟨⟨i, hi⟩, _⟩ := hM; exact zy (i := i) zao rfl hi (.inl ⟨rfl, rfl⟩) ⟨rfl, rfl⟩) ?_
       refine ahp 8 rfl rfl (by kernel_rfl) (by kernel_rfl) (za1 (j := 0) zao zaf rfl rfl rfl (by omega)) ?_
       refine ahp 9 rfl rfl (by kernel_rfl) (by kernel_rfl) ((by first | exact zd zaf rfl ty9 (by decide) rfl | exact zb zaf rfl ty9 (by decide) rfl)) ?_
       refine ahl 10 rfl rfl (by kernel_rfl) (by kernel_rfl) (by simp) ⟨⟨2, rfl⟩, ⟨1, rfl⟩⟩ (fun M hM => by obtain ⟨_, ⟨i, hi⟩⟩ := hM; exact za6 (i := i) (j := 0) (y := g0) 2 ty9 rfl (by omega) hi hg0x rfl rfl ⟨rfl, rfl⟩) ?_
       refine ahp 11 rfl rfl (by kernel_rfl) (by kernel_rfl) (zE (hs := [_, _]) zQ ty9 rfl rfl (by decide) (by decide) rfl) ?_
       refine ahe 12 rfl (by kernel_rfl) ?_
       refine zv rfl (ze (i := 0) zaF rfl (WeakL.refl _) rfl (zi (L := [_, _]) (by omega) (by simp) (by simp)) ?_)
       rintro _ _ ⟨y95, rfl, hy95, rfl⟩
       refine ⟨fun _ => .inl ⟨⟨2, rfl⟩, ⟨1, rfl⟩⟩, ?_⟩
       refine ahp 13 rfl rfl (by kernel_rfl) (by kernel_rfl) (zb zJ rfl ty9 (by decide) rfl) ?_
       refine ahe 14 rfl (by kernel_rfl) ?_
       first
       | refine zae (zz (i := 0) ty9 rfl rfl rfl rfl rfl (Nat.le_of_ble_eq_true rfl) ?_)
       | refine zae (zz (i := 1) ty9 rfl rfl rfl rfl rfl (Nat.le_of_ble_eq_true rfl) ?_)
       | refine zae (zz (i := 2) ty9 rfl rfl rfl rfl rfl (Nat.le_of_ble_eq_true rfl) ?_)
       | refine zae (zz (i := 3) ty9 rfl rfl rfl rfl rfl (Nat.le_of_ble_eq_true rfl) ?_)
       refine ⟨fun _ => by first | exact .inl ⟨0, rfl⟩ | exact .inl ⟨1, rfl⟩ | exact .inl ⟨2, rfl⟩ | exact .inr (by simp [zaq, Region.binds]), ?_⟩
       refine ahz (by kernel_rfl) ?_
       refine za ?_
       refine dq (zb zJ rfl zao (by decide) rfl) ?_
       first
       | refine de rfl (zy (i := 0) zao rfl rfl (.inl ⟨rfl, rfl⟩) ?_)
       | refine de rfl (zy (i := 1) zao rfl rfl (.inl ⟨rfl, rfl⟩) ?_)
       | refine de rfl (zy (i := 2) zao rfl rfl (.inl ⟨rfl, rfl⟩) ?_)
       | refine de rfl (zy (i := 3) zao rfl rfl (.inl ⟨rfl, rfl⟩) ?_)
       refine de rfl (ze (i := 1) ca41 rfl (WeakL.refl _) rfl (zen (l := gs) (c := zci) ca42 (fun _ _ => ze6) (by omega)) ?_)
       rintro _ _ ⟨rfl, rfl⟩
       refine dn ?_
       refine zP (Ghost.perm (List.Perm.swap _ _ _)) ?_
       refine zB ?_
       refine dmv rfl ?_
       refine de rfl (zeX (i := 2) (h := rDl ((⟨(111 :: Lib.decDigits k), y95, y27, y27 + y35, zcn zci gs⟩ : DealS), (.slice (some ⟨gb, goff, none⟩) gs.length gcap))) zJ rfl rfl rfl rfl rfl ?_)
       refine dq (zE (hs := [_]) zbv zJ rfl rfl (by decide) (by decide) rfl) ?_
       refine de rfl (EOp.post_ghost (zay (i := 3) (v := u) (es := out.map rDl) zbv zJ rfl rfl rfl rfl rfl (by simp [zbi, zj]) (by simp; omega) fun v103 => ⟨_, zrt, ?_⟩))
       refine das rfl ?_
       refine dn ?_
       refine zA ?_
       refine zk ?_
       try refine zP Ghost.drop12 ?_
       refine zB ?_
       refine dq (zC rfl rfl (by omega) (by omega)) ?_
       refine dmv rfl ?_
       refine dn ?_
       exact ⟨k + 1, ⟨v103, out ++ [((⟨(111 :: Lib.decDigits k), y95, y27, y27 + y35, zcn zci gs⟩ : DealS), (.slice (some ⟨gb, goff, none⟩) gs.length gcap))], a4 + 1⟩, ⟨by omega, hq.add (x := ((⟨(111 :: Lib.decDigits k), y95, y27, y27 + y35, zcn zci gs⟩ : DealS), (.slice (some ⟨gb, goff, none⟩) gs.length gcap))) ⟨⟨zfY (s := (111 :: Lib.decDigits k)) (n := 11) (by simp; omega) (by decide), by rw [zeQ]; omega, fun g hg => hgs g (zn6 hg)⟩, by rw [zeQ]; exact hg0⟩ (by omega)⟩, by dsimp only; omega, ⟨rfl, rfl, trivial⟩, (by repeat (first | exact zq | refine zx rfl ?_ | refine zt rfl rfl ?_)), zO (by dsimp only; simp only [List.map_append, List.map_cons, List.map_nil]; rfl)⟩
   ·try simp at h4
    refine z7 ?_
    refine zag ?_
    refine zbc ?_
    refine zT ?_
    refine zk ?_
    refine zdi (15 :: 16 :: 105 :: 106 :: 107 :: 108 :: 109 :: 110 :: 111 :: 112 :: 113 :: 114 :: 115 :: 116 :: 117 :: 118 :: 119 :: 120 :: 121 :: 122 :: 123 :: 124 :: 125 :: 126 :: 127 :: 128 :: 129 :: 130 :: 131 :: 132 :: 133 :: 134 :: 135 :: 136 :: 137 :: 138 :: 139 :: 140 :: 141 :: 142 :: 143 :: 144 :: 145 :: 146 :: 147 :: 148 :: 149 :: 150 :: 151 :: 152 :: 153 :: 154 :: 155 :: 156 :: 157 :: 158 :: 159 :: 160 :: 161 :: 162 :: 163 :: 164 :: 165 :: 166 :: 167 :: 168 :: 169 :: 170 :: 171 :: 172 :: 173 :: 174 :: 175 :: 176 :: 177 :: 178 :: 179 :: 180 :: 181 :: 182 :: 183 :: 184 :: 185 :: 186 :: 187 :: 188 :: 189 :: 190 :: 191 :: 192 :: 193 :: 194 :: []) (fun (q5 : List DlV × Nat) => []) (fun (q5 : List DlV × Nat) => [St b l q5.2, .arr u 5 (q5.1.map rDl)] ++ q5.1.map sDl) (fun (q5 : List DlV × Nat) => q5.1.length ≤ 5 ∧ (∀ p ∈ q5.1, GoodDl1 p.1) ∧ q5.2 ≤ a + 400) ?_ ?_
    ·skip
     refine za ?_
     refine dmv rfl ?_
     first
     | refine de rfl (zaA (i := 0) zbv rfl rfl ?_)
     | refine de rfl (zaA (i := 1) zbv rfl rfl ?_)
     | refine de rfl (zaA (i := 2) zbv rfl rfl ?_)
     | refine de rfl (zaA (i := 3) zbv rfl rfl ?_)
     refine dq (zaT rfl rfl) ?_
     refine dmv rfl ?_
     refine dg rfl rfl (fun hc => ⟨_, OpenTo.refl _, zf rfl⟩) ?_
     refine dgx (fun x M' => ∃ (y : Bool) (a3 : Nat), x = .bool y ∧ a3 ≤ a2 + 1 ∧ M' = [St b l a3, .arr u 5 (out.map rDl)] ++ out.map sDl) rfl rfl (fun hc => ⟨_, false, a2, rfl, by omega, rfl⟩) (fun hc => ⟨_, OpenTo.upd (t := 109) rfl (by first | exact hc | simp_all) (OpenTo.refl _), ze (i := 0) zep rfl (WeakL.refl _) rfl (zap (a := a2) (by omega) (by omega)) (fun h M' hh => by
      obtain ⟨y, h1, h2⟩ := hh
      exact ⟨y, a2 + 1, h1, by omega, by rw [h2]; rfl⟩)⟩) ?_
     rintro _ _ ⟨y, a3, rfl, ha3, rfl⟩
     refine dq (zG rfl (.inr ⟨_, rfl, fun h => by simp_all⟩) (.inl rfl)) ?_
     refine dn ?_
     refine zl rfl (fun h17 => ?_) (fun h18 => ?_)
     ·try simp at h17
      have ho0 : 0 < out.length := by simp_all
      refine zc6 (i := 1) rfl (fun h0 he => ?_) (fun ob off cap hv hcap => ?_)
      ·exfalso; have := congrArg List.length he; simp at this; subst this; simp at ho0
      subst hv
      refine za ?_
      refine dmv rfl ?_
      refine dmv rfl ?_
      refine dmv rfl ?_
      first
      | refine de rfl (zaA (i := 0) zbv rfl rfl ?_)
      | refine de rfl (zaA (i := 1) zbv rfl rfl ?_)
      | refine de rfl (zaA (i := 2) zbv rfl rfl ?_)
      | refine de rfl (zaA (i := 3) zbv rfl rfl ?_)
      first
      | refine de rfl (ze (i := 0) zdy rfl (WeakL.refl _) rfl (zab (by first | assumption | omega | (simp; omega) | simp_all) (by first | assumption | omega | (simp; omega) | simp_all)) ?_)
      | refine de rfl (ze (i := 1) zdy rfl (WeakL.refl _) rfl (zab (by first | assumption | omega | (simp; omega) | simp_all) (by first | assumption | omega | (simp; omega) | simp_all)) ?_)
      | refine de rfl (ze (i := 2) zdy rfl (WeakL.refl _) rfl (zab (by first | assumption | omega | (simp; omega) | simp_all) (by first | assumption | omega | (simp; omega) | simp_all)) ?_)
      | refine de rfl (ze (i := 3) zdy rfl (WeakL.refl _) rfl (zab (by first | assumption | omega | (simp; omega) | simp_all) (by first | assumption | omega | (simp; omega) | simp_all)) ?_)
      rintro _ _ ⟨y116, rfl, hy116, rfl⟩
      refine dq (za1 (j := y116) zbv zJ rfl rfl rfl (by simp; omega)) ?_
      refine das rfl ?_
      refine dn ?_
      obtain ⟨⟨x1, xv⟩, hx⟩ : ∃ x, out[y116]? = some x := ⟨_, List.getElem?_eq_getElem (by omega)⟩
      obtain ⟨hgx1, hgx2⟩ := g2 _ (List.mem_of_getElem? hx)
      dsimp only at hgx1 hgx2
      refine za ?_
      refine dmv rfl ?_
      first
      | refine de rfl (ze (i := 0) zdy rfl (WeakL.refl _) rfl (zab (by first | assumption | omega | (simp; omega) | simp_all) (by first | assumption | omega | (simp; omega) | simp_all)) ?_)
      | refine de rfl (ze (i := 1) zdy rfl (WeakL.refl _) rfl (zab (by first | assumption | omega | (simp; omega) | simp_all) (by first | assumption | omega | (simp; omega) | simp_all)) ?_)
      | refine de rfl (ze (i := 2) zdy rfl (WeakL.refl _) rfl (zab (by first | assumption | omega | (simp; omega) | simp_all) (by first | assumption | omega | (simp; omega) | simp_all)) ?_)
      | refine de rfl (ze (i := 3) zdy rfl (WeakL.refl _) rfl (zab (by first | assumption | omega | (simp; omega) | simp_all) (by first | assumption | omega | (simp; omega) | simp_all)) ?_)
      rintro _ _ ⟨y119, rfl, hy119, rfl⟩
      refine dn ?_
      refine zu ?_
      refine za ?_
      refine dq (zaj rfl rfl) ?_
      refine das rfl ?_
      refine dn ?_
      refine zl rfl (fun h19 => ?_) (fun h20 => ?_)
      ·try simp at h19
       refine zbZ (fun M => ∃ i : Nat, M[i]? = some (.arr (.slice (some ⟨ob, off, none⟩) (out.map rDl).length cap) 5 (out.map rDl))) [6, 13] mixed ?_
       refine ahp 0 rfl rfl (by kernel_rfl) (by kernel_rfl) (zf rfl) ?_
       refine ahp 1 rfl rfl (by kernel_rfl) (by kernel_rfl) (zf rfl) ?_
       refine ahp 2 rfl rfl (by kernel_rfl) (by kernel_rfl) (zf rfl) ?_
       refine ahp 3 rfl rfl (by kernel_rfl) (by kernel_rfl) (zf rfl) ?_
       refine ahp 4 rfl rfl (by kernel_rfl) (by kernel_rfl) ((by first | exact zn rfl | exact zg rfl)) ?_
       refine ahp 5 rfl rfl (by kernel_rfl) (by kernel_rfl) ((by first | exact zd zJ rfl ty9 (by decide) rfl | exact zb zJ rfl ty9 (by decide) rfl)) ?_
       refine ahl 6 rfl rfl (by kernel_rfl) (by kernel_rfl) (by simp) ⟨1, rfl⟩ (fun M hM => by obtain ⟨i, hi⟩ := hM; exact za6 (i := i) (j := y116) 0 ty9 rfl (by omega) hi hx rfl rfl ⟨rfl, rfl⟩) ?_
       refine ahp 7 rfl rfl (by kernel_rfl) (by kernel_rfl) (zE (hs := [_, _, _]) zQ ty9 rfl rfl (by decide) (by decide) rfl) ?_
       refine ahp 9 rfl rfl (by kernel_rfl) (by kernel_rfl) (zf rfl) ?_
       refine ahp 10 rfl rfl (by kernel_rfl) (by kernel_rfl) (zf rfl) ?_
       refine ahp 11 rfl rfl (by kernel_rfl) (by kernel_rfl) ((by first | exact zn rfl | exact zg rfl)) ?_
       refine ahp 12 rfl rfl (by kernel_rfl) (by kernel_rfl) ((by first | exact zd zJ rfl ty9 (by decide) rfl | exact zb zJ rfl ty9 (by decide) rfl)) ?_
       refine ahl 13 rfl rfl (by kernel_rfl) (by kernel_rfl) (by simp) ⟨1, rfl⟩ (fun M hM => by obtain ⟨i, hi⟩ := hM; exact za6 (i := i) (j := y116) 1 ty9 rfl (by omega) hi hx rfl rfl ⟨rfl, rfl⟩) ?_
       refine ahp 14 rfl rfl (by kernel_rfl) (by kernel_rfl) (zE (hs := [_, _, _]) zQ ty9 rfl rfl (by decide) (by decide) rfl) ?_
       refine ahe 8 rfl (by kernel_rfl) ?_
       first
       | refine zv rfl (ze (i := 0) zaF rfl (WeakL.refl _) rfl (zi (L := [_, _, _]) (by first | assumption | omega | (simp; omega) | simp_all) (by first | assumption | omega | (simp; omega) | simp_all) (by first | assumption | omega | (simp; omega) | simp_all)) ?_)
       | refine zv rfl (ze (i := 1) zaF rfl (WeakL.refl _) rfl (zi (L := [_, _, _]) (by first | assumption | omega | (simp; omega) | simp_all) (by first | assumption | omega | (simp; omega) | simp_all) (by first | assumption | omega | (simp; omega) | simp_all)) ?_)
       | refine zv rfl (ze (i := 2) zaF rfl (WeakL.refl _) rfl (zi (L := [_, _, _]) (by first | assumption | omega | (simp; omega) | simp_all) (by first | assumption | omega | (simp; omega) | simp_all) (by first | assumption | omega | (simp; omega) | simp_all)) ?_)
       | refine zv rfl (ze (i := 3) zaF rfl (WeakL.refl _) rfl (zi (L := [_, _, _]) (by first | assumption | omega | (simp; omega) | simp_all) (by first | assumption | omega | (simp; omega) | simp_all) (by first | assumption | omega | (simp; omega) | simp_all)) ?_)
       rintro _ _ ⟨y169, rfl, hy169, rfl⟩
       refine ⟨fun _ => by first | exact .inl ⟨0, rfl⟩ | exact .inl ⟨1, rfl⟩ | exact .inl ⟨2, rfl⟩ | exact .inr (by simp [zaq, Region.binds]), ?_⟩
       refine ahe 15 rfl (by kernel_rfl) ?_
       first
       | refine zv rfl (ze (i := 0) zaF rfl (WeakL.refl _) rfl (zi (L := [_, _, _]) (by first | assumption | omega | (simp; omega) | simp_all) (by first | assumption | omega | (simp; omega) | simp_all) (by first | assumption | omega | (simp; omega) | simp_all)) ?_)
       | refine zv rfl (ze (i := 1) zaF rfl (WeakL.refl _) rfl (zi (L := [_, _, _]) (by first | assumption | omega | (simp; omega) | simp_all) (by first | assumption | omega | (simp; omega) | simp_all) (by first | assumption | omega | (simp; omega) | simp_all)) ?_)
       | refine zv rfl (ze (i := 2) zaF rfl (WeakL.refl _) rfl (zi (L := [_, _, _]) (by first | assumption | omega | (simp; omega) | simp_all) (by first | assumption | omega | (simp; omega) | simp_all) (by first | assumption | omega | (simp; omega) | simp_all)) ?_)
       | refine zv rfl (ze (i := 3) zaF rfl (WeakL.refl _) rfl (zi (L := [_, _, _]) (by first | assumption | omega | (simp; omega) | simp_all) (by first | assumption | omega | (simp; omega) | simp_all) (by first | assumption | omega | (simp; omega) | simp_all)) ?_)
       rintro _ _ ⟨y176, rfl, hy176, rfl⟩
       refine ⟨fun _ => by first | exact .inl ⟨0, rfl⟩ | exact .inl ⟨1, rfl⟩ | exact .inl ⟨2, rfl⟩ | exact .inr (by simp [zaq, Region.binds]), ?_⟩
       refine ahp 16 rfl rfl (by kernel_rfl) (by kernel_rfl) ((by first | exact zn rfl | exact zg rfl)) ?_
       refine ahp 17 rfl rfl (by kernel_rfl) (by kernel_rfl) ((by first | exact zd zJ rfl ty9 (by decide) rfl | exact zb zJ rfl ty9 (by decide) rfl)) ?_
       refine ahe 18 rfl (by kernel_rfl) ?_
       refine zae (za3 (i := 1) (j := y116) (f := 0) (y := rDl (x1, xv)) (y' := rDl (⟨y169, x1.By, x1.From, x1.To, x1.Gives⟩, xv)) ty9 rfl (by omega) rfl rfl (zce hx) rfl rfl (by simp [zj]) rfl ?_)
       refine ⟨fun _ => .inr (by simp [zaq, Region.binds]), ?_⟩
       refine ahp 19 rfl rfl (by kernel_rfl) (by kernel_rfl) ((by first | exact zn rfl | exact zg rfl)) ?_
       refine ahp 20 rfl rfl (by kernel_rfl) (by kernel_rfl) ((by first | exact zd zJ rfl ty9 (by decide) rfl | exact zb zJ rfl ty9 (by decide) rfl)) ?_
       refine ahe 21 rfl (by kernel_rfl) ?_
       refine zae (za3 (i := 1) (j := y116) (f := 1) (y := rDl (⟨y169, x1.By, x1.From, x1.To, x1.Gives⟩, xv)) (y' := rDl (⟨y169, y176, x1.From, x1.To, x1.Gives⟩, xv)) ty9 rfl (by omega) rfl rfl (zcm (zce hx)) rfl rfl (by simp [zj]) rfl ?_)
       refine ⟨fun _ => .inr (by simp [zaq, Region.binds]), ?_⟩
       refine ahz (by kernel_rfl) ?_
       refine zA ?_
       exact ⟨(out.set y116 (⟨y169, y176, x1.From, x1.To, x1.Gives⟩, xv), a3 + 4), ⟨by simp; omega, zfm (P := fun p : DlV => GoodDl1 p.1) (fun p hp => (g2 p hp).1) (⟨by simp at hy169; rcases hy169 with rfl | rfl | rfl; exact hgx1.id; exact zkg; (unfold Sh; simp), hgx1.len, hgx1.all⟩), by dsimp only; omega⟩, trivial, (by repeat (first | exact zq | refine zx rfl ?_ | refine zt rfl rfl ?_)), zO (by dsimp only; rw [zmB (n := (⟨y169, y176, x1.From, x1.To, x1.Gives⟩, xv)) hx rfl, List.map_set]; simp only [List.set_set]; rfl)⟩
      ·try simp at h20
       refine za ?_
       refine dq (zaj rfl rfl) ?_
       refine das rfl ?_
       refine dn ?_
       refine zl rfl (fun h21 => ?_) (fun h22 => ?_)
       ·try simp at h21
        refine zB ?_
        refine dmv rfl ?_
        refine dmv rfl ?_
        refine dmv rfl ?_
        refine dq ((by first | exact zn rfl | exact zg rfl)) ?_
        refine dq ((by first | exact zd zJ rfl zbn (by decide) rfl | exact zb zJ rfl zbn (by decide) rfl)) ?_
        refine dq ((by first | exact zd zbn rfl ty3 (by decide) rfl | exact zb zbn rfl ty3 (by decide) rfl)) ?_
        refine de rfl (za6 (i := 1) (j := y116) 3 ty3 rfl (by omega) rfl hx rfl rfl ?_)
        refine dq (zE (hs := [_, _, _]) zbh ty3 rfl rfl (by decide) (by decide) rfl) ?_
        first
        | refine de rfl (ze (i := 0) zX rfl (WeakL.refl _) rfl (zc (L := [_, _, _]) (by first | assumption | omega | (simp; omega) | simp_all) (by first | assumption | omega | (simp; omega) | simp_all) (by first | assumption | omega | (simp; omega) | simp_all)) ?_)
        | refine de rfl (ze (i := 1) zX rfl (WeakL.refl _) rfl (zc (L := [_, _, _]) (by first | assumption | omega | (simp; omega) | simp_all) (by first | assumption | omega | (simp; omega) | simp_all) (by first | assumption | omega | (simp; omega) | simp_all)) ?_)
        | refine de rfl (ze (i := 2) zX rfl (WeakL.refl _) rfl (zc (L := [_, _, _]) (by first | assumption | omega | (simp; omega) | simp_all) (by first | assumption | omega | (simp; omega) | simp_all) (by first | assumption | omega | (simp; omega) | simp_all)) ?_)
        | refine de rfl (ze (i := 3) zX rfl (WeakL.refl _) rfl (zc (L := [_, _, _]) (by first | assumption | omega | (simp; omega) | simp_all) (by first | assumption | omega | (simp; omega) | simp_all) (by first | assumption | omega | (simp; omega) | simp_all)) ?_)
        rintro _ _ ⟨y191, rfl, hy191, rfl⟩
        refine dq ((by first | exact zn rfl | exact zg rfl)) ?_
        refine dq ((by first | exact zd zJ rfl zbn (by decide) rfl | exact zb zJ rfl zbn (by decide) rfl)) ?_
        refine dq ((by first | exact zd zbn rfl ty3 (by decide) rfl | exact zb zbn rfl ty3 (by decide) rfl)) ?_
        refine de0 (za3 (i := 1) (j := y116) (f := 3) (y := rDl (x1, xv)) (y' := rDl (⟨x1.Id, x1.By, x1.From, y191, x1.Gives⟩, xv)) ty3 rfl (by omega) rfl rfl (zce hx) rfl rfl (by simp [zj]) rfl ?_)
        refine dn ?_
        refine zA ?_
        exact ⟨(out.set y116 (⟨x1.Id, x1.By, x1.From, y191, x1.Gives⟩, xv), a3 + 3), ⟨by simp; omega, zfm (P := fun p : DlV => GoodDl1 p.1) (fun p hp => (g2 p hp).1) (⟨hgx1.id, hgx1.len, hgx1.all⟩), by dsimp only; omega⟩, trivial, (by repeat (first | exact zq | refine zx rfl ?_ | refine zt rfl rfl ?_)), zO (by dsimp only; rw [zmB (n := (⟨x1.Id, x1.By, x1.From, y191, x1.Gives⟩, xv)) hx rfl, List.map_set]; rfl)⟩
       ·try simp at h22
        refine zc6 (i := y116 + 2) (show (out.map sDl)[y116]? = some (.arr xv 3 (x1.Gives.map zbb)) from by rw [List.getElem?_map, hx]; rfl) (fun h0 he => ?_) (fun gb goff gcap hv2 hcap2 => ?_)
        ·exfalso; have := congrArg List.length he; simp at this; rw [this] at hgx2; simp at hgx2
        rw [List.length_map] at hv2 hcap2
        subst hv2
        refine zP (Ghost.perm (zfe (i := y116 + 2) (show (out.map sDl)[y116]? = some (.arr (.slice (some ⟨gb, goff, none⟩) x1.Gives.length gcap) 3 (x1.Gives.map zbb)) from by rw [List.getElem?_map, hx]; rfl))) ?_
        obtain ⟨g0, hg0x⟩ : ∃ g, x1.Gives[0]? = some g := ⟨_, List.getElem?_eq_getElem hgx2⟩
        refine za ?_
        refine dmv rfl ?_
        refine dq ((by first | exact zn rfl | exact zg rfl)) ?_
        refine dq ((by first | exact zd zJ rfl zao (by decide) rfl | exact zb zJ rfl zao (by decide) rfl)) ?_
        refine de rfl (za6 (i := 2) (j := y116) 4 zao rfl (by omega) rfl hx rfl rfl ?_)
        refine dq (za1 (j := 0) zao zaf rfl rfl rfl hgx2) ?_
        refine das rfl ?_
        refine dn ?_
        refine zbZ (fun M => ∃ i : Nat, M[i]? = some (.arr (.slice (some ⟨gb, goff, none⟩) x1.Gives.length gcap) 3 (x1.Gives.map zbb))) [7, 14, 18, 25] mixed ?_
        refine ahp 0 rfl rfl (by kernel_rfl) (by kernel_rfl) (zf rfl) ?_
        refine ahp 1 rfl rfl (by kernel_rfl) (by kernel_rfl) (zf rfl) ?_
        refine ahp 2 rfl rfl (by kernel_rfl) (by kernel_rfl) (zf rfl) ?_
        refine ahp 3 rfl rfl (by kernel_rfl) (by kernel_rfl) (zf rfl) ?_
        refine ahp 4 rfl rfl (by kernel_rfl) (by kernel_rfl) (zf rfl) ?_
        refine ahp 5 rfl rfl (by kernel_rfl) (by kernel_rfl) ((by first | exact zn rfl | exact zg rfl)) ?_
        refine ahp 6 rfl rfl (by kernel_rfl) (by kernel_rfl) ((by first | exact zd zaf rfl ty9 (by decide) rfl | exact zb zaf rfl ty9 (by decide) rfl)) ?_
        refine ahl 7 rfl rfl (by kernel_rfl) (by kernel_rfl) (by simp) (by first | exact ⟨0, rfl⟩ | exact ⟨1, rfl⟩) (fun M hM => by obtain ⟨i, hi⟩ := hM; exact za6 (i := i) (j := 0) (y := g0) 0 ty9 rfl (by omega) hi hg0x rfl rfl ⟨rfl, rfl⟩) ?_
        refine ahp 8 rfl rfl (by kernel_rfl) (by kernel_rfl) (zE (hs := [_, _]) zQ ty9 rfl rfl (by decide) (by decide) rfl) ?_
        refine ahp 10 rfl rfl (by kernel_rfl) (by kernel_rfl) (zf rfl) ?_
        refine ahp 11 rfl rfl (by kernel_rfl) (by kernel_rfl) (zf rfl) ?_
        refine ahp 12 rfl rfl (by kernel_rfl) (by kernel_rfl) ((by first | exact zn rfl | exact zg rfl)) ?_
        refine ahp 13 rfl rfl (by kernel_rfl) (by kernel_rfl) ((by first | exact zd zaf rfl ty9 (by decide) rfl | exact zb zaf rfl ty9 (by decide) rfl)) ?_
        refine ahl 14 rfl rfl (by kernel_rfl) (by kernel_rfl) (by simp) (by first | exact ⟨0, rfl⟩ | exact ⟨1, rfl⟩) (fun M hM => by obtain ⟨i, hi⟩ := hM; exact za6 (i := i) (j := 0) (y := g0) 1 ty9 rfl (by omega) hi hg0x rfl rfl ⟨rfl, rfl⟩) ?_
        refine ahp 15 rfl rfl (by kernel_rfl) (by kernel_rfl) (zf rfl) ?_
        refine ahp 16 rfl rfl (by kernel_rfl) (by kernel_rfl) ((by first | exact zn rfl | exact zg rfl)) ?_
        refine ahp 17 rfl rfl (by kernel_rfl) (by kernel_rfl) ((by first | exact zd zaf rfl ty9 (by decide) rfl | exact zb zaf rfl ty9 (by decide) rfl)) ?_
        refine ahl 18 rfl rfl (by kernel_rfl) (by kernel_rfl) (by simp) (by first | exact ⟨0, rfl⟩ | exact ⟨1, rfl⟩) (fun M hM => by obtain ⟨i, hi⟩ := hM; exact za6 (i := i) (j := 0) (y := g0) 2 ty9 rfl (by omega) hi hg0x rfl rfl ⟨rfl, rfl⟩) ?_
        refine ahp 19 rfl rfl (by kernel_rfl) (by kernel_rfl) (zE (hs := [_, _]) zQ ty9 rfl rfl (by decide) (by decide) rfl) ?_
        refine ahp 21 rfl rfl (by kernel_rfl) (by kernel_rfl) (zf rfl) ?_
        refine ahp 22 rfl rfl (by kernel_rfl) (by kernel_rfl) (zf rfl) ?_
        refine ahp 23 rfl rfl (by kernel_rfl) (by kernel_rfl) ((by first | exact zn rfl | exact zg rfl)) ?_
        refine ahp 24 rfl rfl (by kernel_rfl) (by kernel_rfl) ((by first | exact zd zaf rfl ty9 (by decide) rfl | exact zb zaf rfl ty9 (by decide) rfl)) ?_
        refine ahl 25 rfl rfl (by kernel_rfl) (by kernel_rfl) (by simp) (by first | exact ⟨0, rfl⟩ | exact ⟨1, rfl⟩) (fun M hM => by obtain ⟨i, hi⟩ := hM; exact za6 (i := i) (j := 0) (y := g0) 2 ty9 rfl (by omega) hi hg0x rfl rfl ⟨rfl, rfl⟩) ?_
        refine ahp 26 rfl rfl (by kernel_rfl) (by kernel_rfl) (zE (hs := [_, _]) zQ ty9 rfl rfl (by decide) (by decide) rfl) ?_
        refine ahe 9 rfl (by kernel_rfl) ?_
        first
        | refine zv rfl (ze (i := 0) zaF rfl (WeakL.refl _) rfl (zi (L := [_, _]) (by first | assumption | omega | (simp; omega) | simp_all) (by first | assumption | omega | (simp; omega) | simp_all) (by first | assumption | omega | (simp; omega) | simp_all)) ?_)
        | refine zv rfl (ze (i := 1) zaF rfl (WeakL.refl _) rfl (zi (L := [_, _]) (by first | assumption | omega | (simp; omega) | simp_all) (by first | assumption | omega | (simp; omega) | simp_all) (by first | assumption | omega | (simp; omega) | simp_all)) ?_)
        | refine zv rfl (ze (i := 2) zaF rfl (WeakL.refl _) rfl (zi (L := [_, _]) (by first | assumption | omega | (simp; omega) | simp_all) (by first | assumption | omega | (simp; omega) | simp_all) (by first | assumption | omega | (simp; omega) | simp_all)) ?_)
        | refine zv rfl (ze (i := 3) zaF rfl (WeakL.refl _) rfl (zi (L := [_, _]) (by first | assumption | omega | (simp; omega) | simp_all) (by first | assumption | omega | (simp; omega) | simp_all) (by first | assumption | omega | (simp; omega) | simp_all)) ?_)
        rintro _ _ ⟨y134, rfl, hy134, rfl⟩
        refine ⟨fun _ => by first | exact .inl ⟨0, rfl⟩ | exact .inl ⟨1, rfl⟩ | exact .inl ⟨2, rfl⟩ | exact .inr (by simp [zaq, Region.binds]), ?_⟩
        refine ahe 20 rfl (by kernel_rfl) ?_
        first
        | refine zv rfl (ze (i := 0) zaF rfl (WeakL.refl _) rfl (zi (L := [_, _]) (by first | assumption | omega | (simp; omega) | simp_all) (by first | assumption | omega | (simp; omega) | simp_all) (by first | assumption | omega | (simp; omega) | simp_all)) ?_)
        | refine zv rfl (ze (i := 1) zaF rfl (WeakL.refl _) rfl (zi (L := [_, _]) (by first | assumption | omega | (simp; omega) | simp_all) (by first | assumption | omega | (simp; omega) | simp_all) (by first | assumption | omega | (simp; omega) | simp_all)) ?_)
        | refine zv rfl (ze (i := 2) zaF rfl (WeakL.refl _) rfl (zi (L := [_, _]) (by first | assumption | omega | (simp; omega) | simp_all) (by first | assumption | omega | (simp; omega) | simp_all) (by first | assumption | omega | (simp; omega) | simp_all)) ?_)
        | refine zv rfl (ze (i := 3) zaF rfl (WeakL.refl _) rfl (zi (L := [_, _]) (by first | assumption | omega | (simp; omega) | simp_all) (by first | assumption | omega | (simp; omega) | simp_all) (by first | assumption | omega | (simp; omega) | simp_all)) ?_)
        rintro _ _ ⟨y145, rfl, hy145, rfl⟩
        refine ⟨fun _ => by first | exact .inl ⟨0, rfl⟩ | exact .inl ⟨1, rfl⟩ | exact .inl ⟨2, rfl⟩ | exact .inr (by simp [zaq, Region.binds]), ?_⟩
        refine ahe 27 rfl (by kernel_rfl) ?_
        first
        | refine zv rfl (ze (i := 0) zaF rfl (WeakL.refl _) rfl (zi (L := [_, _]) (by first | assumption | omega | (simp; omega) | simp_all) (by first | assumption | omega | (simp; omega) | simp_all) (by first | assumption | omega | (simp; omega) | simp_all)) ?_)
        | refine zv rfl (ze (i := 1) zaF rfl (WeakL.refl _) rfl (zi (L := [_, _]) (by first | assumption | omega | (simp; omega) | simp_all) (by first | assumption | omega | (simp; omega) | simp_all) (by first | assumption | omega | (simp; omega) | simp_all)) ?_)
        | refine zv rfl (ze (i := 2) zaF rfl (WeakL.refl _) rfl (zi (L := [_, _]) (by first | assumption | omega | (simp; omega) | simp_all) (by first | assumption | omega | (simp; omega) | simp_all) (by first | assumption | omega | (simp; omega) | simp_all)) ?_)
        | refine zv rfl (ze (i := 3) zaF rfl (WeakL.refl _) rfl (zi (L := [_, _]) (by first | assumption | omega | (simp; omega) | simp_all) (by first | assumption | omega | (simp; omega) | simp_all) (by first | assumption | omega | (simp; omega) | simp_all)) ?_)
        rintro _ _ ⟨y152, rfl, hy152, rfl⟩
        refine ⟨fun _ => by first | exact .inl ⟨0, rfl⟩ | exact .inl ⟨1, rfl⟩ | exact .inl ⟨2, rfl⟩ | exact .inr (by simp [zaq, Region.binds]), ?_⟩
        refine ahp 28 rfl rfl (by kernel_rfl) (by kernel_rfl) ((by first | exact zn rfl | exact zg rfl)) ?_
        refine ahp 29 rfl rfl (by kernel_rfl) (by kernel_rfl) ((by first | exact zd zaf rfl ty9 (by decide) rfl | exact zb zaf rfl ty9 (by decide) rfl)) ?_
        refine ahe 30 rfl (by kernel_rfl) ?_
        first
        | refine zae (za3 (i := 0) (j := 0) (f := 0) (y := zbb g0) (y' := zbb ⟨y134, g0.From, g0.To⟩) ty9 rfl (by omega) rfl rfl (zce hg0x) rfl rfl (by simp [zj]) rfl ?_)
        | refine zae (za3 (i := 1) (j := 0) (f := 0) (y := zbb g0) (y' := zbb ⟨y134, g0.From, g0.To⟩) ty9 rfl (by omega) rfl rfl (zce hg0x) rfl rfl (by simp [zj]) rfl ?_)
        refine ⟨fun _ => .inr (by simp [zaq, Region.binds]), ?_⟩
        refine ahp 31 rfl rfl (by kernel_rfl) (by kernel_rfl) ((by first | exact zn rfl | exact zg rfl)) ?_
        refine ahp 32 rfl rfl (by kernel_rfl) (by kernel_rfl) ((by first | exact zd zaf rfl ty9 (by decide) rfl | exact zb zaf rfl ty9 (by decide) rfl)) ?_
        refine ahe 33 rfl (by kernel_rfl) ?_
        first
        | refine zae (za3 (i := 0) (j := 0) (f := 1) (y := zbb ⟨y134, g0.From, g0.To⟩) (y' := zbb ⟨y134, y145, g0.To⟩) ty9 rfl (by omega) rfl rfl (zcm (zce hg0x)) rfl rfl (by simp [zj]) rfl ?_)
        | refine zae (za3 (i := 1) (j := 0) (f := 1) (y := zbb ⟨y134, g0.From, g0.To⟩) (y' := zbb ⟨y134, y145, g0.To⟩) ty9 rfl (by omega) rfl rfl (zcm (zce hg0x)) rfl rfl (by simp [zj]) rfl ?_)
        refine ⟨fun _ => .inr (by simp [zaq, Region.binds]), ?_⟩
        refine ahp 34 rfl rfl (by kernel_rfl) (by kernel_rfl) ((by first | exact zn rfl | exact zg rfl)) ?_
        refine ahp 35 rfl rfl (by kernel_rfl) (by kernel_rfl) ((by first | exact zd zaf rfl ty9 (by decide) rfl | exact zb zaf rfl ty9 (by decide) rfl)) ?_
        refine ahe 36 rfl (by kernel_rfl) ?_
        first
        | refine zae (za3 (i := 0) (j := 0) (f := 2) (y := zbb ⟨y134, y145, g0.To⟩) (y' := zbb ⟨y134, y145, y152⟩) ty9 rfl (by omega) rfl rfl (zcm (zcm (zce hg0x))) rfl rfl (by simp [zj]) rfl ?_)
        | refine zae (za3 (i := 1) (j := 0) (f := 2) (y := zbb ⟨y134, y145, g0.To⟩) (y' := zbb ⟨y134, y145, y152⟩) ty9 rfl (by omega) rfl rfl (zcm (zcm (zce hg0x))) rfl rfl (by simp [zj]) rfl ?_)
        refine ⟨fun _ => .inr (by simp [zaq, Region.binds]), ?_⟩
        refine ahz (by kernel_rfl) ?_
        refine zA ?_
        exact ⟨(out.set y116 (⟨x1.Id, x1.By, x1.From, x1.To, x1.Gives.set 0 ⟨y134, y145, y152⟩⟩, .slice (some ⟨gb, goff, none⟩) x1.Gives.length gcap), a3 + 5), ⟨by simp; omega, zfm (P := fun p : DlV => GoodDl1 p.1) (fun p hp => (g2 p hp).1) (⟨hgx1.id, by simpa using hgx1.len, zfm (P := fun g : GiveS => Sh g.Player) hgx1.all (by simp at hy134; rcases hy134 with rfl | rfl; exact hgx1.all g0 (List.mem_of_getElem? hg0x); exact zkg)⟩), by dsimp only; omega⟩, trivial, (by repeat (first | exact zq | refine zx rfl ?_ | refine zt rfl rfl ?_)), by
         dsimp only
         rw [zpX (n := (⟨x1.Id, x1.By, x1.From, x1.To, x1.Gives.set 0 ⟨y134, y145, y152⟩⟩, .slice (some ⟨gb, goff, none⟩) x1.Gives.length gcap)) hx rfl]
         refine List.Perm.trans ?_ (zq5 (n := (⟨x1.Id, x1.By, x1.From, x1.To, x1.Gives.set 0 ⟨y134, y145, y152⟩⟩, .slice (some ⟨gb, goff, none⟩) x1.Gives.length gcap)) (by omega))
         refine List.Perm.trans (zO ?_) (List.Perm.swap _ _ _)
         simp only [sDl, List.map_set, List.set_set]; rfl⟩
     ·try simp at h18
      refine zo ?_
      exact ⟨(out, a3), ⟨by dsimp only; omega, fun p hp => (g2 p hp).1, by dsimp only; omega⟩, trivial, (by repeat (first | exact zq | refine zx rfl ?_ | refine zt rfl rfl ?_)), zO rfl⟩
    ·intro q5 hq5
     obtain ⟨k1, a4⟩ := q5
     dsimp only at hq5
     obtain ⟨q1, q2, q3⟩ := hq5
     refine zP (Ghost.of_eq (M' := [St b l a4] ++ .arr u 5 (([] : List DealS).map zdr ++ k1.map fun p : DlV => HVal.agg [.str p.1.Id, .str p.1.By, .int .i64 p.1.From, .int .i64 p.1.To, .raw p.2]) :: k1.map fun p : DlV => MObj.arr p.2 3 ((DealS.Gives p.1).map zbb)) rfl) ?_
     refine zP (Ghost.fz_each (A := [St b l a4]) (enc := zdr) (raw := fun y v => HVal.agg [.str y.Id, .str y.By, .int .i64 y.From, .int .i64 y.To, .raw v]) (cs := fun y v => [HVal.str y.Id, .str y.By, .int .i64 y.From, .int .i64 y.To, .raw v]) (st := DealS.Gives) (eb := zbb) (j := 4) (fun _ _ => rfl) (fun _ _ => rfl) (fun _ _ => rfl) k1 []) ?_
     refine za ?_
     refine dmv rfl ?_
     refine das rfl ?_
     refine dn ?_
     refine zp ?_
     first
     | exact ⟨_, _, Ghost.sub (Sub.refl _), _, .slice 5 [], rfl, zak 5, [], a, rfl, ⟨by simp, by simp⟩, fun _ => rfl, by omega, rfl⟩
     | exact zbO (Ghost.fa 6 (i := 1) rfl rfl) rfl ⟨k1.map (·.1), a4, by simp, ⟨by simpa using q1, fun x hx => by
        obtain ⟨p, hp, rfl⟩ := List.mem_map.1 hx; exact q2 p hp⟩, fun e => absurd (congrArg List.length e) (by simp_all), by omega, rfl⟩
end
section
open Go.HL
/-- benchwarmer/benchref1.TradesFault -/
theorem zgE [Tracks] {m : MarketS} {o : List OwnerS} {l : List DealS} {a : List ReplyS} (ht : m.Teams.length ≤ 1000000) (hms : ∀ s ∈ m.Teams, s.length ≤ 1000000) (ho : o.length ≤ 1000000) (hos : ∀ x ∈ o, x.Player.length ≤ 1000000) (hl : l.length ≤ 1000000) (hb : ∀ x ∈ l, x.Id.length ≤ 1000000 ∧ x.Gives.length ≤ 1000000 ∧ ∀ g ∈ x.Gives, g.Player.length ≤ 1000000) (ha : a.length ≤ 1000000) (has : ∀ x ∈ a, x.Offer.length ≤ 1000000) : zah Tryz.prog 12 [zaC m, zat o, zcA l, zbr a] (.int .i64 (za0 m o l a)) := by
 refine Con.of_body Tryz.func12 rfl Tryz.ntmps12 rfl rfl ?_
 refine za ?_
 refine dq (zal rfl rfl) ?_
 refine das rfl ?_
 refine dn ?_
 refine zm ?_
 refine za ?_
 refine dq (zD zN rfl rfl rfl rfl) ?_
 refine dq (zw ca44 rfl (WeakL.refl _) (zgF (m := m) ht hms)) ?_
 refine das rfl ?_
 refine dn ?_
 refine za ?_
 refine dmv rfl ?_
 refine dq (zbq rfl rfl) ?_
 refine dn ?_
 refine zl rfl (fun h1 => ?_) (fun h2 => ?_)
 ·try simp at h1
  refine za ?_
  refine dmv rfl ?_
  refine das rfl ?_
  refine dn ?_
  refine zp ?_
  refine zI rfl ?_
  show HVal.int .i64 _ = _
  first
  | (rw [zko (by simpa using h1)]; done)
  | (rw [← zlG (by simpa using h2)]; done)
 ·try simp at h2
  refine zo ?_
  refine zk ?_
  refine zar (fun _ => True) [] mixed ?_
  refine ahp 0 rfl rfl (by kernel_rfl) (by kernel_rfl) (zD zN rfl rfl rfl rfl) ?_
  refine ahp 1 rfl rfl (by kernel_rfl) (by kernel_rfl) (zf rfl) ?_
  refine ahp 2 rfl rfl (by kernel_rfl) (by kernel_rfl) (zw ca45 rfl (WeakL.refl _) (zgB (m := m) (o := o) ht ho hos)) ?_
  refine ahp 3 rfl rfl (by kernel_rfl) (by kernel_rfl) (zD zN rfl rfl rfl rfl) ?_
  refine ahp 4 rfl rfl (by kernel_rfl) (by kernel_rfl) (zf rfl) ?_
  refine ahp 5 rfl rfl (by kernel_rfl) (by kernel_rfl) (zw ca46 rfl (WeakL.refl _) (zgD (m := m) (l := l) ht hl hb)) ?_
  refine ahp 6 rfl rfl (by kernel_rfl) (by kernel_rfl) (zD zN rfl rfl rfl rfl) ?_
  refine ahp 7 rfl rfl (by kernel_rfl) (by kernel_rfl) (zf rfl) ?_
  refine ahp 8 rfl rfl (by kernel_rfl) (by kernel_rfl) (zw ca47 rfl (WeakL.refl _) (zgs (m := m) (l := a) ht ha has)) ?_
  refine ahp 9 rfl rfl (by kernel_rfl) (by kernel_rfl) (zE (hs := [_, _, _]) zfA zgY rfl rfl (by decide) (by decide) rfl) ?_
  refine ahp 10 rfl rfl (by kernel_rfl) (by kernel_rfl) (zw zn5 rfl (WeakL.refl _) (zdk (l := [_, _, _]) (by simp))) ?_
  refine ahp 11 rfl rfl (by kernel_rfl) (by kernel_rfl) (z8 rfl) ?_
  refine ahz (by kernel_rfl) ?_
  refine zp ?_
  refine zI rfl ?_
  show HVal.int .i64 _ = _
  first
  | (rw [zko (by simpa using h1)]; done)
  | (rw [← zlG (by simpa using h2)]; done)
end
section
open Go.HL
/-- slices.Equal[[]benchwarmer/api.Stage,benchwarmer/api.Stage] -/
theorem zeq [Tracks] {l m : List StageS} (hl : l.length ≤ 1000000) : zah Tryz.prog 25 [zfp l, zfp m] (.bool (zcK zbz l m)) := by
 refine Con.of_body Tryz.func25 rfl Tryz.ntmps25 rfl rfl ?_
 refine za ?_
 refine das rfl ?_
 refine dn ?_
 refine zm ?_
 refine za ?_
 refine dmv rfl ?_
 refine dq (zR zhT rfl) ?_
 refine dmv rfl ?_
 refine dq (zR zhT rfl) ?_
 refine dq (zbq rfl rfl) ?_
 refine dn ?_
 refine zl rfl (fun h1 => ?_) (fun h2 => ?_)
 ·try simp at h1
  refine za ?_
  refine das rfl ?_
  refine dn ?_
  refine zp ?_
  refine zI rfl ?_
  show HVal.bool _ = _
  first | (congr 1; symm; exact zd8 (by omega)) | (rw [hg.2, zcK, show zgw zbz x y = false from h5]; rfl) | (rw [hg.2, zaS (Nat.le_of_eq hg.1.symm)]; rfl)
 ·try simp at h2
  refine zo ?_
  refine zk ?_
  refine zm ?_
  refine za ?_
  refine dmv rfl ?_
  refine dq (zR zhT rfl) ?_
  refine dmv rfl ?_
  refine dn ?_
  refine zu ?_
  refine zaJ [4, 5, 13, 14, 15, 16, 17, 18, 19, 20, 21, 22, 23, 24, 25] (fun (k : Nat) => [(13, .int .i64 k)]) (fun (k : Nat) => []) (fun (k : Nat) => k ≤ l.length ∧ (l.length = m.length ∧ zcK zbz l m = zcK zbz (l.drop k) (m.drop k))) (fun (k : Nat) => l.length - k) (0) ?_ ?_ ?_ ?_
  ·refine ⟨Nat.zero_le _, ?_, rfl⟩
   omega
  ·exact ⟨rfl, trivial⟩
  ·exact List.Perm.refl _
  ·intro k hinv
   obtain ⟨hk, hg⟩ := hinv
   refine za ?_
   refine dq (zY rfl rfl) ?_
   refine dn ?_
   refine zm ?_
   refine zl rfl (fun h3 => ?_) (fun h4 => ?_)
   ·try simp at h3
    obtain ⟨x, hx⟩ : ∃ x, l[k]? = some x := ⟨_, List.getElem?_eq_getElem h3⟩
    have hdx := zU hx
    obtain ⟨y, hy⟩ : ∃ y, m[k]? = some y := ⟨_, List.getElem?_eq_getElem (by omega)⟩
    rw [hdx, zU hy] at hg
    refine zo ?_
    refine zk ?_
    refine zm ?_
    refine zu ?_
    refine za ?_
    refine dmv rfl ?_
    refine das rfl ?_
    refine dn ?_
    refine zar (fun _ => True) [] mixed ?_
    refine ahp 0 rfl rfl (by kernel_rfl) (by kernel_rfl) (zf rfl) ?_
    refine ahp 1 rfl rfl (by kernel_rfl) (by kernel_rfl) (zf rfl) ?_
    refine ahp 2 rfl rfl (by kernel_rfl) (by kernel_rfl) (zZ zhT zcg rfl rfl rfl (by first | assumption | simp_all)) ?_
    refine ahp 3 rfl rfl (by kernel_rfl) (by kernel_rfl) (zD zcg rfl rfl rfl rfl) ?_
    refine ahp 4 rfl rfl (by kernel_rfl) (by kernel_rfl) (zf rfl) ?_
    refine ahp 5 rfl rfl (by kernel_rfl) (by kernel_rfl) (zf rfl) ?_
    refine ahp 6 rfl rfl (by kernel_rfl) (by kernel_rfl) (zZ zhT zcg rfl rfl rfl (by first | assumption | simp_all)) ?_
    refine ahp 7 rfl rfl (by kernel_rfl) (by kernel_rfl) (zD zcg rfl rfl rfl rfl) ?_
    refine ahp 8 rfl rfl (by kernel_rfl) (by kernel_rfl) (zlk zcg eq59 rfl rfl ⟨rfl, ⟨_, _, _, _, ty9, rfl⟩, ⟨rfl, ⟨_, _, _, _, ty3, rfl⟩, ⟨rfl, ⟨_, _, _, _, ty3, rfl⟩, trivial⟩⟩⟩) ?_
    refine ahz (by kernel_rfl) ?_
    refine zl rfl (fun h5 => ?_) (fun h6 => ?_)
    ·try simp at h5
     refine za ?_
     refine das rfl ?_
     refine dn ?_
     refine zp ?_
     refine zI rfl ?_
     show HVal.bool _ = _
     first | (congr 1; symm; exact zd8 (by omega)) | (rw [hg.2, zcK, show zgw zbz x y = false from h5]; rfl) | (rw [hg.2, zaS (Nat.le_of_eq hg.1.symm)]; rfl)
    ·try simp at h6
     refine zo ?_
     refine zA ?_
     refine zk ?_
     refine zB ?_
     refine dq (zC rfl rfl (by omega) (by omega)) ?_
     refine dmv rfl ?_
     refine dn ?_
     refine ⟨k + 1, ?_, ?_, ⟨rfl, trivial⟩, (by repeat (first | exact zq | refine zx rfl ?_ | refine zt rfl rfl ?_)), List.Perm.refl _⟩
     ·refine ⟨by omega, hg.1, ?_⟩
      rw [hg.2, zcK, show zgw zbz x y = true from h6]; rfl
     ·dsimp only; omega
   ·try simp at h4
    have hnk : l.length ≤ k := by omega
    obtain rfl : k = l.length := by omega
    rw [zaS (Nat.le_refl _)] at hg
    refine z7 ?_
    refine zag ?_
    refine zaY ?_
    refine zT ?_
    refine zk ?_
    refine za ?_
    refine das rfl ?_
    refine dn ?_
    refine zp ?_
    refine zI rfl ?_
    show HVal.bool _ = _
    first | (congr 1; symm; exact zd8 (by omega)) | (rw [hg.2, zcK, show zgw zbz x y = false from h5]; rfl) | (rw [hg.2, zaS (Nat.le_of_eq hg.1.symm)]; rfl)

/-- slices.Equal[[]benchwarmer/api.Owner,benchwarmer/api.Owner] -/
theorem zcV [Tracks] {l m : List OwnerS} (hl : l.length ≤ 1000000) : zah Tryz.prog 26 [zat l, zat m] (.bool (zcK zaL l m)) := by
 refine Con.of_body Tryz.func26 rfl Tryz.ntmps26 rfl rfl ?_
 refine za ?_
 refine das rfl ?_
 refine dn ?_
 refine zm ?_
 refine za ?_
 refine dmv rfl ?_
 refine dq (zR zaD rfl) ?_
 refine dmv rfl ?_
 refine dq (zR zaD rfl) ?_
 refine dq (zbq rfl rfl) ?_
 refine dn ?_
 refine zl rfl (fun h1 => ?_) (fun h2 => ?_)
 ·try simp at h1
  refine za ?_
  refine das rfl ?_
  refine dn ?_
  refine zp ?_
  refine zI rfl ?_
  show HVal.bool _ = _
  first | (congr 1; symm; exact zd8 (by omega)) | (rw [hg.2, zcK, show zgw zaL x y = false from h5]; rfl) | (rw [hg.2, zaS (Nat.le_of_eq hg.1.symm)]; rfl)
 ·try simp at h2
  refine zo ?_
  refine zk ?_
  refine zm ?_
  refine za ?_
  refine dmv rfl ?_
  refine dq (zR zaD rfl) ?_
  refine dmv rfl ?_
  refine dn ?_
  refine zu ?_
  refine zaJ [4, 5, 13, 14, 15, 16, 17, 18, 19, 20, 21, 22, 23, 24, 25] (fun (k : Nat) => [(13, .int .i64 k)]) (fun (k : Nat) => []) (fun (k : Nat) => k ≤ l.length ∧ (l.length = m.length ∧ zcK zaL l m = zcK zaL (l.drop k) (m.drop k))) (fun (k : Nat) => l.length - k) (0) ?_ ?_ ?_ ?_
  ·refine ⟨Nat.zero_le _, ?_, rfl⟩
   omega
  ·exact ⟨rfl, trivial⟩
  ·exact List.Perm.refl _
  ·intro k hinv
   obtain ⟨hk, hg⟩ := hinv
   refine za ?_
   refine dq (zY rfl rfl) ?_
   refine dn ?_
   refine zm ?_
   refine zl rfl (fun h3 => ?_) (fun h4 => ?_)
   ·try simp at h3
    obtain ⟨x, hx⟩ : ∃ x, l[k]? = some x := ⟨_, List.getElem?_eq_getElem h3⟩
    have hdx := zU hx
    obtain ⟨y, hy⟩ : ∃ y, m[k]? = some y := ⟨_, List.getElem?_eq_getElem (by omega)⟩
    rw [hdx, zU hy] at hg
    refine zo ?_
    refine zk ?_
    refine zm ?_
    refine zu ?_
    refine za ?_
    refine dmv rfl ?_
    refine das rfl ?_
    refine dn ?_
    refine zar (fun _ => True) [] mixed ?_
    refine ahp 0 rfl rfl (by kernel_rfl) (by kernel_rfl) (zf rfl) ?_
    refine ahp 1 rfl rfl (by kernel_rfl) (by kernel_rfl) (zf rfl) ?_
    refine ahp 2 rfl rfl (by kernel_rfl) (by kernel_rfl) (zZ zaD zaa rfl rfl rfl (by first | assumption | simp_all)) ?_
    refine ahp 3 rfl rfl (by kernel_rfl) (by kernel_rfl) (zD zaa rfl rfl rfl rfl) ?_
    refine ahp 4 rfl rfl (by kernel_rfl) (by kernel_rfl) (zf rfl) ?_
    refine ahp 5 rfl rfl (by kernel_rfl) (by kernel_rfl) (zf rfl) ?_
    refine ahp 6 rfl rfl (by kernel_rfl) (by kernel_rfl) (zZ zaD zaa rfl rfl rfl (by first | assumption | simp_all)) ?_
    refine ahp 7 rfl rfl (by kernel_rfl) (by kernel_rfl) (zD zaa rfl rfl rfl rfl) ?_
    refine ahp 8 rfl rfl (by kernel_rfl) (by kernel_rfl) (zlk zaa eq62 rfl rfl ⟨rfl, ⟨_, _, _, _, ty9, rfl⟩, ⟨rfl, ⟨_, _, _, _, ty9, rfl⟩, trivial⟩⟩) ?_
    refine ahz (by kernel_rfl) ?_
    refine zl rfl (fun h5 => ?_) (fun h6 => ?_)
    ·try simp at h5
     refine za ?_
     refine das rfl ?_
     refine dn ?_
     refine zp ?_
     refine zI rfl ?_
     show HVal.bool _ = _
     first | (congr 1; symm; exact zd8 (by omega)) | (rw [hg.2, zcK, show zgw zaL x y = false from h5]; rfl) | (rw [hg.2, zaS (Nat.le_of_eq hg.1.symm)]; rfl)
    ·try simp at h6
     refine zo ?_
     refine zA ?_
     refine zk ?_
     refine zB ?_
     refine dq (zC rfl rfl (by omega) (by omega)) ?_
     refine dmv rfl ?_
     refine dn ?_
     refine ⟨k + 1, ?_, ?_, ⟨rfl, trivial⟩, (by repeat (first | exact zq | refine zx rfl ?_ | refine zt rfl rfl ?_)), List.Perm.refl _⟩
     ·refine ⟨by omega, hg.1, ?_⟩
      rw [hg.2, zcK, show zgw zaL x y = true from h6]; rfl
     ·dsimp only; omega
   ·try simp at h4
    have hnk : l.length ≤ k := by omega
    obtain rfl : k = l.length := by omega
    rw [zaS (Nat.le_refl _)] at hg
    refine z7 ?_
    refine zag ?_
    refine zaY ?_
    refine zT ?_
    refine zk ?_
    refine za ?_
    refine das rfl ?_
    refine dn ?_
    refine zp ?_
    refine zI rfl ?_
    show HVal.bool _ = _
    first | (congr 1; symm; exact zd8 (by omega)) | (rw [hg.2, zcK, show zgw zaL x y = false from h5]; rfl) | (rw [hg.2, zaS (Nat.le_of_eq hg.1.symm)]; rfl)

/-- benchwarmer/benchlaw1.traded -/
theorem ziv [Tracks]   : zah Tryz.prog 28 [] (.bool true) := by
 refine Con.of_body Tryz.func28 rfl Tryz.ntmps28 rfl rfl ?_
 refine za ?_
 refine das rfl ?_
 refine dn ?_
 refine za ?_
 refine dq (zE (hs := [_, _]) zQ ty9 rfl rfl (by decide) (by decide) rfl) ?_
 refine dq (zaG (cs := [_, _, _, _, _, _]) zN ziC rfl) ?_
 refine de rfl (zac zN rfl fun b1 => ?_)
 refine de0 (zax zN rfl rfl rfl rfl rfl ?_)
 refine dn ?_
 refine zP (Ghost.fc0 1 rfl) ?_
 refine za ?_
 refine dq (zD zN rfl rfl rfl rfl) ?_
 refine dq (zaG (cs := [_, _]) zaa zom rfl) ?_
 refine dq (zE (hs := [_]) zaD zaa rfl rfl (by decide) (by decide) rfl) ?_
 refine dq (zaG (cs := [_, _]) zbn pl78 rfl) ?_
 refine dq (zaG (cs := [_, _, _]) zaf zpv rfl) ?_
 refine dq (zE (hs := [_]) zao zaf rfl rfl (by decide) (by decide) rfl) ?_
 refine dq (zaG (cs := [_, _, _, _, _]) zJ pl81 rfl) ?_
 refine dq (zw ca60 rfl (WeakL.refl _) (zm1 (m := zdz) (o := [⟨[112], [97]⟩]) (x := zdx) (by decide) (by decide) (by decide) (by decide))) ?_
 refine dmv rfl ?_
 refine dq (zaO rfl rfl) ?_
 refine dq (zaO rfl rfl) ?_
 refine das rfl ?_
 refine das rfl ?_
 refine dn ?_
 rw [zrK, zrS]
 refine za ?_
 refine dmv rfl ?_
 refine dq (zaj rfl rfl) ?_
 refine dmv rfl ?_
 refine dg rfl rfl (fun hc => ⟨_, OpenTo.refl _, zf rfl⟩) ?_
 refine dg rfl rfl (fun hc => ⟨_, OpenTo.refl _, zaG (cs := [_, _]) zaa zom rfl⟩) ?_
 refine dg rfl rfl (fun hc => ⟨_, OpenTo.upd (t := 21) rfl (by first | exact hc | simp_all) (OpenTo.refl _), zE (hs := [_]) zaD zaa rfl rfl (by decide) (by decide) rfl⟩) ?_
 refine dg rfl rfl (fun hc => ⟨_, OpenTo.upd (t := 22) rfl (by first | exact hc | simp_all) (OpenTo.upd (t := 20) rfl (by first | exact hc | simp_all) (OpenTo.refl _)), zw ca26 rfl (WeakL.refl _) (zcV (l := [⟨[112], [98]⟩]) (m := [⟨[112], [98]⟩]) (by decide))⟩) ?_
 refine dq (zG rfl (.inr ⟨_, rfl, fun h => by simp_all⟩) (.inl rfl)) ?_
 refine das rfl ?_
 refine dn ?_
 refine zp ?_
 refine zI rfl ?_
 rfl

/-- benchwarmer/benchref1.NoneFault -/
theorem zhh [Tracks] {b : Bool}  : zah Tryz.prog 19 [.bool b] (.int .i64 (if b then 8 else 0)) := by
 refine Con.of_body Tryz.func19 rfl Tryz.ntmps19 rfl rfl ?_
 refine za ?_
 refine das rfl ?_
 refine dn ?_
 refine zm ?_
 refine za ?_
 refine dmv rfl ?_
 refine dn ?_
 refine zl rfl (fun h1 => ?_) (fun h2 => ?_)
 ·try simp at h1
  refine za ?_
  refine das rfl ?_
  refine dn ?_
  refine zp ?_
  refine zI rfl ?_
  show HVal.int .i64 _ = _
  simp_all
 ·try simp at h2
  refine zo ?_
  refine zk ?_
  refine za ?_
  refine das rfl ?_
  refine dn ?_
  refine zp ?_
  refine zI rfl ?_
  show HVal.int .i64 _ = _
  simp_all

set_option maxHeartbeats 4000000 in
/-- benchwarmer/benchlaw1.OffersFollowed -/
theorem zdU [Tracks] {l : List Int}  : zah Tryz.prog 3 [.slice 1 (l.map (.int .i64))] (.bool true) := by
 refine Con.of_body Tryz.func3 rfl Tryz.ntmps3 rfl rfl ?_
 refine za ?_
 refine das rfl ?_
 refine dn ?_
 refine za ?_
 refine dmv rfl ?_
 refine dq (zaG (cs := [_, _]) zg2 pl25 rfl) ?_
 refine de rfl (zdW rfl rfl fun b => ?_)
 refine zrQ (M' := [St b l 0]) rfl ?_
 refine das rfl ?_
 refine dn ?_
 refine za ?_
 refine dmv rfl ?_
 first
 | refine de rfl (ze (i := 0) ca6 rfl (WeakL.refl _) rfl (zb4 (by first | assumption | omega | (simp; omega) | simp_all)) ?_)
 | refine de rfl (ze (i := 1) ca6 rfl (WeakL.refl _) rfl (zb4 (by first | assumption | omega | (simp; omega) | simp_all)) ?_)
 | refine de rfl (ze (i := 2) ca6 rfl (WeakL.refl _) rfl (zb4 (by first | assumption | omega | (simp; omega) | simp_all)) ?_)
 | refine de rfl (ze (i := 3) ca6 rfl (WeakL.refl _) rfl (zb4 (by first | assumption | omega | (simp; omega) | simp_all)) ?_)
 rintro _ _ ⟨m33, a33, rfl, hm33, ha33, rfl⟩
 refine de rfl (zac zN rfl fun b4 => ?_)
 refine de0 (zax zN rfl rfl rfl rfl rfl ?_)
 refine dn ?_
 refine zP (Ghost.fc0 4 rfl) ?_
 refine za ?_
 refine dmv rfl ?_
 refine dq (zD zN rfl rfl rfl rfl) ?_
 first
 | refine de rfl (ze (i := 0) ca7 rfl (WeakL.refl _) rfl (zbW (by first | assumption | omega | (simp; omega) | simp_all) (by first | assumption | omega | (simp; omega) | simp_all)) ?_)
 | refine de rfl (ze (i := 1) ca7 rfl (WeakL.refl _) rfl (zbW (by first | assumption | omega | (simp; omega) | simp_all) (by first | assumption | omega | (simp; omega) | simp_all)) ?_)
 | refine de rfl (ze (i := 2) ca7 rfl (WeakL.refl _) rfl (zbW (by first | assumption | omega | (simp; omega) | simp_all) (by first | assumption | omega | (simp; omega) | simp_all)) ?_)
 | refine de rfl (ze (i := 3) ca7 rfl (WeakL.refl _) rfl (zbW (by first | assumption | omega | (simp; omega) | simp_all) (by first | assumption | omega | (simp; omega) | simp_all)) ?_)
 rintro _ _ ⟨o36, a36, rfl, ho36, ha36, rfl⟩
 refine das rfl ?_
 refine dn ?_
 refine zar (fun _ => True) [] mixed ?_
 refine ahp 0 rfl rfl (by kernel_rfl) (by kernel_rfl) (zf rfl) ?_
 refine ahp 1 rfl rfl (by kernel_rfl) (by kernel_rfl) (zD zN rfl rfl rfl rfl) ?_
 refine ahp 2 rfl rfl (by kernel_rfl) (by kernel_rfl) (zf rfl) ?_
 refine ahp 4 rfl rfl (by kernel_rfl) (by kernel_rfl) (zf rfl) ?_
 refine ahp 5 rfl rfl (by kernel_rfl) (by kernel_rfl) (zD zN rfl rfl rfl rfl) ?_
 refine ahp 7 rfl rfl (by kernel_rfl) (by kernel_rfl) (zf rfl) ?_
 refine ahp 8 rfl rfl (by kernel_rfl) (by kernel_rfl) (zE (hs := [_, _, _, _, _, _, _, _, _]) zbh ty3 rfl rfl (by decide) (by decide) rfl) ?_
 refine ahe 3 rfl (by kernel_rfl) ?_
 first
 | refine zv rfl (ze (i := 0) ca8 rfl (WeakL.refl _) rfl (zbX (by first | assumption | omega | (simp; omega) | simp_all) (by first | assumption | omega | (simp; omega) | simp_all) (by first | assumption | omega | (simp; omega) | simp_all)) ?_)
 | refine zv rfl (ze (i := 1) ca8 rfl (WeakL.refl _) rfl (zbX (by first | assumption | omega | (simp; omega) | simp_all) (by first | assumption | omega | (simp; omega) | simp_all) (by first | assumption | omega | (simp; omega) | simp_all)) ?_)
 | refine zv rfl (ze (i := 2) ca8 rfl (WeakL.refl _) rfl (zbX (by first | assumption | omega | (simp; omega) | simp_all) (by first | assumption | omega | (simp; omega) | simp_all) (by first | assumption | omega | (simp; omega) | simp_all)) ?_)
 | refine zv rfl (ze (i := 3) ca8 rfl (WeakL.refl _) rfl (zbX (by first | assumption | omega | (simp; omega) | simp_all) (by first | assumption | omega | (simp; omega) | simp_all) (by first | assumption | omega | (simp; omega) | simp_all)) ?_)
 rintro _ _ ⟨x40, a40, rfl, hx40, hxo40, ha40, rfl⟩
 refine ⟨fun _ => .inl trivial, ?_⟩
 refine ahe 6 rfl (by kernel_rfl) ?_
 first
 | refine zv rfl (ze (i := 0) ca9 rfl (WeakL.refl _) rfl (zbT (by first | assumption | omega | (simp; omega) | simp_all) (by first | assumption | omega | (simp; omega) | simp_all)) ?_)
 | refine zv rfl (ze (i := 1) ca9 rfl (WeakL.refl _) rfl (zbT (by first | assumption | omega | (simp; omega) | simp_all) (by first | assumption | omega | (simp; omega) | simp_all)) ?_)
 | refine zv rfl (ze (i := 2) ca9 rfl (WeakL.refl _) rfl (zbT (by first | assumption | omega | (simp; omega) | simp_all) (by first | assumption | omega | (simp; omega) | simp_all)) ?_)
 | refine zv rfl (ze (i := 3) ca9 rfl (WeakL.refl _) rfl (zbT (by first | assumption | omega | (simp; omega) | simp_all) (by first | assumption | omega | (simp; omega) | simp_all)) ?_)
 rintro _ _ ⟨r43, a43, rfl, hr43, ha43, rfl⟩
 refine ⟨fun _ => .inl trivial, ?_⟩
 refine ahe 9 rfl (by kernel_rfl) ?_
 first
 | refine zv rfl (ze (i := 0) zX rfl (WeakL.refl _) rfl (zc (L := [_, _, _, _, _, _, _, _, _]) (by first | assumption | omega | (simp; omega) | simp_all) (by first | assumption | omega | (simp; omega) | simp_all) (by first | assumption | omega | (simp; omega) | simp_all)) ?_)
 | refine zv rfl (ze (i := 1) zX rfl (WeakL.refl _) rfl (zc (L := [_, _, _, _, _, _, _, _, _]) (by first | assumption | omega | (simp; omega) | simp_all) (by first | assumption | omega | (simp; omega) | simp_all) (by first | assumption | omega | (simp; omega) | simp_all)) ?_)
 | refine zv rfl (ze (i := 2) zX rfl (WeakL.refl _) rfl (zc (L := [_, _, _, _, _, _, _, _, _]) (by first | assumption | omega | (simp; omega) | simp_all) (by first | assumption | omega | (simp; omega) | simp_all) (by first | assumption | omega | (simp; omega) | simp_all)) ?_)
 | refine zv rfl (ze (i := 3) zX rfl (WeakL.refl _) rfl (zc (L := [_, _, _, _, _, _, _, _, _]) (by first | assumption | omega | (simp; omega) | simp_all) (by first | assumption | omega | (simp; omega) | simp_all) (by first | assumption | omega | (simp; omega) | simp_all)) ?_)
 rintro _ _ ⟨y46, rfl, hy46, rfl⟩
 refine ⟨fun _ => .inl trivial, ?_⟩
 refine ahp 10 rfl rfl (by kernel_rfl) (by kernel_rfl) (z8 rfl) ?_
 refine ahp 11 rfl rfl (by kernel_rfl) (by kernel_rfl) (z8 rfl) ?_
 refine ahp 12 rfl rfl (by kernel_rfl) (by kernel_rfl) (z8 rfl) ?_
 refine ahz (by kernel_rfl) ?_
 refine za ?_
 refine dmv rfl ?_
 refine dq (zE (hs := [_, _, _, _]) zQ ty9 rfl rfl (by decide) (by decide) rfl) ?_
 first
 | refine de rfl (ze (i := 0) zaF rfl (WeakL.refl _) rfl (zi (L := [_, _, _, _]) (by first | assumption | omega | (simp; omega) | simp_all) (by first | assumption | omega | (simp; omega) | simp_all) (by first | assumption | omega | (simp; omega) | simp_all)) ?_)
 | refine de rfl (ze (i := 1) zaF rfl (WeakL.refl _) rfl (zi (L := [_, _, _, _]) (by first | assumption | omega | (simp; omega) | simp_all) (by first | assumption | omega | (simp; omega) | simp_all) (by first | assumption | omega | (simp; omega) | simp_all)) ?_)
 | refine de rfl (ze (i := 2) zaF rfl (WeakL.refl _) rfl (zi (L := [_, _, _, _]) (by first | assumption | omega | (simp; omega) | simp_all) (by first | assumption | omega | (simp; omega) | simp_all) (by first | assumption | omega | (simp; omega) | simp_all)) ?_)
 | refine de rfl (ze (i := 3) zaF rfl (WeakL.refl _) rfl (zi (L := [_, _, _, _]) (by first | assumption | omega | (simp; omega) | simp_all) (by first | assumption | omega | (simp; omega) | simp_all) (by first | assumption | omega | (simp; omega) | simp_all)) ?_)
 rintro _ _ ⟨y49, rfl, hy49, rfl⟩
 refine dmv rfl ?_
 refine dq (zE (hs := [_, _, _, _]) zQ ty9 rfl rfl (by decide) (by decide) rfl) ?_
 first
 | refine de rfl (ze (i := 0) zaF rfl (WeakL.refl _) rfl (zi (L := [_, _, _, _]) (by first | assumption | omega | (simp; omega) | simp_all) (by first | assumption | omega | (simp; omega) | simp_all) (by first | assumption | omega | (simp; omega) | simp_all)) ?_)
 | refine de rfl (ze (i := 1) zaF rfl (WeakL.refl _) rfl (zi (L := [_, _, _, _]) (by first | assumption | omega | (simp; omega) | simp_all) (by first | assumption | omega | (simp; omega) | simp_all) (by first | assumption | omega | (simp; omega) | simp_all)) ?_)
 | refine de rfl (ze (i := 2) zaF rfl (WeakL.refl _) rfl (zi (L := [_, _, _, _]) (by first | assumption | omega | (simp; omega) | simp_all) (by first | assumption | omega | (simp; omega) | simp_all) (by first | assumption | omega | (simp; omega) | simp_all)) ?_)
 | refine de rfl (ze (i := 3) zaF rfl (WeakL.refl _) rfl (zi (L := [_, _, _, _]) (by first | assumption | omega | (simp; omega) | simp_all) (by first | assumption | omega | (simp; omega) | simp_all) (by first | assumption | omega | (simp; omega) | simp_all)) ?_)
 rintro _ _ ⟨y52, rfl, hy52, rfl⟩
 refine das rfl ?_
 refine das rfl ?_
 refine dn ?_
 have hm5 := hm33.len
 have hol := ho36.len
 have hxl := hx40.len
 have hrl := hr43.len
 have hms : ∀ s ∈ m33.Teams, s.length ≤ 1000000 := fun s hs => Nat.le_trans (hm33.sh s hs) (by decide)
 have hxg : ∀ x ∈ x40, x.Gives.length ≤ 1000000 := fun x hx => Nat.le_trans (hx40.all x hx).len (by decide)
 have hxb : ∀ x ∈ x40, x.Id.length ≤ 1000000 ∧ x.Gives.length ≤ 1000000 ∧ ∀ g ∈ x.Gives, g.Player.length ≤ 1000000 := fun x hx => ⟨(hx40.all x hx).id, hxg x hx, (hx40.all x hx).all⟩
 have h0o : x40 ≠ [] → 0 < o36.length := fun hne => by
  rcases Nat.eq_zero_or_pos o36.length with q | q
  ·exact absurd (hxo40 (List.length_eq_zero_iff.1 q)) hne
  ·exact q
 have hb1 : (zeI m33 o36 x40 r43 y46).length ≤ 1000000 := zrB (by omega)
 have hb2 : (zeN m33 o36 x40 r43 y46).length ≤ 1000000 := zrC (by omega)
 have hb3 : (zcE m33 o36 x40 r43 y46 y49).length ≤ 1000000 := zq6 (by omega)
 have hb4 : (zch m33 o36 x40 r43 y46 y52).length ≤ 1000000 := zpB (by omega)
 refine za ?_
 refine dq (zD zN rfl rfl rfl rfl) ?_
 refine dmv rfl ?_
 refine dmv rfl ?_
 refine dmv rfl ?_
 refine dq (zw ca12 rfl (WeakL.refl _) (zgE (m := m33) (o := o36) (l := x40) (a := r43) (by omega) hms (by omega) (fun x hx => (ho36.all x hx).1) (by omega) hxb (by omega) hr43.all)) ?_
 refine das rfl ?_
 refine dn ?_
 refine za ?_
 refine dq (zD zN rfl rfl rfl rfl) ?_
 refine dmv rfl ?_
 refine dmv rfl ?_
 refine dmv rfl ?_
 refine dmv rfl ?_
 refine dq (zw ca13 rfl (WeakL.refl _) (zkP (m := m33) (o := o36) (l := x40) (a := r43) (u := y46) (by omega) h0o (by omega) (by omega) hxg (by omega))) ?_
 refine dmv rfl ?_
 refine dq (zaO rfl rfl) ?_
 refine dq (zaO rfl rfl) ?_
 refine das rfl ?_
 refine das rfl ?_
 refine dn ?_
 refine za ?_
 refine dq (zD zN rfl rfl rfl rfl) ?_
 refine dmv rfl ?_
 refine dmv rfl ?_
 refine dmv rfl ?_
 refine dmv rfl ?_
 refine dq (zw ca14 rfl (WeakL.refl _) (zkE (m := m33) (o := o36) (l := x40) (a := r43) (u := y46) (by omega) h0o (by omega) (by omega) hxg (by omega))) ?_
 refine dmv rfl ?_
 refine dq (zaO rfl rfl) ?_
 refine dq (zaO rfl rfl) ?_
 refine das rfl ?_
 refine das rfl ?_
 refine dn ?_
 refine za ?_
 refine dq (zD zN rfl rfl rfl rfl) ?_
 refine dmv rfl ?_
 refine dmv rfl ?_
 refine dmv rfl ?_
 refine dmv rfl ?_
 refine dmv rfl ?_
 refine dq (zw ca15 rfl (WeakL.refl _) (zlR (m := m33) (o := o36) (l := x40) (a := r43) (u := y46) (s := y49) (by omega) h0o (by omega) (by omega) hxg (by omega))) ?_
 refine dmv rfl ?_
 refine dq (zaO rfl rfl) ?_
 refine dq (zaO rfl rfl) ?_
 refine das rfl ?_
 refine das rfl ?_
 refine dn ?_
 refine za ?_
 refine dq (zD zN rfl rfl rfl rfl) ?_
 refine dmv rfl ?_
 refine dmv rfl ?_
 refine dmv rfl ?_
 refine dmv rfl ?_
 refine dmv rfl ?_
 refine dq (zw ca16 rfl (WeakL.refl _) (zm6 (m := m33) (o := o36) (l := x40) (a := r43) (u := y46) (s := y52) (by omega) h0o (by omega) (by omega) hxg (by omega))) ?_
 refine dmv rfl ?_
 refine dq (zaO rfl rfl) ?_
 refine dq (zaO rfl rfl) ?_
 refine das rfl ?_
 refine das rfl ?_
 refine dn ?_
 refine za ?_
 refine dmv rfl ?_
 refine dmv rfl ?_
 refine dq (zw zn2 rfl (WeakL.refl _) zcy) ?_
 refine dq (zE (hs := [_, _]) zfA zgY rfl rfl (by decide) (by decide) rfl) ?_
 refine dq (zw zn5 rfl (WeakL.refl _) (zdk (l := [(za0 m33 o36 x40 r43), (if za7 y46 then 0 else 1)]) (by simp))) ?_
 refine das rfl ?_
 refine dn ?_
 simp only [zoO]
 refine za ?_
 refine dmv rfl ?_
 refine dq (zd zN rfl zQ (by decide) rfl) ?_
 refine dq (zh zQ rfl rfl rfl) ?_
 refine dmv rfl ?_
 refine dq (zw zgm rfl (WeakL.refl _) (zaw (l := m33.Teams) (s := y49) (by omega))) ?_
 refine dq (zam rfl) ?_
 refine dq (zw ca19 rfl (WeakL.refl _) zhh) ?_
 refine dmv rfl ?_
 refine dq (zw zn2 rfl (WeakL.refl _) zcy) ?_
 refine dq (zE (hs := [_, _, _]) zfA zgY rfl rfl (by decide) (by decide) rfl) ?_
 refine dq (zw zn5 rfl (WeakL.refl _) (zdk (l := [(za0 m33 o36 x40 r43), (if !(m33.Teams.contains y49) then 8 else 0), (if za7 y46 then 0 else 1)]) (by simp))) ?_
 refine das rfl ?_
 refine dn ?_
 simp only [zr9]
 refine za ?_
 refine dmv rfl ?_
 refine dmv rfl ?_
 refine dq (zw zn2 rfl (WeakL.refl _) zcy) ?_
 refine dq (zE (hs := [_, _]) zfA zgY rfl rfl (by decide) (by decide) rfl) ?_
 refine dq (zw zn5 rfl (WeakL.refl _) (zdk (l := [(za0 m33 o36 x40 r43), (if za7 y46 then 0 else 1)]) (by simp))) ?_
 refine das rfl ?_
 refine dn ?_
 simp only [zoO]
 refine za ?_
 refine das rfl ?_
 refine dn ?_
 refine za ?_
 refine das rfl ?_
 refine dn ?_
 refine za ?_
 refine das rfl ?_
 refine das rfl ?_
 refine dn ?_
 refine zdi [23, 24, 117, 118, 119, 120, 121, 122, 123, 124, 125, 126, 127, 128, 129, 130] (fun (q1 : HVal × HVal) => [(23, q1.1), (24, q1.2)]) (fun (q1 : HVal × HVal) => [St b l (a43 + 1 + 1 + 1)]) (fun (q1 : HVal × HVal) => Weak q1.1 (zfp (zeI m33 o36 x40 r43 y46)) ∧ Weak q1.2 (zat (zeN m33 o36 x40 r43 y46))) ?_ ?_
 ·skip
  refine za ?_
  refine dmv rfl ?_
  refine dq (zaj rfl rfl) ?_
  refine dn ?_
  refine zl rfl (fun h1 => ?_) (fun h2 => ?_)
  ·try simp at h1
   have hz := zkL (m := m33) (o := o36) (l := x40) (a := r43) (u := y46) (by simp_all)
   have hmb := zdH hz.2
   refine zbZ (fun _ => True) [] mixed ?_
   refine ahp 0 rfl rfl (by kernel_rfl) (by kernel_rfl) (zD zN rfl rfl rfl rfl) ?_
   refine ahp 1 rfl rfl (by kernel_rfl) (by kernel_rfl) (zf rfl) ?_
   refine ahp 2 rfl rfl (by kernel_rfl) (by kernel_rfl) (zf rfl) ?_
   refine ahp 3 rfl rfl (by kernel_rfl) (by kernel_rfl) (zf rfl) ?_
   refine ahp 4 rfl rfl (by kernel_rfl) (by kernel_rfl) (zf rfl) ?_
   refine ahp 5 rfl rfl (by kernel_rfl) (by kernel_rfl) (zw ca21 rfl (WeakL.refl _) (zhC (zkk (m := m33) (o := o36) (l := x40) (a := r43) (u := y46) hz.1 h0o (by omega) (by omega)))) ?_
   refine ahp 6 rfl rfl (by kernel_rfl) (by kernel_rfl) (zD zN rfl rfl rfl rfl) ?_
   refine ahp 7 rfl rfl (by kernel_rfl) (by kernel_rfl) (zf rfl) ?_
   refine ahp 8 rfl rfl (by kernel_rfl) (by kernel_rfl) (zf rfl) ?_
   refine ahp 9 rfl rfl (by kernel_rfl) (by kernel_rfl) (zf rfl) ?_
   refine ahp 10 rfl rfl (by kernel_rfl) (by kernel_rfl) (zf rfl) ?_
   refine ahp 11 rfl rfl (by kernel_rfl) (by kernel_rfl) (zw ca22 rfl (WeakL.refl _) (zhN (zkk (m := m33) (o := o36) (l := x40) (a := r43) (u := y46) hz.1 h0o (by omega) (by omega)))) ?_
   refine ahp 12 rfl rfl (by kernel_rfl) (by kernel_rfl) (z8 rfl) ?_
   refine ahp 13 rfl rfl (by kernel_rfl) (by kernel_rfl) (z8 rfl) ?_
   refine ahz (by kernel_rfl) ?_
   exact ⟨(_, _), ⟨by rw [zeI, if_neg (by simp_all)]; exact Weak.refl _, by rw [zeN, if_neg (by simp_all)]; exact Weak.refl _⟩, ⟨rfl, rfl, trivial⟩, (by repeat (first | exact zq | refine zx rfl ?_ | refine zt rfl rfl ?_)), zO rfl⟩
  ·try simp at h2
   refine zo ?_
   exact ⟨(_, _), ⟨by rw [zeI, if_pos (by simp_all)]; exact zak 3, by rw [zeN, if_pos (by simp_all)]; exact zak 2⟩, ⟨rfl, rfl, trivial⟩, (by repeat (first | exact zq | refine zx rfl ?_ | refine zt rfl rfl ?_)), zO rfl⟩
 ·intro q1 hq1
  refine zdi [25, 131, 132, 133, 134, 135, 136, 137, 138, 139] (fun (q2 : HVal) => [(25, q2)]) (fun (q2 : HVal) => [St b l (a43 + 1 + 1 + 1)]) (fun (q2 : HVal) => Weak q2 (eSs (zcE m33 o36 x40 r43 y46 y49))) ?_ ?_
  ·skip
   refine za ?_
   refine dmv rfl ?_
   refine dq (zaj rfl rfl) ?_
   refine dn ?_
   refine zl rfl (fun h3 => ?_) (fun h4 => ?_)
   ·try simp at h3
    have hw0 : (zbF m33 o36 x40 r43 y46 y49) = 0 := by simp_all
    have hz := zsH hw0
    have hmb := zdH (zsp hw0)
    refine zB ?_
    refine dq (zD zN rfl rfl rfl rfl) ?_
    refine dmv rfl ?_
    refine dmv rfl ?_
    refine dmv rfl ?_
    refine dmv rfl ?_
    refine dmv rfl ?_
    refine dq (zw ca23 rfl (WeakL.refl _) (zh2 (tm := y49) (zkk (m := m33) (o := o36) (l := x40) (a := r43) (u := y46) hz h0o (by omega) (by omega)))) ?_
    refine das rfl ?_
    refine dn ?_
    exact ⟨_, by rw [zcE, if_neg (by simp_all)]; exact Weak.refl _, ⟨rfl, trivial⟩, (by repeat (first | exact zq | refine zx rfl ?_ | refine zt rfl rfl ?_)), zO rfl⟩
   ·try simp at h4
    refine zo ?_
    exact ⟨_, by rw [zcE, if_pos (by simp_all)]; exact zak 1, ⟨rfl, trivial⟩, (by repeat (first | exact zq | refine zx rfl ?_ | refine zt rfl rfl ?_)), zO rfl⟩
  ·intro q2 hq2
   refine zdi [22, 27, 28, 140, 141, 142, 143, 144, 145, 146, 147, 148, 149, 150, 151, 152] (fun (q3 : Unit) => [(22, .int .i64 (zbl m33 o36 x40 r43 y46 y52))]) (fun (q3 : Unit) => [St b l (a43 + 1 + 1 + 1)]) (fun (q3 : Unit) => True) ?_ ?_
   ·skip
    refine za ?_
    refine dmv rfl ?_
    refine dq (zaj rfl rfl) ?_
    refine dn ?_
    refine zl rfl (fun h5 => ?_) (fun h6 => ?_)
    ·try simp at h5
     have hz : (za0 m33 o36 x40 r43) = 0 := by simp_all
     refine za ?_
     refine dq (zD zN rfl rfl rfl rfl) ?_
     refine dmv rfl ?_
     refine dmv rfl ?_
     refine dmv rfl ?_
     refine dmv rfl ?_
     refine dq (zw ca24 rfl (WeakL.refl _) (zfV (tm := y52) (zkk (m := m33) (o := o36) (l := x40) (a := r43) (u := 0) hz h0o (by omega) (by decide)))) ?_
     refine dmv rfl ?_
     refine dq (zaO rfl rfl) ?_
     refine dq (zaO rfl rfl) ?_
     refine das rfl ?_
     refine das rfl ?_
     refine dn ?_
     refine za ?_
     refine dmv rfl ?_
     refine dq (zam rfl) ?_
     refine dn ?_
     refine zl rfl (fun h7 => ?_) (fun h8 => ?_)
     ·try simp at h7
      refine zB ?_
      refine das rfl ?_
      refine dn ?_
      exact ⟨(), trivial, ⟨by rw [zqm hz (by simp_all)]; rfl, trivial⟩, (by repeat (first | exact zq | refine zx rfl ?_ | refine zt rfl rfl ?_)), zO rfl⟩
     ·try simp at h8
      refine zo ?_
      exact ⟨(), trivial, ⟨by rw [zs2 hz (by simp_all)]; rfl, trivial⟩, (by repeat (first | exact zq | refine zx rfl ?_ | refine zt rfl rfl ?_)), zO rfl⟩
    ·try simp at h6
     refine zo ?_
     exact ⟨(), trivial, ⟨by rw [zsy (by simp_all)]; rfl, trivial⟩, (by repeat (first | exact zq | refine zx rfl ?_ | refine zt rfl rfl ?_)), zO rfl⟩
   ·intro q3 hq3
    refine zdi [26, 153, 154, 155, 156, 157, 158, 159, 160, 161, 162, 163, 164] (fun (q4 : HVal) => [(26, q4)]) (fun (q4 : HVal) => [St b l (a43 + 1 + 1 + 1)]) (fun (q4 : HVal) => Weak q4 (eSs (zch m33 o36 x40 r43 y46 y52))) ?_ ?_
    ·skip
     refine za ?_
     refine dmv rfl ?_
     refine dq (zaj rfl rfl) ?_
     refine dn ?_
     refine zl rfl (fun h9 => ?_) (fun h10 => ?_)
     ·try simp at h9
      have hw0 : (zbl m33 o36 x40 r43 y46 y52) = 0 := by simp_all
      have hz := zsM hw0
      have hmb := zdH (zsB hw0)
      refine zB ?_
      refine dq (zD zN rfl rfl rfl rfl) ?_
      refine dmv rfl ?_
      refine dmv rfl ?_
      refine dmv rfl ?_
      refine dmv rfl ?_
      refine dmv rfl ?_
      refine dq (zw ca24 rfl (WeakL.refl _) (zfV (tm := y52) (zkk (m := m33) (o := o36) (l := x40) (a := r43) (u := y46) hz h0o (by omega) (by omega)))) ?_
      refine dmv rfl ?_
      refine dq (zaO rfl rfl) ?_
      refine dq (zaO rfl rfl) ?_
      refine das rfl ?_
      refine dn ?_
      exact ⟨_, by rw [zsK hw0]; exact Weak.refl _, ⟨rfl, trivial⟩, (by repeat (first | exact zq | refine zx rfl ?_ | refine zt rfl rfl ?_)), zO rfl⟩
     ·try simp at h10
      refine zo ?_
      exact ⟨_, by rw [zch, if_pos (by simp_all)]; exact zak 1, ⟨rfl, trivial⟩, (by repeat (first | exact zq | refine zx rfl ?_ | refine zt rfl rfl ?_)), zO rfl⟩
    ·intro q4 hq4
     refine za ?_
     refine dmv rfl ?_
     refine dmv rfl ?_
     refine dq (zaj rfl rfl) ?_
     refine dmv rfl ?_
     refine dg rfl rfl (fun hc => ⟨_, OpenTo.refl _, zf rfl⟩) ?_
     refine dg rfl rfl (fun hc => ⟨_, OpenTo.refl _, zf rfl⟩) ?_
     refine dg rfl rfl (fun hc => ⟨_, OpenTo.upd (t := 170) rfl (by first | exact hc | simp_all) (OpenTo.upd (t := 169) rfl (by first | exact hc | simp_all) (OpenTo.refl _)), zw (hs' := [zfp (zeI m33 o36 x40 r43 y46), zfp (zeI m33 o36 x40 r43 y46)]) ca25 rfl ⟨Weak.refl _, hq1.1, trivial⟩ (zeq (l := (zeI m33 o36 x40 r43 y46)) (m := (zeI m33 o36 x40 r43 y46)) hb1)⟩) ?_
     refine dq (zG rfl (.inr ⟨_, rfl, fun h => by simp_all⟩) (.inl rfl)) ?_
     refine dmv rfl ?_
     refine dg rfl rfl (fun hc => ⟨_, OpenTo.refl _, zf rfl⟩) ?_
     refine dg rfl rfl (fun hc => ⟨_, OpenTo.refl _, zf rfl⟩) ?_
     refine dg rfl rfl (fun hc => ⟨_, OpenTo.upd (t := 175) rfl (by first | exact hc | simp_all) (OpenTo.upd (t := 174) rfl (by first | exact hc | simp_all) (OpenTo.refl _)), zaj rfl rfl⟩) ?_
     refine dq (zG rfl (.inr ⟨_, rfl, fun h => by simp_all⟩) (.inl rfl)) ?_
     refine dmv rfl ?_
     refine dg rfl rfl (fun hc => ⟨_, OpenTo.refl _, zf rfl⟩) ?_
     refine dg rfl rfl (fun hc => ⟨_, OpenTo.refl _, zf rfl⟩) ?_
     refine dg rfl rfl (fun hc => ⟨_, OpenTo.upd (t := 180) rfl (by first | exact hc | simp_all) (OpenTo.upd (t := 179) rfl (by first | exact hc | simp_all) (OpenTo.refl _)), zw (hs' := [zat (zeN m33 o36 x40 r43 y46), zat (zeN m33 o36 x40 r43 y46)]) ca26 rfl ⟨Weak.refl _, hq1.2, trivial⟩ (zcV (l := (zeN m33 o36 x40 r43 y46)) (m := (zeN m33 o36 x40 r43 y46)) hb2)⟩) ?_
     refine dq (zG rfl (.inr ⟨_, rfl, fun h => by simp_all⟩) (.inl rfl)) ?_
     refine dmv rfl ?_
     refine dg rfl rfl (fun hc => ⟨_, OpenTo.refl _, zf rfl⟩) ?_
     refine dg rfl rfl (fun hc => ⟨_, OpenTo.refl _, zf rfl⟩) ?_
     refine dg rfl rfl (fun hc => ⟨_, OpenTo.upd (t := 185) rfl (by first | exact hc | simp_all) (OpenTo.upd (t := 184) rfl (by first | exact hc | simp_all) (OpenTo.refl _)), zaj rfl rfl⟩) ?_
     refine dq (zG rfl (.inr ⟨_, rfl, fun h => by simp_all⟩) (.inl rfl)) ?_
     refine dmv rfl ?_
     refine dg rfl rfl (fun hc => ⟨_, OpenTo.refl _, zf rfl⟩) ?_
     refine dg rfl rfl (fun hc => ⟨_, OpenTo.refl _, zf rfl⟩) ?_
     refine dg rfl rfl (fun hc => ⟨_, OpenTo.upd (t := 190) rfl (by first | exact hc | simp_all) (OpenTo.upd (t := 189) rfl (by first | exact hc | simp_all) (OpenTo.refl _)), zw (hs' := [eSs (zcE m33 o36 x40 r43 y46 y49), eSs (zcE m33 o36 x40 r43 y46 y49)]) ca27 rfl ⟨Weak.refl _, hq2, trivial⟩ (zdD (l := (zcE m33 o36 x40 r43 y46 y49)) (m := (zcE m33 o36 x40 r43 y46 y49)) hb3)⟩) ?_
     refine dq (zG rfl (.inr ⟨_, rfl, fun h => by simp_all⟩) (.inl rfl)) ?_
     refine dmv rfl ?_
     refine dg rfl rfl (fun hc => ⟨_, OpenTo.refl _, zf rfl⟩) ?_
     refine dg rfl rfl (fun hc => ⟨_, OpenTo.refl _, zf rfl⟩) ?_
     refine dg rfl rfl (fun hc => ⟨_, OpenTo.upd (t := 195) rfl (by first | exact hc | simp_all) (OpenTo.upd (t := 194) rfl (by first | exact hc | simp_all) (OpenTo.refl _)), zaj rfl rfl⟩) ?_
     refine dq (zG rfl (.inr ⟨_, rfl, fun h => by simp_all⟩) (.inl rfl)) ?_
     refine dmv rfl ?_
     refine dg rfl rfl (fun hc => ⟨_, OpenTo.refl _, zf rfl⟩) ?_
     refine dg rfl rfl (fun hc => ⟨_, OpenTo.refl _, zf rfl⟩) ?_
     refine dg rfl rfl (fun hc => ⟨_, OpenTo.upd (t := 200) rfl (by first | exact hc | simp_all) (OpenTo.upd (t := 199) rfl (by first | exact hc | simp_all) (OpenTo.refl _)), zw (hs' := [eSs (zch m33 o36 x40 r43 y46 y52), eSs (zch m33 o36 x40 r43 y46 y52)]) ca27 rfl ⟨Weak.refl _, hq4, trivial⟩ (zdD (l := (zch m33 o36 x40 r43 y46 y52)) (m := (zch m33 o36 x40 r43 y46 y52)) hb4)⟩) ?_
     refine dq (zG rfl (.inr ⟨_, rfl, fun h => by simp_all⟩) (.inl rfl)) ?_
     refine dmv rfl ?_
     refine dg rfl rfl (fun hc => ⟨_, OpenTo.refl _, zw ca28 rfl (WeakL.refl _) ziv⟩) ?_
     refine dq (zG rfl (.inr ⟨_, rfl, fun h => by simp_all⟩) (.inl rfl)) ?_
     refine das rfl ?_
     refine dn ?_
     refine zp ?_
     refine zbO Ghost.clear rfl ⟨?_, rfl⟩
     show HVal.bool _ = _
     simp [zjl, zhY]
end
end Go.Proofs.YtpcaaekefgkhjaaGreatDoor
namespace Go.HL
section
open Go
theorem zlO {H : Type} {enc : TypeId × Value → H} {a : Assume} {C : Checked} {os : Os} {f : FuncId} {fn : Func} {s : ChangeSpec} {conds : List PathCond} {apart fresh handsOn again : Bool} {X : World → Array Value → Prop}
 (hX : ∀ (w w' : World) (args : Array Value), w.heap = w'.heap → X w args → X w' args)
 (own : ownKnob C.prog.godebug = none) (started : os.Started) (noInit : C.prog.inits.idxOf? f = none) (hfn : C.prog.funcs[f]? = some fn)
 (witness : ∃ (w : World) (tape : Tape) (i : Input), w.os = os ∧ (w.forCall tape i).Shaped C.prog ∧ i.vars = [] ∧ Input.okWide C.prog (w.forCall tape i) .any w.heap.size f i ∧
   ((s.pre enc C.prog fn conds apart (w.forCall tape i).memory i.args ∧ X (w.forCall tape i).memory i.args) ∧ sizedMet enc C.prog fn (OpenSpec.ofChange s) apart (w.forCall tape i).memory i.args) ∧ a.holds C.prog (lone (Frame.enter C.prog f i.args .normal) [] (w.forCall tape i)))
 (contract : ∀ (W : World) (base : Nat) (args : Array Value) (ds gs : List (DataW H)) (before : List MemPlace),
   (∀ (j : Nat) t v, fn.params[j]? = some t → args[j]? = some v → Value.okWide C.prog W .any base t v) → DataW.Whole enc C.prog fn.params.toList s.vars apart W args.toList ds gs before →
   X W args → W.ShapedOpen C.prog → Calls C.prog f args W fun e W' => ∃ v, e = .returned v ∧ s.post enc C.prog fn apart fresh handsOn again W args v W') :
 ReturnsInHanded a C os f .any (fun w args => (s.pre enc C.prog fn conds apart w args ∧ X w args) ∧ sizedMet enc C.prog fn (OpenSpec.ofChange s) apart w args) (s.post enc C.prog fn apart fresh handsOn again) := by
 refine returnsInHanded_of_calls own started noInit witness fun w tape i _ hsh _ hok hpre _ => ?_
 obtain ⟨_, _, _, fn', hfn', _, _, _, _, hval⟩ := hok
 obtain rfl : fn' = fn := Option.some.inj (hfn'.symm.trans hfn)
 obtain ⟨⟨⟨ds, gs, before, hw, _⟩, hx⟩, _⟩ := hpre
 refine (contract (w.forCall tape i) w.heap.size i.args ds gs before hval (DataW.Whole.of_heap (w' := w.forCall tape i) (by rfl) hw) (hX _ _ _ (by rfl) hx) hsh).mono fun e W' ⟨v, he, hp⟩ => ?_
 subst he
 exact ChangeSpec.post_blind hp
end
end Go.HL
namespace Go.Proofs.YtpcaaekefgkhjaaGreatDoor
section
open Go.ChangeShapes Go.WideShapes Go.ChangeAt Go.RowKit Go.HL
theorem zjh : ownKnob Tryz.prog.godebug = none := by kernel_rfl
theorem zeP : laidOutB Tryz.prog = true := by kernel_rfl
theorem zh1 : Tryz.prog.cellsOf 3 = 1 := by kernel_rfl
theorem zji {W : World} (h : laidMetH Tryz.prog Rows.offersFollowedRow.laid W) (hsh : W.ShapedOpen Tryz.prog) : TabI Tryz.prog (zcT W) := by
 rw [MakeChecks.laidMetH_plain _ _ _ (by kernel_rfl)] at h
 letI : Tracks := ⟨false⟩
 exact zmI (i := 2) (g := 1) (t := 265) h (by kernel_rfl) (by kernel_rfl) (by kernel_rfl) Tryz.underlying265 Tryz.underlying193 (by kernel_rfl) (by kernel_rfl) (fun g hg => by
  obtain rfl : 0 = g := Option.some.inj ((show Tryz.prog.globalNamed "internal/bytealg.MaxLen" = some 0 by kernel_rfl).symm.trans hg)
  exact Go.Proofs.cell_of_shapedOpen_int (zero := #[.int .i64 0]) (t := 3) hsh (of_decide_eq_true (by kernel_rfl)) (by kernel_rfl) rfl (by kernel_rfl) (by kernel_rfl) Tryz.underlying3)
theorem zh5 {W : World} (ht : TabI Tryz.prog (zcT W)) {a : Option Addr} {len cap : Nat} {H : Type} {enc : TypeId × Value → H} {d0 : DataW H} {p : List MemPlace} (h : DataW.Trod enc Tryz.prog W 0 (fun _ => true) true 22 (.slice a len cap) d0 p) :
 Calls Tryz.prog 3 #[.slice a len cap] W fun e W' => e = .returned (.bool true) ∧ Below W.heap.size W W' := by
 obtain ⟨fuel, hf⟩ := h
 rcases open_ints Tryz.underlying22 Tryz.underlying3 zh1 hf with ⟨hcs, hx⟩ | ⟨a', len', cap', zs, hcs, _, hl, hm, hz, hx, hcell, hwz⟩
 ·simp [Value.cells] at hcs
  obtain ⟨rfl, rfl, rfl⟩ := hcs
  letI : Tracks := ⟨false⟩
  exact zmL (l := []) (zdU) ht (.slice0 _ _ _)
 ·simp [Value.cells] at hcs
  obtain ⟨rfl, rfl, rfl⟩ := hcs
  simp only [if_true] at hz
  letI : Tracks := ⟨false⟩
  exact zmL (l := zs.take len) (zdU) ht (zrN hcell (by omega) hl)
set_option maxRecDepth 100000 in
theorem zhp (os : Os) (started : os.Started) (H : Type) (enc : TypeId × Value → H) :
 ReturnsInHanded {} Tryz.checked os 3 .any (fun w args => (Rows.offersFollowedSpec.pre enc Tryz.prog Tryz.f3 Rows.offersFollowedRow.domain false w args ∧ laidMetH Tryz.prog Rows.offersFollowedRow.laid w) ∧ sizedMet enc Tryz.prog Tryz.f3 (OpenSpec.ofChange Rows.offersFollowedSpec) false w args)
  (Rows.offersFollowedSpec.post enc Tryz.prog Tryz.f3 false true false false) := by
 refine zlO (C := Tryz.checked) (X := fun w _ => laidMetH Tryz.prog Rows.offersFollowedRow.laid w) (fun _ _ _ hh h => h.of_heap hh) zjh started (by kernel_rfl) Tryz.func3
  (ChangeSpec.witness_shaped (enc := enc) (C := Tryz.checked) (os := os) (X := fun w _ => laidMetH Tryz.prog Rows.offersFollowedRow.laid w) false (World.laidAll Tryz.prog os Rows.offersFollowedRow.laid) #[.slice none 0 0] 8 (World.laidAll_os _ _ _)
    (World.shaped_of_ZipB (by kernel_rfl) (by kernel_rfl)) (by kernel_rfl) (by kernel_rfl) (by kernel_rfl)
    (by rw [MakeChecks.laidMetH_plain _ _ _ (by kernel_rfl)]; exact laidMet_laidAll _ (by kernel_rfl) (by kernel_rfl))) ?_
 intro W base args ds gs before hval0 hW hL hsh
 have hval : ∀ (j : Nat) t v, Tryz.f3.params[j]? = some t → args[j]? = some v → Value.okWide Tryz.prog W .any base t v := hval0
 have hW' := hW
 obtain ⟨p, q, hA0, hV, rfl, _, _⟩ := hW
 have hA : DataW.TrodAll enc Tryz.prog W 0 (fun _ => true) true Tryz.f3.params.toList args.toList ds p := hA0
 rw [Tryz.params3] at hA hval
 obtain ⟨v0, d0, rfl, rfl, h0⟩ := trodAll_one hA
 obtain ⟨rfl, rfl⟩ := trodVars_none hV
 obtain ⟨a0, len, cap, rfl⟩ := okWide_slice Tryz.underlying22 (hval 0 22 v0 rfl rfl)
 simp only [List.append_nil] at hW'
 have hlt : ∀ x ∈ p, x.block < W.heap.size := fun x hx => by simpa using hW'.lt x hx
 refine (zh5 (zji hL hsh) h0).mono fun e W' ⟨he, hb⟩ => ?_
 subst he
 have hargs : DataW.Trod enc Tryz.prog W' 0 (fun b => decide (b < W.heap.size)) true 22 (.slice a0 len cap) d0 p :=
  Below.trod zeP (by kernel_rfl) (of_decide_eq_true (by kernel_rfl)) h0 hb hlt
 exact ⟨_, rfl, _, _, _, [], p, [], hW', trodAll_mk1 (shut_bool Tryz.underlying4 _), trodAll_mk1 hargs, rfl, hb.frame _, fun h => by cases h⟩
theorem zij : mapsRowed Tryz.prog = true := by kernel_rfl
theorem ziq : (Rows.offersFollowedRow.inPlace == Tryz.prog.inPlace 3) = true := by kernel_rfl
theorem ziX : (Rows.offersFollowedRow.unfollowed == Tryz.prog.unfollowed 3) = true := by kernel_rfl
theorem ziP : (Rows.offersFollowedRow.recurses == Tryz.prog.recurses 3) = true := by kernel_rfl
theorem ziE : (Rows.offersFollowedRow.named == Tryz.prog.varsNamed 3) = true := by kernel_rfl
theorem ziV : joinedFacts Tryz.prog 3 Tryz.f3 Rows.offersFollowedSpec Rows.offersFollowedRow = true := by
 simp only [joinedFacts, Bool.and_eq_true]
 repeat' apply And.intro
 all_goals first
  | with_reducible exact zeP
  | with_reducible exact zij
  | with_reducible exact ziq
  | with_reducible exact ziX
  | with_reducible exact ziP
  | with_reducible exact ziE
  | kernel_rfl
theorem ziM : false = Tryz.prog.looks [] := by kernel_rfl
theorem zin : false = Rows.offersFollowedRow.goesBy Tryz.prog := by kernel_rfl
theorem ziN : Rows.offersFollowedRow.wfByText (OpenSpec.ofChange Rows.offersFollowedSpec) = true := by kernel_rfl
theorem zif : Tryz.prog.mainIs = some ("ec2b7987431ba52d20007b49eba9c63b7ab7717e450e871282f8b22b8989dcd9" |> fun h => (true, h.toList)) := by kernel_rfl
theorem zia : ([22].all fun u => !Tryz.prog.wantsStandIn u) = true := by kernel_rfl
theorem zfN : Tryz.prog.funcNamed Rows.offersFollowedRow.func = some 3 := by kernel_rfl
theorem zh4 : Rows.OffersFollowedSaid :=
 OpenClaim.holds_of_wide 3 Tryz.f3 rfl rfl rfl rfl rfl rfl rfl ⟨rfl, rfl, rfl, rfl, rfl⟩ rfl rfl rfl rfl rfl zfN Tryz.func3 ziV
  (of_decide_eq_true (by kernel_rfl)) (by unfold Func.isWrapper; first | (rw [if_pos (by decide +kernel)]; kernel_rfl) | (rw [if_neg (by decide +kernel)]; exact ⟨rfl, rfl⟩))
  (fun os started H enc _ => zhp os started H enc)
theorem cardOffersFollowed : Rows.OffersFollowedCardSaid :=
 Claim7.holds_tied_plain_at .later [] [.data, .data, .data, .data, .pinned] true (true, "ec2b7987431ba52d20007b49eba9c63b7ab7717e450e871282f8b22b8989dcd9") false zh4 (fun _ h => by cases h) ziN (fun _ h => by cases h) offersFollowed_row_tie rfl ⟨rfl, rfl⟩ zif rfl
  (fun f fn hf hfn => by
    obtain rfl : f = 3 := Option.some.inj (zfN.symm.trans hf) |>.symm
    obtain rfl : fn = Tryz.f3 := (Option.some.inj (Tryz.func3.symm.trans hfn)).symm
    exact ⟨ziM, fun j t ht => by
     rw [Tryz.params3] at ht
     have hm : t ∈ [22] := by simpa using Array.mem_of_getElem? ht
     have hall := zia
     exact (show Tryz.prog.wantsStandIn t = false by simpa using List.all_eq_true.1 hall t hm)⟩)
  zin
end
end Go.Proofs.YtpcaaekefgkhjaaGreatDoor
