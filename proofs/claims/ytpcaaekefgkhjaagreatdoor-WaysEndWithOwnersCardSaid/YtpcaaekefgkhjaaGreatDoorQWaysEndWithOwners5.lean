/- Part 5 of the proof: a program logic, contracts of functions and plain facts; no conditions. -/
import Derived.Test.YtpcaaekefgkhjaaGreatDoorQWaysEndWithOwners4
set_option linter.unusedVariables false
set_option linter.unusedSimpArgs false
namespace Go.Proofs.YtpcaaekefgkhjaaGreatDoor
set_option maxRecDepth 100000
set_option linter.unusedVariables false
set_option linter.unusedSimpArgs false
section
open Go.HL
/-- (*benchwarmer/trade.deal).turn -/
theorem zbv [Tracks] {d : DV} {h t : Int}  : Con Tryz.prog 134 [pD d, .int .i64 h, .int .i64 t] [.cells d.b (cD d)] (fun x M' => x = .tup [] ∧ M' = [.cells d.b (cD { d with p := zbo d.p h t })]) := by
 refine Con.of_body Tryz.func134 rfl Tryz.ntmps134 rfl rfl ?_
 refine zC ?_
 refine dmv rfl ?_
 refine dmv rfl ?_
 refine dmv rfl ?_
 refine dmv rfl ?_
 refine dq ((by first | exact zx rfl | exact zp rfl)) ?_
 refine dq (ze zbu rfl ty3 (by decide) rfl) ?_
 first
 | refine de0 (zz (i := 0) ty3 rfl rfl rfl rfl rfl (Nat.le_of_ble_eq_true rfl) ?_)
 | refine de0 (zz (i := 1) ty3 rfl rfl rfl rfl rfl (Nat.le_of_ble_eq_true rfl) ?_)
 | refine de0 (zz (i := 2) ty3 rfl rfl rfl rfl rfl (Nat.le_of_ble_eq_true rfl) ?_)
 | refine de0 (zz (i := 3) ty3 rfl rfl rfl rfl rfl (Nat.le_of_ble_eq_true rfl) ?_)
 refine dq ((by first | exact zx rfl | exact zp rfl)) ?_
 refine dq (ze zbu rfl ty3 (by decide) rfl) ?_
 first
 | refine de0 (zz (i := 0) ty3 rfl rfl rfl rfl rfl (Nat.le_of_ble_eq_true rfl) ?_)
 | refine de0 (zz (i := 1) ty3 rfl rfl rfl rfl rfl (Nat.le_of_ble_eq_true rfl) ?_)
 | refine de0 (zz (i := 2) ty3 rfl rfl rfl rfl rfl (Nat.le_of_ble_eq_true rfl) ?_)
 | refine de0 (zz (i := 3) ty3 rfl rfl rfl rfl rfl (Nat.le_of_ble_eq_true rfl) ?_)
 refine dn ?_
 exact zai rfl ⟨rfl, rfl⟩

/-- (*benchwarmer/trade.floor).open -/
theorem zjf [Tracks] {bf : Nat} {m : MarketS} {o : List OwnerS} {fn : HVal} {E : List DV} {S : List MObj} {t : Int} (hE : E.length ≤ 1000000) : Con Tryz.prog 89 [pAt bf, .int .i64 t] (FL bf m o fn E ++ S) (fun x M' => x = .tup [] ∧ M' = FL bf m o fn (E.map (zfU t)) ++ S) := by
 refine Con.of_body Tryz.func89 rfl Tryz.ntmps89 rfl rfl ?_
 refine za ?_
 refine dmv rfl ?_
 refine dq ((by first | exact zx rfl | exact zp rfl)) ?_
 refine dq (ze zcs rfl zbO (by decide) rfl) ?_
 refine de rfl (zJ (i := 0) zbO rfl rfl (.inl ⟨rfl, rfl⟩) ?_)
 refine dq (zK zbO rfl) ?_
 refine dmv rfl ?_
 refine dn ?_
 refine zq ?_
 refine zak [5, 11, 12, 13, 14, 15, 16, 17, 18, 19, 20, 21, 22, 23, 24, 25, 26, 27, 28, 29, 30, 31, 32, 33, 34, 35, 36, 37, 38, 39, 40, 41, 42] (fun (k : Nat) => [(11, .int .i64 k)]) (fun (k : Nat) => (FL bf m o fn (EK (zfU t) k E) ++ S)) (fun (k : Nat) => k ≤ E.length ∧ (True)) (fun (k : Nat) => E.length - k) (0) ?_ ?_ ?_ ?_
 ·exact ⟨Nat.zero_le _, trivial⟩
 ·exact ⟨rfl, trivial⟩
 ·exact zR (by rw [EK_0])
 ·intro k hinv
  obtain ⟨hk, -⟩ := hinv
  refine za ?_
  refine dq (zS rfl rfl) ?_
  refine dn ?_
  refine zj ?_
  refine zi rfl (fun h1 => ?_) (fun h2 => ?_)
  ·try simp at h1
   obtain ⟨d, hd⟩ : ∃ d, E[k]? = some d := ⟨_, List.getElem?_eq_getElem h1⟩
   have hdd := zU hd
   have hdk := zqU (f := zfU t) hd
   refine zm ?_
   refine zh ?_
   refine zj ?_
   refine zq ?_
   refine za ?_
   refine dq (zW (j := k) (a := d) zbO zda rfl rfl rfl hd) ?_
   refine dq (zg zda rfl rfl rfl) ?_
   refine das rfl ?_
   refine dn ?_
   refine za ?_
   refine dmv rfl ?_
   refine dq ((by first | exact zx rfl | exact zp rfl)) ?_
   refine dq (ze zbu rfl ty3 (by decide) rfl) ?_
   refine de rfl (zJ (i := 3 * k + 1) ty3 rfl (zbB hdk) (.inl ⟨rfl, rfl⟩) ?_)
   refine dq (zau rfl rfl) ?_
   refine dmv rfl ?_
   refine dg rfl rfl (fun hc => ⟨_, OpenTo.refl _, zf rfl⟩) ?_
   refine dg rfl rfl (fun hc => ⟨_, OpenTo.upd (t := 21) rfl (by first | exact hc | simp_all) (OpenTo.refl _), (by first | exact zx rfl | exact zp rfl)⟩) ?_
   refine dg rfl rfl (fun hc => ⟨_, OpenTo.upd (t := 22) rfl (by first | exact hc | simp_all) (OpenTo.refl _), ze zbu rfl zam (by decide) rfl⟩) ?_
   refine dg rfl rfl (fun hc => ⟨_, OpenTo.upd (t := 23) rfl (by first | exact hc | simp_all) (OpenTo.refl _), ze zam rfl zbZ (by decide) rfl⟩) ?_
   refine dg rfl rfl (fun hc => ⟨_, OpenTo.upd (t := 24) rfl (by first | exact hc | simp_all) (OpenTo.refl _), ze zbZ rfl ty3 (by decide) rfl⟩) ?_
   refine dgl rfl rfl (fun hc => ⟨_, OpenTo.upd (t := 25) rfl (by first | exact hc | simp_all) (OpenTo.refl _), zJ (i := 3 * k + 1) ty3 rfl (zbB hdk) (.inl ⟨rfl, rfl⟩) ⟨rfl, rfl⟩⟩) ?_
   refine dg rfl rfl (fun hc => ⟨_, OpenTo.refl _, zf rfl⟩) ?_
   refine dg rfl rfl (fun hc => ⟨_, OpenTo.upd (t := 27) rfl (by first | exact hc | simp_all) (OpenTo.upd (t := 26) rfl (by first | exact hc | simp_all) (OpenTo.refl _)), zau rfl rfl⟩) ?_
   refine dq (zA rfl (.inr ⟨_, rfl, fun h => by simp_all⟩) (.inl rfl)) ?_
   refine dn ?_
   refine zi rfl (fun h3 => ?_) (fun h4 => ?_)
   ·try simp at h3
    refine za ?_
    refine dmv rfl ?_
    refine dmv rfl ?_
    refine de rfl (zdm (i := 3 * k + 1) (m' := .cells d.b (cD { d with p := zbo d.p 1 t })) zf2 rfl (WeakL.refl _) (zbB hdk) (zbv (d := d)) ?_)
    refine dn ?_
    refine zL (Ghost.of_eq (zsz hdk rfl rfl)) ?_
    have hdk2 : ((EK (zfU t) k E).set k (dU d ⟨1, t, d.p.2.yes, d.p.2.veto⟩))[k]? = some (dU d ⟨1, t, d.p.2.yes, d.p.2.veto⟩) := List.getElem?_set_self (zN hdk)
    refine zbU (fun M => M = (FL bf m o fn ((EK (zfU t) k E).set k (dU d ⟨1, t, d.p.2.yes, d.p.2.veto⟩)) ++ S)) [3, 8] mixed ?_
    refine ahp 0 rfl rfl (by kernel_rfl) (by kernel_rfl) (zf rfl) ?_
    refine ahp 1 rfl rfl (by kernel_rfl) (by kernel_rfl) ((by first | exact zx rfl | exact zp rfl)) ?_
    refine ahp 2 rfl rfl (by kernel_rfl) (by kernel_rfl) (ze zbu rfl zcE (by decide) rfl) ?_
    refine ahl 3 rfl rfl (by kernel_rfl) (by kernel_rfl) (by simp) rfl (fun M hM => by subst hM; exact zJ (i := 3 * k + 1) zcE rfl (zbB (d := (dU d ⟨1, t, d.p.2.yes, d.p.2.veto⟩)) hdk2) (.inl ⟨rfl, rfl⟩) ⟨rfl, rfl⟩) ?_
    refine ahp 4 rfl rfl (by kernel_rfl) (by kernel_rfl) (zf rfl) ?_
    refine ahp 5 rfl rfl (by kernel_rfl) (by kernel_rfl) ((by first | exact zx rfl | exact zp rfl)) ?_
    refine ahp 6 rfl rfl (by kernel_rfl) (by kernel_rfl) (ze zbu rfl zam (by decide) rfl) ?_
    refine ahp 7 rfl rfl (by kernel_rfl) (by kernel_rfl) (ze zam rfl ty9 (by decide) rfl) ?_
    refine ahl 8 rfl rfl (by kernel_rfl) (by kernel_rfl) (by simp) rfl (fun M hM => by subst hM; exact zJ (i := 3 * k + 1) ty9 rfl (zbB (d := (dU d ⟨1, t, d.p.2.yes, d.p.2.veto⟩)) hdk2) (.inl ⟨rfl, rfl⟩) ⟨rfl, rfl⟩) ?_
    refine ahe 9 rfl (by kernel_rfl) ?_
    refine zab (zdG (i := 3 * k + 2) zcE ty9 rfl rfl rfl (zsc (d := dU d ⟨1, t, d.p.2.yes, d.p.2.veto⟩) hdk2) ?_)
    refine ⟨fun _ => .inr (by simp [zaO, Region.binds]), ?_⟩
    refine ahz (by kernel_rfl) ?_
    refine zy ?_
    refine zh ?_
    refine zC ?_
    refine dq (zB rfl rfl (by omega) (by omega)) ?_
    refine dmv rfl ?_
    refine dn ?_
    exact ⟨k + 1, ⟨by omega, trivial⟩, by dsimp only; omega, ⟨rfl, trivial⟩, (by repeat (first | exact zt | refine zw rfl ?_ | refine zu rfl rfl ?_)), zR (by dsimp only; rw [← zqx hd]; exact (zsF hdk2).trans (zti h3))⟩
   ·try simp at h4
    refine zm ?_
    refine zy ?_
    refine zh ?_
    refine zC ?_
    refine dq (zB rfl rfl (by omega) (by omega)) ?_
    refine dmv rfl ?_
    refine dn ?_
    exact ⟨k + 1, ⟨by omega, trivial⟩, by dsimp only; omega, ⟨rfl, trivial⟩, (by repeat (first | exact zt | refine zw rfl ?_ | refine zu rfl rfl ?_)), zR (by dsimp only; rw [ztc hd (zt3 h4)])⟩
  ·try simp at h2
   have hnk : E.length ≤ k := by omega
   obtain rfl : k = E.length := by omega
   rw [ztZ]
   refine zX ?_
   refine z7 ?_
   refine zaw ?_
   refine zO ?_
   exact zai rfl ⟨rfl, rfl⟩

/-- (*benchwarmer/trade.floor).find -/
theorem zru [Tracks] {bf : Nat} {m : MarketS} {o : List OwnerS} {fn : HVal} {E : List DV} {S : List MObj} {id : Str} {k0 : Nat} {d0 : DV} (hE : E.length ≤ 1000000) (hk0 : E[k0]? = some d0) (hid : d0.p.1.Id = id) (hlt : ∀ (j : Nat) (z : DV), j < k0 → E[j]? = some z → z.p.1.Id ≠ id) : Con Tryz.prog 135 [pAt bf, .str id] (FL bf m o fn E ++ S) (fun x M' => x = pD d0 ∧ M' = (FL bf m o fn E ++ S)) := by
 refine Con.of_body Tryz.func135 rfl Tryz.ntmps135 rfl rfl ?_
 refine za ?_
 refine das rfl ?_
 refine dn ?_
 refine zj ?_
 refine za ?_
 refine dmv rfl ?_
 refine dq ((by first | exact zx rfl | exact zp rfl)) ?_
 refine dq (ze zcs rfl zbO (by decide) rfl) ?_
 refine de rfl (zJ (i := 0) zbO rfl rfl (.inl ⟨rfl, rfl⟩) ?_)
 refine dq (zK zbO rfl) ?_
 refine dmv rfl ?_
 refine dn ?_
 refine zq ?_
 refine zak [4, 6, 12, 13, 14, 15, 16, 17, 18, 19, 20, 21, 22, 23, 24] (fun (k : Nat) => [(12, .int .i64 k)]) (fun (k : Nat) => (FL bf m o fn E ++ S)) (fun (k : Nat) => k ≤ E.length ∧ (k ≤ k0)) (fun (k : Nat) => E.length - k) (0) ?_ ?_ ?_ ?_
 ·exact ⟨Nat.zero_le _, Nat.zero_le _⟩
 ·exact ⟨rfl, trivial⟩
 ·exact List.Perm.refl _
 ·intro k hinv
  obtain ⟨hk, hg⟩ := hinv
  refine za ?_
  refine dq (zS rfl rfl) ?_
  refine dn ?_
  refine zj ?_
  refine zi rfl (fun h1 => ?_) (fun h2 => ?_)
  ·try simp at h1
   obtain ⟨d, hd⟩ : ∃ d, E[k]? = some d := ⟨_, List.getElem?_eq_getElem h1⟩
   have hdd := zU hd
   refine zm ?_
   refine zh ?_
   refine zj ?_
   refine zq ?_
   refine za ?_
   refine dq (zW (j := k) (a := d) zbO zda rfl rfl rfl hd) ?_
   refine dq (zg zda rfl rfl rfl) ?_
   refine das rfl ?_
   refine dn ?_
   refine za ?_
   refine dmv rfl ?_
   refine dq ((by first | exact zx rfl | exact zp rfl)) ?_
   refine dq (ze zbu rfl zam (by decide) rfl) ?_
   refine dq (ze zam rfl ty9 (by decide) rfl) ?_
   refine de rfl (zJ (i := 3 * k + 1) ty9 rfl (zbB hd) (.inl ⟨rfl, rfl⟩) ?_)
   refine dmv rfl ?_
   refine dq (zbt rfl rfl) ?_
   refine dn ?_
   refine zi rfl (fun h3 => ?_) (fun h4 => ?_)
   ·try simp at h3
    refine za ?_
    refine dmv rfl ?_
    refine das rfl ?_
    refine dn ?_
    refine zl ?_
    first
    | (have hq : k = k0 := by
        rcases Nat.lt_or_ge k k0 with q | q
        ·exact absurd h3 (hlt k d q hd)
        ·omega
       subst hq
       rw [hk0] at hd; cases hd
       exact zbb rfl ⟨rfl, rfl⟩)
    | (exfalso; have := zN hk0; omega)
   ·try simp at h4
    refine zm ?_
    refine zy ?_
    refine zh ?_
    refine zC ?_
    refine dq (zB rfl rfl (by omega) (by omega)) ?_
    refine dmv rfl ?_
    refine dn ?_
    refine ⟨k + 1, ?_, ?_, ⟨rfl, trivial⟩, (by repeat (first | exact zt | refine zw rfl ?_ | refine zu rfl rfl ?_)), List.Perm.refl _⟩
    ·refine ⟨by omega, ?_⟩
     rcases Nat.lt_or_ge k k0 with q | q
     ·omega
     ·obtain rfl : k = k0 := by omega
      rw [hk0] at hd; cases hd; exact absurd hid h4
    ·dsimp only; omega
  ·try simp at h2
   have hnk : E.length ≤ k := by omega
   obtain rfl : k = E.length := by omega
   refine zX ?_
   refine z7 ?_
   refine zaw ?_
   refine zO ?_
   refine zh ?_
   refine za ?_
   refine das rfl ?_
   refine dn ?_
   refine zl ?_
   first
   | (have hq : k = k0 := by
       rcases Nat.lt_or_ge k k0 with q | q
       ·exact absurd h3 (hlt k d q hd)
       ·omega
      subst hq
      rw [hk0] at hd; cases hd
      exact zbb rfl ⟨rfl, rfl⟩)
   | (exfalso; have := zN hk0; omega)

/-- (*benchwarmer/trade.floor).find -/
theorem zrG [Tracks] {bf : Nat} {m : MarketS} {o : List OwnerS} {fn : HVal} {E : List DV} {S : List MObj} {id : Str} (hE : E.length ≤ 1000000) (hno : ∀ z ∈ E, z.p.1.Id ≠ id) : Con Tryz.prog 135 [pAt bf, .str id] (FL bf m o fn E ++ S) (fun x M' => x = .raw (.pointer none) ∧ M' = (FL bf m o fn E ++ S)) := by
 refine Con.of_body Tryz.func135 rfl Tryz.ntmps135 rfl rfl ?_
 refine za ?_
 refine das rfl ?_
 refine dn ?_
 refine zj ?_
 refine za ?_
 refine dmv rfl ?_
 refine dq ((by first | exact zx rfl | exact zp rfl)) ?_
 refine dq (ze zcs rfl zbO (by decide) rfl) ?_
 refine de rfl (zJ (i := 0) zbO rfl rfl (.inl ⟨rfl, rfl⟩) ?_)
 refine dq (zK zbO rfl) ?_
 refine dmv rfl ?_
 refine dn ?_
 refine zq ?_
 refine zak [4, 6, 12, 13, 14, 15, 16, 17, 18, 19, 20, 21, 22, 23, 24] (fun (k : Nat) => [(12, .int .i64 k)]) (fun (k : Nat) => (FL bf m o fn E ++ S)) (fun (k : Nat) => k ≤ E.length ∧ (True)) (fun (k : Nat) => E.length - k) (0) ?_ ?_ ?_ ?_
 ·exact ⟨Nat.zero_le _, trivial⟩
 ·exact ⟨rfl, trivial⟩
 ·exact List.Perm.refl _
 ·intro k hinv
  obtain ⟨hk, -⟩ := hinv
  refine za ?_
  refine dq (zS rfl rfl) ?_
  refine dn ?_
  refine zj ?_
  refine zi rfl (fun h1 => ?_) (fun h2 => ?_)
  ·try simp at h1
   obtain ⟨d, hd⟩ : ∃ d, E[k]? = some d := ⟨_, List.getElem?_eq_getElem h1⟩
   have hdd := zU hd
   refine zm ?_
   refine zh ?_
   refine zj ?_
   refine zq ?_
   refine za ?_
   refine dq (zW (j := k) (a := d) zbO zda rfl rfl rfl hd) ?_
   refine dq (zg zda rfl rfl rfl) ?_
   refine das rfl ?_
   refine dn ?_
   refine za ?_
   refine dmv rfl ?_
   refine dq ((by first | exact zx rfl | exact zp rfl)) ?_
   refine dq (ze zbu rfl zam (by decide) rfl) ?_
   refine dq (ze zam rfl ty9 (by decide) rfl) ?_
   refine de rfl (zJ (i := 3 * k + 1) ty9 rfl (zbB hd) (.inl ⟨rfl, rfl⟩) ?_)
   refine dmv rfl ?_
   refine dq (zbt rfl rfl) ?_
   refine dn ?_
   refine zi rfl (fun h3 => ?_) (fun h3 => ?_)
   ·exfalso
    try simp at h3
    exact hno d (List.mem_of_getElem? hd) h3
   ·try simp at h3
    refine zm ?_
    refine zy ?_
    refine zh ?_
    refine zC ?_
    refine dq (zB rfl rfl (by omega) (by omega)) ?_
    refine dmv rfl ?_
    refine dn ?_
    refine ⟨k + 1, ?_, ?_, ⟨rfl, trivial⟩, (by repeat (first | exact zt | refine zw rfl ?_ | refine zu rfl rfl ?_)), List.Perm.refl _⟩
    ·exact ⟨by omega, trivial⟩
    ·dsimp only; omega
  ·try simp at h2
   have hnk : E.length ≤ k := by omega
   obtain rfl : k = E.length := by omega
   refine zX ?_
   refine z7 ?_
   refine zaw ?_
   refine zO ?_
   refine zh ?_
   refine za ?_
   refine das rfl ?_
   refine dn ?_
   refine zl ?_
   exact zbb rfl ⟨rfl, rfl⟩

set_option maxHeartbeats 4000000 in
/-- (*benchwarmer/trade.floor).answer -/
theorem zpM [Tracks] {bf : Nat} {m : MarketS} {o : List OwnerS} {fn : HVal} {E : List DV} {S : List MObj} {a : ReplyS} {k0 : Nat} {d0 : DV} (hE : E.length ≤ 1000000) (hG : d0.p.1.Gives.length ≤ 1000) (hk0 : E[k0]? = some d0) (hid : d0.p.1.Id = a.Offer) (hlt : ∀ (j : Nat) (z : DV), j < k0 → E[j]? = some z → z.p.1.Id ≠ a.Offer) : Con Tryz.prog 90 [pAt bf, zbJ a] (FL bf m o fn E ++ S) (fun x M' => x = .tup [] ∧ M' = FL bf m o fn (E.set k0 (dP d0 (zb2 m a d0.p))) ++ S) := by
 refine Con.of_body Tryz.func90 rfl Tryz.ntmps90 rfl rfl ?_
 refine za ?_
 refine dq (zas rfl rfl) ?_
 refine dn ?_
 refine za ?_
 refine dmv rfl ?_
 refine dq ((by first | exact zb z8 rfl ty9 (by decide) rfl | exact ze z8 rfl ty9 (by decide) rfl)) ?_
 refine dq (zg ty9 rfl rfl rfl) ?_
 refine de rfl (EOp.mono ?_ (zcI zsO rfl (WeakL.refl _) (zru hE hk0 hid hlt)))
 rintro _ _ ⟨rfl, rfl⟩
 refine das rfl ?_
 refine dn ?_
 refine zj ?_
 refine za ?_
 refine dmv rfl ?_
 refine dq (zlE zda rfl rfl) ?_
 refine dmv rfl ?_
 refine dg rfl rfl (fun hc => ⟨_, OpenTo.refl _, zf rfl⟩) ?_
 refine dg rfl rfl (fun hc => ⟨_, OpenTo.upd (t := 13) rfl (by first | exact hc | simp_all) (OpenTo.refl _), (by first | exact zx rfl | exact zp rfl)⟩) ?_
 refine dg rfl rfl (fun hc => ⟨_, OpenTo.upd (t := 14) rfl (by first | exact hc | simp_all) (OpenTo.refl _), ze zbu rfl ty3 (by decide) rfl⟩) ?_
 refine dgl rfl rfl (fun hc => ⟨_, OpenTo.upd (t := 15) rfl (by first | exact hc | simp_all) (OpenTo.refl _), zJ (i := 3 * k0 + 1) ty3 rfl (zbB hk0) (.inl ⟨rfl, rfl⟩) ⟨rfl, rfl⟩⟩) ?_
 refine dg rfl rfl (fun hc => ⟨_, OpenTo.upd (t := 16) rfl (by first | exact hc | simp_all) (OpenTo.refl _), zaD rfl rfl⟩) ?_
 refine dg rfl rfl (fun hc => ⟨_, OpenTo.upd (t := 17) rfl (by first | exact hc | simp_all) (OpenTo.refl _), zf rfl⟩) ?_
 refine dg rfl rfl (fun hc => ⟨_, OpenTo.refl _, zf rfl⟩) ?_
 refine dg rfl rfl (fun hc => ⟨_, OpenTo.upd (t := 19) rfl (by first | exact hc | simp_all) (OpenTo.refl _), (by first | exact zx rfl | exact zp rfl)⟩) ?_
 refine dg rfl rfl (fun hc => ⟨_, OpenTo.upd (t := 20) rfl (by first | exact hc | simp_all) (OpenTo.refl _), ze zbu rfl ty3 (by decide) rfl⟩) ?_
 refine dgl rfl rfl (fun hc => ⟨_, OpenTo.upd (t := 21) rfl (by first | exact hc | simp_all) (OpenTo.refl _), zJ (i := 3 * k0 + 1) ty3 rfl (zbB hk0) (.inl ⟨rfl, rfl⟩) ⟨rfl, rfl⟩⟩) ?_
 refine dg rfl rfl (fun hc => ⟨_, OpenTo.upd (t := 22) rfl (by first | exact hc | simp_all) (OpenTo.refl _), zaD rfl rfl⟩) ?_
 refine dg rfl rfl (fun hc => ⟨_, OpenTo.upd (t := 18) rfl (by first | exact hc | simp_all) (OpenTo.refl _), zA rfl (.inr ⟨_, rfl, fun h => by simp_all⟩) (.inl rfl)⟩) ?_
 refine dq (zA rfl (.inl rfl) (.inr ⟨_, rfl, fun h => by simp_all⟩)) ?_
 refine dn ?_
 refine zi rfl (fun h1 => ?_) (fun h2 => ?_)
 ·try simp at h1
  refine zl ?_
  first
  | exact zbb rfl ⟨rfl, ze6 hk0 (by simpa using h1)⟩
  | exact zai rfl ⟨rfl, (zbA hk1).trans (by rw [List.set_set, (zcO h0 (by simp_all)).1 (by have q := h5; rw [za1] at q; exact q)])⟩
  | exact zai rfl ⟨rfl, by rw [(zcO h0 (by simp_all)).2 (by have q := h6; rw [za1] at q; exact q)]⟩
  | exact zai rfl ⟨rfl, (zbA hk0).trans (by rw [zgV h0 (by first | (simp; done) | (rintro ⟨q1, q2, q3⟩; simp_all; done) | (rintro ⟨q1, q2⟩; simp_all; done) | simp_all) (by simp_all)])⟩
  | exact zai rfl ⟨rfl, (zbA hk0).trans (by rw [zeY h0 (by first | (simp; done) | (rintro ⟨q1, q2, q3⟩; simp_all; done) | (rintro ⟨q1, q2⟩; simp_all; done) | simp_all) (by first | (simp; done) | (rintro ⟨q1, q2, q3⟩; simp_all; done) | (rintro ⟨q1, q2⟩; simp_all; done) | simp_all) (by simp_all)])⟩
  | exact zai rfl ⟨rfl, (zbA hk2).trans (by rw [List.set_set, (zce h0 (by first | (simp; done) | (rintro ⟨q1, q2, q3⟩; simp_all; done) | (rintro ⟨q1, q2⟩; simp_all; done) | simp_all) (by first | (simp; done) | (rintro ⟨q1, q2, q3⟩; simp_all; done) | (rintro ⟨q1, q2⟩; simp_all; done) | simp_all) (by first | (simp; done) | (rintro ⟨q1, q2, q3⟩; simp_all; done) | (rintro ⟨q1, q2⟩; simp_all; done) | simp_all) (by simp_all)).1 (by have q := h13; rw [za1] at q; exact q)])⟩
  | exact zai rfl ⟨rfl, by rw [(zce h0 (by first | (simp; done) | (rintro ⟨q1, q2, q3⟩; simp_all; done) | (rintro ⟨q1, q2⟩; simp_all; done) | simp_all) (by first | (simp; done) | (rintro ⟨q1, q2, q3⟩; simp_all; done) | (rintro ⟨q1, q2⟩; simp_all; done) | simp_all) (by first | (simp; done) | (rintro ⟨q1, q2, q3⟩; simp_all; done) | (rintro ⟨q1, q2⟩; simp_all; done) | simp_all) (by simp_all)).2 (by have q := h14; rw [za1] at q; exact q)]⟩
  | exact zai rfl ⟨rfl, ze0 hk0 (by first | (simp; done) | (rintro ⟨q1, q2, q3⟩; simp_all; done) | (rintro ⟨q1, q2⟩; simp_all; done) | simp_all) (by first | (simp; done) | (rintro ⟨q1, q2, q3⟩; simp_all; done) | (rintro ⟨q1, q2⟩; simp_all; done) | simp_all) (by first | (simp; done) | (rintro ⟨q1, q2, q3⟩; simp_all; done) | (rintro ⟨q1, q2⟩; simp_all; done) | simp_all) (by first | (simp; done) | (rintro ⟨q1, q2, q3⟩; simp_all; done) | (rintro ⟨q1, q2⟩; simp_all; done) | simp_all)⟩
 ·try simp at h2
  refine zm ?_
  refine zh ?_
  have h0 : ¬ (d0.p.2.how ≠ 1 ∧ d0.p.2.how ≠ 2) := by simpa using h2
  refine zaF (fun M => M = (FL bf m o fn E ++ S)) [3] mixed ?_
  refine ahp 0 rfl rfl (by kernel_rfl) (by kernel_rfl) (zf rfl) ?_
  refine ahp 1 rfl rfl (by kernel_rfl) (by kernel_rfl) ((by first | exact zx rfl | exact zp rfl)) ?_
  refine ahp 2 rfl rfl (by kernel_rfl) (by kernel_rfl) (ze zbu rfl zP (by decide) rfl) ?_
  refine ahl 3 rfl rfl (by kernel_rfl) (by kernel_rfl) (by simp) rfl (fun M hM => by subst hM; exact zJ (i := 3 * k0 + 1) zP rfl (zbB hk0) (.inl ⟨rfl, rfl⟩) ⟨rfl, rfl⟩) ?_
  refine ahp 4 rfl rfl (by kernel_rfl) (by kernel_rfl) ((by first | exact zb z8 rfl ty9 (by decide) rfl | exact ze z8 rfl ty9 (by decide) rfl)) ?_
  refine ahp 5 rfl rfl (by kernel_rfl) (by kernel_rfl) (zg ty9 rfl rfl rfl) ?_
  refine ahp 6 rfl rfl (by kernel_rfl) (by kernel_rfl) (zo ziZ rfl (WeakL.refl _) (zaL (l := zbz d0.p.1.Gives) (s := a.Team) (by have := zjl d0.p.1.Gives; omega))) ?_
  refine ahp 7 rfl rfl (by kernel_rfl) (by kernel_rfl) (zar rfl) ?_
  refine ahz (by kernel_rfl) ?_
  refine zq ?_
  refine za ?_
  refine dq ((by first | exact zb z8 rfl ty3 (by decide) rfl | exact ze z8 rfl ty3 (by decide) rfl)) ?_
  refine dq (zg ty3 rfl rfl rfl) ?_
  refine dq (zau rfl rfl) ?_
  refine dmv rfl ?_
  refine dg rfl rfl (fun hc => ⟨_, OpenTo.refl _, zf rfl⟩) ?_
  refine dq (zA rfl (.inr ⟨_, rfl, fun h => by simp_all⟩) (.inl rfl)) ?_
  refine dmv rfl ?_
  refine dg rfl rfl (fun hc => ⟨_, OpenTo.refl _, zf rfl⟩) ?_
  refine dg rfl rfl (fun hc => ⟨_, OpenTo.upd (t := 41) rfl (by first | exact hc | simp_all) (OpenTo.refl _), (by first | exact zx rfl | exact zp rfl)⟩) ?_
  refine dg rfl rfl (fun hc => ⟨_, OpenTo.upd (t := 42) rfl (by first | exact hc | simp_all) (OpenTo.refl _), ze zbu rfl ty3 (by decide) rfl⟩) ?_
  refine dgl rfl rfl (fun hc => ⟨_, OpenTo.upd (t := 43) rfl (by first | exact hc | simp_all) (OpenTo.refl _), zJ (i := 3 * k0 + 1) ty3 rfl (zbB hk0) (.inl ⟨rfl, rfl⟩) ⟨rfl, rfl⟩⟩) ?_
  refine dg rfl rfl (fun hc => ⟨_, OpenTo.upd (t := 44) rfl (by first | exact hc | simp_all) (OpenTo.refl _), zau rfl rfl⟩) ?_
  refine dq (zA rfl (.inr ⟨_, rfl, fun h => by simp_all⟩) (.inl rfl)) ?_
  refine das rfl ?_
  refine dn ?_
  refine zi rfl (fun h3 => ?_) (fun h4 => ?_)
  ·try simp at h3
   refine zaF (fun M => M = (FL bf m o fn E ++ S)) [3] mixed ?_
   refine ahp 0 rfl rfl (by kernel_rfl) (by kernel_rfl) (zf rfl) ?_
   refine ahp 1 rfl rfl (by kernel_rfl) (by kernel_rfl) ((by first | exact zx rfl | exact zp rfl)) ?_
   refine ahp 2 rfl rfl (by kernel_rfl) (by kernel_rfl) (ze zbu rfl zcE (by decide) rfl) ?_
   refine ahl 3 rfl rfl (by kernel_rfl) (by kernel_rfl) (by simp) rfl (fun M hM => by subst hM; exact zJ (i := 3 * k0 + 1) zcE rfl (zbB hk0) (.inl ⟨rfl, rfl⟩) ⟨rfl, rfl⟩) ?_
   refine ahp 4 rfl rfl (by kernel_rfl) (by kernel_rfl) ((by first | exact zb z8 rfl ty9 (by decide) rfl | exact ze z8 rfl ty9 (by decide) rfl)) ?_
   refine ahp 5 rfl rfl (by kernel_rfl) (by kernel_rfl) (zg ty9 rfl rfl rfl) ?_
   refine ahe 6 rfl (by kernel_rfl) ?_
   refine zab (zdG (i := 3 * k0 + 2) zcE ty9 rfl rfl rfl (zsc hk0) ?_)
   refine ⟨fun _ => .inr (by simp [zaO, Region.binds]), ?_⟩
   refine ahz (by kernel_rfl) ?_
   refine zL (Ghost.of_eq (zsF hk0)) ?_
   have hk1 : (E.set k0 (dY d0 (zaR a.Team d0.p.2.yes)))[k0]? = some (dY d0 (zaR a.Team d0.p.2.yes)) := zmd hk0
   change HWp _ _ _ _ (FL bf m o fn (E.set k0 (dY d0 (zaR a.Team d0.p.2.yes))) ++ S) _
   refine zaF (fun M => M = (FL bf m o fn (E.set k0 (dY d0 (zaR a.Team d0.p.2.yes))) ++ S)) [3, 4, 8] mixed ?_
   refine ahp 0 rfl rfl (by kernel_rfl) (by kernel_rfl) (zf rfl) ?_
   refine ahp 1 rfl rfl (by kernel_rfl) (by kernel_rfl) ((by first | exact zx rfl | exact zp rfl)) ?_
   refine ahp 2 rfl rfl (by kernel_rfl) (by kernel_rfl) (ze zbu rfl zcE (by decide) rfl) ?_
   refine ahl 3 rfl rfl (by kernel_rfl) (by kernel_rfl) (by simp) rfl (fun M hM => by subst hM; exact zJ (i := 3 * k0 + 1) zcE rfl (zbB (d := (dY d0 (zaR a.Team d0.p.2.yes))) hk1) (.inl ⟨rfl, rfl⟩) ⟨rfl, rfl⟩) ?_
   refine ahl 4 rfl rfl (by kernel_rfl) (by kernel_rfl) (by simp) rfl (fun M hM => by subst hM; exact zf6 (i := 3 * k0 + 2) zcE rfl (zsc (d := (dY d0 (zaR a.Team d0.p.2.yes))) hk1) ⟨rfl, rfl⟩) ?_
   refine ahp 5 rfl rfl (by kernel_rfl) (by kernel_rfl) (zf rfl) ?_
   refine ahp 6 rfl rfl (by kernel_rfl) (by kernel_rfl) ((by first | exact zx rfl | exact zp rfl)) ?_
   refine ahp 7 rfl rfl (by kernel_rfl) (by kernel_rfl) (ze zbu rfl zP (by decide) rfl) ?_
   refine ahl 8 rfl rfl (by kernel_rfl) (by kernel_rfl) (by simp) rfl (fun M hM => by subst hM; exact zJ (i := 3 * k0 + 1) zP rfl (zbB (d := (dY d0 (zaR a.Team d0.p.2.yes))) hk1) (.inl ⟨rfl, rfl⟩) ⟨rfl, rfl⟩) ?_
   refine ahp 9 rfl rfl (by kernel_rfl) (by kernel_rfl) (zK zP rfl) ?_
   refine ahp 10 rfl rfl (by kernel_rfl) (by kernel_rfl) (zau rfl rfl) ?_
   refine ahz (by kernel_rfl) ?_
   refine zi rfl (fun h5 => ?_) (fun h6 => ?_)
   ·try simp at h5
    refine zC ?_
    refine dmv rfl ?_
    refine dq ((by first | exact zb z8 rfl ty3 (by decide) rfl | exact ze z8 rfl ty3 (by decide) rfl)) ?_
    refine dq (zg ty3 rfl rfl rfl) ?_
    refine de rfl (zdm (i := 3 * k0 + 1) (m' := .cells (dY d0 (zaR a.Team d0.p.2.yes)).b (cD { (dY d0 (zaR a.Team d0.p.2.yes)) with p := zbo (dY d0 (zaR a.Team d0.p.2.yes)).p 2 a.At })) zf2 rfl (WeakL.refl _) (zbB hk1) (zbv (d := (dY d0 (zaR a.Team d0.p.2.yes)))) ?_)
    refine dn ?_
    refine zy ?_
    first
    | exact zbb rfl ⟨rfl, ze6 hk0 (by simpa using h1)⟩
    | exact zai rfl ⟨rfl, (zbA hk1).trans (by rw [List.set_set, (zcO h0 (by simp_all)).1 (by have q := h5; rw [za1] at q; exact q)])⟩
    | exact zai rfl ⟨rfl, by rw [(zcO h0 (by simp_all)).2 (by have q := h6; rw [za1] at q; exact q)]⟩
    | exact zai rfl ⟨rfl, (zbA hk0).trans (by rw [zgV h0 (by first | (simp; done) | (rintro ⟨q1, q2, q3⟩; simp_all; done) | (rintro ⟨q1, q2⟩; simp_all; done) | simp_all) (by simp_all)])⟩
    | exact zai rfl ⟨rfl, (zbA hk0).trans (by rw [zeY h0 (by first | (simp; done) | (rintro ⟨q1, q2, q3⟩; simp_all; done) | (rintro ⟨q1, q2⟩; simp_all; done) | simp_all) (by first | (simp; done) | (rintro ⟨q1, q2, q3⟩; simp_all; done) | (rintro ⟨q1, q2⟩; simp_all; done) | simp_all) (by simp_all)])⟩
    | exact zai rfl ⟨rfl, (zbA hk2).trans (by rw [List.set_set, (zce h0 (by first | (simp; done) | (rintro ⟨q1, q2, q3⟩; simp_all; done) | (rintro ⟨q1, q2⟩; simp_all; done) | simp_all) (by first | (simp; done) | (rintro ⟨q1, q2, q3⟩; simp_all; done) | (rintro ⟨q1, q2⟩; simp_all; done) | simp_all) (by first | (simp; done) | (rintro ⟨q1, q2, q3⟩; simp_all; done) | (rintro ⟨q1, q2⟩; simp_all; done) | simp_all) (by simp_all)).1 (by have q := h13; rw [za1] at q; exact q)])⟩
    | exact zai rfl ⟨rfl, by rw [(zce h0 (by first | (simp; done) | (rintro ⟨q1, q2, q3⟩; simp_all; done) | (rintro ⟨q1, q2⟩; simp_all; done) | simp_all) (by first | (simp; done) | (rintro ⟨q1, q2, q3⟩; simp_all; done) | (rintro ⟨q1, q2⟩; simp_all; done) | simp_all) (by first | (simp; done) | (rintro ⟨q1, q2, q3⟩; simp_all; done) | (rintro ⟨q1, q2⟩; simp_all; done) | simp_all) (by simp_all)).2 (by have q := h14; rw [za1] at q; exact q)]⟩
    | exact zai rfl ⟨rfl, ze0 hk0 (by first | (simp; done) | (rintro ⟨q1, q2, q3⟩; simp_all; done) | (rintro ⟨q1, q2⟩; simp_all; done) | simp_all) (by first | (simp; done) | (rintro ⟨q1, q2, q3⟩; simp_all; done) | (rintro ⟨q1, q2⟩; simp_all; done) | simp_all) (by first | (simp; done) | (rintro ⟨q1, q2, q3⟩; simp_all; done) | (rintro ⟨q1, q2⟩; simp_all; done) | simp_all) (by first | (simp; done) | (rintro ⟨q1, q2, q3⟩; simp_all; done) | (rintro ⟨q1, q2⟩; simp_all; done) | simp_all)⟩
   ·try simp at h6
    refine zm ?_
    refine zy ?_
    first
    | exact zbb rfl ⟨rfl, ze6 hk0 (by simpa using h1)⟩
    | exact zai rfl ⟨rfl, (zbA hk1).trans (by rw [List.set_set, (zcO h0 (by simp_all)).1 (by have q := h5; rw [za1] at q; exact q)])⟩
    | exact zai rfl ⟨rfl, by rw [(zcO h0 (by simp_all)).2 (by have q := h6; rw [za1] at q; exact q)]⟩
    | exact zai rfl ⟨rfl, (zbA hk0).trans (by rw [zgV h0 (by first | (simp; done) | (rintro ⟨q1, q2, q3⟩; simp_all; done) | (rintro ⟨q1, q2⟩; simp_all; done) | simp_all) (by simp_all)])⟩
    | exact zai rfl ⟨rfl, (zbA hk0).trans (by rw [zeY h0 (by first | (simp; done) | (rintro ⟨q1, q2, q3⟩; simp_all; done) | (rintro ⟨q1, q2⟩; simp_all; done) | simp_all) (by first | (simp; done) | (rintro ⟨q1, q2, q3⟩; simp_all; done) | (rintro ⟨q1, q2⟩; simp_all; done) | simp_all) (by simp_all)])⟩
    | exact zai rfl ⟨rfl, (zbA hk2).trans (by rw [List.set_set, (zce h0 (by first | (simp; done) | (rintro ⟨q1, q2, q3⟩; simp_all; done) | (rintro ⟨q1, q2⟩; simp_all; done) | simp_all) (by first | (simp; done) | (rintro ⟨q1, q2, q3⟩; simp_all; done) | (rintro ⟨q1, q2⟩; simp_all; done) | simp_all) (by first | (simp; done) | (rintro ⟨q1, q2, q3⟩; simp_all; done) | (rintro ⟨q1, q2⟩; simp_all; done) | simp_all) (by simp_all)).1 (by have q := h13; rw [za1] at q; exact q)])⟩
    | exact zai rfl ⟨rfl, by rw [(zce h0 (by first | (simp; done) | (rintro ⟨q1, q2, q3⟩; simp_all; done) | (rintro ⟨q1, q2⟩; simp_all; done) | simp_all) (by first | (simp; done) | (rintro ⟨q1, q2, q3⟩; simp_all; done) | (rintro ⟨q1, q2⟩; simp_all; done) | simp_all) (by first | (simp; done) | (rintro ⟨q1, q2, q3⟩; simp_all; done) | (rintro ⟨q1, q2⟩; simp_all; done) | simp_all) (by simp_all)).2 (by have q := h14; rw [za1] at q; exact q)]⟩
    | exact zai rfl ⟨rfl, ze0 hk0 (by first | (simp; done) | (rintro ⟨q1, q2, q3⟩; simp_all; done) | (rintro ⟨q1, q2⟩; simp_all; done) | simp_all) (by first | (simp; done) | (rintro ⟨q1, q2, q3⟩; simp_all; done) | (rintro ⟨q1, q2⟩; simp_all; done) | simp_all) (by first | (simp; done) | (rintro ⟨q1, q2, q3⟩; simp_all; done) | (rintro ⟨q1, q2⟩; simp_all; done) | simp_all) (by first | (simp; done) | (rintro ⟨q1, q2, q3⟩; simp_all; done) | (rintro ⟨q1, q2⟩; simp_all; done) | simp_all)⟩
  ·try simp at h4
   refine za ?_
   refine dq ((by first | exact zb z8 rfl ty3 (by decide) rfl | exact ze z8 rfl ty3 (by decide) rfl)) ?_
   refine dq (zg ty3 rfl rfl rfl) ?_
   refine dq (zau rfl rfl) ?_
   refine dmv rfl ?_
   refine dg rfl rfl (fun hc => ⟨_, OpenTo.refl _, zf rfl⟩) ?_
   refine dq (zA rfl (.inr ⟨_, rfl, fun h => by simp_all⟩) (.inl rfl)) ?_
   refine das rfl ?_
   refine dn ?_
   refine zi rfl (fun h7 => ?_) (fun h8 => ?_)
   ·try simp at h7
    refine zC ?_
    refine dmv rfl ?_
    refine dq ((by first | exact zb z8 rfl ty3 (by decide) rfl | exact ze z8 rfl ty3 (by decide) rfl)) ?_
    refine dq (zg ty3 rfl rfl rfl) ?_
    refine de rfl (zdm (i := 3 * k0 + 1) (m' := .cells d0.b (cD { d0 with p := zbo d0.p 4 a.At })) zf2 rfl (WeakL.refl _) (zbB hk0) (zbv (d := d0)) ?_)
    refine dn ?_
    refine zy ?_
    first
    | exact zbb rfl ⟨rfl, ze6 hk0 (by simpa using h1)⟩
    | exact zai rfl ⟨rfl, (zbA hk1).trans (by rw [List.set_set, (zcO h0 (by simp_all)).1 (by have q := h5; rw [za1] at q; exact q)])⟩
    | exact zai rfl ⟨rfl, by rw [(zcO h0 (by simp_all)).2 (by have q := h6; rw [za1] at q; exact q)]⟩
    | exact zai rfl ⟨rfl, (zbA hk0).trans (by rw [zgV h0 (by first | (simp; done) | (rintro ⟨q1, q2, q3⟩; simp_all; done) | (rintro ⟨q1, q2⟩; simp_all; done) | simp_all) (by simp_all)])⟩
    | exact zai rfl ⟨rfl, (zbA hk0).trans (by rw [zeY h0 (by first | (simp; done) | (rintro ⟨q1, q2, q3⟩; simp_all; done) | (rintro ⟨q1, q2⟩; simp_all; done) | simp_all) (by first | (simp; done) | (rintro ⟨q1, q2, q3⟩; simp_all; done) | (rintro ⟨q1, q2⟩; simp_all; done) | simp_all) (by simp_all)])⟩
    | exact zai rfl ⟨rfl, (zbA hk2).trans (by rw [List.set_set, (zce h0 (by first | (simp; done) | (rintro ⟨q1, q2, q3⟩; simp_all; done) | (rintro ⟨q1, q2⟩; simp_all; done) | simp_all) (by first | (simp; done) | (rintro ⟨q1, q2, q3⟩; simp_all; done) | (rintro ⟨q1, q2⟩; simp_all; done) | simp_all) (by first | (simp; done) | (rintro ⟨q1, q2, q3⟩; simp_all; done) | (rintro ⟨q1, q2⟩; simp_all; done) | simp_all) (by simp_all)).1 (by have q := h13; rw [za1] at q; exact q)])⟩
    | exact zai rfl ⟨rfl, by rw [(zce h0 (by first | (simp; done) | (rintro ⟨q1, q2, q3⟩; simp_all; done) | (rintro ⟨q1, q2⟩; simp_all; done) | simp_all) (by first | (simp; done) | (rintro ⟨q1, q2, q3⟩; simp_all; done) | (rintro ⟨q1, q2⟩; simp_all; done) | simp_all) (by first | (simp; done) | (rintro ⟨q1, q2, q3⟩; simp_all; done) | (rintro ⟨q1, q2⟩; simp_all; done) | simp_all) (by simp_all)).2 (by have q := h14; rw [za1] at q; exact q)]⟩
    | exact zai rfl ⟨rfl, ze0 hk0 (by first | (simp; done) | (rintro ⟨q1, q2, q3⟩; simp_all; done) | (rintro ⟨q1, q2⟩; simp_all; done) | simp_all) (by first | (simp; done) | (rintro ⟨q1, q2, q3⟩; simp_all; done) | (rintro ⟨q1, q2⟩; simp_all; done) | simp_all) (by first | (simp; done) | (rintro ⟨q1, q2, q3⟩; simp_all; done) | (rintro ⟨q1, q2⟩; simp_all; done) | simp_all) (by first | (simp; done) | (rintro ⟨q1, q2, q3⟩; simp_all; done) | (rintro ⟨q1, q2⟩; simp_all; done) | simp_all)⟩
   ·try simp at h8
    refine zaF (fun M => M = (FL bf m o fn E ++ S)) [10] mixed ?_
    refine ahp 0 rfl rfl (by kernel_rfl) (by kernel_rfl) ((by first | exact zb z8 rfl ty3 (by decide) rfl | exact ze z8 rfl ty3 (by decide) rfl)) ?_
    refine ahp 1 rfl rfl (by kernel_rfl) (by kernel_rfl) (zg ty3 rfl rfl rfl) ?_
    refine ahp 2 rfl rfl (by kernel_rfl) (by kernel_rfl) (zau rfl rfl) ?_
    refine ahp 3 rfl rfl (by kernel_rfl) (by kernel_rfl) (zf rfl) ?_
    refine ahg 4 rfl rfl (by kernel_rfl) (by kernel_rfl) rfl (fun hc => ⟨_, OpenTo.refl _, (by first | exact zb z8 rfl ty9 (by decide) rfl | exact ze z8 rfl ty9 (by decide) rfl)⟩) ?_
    refine ahg 5 rfl rfl (by kernel_rfl) (by kernel_rfl) rfl (fun hc => ⟨_, OpenTo.upd (t := 84) rfl (by first | exact hc | simp_all) (OpenTo.refl _), zg ty9 rfl rfl rfl⟩) ?_
    refine ahg 6 rfl rfl (by kernel_rfl) (by kernel_rfl) rfl (fun hc => ⟨_, OpenTo.refl _, zf rfl⟩) ?_
    refine ahg 7 rfl rfl (by kernel_rfl) (by kernel_rfl) rfl (fun hc => ⟨_, OpenTo.upd (t := 86) rfl (by first | exact hc | simp_all) (OpenTo.refl _), (by first | exact zx rfl | exact zp rfl)⟩) ?_
    refine ahg 8 rfl rfl (by kernel_rfl) (by kernel_rfl) rfl (fun hc => ⟨_, OpenTo.upd (t := 87) rfl (by first | exact hc | simp_all) (OpenTo.refl _), ze zbu rfl zam (by decide) rfl⟩) ?_
    refine ahg 9 rfl rfl (by kernel_rfl) (by kernel_rfl) rfl (fun hc => ⟨_, OpenTo.upd (t := 88) rfl (by first | exact hc | simp_all) (OpenTo.refl _), ze zam rfl ty9 (by decide) rfl⟩) ?_
    refine zhj 10 rfl rfl (by kernel_rfl) (by kernel_rfl) (by simp) rfl rfl (fun hc => ⟨_, OpenTo.upd (t := 89) rfl (by first | exact hc | simp_all) (OpenTo.refl _), fun M hM => by
     subst hM; exact zJ (i := 3 * k0 + 1) ty9 rfl (zbB hk0) (.inl ⟨rfl, rfl⟩) ⟨rfl, rfl⟩
     ⟩) ?_
    refine ahg 11 rfl rfl (by kernel_rfl) (by kernel_rfl) rfl (fun hc => ⟨_, OpenTo.upd (t := 90) rfl (by first | exact hc | simp_all) (OpenTo.upd (t := 85) rfl (by first | exact hc | simp_all) (OpenTo.refl _)), zbt rfl rfl⟩) ?_
    refine ahp 12 rfl rfl (by kernel_rfl) (by kernel_rfl) (zA rfl (.inr ⟨_, rfl, fun h => by simp_all⟩) (.inl rfl)) ?_
    refine ahp 13 rfl rfl (by kernel_rfl) (by kernel_rfl) (zar rfl) ?_
    refine ahz (by kernel_rfl) ?_
    refine zi rfl (fun h9 => ?_) (fun h10 => ?_)
    ·try simp at h9
     refine zC ?_
     refine dmv rfl ?_
     refine dq ((by first | exact zb z8 rfl ty3 (by decide) rfl | exact ze z8 rfl ty3 (by decide) rfl)) ?_
     refine dq (zg ty3 rfl rfl rfl) ?_
     refine de rfl (zdm (i := 3 * k0 + 1) (m' := .cells d0.b (cD { d0 with p := zbo d0.p 5 a.At })) zf2 rfl (WeakL.refl _) (zbB hk0) (zbv (d := d0)) ?_)
     refine dn ?_
     refine zy ?_
     first
     | exact zbb rfl ⟨rfl, ze6 hk0 (by simpa using h1)⟩
     | exact zai rfl ⟨rfl, (zbA hk1).trans (by rw [List.set_set, (zcO h0 (by simp_all)).1 (by have q := h5; rw [za1] at q; exact q)])⟩
     | exact zai rfl ⟨rfl, by rw [(zcO h0 (by simp_all)).2 (by have q := h6; rw [za1] at q; exact q)]⟩
     | exact zai rfl ⟨rfl, (zbA hk0).trans (by rw [zgV h0 (by first | (simp; done) | (rintro ⟨q1, q2, q3⟩; simp_all; done) | (rintro ⟨q1, q2⟩; simp_all; done) | simp_all) (by simp_all)])⟩
     | exact zai rfl ⟨rfl, (zbA hk0).trans (by rw [zeY h0 (by first | (simp; done) | (rintro ⟨q1, q2, q3⟩; simp_all; done) | (rintro ⟨q1, q2⟩; simp_all; done) | simp_all) (by first | (simp; done) | (rintro ⟨q1, q2, q3⟩; simp_all; done) | (rintro ⟨q1, q2⟩; simp_all; done) | simp_all) (by simp_all)])⟩
     | exact zai rfl ⟨rfl, (zbA hk2).trans (by rw [List.set_set, (zce h0 (by first | (simp; done) | (rintro ⟨q1, q2, q3⟩; simp_all; done) | (rintro ⟨q1, q2⟩; simp_all; done) | simp_all) (by first | (simp; done) | (rintro ⟨q1, q2, q3⟩; simp_all; done) | (rintro ⟨q1, q2⟩; simp_all; done) | simp_all) (by first | (simp; done) | (rintro ⟨q1, q2, q3⟩; simp_all; done) | (rintro ⟨q1, q2⟩; simp_all; done) | simp_all) (by simp_all)).1 (by have q := h13; rw [za1] at q; exact q)])⟩
     | exact zai rfl ⟨rfl, by rw [(zce h0 (by first | (simp; done) | (rintro ⟨q1, q2, q3⟩; simp_all; done) | (rintro ⟨q1, q2⟩; simp_all; done) | simp_all) (by first | (simp; done) | (rintro ⟨q1, q2, q3⟩; simp_all; done) | (rintro ⟨q1, q2⟩; simp_all; done) | simp_all) (by first | (simp; done) | (rintro ⟨q1, q2, q3⟩; simp_all; done) | (rintro ⟨q1, q2⟩; simp_all; done) | simp_all) (by simp_all)).2 (by have q := h14; rw [za1] at q; exact q)]⟩
     | exact zai rfl ⟨rfl, ze0 hk0 (by first | (simp; done) | (rintro ⟨q1, q2, q3⟩; simp_all; done) | (rintro ⟨q1, q2⟩; simp_all; done) | simp_all) (by first | (simp; done) | (rintro ⟨q1, q2, q3⟩; simp_all; done) | (rintro ⟨q1, q2⟩; simp_all; done) | simp_all) (by first | (simp; done) | (rintro ⟨q1, q2, q3⟩; simp_all; done) | (rintro ⟨q1, q2⟩; simp_all; done) | simp_all) (by first | (simp; done) | (rintro ⟨q1, q2, q3⟩; simp_all; done) | (rintro ⟨q1, q2⟩; simp_all; done) | simp_all)⟩
    ·try simp at h10
     refine za ?_
     refine dq ((by first | exact zb z8 rfl ty3 (by decide) rfl | exact ze z8 rfl ty3 (by decide) rfl)) ?_
     refine dq (zg ty3 rfl rfl rfl) ?_
     refine dq (zau rfl rfl) ?_
     refine dmv rfl ?_
     refine dg rfl rfl (fun hc => ⟨_, OpenTo.refl _, zf rfl⟩) ?_
     refine dg rfl rfl (fun hc => ⟨_, OpenTo.upd (t := 102) rfl (by first | exact hc | simp_all) (OpenTo.refl _), zac rfl⟩) ?_
     refine dq (zA rfl (.inr ⟨_, rfl, fun h => by simp_all⟩) (.inl rfl)) ?_
     refine dmv rfl ?_
     refine dg rfl rfl (fun hc => ⟨_, OpenTo.refl _, zf rfl⟩) ?_
     refine dg rfl rfl (fun hc => ⟨_, OpenTo.upd (t := 106) rfl (by first | exact hc | simp_all) (OpenTo.refl _), (by first | exact zx rfl | exact zp rfl)⟩) ?_
     refine dg rfl rfl (fun hc => ⟨_, OpenTo.upd (t := 107) rfl (by first | exact hc | simp_all) (OpenTo.refl _), ze zbu rfl ty3 (by decide) rfl⟩) ?_
     refine dgl rfl rfl (fun hc => ⟨_, OpenTo.upd (t := 108) rfl (by first | exact hc | simp_all) (OpenTo.refl _), zJ (i := 3 * k0 + 1) ty3 rfl (zbB hk0) (.inl ⟨rfl, rfl⟩) ⟨rfl, rfl⟩⟩) ?_
     refine dg rfl rfl (fun hc => ⟨_, OpenTo.upd (t := 109) rfl (by first | exact hc | simp_all) (OpenTo.refl _), zau rfl rfl⟩) ?_
     refine dq (zA rfl (.inr ⟨_, rfl, fun h => by simp_all⟩) (.inl rfl)) ?_
     refine das rfl ?_
     refine dn ?_
     refine zi rfl (fun h11 => ?_) (fun h12 => ?_)
     ·try simp at h11
      refine zaF (fun M => M = (FL bf m o fn E ++ S)) [3] mixed ?_
      refine ahp 0 rfl rfl (by kernel_rfl) (by kernel_rfl) (zf rfl) ?_
      refine ahp 1 rfl rfl (by kernel_rfl) (by kernel_rfl) ((by first | exact zx rfl | exact zp rfl)) ?_
      refine ahp 2 rfl rfl (by kernel_rfl) (by kernel_rfl) (ze zbu rfl zcE (by decide) rfl) ?_
      refine ahl 3 rfl rfl (by kernel_rfl) (by kernel_rfl) (by simp) rfl (fun M hM => by subst hM; exact zJ (i := 3 * k0 + 1) zcE rfl (zbB hk0) (.inl ⟨rfl, rfl⟩) ⟨rfl, rfl⟩) ?_
      refine ahp 4 rfl rfl (by kernel_rfl) (by kernel_rfl) ((by first | exact zb z8 rfl ty9 (by decide) rfl | exact ze z8 rfl ty9 (by decide) rfl)) ?_
      refine ahp 5 rfl rfl (by kernel_rfl) (by kernel_rfl) (zg ty9 rfl rfl rfl) ?_
      refine ahe 6 rfl (by kernel_rfl) ?_
      refine zab (zdG (i := 3 * k0 + 3) zcE ty9 rfl rfl rfl (FL_v hk0) ?_)
      refine ⟨fun _ => .inr (by simp [zaO, Region.binds]), ?_⟩
      refine ahz (by kernel_rfl) ?_
      refine zL (Ghost.of_eq (zu2 hk0)) ?_
      have hk2 : (E.set k0 (dV d0 (zaR a.Team d0.p.2.veto)))[k0]? = some (dV d0 (zaR a.Team d0.p.2.veto)) := zmd hk0
      change HWp _ _ _ _ (FL bf m o fn (E.set k0 (dV d0 (zaR a.Team d0.p.2.veto))) ++ S) _
      refine zaF (fun M => M = (FL bf m o fn (E.set k0 (dV d0 (zaR a.Team d0.p.2.veto))) ++ S)) [3, 4, 8] mixed ?_
      refine ahp 0 rfl rfl (by kernel_rfl) (by kernel_rfl) (zf rfl) ?_
      refine ahp 1 rfl rfl (by kernel_rfl) (by kernel_rfl) ((by first | exact zx rfl | exact zp rfl)) ?_
      refine ahp 2 rfl rfl (by kernel_rfl) (by kernel_rfl) (ze zbu rfl zcE (by decide) rfl) ?_
      refine ahl 3 rfl rfl (by kernel_rfl) (by kernel_rfl) (by simp) rfl (fun M hM => by subst hM; exact zJ (i := 3 * k0 + 1) zcE rfl (zbB (d := (dV d0 (zaR a.Team d0.p.2.veto))) hk2) (.inl ⟨rfl, rfl⟩) ⟨rfl, rfl⟩) ?_
      refine ahl 4 rfl rfl (by kernel_rfl) (by kernel_rfl) (by simp) rfl (fun M hM => by subst hM; exact zf6 (i := 3 * k0 + 3) zcE rfl (FL_v (d := (dV d0 (zaR a.Team d0.p.2.veto))) hk2) ⟨rfl, rfl⟩) ?_
      refine ahp 5 rfl rfl (by kernel_rfl) (by kernel_rfl) (zf rfl) ?_
      refine ahp 6 rfl rfl (by kernel_rfl) (by kernel_rfl) ((by first | exact zx rfl | exact zp rfl)) ?_
      refine ahp 7 rfl rfl (by kernel_rfl) (by kernel_rfl) (ze zcs rfl zd0 (by decide) rfl) ?_
      refine ahl 8 rfl rfl (by kernel_rfl) (by kernel_rfl) (by simp) rfl (fun M hM => by subst hM; exact zJ (i := 0) zd0 rfl rfl (.inl ⟨rfl, rfl⟩) ⟨rfl, rfl⟩) ?_
      refine ahp 9 rfl rfl (by kernel_rfl) (by kernel_rfl) ((by first | exact zx rfl | exact zp rfl)) ?_
      refine ahp 10 rfl rfl (by kernel_rfl) (by kernel_rfl) ((by first | exact zb zT rfl ty3 (by decide) rfl | exact ze zT rfl ty3 (by decide) rfl)) ?_
      refine ahp 11 rfl rfl (by kernel_rfl) (by kernel_rfl) (zg ty3 rfl rfl rfl) ?_
      refine ahp 12 rfl rfl (by kernel_rfl) (by kernel_rfl) (zau rfl rfl) ?_
      refine ahz (by kernel_rfl) ?_
      refine zi rfl (fun h13 => ?_) (fun h14 => ?_)
      ·try simp at h13
       refine zC ?_
       refine dmv rfl ?_
       refine dq ((by first | exact zb z8 rfl ty3 (by decide) rfl | exact ze z8 rfl ty3 (by decide) rfl)) ?_
       refine dq (zg ty3 rfl rfl rfl) ?_
       refine de rfl (zdm (i := 3 * k0 + 1) (m' := .cells (dV d0 (zaR a.Team d0.p.2.veto)).b (cD { (dV d0 (zaR a.Team d0.p.2.veto)) with p := zbo (dV d0 (zaR a.Team d0.p.2.veto)).p 6 a.At })) zf2 rfl (WeakL.refl _) (zbB hk2) (zbv (d := (dV d0 (zaR a.Team d0.p.2.veto)))) ?_)
       refine dn ?_
       refine zy ?_
       first
       | exact zbb rfl ⟨rfl, ze6 hk0 (by simpa using h1)⟩
       | exact zai rfl ⟨rfl, (zbA hk1).trans (by rw [List.set_set, (zcO h0 (by simp_all)).1 (by have q := h5; rw [za1] at q; exact q)])⟩
       | exact zai rfl ⟨rfl, by rw [(zcO h0 (by simp_all)).2 (by have q := h6; rw [za1] at q; exact q)]⟩
       | exact zai rfl ⟨rfl, (zbA hk0).trans (by rw [zgV h0 (by first | (simp; done) | (rintro ⟨q1, q2, q3⟩; simp_all; done) | (rintro ⟨q1, q2⟩; simp_all; done) | simp_all) (by simp_all)])⟩
       | exact zai rfl ⟨rfl, (zbA hk0).trans (by rw [zeY h0 (by first | (simp; done) | (rintro ⟨q1, q2, q3⟩; simp_all; done) | (rintro ⟨q1, q2⟩; simp_all; done) | simp_all) (by first | (simp; done) | (rintro ⟨q1, q2, q3⟩; simp_all; done) | (rintro ⟨q1, q2⟩; simp_all; done) | simp_all) (by simp_all)])⟩
       | exact zai rfl ⟨rfl, (zbA hk2).trans (by rw [List.set_set, (zce h0 (by first | (simp; done) | (rintro ⟨q1, q2, q3⟩; simp_all; done) | (rintro ⟨q1, q2⟩; simp_all; done) | simp_all) (by first | (simp; done) | (rintro ⟨q1, q2, q3⟩; simp_all; done) | (rintro ⟨q1, q2⟩; simp_all; done) | simp_all) (by first | (simp; done) | (rintro ⟨q1, q2, q3⟩; simp_all; done) | (rintro ⟨q1, q2⟩; simp_all; done) | simp_all) (by simp_all)).1 (by have q := h13; rw [za1] at q; exact q)])⟩
       | exact zai rfl ⟨rfl, by rw [(zce h0 (by first | (simp; done) | (rintro ⟨q1, q2, q3⟩; simp_all; done) | (rintro ⟨q1, q2⟩; simp_all; done) | simp_all) (by first | (simp; done) | (rintro ⟨q1, q2, q3⟩; simp_all; done) | (rintro ⟨q1, q2⟩; simp_all; done) | simp_all) (by first | (simp; done) | (rintro ⟨q1, q2, q3⟩; simp_all; done) | (rintro ⟨q1, q2⟩; simp_all; done) | simp_all) (by simp_all)).2 (by have q := h14; rw [za1] at q; exact q)]⟩
       | exact zai rfl ⟨rfl, ze0 hk0 (by first | (simp; done) | (rintro ⟨q1, q2, q3⟩; simp_all; done) | (rintro ⟨q1, q2⟩; simp_all; done) | simp_all) (by first | (simp; done) | (rintro ⟨q1, q2, q3⟩; simp_all; done) | (rintro ⟨q1, q2⟩; simp_all; done) | simp_all) (by first | (simp; done) | (rintro ⟨q1, q2, q3⟩; simp_all; done) | (rintro ⟨q1, q2⟩; simp_all; done) | simp_all) (by first | (simp; done) | (rintro ⟨q1, q2, q3⟩; simp_all; done) | (rintro ⟨q1, q2⟩; simp_all; done) | simp_all)⟩
      ·try simp at h14
       refine zm ?_
       refine zy ?_
       first
       | exact zbb rfl ⟨rfl, ze6 hk0 (by simpa using h1)⟩
       | exact zai rfl ⟨rfl, (zbA hk1).trans (by rw [List.set_set, (zcO h0 (by simp_all)).1 (by have q := h5; rw [za1] at q; exact q)])⟩
       | exact zai rfl ⟨rfl, by rw [(zcO h0 (by simp_all)).2 (by have q := h6; rw [za1] at q; exact q)]⟩
       | exact zai rfl ⟨rfl, (zbA hk0).trans (by rw [zgV h0 (by first | (simp; done) | (rintro ⟨q1, q2, q3⟩; simp_all; done) | (rintro ⟨q1, q2⟩; simp_all; done) | simp_all) (by simp_all)])⟩
       | exact zai rfl ⟨rfl, (zbA hk0).trans (by rw [zeY h0 (by first | (simp; done) | (rintro ⟨q1, q2, q3⟩; simp_all; done) | (rintro ⟨q1, q2⟩; simp_all; done) | simp_all) (by first | (simp; done) | (rintro ⟨q1, q2, q3⟩; simp_all; done) | (rintro ⟨q1, q2⟩; simp_all; done) | simp_all) (by simp_all)])⟩
       | exact zai rfl ⟨rfl, (zbA hk2).trans (by rw [List.set_set, (zce h0 (by first | (simp; done) | (rintro ⟨q1, q2, q3⟩; simp_all; done) | (rintro ⟨q1, q2⟩; simp_all; done) | simp_all) (by first | (simp; done) | (rintro ⟨q1, q2, q3⟩; simp_all; done) | (rintro ⟨q1, q2⟩; simp_all; done) | simp_all) (by first | (simp; done) | (rintro ⟨q1, q2, q3⟩; simp_all; done) | (rintro ⟨q1, q2⟩; simp_all; done) | simp_all) (by simp_all)).1 (by have q := h13; rw [za1] at q; exact q)])⟩
       | exact zai rfl ⟨rfl, by rw [(zce h0 (by first | (simp; done) | (rintro ⟨q1, q2, q3⟩; simp_all; done) | (rintro ⟨q1, q2⟩; simp_all; done) | simp_all) (by first | (simp; done) | (rintro ⟨q1, q2, q3⟩; simp_all; done) | (rintro ⟨q1, q2⟩; simp_all; done) | simp_all) (by first | (simp; done) | (rintro ⟨q1, q2, q3⟩; simp_all; done) | (rintro ⟨q1, q2⟩; simp_all; done) | simp_all) (by simp_all)).2 (by have q := h14; rw [za1] at q; exact q)]⟩
       | exact zai rfl ⟨rfl, ze0 hk0 (by first | (simp; done) | (rintro ⟨q1, q2, q3⟩; simp_all; done) | (rintro ⟨q1, q2⟩; simp_all; done) | simp_all) (by first | (simp; done) | (rintro ⟨q1, q2, q3⟩; simp_all; done) | (rintro ⟨q1, q2⟩; simp_all; done) | simp_all) (by first | (simp; done) | (rintro ⟨q1, q2, q3⟩; simp_all; done) | (rintro ⟨q1, q2⟩; simp_all; done) | simp_all) (by first | (simp; done) | (rintro ⟨q1, q2, q3⟩; simp_all; done) | (rintro ⟨q1, q2⟩; simp_all; done) | simp_all)⟩
     ·try simp at h12
      refine zm ?_
      refine zy ?_
      first
      | exact zbb rfl ⟨rfl, ze6 hk0 (by simpa using h1)⟩
      | exact zai rfl ⟨rfl, (zbA hk1).trans (by rw [List.set_set, (zcO h0 (by simp_all)).1 (by have q := h5; rw [za1] at q; exact q)])⟩
      | exact zai rfl ⟨rfl, by rw [(zcO h0 (by simp_all)).2 (by have q := h6; rw [za1] at q; exact q)]⟩
      | exact zai rfl ⟨rfl, (zbA hk0).trans (by rw [zgV h0 (by first | (simp; done) | (rintro ⟨q1, q2, q3⟩; simp_all; done) | (rintro ⟨q1, q2⟩; simp_all; done) | simp_all) (by simp_all)])⟩
      | exact zai rfl ⟨rfl, (zbA hk0).trans (by rw [zeY h0 (by first | (simp; done) | (rintro ⟨q1, q2, q3⟩; simp_all; done) | (rintro ⟨q1, q2⟩; simp_all; done) | simp_all) (by first | (simp; done) | (rintro ⟨q1, q2, q3⟩; simp_all; done) | (rintro ⟨q1, q2⟩; simp_all; done) | simp_all) (by simp_all)])⟩
      | exact zai rfl ⟨rfl, (zbA hk2).trans (by rw [List.set_set, (zce h0 (by first | (simp; done) | (rintro ⟨q1, q2, q3⟩; simp_all; done) | (rintro ⟨q1, q2⟩; simp_all; done) | simp_all) (by first | (simp; done) | (rintro ⟨q1, q2, q3⟩; simp_all; done) | (rintro ⟨q1, q2⟩; simp_all; done) | simp_all) (by first | (simp; done) | (rintro ⟨q1, q2, q3⟩; simp_all; done) | (rintro ⟨q1, q2⟩; simp_all; done) | simp_all) (by simp_all)).1 (by have q := h13; rw [za1] at q; exact q)])⟩
      | exact zai rfl ⟨rfl, by rw [(zce h0 (by first | (simp; done) | (rintro ⟨q1, q2, q3⟩; simp_all; done) | (rintro ⟨q1, q2⟩; simp_all; done) | simp_all) (by first | (simp; done) | (rintro ⟨q1, q2, q3⟩; simp_all; done) | (rintro ⟨q1, q2⟩; simp_all; done) | simp_all) (by first | (simp; done) | (rintro ⟨q1, q2, q3⟩; simp_all; done) | (rintro ⟨q1, q2⟩; simp_all; done) | simp_all) (by simp_all)).2 (by have q := h14; rw [za1] at q; exact q)]⟩
      | exact zai rfl ⟨rfl, ze0 hk0 (by first | (simp; done) | (rintro ⟨q1, q2, q3⟩; simp_all; done) | (rintro ⟨q1, q2⟩; simp_all; done) | simp_all) (by first | (simp; done) | (rintro ⟨q1, q2, q3⟩; simp_all; done) | (rintro ⟨q1, q2⟩; simp_all; done) | simp_all) (by first | (simp; done) | (rintro ⟨q1, q2, q3⟩; simp_all; done) | (rintro ⟨q1, q2⟩; simp_all; done) | simp_all) (by first | (simp; done) | (rintro ⟨q1, q2, q3⟩; simp_all; done) | (rintro ⟨q1, q2⟩; simp_all; done) | simp_all)⟩

/-- (*benchwarmer/trade.floor).answer -/
theorem zqa [Tracks] {bf : Nat} {m : MarketS} {o : List OwnerS} {fn : HVal} {E : List DV} {S : List MObj} {a : ReplyS} (hE : E.length ≤ 1000000) (hno : ∀ z ∈ E, z.p.1.Id ≠ a.Offer) : Con Tryz.prog 90 [pAt bf, zbJ a] (FL bf m o fn E ++ S) (fun x M' => x = .tup [] ∧ M' = (FL bf m o fn E ++ S)) := by
 refine Con.of_body Tryz.func90 rfl Tryz.ntmps90 rfl rfl ?_
 refine za ?_
 refine dq (zas rfl rfl) ?_
 refine dn ?_
 refine za ?_
 refine dmv rfl ?_
 refine dq ((by first | exact zb z8 rfl ty9 (by decide) rfl | exact ze z8 rfl ty9 (by decide) rfl)) ?_
 refine dq (zg ty9 rfl rfl rfl) ?_
 refine de rfl (EOp.mono ?_ (zcI zsO rfl (WeakL.refl _) (zrG hE hno)))
 rintro _ _ ⟨rfl, rfl⟩
 refine das rfl ?_
 refine dn ?_
 refine zj ?_
 refine za ?_
 refine dmv rfl ?_
 refine dq (zlE zda rfl rfl) ?_
 refine dmv rfl ?_
 refine dg rfl rfl (fun hc => ⟨_, OpenTo.refl _, zf rfl⟩) ?_
 refine dg (h := .raw (.pointer none)) rfl rfl (fun hc => absurd hc (by simp)) ?_
 refine dg (h := .raw (.pointer none)) rfl rfl (fun hc => absurd hc (by simp)) ?_
 refine dgl (h := .int .i64 0) rfl rfl (fun hc => absurd hc (by simp)) ?_
 refine dg rfl rfl (fun hc => ⟨_, OpenTo.upd (t := 16) rfl (by first | exact hc | simp_all) (OpenTo.refl _), zaD rfl rfl⟩) ?_
 refine dg rfl rfl (fun hc => ⟨_, OpenTo.upd (t := 17) rfl (by first | exact hc | simp_all) (OpenTo.refl _), zf rfl⟩) ?_
 refine dg rfl rfl (fun hc => ⟨_, OpenTo.refl _, zf rfl⟩) ?_
 refine dg (h := .raw (.pointer none)) rfl rfl (fun hc => absurd hc (by simp)) ?_
 refine dg (h := .raw (.pointer none)) rfl rfl (fun hc => absurd hc (by simp)) ?_
 refine dgl (h := .int .i64 0) rfl rfl (fun hc => absurd hc (by simp)) ?_
 refine dg rfl rfl (fun hc => ⟨_, OpenTo.upd (t := 22) rfl (by first | exact hc | simp_all) (OpenTo.refl _), zaD rfl rfl⟩) ?_
 refine dg rfl rfl (fun hc => ⟨_, OpenTo.upd (t := 18) rfl (by first | exact hc | simp_all) (OpenTo.refl _), zA rfl (.inr ⟨_, rfl, fun h => by simp_all⟩) (.inl rfl)⟩) ?_
 refine dq (zA rfl (.inl rfl) (.inr ⟨_, rfl, fun h => by simp_all⟩)) ?_
 refine dn ?_
 refine zi rfl (fun h1 => ?_) (fun h1 => ?_)
 ·try simp at h1
  refine zl ?_
  exact zbb rfl ⟨rfl, rfl⟩
 ·exfalso
  try simp at h1
  done

/-- An answer is followed. -/
theorem zrp [Tracks] {bf : Nat} {m : MarketS} {o : List OwnerS} {fn : HVal} {E : List DV} {S : List MObj} {a : ReplyS} (hE : E.length ≤ 1000000) (hG : ∀ d ∈ E, d.p.1.Gives.length ≤ 1000) : Con Tryz.prog 90 [pAt bf, zbJ a] (FL bf m o fn E ++ S) (fun x M' => ∃ E', x = .tup [] ∧ M' = FL bf m o fn E' ++ S ∧ E'.map (·.p) = zcS m a (E.map (·.p))) := by
 rcases zsZ E a.Offer with h | ⟨k, d, h1, h2, h3⟩
 ·exact (zqa hE h).mono fun x M' ⟨hx, hM⟩ => ⟨E, hx, hM, (zmy h).symm⟩
 ·exact (zpM hE (hG d (List.mem_of_getElem? h1)) h1 h2 h3).mono fun x M' ⟨hx, hM⟩ => ⟨_, hx, hM, (zpv h1 h2 h3).symm⟩
end
end Go.Proofs.YtpcaaekefgkhjaaGreatDoor
namespace Go.HL
section
section
variable {P : Program} {e : Env} {dst : Option Tmp} {ty : TypeId} {pos : String} {af : Array Edge} {g : Option (Nat × Bool)}
end
section
variable {P : Program} {n : Nat} {e e' : Env} {M M' : List MObj} {Q Q' : Exit → Env → List MObj → Prop} {c c' : Code}
def zrd {α β γ δ : Type} (e : Env) (ks : List Nat) (W : α → β → γ → δ → List (Nat × HVal)) (MM : α → β → γ → δ → List MObj) (Iv : α → β → γ → δ → Prop) (μ : α → β → γ → δ → Nat) (x : α) (y : β) (u : γ) (v : δ) (Q : Exit → Env → List MObj → Prop) : Exit → Env → List MObj → Prop
 | .normal, e', M => ∃ j k l m, Iv j k l m ∧ μ j k l m < μ x y u v ∧ zdi e' (W j k l m) ∧ zey ks e e' ∧ M.Perm (MM j k l m)
 | z, e', M => Q z e' M
theorem zil {α β γ δ : Type} {e0 : Env} {ks : List Nat} {W : α → β → γ → δ → List (Nat × HVal)} {MM : α → β → γ → δ → List MObj} {Iv : α → β → γ → δ → Prop} {μ : α → β → γ → δ → Nat} {x : α} {y : β} {u : γ} {v : δ} {id : Nat} (h : Q (.exit id) e M) :
 zrd e0 ks W MM Iv μ x y u v Q (.exit id) e M := h
theorem zg4 [Tracks] {α β γ δ : Type} (ks : List Nat) (W : α → β → γ → δ → List (Nat × HVal)) (MM : α → β → γ → δ → List MObj) (Iv : α → β → γ → δ → Prop) (μ : α → β → γ → δ → Nat) (x : α) (y : β) (u : γ) (v : δ) (h0 : Iv x y u v) (hW : zdi e (W x y u v)) (hM : M.Perm (MM x y u v))
 (hb : ∀ x y u v, Iv x y u v → HWp P n c (loopE e ks (W x y u v)) (MM x y u v) (zrd e ks W MM Iv μ x y u v Q)) : HWp P n (.loop c) e M Q := by
 refine zak (ι := α × β × γ × δ) ks (fun p => W p.1 p.2.1 p.2.2.1 p.2.2.2) (fun p => MM p.1 p.2.1 p.2.2.1 p.2.2.2) (fun p => Iv p.1 p.2.1 p.2.2.1 p.2.2.2) (fun p => μ p.1 p.2.1 p.2.2.1 p.2.2.2) (x, y, u, v) h0 hW hM fun p hp => zgp (hb p.1 p.2.1 p.2.2.1 p.2.2.2 hp) ?_
 intro z e1 M1 hq
 cases z with
 | normal => obtain ⟨j, k, l, m, h⟩ := hq; exact ⟨(j, k, l, m), h⟩
 | _ => exact hq
end
end
end Go.HL
section
namespace Go.HL
theorem zow [Tracks] {rs : List ResultVar} {e e' : Env} {M M' : List MObj} {h : HVal} {Q : HVal → List MObj → Prop} (hg : Ghost e M e' M') (hr : zfZ e' rs = some h) (hh : Q h M') : zhf rs Q .normal e M :=
 ⟨e', M', hg, h, h, hr, Weak.refl _, hh⟩
structure PInv (m : MarketS) (t : Int) (o : List OwnerS) (E : List DV) (k : Nat) (o1 : List OwnerS) (D : List DV) (l1 : List (DealS × List OwnerS)) : Prop where
 eq : zbq m t o (E.map (·.p)) = ⟨(zbq m t o1 ((E.drop k).map (·.p))).o, (D.take k).map (·.p) ++ (zbq m t o1 ((E.drop k).map (·.p))).ds, l1 ++ (zbq m t o1 ((E.drop k).map (·.p))).log⟩
 rest : D.drop k = E.drop k
 pl : o1.map (·.Player) = o.map (·.Player)
 len : D.length = E.length
 ll : l1.length ≤ k
theorem PInv.start (m : MarketS) (t : Int) (o : List OwnerS) (E : List DV) : PInv m t o E 0 o E [] := ⟨by simp, rfl, rfl, rfl, Nat.le_refl _⟩
theorem zji {m : MarketS} {t : Int} {o : List OwnerS} {p : DD} : (zba m t o p).1.map (·.Player) = o.map (·.Player) := by
 unfold zba
 split
 ·split
  ·rfl
  split
  ·rename_i hb; exact ziF hb
  ·rfl
 split <;> rfl
theorem zr7 (m : MarketS) (t : Int) (o : List OwnerS) (p : DD) : (zba m t o p).2.2.length ≤ 1 := by
 unfold zba
 split
 ·split
  ·simp
  split <;> simp
 split <;> simp
theorem PInv.get {m : MarketS} {t : Int} {o o1 : List OwnerS} {E D : List DV} {k : Nat} {l1 : List (DealS × List OwnerS)} {d : DV} (h : PInv m t o E k o1 D l1) (hd : E[k]? = some d) : D[k]? = some d := by
 have h1 : (D.drop k)[0]? = (E.drop k)[0]? := by rw [h.rest]
 rw [List.getElem?_drop, List.getElem?_drop, Nat.add_zero, hd] at h1
 exact h1
theorem PInv.step {m : MarketS} {t : Int} {o o1 : List OwnerS} {E D : List DV} {k : Nat} {l1 : List (DealS × List OwnerS)} {d : DV} (h : PInv m t o E k o1 D l1) (hd : E[k]? = some d) :
 PInv m t o E (k + 1) (zba m t o1 d.p).1 (D.set k (dP d (zba m t o1 d.p).2.1)) (l1 ++ (zba m t o1 d.p).2.2) := by
 have hD := h.get hd
 have hk := zN hD
 refine ⟨?_, ?_, by rw [zji, h.pl], by simpa using h.len, ?_⟩
 ·rw [h.eq, zU hd]
  show (⟨(zbq m t o1 (d.p :: (E.drop (k + 1)).map (·.p))).o, _ ++ (zbq m t o1 (d.p :: (E.drop (k + 1)).map (·.p))).ds, _ ++ (zbq m t o1 (d.p :: (E.drop (k + 1)).map (·.p))).log⟩ : FS) = _
  rw [zbq]
  have e : (D.set k (dP d (zba m t o1 d.p).2.1)).take (k + 1) = D.take k ++ [dP d (zba m t o1 d.p).2.1] := by
   rw [zaI (zmd hD), List.take_set_of_le (Nat.le_refl _)]
  rw [e]
  simp [dP]
 ·rw [List.drop_set_of_lt (by omega)]
  have h1 := congrArg (List.drop 1) h.rest
  rw [List.drop_drop, List.drop_drop] at h1
  exact h1
 ·have := zr7 m t o1 d.p
  have := h.ll
  rw [List.length_append]; omega
theorem PInv.fin {m : MarketS} {t : Int} {o o1 : List OwnerS} {E D : List DV} {l1 : List (DealS × List OwnerS)} (h : PInv m t o E E.length o1 D l1) : zbq m t o (E.map (·.p)) = ⟨o1, D.map (·.p), l1⟩ := by
 have e := h.eq
 have hl := h.len
 rw [List.drop_length, List.take_of_length_le (by omega)] at e
 rw [e]
 show (⟨o1, _ ++ [], _ ++ []⟩ : FS) = _
 simp
section
variable {m : MarketS} {t : Int} {o : List OwnerS} {d : DV} {E : List DV} {k : Nat}
theorem zgs (h : d.p.2.how = 2 ∧ d.p.2.since + m.Wait ≤ t) (h2 : m.Deadline ≤ t) : zba m t o d.p = (o, zbo d.p 7 t, []) := by unfold zba; rw [if_pos h, if_pos h2]
theorem ze1 (h : d.p.2.how = 2 ∧ d.p.2.since + m.Wait ≤ t) (h2 : ¬ m.Deadline ≤ t) (h3 : zfy m o d.p.1.Gives = false) : zba m t o d.p = (o, zbo d.p 8 t, []) := by unfold zba; rw [if_pos h, if_neg h2, if_neg (by simp [h3])]
theorem zgr (h : d.p.2.how = 2 ∧ d.p.2.since + m.Wait ≤ t) (h2 : ¬ m.Deadline ≤ t) (h3 : zfy m o d.p.1.Gives = true) : zba m t o d.p = (zdQ o d.p.1.Gives, zbo d.p 3 t, [(d.p.1, zdQ o d.p.1.Gives)]) := by unfold zba; rw [if_pos h, if_neg h2, if_pos h3]
theorem zte (h : ¬ (d.p.2.how = 2 ∧ d.p.2.since + m.Wait ≤ t)) (h2 : d.p.2.how = 1 ∧ (d.p.1.To ≤ t ∨ m.Deadline ≤ t)) : zba m t o d.p = (o, zbo d.p 7 t, []) := by unfold zba; rw [if_neg h, if_pos h2]
theorem zs2 (h : ¬ (d.p.2.how = 2 ∧ d.p.2.since + m.Wait ≤ t)) (h2 : ¬ (d.p.2.how = 1 ∧ (d.p.1.To ≤ t ∨ m.Deadline ≤ t))) : zba m t o d.p = (o, d.p, []) := by unfold zba; rw [if_neg h, if_neg h2]
end
/-! from za4 to za4 -/
def ini (l : List DealS) : List DD := l.map fun x => (x, zg6)
structure FI (m : MarketS) (o : List OwnerS) (l : List DealS) (a : List ReplyS) (u p : Int) (j : Nat) (ps : List DD) : Prop where
 lo : 0 ≤ p
 hi : p ≤ 345686400000
 ds : ps = (zaz m o l a p.toNat).ds
 fin : u < p → zaz m o l a p.toNat = zaz m o l a (u + 1).toNat
 bef : ∀ r ∈ a.take j, r.At < p
 aft : ∀ r ∈ a.drop j, p ≤ r.At
def zl5 (a : List ReplyS) : Prop := a.Pairwise fun x y => x.At ≤ y.At
theorem zkK {m : MarketS} {t : Int} {x : ReplyS} {r : List ReplyS} {ps : List DD} (h : t < x.At) : zcF m t (x :: r) ps ≤ x.At := by
 have h1 := zht m t ps (zcB m t (x :: r))
 have h2 := zgq (out := zbd t 345686400000 m.Deadline) h
 unfold zcF
 unfold zcB at h1 ⊢
 dsimp only at h1 ⊢
 omega
theorem zrY {m : MarketS} {o : List OwnerS} {l : List DealS} {a : List ReplyS} {u : Int} (hf : FOk m l) (ha : ∀ r ∈ a, 0 ≤ r.At) (hs : zl5 a) (hu : 0 ≤ u) : FI m o l a u (zcF m (-1) a (ini l)) 0 (ini l) ∧ zaz m o l a (zcF m (-1) a (ini l)).toNat = zni o l := by
 obtain ⟨h1, h2⟩ := zkm (m := m) (t := -1) (a := a) (ps := ini l) (by decide)
 have hq : ∀ t : Nat, 0 ≤ t → (t : Int) < zcF m (-1) a (ini l) → zjI m a (zaz m o l a 0).ds t := fun t _ ht =>
  zka (t := -1) (a := a) (ps := ini l) (by omega) ht (fun r hr => .inr (by
   cases a with
   | nil => cases hr
   | cons x y =>
     refine ⟨x, rfl, by have := ha x (by simp); omega, ?_⟩
     rcases List.mem_cons.1 hr with rfl | hr
     ·exact Int.le_refl _
     ·exact (List.pairwise_cons.1 hs).1 r hr)) (fun p hp hh => by
   obtain ⟨x, _, rfl⟩ := List.mem_map.1 hp
   cases hh)
 have e0 : ∀ n : Nat, (n : Int) ≤ zcF m (-1) a (ini l) → zaz m o l a n = zaz m o l a 0 := fun n hn => zol hf (Nat.zero_le n) fun t h3 h4 => hq t h3 (by omega)
 refine ⟨⟨by omega, h2, ?_, fun h => ?_, fun r hr => by simp at hr, fun r hr => ?_⟩, e0 _ (by omega)⟩
 ·rw [e0 _ (by omega)]; rfl
 ·exact (e0 _ (by omega)).trans (e0 _ (by omega)).symm
 ·rw [List.drop_zero] at hr
  cases a with
  | nil => cases hr
  | cons x y =>
    have hx := ha x (by simp)
    have h3 := zkK (m := m) (t := -1) (r := y) (ps := ini l) (x := x) (by omega)
    rcases List.mem_cons.1 hr with rfl | hr
    ·exact h3
    ·exact Int.le_trans h3 ((List.pairwise_cons.1 hs).1 r hr)
theorem ztF {m : MarketS} {o : List OwnerS} {l : List DealS} {a : List ReplyS} {u p : Int} {j : Nat} {ps : List DD} (hf : FOk m l) (hs : zl5 a) (hp : 0 ≤ p) (hp2 : p < 345686400000) (hu : p ≤ u)
 (hb : ∀ r ∈ a.take j, r.At ≤ p) (ha : ∀ r ∈ a.drop j, p < r.At) (hd : ps = (zaz m o l a (p.toNat + 1)).ds) : FI m o l a u (zcF m p (a.drop j) ps) j ps ∧ zaz m o l a (zcF m p (a.drop j) ps).toNat = zaz m o l a (p.toNat + 1) := by
 obtain ⟨h1, h2⟩ := zkm (m := m) (t := p) (a := a.drop j) (ps := ps) hp2
 have hsd : (a.drop j).Pairwise fun x y => x.At ≤ y.At := hs.sublist (List.drop_sublist j a)
 have hq : ∀ t : Nat, p.toNat + 1 ≤ t → (t : Int) < zcF m p (a.drop j) ps → zjI m a (zaz m o l a (p.toNat + 1)).ds t := fun t h3 ht => by
  rw [← hd]
  refine zka (t := p) (a := a.drop j) (ps := ps) (by omega) ht (fun r hr => ?_) (fun q hq hh => ?_)
  ·rw [← List.take_append_drop j a] at hr
   rcases List.mem_append.1 hr with hr | hr
   ·exact .inl (hb r hr)
   ·refine .inr ?_
    cases hc : a.drop j with
    | nil => rw [hc] at hr; cases hr
    | cons x y =>
      rw [hc] at hr hsd
      refine ⟨x, rfl, ha x (by rw [hc]; simp), ?_⟩
      rcases List.mem_cons.1 hr with rfl | hr
      ·exact Int.le_refl _
      ·exact (List.pairwise_cons.1 hsd).1 r hr
  ·rw [hd] at hq
   have := ((zgn (o := o) (a := a) hf (p.toNat + 1) q hq).1.wt hh).1
   omega
 have e0 : ∀ n : Nat, p.toNat + 1 ≤ n → (n : Int) ≤ zcF m p (a.drop j) ps → zaz m o l a n = zaz m o l a (p.toNat + 1) := fun n hn hn2 => zol hf hn fun t h3 h4 => hq t h3 (by omega)
 refine ⟨⟨by omega, h2, ?_, fun h => ?_, fun r hr => by have := hb r hr; omega, fun r hr => ?_⟩, e0 _ (by omega) (by omega)⟩
 ·rw [e0 _ (by omega) (by omega)]; exact hd
 ·exact (e0 _ (by omega) (by omega)).trans (e0 _ (by omega) (by omega)).symm
 ·cases hc : a.drop j with
  | nil => rw [hc] at hr; cases hr
  | cons x y =>
    rw [hc] at hr hsd
    have h3 := zkK (m := m) (t := p) (r := y) (ps := ps) (ha x (by rw [hc]; simp))
    rcases List.mem_cons.1 hr with rfl | hr
    ·exact h3
    ·exact Int.le_trans h3 ((List.pairwise_cons.1 hsd).1 r hr)
/-! the answers of a za4 -/
structure AI (m : MarketS) (a : List ReplyS) (p : Int) (qs : List DD) (j : Nat) (ps : List DD) : Prop where
 eq : zeC m (atL a p) qs = zeC m (atL (a.drop j) p) ps
 bef : ∀ r ∈ a.take j, r.At ≤ p
 aft : ∀ r ∈ a.drop j, p ≤ r.At
 fst : ps.map (·.1) = qs.map (·.1)
theorem AI.start {m : MarketS} {a : List ReplyS} {p : Int} {qs : List DD} {j : Nat} (hb : ∀ r ∈ a.take j, r.At < p) (ha : ∀ r ∈ a.drop j, p ≤ r.At) : AI m a p qs j qs := by
 refine ⟨?_, fun r hr => Int.le_of_lt (hb r hr), ha, rfl⟩
 have e : atL a p = atL (a.drop j) p := by
  conv => lhs; rw [← List.take_append_drop j a]
  unfold atL
  rw [List.filter_append, List.filter_eq_nil_iff.2 (fun r hr => by have := hb r hr; simp; omega), List.nil_append]
 rw [e]
theorem AI.step {m : MarketS} {a : List ReplyS} {p : Int} {qs ps : List DD} {j : Nat} {x : ReplyS} (h : AI m a p qs j ps) (hx : a[j]? = some x) (hp : x.At = p) : AI m a p qs (j + 1) (zcS m x ps) := by
 refine ⟨?_, fun r hr => ?_, fun r hr => h.aft r (by rw [zU hx]; exact List.mem_cons_of_mem x hr), by rw [zkD, h.fst]⟩
 ·rw [h.eq, zU hx]
  unfold atL
  rw [List.filter_cons_of_pos (by simpa using hp)]; rfl
 ·rw [zaI hx] at hr
  rcases List.mem_append.1 hr with hr | hr
  ·exact h.bef r hr
  ·rw [List.mem_singleton.1 hr, hp]; exact Int.le_refl _
theorem AI.fin {m : MarketS} {a : List ReplyS} {p : Int} {qs ps : List DD} {j : Nat} (hs : zl5 a) (h : AI m a p qs j ps) (hx : ∀ x, a[j]? = some x → x.At ≠ p) : zeC m (atL a p) qs = ps ∧ ∀ r ∈ a.drop j, p < r.At := by
 have hsd : (a.drop j).Pairwise fun x y => x.At ≤ y.At := hs.sublist (List.drop_sublist j a)
 have hl : ∀ r ∈ a.drop j, p < r.At := by
  cases hc : a.drop j with
  | nil => intro r hr; cases hr
  | cons x y =>
    have hj : a[j]? = some x := by
     have : (a.drop j)[0]? = some x := by rw [hc]; rfl
     rwa [List.getElem?_drop, Nat.add_zero] at this
    have h1 := hx x hj
    have h2 := h.aft x (by rw [hc]; simp)
    rw [hc] at hsd
    intro r hr
    rcases List.mem_cons.1 hr with rfl | hr
    ·omega
    ·have := (List.pairwise_cons.1 hsd).1 r hr; omega
 refine ⟨?_, hl⟩
 rw [h.eq]
 have e : atL (a.drop j) p = [] := List.filter_eq_nil_iff.2 fun r hr => by have := hl r hr; simp; omega
 rw [e]; rfl
theorem ztJ {m : MarketS} {o : List OwnerS} {l : List DealS} {a rs : List ReplyS} {n : Nat} (h : FOk m l) (hr : ∀ r ∈ rs, r.At = n) : zgM (fun p => DMid m n p ∧ p.1 ∈ l) (zeC m rs ((zaz m o l a n).ds.map (zcQ n))) := by
 refine zkj (fun r hr2 p hp => ⟨hp.1.ans (by omega) (hr r hr2) h.veto, by rw [zkk]; exact hp.2⟩) fun p hp => ?_
 obtain ⟨q, hq, rfl⟩ := List.mem_map.1 hp
 obtain ⟨i1, i2⟩ := zgn (o := o) (a := a) h n q hq
 exact ⟨i1.opn (by omega) (h.two _ i2), by rw [zkH]; exact i2⟩
theorem zdW {m : MarketS} {o : List OwnerS} {l : List DealS} {a : List ReplyS} : ∀ n, (zaz m o l a n).o.map (·.Player) = o.map (·.Player)
 | 0 => rfl
 | n + 1 => by
   have key : ∀ (ds : List DD) (o : List OwnerS), (zbq m n o ds).o.map (·.Player) = o.map (·.Player) := by
    intro ds
    induction ds with
    | nil => intro o; rfl
    | cons p r ih => intro o; rw [zbq]; dsimp only; rw [ih, zji]
   rw [zaz, stF]
   dsimp only
   rw [key, zdW n]
theorem zfD {m : MarketS} {o : List OwnerS} {l : List DealS} {a : List ReplyS} (n : Nat) : (zaz m o l a n).o.length = o.length := by
 have := congrArg List.length (zdW (m := m) (o := o) (l := l) (a := a) n)
 simpa using this
end Go.HL
namespace Go.HL
theorem zuP {o o1 : List OwnerS} (h : o1.map (·.Player) = o.map (·.Player)) (h0 : 0 < o.length) (ho : o.length ≤ 1000000) (hs : SortedS (o.map (·.Player))) : 0 < o1.length ∧ o1.length ≤ 1000000 ∧ SortedS (o1.map (·.Player)) := by
 have := congrArg List.length h
 simp at this
 exact ⟨by omega, by omega, by rw [h]; exact hs⟩
theorem ztq {m : MarketS} {t : Int} {a : List ReplyS} (h : 0 < a.length) : zbd t (zbd t 345686400000 m.Deadline) (a.getD 0 zbN).At = zcB m t a := by
 cases a with
 | nil => simp at h
 | cons x r => rfl
theorem ztI {m : MarketS} {t : Int} {a : List ReplyS} (h : a.length ≤ 0) : zbd t 345686400000 m.Deadline = zcB m t a := by
 cases a with
 | nil => rfl
 | cons x r => simp at h
end Go.HL
end
namespace Go.Proofs.YtpcaaekefgkhjaaGreatDoor
set_option maxRecDepth 100000
set_option linter.unusedVariables false
set_option linter.unusedSimpArgs false
section
open Go.HL
set_option maxHeartbeats 1000000 in
/-- (*benchwarmer/trade.floor).end -/
theorem zoL [Tracks] {bf : Nat} {m : MarketS} {o : List OwnerS} {fid : FuncId} {caps : List HVal} {E : List DV} {σ : Type} {I : List (List OwnerS) → σ → Prop} {S : σ → List MObj} {st : σ} {lg : List (List OwnerS)} {t : Int} {k0 : Nat} {d0 : DV} (hca : Callable Tryz.prog fid) (hdone : ∀ (g : List (List OwnerS)) (s : σ) (x : List OwnerS), g.length ≤ 1000000 → x.length ≤ 1000000 → I g s → Con Tryz.prog fid ([za8 x] ++ caps) (S s) fun r M' => ∃ s', r = .tup [] ∧ M' = S s' ∧ I (g ++ [x]) s') (hI : I lg st) (ht : m.Teams.length ≤ 1000000) (h0o : 0 < o.length) (ho : o.length ≤ 1000000) (hs : SortedS (o.map (·.Player))) (hG : d0.p.1.Gives.length ≤ 1000) (hk0 : E[k0]? = some d0) (hw : d0.p.2.how = 2 ∧ d0.p.2.since + m.Wait ≤ t) (hlg : lg.length ≤ 1000000) : Con Tryz.prog 136 [pAt bf, pD d0, .int .i64 t] (FL bf m o (.fn (.func fid) [] caps) E ++ S st) (fun x M' => ∃ s', x = .tup [] ∧ M' = (FL bf m (zba m t o d0.p).1 (.fn (.func fid) [] caps) (E.set k0 (dP d0 (zba m t o d0.p).2.1)) ++ S s') ∧ I (lg ++ (zba m t o d0.p).2.2.map (·.2)) s') := by
 refine Con.of_body Tryz.func136 rfl Tryz.ntmps136 rfl rfl ?_
 refine zj ?_
 refine za ?_
 refine dmv rfl ?_
 refine dmv rfl ?_
 refine dq ((by first | exact zx rfl | exact zp rfl)) ?_
 refine dq (ze zcs rfl zd0 (by decide) rfl) ?_
 refine de rfl (zJ (i := 0) zd0 rfl rfl (.inl ⟨rfl, rfl⟩) ?_)
 refine dq ((by first | exact zx rfl | exact zp rfl)) ?_
 refine dq ((by first | exact zb zT rfl ty3 (by decide) rfl | exact ze zT rfl ty3 (by decide) rfl)) ?_
 refine dq (zg ty3 rfl rfl rfl) ?_
 refine dq (zbS rfl rfl) ?_
 refine dn ?_
 refine zi rfl (fun h1 => ?_) (fun h2 => ?_)
 ·try simp at h1
  refine za ?_
  refine dmv rfl ?_
  refine dmv rfl ?_
  refine de rfl (zdm (i := 3 * k0 + 1) (m' := .cells d0.b (cD { d0 with p := zbo d0.p 7 t })) zf2 rfl (WeakL.refl _) (zbB hk0) (zbv (d := d0)) ?_)
  refine dn ?_
  refine zl ?_
  first
  | exact zbb rfl ⟨st, rfl, (zbA hk0).trans (by rw [zgs hw (by omega)]; simp [dT, dP]), by rw [zgs hw (by omega)]; simpa using hI⟩
  | exact zbb rfl ⟨st, rfl, (zbA hk0).trans (by rw [ze1 hw (by omega) (by simpa using h3)]; simp [dT, dP]), by rw [ze1 hw (by omega) (by simpa using h3)]; simpa using hI⟩
  | (refine zow (Ghost.perm List.perm_append_comm) rfl ⟨st2, rfl, ?_, ?_⟩
     ·rw [zgr hw (by omega) (by simpa using h4)]
      simp [dT, dP]
     ·rw [zgr hw (by omega) (by simpa using h4)]
      exact hI2)
 ·try simp at h2
  refine zm ?_
  refine zh ?_
  refine zaF (fun M => M = (FL bf m o (.fn (.func fid) [] caps) E ++ S st)) [3, 7, 11] mixed ?_
  refine ahp 0 rfl rfl (by kernel_rfl) (by kernel_rfl) (zf rfl) ?_
  refine ahp 1 rfl rfl (by kernel_rfl) (by kernel_rfl) ((by first | exact zx rfl | exact zp rfl)) ?_
  refine ahp 2 rfl rfl (by kernel_rfl) (by kernel_rfl) (ze zcs rfl zd0 (by decide) rfl) ?_
  refine ahl 3 rfl rfl (by kernel_rfl) (by kernel_rfl) (by simp) rfl (fun M hM => by subst hM; exact zJ (i := 0) zd0 rfl rfl (.inl ⟨rfl, rfl⟩) ⟨rfl, rfl⟩) ?_
  refine ahp 4 rfl rfl (by kernel_rfl) (by kernel_rfl) (zf rfl) ?_
  refine ahp 5 rfl rfl (by kernel_rfl) (by kernel_rfl) ((by first | exact zx rfl | exact zp rfl)) ?_
  refine ahp 6 rfl rfl (by kernel_rfl) (by kernel_rfl) (ze zcs rfl zaN (by decide) rfl) ?_
  refine ahl 7 rfl rfl (by kernel_rfl) (by kernel_rfl) (by simp) rfl (fun M hM => by subst hM; exact zJ (i := 0) zaN rfl rfl (.inl ⟨rfl, rfl⟩) ⟨rfl, rfl⟩) ?_
  refine ahp 8 rfl rfl (by kernel_rfl) (by kernel_rfl) (zf rfl) ?_
  refine ahp 9 rfl rfl (by kernel_rfl) (by kernel_rfl) ((by first | exact zx rfl | exact zp rfl)) ?_
  refine ahp 10 rfl rfl (by kernel_rfl) (by kernel_rfl) (ze zbu rfl zam (by decide) rfl) ?_
  refine ahl 11 rfl rfl (by kernel_rfl) (by kernel_rfl) (by simp) rfl (fun M hM => by subst hM; exact zJ (i := 3 * k0 + 1) zam rfl (zbB hk0) (.inr ⟨rfl, Nat.le_of_ble_eq_true rfl, rfl⟩) ⟨rfl, rfl⟩) ?_
  refine ahp 12 rfl rfl (by kernel_rfl) (by kernel_rfl) (zo ca98 rfl (WeakL.refl _) (zoJ (m := m) (o := o) (x := d0.p.1) ht h0o ho hs (by omega))) ?_
  refine ahp 13 rfl rfl (by kernel_rfl) (by kernel_rfl) (zf rfl) ?_
  refine ahp 14 rfl rfl (by kernel_rfl) (by kernel_rfl) (z6 rfl rfl) ?_
  refine ahp 15 rfl rfl (by kernel_rfl) (by kernel_rfl) (z6 rfl rfl) ?_
  refine ahp 16 rfl rfl (by kernel_rfl) (by kernel_rfl) (zar rfl) ?_
  refine ahp 17 rfl rfl (by kernel_rfl) (by kernel_rfl) (zar rfl) ?_
  refine ahz (by kernel_rfl) ?_
  refine zj ?_
  refine za ?_
  refine dmv rfl ?_
  refine dq (zac rfl) ?_
  refine dn ?_
  refine zi rfl (fun h3 => ?_) (fun h4 => ?_)
  ·try simp at h3
   refine za ?_
   refine dmv rfl ?_
   refine dmv rfl ?_
   refine de rfl (zdm (i := 3 * k0 + 1) (m' := .cells d0.b (cD { d0 with p := zbo d0.p 8 t })) zf2 rfl (WeakL.refl _) (zbB hk0) (zbv (d := d0)) ?_)
   refine dn ?_
   refine zl ?_
   first
   | exact zbb rfl ⟨st, rfl, (zbA hk0).trans (by rw [zgs hw (by omega)]; simp [dT, dP]), by rw [zgs hw (by omega)]; simpa using hI⟩
   | exact zbb rfl ⟨st, rfl, (zbA hk0).trans (by rw [ze1 hw (by omega) (by simpa using h3)]; simp [dT, dP]), by rw [ze1 hw (by omega) (by simpa using h3)]; simpa using hI⟩
   | (refine zow (Ghost.perm List.perm_append_comm) rfl ⟨st2, rfl, ?_, ?_⟩
      ·rw [zgr hw (by omega) (by simpa using h4)]
       simp [dT, dP]
      ·rw [zgr hw (by omega) (by simpa using h4)]
       exact hI2)
  ·try simp at h4
   refine zm ?_
   refine zh ?_
   have hdl : (zdQ o d0.p.1.Gives).length ≤ 1000000 := by rw [zqz (m := m) (by simpa using h4)]; exact ho
   refine za ?_
   refine dmv rfl ?_
   refine dmv rfl ?_
   refine dq ((by first | exact zx rfl | exact zp rfl)) ?_
   refine dq (ze zcs rfl zaN (by decide) rfl) ?_
   first
   | refine de0 (zz (i := 0) zaN rfl rfl rfl rfl rfl (Nat.le_of_ble_eq_true rfl) ?_)
   | refine de0 (zz (i := 1) zaN rfl rfl rfl rfl rfl (Nat.le_of_ble_eq_true rfl) ?_)
   | refine de0 (zz (i := 2) zaN rfl rfl rfl rfl rfl (Nat.le_of_ble_eq_true rfl) ?_)
   | refine de0 (zz (i := 3) zaN rfl rfl rfl rfl rfl (Nat.le_of_ble_eq_true rfl) ?_)
   refine dn ?_
   refine zL (Ghost.of_eq (show _ = (FL bf m (zdQ o d0.p.1.Gives) (.fn (.func fid) [] caps) E ++ S st) from rfl)) ?_
   refine za ?_
   refine dmv rfl ?_
   refine dmv rfl ?_
   refine de rfl (zdm (i := 3 * k0 + 1) (m' := .cells d0.b (cD { d0 with p := zbo d0.p 3 t })) zf2 rfl (WeakL.refl _) (zbB hk0) (zbv (d := d0)) ?_)
   refine dn ?_
   refine zL (Ghost.of_eq (zbA hk0)) ?_
   refine zC ?_
   refine dmv rfl ?_
   refine dq ((by first | exact zx rfl | exact zp rfl)) ?_
   refine dq (ze zcs rfl zrD (by decide) rfl) ?_
   refine de rfl (zJ (i := 0) zrD rfl rfl (.inl ⟨rfl, rfl⟩) ?_)
   refine dmv rfl ?_
   refine de rfl (EOp.perm (M := S st ++ (FL bf m (zdQ o d0.p.1.Gives) (.fn (.func fid) [] caps) (E.set k0 (dT d0 3 t)))) List.perm_append_comm (EOp.mono ?_ ((zdj hca rfl rfl (WeakL.refl _) (hdone lg st (zdQ o d0.p.1.Gives) hlg hdl hI)).frame (FL bf m (zdQ o d0.p.1.Gives) (.fn (.func fid) [] caps) (E.set k0 (dT d0 3 t))))))
   rintro _ _ ⟨N, rfl, st2, rfl, rfl, hI2⟩
   refine dn ?_
   first
   | exact zbb rfl ⟨st, rfl, (zbA hk0).trans (by rw [zgs hw (by omega)]; simp [dT, dP]), by rw [zgs hw (by omega)]; simpa using hI⟩
   | exact zbb rfl ⟨st, rfl, (zbA hk0).trans (by rw [ze1 hw (by omega) (by simpa using h3)]; simp [dT, dP]), by rw [ze1 hw (by omega) (by simpa using h3)]; simpa using hI⟩
   | (refine zow (Ghost.perm List.perm_append_comm) rfl ⟨st2, rfl, ?_, ?_⟩
      ·rw [zgr hw (by omega) (by simpa using h4)]
       simp [dT, dP]
      ·rw [zgr hw (by omega) (by simpa using h4)]
       exact hI2)

set_option maxHeartbeats 1000000 in
/-- (*benchwarmer/trade.floor).pass -/
theorem zi4 [Tracks] {bf : Nat} {m : MarketS} {o : List OwnerS} {fid : FuncId} {caps : List HVal} {E : List DV} {σ : Type} {I : List (List OwnerS) → σ → Prop} {S : σ → List MObj} {st : σ} {lg : List (List OwnerS)} {t : Int}  (hca : Callable Tryz.prog fid) (hdone : ∀ (g : List (List OwnerS)) (s : σ) (x : List OwnerS), g.length ≤ 1000000 → x.length ≤ 1000000 → I g s → Con Tryz.prog fid ([za8 x] ++ caps) (S s) fun r M' => ∃ s', r = .tup [] ∧ M' = S s' ∧ I (g ++ [x]) s') (hI : I lg st) (ht : m.Teams.length ≤ 1000000) (h0o : E ≠ [] → 0 < o.length) (ho : o.length ≤ 1000000) (hs : SortedS (o.map (·.Player))) (hE : E.length ≤ 1000000) (hG : ∀ d ∈ E, d.p.1.Gives.length ≤ 1000) (hsb : ∀ d ∈ E, d.p.2.how = 2 → 0 ≤ d.p.2.since ∧ d.p.2.since ≤ 345686400000) (hwt : 0 ≤ m.Wait ∧ m.Wait ≤ 864000000) (hlg : lg.length + E.length ≤ 1000000) : Con Tryz.prog 91 [pAt bf, .int .i64 t] (FL bf m o (.fn (.func fid) [] caps) E ++ S st) (fun x M' => ∃ E' s', x = .tup [] ∧ M' = (FL bf m (zbq m t o (E.map (·.p))).o (.fn (.func fid) [] caps) E' ++ S s') ∧ E'.map (·.p) = (zbq m t o (E.map (·.p))).ds ∧ I (lg ++ (zbq m t o (E.map (·.p))).log.map (·.2)) s') := by
 refine Con.of_body Tryz.func91 rfl Tryz.ntmps91 rfl rfl ?_
 refine za ?_
 refine dmv rfl ?_
 refine dq ((by first | exact zx rfl | exact zp rfl)) ?_
 refine dq (ze zcs rfl zbO (by decide) rfl) ?_
 refine de rfl (zJ (i := 0) zbO rfl rfl (.inl ⟨rfl, rfl⟩) ?_)
 refine dq (zK zbO rfl) ?_
 refine dmv rfl ?_
 refine dn ?_
 refine zq ?_
 refine zg4 (5 :: 11 :: 12 :: 13 :: 14 :: 15 :: 16 :: 17 :: 18 :: 19 :: 20 :: 21 :: 22 :: 23 :: 24 :: 25 :: 26 :: 27 :: 28 :: 29 :: 30 :: 31 :: 32 :: 33 :: 34 :: 35 :: 36 :: 37 :: 38 :: 39 :: 40 :: 41 :: 42 :: 43 :: 44 :: 45 :: 46 :: 47 :: 48 :: 49 :: 50 :: 51 :: 52 :: 53 :: 54 :: 55 :: 56 :: 57 :: 58 :: 59 :: 60 :: 61 :: 62 :: 63 :: 64 :: 65 :: 66 :: 67 :: 68 :: 69 :: 70 :: 71 :: []) (fun (k : Nat) (o1 : List OwnerS) (q : List DV × σ) (l1 : List (DealS × List OwnerS)) => [(11, .int .i64 k)]) (fun (k : Nat) (o1 : List OwnerS) (q : List DV × σ) (l1 : List (DealS × List OwnerS)) => (FL bf m o1 (.fn (.func fid) [] caps) q.1 ++ S q.2)) (fun (k : Nat) (o1 : List OwnerS) (q : List DV × σ) (l1 : List (DealS × List OwnerS)) => k ≤ E.length ∧ (PInv m t o E k o1 q.1 l1 ∧ I (lg ++ l1.map (·.2)) q.2)) (fun (k : Nat) (o1 : List OwnerS) (q : List DV × σ) (l1 : List (DealS × List OwnerS)) => E.length - k) (0) (o) ((E, st)) ([]) ?_ ?_ ?_ ?_
 ·exact ⟨Nat.zero_le _, PInv.start m t o E, by simpa using hI⟩
 ·exact ⟨rfl, trivial⟩
 ·exact zR (by simp)
 ·intro k o1 q l1 hinv
  obtain ⟨hk, hp, hI1⟩ := hinv
  obtain ⟨D, s1⟩ := q
  dsimp only at hp hI1
  refine za ?_
  refine dq (zS rfl rfl) ?_
  refine dn ?_
  refine zj ?_
  refine zi rfl (fun h1 => ?_) (fun h2 => ?_)
  ·try simp at h1
   obtain ⟨d, hd⟩ : ∃ d, E[k]? = some d := ⟨_, List.getElem?_eq_getElem h1⟩
   have hdd := zU hd
   have hDk := hp.get hd
   obtain ⟨ho1, ho2, ho3⟩ := zuP hp.pl (h0o (fun q => by rw [q] at hd; simp at hd)) ho hs
   refine zm ?_
   refine zh ?_
   refine zj ?_
   refine zq ?_
   refine za ?_
   refine dq (zW (j := k) (a := d) zbO zda rfl rfl rfl hd) ?_
   refine dq (zg zda rfl rfl rfl) ?_
   refine das rfl ?_
   refine dn ?_
   refine zq ?_
   refine zaF (fun M => M = (FL bf m o1 (.fn (.func fid) [] caps) D ++ S s1)) [3, 10, 14] mixed ?_
   refine ahp 0 rfl rfl (by kernel_rfl) (by kernel_rfl) (zf rfl) ?_
   refine ahp 1 rfl rfl (by kernel_rfl) (by kernel_rfl) ((by first | exact zx rfl | exact zp rfl)) ?_
   refine ahp 2 rfl rfl (by kernel_rfl) (by kernel_rfl) (ze zbu rfl ty3 (by decide) rfl) ?_
   refine ahl 3 rfl rfl (by kernel_rfl) (by kernel_rfl) (by simp) rfl (fun M hM => by subst hM; exact zJ (i := 3 * k + 1) ty3 rfl (zbB hDk) (.inl ⟨rfl, rfl⟩) ⟨rfl, rfl⟩) ?_
   refine ahp 4 rfl rfl (by kernel_rfl) (by kernel_rfl) (zau rfl rfl) ?_
   refine ahp 5 rfl rfl (by kernel_rfl) (by kernel_rfl) (zf rfl) ?_
   refine ahg 6 rfl rfl (by kernel_rfl) (by kernel_rfl) rfl (fun hc => ⟨_, OpenTo.refl _, zf rfl⟩) ?_
   refine ahg 7 rfl rfl (by kernel_rfl) (by kernel_rfl) rfl (fun hc => ⟨_, OpenTo.refl _, zf rfl⟩) ?_
   refine ahg 8 rfl rfl (by kernel_rfl) (by kernel_rfl) rfl (fun hc => ⟨_, OpenTo.upd (t := 23) rfl (by first | exact hc | simp_all) (OpenTo.refl _), (by first | exact zx rfl | exact zp rfl)⟩) ?_
   refine ahg 9 rfl rfl (by kernel_rfl) (by kernel_rfl) rfl (fun hc => ⟨_, OpenTo.upd (t := 24) rfl (by first | exact hc | simp_all) (OpenTo.refl _), ze zbu rfl ty3 (by decide) rfl⟩) ?_
   refine zhj 10 rfl rfl (by kernel_rfl) (by kernel_rfl) (by simp) rfl rfl (fun hc => ⟨_, OpenTo.upd (t := 25) rfl (by first | exact hc | simp_all) (OpenTo.refl _), fun M hM => by
    subst hM; exact zJ (i := 3 * k + 1) ty3 rfl (zbB hDk) (.inl ⟨rfl, rfl⟩) ⟨rfl, rfl⟩
    ⟩) ?_
   refine ahg 11 rfl rfl (by kernel_rfl) (by kernel_rfl) rfl (fun hc => ⟨_, OpenTo.refl _, zf rfl⟩) ?_
   refine ahg 12 rfl rfl (by kernel_rfl) (by kernel_rfl) rfl (fun hc => ⟨_, OpenTo.upd (t := 27) rfl (by first | exact hc | simp_all) (OpenTo.refl _), (by first | exact zx rfl | exact zp rfl)⟩) ?_
   refine ahg 13 rfl rfl (by kernel_rfl) (by kernel_rfl) rfl (fun hc => ⟨_, OpenTo.upd (t := 28) rfl (by first | exact hc | simp_all) (OpenTo.refl _), ze zcs rfl zd0 (by decide) rfl⟩) ?_
   refine zhj 14 rfl rfl (by kernel_rfl) (by kernel_rfl) (by simp) rfl rfl (fun hc => ⟨_, OpenTo.upd (t := 29) rfl (by first | exact hc | simp_all) (OpenTo.refl _), fun M hM => by
    subst hM; exact zJ (i := 0) zd0 rfl rfl (.inl ⟨rfl, rfl⟩) ⟨rfl, rfl⟩
    ⟩) ?_
   refine ahg 15 rfl rfl (by kernel_rfl) (by kernel_rfl) rfl (fun hc => ⟨_, OpenTo.upd (t := 30) rfl (by first | exact hc | simp_all) (OpenTo.refl _), (by first | exact zx rfl | exact zp rfl)⟩) ?_
   refine ahg 16 rfl rfl (by kernel_rfl) (by kernel_rfl) rfl (fun hc => ⟨_, OpenTo.upd (t := 31) rfl (by first | exact hc | simp_all) (OpenTo.refl _), (by first | exact zb zT rfl ty3 (by decide) rfl | exact ze zT rfl ty3 (by decide) rfl)⟩) ?_
   refine ahg 17 rfl rfl (by kernel_rfl) (by kernel_rfl) rfl (fun hc => ⟨_, OpenTo.upd (t := 32) rfl (by first | exact hc | simp_all) (OpenTo.refl _), zg ty3 rfl rfl rfl⟩) ?_
   refine ahg 18 rfl rfl (by kernel_rfl) (by kernel_rfl) rfl (fun hc => by
    have hsb1 := hsb d (List.mem_of_getElem? hd) (by simpa using hc)
    exact ⟨_, OpenTo.upd (t := 33) rfl (by first | exact hc | simp_all) (OpenTo.upd (t := 26) rfl (by first | exact hc | simp_all) (OpenTo.refl _)), zB rfl rfl (by omega) (by omega)⟩) ?_
   refine ahg 19 rfl rfl (by kernel_rfl) (by kernel_rfl) rfl (fun hc => ⟨_, OpenTo.upd (t := 34) rfl (by first | exact hc | simp_all) (OpenTo.upd (t := 22) rfl (by first | exact hc | simp_all) (OpenTo.refl _)), zbS rfl rfl⟩) ?_
   refine ahp 20 rfl rfl (by kernel_rfl) (by kernel_rfl) (zA rfl (.inr ⟨_, rfl, fun h => by simp_all⟩) (.inl rfl)) ?_
   refine ahp 21 rfl rfl (by kernel_rfl) (by kernel_rfl) (zar rfl) ?_
   refine ahz (by kernel_rfl) ?_
   refine zi rfl (fun h3 => ?_) (fun h4 => ?_)
   ·try simp at h3
    refine zC ?_
    refine dmv rfl ?_
    refine dmv rfl ?_
    refine dmv rfl ?_
    refine de rfl (EOp.mono ?_ (zcI zuF rfl (WeakL.refl _) (zoL (d0 := d) (k0 := k) hca hdone hI1 ht ho1 ho2 ho3 (hG d (List.mem_of_getElem? hd)) hDk (by simpa using h3) (by have := hp.ll; simp; omega))))
    rintro _ _ ⟨st2, rfl, rfl, hI2⟩
    refine dn ?_
    refine zy ?_
    refine zy ?_
    refine zh ?_
    refine zC ?_
    refine dq (zB rfl rfl (by omega) (by omega)) ?_
    refine dmv rfl ?_
    refine dn ?_
    exact ⟨k + 1, (zba m t o1 d.p).1, (D.set k (dP d (zba m t o1 d.p).2.1), st2), l1 ++ (zba m t o1 d.p).2.2, ⟨by omega, hp.step hd, by rw [List.map_append, ← List.append_assoc]; exact hI2⟩, by dsimp only; omega, ⟨rfl, trivial⟩, (by repeat (first | exact zt | refine zw rfl ?_ | refine zu rfl rfl ?_)), zR rfl⟩
   ·try simp at h4
    refine za ?_
    refine dmv rfl ?_
    refine dq ((by first | exact zx rfl | exact zp rfl)) ?_
    refine dq (ze zbu rfl ty3 (by decide) rfl) ?_
    refine de rfl (zJ (i := 3 * k + 1) ty3 rfl (zbB hDk) (.inl ⟨rfl, rfl⟩) ?_)
    refine dq (zau rfl rfl) ?_
    refine dmv rfl ?_
    refine dg rfl rfl (fun hc => ⟨_, OpenTo.refl _, zf rfl⟩) ?_
    refine dg rfl rfl (fun hc => ⟨_, OpenTo.refl _, zf rfl⟩) ?_
    refine dg rfl rfl (fun hc => ⟨_, OpenTo.upd (t := 49) rfl (by first | exact hc | simp_all) (OpenTo.refl _), (by first | exact zx rfl | exact zp rfl)⟩) ?_
    refine dg rfl rfl (fun hc => ⟨_, OpenTo.upd (t := 50) rfl (by first | exact hc | simp_all) (OpenTo.refl _), ze zbu rfl zam (by decide) rfl⟩) ?_
    refine dg rfl rfl (fun hc => ⟨_, OpenTo.upd (t := 51) rfl (by first | exact hc | simp_all) (OpenTo.refl _), ze zam rfl zbZ (by decide) rfl⟩) ?_
    refine dg rfl rfl (fun hc => ⟨_, OpenTo.upd (t := 52) rfl (by first | exact hc | simp_all) (OpenTo.refl _), ze zbZ rfl ty3 (by decide) rfl⟩) ?_
    refine dgl rfl rfl (fun hc => ⟨_, OpenTo.upd (t := 53) rfl (by first | exact hc | simp_all) (OpenTo.refl _), zJ (i := 3 * k + 1) ty3 rfl (zbB hDk) (.inl ⟨rfl, rfl⟩) ⟨rfl, rfl⟩⟩) ?_
    refine dg rfl rfl (fun hc => ⟨_, OpenTo.upd (t := 54) rfl (by first | exact hc | simp_all) (OpenTo.upd (t := 48) rfl (by first | exact hc | simp_all) (OpenTo.refl _)), zbS rfl rfl⟩) ?_
    refine dg rfl rfl (fun hc => ⟨_, OpenTo.upd (t := 55) rfl (by first | exact hc | simp_all) (OpenTo.refl _), zf rfl⟩) ?_
    refine dg rfl rfl (fun hc => ⟨_, OpenTo.refl _, zf rfl⟩) ?_
    refine dg rfl rfl (fun hc => ⟨_, OpenTo.refl _, zf rfl⟩) ?_
    refine dg rfl rfl (fun hc => ⟨_, OpenTo.upd (t := 58) rfl (by first | exact hc | simp_all) (OpenTo.refl _), (by first | exact zx rfl | exact zp rfl)⟩) ?_
    refine dg rfl rfl (fun hc => ⟨_, OpenTo.upd (t := 59) rfl (by first | exact hc | simp_all) (OpenTo.refl _), ze zcs rfl zd0 (by decide) rfl⟩) ?_
    refine dgl rfl rfl (fun hc => ⟨_, OpenTo.upd (t := 60) rfl (by first | exact hc | simp_all) (OpenTo.refl _), zJ (i := 0) zd0 rfl rfl (.inl ⟨rfl, rfl⟩) ⟨rfl, rfl⟩⟩) ?_
    refine dg rfl rfl (fun hc => ⟨_, OpenTo.upd (t := 61) rfl (by first | exact hc | simp_all) (OpenTo.refl _), (by first | exact zx rfl | exact zp rfl)⟩) ?_
    refine dg rfl rfl (fun hc => ⟨_, OpenTo.upd (t := 62) rfl (by first | exact hc | simp_all) (OpenTo.refl _), (by first | exact zb zT rfl ty3 (by decide) rfl | exact ze zT rfl ty3 (by decide) rfl)⟩) ?_
    refine dg rfl rfl (fun hc => ⟨_, OpenTo.upd (t := 63) rfl (by first | exact hc | simp_all) (OpenTo.refl _), zg ty3 rfl rfl rfl⟩) ?_
    refine dg rfl rfl (fun hc => ⟨_, OpenTo.upd (t := 64) rfl (by first | exact hc | simp_all) (OpenTo.upd (t := 57) rfl (by first | exact hc | simp_all) (OpenTo.refl _)), zbS rfl rfl⟩) ?_
    refine dg rfl rfl (fun hc => ⟨_, OpenTo.upd (t := 56) rfl (by first | exact hc | simp_all) (OpenTo.refl _), zA rfl (.inl rfl) (.inr ⟨_, rfl, fun h => by simp_all⟩)⟩) ?_
    refine dq (zA rfl (.inr ⟨_, rfl, fun h => by simp_all⟩) (.inl rfl)) ?_
    refine das rfl ?_
    refine dn ?_
    refine zi rfl (fun h5 => ?_) (fun h6 => ?_)
    ·try simp at h5
     refine zC ?_
     refine dmv rfl ?_
     refine dmv rfl ?_
     refine de rfl (zdm (i := 3 * k + 1) (m' := .cells d.b (cD { d with p := zbo d.p 7 t })) zf2 rfl (WeakL.refl _) (zbB hDk) (zbv (d := d)) ?_)
     refine dn ?_
     refine zy ?_
     refine zy ?_
     refine zh ?_
     refine zC ?_
     refine dq (zB rfl rfl (by omega) (by omega)) ?_
     refine dmv rfl ?_
     refine dn ?_
     have hst := hp.step hd
     rw [zte (by simpa using h4) (by simpa using h5)] at hst
     exact ⟨k + 1, o1, (D.set k (dT d 7 t), s1), l1 ++ [], ⟨by omega, hst, by simpa using hI1⟩, by dsimp only; omega, ⟨rfl, trivial⟩, (by repeat (first | exact zt | refine zw rfl ?_ | refine zu rfl rfl ?_)), zR (zbA hDk)⟩
    ·try simp at h6
     refine zm ?_
     refine zy ?_
     refine zy ?_
     refine zh ?_
     refine zC ?_
     refine dq (zB rfl rfl (by omega) (by omega)) ?_
     refine dmv rfl ?_
     refine dn ?_
     have hst := hp.step hd
     rw [zs2 (by simpa using h4) (by simpa using h6)] at hst
     rw [show D.set k (dP d (o1, d.p, ([] : List (DealS × List OwnerS))).2.1) = D from zof hDk] at hst
     exact ⟨k + 1, o1, (D, s1), l1 ++ [], ⟨by omega, hst, by simpa using hI1⟩, by dsimp only; omega, ⟨rfl, trivial⟩, (by repeat (first | exact zt | refine zw rfl ?_ | refine zu rfl rfl ?_)), zR rfl⟩
  ·try simp at h2
   have hnk : E.length ≤ k := by omega
   obtain rfl : k = E.length := by omega
   have hfin := hp.fin
   refine zX ?_
   refine z7 ?_
   refine zil ?_
   refine zO ?_
   exact zai rfl ⟨D, s1, rfl, by rw [hfin], by rw [hfin], by rw [hfin]; exact hI1⟩

/-- (*benchwarmer/trade.floor).next$1 -/
theorem zgG [Tracks] {t out x : Int} {b7 : Nat}  : Con Tryz.prog 133 [.int .i64 x, .vptr [.int .i64 t] 0, pAt b7] [.cells b7 [.int .i64 out]] (fun r M' => r = .tup [] ∧ M' = [.cells b7 [.int .i64 (zbd t out x)]]) := by
 refine Con.of_body Tryz.func133 rfl Tryz.ntmps133 rfl rfl ?_
 refine za ?_
 refine dmv rfl ?_
 refine dq (zg ty3 rfl rfl rfl) ?_
 refine dq (zae rfl rfl) ?_
 refine dn ?_
 refine zi rfl (fun h1 => ?_) (fun h2 => ?_)
 ·try simp at h1
  refine zC ?_
  first
  | refine de rfl (zJ (i := 0) ty3 rfl rfl (.inl ⟨rfl, rfl⟩) ?_)
  | refine de rfl (zJ (i := 1) ty3 rfl rfl (.inl ⟨rfl, rfl⟩) ?_)
  | refine de rfl (zJ (i := 2) ty3 rfl rfl (.inl ⟨rfl, rfl⟩) ?_)
  | refine de rfl (zJ (i := 3) ty3 rfl rfl (.inl ⟨rfl, rfl⟩) ?_)
  refine dmv rfl ?_
  refine dq (zo0 rfl rfl) ?_
  first
  | refine de0 (zz (i := 0) ty3 rfl rfl rfl rfl rfl (Nat.le_of_ble_eq_true rfl) ?_)
  | refine de0 (zz (i := 1) ty3 rfl rfl rfl rfl rfl (Nat.le_of_ble_eq_true rfl) ?_)
  | refine de0 (zz (i := 2) ty3 rfl rfl rfl rfl rfl (Nat.le_of_ble_eq_true rfl) ?_)
  | refine de0 (zz (i := 3) ty3 rfl rfl rfl rfl rfl (Nat.le_of_ble_eq_true rfl) ?_)
  refine dn ?_
  first
  | exact zai rfl ⟨rfl, by unfold zbd; rw [if_pos h1]; simp [zZ, zn, Int.min_def]; split <;> split <;> omega⟩
  | exact zai rfl ⟨rfl, by unfold zbd; rw [if_neg (by omega)]⟩
 ·try simp at h2
  refine zm ?_
  first
  | exact zai rfl ⟨rfl, by unfold zbd; rw [if_pos h1]; simp [zZ, zn, Int.min_def]; split <;> split <;> omega⟩
  | exact zai rfl ⟨rfl, by unfold zbd; rw [if_neg (by omega)]⟩

set_option maxHeartbeats 1000000 in
/-- (*benchwarmer/trade.floor).next -/
theorem ziY [Tracks] {bf : Nat} {m : MarketS} {o : List OwnerS} {fn : HVal} {E : List DV} {S : List MObj} {a : List ReplyS} {t : Int} (hE : E.length ≤ 1000000) (ha : a.length ≤ 1000000) (hsb : ∀ d ∈ E, d.p.2.how = 2 → 0 ≤ d.p.2.since ∧ d.p.2.since ≤ 345686400000) (hwt : 0 ≤ m.Wait ∧ m.Wait ≤ 864000000) : Con Tryz.prog 88 [pAt bf, zb3 a, .int .i64 t] (FL bf m o fn E ++ S) (fun x M' => x = .int .i64 (zcF m t a (E.map (·.p))) ∧ M' = (FL bf m o fn E ++ S)) := by
 refine Con.of_body Tryz.func88 rfl Tryz.ntmps88 rfl rfl ?_
 refine za ?_
 refine dq (zas rfl rfl) ?_
 refine das rfl ?_
 refine dn ?_
 refine za ?_
 refine de rfl (zY ty3 rfl fun b7 => ?_)
 first
 | refine de0 (zz (i := 0) ty3 rfl rfl rfl rfl rfl (Nat.le_of_ble_eq_true rfl) ?_)
 | refine de0 (zz (i := 1) ty3 rfl rfl rfl rfl rfl (Nat.le_of_ble_eq_true rfl) ?_)
 | refine de0 (zz (i := 2) ty3 rfl rfl rfl rfl rfl (Nat.le_of_ble_eq_true rfl) ?_)
 | refine de0 (zz (i := 3) ty3 rfl rfl rfl rfl rfl (Nat.le_of_ble_eq_true rfl) ?_)
 refine dn ?_
 refine za ?_
 refine dq (zfl rfl rfl) ?_
 refine das rfl ?_
 refine dn ?_
 refine za ?_
 refine dmv rfl ?_
 refine dmv rfl ?_
 refine dq ((by first | exact zx rfl | exact zp rfl)) ?_
 refine dq (ze zcs rfl zd0 (by decide) rfl) ?_
 refine de rfl (zJ (i := 1) zd0 rfl rfl (.inl ⟨rfl, rfl⟩) ?_)
 refine dq ((by first | exact zx rfl | exact zp rfl)) ?_
 refine dq ((by first | exact zb zT rfl ty3 (by decide) rfl | exact ze zT rfl ty3 (by decide) rfl)) ?_
 refine dq (zg ty3 rfl rfl rfl) ?_
 refine de rfl (EOp.mono ?_ ((zdj (M := [.cells b7 [.int .i64 345686400000]]) zld rfl rfl (WeakL.refl _) (zgG (t := t) (out := 345686400000) (x := m.Deadline))).frame (FL bf m o fn E ++ S)))
 rintro _ _ ⟨N, rfl, rfl, rfl⟩
 refine dn ?_
 refine ze3 [21, 22, 23, 24, 25, 26, 27, 28, 29] (fun (q : Int) => []) (fun (q : Int) => (.cells b7 [.int .i64 q] :: (FL bf m o fn E ++ S))) (fun (q : Int) => q = zcB m t a) ?_ ?_
 ·skip
  refine za ?_
  refine dmv rfl ?_
  refine dq (zK zcg rfl) ?_
  refine dq (zae rfl rfl) ?_
  refine dn ?_
  refine zi rfl (fun h1 => ?_) (fun h2 => ?_)
  ·try simp at h1
   refine zC ?_
   refine dmv rfl ?_
   refine dmv rfl ?_
   refine dq (zW (j := 0) (a := a.getD 0 zbN) zcg z8 rfl rfl rfl (getD_some (by omega))) ?_
   refine dq ((by first | exact zb z8 rfl ty3 (by decide) rfl | exact ze z8 rfl ty3 (by decide) rfl)) ?_
   refine dq (zg ty3 rfl rfl rfl) ?_
   refine de rfl (EOp.mono ?_ ((zdj (M := [.cells b7 [.int .i64 (zbd t 345686400000 m.Deadline)]]) zld rfl rfl (WeakL.refl _) (zgG (t := t) (out := (zbd t 345686400000 m.Deadline)) (x := (a.getD 0 zbN).At))).frame (FL bf m o fn E ++ S)))
   rintro _ _ ⟨N, rfl, rfl, rfl⟩
   refine dn ?_
   exact ⟨_, ztq (by omega), trivial, (by repeat (first | exact zt | refine zw rfl ?_ | refine zu rfl rfl ?_)), zR rfl⟩
  ·try simp at h2
   refine zm ?_
   exact ⟨_, ztI (by first | omega | simp [h2]), trivial, (by repeat (first | exact zt | refine zw rfl ?_ | refine zu rfl rfl ?_)), zR rfl⟩
 ·intro q hq
  subst hq
  refine zj ?_
  refine za ?_
  refine dmv rfl ?_
  refine dq ((by first | exact zx rfl | exact zp rfl)) ?_
  refine dq (ze zcs rfl zbO (by decide) rfl) ?_
  refine de rfl (zJ (i := 1) zbO rfl rfl (.inl ⟨rfl, rfl⟩) ?_)
  refine dq (zK zbO rfl) ?_
  refine dmv rfl ?_
  refine dn ?_
  refine zq ?_
  refine zak [10, 35, 36, 37, 38, 39, 40, 41, 42, 43, 44, 45, 46, 47, 48, 49, 50, 51, 52, 53, 54, 55, 56, 57, 58, 59, 60, 61, 62, 63, 64, 65, 66, 67, 68, 69, 70, 71, 72, 73, 74] (fun (k : Nat) => [(35, .int .i64 k)]) (fun (k : Nat) => (.cells b7 [.int .i64 (((E.take k).map (·.p)).foldl (zbI m t) (zcB m t a))] :: (FL bf m o fn E ++ S))) (fun (k : Nat) => k ≤ E.length ∧ (True)) (fun (k : Nat) => E.length - k) (0) ?_ ?_ ?_ ?_
  ·exact ⟨Nat.zero_le _, trivial⟩
  ·exact ⟨rfl, trivial⟩
  ·exact zR rfl
  ·intro k hinv
   obtain ⟨hk, -⟩ := hinv
   refine za ?_
   refine dq (zS rfl rfl) ?_
   refine dn ?_
   refine zj ?_
   refine zi rfl (fun h3 => ?_) (fun h4 => ?_)
   ·try simp at h3
    obtain ⟨d, hd⟩ : ∃ d, E[k]? = some d := ⟨_, List.getElem?_eq_getElem h3⟩
    have hdd := zU hd
    refine zm ?_
    refine zh ?_
    refine zj ?_
    refine zq ?_
    refine za ?_
    refine dq (zW (j := k) (a := d) zbO zda rfl rfl rfl hd) ?_
    refine dq (zg zda rfl rfl rfl) ?_
    refine das rfl ?_
    refine dn ?_
    refine za ?_
    refine dmv rfl ?_
    refine dmv rfl ?_
    refine dq ((by first | exact zx rfl | exact zp rfl)) ?_
    refine dq (ze zbu rfl zam (by decide) rfl) ?_
    refine dq (ze zam rfl zbZ (by decide) rfl) ?_
    refine dq (ze zbZ rfl ty3 (by decide) rfl) ?_
    refine de rfl (zJ (i := 3 * k + 1 + 1) ty3 rfl (zbB (bf := bf) (m := m) (o := o) (fn := fn) (S := S) hd) (.inl ⟨rfl, rfl⟩) ?_)
    refine de rfl (EOp.mono ?_ ((zdj (M := [.cells b7 [.int .i64 (((E.take k).map (·.p)).foldl (zbI m t) (zcB m t a))]]) zld rfl rfl (WeakL.refl _) (zgG (t := t) (out := (((E.take k).map (·.p)).foldl (zbI m t) (zcB m t a))) (x := d.p.1.From))).frame (FL bf m o fn E ++ S)))
    rintro _ _ ⟨N, rfl, rfl, rfl⟩
    refine dn ?_
    refine za ?_
    refine dmv rfl ?_
    refine dmv rfl ?_
    refine dq ((by first | exact zx rfl | exact zp rfl)) ?_
    refine dq (ze zbu rfl zam (by decide) rfl) ?_
    refine dq (ze zam rfl zbZ (by decide) rfl) ?_
    refine dq (ze zbZ rfl ty3 (by decide) rfl) ?_
    refine de rfl (zJ (i := 3 * k + 1 + 1) ty3 rfl (zbB (bf := bf) (m := m) (o := o) (fn := fn) (S := S) hd) (.inl ⟨rfl, rfl⟩) ?_)
    refine de rfl (EOp.mono ?_ ((zdj (M := [.cells b7 [.int .i64 (zbd t (((E.take k).map (·.p)).foldl (zbI m t) (zcB m t a)) d.p.1.From)]]) zld rfl rfl (WeakL.refl _) (zgG (t := t) (out := (zbd t (((E.take k).map (·.p)).foldl (zbI m t) (zcB m t a)) d.p.1.From)) (x := d.p.1.To))).frame (FL bf m o fn E ++ S)))
    rintro _ _ ⟨N, rfl, rfl, rfl⟩
    refine dn ?_
    refine za ?_
    refine dmv rfl ?_
    refine dq ((by first | exact zx rfl | exact zp rfl)) ?_
    refine dq (ze zbu rfl ty3 (by decide) rfl) ?_
    refine de rfl (zJ (i := 3 * k + 1 + 1) ty3 rfl (zbB (bf := bf) (m := m) (o := o) (fn := fn) (S := S) hd) (.inl ⟨rfl, rfl⟩) ?_)
    refine dq (zau rfl rfl) ?_
    refine dn ?_
    refine zi rfl (fun h5 => ?_) (fun h6 => ?_)
    ·try simp at h5
     refine zbU (fun M => ∃ z : Int, M = (.cells b7 [.int .i64 z] :: (FL bf m o fn E ++ S))) [4, 8] mixed ?_
     refine ahp 0 rfl rfl (by kernel_rfl) (by kernel_rfl) (zf rfl) ?_
     refine ahp 1 rfl rfl (by kernel_rfl) (by kernel_rfl) (zf rfl) ?_
     refine ahp 2 rfl rfl (by kernel_rfl) (by kernel_rfl) ((by first | exact zx rfl | exact zp rfl)) ?_
     refine ahp 3 rfl rfl (by kernel_rfl) (by kernel_rfl) (ze zbu rfl ty3 (by decide) rfl) ?_
     refine ahl 4 rfl rfl (by kernel_rfl) (by kernel_rfl) (by simp) ⟨_, rfl⟩ (fun M hM => by obtain ⟨z, rfl⟩ := hM; exact zJ (i := 3 * k + 1 + 1) ty3 rfl (zbB (bf := bf) (m := m) (o := o) (fn := fn) (S := S) hd) (.inl ⟨rfl, rfl⟩) ⟨rfl, rfl⟩) ?_
     refine ahp 5 rfl rfl (by kernel_rfl) (by kernel_rfl) (zf rfl) ?_
     refine ahp 6 rfl rfl (by kernel_rfl) (by kernel_rfl) ((by first | exact zx rfl | exact zp rfl)) ?_
     refine ahp 7 rfl rfl (by kernel_rfl) (by kernel_rfl) (ze zcs rfl zd0 (by decide) rfl) ?_
     refine ahl 8 rfl rfl (by kernel_rfl) (by kernel_rfl) (by simp) ⟨_, rfl⟩ (fun M hM => by obtain ⟨z, rfl⟩ := hM; exact zJ (i := 1) zd0 rfl rfl (.inl ⟨rfl, rfl⟩) ⟨rfl, rfl⟩) ?_
     refine ahp 9 rfl rfl (by kernel_rfl) (by kernel_rfl) ((by first | exact zx rfl | exact zp rfl)) ?_
     refine ahp 10 rfl rfl (by kernel_rfl) (by kernel_rfl) ((by first | exact zb zT rfl ty3 (by decide) rfl | exact ze zT rfl ty3 (by decide) rfl)) ?_
     refine ahp 11 rfl rfl (by kernel_rfl) (by kernel_rfl) (zg ty3 rfl rfl rfl) ?_
     have hsb1 := hsb d (List.mem_of_getElem? hd) (by simpa using h5)
     refine ahp 12 rfl rfl (by kernel_rfl) (by kernel_rfl) (zB rfl rfl (by omega) (by omega)) ?_
     refine ahe 13 rfl (by kernel_rfl) ?_
     refine zv rfl (EOp.mono ?_ ((zdj (M := [.cells b7 [.int .i64 (zbd t (zbd t (((E.take k).map (·.p)).foldl (zbI m t) (zcB m t a)) d.p.1.From) d.p.1.To)]]) zld rfl rfl (WeakL.refl _) (zgG (t := t) (out := (zbd t (zbd t (((E.take k).map (·.p)).foldl (zbI m t) (zcB m t a)) d.p.1.From) d.p.1.To)) (x := d.p.2.since + m.Wait))).frame (FL bf m o fn E ++ S)))
     rintro _ _ ⟨N, rfl, rfl, rfl⟩
     refine ⟨fun _ => .inl ⟨_, rfl⟩, ?_⟩
     refine ahz (by kernel_rfl) ?_
     refine zy ?_
     refine zh ?_
     refine zC ?_
     refine dq (zB rfl rfl (by omega) (by omega)) ?_
     refine dmv rfl ?_
     refine dn ?_
     exact ⟨k + 1, ⟨by omega, trivial⟩, by dsimp only; omega, ⟨rfl, trivial⟩, (by repeat (first | exact zt | refine zw rfl ?_ | refine zu rfl rfl ?_)), zR (by dsimp only; rw [zaI hd, List.map_append, List.foldl_append]; show _ = MObj.cells b7 [.int .i64 (zbI m t _ d.p)] :: _; unfold zbI; rw [if_pos (by simpa using h5)]; rfl)⟩
    ·try simp at h6
     refine zm ?_
     refine zy ?_
     refine zh ?_
     refine zC ?_
     refine dq (zB rfl rfl (by omega) (by omega)) ?_
     refine dmv rfl ?_
     refine dn ?_
     exact ⟨k + 1, ⟨by omega, trivial⟩, by dsimp only; omega, ⟨rfl, trivial⟩, (by repeat (first | exact zt | refine zw rfl ?_ | refine zu rfl rfl ?_)), zR (by dsimp only; rw [zaI hd, List.map_append, List.foldl_append]; show _ = MObj.cells b7 [.int .i64 (zbI m t _ d.p)] :: _; unfold zbI; rw [if_neg (by simpa using h6)]; rfl)⟩
   ·try simp at h4
    have hnk : E.length ≤ k := by omega
    obtain rfl : k = E.length := by omega
    rw [List.take_length]
    refine zX ?_
    refine z7 ?_
    refine zaw ?_
    refine zO ?_
    refine zh ?_
    refine za ?_
    first
    | refine de rfl (zJ (i := 0) ty3 rfl rfl (.inl ⟨rfl, rfl⟩) ?_)
    | refine de rfl (zJ (i := 1) ty3 rfl rfl (.inl ⟨rfl, rfl⟩) ?_)
    | refine de rfl (zJ (i := 2) ty3 rfl rfl (.inl ⟨rfl, rfl⟩) ?_)
    | refine de rfl (zJ (i := 3) ty3 rfl rfl (.inl ⟨rfl, rfl⟩) ?_)
    refine das rfl ?_
    refine dn ?_
    refine zl ?_
    exact zbE Ghost.drop rfl ⟨rfl, rfl⟩
end
end Go.Proofs.YtpcaaekefgkhjaaGreatDoor
namespace Go.HL
section
/-! how often owners change -/
def c3 (ds : List DD) : Nat := ds.countP fun p => p.2.how == 3
theorem ztX {f : DD → DD} (h : ∀ p, ((f p).2.how = 3 ↔ p.2.how = 3)) (ds : List DD) : c3 (ds.map f) = c3 ds := by
 unfold c3
 rw [List.countP_map]
 refine List.countP_congr fun p _ => ?_
 simp [h p]
theorem zu1 (t : Int) (p : DD) : (zcQ t p).2.how = 3 ↔ p.2.how = 3 := by
 unfold zcQ; split
 ·rename_i h; constructor
  ·intro e; simp at e
  ·intro e; omega
 ·exact Iff.rfl
theorem zuT (m : MarketS) (a : ReplyS) (p : DD) : (zb2 m a p).2.how = 3 ↔ p.2.how = 3 := by
 unfold zb2 zbo
 split
 ·exact Iff.rfl
 rename_i h
 have hn : p.2.how ≠ 3 := fun e => h ⟨by omega, by omega⟩
 split
 ·split
  ·simp [hn]
  ·simp [hn]
 split
 ·simp [hn]
 split
 ·simp [hn]
 split
 ·split <;> simp [hn]
 ·exact Iff.rfl
theorem zgo (p : DD) (r : List DD) : c3 (p :: r) = c3 r + (if p.2.how = 3 then 1 else 0) := by
 unfold c3; rw [List.countP_cons]; simp
theorem zq6 (m : MarketS) (a : ReplyS) : ∀ ds, c3 (zcS m a ds) = c3 ds
 | [] => rfl
 | p :: r => by
   rw [zcS]; split
   ·rw [zgo, zgo]; simp only [zuT]
   ·rw [zgo, zgo, zq6 m a r]
theorem zrj (m : MarketS) : ∀ (rs : List ReplyS) (ds : List DD), c3 (zeC m rs ds) = c3 ds
 | [], _ => rfl
 | a :: r, ds => by
   have := zrj m r (zcS m a ds)
   unfold zeC at this ⊢
   rw [List.foldl_cons, this, zq6]
theorem zvp (m : MarketS) (t : Int) (o : List OwnerS) (p : DD) : (if (zba m t o p).2.1.2.how = 3 then 1 else 0) = (if p.2.how = 3 then 1 else 0) + (zba m t o p).2.2.length := by
 unfold zba zbo
 split
 ·rename_i h
  have hn : p.2.how ≠ 3 := by omega
  split
  ·simp [hn]
  split <;> simp [hn]
 split
 ·rename_i h
  have hn : p.2.how ≠ 3 := by omega
  simp [hn]
 ·simp
theorem zqR (m : MarketS) (t : Int) : ∀ (ds : List DD) (o : List OwnerS), c3 (zbq m t o ds).ds = c3 ds + (zbq m t o ds).log.length
 | [], _ => rfl
 | p :: r, o => by
   have h1 := zvp m t o p
   have h2 := zqR m t r (zba m t o p).1
   rw [zbq]; dsimp only
   rw [zgo, zgo, h2, h1, List.length_append]; omega
theorem zsq (m : MarketS) (o : List OwnerS) (l : List DealS) (a : List ReplyS) : ∀ n, c3 (zaz m o l a n).ds = (zaz m o l a n).log.length
 | 0 => by
   show c3 (l.map fun x => (x, zg6)) = 0
   unfold c3
   rw [List.countP_eq_zero]
   intro p hp
   obtain ⟨x, _, rfl⟩ := List.mem_map.1 hp
   show ¬ ((0 : Int) == 3) = true
   decide
 | n + 1 => by
   have ih := zsq m o l a n
   rw [zaz, stF]; dsimp only
   rw [zqR, zrj, ztX (zu1 n), ih, List.length_append]
theorem zpn (m : MarketS) (o : List OwnerS) (l : List DealS) (a : List ReplyS) (n : Nat) : (zaz m o l a n).log.length ≤ l.length := by
 rw [← zsq]
 have h1 : (zaz m o l a n).ds.length = l.length := by
  have := congrArg List.length (zeV m o l a n)
  simpa using this
 rw [← h1]
 exact List.countP_le_length
/-! one za4 -/
theorem zrU {m : MarketS} {o : List OwnerS} {l : List DealS} {a : List ReplyS} {p : Int} {qs ps : List DD} (hp : 0 ≤ p) (hq : qs = (zaz m o l a p.toNat).ds.map (zcQ p)) (ha : zeC m (atL a p) qs = ps) :
 zaz m o l a (p.toNat + 1) = ⟨(zbq m p (zaz m o l a p.toNat).o ps).o, (zbq m p (zaz m o l a p.toNat).o ps).ds, (zaz m o l a p.toNat).log ++ (zbq m p (zaz m o l a p.toNat).o ps).log⟩ := by
 have e : ((p.toNat : Nat) : Int) = p := by omega
 rw [zaz, stF, e, ← hq, ha]
theorem zny {E : List DV} {t : Int} : (E.map (zfU t)).map (·.p) = (E.map (·.p)).map (zcQ t) := by
 rw [List.map_map, List.map_map]; rfl
section
variable {m : MarketS} {o : List OwnerS} {l : List DealS} {a : List ReplyS} {E : List DV}
theorem zo2 (l : List DealS) : (ini l).map (·.1) = l := by
 unfold ini
 rw [List.map_map]
 exact (List.map_congr_left (g := id) fun _ _ => rfl).trans (List.map_id l)
theorem zsp (h : (E.map (·.p)).map (·.1) = l) : ∀ d ∈ E, d.p.1 ∈ l := fun d hd => by
 rw [← h]; exact List.mem_map_of_mem (List.mem_map_of_mem hd)
theorem zh8 (h : (E.map (·.p)).map (·.1) = l) : E.length = l.length := by
 rw [← h]; simp
theorem zue (h : E.map (·.p) = ini l) : ∀ d ∈ E, d.p.2.how = 2 → 0 ≤ d.p.2.since ∧ d.p.2.since ≤ 345686400000 := fun d hd hh => by
 have : d.p ∈ ini l := by rw [← h]; exact List.mem_map_of_mem hd
 obtain ⟨x, _, hx⟩ := List.mem_map.1 this
 rw [← hx] at hh; cases hh
theorem zuE {n : Nat} (hf : FOk m l) (hn : (n : Int) ≤ 345686400001) (h : E.map (·.p) = (zaz m o l a n).ds) : ∀ d ∈ E, d.p.2.how = 2 → 0 ≤ d.p.2.since ∧ d.p.2.since ≤ 345686400000 := fun d hd hh => by
 have h1 : d.p ∈ (zaz m o l a n).ds := by rw [← h]; exact List.mem_map_of_mem hd
 have := (zgn hf n d.p h1).1.since (by omega)
 omega
theorem zvl {p : Int} {rs : List ReplyS} (hf : FOk m l) (hp : 0 ≤ p) (hn : p ≤ 345686400000) (hr : ∀ r ∈ rs, r.At = p) (h : E.map (·.p) = zeC m rs ((zaz m o l a p.toNat).ds.map (zcQ p))) : ∀ d ∈ E, d.p.2.how = 2 → 0 ≤ d.p.2.since ∧ d.p.2.since ≤ 345686400000 := fun d hd hh => by
 have e : ((p.toNat : Nat) : Int) = p := by omega
 have h0 := ztJ (o := o) (a := a) (rs := rs) (n := p.toNat) hf (by rw [e]; exact hr)
 rw [e] at h0
 have h1 := (h0 d.p (by rw [← h]; exact List.mem_map_of_mem hd)).1.since (by omega)
 omega
end
theorem ztS {a : List ReplyS} {p : Int} : ∀ r ∈ atL a p, r.At = p := fun r hr => by
 unfold atL at hr
 simpa using (List.mem_filter.1 hr).2
/-! a new record on the floor -/
theorem ztk (E : List DV) (d : DV) : flD (E ++ [d]) = flD E ++ o3 d := by unfold flD; rw [List.flatMap_append]; simp
theorem zme {x y : MObj} {E : List DV} {d : DV} {S : List MObj} : (.cells d.b (cD d) :: .map d.mv (sk (zbh d.p.2.veto)) :: .map d.my (sk (zbh d.p.2.yes)) :: x :: y :: (flD E ++ S)).Perm (x :: y :: (flD (E ++ [d]) ++ S)) := by
 rw [ztk, List.append_assoc]
 have h1 : (MObj.cells d.b (cD d) :: .map d.mv (sk (zbh d.p.2.veto)) :: .map d.my (sk (zbh d.p.2.yes)) :: x :: y :: (flD E ++ S)).Perm (o3 d ++ (x :: y :: (flD E ++ S))) := List.Perm.cons _ (List.Perm.swap _ _ _)
 refine h1.trans ?_
 have h2 : (o3 d ++ ((x :: y :: flD E) ++ S)).Perm ((x :: y :: flD E) ++ (o3 d ++ S)) := by
  rw [← List.append_assoc, ← List.append_assoc]
  exact (List.perm_append_comm).append_right S
 exact h2
theorem zqV {x y : MObj} {E : List DV} {d : DV} {S : List MObj} : (.cells d.b (cD d) :: .map d.my (sk (zbh d.p.2.yes)) :: .map d.mv (sk (zbh d.p.2.veto)) :: x :: y :: (flD E ++ S)).Perm (x :: y :: (flD (E ++ [d]) ++ S)) :=
 (List.Perm.cons _ (List.Perm.swap _ _ _)).trans zme
theorem zmE {a : List ReplyS} {i : Nat} {x : ReplyS} (h : a[i]? = some x) : (a.drop i).getD 0 zbN = x := by
 rw [List.getD_eq_getElem?_getD, List.getElem?_drop, Nat.add_zero, h]; rfl
end
end Go.HL
namespace Go.Proofs.YtpcaaekefgkhjaaGreatDoor
set_option maxRecDepth 100000
set_option linter.unusedVariables false
set_option linter.unusedSimpArgs false
section
open Go.HL
set_option maxHeartbeats 4000000 in
/-- benchwarmer/trade.follow -/
theorem zob [Tracks] {m : MarketS} {o : List OwnerS} {l : List DealS} {a : List ReplyS} {u : Int} {fid : FuncId} {caps : List HVal} {σ : Type} {I : List (List OwnerS) → σ → Prop} {S : σ → List MObj} {st : σ} {lg : List (List OwnerS)}  (hca : Callable Tryz.prog fid) (hdone : ∀ (g : List (List OwnerS)) (s : σ) (x : List OwnerS), g.length ≤ 1000000 → x.length ≤ 1000000 → I g s → Con Tryz.prog fid ([za8 x] ++ caps) (S s) fun r M' => ∃ s', r = .tup [] ∧ M' = S s' ∧ I (g ++ [x]) s') (hI : I lg st) (ht : m.Teams.length ≤ 1000000) (h0o : l ≠ [] → 0 < o.length) (ho : o.length ≤ 1000000) (hs : SortedS (o.map (·.Player))) (hl : l.length ≤ 1000) (hG : ∀ x ∈ l, x.Gives.length ≤ 1000) (hf : FOk m l) (hsa : zl5 a) (ha : a.length ≤ 1000000) (ha0 : ∀ r ∈ a, 0 ≤ r.At) (hu : 0 ≤ u ∧ u < 345686400000) (hwt : 0 ≤ m.Wait ∧ m.Wait ≤ 864000000) (hlg : lg.length ≤ 1000) : Con Tryz.prog 54 [.vptr (zn (zaM m)) 0, za8 o, zec l, zb3 a, .int .i64 u, (.fn (.func fid) [] caps)] (S st) (fun x M' => ∃ b22 E' s', x = pAt b22 ∧ M' = (FL b22 m (zaz m o l a (u + 1).toNat).o (.fn (.func fid) [] caps) E' ++ S s') ∧ E'.map (·.p) = (zaz m o l a (u + 1).toNat).ds ∧ I (lg ++ (zaz m o l a (u + 1).toNat).log.map (·.2)) s') := by
 refine Con.of_body Tryz.func54 rfl Tryz.ntmps54 rfl rfl ?_
 refine za ?_
 refine das rfl ?_
 refine dn ?_
 refine za ?_
 refine dmv rfl ?_
 refine dmv rfl ?_
 refine de rfl (ze2 ca86 rfl (WeakL.refl _) (zcM (l := o) ho) fun v19 => ?_)
 refine dmv rfl ?_
 refine dq (zaB (cs := [_, _, _, _]) zcs zuI rfl) ?_
 refine de rfl (zhq rfl rfl fun b22 => ?_)
 refine das rfl ?_
 refine dn ?_
 refine zL (Ghost.fcell (i := 1) (k := 0) (j := 2) rfl rfl rfl) ?_
 refine zL (Ghost.of_eq (M' := .cells b22 [.vptr (zn (zaM m)) 0, .raw (.slice none 0 0), za8 o, (.fn (.func fid) [] caps)] :: S st) rfl) ?_
 refine zL (Ghost.arr_nil 1) ?_
 refine zj ?_
 refine za ?_
 refine dmv rfl ?_
 refine dq (zK zdv rfl) ?_
 refine dmv rfl ?_
 refine dn ?_
 refine zq ?_
 refine zfO [15, 25, 26, 27, 28, 29, 30, 31, 32, 33, 34, 35, 36, 37, 38, 39, 40, 41, 42, 43, 44, 45] (fun (k : Nat) (v : Value) (E : List DV) => [(25, .int .i64 k)]) (fun (k : Nat) (v : Value) (E : List DV) => (.cells b22 [.vptr (zn (zaM m)) 0, .raw v, za8 o, (.fn (.func fid) [] caps)] :: .arr v 1 (E.map pD) :: (flD E ++ S st))) (fun (k : Nat) (v : Value) (E : List DV) => k ≤ l.length ∧ (E.map (·.p) = ini (l.take k))) (fun (k : Nat) (v : Value) (E : List DV) => l.length - k) (0) (.slice none 0 0) ([]) ?_ ?_ ?_ ?_
 ·exact ⟨Nat.zero_le _, rfl⟩
 ·exact ⟨rfl, trivial⟩
 ·exact (List.Perm.swap _ _ _)
 ·intro k v E hinv
  obtain ⟨hk, hg⟩ := hinv
  refine za ?_
  refine dq (zS rfl rfl) ?_
  refine dn ?_
  refine zj ?_
  refine zi rfl (fun h1 => ?_) (fun h2 => ?_)
  ·try simp at h1
   obtain ⟨x, hx⟩ : ∃ x, l[k]? = some x := ⟨_, List.getElem?_eq_getElem h1⟩
   have hdx := zU hx
   have hg0 : (E.map (·.p)).map (·.1) = l.take k := by rw [hg, zo2]
   refine zm ?_
   refine zh ?_
   refine zj ?_
   refine zq ?_
   refine za ?_
   refine dq (zW zdv zam rfl rfl rfl (by first | assumption | simp_all)) ?_
   refine dq (zH zam rfl rfl rfl rfl) ?_
   refine de rfl (zY zam rfl fun b15 => ?_)
   refine de0 (zad zam rfl rfl rfl rfl rfl ?_)
   refine dn ?_
   refine zL (Ghost.fc0 15 rfl) ?_
   refine zbU (fun M => ∃ i : Nat, M[i]? = some (.cells b22 [.vptr (zn (zaM m)) 0, .raw v, za8 o, (.fn (.func fid) [] caps)])) [4] mixed ?_
   refine ahp 0 rfl rfl (by kernel_rfl) (by kernel_rfl) (zf rfl) ?_
   refine ahp 1 rfl rfl (by kernel_rfl) (by kernel_rfl) (zf rfl) ?_
   refine ahp 2 rfl rfl (by kernel_rfl) (by kernel_rfl) ((by first | exact zx rfl | exact zp rfl)) ?_
   refine ahp 3 rfl rfl (by kernel_rfl) (by kernel_rfl) (ze zcs rfl zbO (by decide) rfl) ?_
   refine ahl 4 rfl rfl (by kernel_rfl) (by kernel_rfl) (by simp) ⟨0, rfl⟩ (fun M hM => by obtain ⟨i, hi⟩ := hM; exact zJ (i := i) zbO rfl hi (.inl ⟨rfl, rfl⟩) ⟨rfl, rfl⟩) ?_
   refine ahp 5 rfl rfl (by kernel_rfl) (by kernel_rfl) (zH zam rfl rfl rfl rfl) ?_
   refine ahp 6 rfl rfl (by kernel_rfl) (by kernel_rfl) (zH zam rfl rfl rfl rfl) ?_
   refine ahp 7 rfl rfl (by kernel_rfl) (by kernel_rfl) (zo ca87 rfl (WeakL.refl _) (zf1 (x := x) (hG x (List.mem_of_getElem? hx)))) ?_
   refine zhm 8 9 rfl rfl (by kernel_rfl) ?_ ?_
   ·skip
    refine zv rfl (zbx fun m37 => ?_)
    refine ⟨fun _ => by first | exact .inl ⟨0, rfl⟩ | exact .inl ⟨1, rfl⟩ | exact .inl ⟨2, rfl⟩ | exact .inr (by simp [zaO, Region.binds]), ?_⟩
    refine ahe 9 rfl (by kernel_rfl) ?_
    refine zv rfl (zbx fun m38 => ?_)
    refine ⟨fun _ => by first | exact .inl ⟨0, rfl⟩ | exact .inl ⟨1, rfl⟩ | exact .inl ⟨2, rfl⟩ | exact .inr (by simp [zaO, Region.binds]), ?_⟩
    refine ahp 10 rfl rfl (by kernel_rfl) (by kernel_rfl) (zaB (cs := [_, _, _, _, _, _, _, _, _, _]) zbu zsH rfl) ?_
    refine ahe 11 rfl (by kernel_rfl) ?_
    refine zv rfl (zhq rfl rfl fun b40 => ?_)
    refine ⟨fun _ => .inl ⟨3, rfl⟩, ?_⟩
    refine ahp 12 rfl rfl (by kernel_rfl) (by kernel_rfl) (zG (hs := [_]) zbO zda rfl rfl (by decide) (by decide) rfl) ?_
    refine ahe 13 rfl (by kernel_rfl) ?_
    refine zv rfl (zay (i := 4) (v := v) (es := E.map pD) zbO zda rfl rfl rfl rfl rfl (by simp [zbe, zn]) (by have := zh8 hg0; rw [List.length_take] at this; simp; omega) fun v42 => ?_)
    refine ⟨fun _ => .inl ⟨3, rfl⟩, ?_⟩
    refine ahp 14 rfl rfl (by kernel_rfl) (by kernel_rfl) ((by first | exact zx rfl | exact zp rfl)) ?_
    refine ahp 15 rfl rfl (by kernel_rfl) (by kernel_rfl) (ze zcs rfl zbO (by decide) rfl) ?_
    refine ahe 16 rfl (by kernel_rfl) ?_
    refine zab (zz (i := 3) zbO rfl rfl rfl rfl rfl (by simp) ?_)
    refine ⟨fun _ => .inr (by simp [zaO, Region.binds]), ?_⟩
    refine ahz (by kernel_rfl) ?_
    refine zy ?_
    refine zh ?_
    refine zC ?_
    refine dq (zB rfl rfl (by omega) (by omega)) ?_
    refine dmv rfl ?_
    refine dn ?_
    exact ⟨k + 1, v42, E ++ [⟨(x, zg6), b40, m37, m38⟩], ⟨by omega, by rw [List.map_append, hg, zaI hx]; simp [ini]⟩, by dsimp only; omega, ⟨rfl, trivial⟩, (by repeat (first | exact zt | refine zw rfl ?_ | refine zu rfl rfl ?_)), (zme (d := ⟨(x, zg6), b40, m37, m38⟩)).trans (zR (by dsimp only; rw [List.map_append]; rfl))⟩
   ·skip
    refine zv rfl (zbx fun m38 => ?_)
    refine ⟨fun _ => by first | exact .inl ⟨0, rfl⟩ | exact .inl ⟨1, rfl⟩ | exact .inl ⟨2, rfl⟩ | exact .inr (by simp [zaO, Region.binds]), ?_⟩
    refine ahe 8 rfl (by kernel_rfl) ?_
    refine zv rfl (zbx fun m37 => ?_)
    refine ⟨fun _ => by first | exact .inl ⟨0, rfl⟩ | exact .inl ⟨1, rfl⟩ | exact .inl ⟨2, rfl⟩ | exact .inr (by simp [zaO, Region.binds]), ?_⟩
    refine ahp 10 rfl rfl (by kernel_rfl) (by kernel_rfl) (zaB (cs := [_, _, _, _, _, _, _, _, _, _]) zbu zsH rfl) ?_
    refine ahe 11 rfl (by kernel_rfl) ?_
    refine zv rfl (zhq rfl rfl fun b40 => ?_)
    refine ⟨fun _ => .inl ⟨3, rfl⟩, ?_⟩
    refine ahp 12 rfl rfl (by kernel_rfl) (by kernel_rfl) (zG (hs := [_]) zbO zda rfl rfl (by decide) (by decide) rfl) ?_
    refine ahe 13 rfl (by kernel_rfl) ?_
    refine zv rfl (zay (i := 4) (v := v) (es := E.map pD) zbO zda rfl rfl rfl rfl rfl (by simp [zbe, zn]) (by have := zh8 hg0; rw [List.length_take] at this; simp; omega) fun v42 => ?_)
    refine ⟨fun _ => .inl ⟨3, rfl⟩, ?_⟩
    refine ahp 14 rfl rfl (by kernel_rfl) (by kernel_rfl) ((by first | exact zx rfl | exact zp rfl)) ?_
    refine ahp 15 rfl rfl (by kernel_rfl) (by kernel_rfl) (ze zcs rfl zbO (by decide) rfl) ?_
    refine ahe 16 rfl (by kernel_rfl) ?_
    refine zab (zz (i := 3) zbO rfl rfl rfl rfl rfl (by simp) ?_)
    refine ⟨fun _ => .inr (by simp [zaO, Region.binds]), ?_⟩
    refine ahz (by kernel_rfl) ?_
    refine zy ?_
    refine zh ?_
    refine zC ?_
    refine dq (zB rfl rfl (by omega) (by omega)) ?_
    refine dmv rfl ?_
    refine dn ?_
    exact ⟨k + 1, v42, E ++ [⟨(x, zg6), b40, m37, m38⟩], ⟨by omega, by rw [List.map_append, hg, zaI hx]; simp [ini]⟩, by dsimp only; omega, ⟨rfl, trivial⟩, (by repeat (first | exact zt | refine zw rfl ?_ | refine zu rfl rfl ?_)), (zqV (d := ⟨(x, zg6), b40, m37, m38⟩)).trans (zR (by dsimp only; rw [List.map_append]; rfl))⟩
  ·try simp at h2
   have hnk : l.length ≤ k := by omega
   obtain rfl : k = l.length := by omega
   rw [List.take_length] at hg
   have hE1 := hg
   refine zX ?_
   refine z7 ?_
   refine zgK ?_
   refine zO ?_
   refine zh ?_
   refine zj ?_
   refine zL (Ghost.fcell (i := 1) (k := 0) (j := 1) rfl rfl rfl) ?_
   refine zL (Ghost.of_eq (M' := (FL b22 m o (.fn (.func fid) [] caps) E ++ S st)) rfl) ?_
   have hEf : (E.map (·.p)).map (·.1) = l := by rw [hE1, zo2]
   have hEl := zh8 hEf
   refine za ?_
   refine dmv rfl ?_
   refine dmv rfl ?_
   refine de rfl (EOp.mono ?_ (zcI ca88 rfl (WeakL.refl _) (ziY (t := -1) (a := a) (by omega) ha (zue hE1) hwt)))
   rintro _ _ ⟨rfl, rfl⟩
   refine das rfl ?_
   refine dn ?_
   simp only [hE1]
   obtain ⟨hst1, hst2⟩ := zrY (o := o) (u := u) hf ha0 hsa hu.1
   refine zq ?_
   refine zg4 [3, 16, 49, 50, 51, 52, 53, 54, 55, 56, 57, 58, 59, 60, 61, 62, 63, 64, 65, 66, 67, 68, 69, 70, 71, 72, 73, 74, 75, 76, 77, 78, 79, 80, 81, 82, 83] (fun (p : Int) (j : Nat) (E1 : List DV) (s1 : σ) => [(16, .int .i64 p), (3, zb3 (a.drop j))]) (fun (p : Int) (j : Nat) (E1 : List DV) (s1 : σ) => (FL b22 m (zaz m o l a p.toNat).o (.fn (.func fid) [] caps) E1 ++ S s1)) (fun (p : Int) (j : Nat) (E1 : List DV) (s1 : σ) => FI m o l a u p j (E1.map (·.p)) ∧ j ≤ a.length ∧ I (lg ++ (zaz m o l a p.toNat).log.map (·.2)) s1) (fun (p : Int) (j : Nat) (E1 : List DV) (s1 : σ) => (345686400000 - p).toNat) (zcF m (-1) a (ini l)) (0) (E) (st) ?_ ?_ ?_ ?_
   ·exact ⟨by rw [hE1]; exact hst1, Nat.zero_le _, by rw [hst2]; simpa [zni] using hI⟩
   ·exact ⟨rfl, rfl, trivial⟩
   ·exact zR (by rw [hst2]; rfl)
   ·intro p j E1 s1 hinv
    obtain ⟨hfi, hjl, hI1⟩ := hinv
    have hE1f : (E1.map (·.p)).map (·.1) = l := by rw [hfi.ds, zeV]
    have hE1l := zh8 hE1f
    refine zj ?_
    refine za ?_
    refine dmv rfl ?_
    refine dmv rfl ?_
    refine dq (zcX rfl rfl) ?_
    refine dmv rfl ?_
    refine dg rfl rfl (fun hc => ⟨_, OpenTo.refl _, zf rfl⟩) ?_
    refine dg rfl rfl (fun hc => ⟨_, OpenTo.upd (t := 53) rfl (by first | exact hc | simp_all) (OpenTo.refl _), zS rfl rfl⟩) ?_
    refine dq (zA rfl (.inr ⟨_, rfl, fun h => by simp_all⟩) (.inl rfl)) ?_
    refine dn ?_
    refine zi rfl (fun h3 => ?_) (fun h4 => ?_)
    ·try simp at h3
     obtain ⟨hpu, hp2⟩ := h3
     refine zm ?_
     refine zh ?_
     refine zj ?_
     refine zq ?_
     refine za ?_
     refine dmv rfl ?_
     refine dmv rfl ?_
     refine de rfl (EOp.mono ?_ (zcI ca89 rfl (WeakL.refl _) (zjf (t := p) (by omega))))
     rintro _ _ ⟨rfl, rfl⟩
     refine dn ?_
     refine zj ?_
     refine zq ?_
     refine zbi [3, 63, 64, 65, 66, 67, 68, 69, 70, 71, 72, 73, 74, 75, 76, 77, 78, 79, 80] (fun (i : Nat) (E3 : List DV) => [(3, zb3 (a.drop i))]) (fun (i : Nat) (E3 : List DV) => (FL b22 m (zaz m o l a p.toNat).o (.fn (.func fid) [] caps) E3 ++ S s1)) (fun (i : Nat) (E3 : List DV) => AI m a p ((E1.map (zfU p)).map (·.p)) i (E3.map (·.p)) ∧ i ≤ a.length) (fun (i : Nat) (E3 : List DV) => a.length - i) (j) ((E1.map (zfU p))) ?_ ?_ ?_ ?_
     ·exact ⟨AI.start hfi.bef hfi.aft, hjl⟩
     ·exact ⟨rfl, trivial⟩
     ·exact zR rfl
     ·intro i E3 hinv
      obtain ⟨hai, hil⟩ := hinv
      have hE3 : (E3.map (·.p)).map (·.1) = l := by rw [hai.fst, zny, zlW]; exact hE1f
      have hE3l := zh8 hE3
      refine zj ?_
      refine za ?_
      refine dmv rfl ?_
      refine dq (zK zcg rfl) ?_
      refine dq (zae rfl rfl) ?_
      refine dmv rfl ?_
      refine dg rfl rfl (fun hc => ⟨_, OpenTo.refl _, zf rfl⟩) ?_
      refine dg rfl rfl (fun hc => by have hq := hc; (try simp at hq); exact ⟨_, OpenTo.upd (t := 67) rfl (by first | exact hc | simp_all) (OpenTo.refl _), zW (j := 0) (a := (a.drop i).getD 0 zbN) zcg z8 rfl rfl rfl (getD_some (by rw [List.length_drop]; omega))⟩) ?_
      refine dg rfl rfl (fun hc => ⟨_, OpenTo.upd (t := 68) rfl (by first | exact hc | simp_all) (OpenTo.refl _), (by first | exact zb z8 rfl ty3 (by decide) rfl | exact ze z8 rfl ty3 (by decide) rfl)⟩) ?_
      refine dg rfl rfl (fun hc => ⟨_, OpenTo.upd (t := 69) rfl (by first | exact hc | simp_all) (OpenTo.refl _), zg ty3 rfl rfl rfl⟩) ?_
      refine dg rfl rfl (fun hc => ⟨_, OpenTo.refl _, zf rfl⟩) ?_
      refine dg rfl rfl (fun hc => ⟨_, OpenTo.upd (t := 71) rfl (by first | exact hc | simp_all) (OpenTo.upd (t := 70) rfl (by first | exact hc | simp_all) (OpenTo.refl _)), zau rfl rfl⟩) ?_
      refine dq (zA rfl (.inr ⟨_, rfl, fun h => by simp_all⟩) (.inl rfl)) ?_
      refine dn ?_
      refine zi rfl (fun h5 => ?_) (fun h6 => ?_)
      ·try simp at h5
       have hil2 : i < a.length := by have q := h5.1; omega
       obtain ⟨x, hx⟩ : ∃ x, a[i]? = some x := ⟨_, List.getElem?_eq_getElem hil2⟩
       have hxp : x.At = p := by have q := h5.2; have q2 := zmE hx; rw [← q2]; simpa using q
       refine zm ?_
       refine zh ?_
       refine zq ?_
       refine za ?_
       refine dmv rfl ?_
       refine dmv rfl ?_
       refine dq (zW (j := 0) (a := x) zcg z8 rfl rfl rfl (by rw [List.getElem?_drop]; exact hx)) ?_
       refine dq (zH z8 rfl rfl rfl rfl) ?_
       refine de rfl (EOp.mono ?_ (zcI ca90 rfl (WeakL.refl _) (zrp (by omega) (fun d hd => hG _ (zsp hE3 d hd)))))
       rintro _ _ ⟨E4, rfl, rfl, hE4⟩
       refine dn ?_
       refine zC ?_
       refine dmv rfl ?_
       refine dq (zfn (zer (l := 1) (h := (a.drop i).length) zcg z8 rfl ⟨_, _, rfl, rfl⟩ rfl (by rw [List.length_drop]; omega) (Nat.le_refl _)) (show _ = zb3 (a.drop (i + 1)) by rw [List.take_length, List.drop_drop])) ?_
       refine das rfl ?_
       refine dn ?_
       refine zy ?_
       exact ⟨i + 1, E4, ⟨by rw [hE4]; exact hai.step hx hxp, by omega⟩, by dsimp only; omega, ⟨rfl, trivial⟩, (by repeat (first | exact zt | refine zw rfl ?_ | refine zu rfl rfl ?_)), zR rfl⟩
      ·try simp at h6
       have hxn : ∀ x, a[i]? = some x → x.At ≠ p := fun x hx q => by
        have h1 := zN hx
        have q2 := zmE hx
        have h2 := h6 (by omega)
        apply h2
        rw [← q, ← q2]; simp
       obtain ⟨hfin, haft⟩ := hai.fin hsa hxn
       obtain ⟨_, hrl, hrs⟩ : True ∧ (zaz m o l a p.toNat).o.length ≤ 1000000 ∧ SortedS ((zaz m o l a p.toNat).o.map (·.Player)) := ⟨trivial, by rw [zfD]; exact ho, by rw [zdW]; exact hs⟩
       have hr0 : E3 ≠ [] → 0 < (zaz m o l a p.toNat).o.length := fun q => by rw [zfD]; refine h0o (fun q2 => q ?_); rw [q2] at hE3l; exact List.length_eq_zero_iff.1 hE3l
       have hmid := zvl (E := E3) (o := o) (a := a) hf hfi.lo hfi.hi ztS (by rw [← hfin, zny, hfi.ds])
       refine zX ?_
       refine z7 ?_
       refine zbr ?_
       refine zO ?_
       refine zh ?_
       refine zC ?_
       refine dmv rfl ?_
       refine dmv rfl ?_
       refine de rfl (EOp.mono ?_ (zcI ca91 rfl (WeakL.refl _) (zi4 (t := p) hca hdone hI1 ht hr0 hrl hrs (by omega) (fun d hd => hG _ (zsp hE3 d hd)) hmid hwt (by have := zpn m o l a p.toNat; simp; omega))))
       rintro _ _ ⟨E5, s2, rfl, rfl, hE5, hI2⟩
       refine dn ?_
       refine zy ?_
       refine zh ?_
       have hr := zrU (o := o) (l := l) (a := a) hfi.lo (zny.trans (congrArg (List.map (zcQ p)) hfi.ds)) hfin
       refine zL (Ghost.of_eq (M' := (FL b22 m (zaz m o l a (p.toNat + 1)).o (.fn (.func fid) [] caps) E5 ++ S s2)) (by rw [hr])) ?_
       have hE6 : E5.map (·.p) = (zaz m o l a (p.toNat + 1)).ds := by rw [hE5, hr]
       have hE5f : (E5.map (·.p)).map (·.1) = l := by rw [hE6, zeV]
       have hE5l := zh8 hE5f
       have hI3 : I (lg ++ (zaz m o l a (p.toNat + 1)).log.map (·.2)) s2 := by rw [hr]; simpa using hI2
       refine zC ?_
       refine dmv rfl ?_
       refine dmv rfl ?_
       refine dmv rfl ?_
       refine de rfl (EOp.mono ?_ (zcI ca88 rfl (WeakL.refl _) (ziY (t := p) (a := a.drop i) (by omega) (by rw [List.length_drop]; omega) (zuE hf (by omega) hE6) hwt)))
       rintro _ _ ⟨rfl, rfl⟩
       refine das rfl ?_
       refine dn ?_
       obtain ⟨q1, q2⟩ := ztF hf hsa hfi.lo hp2 hpu hai.bef haft hE6
       have q3 := (zkm (m := m) (t := p) (a := a.drop i) (ps := E5.map (·.p)) hp2)
       exact ⟨zcF m p (a.drop i) (E5.map (·.p)), i, E5, s2, ⟨q1, hil, by rw [q2]; exact hI3⟩, by dsimp only; omega, ⟨rfl, rfl, trivial⟩, (by repeat (first | exact zt | refine zw rfl ?_ | refine zu rfl rfl ?_)), zR (by dsimp only; rw [q2])⟩
    ·try simp at h4
     have hpu : u < p := by omega
     have hfin := hfi.fin hpu
     refine zX ?_
     refine z7 ?_
     refine zil ?_
     refine zO ?_
     refine zh ?_
     refine za ?_
     refine dmv rfl ?_
     refine das rfl ?_
     refine dn ?_
     refine zl ?_
     exact zbb rfl ⟨b22, E1, s1, rfl, by rw [← hfin], by rw [← hfin]; exact hfi.ds, by rw [← hfin]; exact hI1⟩
end
end Go.Proofs.YtpcaaekefgkhjaaGreatDoor
section
namespace Go.HL
structure StageS where
 Offer : Str
 How : Int
 Since : Int
abbrev zc3 (x : StageS) : HVal := .agg [.str x.Offer, .int .i64 x.How, .int .i64 x.Since]
abbrev zlM (l : List StageS) : HVal := .slice 3 (l.map zc3)
def zfi (p : DD) : List StageS := if p.2.how = 0 then [] else [⟨p.1.Id, p.2.how, p.2.since⟩]
def zb4 (ds : List DD) : List StageS := ds.flatMap zfi
def zby (o : List OwnerS) (s : Str) : Str := match o with | [] => [] | x :: r => if x.Player = s then x.Team else zby r s
def zh7 (s : Str) (acc : List Str) (nx : List OwnerS) : List Str := if acc.getLast? = some (zby nx s) then acc else acc ++ [zby nx s]
def zfj (s : Str) (first : Str) (lg : List (List OwnerS)) : List Str := lg.foldl (zh7 s) [first]
theorem zmM {β : Type} {f : DD → List β} {E : List DV} {k : Nat} {d : DV} (h : E[k]? = some d) : ((E.take (k + 1)).map (·.p)).flatMap f = ((E.take k).map (·.p)).flatMap f ++ f d.p := by
 rw [zaI h, List.map_append, List.flatMap_append]; simp
theorem zkh {β : Type} {f : DD → List β} (hf : ∀ p, (f p).length ≤ 1) : ∀ ds : List DD, (ds.flatMap f).length ≤ ds.length
 | [] => by simp
 | p :: r => by
   have := zkh hf r
   have := hf p
   rw [List.flatMap_cons, List.length_append, List.length_cons]; omega
theorem zn4 (p : DD) : (zfi p).length ≤ 1 := by unfold zfi; split <;> simp
section
variable (m : MarketS) (o : List OwnerS) (l : List DealS) (a : List ReplyS) (u : Int) (s : Str)
abbrev zbw : FS := zaz m o l a (u + 1).toNat
def zeA : Int := if zbX m o l a = 0 ∧ za4 u = false then 1 else zbX m o l a
def zbG : Int := if zbX m o l a ≠ 0 then zbX m o l a else if zby o s = [] then 8 else if za4 u = false then 1 else 0
def zkn : List StageS := if zeA m o l a u ≠ 0 then [] else zb4 (zbw m o l a u).ds
def zks : List OwnerS := if zeA m o l a u ≠ 0 then [] else (zbw m o l a u).o
def zcH : List Str := if zbG m o l a u s ≠ 0 then [] else zfj s (zby o s) ((zbw m o l a u).log.map (·.2))
end
/-! what no fault gives -/
structure TOk (m : MarketS) (o : List OwnerS) (l : List DealS) (a : List ReplyS) : Prop where
 mok : zaf m = 0
 hs : SortedS (o.map (·.Player))
 hl : l.length ≤ 500
 hG : ∀ x ∈ l, x.Gives.length ≤ 1000
 hf : FOk m l
 hsa : zl5 a
 ha : a.length ≤ 2000
 ha0 : ∀ r ∈ a, 0 ≤ r.At
 hwt : 0 ≤ m.Wait ∧ m.Wait ≤ 864000000
theorem ztW {l : List Str} {x y : Str} (hx : x ∈ l) (hy : y ∈ l) (h : x ≠ y) : 2 ≤ l.length := by
 match l, hx, hy with
 | [], hx, _ => cases hx
 | [z], hx, hy => simp at hx hy; exact absurd (hx.trans hy.symm) h
 | _ :: _ :: r, _, _ => simp
theorem zrJ {m : MarketS} {l : List GiveS} (h : zaJ m l = 0) : 2 ≤ (zbz l).length := by
 obtain ⟨h1, _, h3, _⟩ := zfL h
 match l, h1, h3 with
 | [], h1, _ => simp at h1
 | g :: r, _, h3 =>
   have hg := h3 g (by simp)
   unfold zaA at hg
   split at hg
   ·cases hg
   split at hg
   ·cases hg
   split at hg
   ·cases hg
   rename_i hne
   exact ztW (x := g.From) (y := g.To) (zmx.2 (by simp [zcN])) (zmx.2 (by simp [zcN])) hne
theorem zrQ {x y : ReplyS} (h : zca x y < 0) : x.At ≤ y.At := by
 unfold zca at h
 rw [zki] at h
 by_cases hc : zdF x.At y.At = 0
 ·unfold zdF at hc
  split at hc
  ·cases hc
  split at hc
  ·cases hc
  ·omega
 ·rw [if_pos hc] at h
  unfold zdF at h
  split at h
  ·omega
  split at h
  ·omega
  ·omega
theorem zdu {m : MarketS} {o : List OwnerS} {l : List DealS} {a : List ReplyS} (h : zbX m o l a = 0) : TOk m o l a := by
 obtain ⟨h1, h2, h3⟩ := zrC h
 obtain ⟨hm, h4⟩ := zid h1
 obtain ⟨_, h5⟩ := zmv h2
 obtain ⟨_, h6⟩ := zrz h3
 obtain ⟨_, _, o3, _⟩ := zic h4
 obtain ⟨d1, d2, _⟩ := zmN h5
 obtain ⟨r1, r2, r3⟩ := zrx h6
 have hq : 1 ≤ m.Vetoes ∧ 0 ≤ m.Wait ∧ m.Wait ≤ 864000000 := by
  have hm' := hm
  unfold zaf at hm'
  split at hm'
  ·cases hm'
  split at hm'
  ·cases hm'
  split at hm'
  ·rename_i h3; exact absurd hm' h3
  split at hm'
  ·cases hm'
  rename_i h4
  simp only [Bool.or_eq_true, not_or, Bool.not_eq_true] at h4
  have e1 := zdK h4.1.1.1.1
  have e2 := zdK h4.1.1.1.2
  omega
 refine ⟨hm, zp4 o3, d1, fun x hx => ?_, ⟨hq.1, fun x hx => zrJ (zku (d2 x hx))⟩, r3.imp fun h => zrQ h, r1, fun r hr => ?_, hq.2⟩
 ·have := (zfL (zku (d2 x hx))).2.1; omega
 ·have := r2 r hr
  unfold zan at this
  split at this
  ·cases this
  split at this
  ·cases this
  split at this
  ·cases this
  rename_i hmo
  have : za4 r.At = true := by simpa using hmo
  unfold za4 at this
  have := zdK (n := r.At) (lo := 0) (hi := 345686399999) (by simpa using this)
  omega
theorem zjx {u : Int} (h : za4 u = true) : 0 ≤ u ∧ u < 345686400000 := by
 unfold za4 at h
 have := zdK (n := u) (lo := 0) (hi := 345686399999) (by simpa using h)
 omega
theorem zpp {m : MarketS} {o : List OwnerS} {l : List DealS} {a : List ReplyS} {u : Int} (h : zeA m o l a u = 0) : zbX m o l a = 0 ∧ za4 u = true := by
 unfold zeA at h
 split at h
 ·cases h
 ·rename_i hn
  refine ⟨h, ?_⟩
  cases hm : za4 u with
  | true => rfl
  | false => exact absurd ⟨h, hm⟩ hn
/-! the floor with one more object -/
theorem zs3 {bf : Nat} {m : MarketS} {o : List OwnerS} {fn : HVal} {E : List DV} {x : MObj} : (FL bf m o fn E ++ [x])[(flD E).length + 1]? = some x := by
 show (flD E ++ [x])[(flD E).length]? = some x
 rw [List.getElem?_append_right (Nat.le_refl _)]; simp
theorem zo4 {bf : Nat} {m : MarketS} {o : List OwnerS} {fn : HVal} {E : List DV} {x y : MObj} : (FL bf m o fn E ++ [x]).set ((flD E).length + 1) y = FL bf m o fn E ++ [y] := by
 show _ :: (flD E ++ [x]).set (flD E).length y = _ :: (flD E ++ [y])
 rw [List.set_append_right _ _ (Nat.le_refl _)]; simp
theorem Ghost.fal [Tracks] {e : Env} {X : List MObj} {v : Value} {sz : Nat} {es : List HVal} (t : Nat) (ht : e t = some (.raw v)) : Ghost e (X ++ [.arr v sz es]) (upd e t (.slice sz es)) [] :=
 (Ghost.perm (List.perm_append_comm (l₁ := X) (l₂ := [.arr v sz es]))).trans ((Ghost.fa0 t ht).trans Ghost.clear)
/-! where a player has been -/
def WS (b : Nat) (q : Value × List Str) : List MObj := [.cells b [.raw q.1], .arr q.1 1 (q.2.map .str)]
def WI (s first : Str) (g : List (List OwnerS)) (q : Value × List Str) : Prop := q.2 = zfj s first g ∧ q.2 ≠ [] ∧ q.2.length ≤ g.length + 1
theorem zjn (s first : Str) (g : List (List OwnerS)) (x : List OwnerS) : zfj s first (g ++ [x]) = zh7 s (zfj s first g) x := by unfold zfj; rw [List.foldl_append]; rfl
theorem zpF {o : List OwnerS} {k : Nat} {x : OwnerS} {s : Str} (h : o[k]? = some x) : zby (o.drop k) s = if x.Player = s then x.Team else zby (o.drop (k + 1)) s := by rw [zU h]; rfl
end Go.HL
namespace Go.HL
theorem zmh {ws : List Str} (h : 0 < ws.length) : ws.getLast? = some (ws.getD (ws.length - 1) []) := by
 rw [List.getLast?_eq_getElem?, getD_some (by omega)]
theorem zpt {s first : Str} {g : List (List OwnerS)} {x : List OwnerS} {ws : List Str} {v : Value} (h1 : ws = zfj s first g) (h3 : ws.length ≤ g.length + 1) (hl : 0 < ws.length) (h : ¬ zby x s = ws.getD (ws.length - 1) []) : WI s first (g ++ [x]) (v, ws ++ [zby x s]) := by
 refine ⟨?_, by simp, by simp; omega⟩
 rw [zjn, ← h1]
 unfold zh7
 rw [if_neg (by rw [zmh hl]; exact fun e => h (Option.some.inj e).symm)]
theorem zou {s first : Str} {g : List (List OwnerS)} {x : List OwnerS} {ws : List Str} {v : Value} (h1 : ws = zfj s first g) (h3 : ws.length ≤ g.length + 1) (hl : 0 < ws.length) (h : zby x s = ws.getD (ws.length - 1) []) : WI s first (g ++ [x]) (v, ws) := by
 refine ⟨?_, List.length_pos_iff.1 hl, by simp; omega⟩
 rw [zjn, ← h1]
 unfold zh7
 rw [if_pos (by rw [zmh hl, h])]
end Go.HL
end
namespace Go.HL
section
variable {P : Program}
theorem zkL [Tracks] {e : Env} {dst : Option Tmp} {ty : TypeId} {pos : String} {af : Array Edge} {g : Option (Nat × Bool)} {M : List MObj} {K : HVal → List MObj → Prop} {t el : TypeId} {size bytes sz b2 n : Nat} {zero z2 : Value} {d : TD} {parts : Array (Nat × Operand)} {hs : List HVal}
 (hf : Fits P t (.slice el) size bytes zero) (hel : Fits P el d sz b2 z2) (hz : z2.cells.size = sz) (hn : parts.toList.length = n) (hsz : n * sz ≤ 16777216) (h0 : n * sz ≠ 0)
 (hr : zgC e sz 0 parts.toList = some hs) (hk : ∀ v, K (.raw v) (.arr v sz hs :: M)) : EOp P e M ⟨dst, .buildSlice t n parts, ty, pos, af, g⟩ K :=
 EOp.of_run fun I F a w ho hs' => by
  let zr : Array Value := (Array.range (n * sz)).map (z2.cells[· % z2.cells.size]!)
  obtain ⟨rc, h1, h2, h3, h4, h5, h6⟩ := zh9 (I := I) (f := a.eval) parts.toList 0 hs zr hr (fun x hx h hh => ho.one (by simpa [Op.operands] using hx) hh) (by simp [zr, hn])
  have hl : hs.length = n := by omega
  have hpos : 0 < sz := by
   rcases Nat.eq_zero_or_pos sz with h | h
   ·rw [h] at h0; simp at h0
   ·exact h
  have hnle : n ≤ n * sz := Nat.le_mul_of_pos_right n hpos
  refine ⟨.slice (some ⟨w.heap.size, 0, none⟩) n n, .raw (.slice (some ⟨w.heap.size, 0, none⟩) n n), _, push w (.cells rc el (0, 0)), I, ?_, .refl I, hk _, .raw _ rfl, ?_⟩
  ·have hp : (parts.map fun x => (x.1, a.eval x.2)).toList = parts.toList.map fun p => (p.1, a.eval p.2) := by simp
   have hle : ¬ n * sz > 2 ^ 24 := by omega
   simp only [execOp, Instr.buildSlice, Sem.run_bind, run_underlying hf.slice, Result.andThen_ok, hel.run_sizeOf]
   rw [if_neg hle]
   simp only [Sem.run_pure, Result.andThen_ok]
   rw [if_neg h0]
   simp only [Sem.run_bind, hel.run_zero, Result.andThen_ok, Sem.run_pure, hp]
   have h1' : Instr.fill (fun i => some (i * sz, sz)) ((Array.range (n * sz)).map fun x => z2.cells[x % z2.cells.size]!) (parts.toList.map fun p => (p.1, a.eval p.2)) = some rc := h1
   rw [h1']
   simp [newRow]
  ·have hrc : rc.size = n * sz := by rw [h2]; simp [zr]
   exact hs'.new_own (.cells rc el (0, 0)) (.arr (.slice (some ⟨w.heap.size, 0, none⟩) n n) sz hs) rfl (.inr ⟨w.heap.size, 0, n, rc, el, (0, 0), by rw [hl], by simp [push], Free.zero _, h5, ⟨by omega, by omega⟩, by omega, fun i j x c v b1 b2 b3 => h6 i j x c v b1 b2 (by simpa using b3)⟩)
end
end Go.HL
namespace Go.Proofs.YtpcaaekefgkhjaaGreatDoor
set_option maxRecDepth 100000
set_option linter.unusedVariables false
set_option linter.unusedSimpArgs false
section
open Go.HL
/-- benchwarmer/trade.at$1 -/
theorem ztU [Tracks] {x : List OwnerS}  : Con Tryz.prog 80 [za8 x] [] (fun r M' => r = .tup [] ∧ M' = []) := by
 refine Con.of_body Tryz.func80 rfl Tryz.ntmps80 rfl rfl ?_
 refine zm ?_
 exact zai rfl ⟨rfl, rfl⟩

/-- benchwarmer/trade.at -/
theorem zlg [Tracks] {m : MarketS} {o : List OwnerS} {l : List DealS} {a : List ReplyS} {u : Int}  (ht : m.Teams.length ≤ 1000000) (h0o : l ≠ [] → 0 < o.length) (ho : o.length ≤ 1000000) (hs : SortedS (o.map (·.Player))) (hl : l.length ≤ 1000) (hG : ∀ x ∈ l, x.Gives.length ≤ 1000) (hf : FOk m l) (hsa : zl5 a) (ha : a.length ≤ 1000000) (ha0 : ∀ r ∈ a, 0 ≤ r.At) (hu : 0 ≤ u ∧ u < 345686400000) (hwt : 0 ≤ m.Wait ∧ m.Wait ≤ 864000000) : Con Tryz.prog 49 [.vptr (zn (zaM m)) 0, za8 o, zec l, zb3 a, .int .i64 u] [] (fun x M' => ∃ b22 fn E', x = pAt b22 ∧ M' = FL b22 m (zbw m o l a u).o fn E' ∧ E'.map (·.p) = (zbw m o l a u).ds) := by
 refine Con.of_body Tryz.func49 rfl Tryz.ntmps49 rfl rfl ?_
 refine za ?_
 refine das rfl ?_
 refine dn ?_
 refine za ?_
 refine dmv rfl ?_
 refine dmv rfl ?_
 refine dmv rfl ?_
 refine dmv rfl ?_
 refine dmv rfl ?_
 refine de rfl (EOp.mono ?_ (zcI ca54 rfl (WeakL.refl _) (zob (S := fun _ : Unit => []) (I := fun _ _ => True) (st := ()) (lg := []) (u := u) (a := a) (l := l) (o := o) (m := m) ca80 (fun g s x _ _ _ => (ztU).mono fun r M' ⟨h1, h2⟩ => ⟨(), h1, h2, trivial⟩) trivial ht h0o ho hs hl hG hf hsa ha ha0 hu hwt (by simp))))
 rintro _ _ ⟨b22, E', s', rfl, rfl, hE, _⟩
 refine das rfl ?_
 refine dn ?_
 refine zl ?_
 exact zbb rfl ⟨b22, _, E', rfl, by rw [List.append_nil], hE⟩

/-- benchwarmer/trade.fault -/
theorem zit [Tracks] {m : MarketS} {o : List OwnerS} {l : List DealS} {a : List ReplyS}  (ht : m.Teams.length ≤ 1000000) (ho : o.length ≤ 1000000) (hl : l.length ≤ 1000000) (hx0 : ∀ x ∈ l, x.Gives.length ≤ 1000000) (ha : a.length ≤ 1000000) : ConP Tryz.prog 50 [zaM m, za8 o, zec l, zb3 a] (.int .i64 (zbX m o l a)) := by
 refine Con.of_body Tryz.func50 rfl Tryz.ntmps50 rfl rfl ?_
 refine za ?_
 refine dq (zas rfl rfl) ?_
 refine das rfl ?_
 refine dn ?_
 refine zaF (fun _ => True) [] mixed ?_
 refine ahp 0 rfl rfl (by kernel_rfl) (by kernel_rfl) (zH zT rfl rfl rfl rfl) ?_
 refine ahp 1 rfl rfl (by kernel_rfl) (by kernel_rfl) (zf rfl) ?_
 refine ahp 2 rfl rfl (by kernel_rfl) (by kernel_rfl) (zo ca31 rfl (WeakL.refl _) (zfp (m := m) (o := o) ht ho)) ?_
 refine ahp 3 rfl rfl (by kernel_rfl) (by kernel_rfl) (zH zT rfl rfl rfl rfl) ?_
 refine ahp 4 rfl rfl (by kernel_rfl) (by kernel_rfl) (zf rfl) ?_
 refine ahp 5 rfl rfl (by kernel_rfl) (by kernel_rfl) (zo ca82 rfl (WeakL.refl _) (ziC (m := m) (l := l) ht hl hx0)) ?_
 refine ahp 6 rfl rfl (by kernel_rfl) (by kernel_rfl) (zH zT rfl rfl rfl rfl) ?_
 refine ahp 7 rfl rfl (by kernel_rfl) (by kernel_rfl) (zf rfl) ?_
 refine ahp 8 rfl rfl (by kernel_rfl) (by kernel_rfl) (zo ca83 rfl (WeakL.refl _) (zhW (m := m) (l := a) ht ha)) ?_
 refine ahp 9 rfl rfl (by kernel_rfl) (by kernel_rfl) (zG (hs := [_, _, _]) zg0 zjm rfl rfl (by decide) (by decide) rfl) ?_
 refine ahp 10 rfl rfl (by kernel_rfl) (by kernel_rfl) (zo zrK rfl (WeakL.refl _) (zgF (l := [_, _, _]) (by simp))) ?_
 refine ahp 11 rfl rfl (by kernel_rfl) (by kernel_rfl) (zar rfl) ?_
 refine ahz (by kernel_rfl) ?_
 refine zl ?_
 refine zD rfl ?_
 rfl

/-- benchwarmer/trade.momentFault -/
theorem zfo [Tracks] {m : MarketS} {o : List OwnerS} {l : List DealS} {a : List ReplyS} {u : Int}  (ht : m.Teams.length ≤ 1000000) (ho : o.length ≤ 1000000) (hl : l.length ≤ 1000000) (hx0 : ∀ x ∈ l, x.Gives.length ≤ 1000000) (ha : a.length ≤ 1000000) : ConP Tryz.prog 48 [zaM m, za8 o, zec l, zb3 a, .int .i64 u] (.int .i64 (zeA m o l a u)) := by
 refine Con.of_body Tryz.func48 rfl Tryz.ntmps48 rfl rfl ?_
 refine za ?_
 refine dq (zas rfl rfl) ?_
 refine das rfl ?_
 refine dn ?_
 refine za ?_
 refine dq (zH zT rfl rfl rfl rfl) ?_
 refine dmv rfl ?_
 refine dmv rfl ?_
 refine dmv rfl ?_
 refine dq (zo ca50 rfl (WeakL.refl _) (zit ht ho hl hx0 ha)) ?_
 refine das rfl ?_
 refine dn ?_
 refine zj ?_
 refine za ?_
 refine dmv rfl ?_
 refine dq (zau rfl rfl) ?_
 refine dmv rfl ?_
 refine dg rfl rfl (fun hc => ⟨_, OpenTo.refl _, zf rfl⟩) ?_
 refine dg rfl rfl (fun hc => ⟨_, OpenTo.upd (t := 20) rfl (by first | exact hc | simp_all) (OpenTo.refl _), zo zlV rfl (WeakL.refl _) zde⟩) ?_
 refine dg rfl rfl (fun hc => ⟨_, OpenTo.upd (t := 21) rfl (by first | exact hc | simp_all) (OpenTo.refl _), zac rfl⟩) ?_
 refine dq (zA rfl (.inr ⟨_, rfl, fun h => by simp_all⟩) (.inl rfl)) ?_
 refine dn ?_
 refine zi rfl (fun h1 => ?_) (fun h2 => ?_)
 ·try simp at h1
  refine zC ?_
  refine das rfl ?_
  refine dn ?_
  refine zh ?_
  refine za ?_
  refine dmv rfl ?_
  refine das rfl ?_
  refine dn ?_
  refine zl ?_
  refine zD rfl ?_
  show HVal.int .i64 _ = _
  unfold zeA
  simp_all
 ·try simp at h2
  refine zm ?_
  refine zh ?_
  refine za ?_
  refine dmv rfl ?_
  refine das rfl ?_
  refine dn ?_
  refine zl ?_
  refine zD rfl ?_
  show HVal.int .i64 _ = _
  unfold zeA
  simp_all

set_option maxHeartbeats 1000000 in
/-- benchwarmer/trade.Stages -/
theorem zhE [Tracks] {m : MarketS} {o : List OwnerS} {l : List DealS} {a : List ReplyS} {u : Int}  (ht : m.Teams.length ≤ 1000000) (h0o : l ≠ [] → 0 < o.length) (ho : o.length ≤ 1000000) (hl : l.length ≤ 1000000) (hx0 : ∀ x ∈ l, x.Gives.length ≤ 1000000) (ha : a.length ≤ 1000000) : ConP Tryz.prog 13 [zaM m, za8 o, zec l, zb3 a, .int .i64 u] (.tup [zlM (zkn m o l a u), .int .i64 (zeA m o l a u)]) := by
 refine Con.of_body Tryz.func13 rfl Tryz.ntmps13 rfl rfl ?_
 refine za ?_
 refine dq (zas rfl rfl) ?_
 refine das rfl ?_
 refine das rfl ?_
 refine dn ?_
 refine zj ?_
 refine za ?_
 refine dq (zH zT rfl rfl rfl rfl) ?_
 refine dmv rfl ?_
 refine dmv rfl ?_
 refine dmv rfl ?_
 refine dmv rfl ?_
 refine dq (zo ca48 rfl (WeakL.refl _) (zfo ht ho hl hx0 ha)) ?_
 refine das rfl ?_
 refine dn ?_
 refine za ?_
 refine dmv rfl ?_
 refine dq (zaD rfl rfl) ?_
 refine dn ?_
 refine zi rfl (fun h1 => ?_) (fun h2 => ?_)
 ·try simp at h1
  refine za ?_
  refine dmv rfl ?_
  refine das rfl ?_
  refine das rfl ?_
  refine dn ?_
  refine zl ?_
  first
  | exact zcz rfl (za9 (by rw [zkn, if_pos (by simpa using h1)]; exact za3 3) (Weak.refl _))
  | (refine zbE (Ghost.fal 10 rfl) rfl ⟨?_, rfl⟩
     have hz : zeA m o l a u = 0 := by simpa using h2
     show HVal.tup _ = _
     rw [zkn, if_neg (by simp [hz]), hz]; rfl)
 ·try simp at h2
  refine zm ?_
  refine zh ?_
  obtain ⟨htz, hmo⟩ := zpp (m := m) (o := o) (l := l) (a := a) (u := u) (by simpa using h2)
  have tk := zdu htz
  have hub := zjx hmo
  refine za ?_
  refine das rfl ?_
  refine dn ?_
  refine zL (Ghost.arr_nil 3) ?_
  refine zj ?_
  refine za ?_
  refine dmv rfl ?_
  refine dmv rfl ?_
  refine dmv rfl ?_
  refine dmv rfl ?_
  refine de rfl (zbl (M1 := []) (R := [.arr (.slice none 0 0) 3 []]) ca49 rfl (WeakL.refl _) (List.Perm.refl _) (zlg ht h0o ho tk.hs (by have := tk.hl; omega) tk.hG tk.hf tk.hsa ha tk.ha0 hub tk.hwt) ?_)
  rintro _ _ ⟨b29, fn, E, rfl, rfl, hE⟩
  refine dq ((by first | exact zx rfl | exact zp rfl)) ?_
  refine dq (ze zcs rfl zbO (by decide) rfl) ?_
  refine de rfl (zJ (i := 0) zbO rfl rfl (.inl ⟨rfl, rfl⟩) ?_)
  refine dq (zK zbO rfl) ?_
  refine dmv rfl ?_
  refine dn ?_
  have hEl := zh8 (l := l) (E := E) (by rw [hE, zeV])
  have hl5 := tk.hl
  refine zq ?_
  refine zbi [13, 15, 34, 35, 36, 37, 38, 39, 40, 41, 42, 43, 44, 45, 46, 47, 48, 49, 50, 51, 52, 53, 54, 55, 56, 57, 58, 59, 60] (fun (k : Nat) (v : Value) => [(34, .int .i64 k), (13, .raw v)]) (fun (k : Nat) (v : Value) => (FL b29 m (zbw m o l a u).o fn E ++ [.arr v 3 (((zb4 ((E.take k).map (·.p)))).map zc3)])) (fun (k : Nat) (v : Value) => k ≤ E.length ∧ (True)) (fun (k : Nat) (v : Value) => E.length - k) (0) (.slice none 0 0) ?_ ?_ ?_ ?_
  ·exact ⟨Nat.zero_le _, trivial⟩
  ·exact ⟨rfl, rfl, trivial⟩
  ·exact zR rfl
  ·intro k v hinv
   obtain ⟨hk, -⟩ := hinv
   refine za ?_
   refine dq (zS rfl rfl) ?_
   refine dn ?_
   refine zj ?_
   refine zi rfl (fun h3 => ?_) (fun h4 => ?_)
   ·try simp at h3
    obtain ⟨d, hd⟩ : ∃ d, E[k]? = some d := ⟨_, List.getElem?_eq_getElem h3⟩
    have hdd := zU hd
    refine zm ?_
    refine zh ?_
    refine zj ?_
    refine zq ?_
    refine za ?_
    refine dq (zW (j := k) (a := d) zbO zda rfl rfl rfl hd) ?_
    refine dq (zg zda rfl rfl rfl) ?_
    refine das rfl ?_
    refine dn ?_
    refine za ?_
    refine dmv rfl ?_
    refine dq ((by first | exact zx rfl | exact zp rfl)) ?_
    refine dq (ze zbu rfl ty3 (by decide) rfl) ?_
    refine de rfl (zJ (i := 3 * k + 1) ty3 rfl (zbB hd) (.inl ⟨rfl, rfl⟩) ?_)
    refine dq (zaD rfl rfl) ?_
    refine dn ?_
    refine zi rfl (fun h5 => ?_) (fun h6 => ?_)
    ·try simp at h5
     refine zbU (fun M => ∃ z : MObj, M = (FL b29 m (zbw m o l a u).o fn E ++ [z])) [5, 9, 13] mixed ?_
     refine ahp 0 rfl rfl (by kernel_rfl) (by kernel_rfl) (zf rfl) ?_
     refine ahp 1 rfl rfl (by kernel_rfl) (by kernel_rfl) (zf rfl) ?_
     refine ahp 2 rfl rfl (by kernel_rfl) (by kernel_rfl) ((by first | exact zx rfl | exact zp rfl)) ?_
     refine ahp 3 rfl rfl (by kernel_rfl) (by kernel_rfl) (ze zbu rfl zam (by decide) rfl) ?_
     refine ahp 4 rfl rfl (by kernel_rfl) (by kernel_rfl) (ze zam rfl ty9 (by decide) rfl) ?_
     refine ahl 5 rfl rfl (by kernel_rfl) (by kernel_rfl) (by simp) ⟨_, rfl⟩ (fun M hM => by obtain ⟨z, rfl⟩ := hM; exact zJ (i := 3 * k + 1) ty9 rfl (zbB hd) (.inl ⟨rfl, rfl⟩) ⟨rfl, rfl⟩) ?_
     refine ahp 6 rfl rfl (by kernel_rfl) (by kernel_rfl) (zf rfl) ?_
     refine ahp 7 rfl rfl (by kernel_rfl) (by kernel_rfl) ((by first | exact zx rfl | exact zp rfl)) ?_
     refine ahp 8 rfl rfl (by kernel_rfl) (by kernel_rfl) (ze zbu rfl ty3 (by decide) rfl) ?_
     refine ahl 9 rfl rfl (by kernel_rfl) (by kernel_rfl) (by simp) ⟨_, rfl⟩ (fun M hM => by obtain ⟨z, rfl⟩ := hM; exact zJ (i := 3 * k + 1) ty3 rfl (zbB hd) (.inl ⟨rfl, rfl⟩) ⟨rfl, rfl⟩) ?_
     refine ahp 10 rfl rfl (by kernel_rfl) (by kernel_rfl) (zf rfl) ?_
     refine ahp 11 rfl rfl (by kernel_rfl) (by kernel_rfl) ((by first | exact zx rfl | exact zp rfl)) ?_
     refine ahp 12 rfl rfl (by kernel_rfl) (by kernel_rfl) (ze zbu rfl ty3 (by decide) rfl) ?_
     refine ahl 13 rfl rfl (by kernel_rfl) (by kernel_rfl) (by simp) ⟨_, rfl⟩ (fun M hM => by obtain ⟨z, rfl⟩ := hM; exact zJ (i := 3 * k + 1) ty3 rfl (zbB hd) (.inl ⟨rfl, rfl⟩) ⟨rfl, rfl⟩) ?_
     refine ahp 14 rfl rfl (by kernel_rfl) (by kernel_rfl) (zaB (cs := [_, _, _]) zeU pl59 rfl) ?_
     refine ahp 15 rfl rfl (by kernel_rfl) (by kernel_rfl) (zG (hs := [_]) zjs zeU rfl rfl (by decide) (by decide) rfl) ?_
     refine ahe 16 rfl (by kernel_rfl) ?_
     refine zv rfl (zay (i := (flD E).length + 1) (v := v) zjs zeU rfl rfl rfl rfl zs3 (by simp [zbe, zn]) (by have := zkh zn4 ((E.take k).map (·.p)); unfold zb4; simp only [List.length_map, List.length_cons, List.length_nil, List.length_take] at *; omega) fun v59 => ?_)
     refine ⟨fun _ => .inl ⟨_, zo4⟩, ?_⟩
     refine ahp 17 rfl rfl (by kernel_rfl) (by kernel_rfl) (zar rfl) ?_
     refine ahz (by kernel_rfl) ?_
     refine zy ?_
     refine zh ?_
     refine zC ?_
     refine dq (zB rfl rfl (by omega) (by omega)) ?_
     refine dmv rfl ?_
     refine dn ?_
     exact ⟨k + 1, v59, ⟨by omega, trivial⟩, by dsimp only; omega, ⟨rfl, rfl, trivial⟩, (by repeat (first | exact zt | refine zw rfl ?_ | refine zu rfl rfl ?_)), zR (by dsimp only; rw [zo4]; unfold zb4; rw [zmM hd]; unfold zfi; rw [if_neg (by simpa using h5)]; simp)⟩
    ·try simp at h6
     refine zm ?_
     refine zy ?_
     refine zh ?_
     refine zC ?_
     refine dq (zB rfl rfl (by omega) (by omega)) ?_
     refine dmv rfl ?_
     refine dn ?_
     exact ⟨k + 1, v, ⟨by omega, trivial⟩, by dsimp only; omega, ⟨rfl, rfl, trivial⟩, (by repeat (first | exact zt | refine zw rfl ?_ | refine zu rfl rfl ?_)), zR (by dsimp only; unfold zb4; rw [zmM hd]; unfold zfi; rw [if_pos (by simpa using h6)]; simp)⟩
   ·try simp at h4
    have hnk : E.length ≤ k := by omega
    obtain rfl : k = E.length := by omega
    rw [List.take_length, hE]
    refine zX ?_
    refine z7 ?_
    refine zbr ?_
    refine zO ?_
    refine zh ?_
    refine za ?_
    refine dmv rfl ?_
    refine das rfl ?_
    refine das rfl ?_
    refine dn ?_
    refine zl ?_
    first
    | exact zcz rfl (za9 (by rw [zkn, if_pos (by simpa using h1)]; exact za3 3) (Weak.refl _))
    | (refine zbE (Ghost.fal 10 rfl) rfl ⟨?_, rfl⟩
       have hz : zeA m o l a u = 0 := by simpa using h2
       show HVal.tup _ = _
       rw [zkn, if_neg (by simp [hz]), hz]; rfl)

/-- benchwarmer/trade.Owners -/
theorem zhs [Tracks] {m : MarketS} {o : List OwnerS} {l : List DealS} {a : List ReplyS} {u : Int}  (ht : m.Teams.length ≤ 1000000) (h0o : l ≠ [] → 0 < o.length) (ho : o.length ≤ 1000000) (hl : l.length ≤ 1000000) (hx0 : ∀ x ∈ l, x.Gives.length ≤ 1000000) (ha : a.length ≤ 1000000) : ConP Tryz.prog 14 [zaM m, za8 o, zec l, zb3 a, .int .i64 u] (.tup [za8 (zks m o l a u), .int .i64 (zeA m o l a u)]) := by
 refine Con.of_body Tryz.func14 rfl Tryz.ntmps14 rfl rfl ?_
 refine za ?_
 refine dq (zas rfl rfl) ?_
 refine das rfl ?_
 refine das rfl ?_
 refine dn ?_
 refine zj ?_
 refine za ?_
 refine dq (zH zT rfl rfl rfl rfl) ?_
 refine dmv rfl ?_
 refine dmv rfl ?_
 refine dmv rfl ?_
 refine dmv rfl ?_
 refine dq (zo ca48 rfl (WeakL.refl _) (zfo ht ho hl hx0 ha)) ?_
 refine das rfl ?_
 refine dn ?_
 refine za ?_
 refine dmv rfl ?_
 refine dq (zaD rfl rfl) ?_
 refine dn ?_
 refine zi rfl (fun h1 => ?_) (fun h2 => ?_)
 ·try simp at h1
  refine za ?_
  refine dmv rfl ?_
  refine das rfl ?_
  refine das rfl ?_
  refine dn ?_
  refine zl ?_
  first
  | exact zcz rfl (za9 (by rw [zks, if_pos (by simpa using h1)]; exact za3 2) (Weak.refl _))
  | (refine zbE Ghost.clear rfl ⟨?_, rfl⟩
     have hz : zeA m o l a u = 0 := by simpa using h2
     show HVal.tup _ = _
     rw [zks, if_neg (by simp [hz]), hz]; rfl)
 ·try simp at h2
  refine zm ?_
  refine zh ?_
  obtain ⟨htz, hmo⟩ := zpp (m := m) (o := o) (l := l) (a := a) (u := u) (by simpa using h2)
  have tk := zdu htz
  have hub := zjx hmo
  refine za ?_
  refine dmv rfl ?_
  refine dmv rfl ?_
  refine dmv rfl ?_
  refine dmv rfl ?_
  refine de rfl (zbl (M1 := []) (R := []) ca49 rfl (WeakL.refl _) (List.Perm.refl _) (zlg ht h0o ho tk.hs (by have := tk.hl; omega) tk.hG tk.hf tk.hsa ha tk.ha0 hub tk.hwt) ?_)
  rintro _ _ ⟨b26, fn, E, rfl, rfl, hE⟩
  refine dq ((by first | exact zx rfl | exact zp rfl)) ?_
  refine dq (ze zcs rfl zaN (by decide) rfl) ?_
  refine de rfl (zJ (i := 0) zaN rfl rfl (.inl ⟨rfl, rfl⟩) ?_)
  refine das rfl ?_
  refine das rfl ?_
  refine dn ?_
  refine zl ?_
  first
  | exact zcz rfl (za9 (by rw [zks, if_pos (by simpa using h1)]; exact za3 2) (Weak.refl _))
  | (refine zbE Ghost.clear rfl ⟨?_, rfl⟩
     have hz : zeA m o l a u = 0 := by simpa using h2
     show HVal.tup _ = _
     rw [zks, if_neg (by simp [hz]), hz]; rfl)

/-- benchwarmer/trade.team -/
theorem zjq [Tracks] {o : List OwnerS} {s : Str} (ho : o.length ≤ 1000000) : ConP Tryz.prog 53 [za8 o, .str s] (.str (zby o s)) := by
 refine Con.of_body Tryz.func53 rfl Tryz.ntmps53 rfl rfl ?_
 refine za ?_
 refine das rfl ?_
 refine dn ?_
 refine zj ?_
 refine za ?_
 refine dmv rfl ?_
 refine dq (zK zaN rfl) ?_
 refine dmv rfl ?_
 refine dn ?_
 refine zq ?_
 refine zak [4, 6, 9, 10, 11, 12, 13, 14, 15, 16, 17, 18, 19] (fun (k : Nat) => [(9, .int .i64 k)]) (fun (k : Nat) => []) (fun (k : Nat) => k ≤ o.length ∧ (zby o s = zby (o.drop k) s)) (fun (k : Nat) => o.length - k) (0) ?_ ?_ ?_ ?_
 ·exact ⟨Nat.zero_le _, rfl⟩
 ·exact ⟨rfl, trivial⟩
 ·exact List.Perm.refl _
 ·intro k hinv
  obtain ⟨hk, hg⟩ := hinv
  refine za ?_
  refine dq (zS rfl rfl) ?_
  refine dn ?_
  refine zj ?_
  refine zi rfl (fun h1 => ?_) (fun h2 => ?_)
  ·try simp at h1
   obtain ⟨x, hx⟩ : ∃ x, o[k]? = some x := ⟨_, List.getElem?_eq_getElem h1⟩
   have hdx := zU hx
   rw [zpF hx] at hg
   refine zm ?_
   refine zh ?_
   refine zj ?_
   refine zq ?_
   refine za ?_
   refine dq (zW zaN zaj rfl rfl rfl (by first | assumption | simp_all)) ?_
   refine dq (zH zaj rfl rfl rfl rfl) ?_
   refine de rfl (zY zaj rfl fun b6 => ?_)
   refine de0 (zad zaj rfl rfl rfl rfl rfl ?_)
   refine dn ?_
   refine zL (Ghost.fc0 6 rfl) ?_
   refine za ?_
   refine dq (zb zaj rfl ty9 (by decide) rfl) ?_
   refine dq (zg ty9 rfl rfl rfl) ?_
   refine dmv rfl ?_
   refine dq (zbt rfl rfl) ?_
   refine dn ?_
   refine zi rfl (fun h3 => ?_) (fun h4 => ?_)
   ·try simp at h3
    refine za ?_
    refine dq (zb zaj rfl ty9 (by decide) rfl) ?_
    refine dq (zg ty9 rfl rfl rfl) ?_
    refine das rfl ?_
    refine dn ?_
    refine zl ?_
    refine zD rfl ?_
    show HVal.str _ = _
    first
    | (rw [hg, if_pos (by simpa using h3)]; done)
    | (rw [hg]; rfl)
   ·try simp at h4
    refine zm ?_
    refine zy ?_
    refine zh ?_
    refine zC ?_
    refine dq (zB rfl rfl (by omega) (by omega)) ?_
    refine dmv rfl ?_
    refine dn ?_
    refine ⟨k + 1, ?_, ?_, ⟨rfl, trivial⟩, (by repeat (first | exact zt | refine zw rfl ?_ | refine zu rfl rfl ?_)), List.Perm.refl _⟩
    ·refine ⟨by omega, ?_⟩
     rw [hg, if_neg (by simpa using h4)]
    ·dsimp only; omega
  ·try simp at h2
   have hnk : o.length ≤ k := by omega
   obtain rfl : k = o.length := by omega
   rw [zaV (Nat.le_refl _)] at hg
   refine zX ?_
   refine z7 ?_
   refine zaw ?_
   refine zO ?_
   refine zh ?_
   refine za ?_
   refine das rfl ?_
   refine dn ?_
   refine zl ?_
   refine zD rfl ?_
   show HVal.str _ = _
   first
   | (rw [hg, if_pos (by simpa using h3)]; done)
   | (rw [hg]; rfl)

/-- benchwarmer/trade.Way$1 -/
theorem ztt [Tracks] {x : List OwnerS} {s first : Str} {b : Nat} {q : Value × List Str} {g : List (List OwnerS)} (hx : x.length ≤ 1000000) (hI : WI s first g q) (hg : g.length ≤ 1000000) : Con Tryz.prog 55 [za8 x, .vptr [.str s] 0, pAt b] (WS b q) (fun r M' => ∃ q', r = .tup [] ∧ M' = WS b q' ∧ WI s first (g ++ [x]) q') := by
 obtain ⟨v, ws⟩ := q
 obtain ⟨hw1, hw2, hw3⟩ := hI
 dsimp only at hw1 hw2 hw3
 have hwl := List.length_pos_iff.2 hw2
 refine Con.of_body Tryz.func55 rfl Tryz.ntmps55 rfl rfl ?_
 refine za ?_
 refine dmv rfl ?_
 refine dq (zg ty9 rfl rfl rfl) ?_
 refine dq (zo ca53 rfl (WeakL.refl _) (zjq (o := x) (s := s) hx)) ?_
 refine das rfl ?_
 refine dn ?_
 refine zL (Ghost.of_eq (M' := [.cells b [.raw v], .arr v 1 (ws.map .str)]) rfl) ?_
 refine zdc (i := 1) rfl (fun h0 he => ?_) (fun ob off cap hv hcap => ?_)
 ·exfalso; have := congrArg List.length he; simp at this; subst this; simp at hwl
 subst hv
 refine za ?_
 refine dmv rfl ?_
 refine de rfl (zJ (i := 0) zP rfl rfl (.inl ⟨rfl, rfl⟩) ?_)
 refine de rfl (zJ (i := 0) zP rfl rfl (.inl ⟨rfl, rfl⟩) ?_)
 refine de rfl (zaG (i := 1) (es := ws) zP rfl rfl ?_)
 refine dq (zap rfl rfl (by omega) (by omega)) ?_
 refine dq (zaC (j := ws.length - 1) zP ty9 rfl rfl (by omega) (by simp; omega)) ?_
 refine de rfl (za7 (i := 1) (j := ws.length - 1) (y := ws.getD (ws.length - 1) []) 0 ty9 rfl (by omega) rfl (getD_some (by omega)) rfl rfl ?_)
 refine dq (zdN rfl rfl) ?_
 refine dn ?_
 refine zi rfl (fun h1 => ?_) (fun h2 => ?_)
 ·try simp at h1
  refine zC ?_
  refine de rfl (zJ (i := 0) zP rfl rfl (.inl ⟨rfl, rfl⟩) ?_)
  refine dmv rfl ?_
  refine dq (zG (hs := [_]) zP ty9 rfl rfl (by decide) (by decide) rfl) ?_
  refine de rfl (zay (i := 1) zP ty9 rfl rfl rfl rfl rfl (by simp [zbe, zn]) (by simp; omega) fun v19 => ?_)
  refine de0 (zz (i := 0) zP rfl rfl rfl rfl rfl (by simp) ?_)
  refine dn ?_
  first
  | exact zai rfl ⟨(v19, ws ++ [zby x s]), rfl, by simp [WS, zZ, zn], zpt hw1 hw3 hwl (by simpa using h1)⟩
  | exact zai rfl ⟨(_, ws), rfl, rfl, zou hw1 hw3 hwl (by simpa using h2)⟩
 ·try simp at h2
  refine zm ?_
  first
  | exact zai rfl ⟨(v19, ws ++ [zby x s]), rfl, by simp [WS, zZ, zn], zpt hw1 hw3 hwl (by simpa using h1)⟩
  | exact zai rfl ⟨(_, ws), rfl, rfl, zou hw1 hw3 hwl (by simpa using h2)⟩

set_option maxHeartbeats 2000000 in
/-- benchwarmer/trade.Way -/
theorem zoW [Tracks] {m : MarketS} {o : List OwnerS} {l : List DealS} {a : List ReplyS} {u : Int} {s : Str}  (ht : m.Teams.length ≤ 1000000) (h0o : l ≠ [] → 0 < o.length) (ho : o.length ≤ 1000000) (hl : l.length ≤ 1000000) (hx0 : ∀ x ∈ l, x.Gives.length ≤ 1000000) (ha : a.length ≤ 1000000) : ConP Tryz.prog 16 [zaM m, zec l, .str s, za8 o, zb3 a, .int .i64 u] (.tup [eSs (zcH m o l a u s), .int .i64 (zbG m o l a u s)]) := by
 refine Con.of_body Tryz.func16 rfl Tryz.ntmps16 rfl rfl ?_
 refine za ?_
 refine dq (zas rfl rfl) ?_
 refine dq (zas rfl rfl) ?_
 refine das rfl ?_
 refine das rfl ?_
 refine dn ?_
 refine zj ?_
 refine za ?_
 refine dq (zH zT rfl rfl rfl rfl) ?_
 refine dmv rfl ?_
 refine dmv rfl ?_
 refine dmv rfl ?_
 refine dq (zo ca50 rfl (WeakL.refl _) (zit ht ho hl hx0 ha)) ?_
 refine das rfl ?_
 refine dn ?_
 refine za ?_
 refine dmv rfl ?_
 refine dq (zaD rfl rfl) ?_
 refine dn ?_
 refine zi rfl (fun h1 => ?_) (fun h2 => ?_)
 ·try simp at h1
  refine za ?_
  refine dmv rfl ?_
  refine das rfl ?_
  refine das rfl ?_
  refine dn ?_
  refine zl ?_
  first
  | exact zcz rfl (za9 (by rw [zcH, if_pos (by rw [zbG, if_pos (by simpa using h1)]; simpa using h1)]; exact za3 1) (by rw [zbG, if_pos (by simpa using h1)]; exact Weak.refl _))
  | (have hz : zbG m o l a u s = 8 := by rw [zbG, if_neg (by simp [htz]), if_pos (by simpa using h3)]
     exact zcz rfl (za9 (by rw [zcH, hz]; exact za3 1) (by rw [hz]; exact Weak.refl _)))
  | (have hz : zbG m o l a u s = 1 := by rw [zbG, if_neg (by simp [htz]), if_neg (by simpa using h4), if_pos (by simpa using h5)]
     exact zcz rfl (za9 (by rw [zcH, hz]; exact za3 1) (by rw [hz]; exact Weak.refl _)))
  | (refine zbE ((Ghost.fa 12 (i := 1) rfl rfl).trans Ghost.clear) rfl ⟨?_, rfl⟩
     have hz : zbG m o l a u s = 0 := by rw [zbG, if_neg (by simp [htz]), if_neg (by simpa using h4), if_neg (by simp [hmo])]
     have hI1 : ws2 = zfj s (zby o s) ((zbw m o l a u).log.map (·.2)) := hI.1
     show HVal.tup _ = _
     rw [zcH, hz, ← hI1]; rfl)
 ·try simp at h2
  refine zm ?_
  refine zh ?_
  refine za ?_
  refine dmv rfl ?_
  refine dq (zg ty9 rfl rfl rfl) ?_
  refine dq (zo ca53 rfl (WeakL.refl _) (zjq (o := o) (s := s) ho)) ?_
  refine das rfl ?_
  refine dn ?_
  refine zj ?_
  refine zq ?_
  have htz : zbX m o l a = 0 := by simpa using h2
  have tk := zdu htz
  refine za ?_
  refine dmv rfl ?_
  refine dq (zbt rfl rfl) ?_
  refine das rfl ?_
  refine dn ?_
  refine zi rfl (fun h3 => ?_) (fun h4 => ?_)
  ·try simp at h3
   refine za ?_
   refine das rfl ?_
   refine das rfl ?_
   refine dn ?_
   refine zl ?_
   first
   | exact zcz rfl (za9 (by rw [zcH, if_pos (by rw [zbG, if_pos (by simpa using h1)]; simpa using h1)]; exact za3 1) (by rw [zbG, if_pos (by simpa using h1)]; exact Weak.refl _))
   | (have hz : zbG m o l a u s = 8 := by rw [zbG, if_neg (by simp [htz]), if_pos (by simpa using h3)]
      exact zcz rfl (za9 (by rw [zcH, hz]; exact za3 1) (by rw [hz]; exact Weak.refl _)))
   | (have hz : zbG m o l a u s = 1 := by rw [zbG, if_neg (by simp [htz]), if_neg (by simpa using h4), if_pos (by simpa using h5)]
      exact zcz rfl (za9 (by rw [zcH, hz]; exact za3 1) (by rw [hz]; exact Weak.refl _)))
   | (refine zbE ((Ghost.fa 12 (i := 1) rfl rfl).trans Ghost.clear) rfl ⟨?_, rfl⟩
      have hz : zbG m o l a u s = 0 := by rw [zbG, if_neg (by simp [htz]), if_neg (by simpa using h4), if_neg (by simp [hmo])]
      have hI1 : ws2 = zfj s (zby o s) ((zbw m o l a u).log.map (·.2)) := hI.1
      show HVal.tup _ = _
      rw [zcH, hz, ← hI1]; rfl)
  ·try simp at h4
   refine za ?_
   refine dmv rfl ?_
   refine dq (zo zlV rfl (WeakL.refl _) zde) ?_
   refine dq (zac rfl) ?_
   refine das rfl ?_
   refine dn ?_
   refine zi rfl (fun h5 => ?_) (fun h6 => ?_)
   ·try simp at h5
    refine za ?_
    refine das rfl ?_
    refine das rfl ?_
    refine dn ?_
    refine zl ?_
    first
    | exact zcz rfl (za9 (by rw [zcH, if_pos (by rw [zbG, if_pos (by simpa using h1)]; simpa using h1)]; exact za3 1) (by rw [zbG, if_pos (by simpa using h1)]; exact Weak.refl _))
    | (have hz : zbG m o l a u s = 8 := by rw [zbG, if_neg (by simp [htz]), if_pos (by simpa using h3)]
       exact zcz rfl (za9 (by rw [zcH, hz]; exact za3 1) (by rw [hz]; exact Weak.refl _)))
    | (have hz : zbG m o l a u s = 1 := by rw [zbG, if_neg (by simp [htz]), if_neg (by simpa using h4), if_pos (by simpa using h5)]
       exact zcz rfl (za9 (by rw [zcH, hz]; exact za3 1) (by rw [hz]; exact Weak.refl _)))
    | (refine zbE ((Ghost.fa 12 (i := 1) rfl rfl).trans Ghost.clear) rfl ⟨?_, rfl⟩
       have hz : zbG m o l a u s = 0 := by rw [zbG, if_neg (by simp [htz]), if_neg (by simpa using h4), if_neg (by simp [hmo])]
       have hI1 : ws2 = zfj s (zby o s) ((zbw m o l a u).log.map (·.2)) := hI.1
       show HVal.tup _ = _
       rw [zcH, hz, ← hI1]; rfl)
   ·try simp at h6
    refine zm ?_
    refine zy ?_
    refine zh ?_
    have hmo : za4 u = true := by simpa using h6
    have hub := zjx hmo
    have hlis : ∀ (b : Nat) (g : List (List OwnerS)) (q : Value × List Str) (x : List OwnerS), g.length ≤ 1000000 → x.length ≤ 1000000 → WI s (zby o s) g q → Con Tryz.prog 55 ([za8 x] ++ [.vptr [.str s] 0, pAt b]) (WS b q) fun r M' => ∃ q', r = .tup [] ∧ M' = WS b q' ∧ WI s (zby o s) (g ++ [x]) q' := fun b g q x h1 h2 h3 => ztt h2 h3 h1
    refine za ?_
    refine dmv rfl ?_
    refine de rfl (zkL (hs := [_]) zP ty9 rfl rfl (by decide) (by decide) rfl fun v36 => ?_)
    refine de rfl (zY zP rfl fun b16 => ?_)
    first
    | refine de0 (zz (i := 0) zP rfl rfl rfl rfl rfl (Nat.le_of_ble_eq_true rfl) ?_)
    | refine de0 (zz (i := 1) zP rfl rfl rfl rfl rfl (Nat.le_of_ble_eq_true rfl) ?_)
    | refine de0 (zz (i := 2) zP rfl rfl rfl rfl rfl (Nat.le_of_ble_eq_true rfl) ?_)
    | refine de0 (zz (i := 3) zP rfl rfl rfl rfl rfl (Nat.le_of_ble_eq_true rfl) ?_)
    refine dn ?_
    refine za ?_
    refine dmv rfl ?_
    refine dmv rfl ?_
    refine dmv rfl ?_
    refine dmv rfl ?_
    refine dq (zfl rfl rfl) ?_
    refine de rfl (zbl (M1 := WS b16 (v36, [zby o s])) (R := []) ca54 rfl (WeakL.refl _) (zR rfl) (zob (S := WS b16) (I := fun g q => WI s (zby o s) g q) (st := (v36, [zby o s])) (lg := []) (u := u) (a := a) (l := l) (o := o) (m := m) ca55 (hlis b16) ⟨rfl, by simp, by simp⟩ ht h0o ho tk.hs (by have := tk.hl; omega) tk.hG tk.hf tk.hsa ha tk.ha0 hub tk.hwt (by simp)) ?_)
    rintro _ _ ⟨b22, E', q2, rfl, rfl, hE, hI⟩
    refine dn ?_
    refine zL (Ghost.of_eq (List.append_nil _)) ?_
    refine zL (Ghost.perm List.perm_append_comm) ?_
    obtain ⟨v2, ws2⟩ := q2
    refine za ?_
    first
    | refine de rfl (zJ (i := 0) zP rfl rfl (.inl ⟨rfl, rfl⟩) ?_)
    | refine de rfl (zJ (i := 1) zP rfl rfl (.inl ⟨rfl, rfl⟩) ?_)
    | refine de rfl (zJ (i := 2) zP rfl rfl (.inl ⟨rfl, rfl⟩) ?_)
    | refine de rfl (zJ (i := 3) zP rfl rfl (.inl ⟨rfl, rfl⟩) ?_)
    refine das rfl ?_
    refine das rfl ?_
    refine dn ?_
    refine zl ?_
    first
    | exact zcz rfl (za9 (by rw [zcH, if_pos (by rw [zbG, if_pos (by simpa using h1)]; simpa using h1)]; exact za3 1) (by rw [zbG, if_pos (by simpa using h1)]; exact Weak.refl _))
    | (have hz : zbG m o l a u s = 8 := by rw [zbG, if_neg (by simp [htz]), if_pos (by simpa using h3)]
       exact zcz rfl (za9 (by rw [zcH, hz]; exact za3 1) (by rw [hz]; exact Weak.refl _)))
    | (have hz : zbG m o l a u s = 1 := by rw [zbG, if_neg (by simp [htz]), if_neg (by simpa using h4), if_pos (by simpa using h5)]
       exact zcz rfl (za9 (by rw [zcH, hz]; exact za3 1) (by rw [hz]; exact Weak.refl _)))
    | (refine zbE ((Ghost.fa 12 (i := 1) rfl rfl).trans Ghost.clear) rfl ⟨?_, rfl⟩
       have hz : zbG m o l a u s = 0 := by rw [zbG, if_neg (by simp [htz]), if_neg (by simpa using h4), if_neg (by simp [hmo])]
       have hI1 : ws2 = zfj s (zby o s) ((zbw m o l a u).log.map (·.2)) := hI.1
       show HVal.tup _ = _
       rw [zcH, hz, ← hI1]; rfl)
end
end Go.Proofs.YtpcaaekefgkhjaaGreatDoor
section
namespace Go.HL
/-! owners stay right -/
structure OwnOk (m : MarketS) (o : List OwnerS) : Prop where
 f : ∀ x ∈ o, za0 m x = 0
 fit : zfd m o = true
theorem ztb {m : MarketS} {p q : List OwnerS} {g : GiveS} (hg : zaA m g = 0) (hp : ∀ x ∈ p, za0 m x = 0) (h : zfG p g = some q) : ∀ x ∈ q, za0 m x = 0 := by
 unfold zfG at h
 split at h
 ·rename_i y hy
  split at h
  ·cases h
   intro x hx
   rcases List.mem_or_eq_of_mem_set hx with hx | hx
   ·exact hp x hx
   ·subst hx
    have h1 := hp y (List.mem_of_getElem? hy)
    unfold za0 at h1 ⊢
    dsimp only
    split at h1
    ·cases h1
    ·rename_i hk
     rw [if_neg hk]
     unfold zaA at hg
     split at hg
     ·cases hg
     split at hg
     ·cases hg
     rename_i ht
     simp only [Bool.or_eq_true, not_or] at ht
     rw [if_neg ht.2]
  ·cases h
 ·cases h
theorem zqt {m : MarketS} : ∀ (l : List GiveS) (p d : List OwnerS), (∀ g ∈ l, zaA m g = 0) → (∀ x ∈ p, za0 m x = 0) → zb5 p l = some d → ∀ x ∈ d, za0 m x = 0
 | [], p, d, _, hp, h => by rw [zb5] at h; cases h; exact hp
 | g :: r, p, d, hg, hp, h => by
   rw [zb5] at h
   cases hs : zfG p g with
   | none => rw [hs] at h; cases h
   | some q => rw [hs] at h; exact zqt r q d (fun x hx => hg x (List.mem_cons_of_mem g hx)) (ztb (hg g (by simp)) hp hs) h
theorem ztA {m : MarketS} {o : List OwnerS} {x : DealS} (hx : zaJ m x.Gives = 0) (ho : OwnOk m o) (h : zfy m o x.Gives = true) : OwnOk m (zdQ o x.Gives) := by
 unfold zfy at h
 cases hd : zb5 o x.Gives with
 | none => rw [hd] at h; cases h
 | some d =>
   rw [hd] at h
   unfold zdQ
   rw [hd]
   exact ⟨zqt _ _ _ (zfL hx).2.2.1 ho.f hd, h⟩
theorem ztl {m : MarketS} {t : Int} {o : List OwnerS} {p : DD} (hx : zaJ m p.1.Gives = 0) (ho : OwnOk m o) : OwnOk m (zba m t o p).1 := by
 unfold zba
 split
 ·split
  ·exact ho
  split
  ·rename_i h; exact ztA hx ho h
  ·exact ho
 split <;> exact ho
theorem zpd {m : MarketS} {t : Int} : ∀ (ds : List DD) (o : List OwnerS), (∀ p ∈ ds, zaJ m p.1.Gives = 0) → OwnOk m o → OwnOk m (zbq m t o ds).o
 | [], _, _, ho => ho
 | p :: r, o, h, ho => by
   rw [zbq]
   exact zpd r _ (fun q hq => h q (List.mem_cons_of_mem p hq)) (ztl (h p (by simp)) ho)
theorem zs5 {ds : List DD} {l : List DealS} (h : ds.map (·.1) = l) : ∀ p ∈ ds, p.1 ∈ l := fun p hp => by rw [← h]; exact List.mem_map_of_mem hp
theorem ztp (m : MarketS) (o : List OwnerS) (l : List DealS) (a : List ReplyS) (n : Nat) : (zeC m (atL a n) ((zaz m o l a n).ds.map (zcQ n))).map (·.1) = l := by
 rw [zkE, zlW, zeV]
theorem zrk {m : MarketS} {o : List OwnerS} {l : List DealS} {a : List ReplyS} (hl : ∀ x ∈ l, zaJ m x.Gives = 0) (ho : OwnOk m o) : ∀ n, OwnOk m (zaz m o l a n).o
 | 0 => ho
 | n + 1 => by
   rw [zaz, stF]
   exact zpd _ _ (fun p hp => hl _ (zs5 (ztp m o l a n) p hp)) (zrk hl ho n)
theorem zql {o : List OwnerS} (h : SortedS (o.map (·.Player))) : o.Pairwise fun a b => zd6 a b < 0 :=
 (List.pairwise_map.1 h).imp fun {a b} hab => by
   unfold zd6
   exact zlO.2 hab
theorem zoS {m : MarketS} {o : List OwnerS} {l : List DealS} {a : List ReplyS} (h : zbX m o l a = 0) (n : Nat) : zbR m (zaz m o l a n).o = 0 := by
 have tk := zdu h
 obtain ⟨h1, h2, _⟩ := zrC h
 obtain ⟨hm, h4⟩ := zid h1
 obtain ⟨_, h5⟩ := zmv h2
 obtain ⟨o1, o2, _, o4⟩ := zic h4
 obtain ⟨_, d2, _⟩ := zmN h5
 have hk := zrk (a := a) (fun x hx => zku (d2 x hx)) (⟨o2, o4⟩ : OwnOk m o) n
 have hs : SortedS ((zaz m o l a n).o.map (·.Player)) := by rw [zdW]; exact tk.hs
 have hc : zdd m (zaz m o l a n).o = 0 := zqW zmV hk.f (zql hs) _ 0 rfl
 have hlen := zfD (m := m) (o := o) (l := l) (a := a) n
 unfold zbR
 rw [if_neg (by simp [hm])]
 unfold zb9
 rw [if_neg (by omega), if_neg (by simp [hc]), if_pos hk.fit]
/-! what is done stays done -/
structure Mono (p q : DD) : Prop where
 fst : q.1 = p.1
 nz : p.2.how ≠ 0 → q.2.how ≠ 0
 fin : 2 < p.2.how → q.2.how = p.2.how ∧ q.2.since = p.2.since
theorem Mono.refl (p : DD) : Mono p p := ⟨rfl, id, fun _ => ⟨rfl, rfl⟩⟩
theorem Mono.trans {p q r : DD} (h1 : Mono p q) (h2 : Mono q r) : Mono p r :=
 ⟨h2.fst.trans h1.fst, fun h => h2.nz (h1.nz h), fun h => by
  obtain ⟨a1, a2⟩ := h1.fin h
  obtain ⟨b1, b2⟩ := h2.fin (by omega)
  exact ⟨b1.trans a1, b2.trans a2⟩⟩
def MonoL : List DD → List DD → Prop
 | [], [] => True
 | p :: r, q :: s => Mono p q ∧ MonoL r s
 | _, _ => False
theorem MonoL.refl : ∀ l, MonoL l l
 | [] => trivial
 | p :: r => ⟨Mono.refl p, MonoL.refl r⟩
theorem MonoL.trans : ∀ {a b c : List DD}, MonoL a b → MonoL b c → MonoL a c
 | [], [], [], _, _ => trivial
 | p :: r, q :: s, x :: t, h1, h2 => ⟨h1.1.trans h2.1, MonoL.trans h1.2 h2.2⟩
 | [], _ :: _, _, h, _ => h.elim
 | _ :: _, [], _, h, _ => h.elim
 | _, [], _ :: _, _, h => h.elim
 | _, _ :: _, [], _, h => h.elim
theorem zoz {f : DD → DD} (h : ∀ p, Mono p (f p)) : ∀ l, MonoL l (l.map f)
 | [] => trivial
 | p :: r => ⟨h p, zoz h r⟩
theorem zsj (t : Int) (p : DD) : Mono p (zcQ t p) := by
 unfold zcQ
 split
 ·rename_i h
  exact ⟨rfl, fun e => absurd h.1 e, fun e => by omega⟩
 ·exact Mono.refl p
theorem zeX {p : DD} {k t : Int} (hk : k ≠ 0) (h : p.2.how ≤ 2) : Mono p (zbo p k t) := ⟨rfl, fun _ => hk, fun e => by omega⟩
theorem zrP (m : MarketS) (a : ReplyS) (p : DD) : Mono p (zb2 m a p) := by
 unfold zb2
 split
 ·exact Mono.refl p
 rename_i h0
 have hh : p.2.how ≤ 2 ∧ p.2.how ≠ 0 := by
  by_cases h1 : p.2.how = 1
  ·omega
  ·by_cases h2 : p.2.how = 2
   ·omega
   ·exact absurd ⟨h1, h2⟩ h0
 split
 ·split
  ·exact ⟨rfl, fun _ => by (show (2 : Int) ≠ 0; decide), fun e => by omega⟩
  ·exact ⟨rfl, fun e => e, fun e => by omega⟩
 split
 ·exact zeX (by decide) hh.1
 split
 ·exact zeX (by decide) hh.1
 split
 ·split
  ·exact ⟨rfl, fun _ => by (show (6 : Int) ≠ 0; decide), fun e => by omega⟩
  ·exact ⟨rfl, fun e => e, fun e => by omega⟩
 ·exact Mono.refl p
theorem zmI (m : MarketS) (a : ReplyS) : ∀ l, MonoL l (zcS m a l)
 | [] => trivial
 | p :: r => by
   rw [zcS]; split
   ·exact ⟨zrP m a p, MonoL.refl r⟩
   ·exact ⟨Mono.refl p, zmI m a r⟩
theorem zmS (m : MarketS) : ∀ (rs : List ReplyS) (l : List DD), MonoL l (zeC m rs l)
 | [], l => MonoL.refl l
 | a :: r, l => (zmI m a l).trans (zmS m r (zcS m a l))
theorem zr0 (m : MarketS) (t : Int) (o : List OwnerS) (p : DD) : Mono p (zba m t o p).2.1 := by
 unfold zba
 split
 ·rename_i h
  split
  ·exact zeX (by decide) (by omega)
  split
  ·exact zeX (by decide) (by omega)
  ·exact zeX (by decide) (by omega)
 split
 ·exact zeX (by decide) (by omega)
 ·exact Mono.refl p
theorem zmF (m : MarketS) (t : Int) : ∀ (l : List DD) (o : List OwnerS), MonoL l (zbq m t o l).ds
 | [], _ => trivial
 | p :: r, o => by rw [zbq]; exact ⟨zr0 m t o p, zmF m t r _⟩
theorem zon (m : MarketS) (o : List OwnerS) (l : List DealS) (a : List ReplyS) (n : Nat) : ∀ k, MonoL (zaz m o l a n).ds (zaz m o l a (n + k)).ds
 | 0 => MonoL.refl _
 | k + 1 => by
   refine (zon m o l a n k).trans ?_
   show MonoL _ (stF m a (zaz m o l a (n + k)) _).ds
   unfold stF
   exact ((zoz (zsj _) _).trans (zmS m _ _)).trans (zmF m _ _ _)
theorem zpw : ∀ {a b : List DD}, MonoL a b → (zb4 a).length ≤ (zb4 b).length
 | [], [], _ => Nat.le_refl _
 | p :: r, q :: s, h => by
   have ih := zpw h.2
   have h1 : (zfi p).length ≤ (zfi q).length := by
    unfold zfi
    by_cases hp : p.2.how = 0
    ·rw [if_pos hp]; exact Nat.zero_le _
    ·rw [if_neg hp, if_neg (h.1.nz hp)]; exact Nat.le_refl _
   show (zfi p ++ zb4 r).length ≤ (zfi q ++ zb4 s).length
   rw [List.length_append, List.length_append]; omega
 | [], _ :: _, h => h.elim
 | _ :: _, [], h => h.elim
theorem zpc : ∀ {a b : List DD}, MonoL a b → ∀ z ∈ zb4 a, 2 < z.How → z ∈ zb4 b
 | [], [], _, z, hz, _ => by cases hz
 | p :: r, q :: s, h, z, hz, hh => by
   have hz' : z ∈ zfi p ++ zb4 r := hz
   show z ∈ zfi q ++ zb4 s
   rcases List.mem_append.1 hz' with hz1 | hz1
   ·refine List.mem_append_left _ ?_
    unfold zfi at hz1 ⊢
    by_cases hp : p.2.how = 0
    ·rw [if_pos hp] at hz1; cases hz1
    ·rw [if_neg hp] at hz1
     have e := List.mem_singleton.1 hz1
     rw [e] at hh
     obtain ⟨f1, f2⟩ := h.1.fin hh
     rw [if_neg (h.1.nz hp), e, h.1.fst, f1, f2]; simp
   ·exact List.mem_append_right _ (zpc h.2 z hz1 hh)
 | [], _ :: _, h, _, _, _ => h.elim
 | _ :: _, [], h, _, _, _ => h.elim
theorem zqy {m : MarketS} {o : List OwnerS} {l : List DealS} {a : List ReplyS} (hf : FOk m l) (n : Nat) : ∀ z ∈ zb4 (zaz m o l a n).ds, z.Since < n := fun z hz => by
 unfold zb4 at hz
 obtain ⟨p, hp, hz⟩ := List.mem_flatMap.1 hz
 unfold zfi at hz
 split at hz
 ·cases hz
 ·rename_i h0
  rw [List.mem_singleton.1 hz]
  exact ((zgn hf n p hp).1.since h0).2
/-! the last team is the owner's -/
theorem zsb (s first : Str) : ∀ (lg : List (List OwnerS)), (zfj s first lg).getLast? = some (match lg.getLast? with | none => first | some o => zby o s) := by
 intro lg
 rcases List.eq_nil_or_concat lg with rfl | ⟨g, x, rfl⟩
 ·rfl
 ·rw [List.concat_eq_append, zjn, List.getLast?_concat]
  unfold zh7
  split
  ·rename_i h; exact h
  ·rw [List.getLast?_concat]
theorem ztL (m : MarketS) (t : Int) (o : List OwnerS) (p : DD) : (zba m t o p).1 = (match ((zba m t o p).2.2.map (·.2)).getLast? with | none => o | some q => q) := by
 unfold zba
 split
 ·split
  ·rfl
  split <;> rfl
 split <;> rfl
def zgZ (o : List OwnerS) (lg : List (List OwnerS)) : List OwnerS := match lg.getLast? with | none => o | some q => q
theorem zmO (o : List OwnerS) (a b : List (List OwnerS)) : zgZ o (a ++ b) = zgZ (zgZ o a) b := by
 unfold zgZ
 rw [List.getLast?_append]
 cases b.getLast? <;> rfl
theorem zqN (m : MarketS) (t : Int) : ∀ (ds : List DD) (o : List OwnerS), (zbq m t o ds).o = zgZ o ((zbq m t o ds).log.map (·.2))
 | [], _ => rfl
 | p :: r, o => by
   have h1 := ztL m t o p
   have h2 := zqN m t r (zba m t o p).1
   rw [zbq]; dsimp only
   rw [List.map_append, zmO, h2]
   have e : zgZ o ((zba m t o p).2.2.map (·.2)) = (zba m t o p).1 := h1.symm
   rw [e]
theorem zsM (m : MarketS) (o : List OwnerS) (l : List DealS) (a : List ReplyS) : ∀ n, (zaz m o l a n).o = zgZ o ((zaz m o l a n).log.map (·.2))
 | 0 => rfl
 | n + 1 => by
   have ih := zsM m o l a n
   rw [zaz, stF]; dsimp only
   rw [List.map_append, zmO, ← ih, zqN]
theorem zmz : ∀ {o : List OwnerS}, SortedS (o.map (·.Player)) → ∀ z ∈ o, zby o z.Player = z.Team
 | [], _, z, hz => by cases hz
 | x :: r, hs, z, hz => by
   have hs' : (x.Player :: r.map (·.Player)).Pairwise _ := hs
   obtain ⟨h1, h2⟩ := List.pairwise_cons.1 hs'
   rw [zby]
   rcases List.mem_cons.1 hz with rfl | hz
   ·rw [if_pos rfl]
   ·rw [if_neg fun e => by
     have := h1 z.Player (List.mem_map_of_mem hz)
     rw [e, zaX] at this; cases this]
    exact zmz h2 z hz
theorem znL : ∀ {o : List OwnerS} {s : Str}, s ∈ o.map (·.Player) → ∃ x ∈ o, x.Player = s ∧ zby o s = x.Team
 | [], _, h => by cases h
 | x :: r, s, h => by
   by_cases e : x.Player = s
   ·exact ⟨x, by simp, e, by rw [zby, if_pos e]⟩
   ·have h' : s ∈ r.map (·.Player) := by
     rcases List.mem_cons.1 h with h | h
     ·exact absurd h.symm e
     ·exact h
    obtain ⟨y, h1, h2, h3⟩ := znL h'
    exact ⟨y, List.mem_cons_of_mem x h1, h2, by rw [zby, if_neg e, h3]⟩
theorem zsi {m : MarketS} {o : List OwnerS} {l : List DealS} {a : List ReplyS} {u : Int} {z : OwnerS} (h : zbX m o l a = 0) (hu : za4 u = true) (hz : z ∈ (zbw m o l a u).o) :
 zbG m o l a u z.Player = 0 ∧ (zcH m o l a u z.Player).getLast? = some z.Team := by
 have tk := zdu h
 obtain ⟨h1, _, _⟩ := zrC h
 obtain ⟨hm, h4⟩ := zid h1
 obtain ⟨_, o2, _, _⟩ := zic h4
 have hp : z.Player ∈ o.map (·.Player) := by
  rw [← zdW (m := m) (o := o) (l := l) (a := a) (u + 1).toNat]
  exact List.mem_map_of_mem hz
 obtain ⟨x, hx, _, hx3⟩ := znL hp
 have ht : zby o z.Player ≠ [] := by
  rw [hx3]
  have := o2 x hx
  unfold za0 at this
  split at this
  ·cases this
  split at this
  ·cases this
  rename_i hc
  have hc2 : x.Team ∈ m.Teams := by simpa using hc
  exact zoE (zq8 hm _ hc2)
 have hE : zbG m o l a u z.Player = 0 := by
  unfold zbG; rw [if_neg (by simp [h]), if_neg ht, if_neg (by simp [hu])]
 refine ⟨hE, ?_⟩
 unfold zcH
 rw [if_neg (by simp [hE]), zsb]
 have ho := zsM m o l a (u + 1).toNat
 have hs : SortedS ((zbw m o l a u).o.map (·.Player)) := by rw [zdW]; exact tk.hs
 have hzt := zmz hs z hz
 unfold zbw at ho hzt ⊢
 rw [ho] at hzt
 unfold zgZ at hzt
 cases hq : ((zaz m o l a (u + 1).toNat).log.map (·.2)).getLast? with
 | none => rw [hq] at hzt; dsimp only at hzt ⊢; rw [hzt]
 | some q => rw [hq] at hzt; dsimp only at hzt ⊢; rw [hzt]
theorem zgJ {u : Int} (h : 0 ≤ u ∧ u ≤ 1000) : za4 u = true := by
 unfold za4
 have : out u 0 345686399999 = false := by unfold out; simp; omega
 rw [this]; rfl
theorem zox {m : MarketS} {o : List OwnerS} {l : List DealS} {a : List ReplyS} {u : Int} (h : zbX m o l a = 0) (hu : za4 u = true) : zeA m o l a u = 0 ∧ zkn m o l a u = zb4 (zbw m o l a u).ds ∧ zks m o l a u = (zbw m o l a u).o := by
 have e : zeA m o l a u = 0 := by unfold zeA; rw [if_neg (by simp [hu]), h]
 exact ⟨e, by unfold zkn; rw [if_neg (by simp [e])], by unfold zks; rw [if_neg (by simp [e])]⟩
end Go.HL
namespace Go.HL
theorem zom (z : StageS) : zhl zc3 z z = true := by simp [zhl, zn, zgA, eqH]
theorem zpq {m : MarketS} {o : List OwnerS} {l : List DealS} {a : List ReplyS} (n : Nat) : (zb4 (zaz m o l a n).ds).length ≤ l.length := by
 have h1 : (zb4 (zaz m o l a n).ds).length ≤ (zaz m o l a n).ds.length := zkh zn4 _
 have h2 : (zaz m o l a n).ds.length = l.length := by
  have := congrArg List.length (zeV m o l a n)
  simpa using this
 omega
theorem ztr {z : StageS} {q : List StageS} {u : Int} (h1 : 2 < z.How → z ∈ q) (h2 : z.Since ≤ u) (h : (2 < z.How ∧ ∀ x, x ∈ q → zhl zc3 z x = false) ∨ u < z.Since) : False := by
 rcases h with ⟨h3, h4⟩ | h3
 ·have := h4 z (h1 h3)
  rw [zom] at this; cases this
 ·omega
theorem zoP {l : List Str} {s : Str} (h : l.getLast? = some s) : 0 < l.length := by
 cases l with
 | nil => cases h
 | cons _ _ => simp
theorem zpK {l : List Str} {s : Str} (h : l.getLast? = some s) : l[l.length - 1]? = some s := by rw [← List.getLast?_eq_getElem?]; exact h
theorem zn2 (s : Str) : ∀ (lg : List (List OwnerS)) (acc : List Str), (lg.foldl (zh7 s) acc).length ≤ acc.length + lg.length
 | [], acc => Nat.le_refl _
 | x :: r, acc => by
   have h1 := zn2 s r (zh7 s acc x)
   have h2 : (zh7 s acc x).length ≤ acc.length + 1 := by unfold zh7; split <;> simp
   rw [List.foldl_cons, List.length_cons]; omega
theorem zrS (s first : Str) (lg : List (List OwnerS)) : (zfj s first lg).length ≤ lg.length + 1 := by
 have := zn2 s lg [first]
 unfold zfj
 simp only [List.length_cons, List.length_nil] at this
 omega
theorem zts {m : MarketS} {o : List OwnerS} {l : List DealS} {a : List ReplyS} {u : Int} {s : Str} : (zcH m o l a u s).length ≤ l.length + 1 := by
 unfold zcH
 split
 ·simp
 ·have h1 := zrS s (zby o s) ((zbw m o l a u).log.map (·.2))
  have h2 : (zbw m o l a u).log.length ≤ l.length := zpn m o l a (u + 1).toNat
  rw [List.length_map] at h1
  omega
end Go.HL
end
namespace Go.Proofs.YtpcaaekefgkhjaaGreatDoor
set_option maxRecDepth 100000
set_option linter.unusedVariables false
set_option linter.unusedSimpArgs false
section
open Go.HL
set_option maxHeartbeats 2000000 in
/-- (*benchwarmer/benchmake.Stream).MarketOf -/
theorem zaW [Tracks] {b : Nat} {l : List Int} {a : Nat}  (ha : a ≤ 800000) : Con Tryz.prog 6 [pAt b] [St b l a] (fun x M' => ∃ m a', x = zaM m ∧ GoodM m ∧ a' ≤ a + 20 ∧ M' = [St b l a']) := by
 refine Con.of_bodyc Tryz.func6 rfl Tryz.ntmps6 rfl rfl ?_
 refine za ?_
 refine de rfl (zY zT rfl fun b2 => ?_)
 refine dn ?_
 refine ze3 [3, 4, 5, 6, 7, 8, 9, 10, 11, 12, 13, 14, 15, 16, 17, 18, 19, 20, 21, 22, 23] (fun (q : Nat × MarketS) => [(3, pAt q.1)]) (fun (q : Nat × MarketS) => [.cells q.1 (zn (zaM q.2)), .cells b2 [nilS, .int .i64 0, .int .i64 0, .int .i64 0, .int .i64 0, .int .i64 0], St b l (a + 6)]) (fun (q : Nat × MarketS) => (0 < q.2.Teams.length ∧ q.2.Teams.length ≤ 4) ∧ ∀ s ∈ q.2.Teams, s.length ≤ 10) ?_ ?_
 ·skip
  refine zbU (fun _ => True) [] mixed ?_
  refine ahp 0 rfl rfl (by kernel_rfl) (by kernel_rfl) (zG (hs := [_, _, _, _]) zP ty9 rfl rfl (by decide) (by decide) rfl) ?_
  refine ahp 1 rfl rfl (by kernel_rfl) (by kernel_rfl) (zf rfl) ?_
  refine ahp 4 rfl rfl (by kernel_rfl) (by kernel_rfl) (zf rfl) ?_
  refine ahp 5 rfl rfl (by kernel_rfl) (by kernel_rfl) (zG (hs := [_, _, _]) zbL ty3 rfl rfl (by decide) (by decide) rfl) ?_
  refine ahp 7 rfl rfl (by kernel_rfl) (by kernel_rfl) (zf rfl) ?_
  refine ahp 8 rfl rfl (by kernel_rfl) (by kernel_rfl) (zG (hs := [_, _, _]) zbL ty3 rfl rfl (by decide) (by decide) rfl) ?_
  refine ahp 10 rfl rfl (by kernel_rfl) (by kernel_rfl) (zf rfl) ?_
  refine ahp 11 rfl rfl (by kernel_rfl) (by kernel_rfl) (zG (hs := [_, _, _]) zbL ty3 rfl rfl (by decide) (by decide) rfl) ?_
  refine ahp 13 rfl rfl (by kernel_rfl) (by kernel_rfl) (zf rfl) ?_
  refine ahp 14 rfl rfl (by kernel_rfl) (by kernel_rfl) (zG (hs := [_, _, _]) zbL ty3 rfl rfl (by decide) (by decide) rfl) ?_
  refine ahp 16 rfl rfl (by kernel_rfl) (by kernel_rfl) (zf rfl) ?_
  refine ahp 17 rfl rfl (by kernel_rfl) (by kernel_rfl) (zG (hs := [_, _, _]) zbL ty3 rfl rfl (by decide) (by decide) rfl) ?_
  refine zhm 2 20 rfl rfl (by kernel_rfl) ?_ ?_
  ·skip
   first
   | refine zv rfl (zd (i := 0) zbT rfl (WeakL.refl _) rfl (zI (by first | assumption | omega | (simp; omega) | simp_all) (by first | assumption | omega | (simp; omega) | simp_all) (by first | assumption | omega | (simp; omega) | simp_all) (by first | assumption | omega | (simp; omega) | simp_all)) ?_)
   | refine zv rfl (zd (i := 1) zbT rfl (WeakL.refl _) rfl (zI (by first | assumption | omega | (simp; omega) | simp_all) (by first | assumption | omega | (simp; omega) | simp_all) (by first | assumption | omega | (simp; omega) | simp_all) (by first | assumption | omega | (simp; omega) | simp_all)) ?_)
   | refine zv rfl (zd (i := 2) zbT rfl (WeakL.refl _) rfl (zI (by first | assumption | omega | (simp; omega) | simp_all) (by first | assumption | omega | (simp; omega) | simp_all) (by first | assumption | omega | (simp; omega) | simp_all) (by first | assumption | omega | (simp; omega) | simp_all)) ?_)
   | refine zv rfl (zd (i := 3) zbT rfl (WeakL.refl _) rfl (zI (by first | assumption | omega | (simp; omega) | simp_all) (by first | assumption | omega | (simp; omega) | simp_all) (by first | assumption | omega | (simp; omega) | simp_all) (by first | assumption | omega | (simp; omega) | simp_all)) ?_)
   rintro _ _ ⟨y6, rfl, hy6, rfl⟩
   refine ⟨fun _ => .inl trivial, ?_⟩
   refine ahp 3 rfl rfl (by kernel_rfl) (by kernel_rfl) (zer (es := zbW) (f := HVal.str) (h := y6.toNat) zP ty9 rfl rfl ⟨_, _, rfl, by omega⟩ (by omega) (by simp [zbW]; omega)) ?_
   refine zhm 6 20 rfl rfl (by kernel_rfl) ?_ ?_
   ·skip
    first
    | refine zv rfl (zd (i := 0) zV rfl (WeakL.refl _) rfl (zc (L := [_, _, _]) (by first | assumption | omega | (simp; omega) | simp_all) (by first | assumption | omega | (simp; omega) | simp_all) (by first | assumption | omega | (simp; omega) | simp_all)) ?_)
    | refine zv rfl (zd (i := 1) zV rfl (WeakL.refl _) rfl (zc (L := [_, _, _]) (by first | assumption | omega | (simp; omega) | simp_all) (by first | assumption | omega | (simp; omega) | simp_all) (by first | assumption | omega | (simp; omega) | simp_all)) ?_)
    | refine zv rfl (zd (i := 2) zV rfl (WeakL.refl _) rfl (zc (L := [_, _, _]) (by first | assumption | omega | (simp; omega) | simp_all) (by first | assumption | omega | (simp; omega) | simp_all) (by first | assumption | omega | (simp; omega) | simp_all)) ?_)
    | refine zv rfl (zd (i := 3) zV rfl (WeakL.refl _) rfl (zc (L := [_, _, _]) (by first | assumption | omega | (simp; omega) | simp_all) (by first | assumption | omega | (simp; omega) | simp_all) (by first | assumption | omega | (simp; omega) | simp_all)) ?_)
    rintro _ _ ⟨y10, rfl, hy10, rfl⟩
    refine ⟨fun _ => .inl trivial, ?_⟩
    refine zhm 9 20 rfl rfl (by kernel_rfl) ?_ ?_
    ·skip
     first
     | refine zv rfl (zd (i := 0) zV rfl (WeakL.refl _) rfl (zc (L := [_, _, _]) (by first | assumption | omega | (simp; omega) | simp_all) (by first | assumption | omega | (simp; omega) | simp_all) (by first | assumption | omega | (simp; omega) | simp_all)) ?_)
     | refine zv rfl (zd (i := 1) zV rfl (WeakL.refl _) rfl (zc (L := [_, _, _]) (by first | assumption | omega | (simp; omega) | simp_all) (by first | assumption | omega | (simp; omega) | simp_all) (by first | assumption | omega | (simp; omega) | simp_all)) ?_)
     | refine zv rfl (zd (i := 2) zV rfl (WeakL.refl _) rfl (zc (L := [_, _, _]) (by first | assumption | omega | (simp; omega) | simp_all) (by first | assumption | omega | (simp; omega) | simp_all) (by first | assumption | omega | (simp; omega) | simp_all)) ?_)
     | refine zv rfl (zd (i := 3) zV rfl (WeakL.refl _) rfl (zc (L := [_, _, _]) (by first | assumption | omega | (simp; omega) | simp_all) (by first | assumption | omega | (simp; omega) | simp_all) (by first | assumption | omega | (simp; omega) | simp_all)) ?_)
     rintro _ _ ⟨y13, rfl, hy13, rfl⟩
     refine ⟨fun _ => .inl trivial, ?_⟩
     refine zhm 12 20 rfl rfl (by kernel_rfl) ?_ ?_
     ·skip
      first
      | refine zv rfl (zd (i := 0) zV rfl (WeakL.refl _) rfl (zc (L := [_, _, _]) (by first | assumption | omega | (simp; omega) | simp_all) (by first | assumption | omega | (simp; omega) | simp_all) (by first | assumption | omega | (simp; omega) | simp_all)) ?_)
      | refine zv rfl (zd (i := 1) zV rfl (WeakL.refl _) rfl (zc (L := [_, _, _]) (by first | assumption | omega | (simp; omega) | simp_all) (by first | assumption | omega | (simp; omega) | simp_all) (by first | assumption | omega | (simp; omega) | simp_all)) ?_)
      | refine zv rfl (zd (i := 2) zV rfl (WeakL.refl _) rfl (zc (L := [_, _, _]) (by first | assumption | omega | (simp; omega) | simp_all) (by first | assumption | omega | (simp; omega) | simp_all) (by first | assumption | omega | (simp; omega) | simp_all)) ?_)
      | refine zv rfl (zd (i := 3) zV rfl (WeakL.refl _) rfl (zc (L := [_, _, _]) (by first | assumption | omega | (simp; omega) | simp_all) (by first | assumption | omega | (simp; omega) | simp_all) (by first | assumption | omega | (simp; omega) | simp_all)) ?_)
      rintro _ _ ⟨y16, rfl, hy16, rfl⟩
      refine ⟨fun _ => .inl trivial, ?_⟩
      refine zhm 15 20 rfl rfl (by kernel_rfl) ?_ ?_
      ·skip
       first
       | refine zv rfl (zd (i := 0) zV rfl (WeakL.refl _) rfl (zc (L := [_, _, _]) (by first | assumption | omega | (simp; omega) | simp_all) (by first | assumption | omega | (simp; omega) | simp_all) (by first | assumption | omega | (simp; omega) | simp_all)) ?_)
       | refine zv rfl (zd (i := 1) zV rfl (WeakL.refl _) rfl (zc (L := [_, _, _]) (by first | assumption | omega | (simp; omega) | simp_all) (by first | assumption | omega | (simp; omega) | simp_all) (by first | assumption | omega | (simp; omega) | simp_all)) ?_)
       | refine zv rfl (zd (i := 2) zV rfl (WeakL.refl _) rfl (zc (L := [_, _, _]) (by first | assumption | omega | (simp; omega) | simp_all) (by first | assumption | omega | (simp; omega) | simp_all) (by first | assumption | omega | (simp; omega) | simp_all)) ?_)
       | refine zv rfl (zd (i := 3) zV rfl (WeakL.refl _) rfl (zc (L := [_, _, _]) (by first | assumption | omega | (simp; omega) | simp_all) (by first | assumption | omega | (simp; omega) | simp_all) (by first | assumption | omega | (simp; omega) | simp_all)) ?_)
       rintro _ _ ⟨y19, rfl, hy19, rfl⟩
       refine ⟨fun _ => .inl trivial, ?_⟩
       refine zhm 18 20 rfl rfl (by kernel_rfl) ?_ ?_
       ·skip
        first
        | refine zv rfl (zd (i := 0) zV rfl (WeakL.refl _) rfl (zc (L := [_, _, _]) (by first | assumption | omega | (simp; omega) | simp_all) (by first | assumption | omega | (simp; omega) | simp_all) (by first | assumption | omega | (simp; omega) | simp_all)) ?_)
        | refine zv rfl (zd (i := 1) zV rfl (WeakL.refl _) rfl (zc (L := [_, _, _]) (by first | assumption | omega | (simp; omega) | simp_all) (by first | assumption | omega | (simp; omega) | simp_all) (by first | assumption | omega | (simp; omega) | simp_all)) ?_)
        | refine zv rfl (zd (i := 2) zV rfl (WeakL.refl _) rfl (zc (L := [_, _, _]) (by first | assumption | omega | (simp; omega) | simp_all) (by first | assumption | omega | (simp; omega) | simp_all) (by first | assumption | omega | (simp; omega) | simp_all)) ?_)
        | refine zv rfl (zd (i := 3) zV rfl (WeakL.refl _) rfl (zc (L := [_, _, _]) (by first | assumption | omega | (simp; omega) | simp_all) (by first | assumption | omega | (simp; omega) | simp_all) (by first | assumption | omega | (simp; omega) | simp_all)) ?_)
        rintro _ _ ⟨y22, rfl, hy22, rfl⟩
        refine ⟨fun _ => .inl trivial, ?_⟩
        refine ahp 19 rfl rfl (by kernel_rfl) (by kernel_rfl) (zaB (cs := [_, _, _, _, _, _]) zT zky rfl) ?_
        refine ahe 20 rfl (by kernel_rfl) ?_
        refine zv rfl (zY zT rfl fun b3 => ?_)
        refine ⟨fun _ => .inl trivial, ?_⟩
        refine ahe 21 rfl (by kernel_rfl) ?_
        first
        | refine zab (zz (i := 0) zT rfl rfl rfl rfl rfl (Nat.le_of_ble_eq_true rfl) ?_)
        | refine zab (zz (i := 1) zT rfl rfl rfl rfl rfl (Nat.le_of_ble_eq_true rfl) ?_)
        | refine zab (zz (i := 2) zT rfl rfl rfl rfl rfl (Nat.le_of_ble_eq_true rfl) ?_)
        | refine zab (zz (i := 3) zT rfl rfl rfl rfl rfl (Nat.le_of_ble_eq_true rfl) ?_)
        refine ⟨fun _ => .inl trivial, ?_⟩
        refine ahz (by kernel_rfl) ?_
        refine ⟨(b3, ⟨(zbW.take y6.toNat).drop 0, y10, y13, y16, y19, y22⟩), ?_, ⟨rfl, trivial⟩, (by repeat (first | exact zt | refine zw rfl ?_ | refine zu rfl rfl ?_)), ?_⟩
        ·exact ⟨⟨by simp [zbW]; omega, by simp [zbW]; omega⟩, fun s hs => zem s (List.mem_of_mem_take (by simpa using hs))⟩
        ·repeat (first | exact List.Perm.nil | refine zQ 0 rfl ?_ | refine zQ 1 rfl ?_ | refine zQ 2 rfl ?_ | refine zQ 3 rfl ?_ | (refine zM 0 rfl ?hq ?_; (case hq => simp [zZ, zn]; done)) | (refine zM 1 rfl ?hq ?_; (case hq => simp [zZ, zn]; done)) | (refine zM 2 rfl ?hq ?_; (case hq => simp [zZ, zn]; done)) | (refine zM 3 rfl ?hq ?_; (case hq => simp [zZ, zn]; done)) | fail)
       ·skip
        refine zv rfl (zY zT rfl fun b3 => ?_)
        refine ⟨fun _ => .inl trivial, ?_⟩
        refine ahe 18 rfl (by kernel_rfl) ?_
        first
        | refine zv rfl (zd (i := 0) zV rfl (WeakL.refl _) rfl (zc (L := [_, _, _]) (by first | assumption | omega | (simp; omega) | simp_all) (by first | assumption | omega | (simp; omega) | simp_all) (by first | assumption | omega | (simp; omega) | simp_all)) ?_)
        | refine zv rfl (zd (i := 1) zV rfl (WeakL.refl _) rfl (zc (L := [_, _, _]) (by first | assumption | omega | (simp; omega) | simp_all) (by first | assumption | omega | (simp; omega) | simp_all) (by first | assumption | omega | (simp; omega) | simp_all)) ?_)
        | refine zv rfl (zd (i := 2) zV rfl (WeakL.refl _) rfl (zc (L := [_, _, _]) (by first | assumption | omega | (simp; omega) | simp_all) (by first | assumption | omega | (simp; omega) | simp_all) (by first | assumption | omega | (simp; omega) | simp_all)) ?_)
        | refine zv rfl (zd (i := 3) zV rfl (WeakL.refl _) rfl (zc (L := [_, _, _]) (by first | assumption | omega | (simp; omega) | simp_all) (by first | assumption | omega | (simp; omega) | simp_all) (by first | assumption | omega | (simp; omega) | simp_all)) ?_)
        rintro _ _ ⟨y22, rfl, hy22, rfl⟩
        refine ⟨fun _ => .inl trivial, ?_⟩
        refine ahp 19 rfl rfl (by kernel_rfl) (by kernel_rfl) (zaB (cs := [_, _, _, _, _, _]) zT zky rfl) ?_
        refine ahe 21 rfl (by kernel_rfl) ?_
        first
        | refine zab (zz (i := 0) zT rfl rfl rfl rfl rfl (Nat.le_of_ble_eq_true rfl) ?_)
        | refine zab (zz (i := 1) zT rfl rfl rfl rfl rfl (Nat.le_of_ble_eq_true rfl) ?_)
        | refine zab (zz (i := 2) zT rfl rfl rfl rfl rfl (Nat.le_of_ble_eq_true rfl) ?_)
        | refine zab (zz (i := 3) zT rfl rfl rfl rfl rfl (Nat.le_of_ble_eq_true rfl) ?_)
        refine ⟨fun _ => .inl trivial, ?_⟩
        refine ahz (by kernel_rfl) ?_
        refine ⟨(b3, ⟨(zbW.take y6.toNat).drop 0, y10, y13, y16, y19, y22⟩), ?_, ⟨rfl, trivial⟩, (by repeat (first | exact zt | refine zw rfl ?_ | refine zu rfl rfl ?_)), ?_⟩
        ·exact ⟨⟨by simp [zbW]; omega, by simp [zbW]; omega⟩, fun s hs => zem s (List.mem_of_mem_take (by simpa using hs))⟩
        ·repeat (first | exact List.Perm.nil | refine zQ 0 rfl ?_ | refine zQ 1 rfl ?_ | refine zQ 2 rfl ?_ | refine zQ 3 rfl ?_ | (refine zM 0 rfl ?hq ?_; (case hq => simp [zZ, zn]; done)) | (refine zM 1 rfl ?hq ?_; (case hq => simp [zZ, zn]; done)) | (refine zM 2 rfl ?hq ?_; (case hq => simp [zZ, zn]; done)) | (refine zM 3 rfl ?hq ?_; (case hq => simp [zZ, zn]; done)) | fail)
      ·skip
       refine zv rfl (zY zT rfl fun b3 => ?_)
       refine ⟨fun _ => .inl trivial, ?_⟩
       refine ahe 15 rfl (by kernel_rfl) ?_
       first
       | refine zv rfl (zd (i := 0) zV rfl (WeakL.refl _) rfl (zc (L := [_, _, _]) (by first | assumption | omega | (simp; omega) | simp_all) (by first | assumption | omega | (simp; omega) | simp_all) (by first | assumption | omega | (simp; omega) | simp_all)) ?_)
       | refine zv rfl (zd (i := 1) zV rfl (WeakL.refl _) rfl (zc (L := [_, _, _]) (by first | assumption | omega | (simp; omega) | simp_all) (by first | assumption | omega | (simp; omega) | simp_all) (by first | assumption | omega | (simp; omega) | simp_all)) ?_)
       | refine zv rfl (zd (i := 2) zV rfl (WeakL.refl _) rfl (zc (L := [_, _, _]) (by first | assumption | omega | (simp; omega) | simp_all) (by first | assumption | omega | (simp; omega) | simp_all) (by first | assumption | omega | (simp; omega) | simp_all)) ?_)
       | refine zv rfl (zd (i := 3) zV rfl (WeakL.refl _) rfl (zc (L := [_, _, _]) (by first | assumption | omega | (simp; omega) | simp_all) (by first | assumption | omega | (simp; omega) | simp_all) (by first | assumption | omega | (simp; omega) | simp_all)) ?_)
       rintro _ _ ⟨y19, rfl, hy19, rfl⟩
       refine ⟨fun _ => .inl trivial, ?_⟩
       refine ahe 18 rfl (by kernel_rfl) ?_
       first
       | refine zv rfl (zd (i := 0) zV rfl (WeakL.refl _) rfl (zc (L := [_, _, _]) (by first | assumption | omega | (simp; omega) | simp_all) (by first | assumption | omega | (simp; omega) | simp_all) (by first | assumption | omega | (simp; omega) | simp_all)) ?_)
       | refine zv rfl (zd (i := 1) zV rfl (WeakL.refl _) rfl (zc (L := [_, _, _]) (by first | assumption | omega | (simp; omega) | simp_all) (by first | assumption | omega | (simp; omega) | simp_all) (by first | assumption | omega | (simp; omega) | simp_all)) ?_)
       | refine zv rfl (zd (i := 2) zV rfl (WeakL.refl _) rfl (zc (L := [_, _, _]) (by first | assumption | omega | (simp; omega) | simp_all) (by first | assumption | omega | (simp; omega) | simp_all) (by first | assumption | omega | (simp; omega) | simp_all)) ?_)
       | refine zv rfl (zd (i := 3) zV rfl (WeakL.refl _) rfl (zc (L := [_, _, _]) (by first | assumption | omega | (simp; omega) | simp_all) (by first | assumption | omega | (simp; omega) | simp_all) (by first | assumption | omega | (simp; omega) | simp_all)) ?_)
       rintro _ _ ⟨y22, rfl, hy22, rfl⟩
       refine ⟨fun _ => .inl trivial, ?_⟩
       refine ahp 19 rfl rfl (by kernel_rfl) (by kernel_rfl) (zaB (cs := [_, _, _, _, _, _]) zT zky rfl) ?_
       refine ahe 21 rfl (by kernel_rfl) ?_
       first
       | refine zab (zz (i := 0) zT rfl rfl rfl rfl rfl (Nat.le_of_ble_eq_true rfl) ?_)
       | refine zab (zz (i := 1) zT rfl rfl rfl rfl rfl (Nat.le_of_ble_eq_true rfl) ?_)
       | refine zab (zz (i := 2) zT rfl rfl rfl rfl rfl (Nat.le_of_ble_eq_true rfl) ?_)
       | refine zab (zz (i := 3) zT rfl rfl rfl rfl rfl (Nat.le_of_ble_eq_true rfl) ?_)
       refine ⟨fun _ => .inl trivial, ?_⟩
       refine ahz (by kernel_rfl) ?_
       refine ⟨(b3, ⟨(zbW.take y6.toNat).drop 0, y10, y13, y16, y19, y22⟩), ?_, ⟨rfl, trivial⟩, (by repeat (first | exact zt | refine zw rfl ?_ | refine zu rfl rfl ?_)), ?_⟩
       ·exact ⟨⟨by simp [zbW]; omega, by simp [zbW]; omega⟩, fun s hs => zem s (List.mem_of_mem_take (by simpa using hs))⟩
       ·repeat (first | exact List.Perm.nil | refine zQ 0 rfl ?_ | refine zQ 1 rfl ?_ | refine zQ 2 rfl ?_ | refine zQ 3 rfl ?_ | (refine zM 0 rfl ?hq ?_; (case hq => simp [zZ, zn]; done)) | (refine zM 1 rfl ?hq ?_; (case hq => simp [zZ, zn]; done)) | (refine zM 2 rfl ?hq ?_; (case hq => simp [zZ, zn]; done)) | (refine zM 3 rfl ?hq ?_; (case hq => simp [zZ, zn]; done)) | fail)
     ·skip
      refine zv rfl (zY zT rfl fun b3 => ?_)
      refine ⟨fun _ => .inl trivial, ?_⟩
      refine ahe 12 rfl (by kernel_rfl) ?_
      first
      | refine zv rfl (zd (i := 0) zV rfl (WeakL.refl _) rfl (zc (L := [_, _, _]) (by first | assumption | omega | (simp; omega) | simp_all) (by first | assumption | omega | (simp; omega) | simp_all) (by first | assumption | omega | (simp; omega) | simp_all)) ?_)
      | refine zv rfl (zd (i := 1) zV rfl (WeakL.refl _) rfl (zc (L := [_, _, _]) (by first | assumption | omega | (simp; omega) | simp_all) (by first | assumption | omega | (simp; omega) | simp_all) (by first | assumption | omega | (simp; omega) | simp_all)) ?_)
      | refine zv rfl (zd (i := 2) zV rfl (WeakL.refl _) rfl (zc (L := [_, _, _]) (by first | assumption | omega | (simp; omega) | simp_all) (by first | assumption | omega | (simp; omega) | simp_all) (by first | assumption | omega | (simp; omega) | simp_all)) ?_)
      | refine zv rfl (zd (i := 3) zV rfl (WeakL.refl _) rfl (zc (L := [_, _, _]) (by first | assumption | omega | (simp; omega) | simp_all) (by first | assumption | omega | (simp; omega) | simp_all) (by first | assumption | omega | (simp; omega) | simp_all)) ?_)
      rintro _ _ ⟨y16, rfl, hy16, rfl⟩
      refine ⟨fun _ => .inl trivial, ?_⟩
      refine ahe 15 rfl (by kernel_rfl) ?_
      first
      | refine zv rfl (zd (i := 0) zV rfl (WeakL.refl _) rfl (zc (L := [_, _, _]) (by first | assumption | omega | (simp; omega) | simp_all) (by first | assumption | omega | (simp; omega) | simp_all) (by first | assumption | omega | (simp; omega) | simp_all)) ?_)
      | refine zv rfl (zd (i := 1) zV rfl (WeakL.refl _) rfl (zc (L := [_, _, _]) (by first | assumption | omega | (simp; omega) | simp_all) (by first | assumption | omega | (simp; omega) | simp_all) (by first | assumption | omega | (simp; omega) | simp_all)) ?_)
      | refine zv rfl (zd (i := 2) zV rfl (WeakL.refl _) rfl (zc (L := [_, _, _]) (by first | assumption | omega | (simp; omega) | simp_all) (by first | assumption | omega | (simp; omega) | simp_all) (by first | assumption | omega | (simp; omega) | simp_all)) ?_)
      | refine zv rfl (zd (i := 3) zV rfl (WeakL.refl _) rfl (zc (L := [_, _, _]) (by first | assumption | omega | (simp; omega) | simp_all) (by first | assumption | omega | (simp; omega) | simp_all) (by first | assumption | omega | (simp; omega) | simp_all)) ?_)
      rintro _ _ ⟨y19, rfl, hy19, rfl⟩
      refine ⟨fun _ => .inl trivial, ?_⟩
      refine ahe 18 rfl (by kernel_rfl) ?_
      first
      | refine zv rfl (zd (i := 0) zV rfl (WeakL.refl _) rfl (zc (L := [_, _, _]) (by first | assumption | omega | (simp; omega) | simp_all) (by first | assumption | omega | (simp; omega) | simp_all) (by first | assumption | omega | (simp; omega) | simp_all)) ?_)
      | refine zv rfl (zd (i := 1) zV rfl (WeakL.refl _) rfl (zc (L := [_, _, _]) (by first | assumption | omega | (simp; omega) | simp_all) (by first | assumption | omega | (simp; omega) | simp_all) (by first | assumption | omega | (simp; omega) | simp_all)) ?_)
      | refine zv rfl (zd (i := 2) zV rfl (WeakL.refl _) rfl (zc (L := [_, _, _]) (by first | assumption | omega | (simp; omega) | simp_all) (by first | assumption | omega | (simp; omega) | simp_all) (by first | assumption | omega | (simp; omega) | simp_all)) ?_)
      | refine zv rfl (zd (i := 3) zV rfl (WeakL.refl _) rfl (zc (L := [_, _, _]) (by first | assumption | omega | (simp; omega) | simp_all) (by first | assumption | omega | (simp; omega) | simp_all) (by first | assumption | omega | (simp; omega) | simp_all)) ?_)
      rintro _ _ ⟨y22, rfl, hy22, rfl⟩
      refine ⟨fun _ => .inl trivial, ?_⟩
      refine ahp 19 rfl rfl (by kernel_rfl) (by kernel_rfl) (zaB (cs := [_, _, _, _, _, _]) zT zky rfl) ?_
      refine ahe 21 rfl (by kernel_rfl) ?_
      first
      | refine zab (zz (i := 0) zT rfl rfl rfl rfl rfl (Nat.le_of_ble_eq_true rfl) ?_)
      | refine zab (zz (i := 1) zT rfl rfl rfl rfl rfl (Nat.le_of_ble_eq_true rfl) ?_)
      | refine zab (zz (i := 2) zT rfl rfl rfl rfl rfl (Nat.le_of_ble_eq_true rfl) ?_)
      | refine zab (zz (i := 3) zT rfl rfl rfl rfl rfl (Nat.le_of_ble_eq_true rfl) ?_)
      refine ⟨fun _ => .inl trivial, ?_⟩
      refine ahz (by kernel_rfl) ?_
      refine ⟨(b3, ⟨(zbW.take y6.toNat).drop 0, y10, y13, y16, y19, y22⟩), ?_, ⟨rfl, trivial⟩, (by repeat (first | exact zt | refine zw rfl ?_ | refine zu rfl rfl ?_)), ?_⟩
      ·exact ⟨⟨by simp [zbW]; omega, by simp [zbW]; omega⟩, fun s hs => zem s (List.mem_of_mem_take (by simpa using hs))⟩
      ·repeat (first | exact List.Perm.nil | refine zQ 0 rfl ?_ | refine zQ 1 rfl ?_ | refine zQ 2 rfl ?_ | refine zQ 3 rfl ?_ | (refine zM 0 rfl ?hq ?_; (case hq => simp [zZ, zn]; done)) | (refine zM 1 rfl ?hq ?_; (case hq => simp [zZ, zn]; done)) | (refine zM 2 rfl ?hq ?_; (case hq => simp [zZ, zn]; done)) | (refine zM 3 rfl ?hq ?_; (case hq => simp [zZ, zn]; done)) | fail)
    ·skip
     refine zv rfl (zY zT rfl fun b3 => ?_)
     refine ⟨fun _ => .inl trivial, ?_⟩
     refine ahe 9 rfl (by kernel_rfl) ?_
     first
     | refine zv rfl (zd (i := 0) zV rfl (WeakL.refl _) rfl (zc (L := [_, _, _]) (by first | assumption | omega | (simp; omega) | simp_all) (by first | assumption | omega | (simp; omega) | simp_all) (by first | assumption | omega | (simp; omega) | simp_all)) ?_)
     | refine zv rfl (zd (i := 1) zV rfl (WeakL.refl _) rfl (zc (L := [_, _, _]) (by first | assumption | omega | (simp; omega) | simp_all) (by first | assumption | omega | (simp; omega) | simp_all) (by first | assumption | omega | (simp; omega) | simp_all)) ?_)
     | refine zv rfl (zd (i := 2) zV rfl (WeakL.refl _) rfl (zc (L := [_, _, _]) (by first | assumption | omega | (simp; omega) | simp_all) (by first | assumption | omega | (simp; omega) | simp_all) (by first | assumption | omega | (simp; omega) | simp_all)) ?_)
     | refine zv rfl (zd (i := 3) zV rfl (WeakL.refl _) rfl (zc (L := [_, _, _]) (by first | assumption | omega | (simp; omega) | simp_all) (by first | assumption | omega | (simp; omega) | simp_all) (by first | assumption | omega | (simp; omega) | simp_all)) ?_)
     rintro _ _ ⟨y13, rfl, hy13, rfl⟩
     refine ⟨fun _ => .inl trivial, ?_⟩
     refine ahe 12 rfl (by kernel_rfl) ?_
     first
     | refine zv rfl (zd (i := 0) zV rfl (WeakL.refl _) rfl (zc (L := [_, _, _]) (by first | assumption | omega | (simp; omega) | simp_all) (by first | assumption | omega | (simp; omega) | simp_all) (by first | assumption | omega | (simp; omega) | simp_all)) ?_)
     | refine zv rfl (zd (i := 1) zV rfl (WeakL.refl _) rfl (zc (L := [_, _, _]) (by first | assumption | omega | (simp; omega) | simp_all) (by first | assumption | omega | (simp; omega) | simp_all) (by first | assumption | omega | (simp; omega) | simp_all)) ?_)
     | refine zv rfl (zd (i := 2) zV rfl (WeakL.refl _) rfl (zc (L := [_, _, _]) (by first | assumption | omega | (simp; omega) | simp_all) (by first | assumption | omega | (simp; omega) | simp_all) (by first | assumption | omega | (simp; omega) | simp_all)) ?_)
     | refine zv rfl (zd (i := 3) zV rfl (WeakL.refl _) rfl (zc (L := [_, _, _]) (by first | assumption | omega | (simp; omega) | simp_all) (by first | assumption | omega | (simp; omega) | simp_all) (by first | assumption | omega | (simp; omega) | simp_all)) ?_)
     rintro _ _ ⟨y16, rfl, hy16, rfl⟩
     refine ⟨fun _ => .inl trivial, ?_⟩
     refine ahe 15 rfl (by kernel_rfl) ?_
     first
     | refine zv rfl (zd (i := 0) zV rfl (WeakL.refl _) rfl (zc (L := [_, _, _]) (by first | assumption | omega | (simp; omega) | simp_all) (by first | assumption | omega | (simp; omega) | simp_all) (by first | assumption | omega | (simp; omega) | simp_all)) ?_)
     | refine zv rfl (zd (i := 1) zV rfl (WeakL.refl _) rfl (zc (L := [_, _, _]) (by first | assumption | omega | (simp; omega) | simp_all) (by first | assumption | omega | (simp; omega) | simp_all) (by first | assumption | omega | (simp; omega) | simp_all)) ?_)
     | refine zv rfl (zd (i := 2) zV rfl (WeakL.refl _) rfl (zc (L := [_, _, _]) (by first | assumption | omega | (simp; omega) | simp_all) (by first | assumption | omega | (simp; omega) | simp_all) (by first | assumption | omega | (simp; omega) | simp_all)) ?_)
     | refine zv rfl (zd (i := 3) zV rfl (WeakL.refl _) rfl (zc (L := [_, _, _]) (by first | assumption | omega | (simp; omega) | simp_all) (by first | assumption | omega | (simp; omega) | simp_all) (by first | assumption | omega | (simp; omega) | simp_all)) ?_)
     rintro _ _ ⟨y19, rfl, hy19, rfl⟩
     refine ⟨fun _ => .inl trivial, ?_⟩
     refine ahe 18 rfl (by kernel_rfl) ?_
     first
     | refine zv rfl (zd (i := 0) zV rfl (WeakL.refl _) rfl (zc (L := [_, _, _]) (by first | assumption | omega | (simp; omega) | simp_all) (by first | assumption | omega | (simp; omega) | simp_all) (by first | assumption | omega | (simp; omega) | simp_all)) ?_)
     | refine zv rfl (zd (i := 1) zV rfl (WeakL.refl _) rfl (zc (L := [_, _, _]) (by first | assumption | omega | (simp; omega) | simp_all) (by first | assumption | omega | (simp; omega) | simp_all) (by first | assumption | omega | (simp; omega) | simp_all)) ?_)
     | refine zv rfl (zd (i := 2) zV rfl (WeakL.refl _) rfl (zc (L := [_, _, _]) (by first | assumption | omega | (simp; omega) | simp_all) (by first | assumption | omega | (simp; omega) | simp_all) (by first | assumption | omega | (simp; omega) | simp_all)) ?_)
     | refine zv rfl (zd (i := 3) zV rfl (WeakL.refl _) rfl (zc (L := [_, _, _]) (by first | assumption | omega | (simp; omega) | simp_all) (by first | assumption | omega | (simp; omega) | simp_all) (by first | assumption | omega | (simp; omega) | simp_all)) ?_)
     rintro _ _ ⟨y22, rfl, hy22, rfl⟩
     refine ⟨fun _ => .inl trivial, ?_⟩
     refine ahp 19 rfl rfl (by kernel_rfl) (by kernel_rfl) (zaB (cs := [_, _, _, _, _, _]) zT zky rfl) ?_
     refine ahe 21 rfl (by kernel_rfl) ?_
     first
     | refine zab (zz (i := 0) zT rfl rfl rfl rfl rfl (Nat.le_of_ble_eq_true rfl) ?_)
     | refine zab (zz (i := 1) zT rfl rfl rfl rfl rfl (Nat.le_of_ble_eq_true rfl) ?_)
     | refine zab (zz (i := 2) zT rfl rfl rfl rfl rfl (Nat.le_of_ble_eq_true rfl) ?_)
     | refine zab (zz (i := 3) zT rfl rfl rfl rfl rfl (Nat.le_of_ble_eq_true rfl) ?_)
     refine ⟨fun _ => .inl trivial, ?_⟩
     refine ahz (by kernel_rfl) ?_
     refine ⟨(b3, ⟨(zbW.take y6.toNat).drop 0, y10, y13, y16, y19, y22⟩), ?_, ⟨rfl, trivial⟩, (by repeat (first | exact zt | refine zw rfl ?_ | refine zu rfl rfl ?_)), ?_⟩
     ·exact ⟨⟨by simp [zbW]; omega, by simp [zbW]; omega⟩, fun s hs => zem s (List.mem_of_mem_take (by simpa using hs))⟩
     ·repeat (first | exact List.Perm.nil | refine zQ 0 rfl ?_ | refine zQ 1 rfl ?_ | refine zQ 2 rfl ?_ | refine zQ 3 rfl ?_ | (refine zM 0 rfl ?hq ?_; (case hq => simp [zZ, zn]; done)) | (refine zM 1 rfl ?hq ?_; (case hq => simp [zZ, zn]; done)) | (refine zM 2 rfl ?hq ?_; (case hq => simp [zZ, zn]; done)) | (refine zM 3 rfl ?hq ?_; (case hq => simp [zZ, zn]; done)) | fail)
   ·skip
    refine zv rfl (zY zT rfl fun b3 => ?_)
    refine ⟨fun _ => .inl trivial, ?_⟩
    refine ahe 6 rfl (by kernel_rfl) ?_
    first
    | refine zv rfl (zd (i := 0) zV rfl (WeakL.refl _) rfl (zc (L := [_, _, _]) (by first | assumption | omega | (simp; omega) | simp_all) (by first | assumption | omega | (simp; omega) | simp_all) (by first | assumption | omega | (simp; omega) | simp_all)) ?_)
    | refine zv rfl (zd (i := 1) zV rfl (WeakL.refl _) rfl (zc (L := [_, _, _]) (by first | assumption | omega | (simp; omega) | simp_all) (by first | assumption | omega | (simp; omega) | simp_all) (by first | assumption | omega | (simp; omega) | simp_all)) ?_)
    | refine zv rfl (zd (i := 2) zV rfl (WeakL.refl _) rfl (zc (L := [_, _, _]) (by first | assumption | omega | (simp; omega) | simp_all) (by first | assumption | omega | (simp; omega) | simp_all) (by first | assumption | omega | (simp; omega) | simp_all)) ?_)
    | refine zv rfl (zd (i := 3) zV rfl (WeakL.refl _) rfl (zc (L := [_, _, _]) (by first | assumption | omega | (simp; omega) | simp_all) (by first | assumption | omega | (simp; omega) | simp_all) (by first | assumption | omega | (simp; omega) | simp_all)) ?_)
    rintro _ _ ⟨y10, rfl, hy10, rfl⟩
    refine ⟨fun _ => .inl trivial, ?_⟩
    refine ahe 9 rfl (by kernel_rfl) ?_
    first
    | refine zv rfl (zd (i := 0) zV rfl (WeakL.refl _) rfl (zc (L := [_, _, _]) (by first | assumption | omega | (simp; omega) | simp_all) (by first | assumption | omega | (simp; omega) | simp_all) (by first | assumption | omega | (simp; omega) | simp_all)) ?_)
    | refine zv rfl (zd (i := 1) zV rfl (WeakL.refl _) rfl (zc (L := [_, _, _]) (by first | assumption | omega | (simp; omega) | simp_all) (by first | assumption | omega | (simp; omega) | simp_all) (by first | assumption | omega | (simp; omega) | simp_all)) ?_)
    | refine zv rfl (zd (i := 2) zV rfl (WeakL.refl _) rfl (zc (L := [_, _, _]) (by first | assumption | omega | (simp; omega) | simp_all) (by first | assumption | omega | (simp; omega) | simp_all) (by first | assumption | omega | (simp; omega) | simp_all)) ?_)
    | refine zv rfl (zd (i := 3) zV rfl (WeakL.refl _) rfl (zc (L := [_, _, _]) (by first | assumption | omega | (simp; omega) | simp_all) (by first | assumption | omega | (simp; omega) | simp_all) (by first | assumption | omega | (simp; omega) | simp_all)) ?_)
    rintro _ _ ⟨y13, rfl, hy13, rfl⟩
    refine ⟨fun _ => .inl trivial, ?_⟩
    refine ahe 12 rfl (by kernel_rfl) ?_
    first
    | refine zv rfl (zd (i := 0) zV rfl (WeakL.refl _) rfl (zc (L := [_, _, _]) (by first | assumption | omega | (simp; omega) | simp_all) (by first | assumption | omega | (simp; omega) | simp_all) (by first | assumption | omega | (simp; omega) | simp_all)) ?_)
    | refine zv rfl (zd (i := 1) zV rfl (WeakL.refl _) rfl (zc (L := [_, _, _]) (by first | assumption | omega | (simp; omega) | simp_all) (by first | assumption | omega | (simp; omega) | simp_all) (by first | assumption | omega | (simp; omega) | simp_all)) ?_)
    | refine zv rfl (zd (i := 2) zV rfl (WeakL.refl _) rfl (zc (L := [_, _, _]) (by first | assumption | omega | (simp; omega) | simp_all) (by first | assumption | omega | (simp; omega) | simp_all) (by first | assumption | omega | (simp; omega) | simp_all)) ?_)
    | refine zv rfl (zd (i := 3) zV rfl (WeakL.refl _) rfl (zc (L := [_, _, _]) (by first | assumption | omega | (simp; omega) | simp_all) (by first | assumption | omega | (simp; omega) | simp_all) (by first | assumption | omega | (simp; omega) | simp_all)) ?_)
    rintro _ _ ⟨y16, rfl, hy16, rfl⟩
    refine ⟨fun _ => .inl trivial, ?_⟩
    refine ahe 15 rfl (by kernel_rfl) ?_
    first
    | refine zv rfl (zd (i := 0) zV rfl (WeakL.refl _) rfl (zc (L := [_, _, _]) (by first | assumption | omega | (simp; omega) | simp_all) (by first | assumption | omega | (simp; omega) | simp_all) (by first | assumption | omega | (simp; omega) | simp_all)) ?_)
    | refine zv rfl (zd (i := 1) zV rfl (WeakL.refl _) rfl (zc (L := [_, _, _]) (by first | assumption | omega | (simp; omega) | simp_all) (by first | assumption | omega | (simp; omega) | simp_all) (by first | assumption | omega | (simp; omega) | simp_all)) ?_)
    | refine zv rfl (zd (i := 2) zV rfl (WeakL.refl _) rfl (zc (L := [_, _, _]) (by first | assumption | omega | (simp; omega) | simp_all) (by first | assumption | omega | (simp; omega) | simp_all) (by first | assumption | omega | (simp; omega) | simp_all)) ?_)
    | refine zv rfl (zd (i := 3) zV rfl (WeakL.refl _) rfl (zc (L := [_, _, _]) (by first | assumption | omega | (simp; omega) | simp_all) (by first | assumption | omega | (simp; omega) | simp_all) (by first | assumption | omega | (simp; omega) | simp_all)) ?_)
    rintro _ _ ⟨y19, rfl, hy19, rfl⟩
    refine ⟨fun _ => .inl trivial, ?_⟩
    refine ahe 18 rfl (by kernel_rfl) ?_
    first
    | refine zv rfl (zd (i := 0) zV rfl (WeakL.refl _) rfl (zc (L := [_, _, _]) (by first | assumption | omega | (simp; omega) | simp_all) (by first | assumption | omega | (simp; omega) | simp_all) (by first | assumption | omega | (simp; omega) | simp_all)) ?_)
    | refine zv rfl (zd (i := 1) zV rfl (WeakL.refl _) rfl (zc (L := [_, _, _]) (by first | assumption | omega | (simp; omega) | simp_all) (by first | assumption | omega | (simp; omega) | simp_all) (by first | assumption | omega | (simp; omega) | simp_all)) ?_)
    | refine zv rfl (zd (i := 2) zV rfl (WeakL.refl _) rfl (zc (L := [_, _, _]) (by first | assumption | omega | (simp; omega) | simp_all) (by first | assumption | omega | (simp; omega) | simp_all) (by first | assumption | omega | (simp; omega) | simp_all)) ?_)
    | refine zv rfl (zd (i := 3) zV rfl (WeakL.refl _) rfl (zc (L := [_, _, _]) (by first | assumption | omega | (simp; omega) | simp_all) (by first | assumption | omega | (simp; omega) | simp_all) (by first | assumption | omega | (simp; omega) | simp_all)) ?_)
    rintro _ _ ⟨y22, rfl, hy22, rfl⟩
    refine ⟨fun _ => .inl trivial, ?_⟩
    refine ahp 19 rfl rfl (by kernel_rfl) (by kernel_rfl) (zaB (cs := [_, _, _, _, _, _]) zT zky rfl) ?_
    refine ahe 21 rfl (by kernel_rfl) ?_
    first
    | refine zab (zz (i := 0) zT rfl rfl rfl rfl rfl (Nat.le_of_ble_eq_true rfl) ?_)
    | refine zab (zz (i := 1) zT rfl rfl rfl rfl rfl (Nat.le_of_ble_eq_true rfl) ?_)
    | refine zab (zz (i := 2) zT rfl rfl rfl rfl rfl (Nat.le_of_ble_eq_true rfl) ?_)
    | refine zab (zz (i := 3) zT rfl rfl rfl rfl rfl (Nat.le_of_ble_eq_true rfl) ?_)
    refine ⟨fun _ => .inl trivial, ?_⟩
    refine ahz (by kernel_rfl) ?_
    refine ⟨(b3, ⟨(zbW.take y6.toNat).drop 0, y10, y13, y16, y19, y22⟩), ?_, ⟨rfl, trivial⟩, (by repeat (first | exact zt | refine zw rfl ?_ | refine zu rfl rfl ?_)), ?_⟩
    ·exact ⟨⟨by simp [zbW]; omega, by simp [zbW]; omega⟩, fun s hs => zem s (List.mem_of_mem_take (by simpa using hs))⟩
    ·repeat (first | exact List.Perm.nil | refine zQ 0 rfl ?_ | refine zQ 1 rfl ?_ | refine zQ 2 rfl ?_ | refine zQ 3 rfl ?_ | (refine zM 0 rfl ?hq ?_; (case hq => simp [zZ, zn]; done)) | (refine zM 1 rfl ?hq ?_; (case hq => simp [zZ, zn]; done)) | (refine zM 2 rfl ?hq ?_; (case hq => simp [zZ, zn]; done)) | (refine zM 3 rfl ?hq ?_; (case hq => simp [zZ, zn]; done)) | fail)
  ·skip
   refine zv rfl (zY zT rfl fun b3 => ?_)
   refine ⟨fun _ => .inl trivial, ?_⟩
   refine ahe 2 rfl (by kernel_rfl) ?_
   first
   | refine zv rfl (zd (i := 0) zbT rfl (WeakL.refl _) rfl (zI (by first | assumption | omega | (simp; omega) | simp_all) (by first | assumption | omega | (simp; omega) | simp_all) (by first | assumption | omega | (simp; omega) | simp_all) (by first | assumption | omega | (simp; omega) | simp_all)) ?_)
   | refine zv rfl (zd (i := 1) zbT rfl (WeakL.refl _) rfl (zI (by first | assumption | omega | (simp; omega) | simp_all) (by first | assumption | omega | (simp; omega) | simp_all) (by first | assumption | omega | (simp; omega) | simp_all) (by first | assumption | omega | (simp; omega) | simp_all)) ?_)
   | refine zv rfl (zd (i := 2) zbT rfl (WeakL.refl _) rfl (zI (by first | assumption | omega | (simp; omega) | simp_all) (by first | assumption | omega | (simp; omega) | simp_all) (by first | assumption | omega | (simp; omega) | simp_all) (by first | assumption | omega | (simp; omega) | simp_all)) ?_)
   | refine zv rfl (zd (i := 3) zbT rfl (WeakL.refl _) rfl (zI (by first | assumption | omega | (simp; omega) | simp_all) (by first | assumption | omega | (simp; omega) | simp_all) (by first | assumption | omega | (simp; omega) | simp_all) (by first | assumption | omega | (simp; omega) | simp_all)) ?_)
   rintro _ _ ⟨y6, rfl, hy6, rfl⟩
   refine ⟨fun _ => .inl trivial, ?_⟩
   refine ahp 3 rfl rfl (by kernel_rfl) (by kernel_rfl) (zer (es := zbW) (f := HVal.str) (h := y6.toNat) zP ty9 rfl rfl ⟨_, _, rfl, by omega⟩ (by omega) (by simp [zbW]; omega)) ?_
   refine ahe 6 rfl (by kernel_rfl) ?_
   first
   | refine zv rfl (zd (i := 0) zV rfl (WeakL.refl _) rfl (zc (L := [_, _, _]) (by first | assumption | omega | (simp; omega) | simp_all) (by first | assumption | omega | (simp; omega) | simp_all) (by first | assumption | omega | (simp; omega) | simp_all)) ?_)
   | refine zv rfl (zd (i := 1) zV rfl (WeakL.refl _) rfl (zc (L := [_, _, _]) (by first | assumption | omega | (simp; omega) | simp_all) (by first | assumption | omega | (simp; omega) | simp_all) (by first | assumption | omega | (simp; omega) | simp_all)) ?_)
   | refine zv rfl (zd (i := 2) zV rfl (WeakL.refl _) rfl (zc (L := [_, _, _]) (by first | assumption | omega | (simp; omega) | simp_all) (by first | assumption | omega | (simp; omega) | simp_all) (by first | assumption | omega | (simp; omega) | simp_all)) ?_)
   | refine zv rfl (zd (i := 3) zV rfl (WeakL.refl _) rfl (zc (L := [_, _, _]) (by first | assumption | omega | (simp; omega) | simp_all) (by first | assumption | omega | (simp; omega) | simp_all) (by first | assumption | omega | (simp; omega) | simp_all)) ?_)
   rintro _ _ ⟨y10, rfl, hy10, rfl⟩
   refine ⟨fun _ => .inl trivial, ?_⟩
   refine ahe 9 rfl (by kernel_rfl) ?_
   first
   | refine zv rfl (zd (i := 0) zV rfl (WeakL.refl _) rfl (zc (L := [_, _, _]) (by first | assumption | omega | (simp; omega) | simp_all) (by first | assumption | omega | (simp; omega) | simp_all) (by first | assumption | omega | (simp; omega) | simp_all)) ?_)
   | refine zv rfl (zd (i := 1) zV rfl (WeakL.refl _) rfl (zc (L := [_, _, _]) (by first | assumption | omega | (simp; omega) | simp_all) (by first | assumption | omega | (simp; omega) | simp_all) (by first | assumption | omega | (simp; omega) | simp_all)) ?_)
   | refine zv rfl (zd (i := 2) zV rfl (WeakL.refl _) rfl (zc (L := [_, _, _]) (by first | assumption | omega | (simp; omega) | simp_all) (by first | assumption | omega | (simp; omega) | simp_all) (by first | assumption | omega | (simp; omega) | simp_all)) ?_)
   | refine zv rfl (zd (i := 3) zV rfl (WeakL.refl _) rfl (zc (L := [_, _, _]) (by first | assumption | omega | (simp; omega) | simp_all) (by first | assumption | omega | (simp; omega) | simp_all) (by first | assumption | omega | (simp; omega) | simp_all)) ?_)
   rintro _ _ ⟨y13, rfl, hy13, rfl⟩
   refine ⟨fun _ => .inl trivial, ?_⟩
   refine ahe 12 rfl (by kernel_rfl) ?_
   first
   | refine zv rfl (zd (i := 0) zV rfl (WeakL.refl _) rfl (zc (L := [_, _, _]) (by first | assumption | omega | (simp; omega) | simp_all) (by first | assumption | omega | (simp; omega) | simp_all) (by first | assumption | omega | (simp; omega) | simp_all)) ?_)
   | refine zv rfl (zd (i := 1) zV rfl (WeakL.refl _) rfl (zc (L := [_, _, _]) (by first | assumption | omega | (simp; omega) | simp_all) (by first | assumption | omega | (simp; omega) | simp_all) (by first | assumption | omega | (simp; omega) | simp_all)) ?_)
   | refine zv rfl (zd (i := 2) zV rfl (WeakL.refl _) rfl (zc (L := [_, _, _]) (by first | assumption | omega | (simp; omega) | simp_all) (by first | assumption | omega | (simp; omega) | simp_all) (by first | assumption | omega | (simp; omega) | simp_all)) ?_)
   | refine zv rfl (zd (i := 3) zV rfl (WeakL.refl _) rfl (zc (L := [_, _, _]) (by first | assumption | omega | (simp; omega) | simp_all) (by first | assumption | omega | (simp; omega) | simp_all) (by first | assumption | omega | (simp; omega) | simp_all)) ?_)
   rintro _ _ ⟨y16, rfl, hy16, rfl⟩
   refine ⟨fun _ => .inl trivial, ?_⟩
   refine ahe 15 rfl (by kernel_rfl) ?_
   first
   | refine zv rfl (zd (i := 0) zV rfl (WeakL.refl _) rfl (zc (L := [_, _, _]) (by first | assumption | omega | (simp; omega) | simp_all) (by first | assumption | omega | (simp; omega) | simp_all) (by first | assumption | omega | (simp; omega) | simp_all)) ?_)
   | refine zv rfl (zd (i := 1) zV rfl (WeakL.refl _) rfl (zc (L := [_, _, _]) (by first | assumption | omega | (simp; omega) | simp_all) (by first | assumption | omega | (simp; omega) | simp_all) (by first | assumption | omega | (simp; omega) | simp_all)) ?_)
   | refine zv rfl (zd (i := 2) zV rfl (WeakL.refl _) rfl (zc (L := [_, _, _]) (by first | assumption | omega | (simp; omega) | simp_all) (by first | assumption | omega | (simp; omega) | simp_all) (by first | assumption | omega | (simp; omega) | simp_all)) ?_)
   | refine zv rfl (zd (i := 3) zV rfl (WeakL.refl _) rfl (zc (L := [_, _, _]) (by first | assumption | omega | (simp; omega) | simp_all) (by first | assumption | omega | (simp; omega) | simp_all) (by first | assumption | omega | (simp; omega) | simp_all)) ?_)
   rintro _ _ ⟨y19, rfl, hy19, rfl⟩
   refine ⟨fun _ => .inl trivial, ?_⟩
   refine ahe 18 rfl (by kernel_rfl) ?_
   first
   | refine zv rfl (zd (i := 0) zV rfl (WeakL.refl _) rfl (zc (L := [_, _, _]) (by first | assumption | omega | (simp; omega) | simp_all) (by first | assumption | omega | (simp; omega) | simp_all) (by first | assumption | omega | (simp; omega) | simp_all)) ?_)
   | refine zv rfl (zd (i := 1) zV rfl (WeakL.refl _) rfl (zc (L := [_, _, _]) (by first | assumption | omega | (simp; omega) | simp_all) (by first | assumption | omega | (simp; omega) | simp_all) (by first | assumption | omega | (simp; omega) | simp_all)) ?_)
   | refine zv rfl (zd (i := 2) zV rfl (WeakL.refl _) rfl (zc (L := [_, _, _]) (by first | assumption | omega | (simp; omega) | simp_all) (by first | assumption | omega | (simp; omega) | simp_all) (by first | assumption | omega | (simp; omega) | simp_all)) ?_)
   | refine zv rfl (zd (i := 3) zV rfl (WeakL.refl _) rfl (zc (L := [_, _, _]) (by first | assumption | omega | (simp; omega) | simp_all) (by first | assumption | omega | (simp; omega) | simp_all) (by first | assumption | omega | (simp; omega) | simp_all)) ?_)
   rintro _ _ ⟨y22, rfl, hy22, rfl⟩
   refine ⟨fun _ => .inl trivial, ?_⟩
   refine ahp 19 rfl rfl (by kernel_rfl) (by kernel_rfl) (zaB (cs := [_, _, _, _, _, _]) zT zky rfl) ?_
   refine ahe 21 rfl (by kernel_rfl) ?_
   first
   | refine zab (zz (i := 0) zT rfl rfl rfl rfl rfl (Nat.le_of_ble_eq_true rfl) ?_)
   | refine zab (zz (i := 1) zT rfl rfl rfl rfl rfl (Nat.le_of_ble_eq_true rfl) ?_)
   | refine zab (zz (i := 2) zT rfl rfl rfl rfl rfl (Nat.le_of_ble_eq_true rfl) ?_)
   | refine zab (zz (i := 3) zT rfl rfl rfl rfl rfl (Nat.le_of_ble_eq_true rfl) ?_)
   refine ⟨fun _ => .inl trivial, ?_⟩
   refine ahz (by kernel_rfl) ?_
   refine ⟨(b3, ⟨(zbW.take y6.toNat).drop 0, y10, y13, y16, y19, y22⟩), ?_, ⟨rfl, trivial⟩, (by repeat (first | exact zt | refine zw rfl ?_ | refine zu rfl rfl ?_)), ?_⟩
   ·exact ⟨⟨by simp [zbW]; omega, by simp [zbW]; omega⟩, fun s hs => zem s (List.mem_of_mem_take (by simpa using hs))⟩
   ·repeat (first | exact List.Perm.nil | refine zQ 0 rfl ?_ | refine zQ 1 rfl ?_ | refine zQ 2 rfl ?_ | refine zQ 3 rfl ?_ | (refine zM 0 rfl ?hq ?_; (case hq => simp [zZ, zn]; done)) | (refine zM 1 rfl ?hq ?_; (case hq => simp [zZ, zn]; done)) | (refine zM 2 rfl ?hq ?_; (case hq => simp [zZ, zn]; done)) | (refine zM 3 rfl ?hq ?_; (case hq => simp [zZ, zn]; done)) | fail)
 ·intro q hq
  obtain ⟨b3, ⟨T, Ve, Wa, Dl, Le, Mo⟩⟩ := q
  dsimp only at hq
  obtain ⟨⟨hT0, hT5⟩, hTs⟩ := hq
  refine zr1 [24, 25, 26, 27, 28, 29, 30, 31, 32, 33, 34, 35, 36, 37, 38, 39, 40, 41, 42, 43] (fun (q : MarketS × Nat) => []) (fun (q : MarketS × Nat) => [.cells b3 (zn (zaM q.1)), .cells b2 [nilS, .int .i64 0, .int .i64 0, .int .i64 0, .int .i64 0, .int .i64 0], St b l q.2]) (fun (q : MarketS × Nat) => GoodM q.1 ∧ q.2 ≤ a + 20) ?_ ?_
  ·skip
   refine za ?_
   refine dmv rfl ?_
   first
   | refine de rfl (zd (i := 0) zeE rfl (WeakL.refl _) rfl (zal (by first | assumption | omega | (simp; omega) | simp_all) (by first | assumption | omega | (simp; omega) | simp_all)) ?_)
   | refine de rfl (zd (i := 1) zeE rfl (WeakL.refl _) rfl (zal (by first | assumption | omega | (simp; omega) | simp_all) (by first | assumption | omega | (simp; omega) | simp_all)) ?_)
   | refine de rfl (zd (i := 2) zeE rfl (WeakL.refl _) rfl (zal (by first | assumption | omega | (simp; omega) | simp_all) (by first | assumption | omega | (simp; omega) | simp_all)) ?_)
   | refine de rfl (zd (i := 3) zeE rfl (WeakL.refl _) rfl (zal (by first | assumption | omega | (simp; omega) | simp_all) (by first | assumption | omega | (simp; omega) | simp_all)) ?_)
   rintro _ _ ⟨y25, rfl, rfl⟩
   refine dn ?_
   refine zi rfl (fun h1 => ?_) (fun h2 => ?_)
   ·try simp at h1
    refine zC ?_
    refine dq (ze zT rfl zP (by decide) rfl) ?_
    first
    | refine de rfl (zJ (i := 0) zP rfl rfl (.inl ⟨rfl, rfl⟩) ?_)
    | refine de rfl (zJ (i := 1) zP rfl rfl (.inl ⟨rfl, rfl⟩) ?_)
    | refine de rfl (zJ (i := 2) zP rfl rfl (.inl ⟨rfl, rfl⟩) ?_)
    | refine de rfl (zJ (i := 3) zP rfl rfl (.inl ⟨rfl, rfl⟩) ?_)
    refine de rfl (ze2 zrA rfl (WeakL.refl _) (zco (by first | assumption | omega | (simp; omega) | simp_all)) fun v28 => ?_)
    refine dmv rfl ?_
    refine dq (zG (hs := [_, _, _]) zP ty9 rfl rfl (by decide) (by decide) rfl) ?_
    first
    | refine de rfl (zd (i := 0) zaH rfl (WeakL.refl _) rfl (zk (L := [_, _, _]) (by first | assumption | omega | (simp; omega) | simp_all) (by first | assumption | omega | (simp; omega) | simp_all) (by first | assumption | omega | (simp; omega) | simp_all)) ?_)
    | refine de rfl (zd (i := 1) zaH rfl (WeakL.refl _) rfl (zk (L := [_, _, _]) (by first | assumption | omega | (simp; omega) | simp_all) (by first | assumption | omega | (simp; omega) | simp_all) (by first | assumption | omega | (simp; omega) | simp_all)) ?_)
    | refine de rfl (zd (i := 2) zaH rfl (WeakL.refl _) rfl (zk (L := [_, _, _]) (by first | assumption | omega | (simp; omega) | simp_all) (by first | assumption | omega | (simp; omega) | simp_all) (by first | assumption | omega | (simp; omega) | simp_all)) ?_)
    | refine de rfl (zd (i := 3) zaH rfl (WeakL.refl _) rfl (zk (L := [_, _, _]) (by first | assumption | omega | (simp; omega) | simp_all) (by first | assumption | omega | (simp; omega) | simp_all) (by first | assumption | omega | (simp; omega) | simp_all)) ?_)
    rintro _ _ ⟨y31, rfl, hy31, rfl⟩
    refine dq (zG (hs := [_]) zP ty9 rfl rfl (by decide) (by decide) rfl) ?_
    first
    | refine de rfl (zay (i := 0) zP ty9 rfl rfl rfl rfl rfl (by simp [zbe, zn]) (by first | omega | (simp; omega)) fun v33 => ?_)
    | refine de rfl (zay (i := 1) zP ty9 rfl rfl rfl rfl rfl (by simp [zbe, zn]) (by first | omega | (simp; omega)) fun v33 => ?_)
    | refine de rfl (zay (i := 2) zP ty9 rfl rfl rfl rfl rfl (by simp [zbe, zn]) (by first | omega | (simp; omega)) fun v33 => ?_)
    | refine de rfl (zay (i := 3) zP ty9 rfl rfl rfl rfl rfl (by simp [zbe, zn]) (by first | omega | (simp; omega)) fun v33 => ?_)
    refine dmv rfl ?_
    first
    | refine de rfl (zd (i := 0) zeB rfl (WeakL.refl _) rfl (zao (by first | assumption | omega | (simp; omega) | simp_all) (by first | assumption | omega | (simp; omega) | simp_all) (by first | assumption | omega | (simp; omega) | simp_all) (by first | assumption | omega | (simp; omega) | simp_all)) ?_)
    | refine de rfl (zd (i := 1) zeB rfl (WeakL.refl _) rfl (zao (by first | assumption | omega | (simp; omega) | simp_all) (by first | assumption | omega | (simp; omega) | simp_all) (by first | assumption | omega | (simp; omega) | simp_all) (by first | assumption | omega | (simp; omega) | simp_all)) ?_)
    | refine de rfl (zd (i := 2) zeB rfl (WeakL.refl _) rfl (zao (by first | assumption | omega | (simp; omega) | simp_all) (by first | assumption | omega | (simp; omega) | simp_all) (by first | assumption | omega | (simp; omega) | simp_all) (by first | assumption | omega | (simp; omega) | simp_all)) ?_)
    | refine de rfl (zd (i := 3) zeB rfl (WeakL.refl _) rfl (zao (by first | assumption | omega | (simp; omega) | simp_all) (by first | assumption | omega | (simp; omega) | simp_all) (by first | assumption | omega | (simp; omega) | simp_all) (by first | assumption | omega | (simp; omega) | simp_all)) ?_)
    rintro _ _ ⟨y35, rfl, rfl⟩
    refine dmv rfl ?_
    first
    | refine de rfl (zd (i := 0) zeB rfl (WeakL.refl _) rfl (zao (by first | assumption | omega | (simp; omega) | simp_all) (by first | assumption | omega | (simp; omega) | simp_all) (by first | assumption | omega | (simp; omega) | simp_all) (by first | assumption | omega | (simp; omega) | simp_all)) ?_)
    | refine de rfl (zd (i := 1) zeB rfl (WeakL.refl _) rfl (zao (by first | assumption | omega | (simp; omega) | simp_all) (by first | assumption | omega | (simp; omega) | simp_all) (by first | assumption | omega | (simp; omega) | simp_all) (by first | assumption | omega | (simp; omega) | simp_all)) ?_)
    | refine de rfl (zd (i := 2) zeB rfl (WeakL.refl _) rfl (zao (by first | assumption | omega | (simp; omega) | simp_all) (by first | assumption | omega | (simp; omega) | simp_all) (by first | assumption | omega | (simp; omega) | simp_all) (by first | assumption | omega | (simp; omega) | simp_all)) ?_)
    | refine de rfl (zd (i := 3) zeB rfl (WeakL.refl _) rfl (zao (by first | assumption | omega | (simp; omega) | simp_all) (by first | assumption | omega | (simp; omega) | simp_all) (by first | assumption | omega | (simp; omega) | simp_all) (by first | assumption | omega | (simp; omega) | simp_all)) ?_)
    rintro _ _ ⟨y37, rfl, rfl⟩
    refine dmv rfl ?_
    first
    | refine de rfl (zd (i := 0) zeB rfl (WeakL.refl _) rfl (zao (by first | assumption | omega | (simp; omega) | simp_all) (by first | assumption | omega | (simp; omega) | simp_all) (by first | assumption | omega | (simp; omega) | simp_all) (by first | assumption | omega | (simp; omega) | simp_all)) ?_)
    | refine de rfl (zd (i := 1) zeB rfl (WeakL.refl _) rfl (zao (by first | assumption | omega | (simp; omega) | simp_all) (by first | assumption | omega | (simp; omega) | simp_all) (by first | assumption | omega | (simp; omega) | simp_all) (by first | assumption | omega | (simp; omega) | simp_all)) ?_)
    | refine de rfl (zd (i := 2) zeB rfl (WeakL.refl _) rfl (zao (by first | assumption | omega | (simp; omega) | simp_all) (by first | assumption | omega | (simp; omega) | simp_all) (by first | assumption | omega | (simp; omega) | simp_all) (by first | assumption | omega | (simp; omega) | simp_all)) ?_)
    | refine de rfl (zd (i := 3) zeB rfl (WeakL.refl _) rfl (zao (by first | assumption | omega | (simp; omega) | simp_all) (by first | assumption | omega | (simp; omega) | simp_all) (by first | assumption | omega | (simp; omega) | simp_all) (by first | assumption | omega | (simp; omega) | simp_all)) ?_)
    rintro _ _ ⟨y39, rfl, rfl⟩
    refine dq (ze zT rfl zP (by decide) rfl) ?_
    first
    | refine de0 (zz (i := 0) zP rfl rfl rfl rfl rfl (Nat.le_of_ble_eq_true rfl) ?_)
    | refine de0 (zz (i := 1) zP rfl rfl rfl rfl rfl (Nat.le_of_ble_eq_true rfl) ?_)
    | refine de0 (zz (i := 2) zP rfl rfl rfl rfl rfl (Nat.le_of_ble_eq_true rfl) ?_)
    | refine de0 (zz (i := 3) zP rfl rfl rfl rfl rfl (Nat.le_of_ble_eq_true rfl) ?_)
    refine dq (ze zT rfl ty3 (by decide) rfl) ?_
    first
    | refine de0 (zz (i := 0) ty3 rfl rfl rfl rfl rfl (Nat.le_of_ble_eq_true rfl) ?_)
    | refine de0 (zz (i := 1) ty3 rfl rfl rfl rfl rfl (Nat.le_of_ble_eq_true rfl) ?_)
    | refine de0 (zz (i := 2) ty3 rfl rfl rfl rfl rfl (Nat.le_of_ble_eq_true rfl) ?_)
    | refine de0 (zz (i := 3) ty3 rfl rfl rfl rfl rfl (Nat.le_of_ble_eq_true rfl) ?_)
    refine dq (ze zT rfl ty3 (by decide) rfl) ?_
    first
    | refine de0 (zz (i := 0) ty3 rfl rfl rfl rfl rfl (Nat.le_of_ble_eq_true rfl) ?_)
    | refine de0 (zz (i := 1) ty3 rfl rfl rfl rfl rfl (Nat.le_of_ble_eq_true rfl) ?_)
    | refine de0 (zz (i := 2) ty3 rfl rfl rfl rfl rfl (Nat.le_of_ble_eq_true rfl) ?_)
    | refine de0 (zz (i := 3) ty3 rfl rfl rfl rfl rfl (Nat.le_of_ble_eq_true rfl) ?_)
    refine dq (ze zT rfl ty3 (by decide) rfl) ?_
    first
    | refine de0 (zz (i := 0) ty3 rfl rfl rfl rfl rfl (Nat.le_of_ble_eq_true rfl) ?_)
    | refine de0 (zz (i := 1) ty3 rfl rfl rfl rfl rfl (Nat.le_of_ble_eq_true rfl) ?_)
    | refine de0 (zz (i := 2) ty3 rfl rfl rfl rfl rfl (Nat.le_of_ble_eq_true rfl) ?_)
    | refine de0 (zz (i := 3) ty3 rfl rfl rfl rfl rfl (Nat.le_of_ble_eq_true rfl) ?_)
    refine dn ?_
    (first | refine zcd (Ghost.fcell (i := 0) (k := 0) (j := 0) rfl rfl rfl) ?_ | refine zcd (Ghost.fcell (i := 0) (k := 1) (j := 0) rfl rfl rfl) ?_ | refine zcd (Ghost.fcell (i := 0) (k := 2) (j := 0) rfl rfl rfl) ?_ | refine zcd (Ghost.fcell (i := 0) (k := 3) (j := 0) rfl rfl rfl) ?_ | refine zcd (Ghost.fcell (i := 1) (k := 0) (j := 0) rfl rfl rfl) ?_ | refine zcd (Ghost.fcell (i := 1) (k := 1) (j := 0) rfl rfl rfl) ?_ | refine zcd (Ghost.fcell (i := 1) (k := 2) (j := 0) rfl rfl rfl) ?_ | refine zcd (Ghost.fcell (i := 1) (k := 3) (j := 0) rfl rfl rfl) ?_ | refine zcd (Ghost.fcell (i := 2) (k := 0) (j := 0) rfl rfl rfl) ?_ | refine zcd (Ghost.fcell (i := 2) (k := 1) (j := 0) rfl rfl rfl) ?_ | refine zcd (Ghost.fcell (i := 2) (k := 2) (j := 0) rfl rfl rfl) ?_ | refine zcd (Ghost.fcell (i := 2) (k := 3) (j := 0) rfl rfl rfl) ?_ | refine zcd (Ghost.fcell (i := 3) (k := 0) (j := 0) rfl rfl rfl) ?_ | refine zcd (Ghost.fcell (i := 3) (k := 1) (j := 0) rfl rfl rfl) ?_ | refine zcd (Ghost.fcell (i := 3) (k := 2) (j := 0) rfl rfl rfl) ?_ | refine zcd (Ghost.fcell (i := 3) (k := 3) (j := 0) rfl rfl rfl) ?_)
    refine zpu (⟨T ++ [y31], y35, y37, Dl, y39, Mo⟩, a + 14) ⟨?_, by dsimp only; omega⟩ trivial (by repeat (first | exact zt | refine zw rfl ?_ | refine zu rfl rfl ?_)) ?_
    ·exact ⟨by simp, by simp; omega, fun s hs => by
      rcases List.mem_append.1 hs with hs | hs
      ·exact hTs s hs
      ·rw [List.mem_singleton.1 hs]; simp at hy31; rcases hy31 with rfl | rfl | rfl <;> decide⟩
    ·repeat (first | exact List.Perm.nil | refine zQ 0 rfl ?_ | refine zQ 1 rfl ?_ | refine zQ 2 rfl ?_ | refine zQ 3 rfl ?_ | (refine zM 0 rfl ?hq ?_; (case hq => simp [zZ, zn]; done)) | (refine zM 1 rfl ?hq ?_; (case hq => simp [zZ, zn]; done)) | (refine zM 2 rfl ?hq ?_; (case hq => simp [zZ, zn]; done)) | (refine zM 3 rfl ?hq ?_; (case hq => simp [zZ, zn]; done)) | fail)
   ·try simp at h2
    refine zm ?_
    refine zpu (⟨T, Ve, Wa, Dl, Le, Mo⟩, a + 7) ⟨⟨hT0, Nat.le_succ_of_le hT5, hTs⟩, by dsimp only; omega⟩ trivial (by repeat (first | exact zt | refine zw rfl ?_ | refine zu rfl rfl ?_)) ?_
    ·repeat (first | exact List.Perm.nil | refine zQ 0 rfl ?_ | refine zQ 1 rfl ?_ | refine zQ 2 rfl ?_ | refine zQ 3 rfl ?_ | (refine zM 0 rfl ?hq ?_; (case hq => simp [zZ, zn]; done)) | (refine zM 1 rfl ?hq ?_; (case hq => simp [zZ, zn]; done)) | (refine zM 2 rfl ?hq ?_; (case hq => simp [zZ, zn]; done)) | (refine zM 3 rfl ?hq ?_; (case hq => simp [zZ, zn]; done)) | fail)
  ·intro q hq2
   obtain ⟨m, a2⟩ := q
   dsimp only at hq2
   refine za ?_
   first
   | refine de rfl (ze5 (i := 0) zT rfl rfl rfl rfl rfl ?_)
   | refine de rfl (ze5 (i := 1) zT rfl rfl rfl rfl rfl ?_)
   | refine de rfl (ze5 (i := 2) zT rfl rfl rfl rfl rfl ?_)
   | refine de rfl (ze5 (i := 3) zT rfl rfl rfl rfl rfl ?_)
   first
   | refine de0 (zz (i := 0) zT rfl rfl rfl rfl rfl (Nat.le_of_ble_eq_true rfl) ?_)
   | refine de0 (zz (i := 1) zT rfl rfl rfl rfl rfl (Nat.le_of_ble_eq_true rfl) ?_)
   | refine de0 (zz (i := 2) zT rfl rfl rfl rfl rfl (Nat.le_of_ble_eq_true rfl) ?_)
   | refine de0 (zz (i := 3) zT rfl rfl rfl rfl rfl (Nat.le_of_ble_eq_true rfl) ?_)
   refine dn ?_
   refine zl ?_
   exact ⟨_, _, (Ghost.drop).trans (Ghost.fc0 2 rfl), [_], _, ⟨⟨_, _, _, _, _, rfl, zT, .inr ⟨rfl, rfl, rfl⟩⟩, trivial⟩, Weak.refl _, m, a2, rfl, hq2.1, hq2.2, rfl⟩
end
end Go.Proofs.YtpcaaekefgkhjaaGreatDoor
