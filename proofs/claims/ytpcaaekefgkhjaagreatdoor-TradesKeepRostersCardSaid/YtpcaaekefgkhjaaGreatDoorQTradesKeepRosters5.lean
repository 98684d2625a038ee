/- Part 5 of the proof: a program logic, contracts of functions and plain facts; no conditions. -/
import Derived.Test.YtpcaaekefgkhjaaGreatDoorQTradesKeepRosters4
set_option linter.unusedVariables false
set_option linter.unusedSimpArgs false
namespace Go.Proofs.YtpcaaekefgkhjaaGreatDoor
set_option maxRecDepth 100000
set_option linter.unusedVariables false
set_option linter.unusedSimpArgs false
section
open Go.HL
/-- (*benchwarmer/trade.deal).turn -/
theorem zbn [Tracks] {d : DV} {h t : Int}  : Con Tryz.prog 134 [pD d, .int .i64 h, .int .i64 t] [.cells d.b (cD d)] (fun x M' => x = .tup [] ∧ M' = [.cells d.b (cD { d with p := zbf d.p h t })]) := by
 refine Con.of_body Tryz.func134 rfl Tryz.ntmps134 rfl rfl ?_
 refine zD ?_
 refine dmv rfl ?_
 refine dmv rfl ?_
 refine dmv rfl ?_
 refine dmv rfl ?_
 refine dq ((by first | exact zx rfl | exact zo rfl)) ?_
 refine dq (ze zbm rfl ty3 (by decide) rfl) ?_
 first
 | refine de0 (zA (i := 0) ty3 rfl rfl rfl rfl rfl (Nat.le_of_ble_eq_true rfl) ?_)
 | refine de0 (zA (i := 1) ty3 rfl rfl rfl rfl rfl (Nat.le_of_ble_eq_true rfl) ?_)
 | refine de0 (zA (i := 2) ty3 rfl rfl rfl rfl rfl (Nat.le_of_ble_eq_true rfl) ?_)
 | refine de0 (zA (i := 3) ty3 rfl rfl rfl rfl rfl (Nat.le_of_ble_eq_true rfl) ?_)
 refine dq ((by first | exact zx rfl | exact zo rfl)) ?_
 refine dq (ze zbm rfl ty3 (by decide) rfl) ?_
 first
 | refine de0 (zA (i := 0) ty3 rfl rfl rfl rfl rfl (Nat.le_of_ble_eq_true rfl) ?_)
 | refine de0 (zA (i := 1) ty3 rfl rfl rfl rfl rfl (Nat.le_of_ble_eq_true rfl) ?_)
 | refine de0 (zA (i := 2) ty3 rfl rfl rfl rfl rfl (Nat.le_of_ble_eq_true rfl) ?_)
 | refine de0 (zA (i := 3) ty3 rfl rfl rfl rfl rfl (Nat.le_of_ble_eq_true rfl) ?_)
 refine dn ?_
 exact zak rfl ⟨rfl, rfl⟩

/-- (*benchwarmer/trade.floor).open -/
theorem ziM [Tracks] {bf : Nat} {m : MarketS} {o : List OwnerS} {fn : HVal} {E : List DV} {S : List MObj} {t : Int} (hE : E.length ≤ 1000000) : Con Tryz.prog 89 [pAt bf, .int .i64 t] (FL bf m o fn E ++ S) (fun x M' => x = .tup [] ∧ M' = FL bf m o fn (E.map (zfM t)) ++ S) := by
 refine Con.of_body Tryz.func89 rfl Tryz.ntmps89 rfl rfl ?_
 refine za ?_
 refine dmv rfl ?_
 refine dq ((by first | exact zx rfl | exact zo rfl)) ?_
 refine dq (ze zcn rfl zbH (by decide) rfl) ?_
 refine de rfl (zL (i := 0) zbH rfl rfl (.inl ⟨rfl, rfl⟩) ?_)
 refine dq (zI zbH rfl) ?_
 refine dmv rfl ?_
 refine dn ?_
 refine zq ?_
 refine zai [5, 11, 12, 13, 14, 15, 16, 17, 18, 19, 20, 21, 22, 23, 24, 25, 26, 27, 28, 29, 30, 31, 32, 33, 34, 35, 36, 37, 38, 39, 40, 41, 42] (fun (k : Nat) => [(11, .int .i64 k)]) (fun (k : Nat) => (FL bf m o fn (EK (zfM t) k E) ++ S)) (fun (k : Nat) => k ≤ E.length ∧ (True)) (fun (k : Nat) => E.length - k) (0) ?_ ?_ ?_ ?_
 ·exact ⟨Nat.zero_le _, trivial⟩
 ·exact ⟨rfl, trivial⟩
 ·exact zQ (by rw [EK_0])
 ·intro k hinv
  obtain ⟨hk, -⟩ := hinv
  refine za ?_
  refine dq (zS rfl rfl) ?_
  refine dn ?_
  refine zj ?_
  refine zi rfl (fun h1 => ?_) (fun h2 => ?_)
  ·try simp at h1
   obtain ⟨d, hd⟩ : ∃ d, E[k]? = some d := ⟨_, List.getElem?_eq_getElem h1⟩
   have hdd := zU hd
   have hdk := zqz (f := zfM t) hd
   refine zm ?_
   refine zh ?_
   refine zj ?_
   refine zq ?_
   refine za ?_
   refine dq (zW (j := k) (a := d) zbH zc3 rfl rfl rfl hd) ?_
   refine dq (zg zc3 rfl rfl rfl) ?_
   refine das rfl ?_
   refine dn ?_
   refine za ?_
   refine dmv rfl ?_
   refine dq ((by first | exact zx rfl | exact zo rfl)) ?_
   refine dq (ze zbm rfl ty3 (by decide) rfl) ?_
   refine de rfl (zL (i := 3 * k + 1) ty3 rfl (zbt hdk) (.inl ⟨rfl, rfl⟩) ?_)
   refine dq (zas rfl rfl) ?_
   refine dmv rfl ?_
   refine dg rfl rfl (fun hc => ⟨_, OpenTo.refl _, zf rfl⟩) ?_
   refine dg rfl rfl (fun hc => ⟨_, OpenTo.upd (t := 21) rfl (by first | exact hc | simp_all) (OpenTo.refl _), (by first | exact zx rfl | exact zo rfl)⟩) ?_
   refine dg rfl rfl (fun hc => ⟨_, OpenTo.upd (t := 22) rfl (by first | exact hc | simp_all) (OpenTo.refl _), ze zbm rfl zal (by decide) rfl⟩) ?_
   refine dg rfl rfl (fun hc => ⟨_, OpenTo.upd (t := 23) rfl (by first | exact hc | simp_all) (OpenTo.refl _), ze zal rfl zbS (by decide) rfl⟩) ?_
   refine dg rfl rfl (fun hc => ⟨_, OpenTo.upd (t := 24) rfl (by first | exact hc | simp_all) (OpenTo.refl _), ze zbS rfl ty3 (by decide) rfl⟩) ?_
   refine dgl rfl rfl (fun hc => ⟨_, OpenTo.upd (t := 25) rfl (by first | exact hc | simp_all) (OpenTo.refl _), zL (i := 3 * k + 1) ty3 rfl (zbt hdk) (.inl ⟨rfl, rfl⟩) ⟨rfl, rfl⟩⟩) ?_
   refine dg rfl rfl (fun hc => ⟨_, OpenTo.refl _, zf rfl⟩) ?_
   refine dg rfl rfl (fun hc => ⟨_, OpenTo.upd (t := 27) rfl (by first | exact hc | simp_all) (OpenTo.upd (t := 26) rfl (by first | exact hc | simp_all) (OpenTo.refl _)), zas rfl rfl⟩) ?_
   refine dq (zz rfl (.inr ⟨_, rfl, fun h => by simp_all⟩) (.inl rfl)) ?_
   refine dn ?_
   refine zi rfl (fun h3 => ?_) (fun h4 => ?_)
   ·try simp at h3
    refine za ?_
    refine dmv rfl ?_
    refine dmv rfl ?_
    refine de rfl (zdc (i := 3 * k + 1) (m' := .cells d.b (cD { d with p := zbf d.p 1 t })) zfX rfl (WeakL.refl _) (zbt hdk) (zbn (d := d)) ?_)
    refine dn ?_
    refine zM (Ghost.of_eq (zr2 hdk rfl rfl)) ?_
    have hdk2 : ((EK (zfM t) k E).set k (dU d ⟨1, t, d.p.2.yes, d.p.2.veto⟩))[k]? = some (dU d ⟨1, t, d.p.2.yes, d.p.2.veto⟩) := List.getElem?_set_self (zK hdk)
    refine zbM (fun M => M = (FL bf m o fn ((EK (zfM t) k E).set k (dU d ⟨1, t, d.p.2.yes, d.p.2.veto⟩)) ++ S)) [3, 8] mixed ?_
    refine ahp 0 rfl rfl (by kernel_rfl) (by kernel_rfl) (zf rfl) ?_
    refine ahp 1 rfl rfl (by kernel_rfl) (by kernel_rfl) ((by first | exact zx rfl | exact zo rfl)) ?_
    refine ahp 2 rfl rfl (by kernel_rfl) (by kernel_rfl) (ze zbm rfl zcx (by decide) rfl) ?_
    refine ahl 3 rfl rfl (by kernel_rfl) (by kernel_rfl) (by simp) rfl (fun M hM => by subst hM; exact zL (i := 3 * k + 1) zcx rfl (zbt (d := (dU d ⟨1, t, d.p.2.yes, d.p.2.veto⟩)) hdk2) (.inl ⟨rfl, rfl⟩) ⟨rfl, rfl⟩) ?_
    refine ahp 4 rfl rfl (by kernel_rfl) (by kernel_rfl) (zf rfl) ?_
    refine ahp 5 rfl rfl (by kernel_rfl) (by kernel_rfl) ((by first | exact zx rfl | exact zo rfl)) ?_
    refine ahp 6 rfl rfl (by kernel_rfl) (by kernel_rfl) (ze zbm rfl zal (by decide) rfl) ?_
    refine ahp 7 rfl rfl (by kernel_rfl) (by kernel_rfl) (ze zal rfl ty9 (by decide) rfl) ?_
    refine ahl 8 rfl rfl (by kernel_rfl) (by kernel_rfl) (by simp) rfl (fun M hM => by subst hM; exact zL (i := 3 * k + 1) ty9 rfl (zbt (d := (dU d ⟨1, t, d.p.2.yes, d.p.2.veto⟩)) hdk2) (.inl ⟨rfl, rfl⟩) ⟨rfl, rfl⟩) ?_
    refine ahe 9 rfl (by kernel_rfl) ?_
    refine zaa (zds (i := 3 * k + 2) zcx ty9 rfl rfl rfl (zq1 (d := dU d ⟨1, t, d.p.2.yes, d.p.2.veto⟩) hdk2) ?_)
    refine ⟨fun _ => .inr (by simp [zaN, Region.binds]), ?_⟩
    refine ahz (by kernel_rfl) ?_
    refine zy ?_
    refine zh ?_
    refine zD ?_
    refine dq (zB rfl rfl (by omega) (by omega)) ?_
    refine dmv rfl ?_
    refine dn ?_
    exact ⟨k + 1, ⟨by omega, trivial⟩, by dsimp only; omega, ⟨rfl, trivial⟩, (by repeat (first | exact zt | refine zw rfl ?_ | refine zu rfl rfl ?_)), zQ (by dsimp only; rw [← zp0 hd]; exact (zrZ hdk2).trans (zsP h3))⟩
   ·try simp at h4
    refine zm ?_
    refine zy ?_
    refine zh ?_
    refine zD ?_
    refine dq (zB rfl rfl (by omega) (by omega)) ?_
    refine dmv rfl ?_
    refine dn ?_
    exact ⟨k + 1, ⟨by omega, trivial⟩, by dsimp only; omega, ⟨rfl, trivial⟩, (by repeat (first | exact zt | refine zw rfl ?_ | refine zu rfl rfl ?_)), zQ (by dsimp only; rw [zsG hd (ztr h4)])⟩
  ·try simp at h2
   have hnk : E.length ≤ k := by omega
   obtain rfl : k = E.length := by omega
   rw [ztz]
   refine zX ?_
   refine z8 ?_
   refine zax ?_
   refine zO ?_
   exact zak rfl ⟨rfl, rfl⟩

/-- (*benchwarmer/trade.floor).find -/
theorem zrc [Tracks] {bf : Nat} {m : MarketS} {o : List OwnerS} {fn : HVal} {E : List DV} {S : List MObj} {id : Str} {k0 : Nat} {d0 : DV} (hE : E.length ≤ 1000000) (hk0 : E[k0]? = some d0) (hid : d0.p.1.Id = id) (hlt : ∀ (j : Nat) (z : DV), j < k0 → E[j]? = some z → z.p.1.Id ≠ id) : Con Tryz.prog 135 [pAt bf, .str id] (FL bf m o fn E ++ S) (fun x M' => x = pD d0 ∧ M' = (FL bf m o fn E ++ S)) := by
 refine Con.of_body Tryz.func135 rfl Tryz.ntmps135 rfl rfl ?_
 refine za ?_
 refine das rfl ?_
 refine dn ?_
 refine zj ?_
 refine za ?_
 refine dmv rfl ?_
 refine dq ((by first | exact zx rfl | exact zo rfl)) ?_
 refine dq (ze zcn rfl zbH (by decide) rfl) ?_
 refine de rfl (zL (i := 0) zbH rfl rfl (.inl ⟨rfl, rfl⟩) ?_)
 refine dq (zI zbH rfl) ?_
 refine dmv rfl ?_
 refine dn ?_
 refine zq ?_
 refine zai [4, 6, 12, 13, 14, 15, 16, 17, 18, 19, 20, 21, 22, 23, 24] (fun (k : Nat) => [(12, .int .i64 k)]) (fun (k : Nat) => (FL bf m o fn E ++ S)) (fun (k : Nat) => k ≤ E.length ∧ (k ≤ k0)) (fun (k : Nat) => E.length - k) (0) ?_ ?_ ?_ ?_
 ·exact ⟨Nat.zero_le _, Nat.zero_le _⟩
 ·exact ⟨rfl, trivial⟩
 ·exact List.Perm.refl _
 ·intro k hinv
  obtain ⟨hk, hg⟩ := hinv
  refine za ?_
  refine dq (zS rfl rfl) ?_
  refine dn ?_
  refine zj ?_
  refine zi rfl (fun h1 => ?_) (fun h2 => ?_)
  ·try simp at h1
   obtain ⟨d, hd⟩ : ∃ d, E[k]? = some d := ⟨_, List.getElem?_eq_getElem h1⟩
   have hdd := zU hd
   refine zm ?_
   refine zh ?_
   refine zj ?_
   refine zq ?_
   refine za ?_
   refine dq (zW (j := k) (a := d) zbH zc3 rfl rfl rfl hd) ?_
   refine dq (zg zc3 rfl rfl rfl) ?_
   refine das rfl ?_
   refine dn ?_
   refine za ?_
   refine dmv rfl ?_
   refine dq ((by first | exact zx rfl | exact zo rfl)) ?_
   refine dq (ze zbm rfl zal (by decide) rfl) ?_
   refine dq (ze zal rfl ty9 (by decide) rfl) ?_
   refine de rfl (zL (i := 3 * k + 1) ty9 rfl (zbt hd) (.inl ⟨rfl, rfl⟩) ?_)
   refine dmv rfl ?_
   refine dq (zbv rfl rfl) ?_
   refine dn ?_
   refine zi rfl (fun h3 => ?_) (fun h4 => ?_)
   ·try simp at h3
    refine za ?_
    refine dmv rfl ?_
    refine das rfl ?_
    refine dn ?_
    refine zl ?_
    first
    | (have hq : k = k0 := by
        rcases Nat.lt_or_ge k k0 with q | q
        ·exact absurd h3 (hlt k d q hd)
        ·omega
       subst hq
       rw [hk0] at hd; cases hd
       exact za2 rfl ⟨rfl, rfl⟩)
    | (exfalso; have := zK hk0; omega)
   ·try simp at h4
    refine zm ?_
    refine zy ?_
    refine zh ?_
    refine zD ?_
    refine dq (zB rfl rfl (by omega) (by omega)) ?_
    refine dmv rfl ?_
    refine dn ?_
    refine ⟨k + 1, ?_, ?_, ⟨rfl, trivial⟩, (by repeat (first | exact zt | refine zw rfl ?_ | refine zu rfl rfl ?_)), List.Perm.refl _⟩
    ·refine ⟨by omega, ?_⟩
     rcases Nat.lt_or_ge k k0 with q | q
     ·omega
     ·obtain rfl : k = k0 := by omega
      rw [hk0] at hd; cases hd; exact absurd hid h4
    ·dsimp only; omega
  ·try simp at h2
   have hnk : E.length ≤ k := by omega
   obtain rfl : k = E.length := by omega
   refine zX ?_
   refine z8 ?_
   refine zax ?_
   refine zO ?_
   refine zh ?_
   refine za ?_
   refine das rfl ?_
   refine dn ?_
   refine zl ?_
   first
   | (have hq : k = k0 := by
       rcases Nat.lt_or_ge k k0 with q | q
       ·exact absurd h3 (hlt k d q hd)
       ·omega
      subst hq
      rw [hk0] at hd; cases hd
      exact za2 rfl ⟨rfl, rfl⟩)
   | (exfalso; have := zK hk0; omega)

/-- (*benchwarmer/trade.floor).find -/
theorem zru [Tracks] {bf : Nat} {m : MarketS} {o : List OwnerS} {fn : HVal} {E : List DV} {S : List MObj} {id : Str} (hE : E.length ≤ 1000000) (hno : ∀ z ∈ E, z.p.1.Id ≠ id) : Con Tryz.prog 135 [pAt bf, .str id] (FL bf m o fn E ++ S) (fun x M' => x = .raw (.pointer none) ∧ M' = (FL bf m o fn E ++ S)) := by
 refine Con.of_body Tryz.func135 rfl Tryz.ntmps135 rfl rfl ?_
 refine za ?_
 refine das rfl ?_
 refine dn ?_
 refine zj ?_
 refine za ?_
 refine dmv rfl ?_
 refine dq ((by first | exact zx rfl | exact zo rfl)) ?_
 refine dq (ze zcn rfl zbH (by decide) rfl) ?_
 refine de rfl (zL (i := 0) zbH rfl rfl (.inl ⟨rfl, rfl⟩) ?_)
 refine dq (zI zbH rfl) ?_
 refine dmv rfl ?_
 refine dn ?_
 refine zq ?_
 refine zai [4, 6, 12, 13, 14, 15, 16, 17, 18, 19, 20, 21, 22, 23, 24] (fun (k : Nat) => [(12, .int .i64 k)]) (fun (k : Nat) => (FL bf m o fn E ++ S)) (fun (k : Nat) => k ≤ E.length ∧ (True)) (fun (k : Nat) => E.length - k) (0) ?_ ?_ ?_ ?_
 ·exact ⟨Nat.zero_le _, trivial⟩
 ·exact ⟨rfl, trivial⟩
 ·exact List.Perm.refl _
 ·intro k hinv
  obtain ⟨hk, -⟩ := hinv
  refine za ?_
  refine dq (zS rfl rfl) ?_
  refine dn ?_
  refine zj ?_
  refine zi rfl (fun h1 => ?_) (fun h2 => ?_)
  ·try simp at h1
   obtain ⟨d, hd⟩ : ∃ d, E[k]? = some d := ⟨_, List.getElem?_eq_getElem h1⟩
   have hdd := zU hd
   refine zm ?_
   refine zh ?_
   refine zj ?_
   refine zq ?_
   refine za ?_
   refine dq (zW (j := k) (a := d) zbH zc3 rfl rfl rfl hd) ?_
   refine dq (zg zc3 rfl rfl rfl) ?_
   refine das rfl ?_
   refine dn ?_
   refine za ?_
   refine dmv rfl ?_
   refine dq ((by first | exact zx rfl | exact zo rfl)) ?_
   refine dq (ze zbm rfl zal (by decide) rfl) ?_
   refine dq (ze zal rfl ty9 (by decide) rfl) ?_
   refine de rfl (zL (i := 3 * k + 1) ty9 rfl (zbt hd) (.inl ⟨rfl, rfl⟩) ?_)
   refine dmv rfl ?_
   refine dq (zbv rfl rfl) ?_
   refine dn ?_
   refine zi rfl (fun h3 => ?_) (fun h3 => ?_)
   ·exfalso
    try simp at h3
    exact hno d (List.mem_of_getElem? hd) h3
   ·try simp at h3
    refine zm ?_
    refine zy ?_
    refine zh ?_
    refine zD ?_
    refine dq (zB rfl rfl (by omega) (by omega)) ?_
    refine dmv rfl ?_
    refine dn ?_
    refine ⟨k + 1, ?_, ?_, ⟨rfl, trivial⟩, (by repeat (first | exact zt | refine zw rfl ?_ | refine zu rfl rfl ?_)), List.Perm.refl _⟩
    ·exact ⟨by omega, trivial⟩
    ·dsimp only; omega
  ·try simp at h2
   have hnk : E.length ≤ k := by omega
   obtain rfl : k = E.length := by omega
   refine zX ?_
   refine z8 ?_
   refine zax ?_
   refine zO ?_
   refine zh ?_
   refine za ?_
   refine das rfl ?_
   refine dn ?_
   refine zl ?_
   exact za2 rfl ⟨rfl, rfl⟩

set_option maxHeartbeats 4000000 in
/-- (*benchwarmer/trade.floor).answer -/
theorem zpD [Tracks] {bf : Nat} {m : MarketS} {o : List OwnerS} {fn : HVal} {E : List DV} {S : List MObj} {a : ReplyS} {k0 : Nat} {d0 : DV} (hE : E.length ≤ 1000000) (hG : d0.p.1.Gives.length ≤ 1000) (hk0 : E[k0]? = some d0) (hid : d0.p.1.Id = a.Offer) (hlt : ∀ (j : Nat) (z : DV), j < k0 → E[j]? = some z → z.p.1.Id ≠ a.Offer) : Con Tryz.prog 90 [pAt bf, zbx a] (FL bf m o fn E ++ S) (fun x M' => x = .tup [] ∧ M' = FL bf m o fn (E.set k0 (dP d0 (zbU m a d0.p))) ++ S) := by
 refine Con.of_body Tryz.func90 rfl Tryz.ntmps90 rfl rfl ?_
 refine za ?_
 refine dq (zat rfl rfl) ?_
 refine dn ?_
 refine za ?_
 refine dmv rfl ?_
 refine dq ((by first | exact zb z6 rfl ty9 (by decide) rfl | exact ze z6 rfl ty9 (by decide) rfl)) ?_
 refine dq (zg ty9 rfl rfl rfl) ?_
 refine de rfl (EOp.mono ?_ (zcB zrS rfl (WeakL.refl _) (zrc hE hk0 hid hlt)))
 rintro _ _ ⟨rfl, rfl⟩
 refine das rfl ?_
 refine dn ?_
 refine zj ?_
 refine za ?_
 refine dmv rfl ?_
 refine dq (zkP zc3 rfl rfl) ?_
 refine dmv rfl ?_
 refine dg rfl rfl (fun hc => ⟨_, OpenTo.refl _, zf rfl⟩) ?_
 refine dg rfl rfl (fun hc => ⟨_, OpenTo.upd (t := 13) rfl (by first | exact hc | simp_all) (OpenTo.refl _), (by first | exact zx rfl | exact zo rfl)⟩) ?_
 refine dg rfl rfl (fun hc => ⟨_, OpenTo.upd (t := 14) rfl (by first | exact hc | simp_all) (OpenTo.refl _), ze zbm rfl ty3 (by decide) rfl⟩) ?_
 refine dgl rfl rfl (fun hc => ⟨_, OpenTo.upd (t := 15) rfl (by first | exact hc | simp_all) (OpenTo.refl _), zL (i := 3 * k0 + 1) ty3 rfl (zbt hk0) (.inl ⟨rfl, rfl⟩) ⟨rfl, rfl⟩⟩) ?_
 refine dg rfl rfl (fun hc => ⟨_, OpenTo.upd (t := 16) rfl (by first | exact hc | simp_all) (OpenTo.refl _), zaK rfl rfl⟩) ?_
 refine dg rfl rfl (fun hc => ⟨_, OpenTo.upd (t := 17) rfl (by first | exact hc | simp_all) (OpenTo.refl _), zf rfl⟩) ?_
 refine dg rfl rfl (fun hc => ⟨_, OpenTo.refl _, zf rfl⟩) ?_
 refine dg rfl rfl (fun hc => ⟨_, OpenTo.upd (t := 19) rfl (by first | exact hc | simp_all) (OpenTo.refl _), (by first | exact zx rfl | exact zo rfl)⟩) ?_
 refine dg rfl rfl (fun hc => ⟨_, OpenTo.upd (t := 20) rfl (by first | exact hc | simp_all) (OpenTo.refl _), ze zbm rfl ty3 (by decide) rfl⟩) ?_
 refine dgl rfl rfl (fun hc => ⟨_, OpenTo.upd (t := 21) rfl (by first | exact hc | simp_all) (OpenTo.refl _), zL (i := 3 * k0 + 1) ty3 rfl (zbt hk0) (.inl ⟨rfl, rfl⟩) ⟨rfl, rfl⟩⟩) ?_
 refine dg rfl rfl (fun hc => ⟨_, OpenTo.upd (t := 22) rfl (by first | exact hc | simp_all) (OpenTo.refl _), zaK rfl rfl⟩) ?_
 refine dg rfl rfl (fun hc => ⟨_, OpenTo.upd (t := 18) rfl (by first | exact hc | simp_all) (OpenTo.refl _), zz rfl (.inr ⟨_, rfl, fun h => by simp_all⟩) (.inl rfl)⟩) ?_
 refine dq (zz rfl (.inl rfl) (.inr ⟨_, rfl, fun h => by simp_all⟩)) ?_
 refine dn ?_
 refine zi rfl (fun h1 => ?_) (fun h2 => ?_)
 ·try simp at h1
  refine zl ?_
  first
  | exact za2 rfl ⟨rfl, zeS hk0 (by simpa using h1)⟩
  | exact zak rfl ⟨rfl, (zbq hk1).trans (by rw [List.set_set, (zcF h0 (by simp_all)).1 (by have q := h5; rw [zaX] at q; exact q)])⟩
  | exact zak rfl ⟨rfl, by rw [(zcF h0 (by simp_all)).2 (by have q := h6; rw [zaX] at q; exact q)]⟩
  | exact zak rfl ⟨rfl, (zbq hk0).trans (by rw [zgT h0 (by first | (simp; done) | (rintro ⟨q1, q2, q3⟩; simp_all; done) | (rintro ⟨q1, q2⟩; simp_all; done) | simp_all) (by simp_all)])⟩
  | exact zak rfl ⟨rfl, (zbq hk0).trans (by rw [zeO h0 (by first | (simp; done) | (rintro ⟨q1, q2, q3⟩; simp_all; done) | (rintro ⟨q1, q2⟩; simp_all; done) | simp_all) (by first | (simp; done) | (rintro ⟨q1, q2, q3⟩; simp_all; done) | (rintro ⟨q1, q2⟩; simp_all; done) | simp_all) (by simp_all)])⟩
  | exact zak rfl ⟨rfl, (zbq hk2).trans (by rw [List.set_set, (zb9 h0 (by first | (simp; done) | (rintro ⟨q1, q2, q3⟩; simp_all; done) | (rintro ⟨q1, q2⟩; simp_all; done) | simp_all) (by first | (simp; done) | (rintro ⟨q1, q2, q3⟩; simp_all; done) | (rintro ⟨q1, q2⟩; simp_all; done) | simp_all) (by first | (simp; done) | (rintro ⟨q1, q2, q3⟩; simp_all; done) | (rintro ⟨q1, q2⟩; simp_all; done) | simp_all) (by simp_all)).1 (by have q := h13; rw [zaX] at q; exact q)])⟩
  | exact zak rfl ⟨rfl, by rw [(zb9 h0 (by first | (simp; done) | (rintro ⟨q1, q2, q3⟩; simp_all; done) | (rintro ⟨q1, q2⟩; simp_all; done) | simp_all) (by first | (simp; done) | (rintro ⟨q1, q2, q3⟩; simp_all; done) | (rintro ⟨q1, q2⟩; simp_all; done) | simp_all) (by first | (simp; done) | (rintro ⟨q1, q2, q3⟩; simp_all; done) | (rintro ⟨q1, q2⟩; simp_all; done) | simp_all) (by simp_all)).2 (by have q := h14; rw [zaX] at q; exact q)]⟩
  | exact zak rfl ⟨rfl, zeV hk0 (by first | (simp; done) | (rintro ⟨q1, q2, q3⟩; simp_all; done) | (rintro ⟨q1, q2⟩; simp_all; done) | simp_all) (by first | (simp; done) | (rintro ⟨q1, q2, q3⟩; simp_all; done) | (rintro ⟨q1, q2⟩; simp_all; done) | simp_all) (by first | (simp; done) | (rintro ⟨q1, q2, q3⟩; simp_all; done) | (rintro ⟨q1, q2⟩; simp_all; done) | simp_all) (by first | (simp; done) | (rintro ⟨q1, q2, q3⟩; simp_all; done) | (rintro ⟨q1, q2⟩; simp_all; done) | simp_all)⟩
 ·try simp at h2
  refine zm ?_
  refine zh ?_
  have h0 : ¬ (d0.p.2.how ≠ 1 ∧ d0.p.2.how ≠ 2) := by simpa using h2
  refine zaH (fun M => M = (FL bf m o fn E ++ S)) [3] mixed ?_
  refine ahp 0 rfl rfl (by kernel_rfl) (by kernel_rfl) (zf rfl) ?_
  refine ahp 1 rfl rfl (by kernel_rfl) (by kernel_rfl) ((by first | exact zx rfl | exact zo rfl)) ?_
  refine ahp 2 rfl rfl (by kernel_rfl) (by kernel_rfl) (ze zbm rfl zR (by decide) rfl) ?_
  refine ahl 3 rfl rfl (by kernel_rfl) (by kernel_rfl) (by simp) rfl (fun M hM => by subst hM; exact zL (i := 3 * k0 + 1) zR rfl (zbt hk0) (.inl ⟨rfl, rfl⟩) ⟨rfl, rfl⟩) ?_
  refine ahp 4 rfl rfl (by kernel_rfl) (by kernel_rfl) ((by first | exact zb z6 rfl ty9 (by decide) rfl | exact ze z6 rfl ty9 (by decide) rfl)) ?_
  refine ahp 5 rfl rfl (by kernel_rfl) (by kernel_rfl) (zg ty9 rfl rfl rfl) ?_
  refine ahp 6 rfl rfl (by kernel_rfl) (by kernel_rfl) (zp zit rfl (WeakL.refl _) (zaL (l := zbp d0.p.1.Gives) (s := a.Team) (by have := zi4 d0.p.1.Gives; omega))) ?_
  refine ahp 7 rfl rfl (by kernel_rfl) (by kernel_rfl) (zau rfl) ?_
  refine ahz (by kernel_rfl) ?_
  refine zq ?_
  refine za ?_
  refine dq ((by first | exact zb z6 rfl ty3 (by decide) rfl | exact ze z6 rfl ty3 (by decide) rfl)) ?_
  refine dq (zg ty3 rfl rfl rfl) ?_
  refine dq (zas rfl rfl) ?_
  refine dmv rfl ?_
  refine dg rfl rfl (fun hc => ⟨_, OpenTo.refl _, zf rfl⟩) ?_
  refine dq (zz rfl (.inr ⟨_, rfl, fun h => by simp_all⟩) (.inl rfl)) ?_
  refine dmv rfl ?_
  refine dg rfl rfl (fun hc => ⟨_, OpenTo.refl _, zf rfl⟩) ?_
  refine dg rfl rfl (fun hc => ⟨_, OpenTo.upd (t := 41) rfl (by first | exact hc | simp_all) (OpenTo.refl _), (by first | exact zx rfl | exact zo rfl)⟩) ?_
  refine dg rfl rfl (fun hc => ⟨_, OpenTo.upd (t := 42) rfl (by first | exact hc | simp_all) (OpenTo.refl _), ze zbm rfl ty3 (by decide) rfl⟩) ?_
  refine dgl rfl rfl (fun hc => ⟨_, OpenTo.upd (t := 43) rfl (by first | exact hc | simp_all) (OpenTo.refl _), zL (i := 3 * k0 + 1) ty3 rfl (zbt hk0) (.inl ⟨rfl, rfl⟩) ⟨rfl, rfl⟩⟩) ?_
  refine dg rfl rfl (fun hc => ⟨_, OpenTo.upd (t := 44) rfl (by first | exact hc | simp_all) (OpenTo.refl _), zas rfl rfl⟩) ?_
  refine dq (zz rfl (.inr ⟨_, rfl, fun h => by simp_all⟩) (.inl rfl)) ?_
  refine das rfl ?_
  refine dn ?_
  refine zi rfl (fun h3 => ?_) (fun h4 => ?_)
  ·try simp at h3
   refine zaH (fun M => M = (FL bf m o fn E ++ S)) [3] mixed ?_
   refine ahp 0 rfl rfl (by kernel_rfl) (by kernel_rfl) (zf rfl) ?_
   refine ahp 1 rfl rfl (by kernel_rfl) (by kernel_rfl) ((by first | exact zx rfl | exact zo rfl)) ?_
   refine ahp 2 rfl rfl (by kernel_rfl) (by kernel_rfl) (ze zbm rfl zcx (by decide) rfl) ?_
   refine ahl 3 rfl rfl (by kernel_rfl) (by kernel_rfl) (by simp) rfl (fun M hM => by subst hM; exact zL (i := 3 * k0 + 1) zcx rfl (zbt hk0) (.inl ⟨rfl, rfl⟩) ⟨rfl, rfl⟩) ?_
   refine ahp 4 rfl rfl (by kernel_rfl) (by kernel_rfl) ((by first | exact zb z6 rfl ty9 (by decide) rfl | exact ze z6 rfl ty9 (by decide) rfl)) ?_
   refine ahp 5 rfl rfl (by kernel_rfl) (by kernel_rfl) (zg ty9 rfl rfl rfl) ?_
   refine ahe 6 rfl (by kernel_rfl) ?_
   refine zaa (zds (i := 3 * k0 + 2) zcx ty9 rfl rfl rfl (zq1 hk0) ?_)
   refine ⟨fun _ => .inr (by simp [zaN, Region.binds]), ?_⟩
   refine ahz (by kernel_rfl) ?_
   refine zM (Ghost.of_eq (zrZ hk0)) ?_
   have hk1 : (E.set k0 (dY d0 (zaP a.Team d0.p.2.yes)))[k0]? = some (dY d0 (zaP a.Team d0.p.2.yes)) := zlX hk0
   change HWp _ _ _ _ (FL bf m o fn (E.set k0 (dY d0 (zaP a.Team d0.p.2.yes))) ++ S) _
   refine zaH (fun M => M = (FL bf m o fn (E.set k0 (dY d0 (zaP a.Team d0.p.2.yes))) ++ S)) [3, 4, 8] mixed ?_
   refine ahp 0 rfl rfl (by kernel_rfl) (by kernel_rfl) (zf rfl) ?_
   refine ahp 1 rfl rfl (by kernel_rfl) (by kernel_rfl) ((by first | exact zx rfl | exact zo rfl)) ?_
   refine ahp 2 rfl rfl (by kernel_rfl) (by kernel_rfl) (ze zbm rfl zcx (by decide) rfl) ?_
   refine ahl 3 rfl rfl (by kernel_rfl) (by kernel_rfl) (by simp) rfl (fun M hM => by subst hM; exact zL (i := 3 * k0 + 1) zcx rfl (zbt (d := (dY d0 (zaP a.Team d0.p.2.yes))) hk1) (.inl ⟨rfl, rfl⟩) ⟨rfl, rfl⟩) ?_
   refine ahl 4 rfl rfl (by kernel_rfl) (by kernel_rfl) (by simp) rfl (fun M hM => by subst hM; exact zf2 (i := 3 * k0 + 2) zcx rfl (zq1 (d := (dY d0 (zaP a.Team d0.p.2.yes))) hk1) ⟨rfl, rfl⟩) ?_
   refine ahp 5 rfl rfl (by kernel_rfl) (by kernel_rfl) (zf rfl) ?_
   refine ahp 6 rfl rfl (by kernel_rfl) (by kernel_rfl) ((by first | exact zx rfl | exact zo rfl)) ?_
   refine ahp 7 rfl rfl (by kernel_rfl) (by kernel_rfl) (ze zbm rfl zR (by decide) rfl) ?_
   refine ahl 8 rfl rfl (by kernel_rfl) (by kernel_rfl) (by simp) rfl (fun M hM => by subst hM; exact zL (i := 3 * k0 + 1) zR rfl (zbt (d := (dY d0 (zaP a.Team d0.p.2.yes))) hk1) (.inl ⟨rfl, rfl⟩) ⟨rfl, rfl⟩) ?_
   refine ahp 9 rfl rfl (by kernel_rfl) (by kernel_rfl) (zI zR rfl) ?_
   refine ahp 10 rfl rfl (by kernel_rfl) (by kernel_rfl) (zas rfl rfl) ?_
   refine ahz (by kernel_rfl) ?_
   refine zi rfl (fun h5 => ?_) (fun h6 => ?_)
   ·try simp at h5
    refine zD ?_
    refine dmv rfl ?_
    refine dq ((by first | exact zb z6 rfl ty3 (by decide) rfl | exact ze z6 rfl ty3 (by decide) rfl)) ?_
    refine dq (zg ty3 rfl rfl rfl) ?_
    refine de rfl (zdc (i := 3 * k0 + 1) (m' := .cells (dY d0 (zaP a.Team d0.p.2.yes)).b (cD { (dY d0 (zaP a.Team d0.p.2.yes)) with p := zbf (dY d0 (zaP a.Team d0.p.2.yes)).p 2 a.At })) zfX rfl (WeakL.refl _) (zbt hk1) (zbn (d := (dY d0 (zaP a.Team d0.p.2.yes)))) ?_)
    refine dn ?_
    refine zy ?_
    first
    | exact za2 rfl ⟨rfl, zeS hk0 (by simpa using h1)⟩
    | exact zak rfl ⟨rfl, (zbq hk1).trans (by rw [List.set_set, (zcF h0 (by simp_all)).1 (by have q := h5; rw [zaX] at q; exact q)])⟩
    | exact zak rfl ⟨rfl, by rw [(zcF h0 (by simp_all)).2 (by have q := h6; rw [zaX] at q; exact q)]⟩
    | exact zak rfl ⟨rfl, (zbq hk0).trans (by rw [zgT h0 (by first | (simp; done) | (rintro ⟨q1, q2, q3⟩; simp_all; done) | (rintro ⟨q1, q2⟩; simp_all; done) | simp_all) (by simp_all)])⟩
    | exact zak rfl ⟨rfl, (zbq hk0).trans (by rw [zeO h0 (by first | (simp; done) | (rintro ⟨q1, q2, q3⟩; simp_all; done) | (rintro ⟨q1, q2⟩; simp_all; done) | simp_all) (by first | (simp; done) | (rintro ⟨q1, q2, q3⟩; simp_all; done) | (rintro ⟨q1, q2⟩; simp_all; done) | simp_all) (by simp_all)])⟩
    | exact zak rfl ⟨rfl, (zbq hk2).trans (by rw [List.set_set, (zb9 h0 (by first | (simp; done) | (rintro ⟨q1, q2, q3⟩; simp_all; done) | (rintro ⟨q1, q2⟩; simp_all; done) | simp_all) (by first | (simp; done) | (rintro ⟨q1, q2, q3⟩; simp_all; done) | (rintro ⟨q1, q2⟩; simp_all; done) | simp_all) (by first | (simp; done) | (rintro ⟨q1, q2, q3⟩; simp_all; done) | (rintro ⟨q1, q2⟩; simp_all; done) | simp_all) (by simp_all)).1 (by have q := h13; rw [zaX] at q; exact q)])⟩
    | exact zak rfl ⟨rfl, by rw [(zb9 h0 (by first | (simp; done) | (rintro ⟨q1, q2, q3⟩; simp_all; done) | (rintro ⟨q1, q2⟩; simp_all; done) | simp_all) (by first | (simp; done) | (rintro ⟨q1, q2, q3⟩; simp_all; done) | (rintro ⟨q1, q2⟩; simp_all; done) | simp_all) (by first | (simp; done) | (rintro ⟨q1, q2, q3⟩; simp_all; done) | (rintro ⟨q1, q2⟩; simp_all; done) | simp_all) (by simp_all)).2 (by have q := h14; rw [zaX] at q; exact q)]⟩
    | exact zak rfl ⟨rfl, zeV hk0 (by first | (simp; done) | (rintro ⟨q1, q2, q3⟩; simp_all; done) | (rintro ⟨q1, q2⟩; simp_all; done) | simp_all) (by first | (simp; done) | (rintro ⟨q1, q2, q3⟩; simp_all; done) | (rintro ⟨q1, q2⟩; simp_all; done) | simp_all) (by first | (simp; done) | (rintro ⟨q1, q2, q3⟩; simp_all; done) | (rintro ⟨q1, q2⟩; simp_all; done) | simp_all) (by first | (simp; done) | (rintro ⟨q1, q2, q3⟩; simp_all; done) | (rintro ⟨q1, q2⟩; simp_all; done) | simp_all)⟩
   ·try simp at h6
    refine zm ?_
    refine zy ?_
    first
    | exact za2 rfl ⟨rfl, zeS hk0 (by simpa using h1)⟩
    | exact zak rfl ⟨rfl, (zbq hk1).trans (by rw [List.set_set, (zcF h0 (by simp_all)).1 (by have q := h5; rw [zaX] at q; exact q)])⟩
    | exact zak rfl ⟨rfl, by rw [(zcF h0 (by simp_all)).2 (by have q := h6; rw [zaX] at q; exact q)]⟩
    | exact zak rfl ⟨rfl, (zbq hk0).trans (by rw [zgT h0 (by first | (simp; done) | (rintro ⟨q1, q2, q3⟩; simp_all; done) | (rintro ⟨q1, q2⟩; simp_all; done) | simp_all) (by simp_all)])⟩
    | exact zak rfl ⟨rfl, (zbq hk0).trans (by rw [zeO h0 (by first | (simp; done) | (rintro ⟨q1, q2, q3⟩; simp_all; done) | (rintro ⟨q1, q2⟩; simp_all; done) | simp_all) (by first | (simp; done) | (rintro ⟨q1, q2, q3⟩; simp_all; done) | (rintro ⟨q1, q2⟩; simp_all; done) | simp_all) (by simp_all)])⟩
    | exact zak rfl ⟨rfl, (zbq hk2).trans (by rw [List.set_set, (zb9 h0 (by first | (simp; done) | (rintro ⟨q1, q2, q3⟩; simp_all; done) | (rintro ⟨q1, q2⟩; simp_all; done) | simp_all) (by first | (simp; done) | (rintro ⟨q1, q2, q3⟩; simp_all; done) | (rintro ⟨q1, q2⟩; simp_all; done) | simp_all) (by first | (simp; done) | (rintro ⟨q1, q2, q3⟩; simp_all; done) | (rintro ⟨q1, q2⟩; simp_all; done) | simp_all) (by simp_all)).1 (by have q := h13; rw [zaX] at q; exact q)])⟩
    | exact zak rfl ⟨rfl, by rw [(zb9 h0 (by first | (simp; done) | (rintro ⟨q1, q2, q3⟩; simp_all; done) | (rintro ⟨q1, q2⟩; simp_all; done) | simp_all) (by first | (simp; done) | (rintro ⟨q1, q2, q3⟩; simp_all; done) | (rintro ⟨q1, q2⟩; simp_all; done) | simp_all) (by first | (simp; done) | (rintro ⟨q1, q2, q3⟩; simp_all; done) | (rintro ⟨q1, q2⟩; simp_all; done) | simp_all) (by simp_all)).2 (by have q := h14; rw [zaX] at q; exact q)]⟩
    | exact zak rfl ⟨rfl, zeV hk0 (by first | (simp; done) | (rintro ⟨q1, q2, q3⟩; simp_all; done) | (rintro ⟨q1, q2⟩; simp_all; done) | simp_all) (by first | (simp; done) | (rintro ⟨q1, q2, q3⟩; simp_all; done) | (rintro ⟨q1, q2⟩; simp_all; done) | simp_all) (by first | (simp; done) | (rintro ⟨q1, q2, q3⟩; simp_all; done) | (rintro ⟨q1, q2⟩; simp_all; done) | simp_all) (by first | (simp; done) | (rintro ⟨q1, q2, q3⟩; simp_all; done) | (rintro ⟨q1, q2⟩; simp_all; done) | simp_all)⟩
  ·try simp at h4
   refine za ?_
   refine dq ((by first | exact zb z6 rfl ty3 (by decide) rfl | exact ze z6 rfl ty3 (by decide) rfl)) ?_
   refine dq (zg ty3 rfl rfl rfl) ?_
   refine dq (zas rfl rfl) ?_
   refine dmv rfl ?_
   refine dg rfl rfl (fun hc => ⟨_, OpenTo.refl _, zf rfl⟩) ?_
   refine dq (zz rfl (.inr ⟨_, rfl, fun h => by simp_all⟩) (.inl rfl)) ?_
   refine das rfl ?_
   refine dn ?_
   refine zi rfl (fun h7 => ?_) (fun h8 => ?_)
   ·try simp at h7
    refine zD ?_
    refine dmv rfl ?_
    refine dq ((by first | exact zb z6 rfl ty3 (by decide) rfl | exact ze z6 rfl ty3 (by decide) rfl)) ?_
    refine dq (zg ty3 rfl rfl rfl) ?_
    refine de rfl (zdc (i := 3 * k0 + 1) (m' := .cells d0.b (cD { d0 with p := zbf d0.p 4 a.At })) zfX rfl (WeakL.refl _) (zbt hk0) (zbn (d := d0)) ?_)
    refine dn ?_
    refine zy ?_
    first
    | exact za2 rfl ⟨rfl, zeS hk0 (by simpa using h1)⟩
    | exact zak rfl ⟨rfl, (zbq hk1).trans (by rw [List.set_set, (zcF h0 (by simp_all)).1 (by have q := h5; rw [zaX] at q; exact q)])⟩
    | exact zak rfl ⟨rfl, by rw [(zcF h0 (by simp_all)).2 (by have q := h6; rw [zaX] at q; exact q)]⟩
    | exact zak rfl ⟨rfl, (zbq hk0).trans (by rw [zgT h0 (by first | (simp; done) | (rintro ⟨q1, q2, q3⟩; simp_all; done) | (rintro ⟨q1, q2⟩; simp_all; done) | simp_all) (by simp_all)])⟩
    | exact zak rfl ⟨rfl, (zbq hk0).trans (by rw [zeO h0 (by first | (simp; done) | (rintro ⟨q1, q2, q3⟩; simp_all; done) | (rintro ⟨q1, q2⟩; simp_all; done) | simp_all) (by first | (simp; done) | (rintro ⟨q1, q2, q3⟩; simp_all; done) | (rintro ⟨q1, q2⟩; simp_all; done) | simp_all) (by simp_all)])⟩
    | exact zak rfl ⟨rfl, (zbq hk2).trans (by rw [List.set_set, (zb9 h0 (by first | (simp; done) | (rintro ⟨q1, q2, q3⟩; simp_all; done) | (rintro ⟨q1, q2⟩; simp_all; done) | simp_all) (by first | (simp; done) | (rintro ⟨q1, q2, q3⟩; simp_all; done) | (rintro ⟨q1, q2⟩; simp_all; done) | simp_all) (by first | (simp; done) | (rintro ⟨q1, q2, q3⟩; simp_all; done) | (rintro ⟨q1, q2⟩; simp_all; done) | simp_all) (by simp_all)).1 (by have q := h13; rw [zaX] at q; exact q)])⟩
    | exact zak rfl ⟨rfl, by rw [(zb9 h0 (by first | (simp; done) | (rintro ⟨q1, q2, q3⟩; simp_all; done) | (rintro ⟨q1, q2⟩; simp_all; done) | simp_all) (by first | (simp; done) | (rintro ⟨q1, q2, q3⟩; simp_all; done) | (rintro ⟨q1, q2⟩; simp_all; done) | simp_all) (by first | (simp; done) | (rintro ⟨q1, q2, q3⟩; simp_all; done) | (rintro ⟨q1, q2⟩; simp_all; done) | simp_all) (by simp_all)).2 (by have q := h14; rw [zaX] at q; exact q)]⟩
    | exact zak rfl ⟨rfl, zeV hk0 (by first | (simp; done) | (rintro ⟨q1, q2, q3⟩; simp_all; done) | (rintro ⟨q1, q2⟩; simp_all; done) | simp_all) (by first | (simp; done) | (rintro ⟨q1, q2, q3⟩; simp_all; done) | (rintro ⟨q1, q2⟩; simp_all; done) | simp_all) (by first | (simp; done) | (rintro ⟨q1, q2, q3⟩; simp_all; done) | (rintro ⟨q1, q2⟩; simp_all; done) | simp_all) (by first | (simp; done) | (rintro ⟨q1, q2, q3⟩; simp_all; done) | (rintro ⟨q1, q2⟩; simp_all; done) | simp_all)⟩
   ·try simp at h8
    refine zaH (fun M => M = (FL bf m o fn E ++ S)) [10] mixed ?_
    refine ahp 0 rfl rfl (by kernel_rfl) (by kernel_rfl) ((by first | exact zb z6 rfl ty3 (by decide) rfl | exact ze z6 rfl ty3 (by decide) rfl)) ?_
    refine ahp 1 rfl rfl (by kernel_rfl) (by kernel_rfl) (zg ty3 rfl rfl rfl) ?_
    refine ahp 2 rfl rfl (by kernel_rfl) (by kernel_rfl) (zas rfl rfl) ?_
    refine ahp 3 rfl rfl (by kernel_rfl) (by kernel_rfl) (zf rfl) ?_
    refine ahg 4 rfl rfl (by kernel_rfl) (by kernel_rfl) rfl (fun hc => ⟨_, OpenTo.refl _, (by first | exact zb z6 rfl ty9 (by decide) rfl | exact ze z6 rfl ty9 (by decide) rfl)⟩) ?_
    refine ahg 5 rfl rfl (by kernel_rfl) (by kernel_rfl) rfl (fun hc => ⟨_, OpenTo.upd (t := 84) rfl (by first | exact hc | simp_all) (OpenTo.refl _), zg ty9 rfl rfl rfl⟩) ?_
    refine ahg 6 rfl rfl (by kernel_rfl) (by kernel_rfl) rfl (fun hc => ⟨_, OpenTo.refl _, zf rfl⟩) ?_
    refine ahg 7 rfl rfl (by kernel_rfl) (by kernel_rfl) rfl (fun hc => ⟨_, OpenTo.upd (t := 86) rfl (by first | exact hc | simp_all) (OpenTo.refl _), (by first | exact zx rfl | exact zo rfl)⟩) ?_
    refine ahg 8 rfl rfl (by kernel_rfl) (by kernel_rfl) rfl (fun hc => ⟨_, OpenTo.upd (t := 87) rfl (by first | exact hc | simp_all) (OpenTo.refl _), ze zbm rfl zal (by decide) rfl⟩) ?_
    refine ahg 9 rfl rfl (by kernel_rfl) (by kernel_rfl) rfl (fun hc => ⟨_, OpenTo.upd (t := 88) rfl (by first | exact hc | simp_all) (OpenTo.refl _), ze zal rfl ty9 (by decide) rfl⟩) ?_
    refine zgY 10 rfl rfl (by kernel_rfl) (by kernel_rfl) (by simp) rfl rfl (fun hc => ⟨_, OpenTo.upd (t := 89) rfl (by first | exact hc | simp_all) (OpenTo.refl _), fun M hM => by
     subst hM; exact zL (i := 3 * k0 + 1) ty9 rfl (zbt hk0) (.inl ⟨rfl, rfl⟩) ⟨rfl, rfl⟩
     ⟩) ?_
    refine ahg 11 rfl rfl (by kernel_rfl) (by kernel_rfl) rfl (fun hc => ⟨_, OpenTo.upd (t := 90) rfl (by first | exact hc | simp_all) (OpenTo.upd (t := 85) rfl (by first | exact hc | simp_all) (OpenTo.refl _)), zbv rfl rfl⟩) ?_
    refine ahp 12 rfl rfl (by kernel_rfl) (by kernel_rfl) (zz rfl (.inr ⟨_, rfl, fun h => by simp_all⟩) (.inl rfl)) ?_
    refine ahp 13 rfl rfl (by kernel_rfl) (by kernel_rfl) (zau rfl) ?_
    refine ahz (by kernel_rfl) ?_
    refine zi rfl (fun h9 => ?_) (fun h10 => ?_)
    ·try simp at h9
     refine zD ?_
     refine dmv rfl ?_
     refine dq ((by first | exact zb z6 rfl ty3 (by decide) rfl | exact ze z6 rfl ty3 (by decide) rfl)) ?_
     refine dq (zg ty3 rfl rfl rfl) ?_
     refine de rfl (zdc (i := 3 * k0 + 1) (m' := .cells d0.b (cD { d0 with p := zbf d0.p 5 a.At })) zfX rfl (WeakL.refl _) (zbt hk0) (zbn (d := d0)) ?_)
     refine dn ?_
     refine zy ?_
     first
     | exact za2 rfl ⟨rfl, zeS hk0 (by simpa using h1)⟩
     | exact zak rfl ⟨rfl, (zbq hk1).trans (by rw [List.set_set, (zcF h0 (by simp_all)).1 (by have q := h5; rw [zaX] at q; exact q)])⟩
     | exact zak rfl ⟨rfl, by rw [(zcF h0 (by simp_all)).2 (by have q := h6; rw [zaX] at q; exact q)]⟩
     | exact zak rfl ⟨rfl, (zbq hk0).trans (by rw [zgT h0 (by first | (simp; done) | (rintro ⟨q1, q2, q3⟩; simp_all; done) | (rintro ⟨q1, q2⟩; simp_all; done) | simp_all) (by simp_all)])⟩
     | exact zak rfl ⟨rfl, (zbq hk0).trans (by rw [zeO h0 (by first | (simp; done) | (rintro ⟨q1, q2, q3⟩; simp_all; done) | (rintro ⟨q1, q2⟩; simp_all; done) | simp_all) (by first | (simp; done) | (rintro ⟨q1, q2, q3⟩; simp_all; done) | (rintro ⟨q1, q2⟩; simp_all; done) | simp_all) (by simp_all)])⟩
     | exact zak rfl ⟨rfl, (zbq hk2).trans (by rw [List.set_set, (zb9 h0 (by first | (simp; done) | (rintro ⟨q1, q2, q3⟩; simp_all; done) | (rintro ⟨q1, q2⟩; simp_all; done) | simp_all) (by first | (simp; done) | (rintro ⟨q1, q2, q3⟩; simp_all; done) | (rintro ⟨q1, q2⟩; simp_all; done) | simp_all) (by first | (simp; done) | (rintro ⟨q1, q2, q3⟩; simp_all; done) | (rintro ⟨q1, q2⟩; simp_all; done) | simp_all) (by simp_all)).1 (by have q := h13; rw [zaX] at q; exact q)])⟩
     | exact zak rfl ⟨rfl, by rw [(zb9 h0 (by first | (simp; done) | (rintro ⟨q1, q2, q3⟩; simp_all; done) | (rintro ⟨q1, q2⟩; simp_all; done) | simp_all) (by first | (simp; done) | (rintro ⟨q1, q2, q3⟩; simp_all; done) | (rintro ⟨q1, q2⟩; simp_all; done) | simp_all) (by first | (simp; done) | (rintro ⟨q1, q2, q3⟩; simp_all; done) | (rintro ⟨q1, q2⟩; simp_all; done) | simp_all) (by simp_all)).2 (by have q := h14; rw [zaX] at q; exact q)]⟩
     | exact zak rfl ⟨rfl, zeV hk0 (by first | (simp; done) | (rintro ⟨q1, q2, q3⟩; simp_all; done) | (rintro ⟨q1, q2⟩; simp_all; done) | simp_all) (by first | (simp; done) | (rintro ⟨q1, q2, q3⟩; simp_all; done) | (rintro ⟨q1, q2⟩; simp_all; done) | simp_all) (by first | (simp; done) | (rintro ⟨q1, q2, q3⟩; simp_all; done) | (rintro ⟨q1, q2⟩; simp_all; done) | simp_all) (by first | (simp; done) | (rintro ⟨q1, q2, q3⟩; simp_all; done) | (rintro ⟨q1, q2⟩; simp_all; done) | simp_all)⟩
    ·try simp at h10
     refine za ?_
     refine dq ((by first | exact zb z6 rfl ty3 (by decide) rfl | exact ze z6 rfl ty3 (by decide) rfl)) ?_
     refine dq (zg ty3 rfl rfl rfl) ?_
     refine dq (zas rfl rfl) ?_
     refine dmv rfl ?_
     refine dg rfl rfl (fun hc => ⟨_, OpenTo.refl _, zf rfl⟩) ?_
     refine dg rfl rfl (fun hc => ⟨_, OpenTo.upd (t := 102) rfl (by first | exact hc | simp_all) (OpenTo.refl _), zac rfl⟩) ?_
     refine dq (zz rfl (.inr ⟨_, rfl, fun h => by simp_all⟩) (.inl rfl)) ?_
     refine dmv rfl ?_
     refine dg rfl rfl (fun hc => ⟨_, OpenTo.refl _, zf rfl⟩) ?_
     refine dg rfl rfl (fun hc => ⟨_, OpenTo.upd (t := 106) rfl (by first | exact hc | simp_all) (OpenTo.refl _), (by first | exact zx rfl | exact zo rfl)⟩) ?_
     refine dg rfl rfl (fun hc => ⟨_, OpenTo.upd (t := 107) rfl (by first | exact hc | simp_all) (OpenTo.refl _), ze zbm rfl ty3 (by decide) rfl⟩) ?_
     refine dgl rfl rfl (fun hc => ⟨_, OpenTo.upd (t := 108) rfl (by first | exact hc | simp_all) (OpenTo.refl _), zL (i := 3 * k0 + 1) ty3 rfl (zbt hk0) (.inl ⟨rfl, rfl⟩) ⟨rfl, rfl⟩⟩) ?_
     refine dg rfl rfl (fun hc => ⟨_, OpenTo.upd (t := 109) rfl (by first | exact hc | simp_all) (OpenTo.refl _), zas rfl rfl⟩) ?_
     refine dq (zz rfl (.inr ⟨_, rfl, fun h => by simp_all⟩) (.inl rfl)) ?_
     refine das rfl ?_
     refine dn ?_
     refine zi rfl (fun h11 => ?_) (fun h12 => ?_)
     ·try simp at h11
      refine zaH (fun M => M = (FL bf m o fn E ++ S)) [3] mixed ?_
      refine ahp 0 rfl rfl (by kernel_rfl) (by kernel_rfl) (zf rfl) ?_
      refine ahp 1 rfl rfl (by kernel_rfl) (by kernel_rfl) ((by first | exact zx rfl | exact zo rfl)) ?_
      refine ahp 2 rfl rfl (by kernel_rfl) (by kernel_rfl) (ze zbm rfl zcx (by decide) rfl) ?_
      refine ahl 3 rfl rfl (by kernel_rfl) (by kernel_rfl) (by simp) rfl (fun M hM => by subst hM; exact zL (i := 3 * k0 + 1) zcx rfl (zbt hk0) (.inl ⟨rfl, rfl⟩) ⟨rfl, rfl⟩) ?_
      refine ahp 4 rfl rfl (by kernel_rfl) (by kernel_rfl) ((by first | exact zb z6 rfl ty9 (by decide) rfl | exact ze z6 rfl ty9 (by decide) rfl)) ?_
      refine ahp 5 rfl rfl (by kernel_rfl) (by kernel_rfl) (zg ty9 rfl rfl rfl) ?_
      refine ahe 6 rfl (by kernel_rfl) ?_
      refine zaa (zds (i := 3 * k0 + 3) zcx ty9 rfl rfl rfl (FL_v hk0) ?_)
      refine ⟨fun _ => .inr (by simp [zaN, Region.binds]), ?_⟩
      refine ahz (by kernel_rfl) ?_
      refine zM (Ghost.of_eq (zt5 hk0)) ?_
      have hk2 : (E.set k0 (dV d0 (zaP a.Team d0.p.2.veto)))[k0]? = some (dV d0 (zaP a.Team d0.p.2.veto)) := zlX hk0
      change HWp _ _ _ _ (FL bf m o fn (E.set k0 (dV d0 (zaP a.Team d0.p.2.veto))) ++ S) _
      refine zaH (fun M => M = (FL bf m o fn (E.set k0 (dV d0 (zaP a.Team d0.p.2.veto))) ++ S)) [3, 4, 8] mixed ?_
      refine ahp 0 rfl rfl (by kernel_rfl) (by kernel_rfl) (zf rfl) ?_
      refine ahp 1 rfl rfl (by kernel_rfl) (by kernel_rfl) ((by first | exact zx rfl | exact zo rfl)) ?_
      refine ahp 2 rfl rfl (by kernel_rfl) (by kernel_rfl) (ze zbm rfl zcx (by decide) rfl) ?_
      refine ahl 3 rfl rfl (by kernel_rfl) (by kernel_rfl) (by simp) rfl (fun M hM => by subst hM; exact zL (i := 3 * k0 + 1) zcx rfl (zbt (d := (dV d0 (zaP a.Team d0.p.2.veto))) hk2) (.inl ⟨rfl, rfl⟩) ⟨rfl, rfl⟩) ?_
      refine ahl 4 rfl rfl (by kernel_rfl) (by kernel_rfl) (by simp) rfl (fun M hM => by subst hM; exact zf2 (i := 3 * k0 + 3) zcx rfl (FL_v (d := (dV d0 (zaP a.Team d0.p.2.veto))) hk2) ⟨rfl, rfl⟩) ?_
      refine ahp 5 rfl rfl (by kernel_rfl) (by kernel_rfl) (zf rfl) ?_
      refine ahp 6 rfl rfl (by kernel_rfl) (by kernel_rfl) ((by first | exact zx rfl | exact zo rfl)) ?_
      refine ahp 7 rfl rfl (by kernel_rfl) (by kernel_rfl) (ze zcn rfl zdR (by decide) rfl) ?_
      refine ahl 8 rfl rfl (by kernel_rfl) (by kernel_rfl) (by simp) rfl (fun M hM => by subst hM; exact zL (i := 0) zdR rfl rfl (.inl ⟨rfl, rfl⟩) ⟨rfl, rfl⟩) ?_
      refine ahp 9 rfl rfl (by kernel_rfl) (by kernel_rfl) ((by first | exact zx rfl | exact zo rfl)) ?_
      refine ahp 10 rfl rfl (by kernel_rfl) (by kernel_rfl) ((by first | exact zb zV rfl ty3 (by decide) rfl | exact ze zV rfl ty3 (by decide) rfl)) ?_
      refine ahp 11 rfl rfl (by kernel_rfl) (by kernel_rfl) (zg ty3 rfl rfl rfl) ?_
      refine ahp 12 rfl rfl (by kernel_rfl) (by kernel_rfl) (zas rfl rfl) ?_
      refine ahz (by kernel_rfl) ?_
      refine zi rfl (fun h13 => ?_) (fun h14 => ?_)
      ·try simp at h13
       refine zD ?_
       refine dmv rfl ?_
       refine dq ((by first | exact zb z6 rfl ty3 (by decide) rfl | exact ze z6 rfl ty3 (by decide) rfl)) ?_
       refine dq (zg ty3 rfl rfl rfl) ?_
       refine de rfl (zdc (i := 3 * k0 + 1) (m' := .cells (dV d0 (zaP a.Team d0.p.2.veto)).b (cD { (dV d0 (zaP a.Team d0.p.2.veto)) with p := zbf (dV d0 (zaP a.Team d0.p.2.veto)).p 6 a.At })) zfX rfl (WeakL.refl _) (zbt hk2) (zbn (d := (dV d0 (zaP a.Team d0.p.2.veto)))) ?_)
       refine dn ?_
       refine zy ?_
       first
       | exact za2 rfl ⟨rfl, zeS hk0 (by simpa using h1)⟩
       | exact zak rfl ⟨rfl, (zbq hk1).trans (by rw [List.set_set, (zcF h0 (by simp_all)).1 (by have q := h5; rw [zaX] at q; exact q)])⟩
       | exact zak rfl ⟨rfl, by rw [(zcF h0 (by simp_all)).2 (by have q := h6; rw [zaX] at q; exact q)]⟩
       | exact zak rfl ⟨rfl, (zbq hk0).trans (by rw [zgT h0 (by first | (simp; done) | (rintro ⟨q1, q2, q3⟩; simp_all; done) | (rintro ⟨q1, q2⟩; simp_all; done) | simp_all) (by simp_all)])⟩
       | exact zak rfl ⟨rfl, (zbq hk0).trans (by rw [zeO h0 (by first | (simp; done) | (rintro ⟨q1, q2, q3⟩; simp_all; done) | (rintro ⟨q1, q2⟩; simp_all; done) | simp_all) (by first | (simp; done) | (rintro ⟨q1, q2, q3⟩; simp_all; done) | (rintro ⟨q1, q2⟩; simp_all; done) | simp_all) (by simp_all)])⟩
       | exact zak rfl ⟨rfl, (zbq hk2).trans (by rw [List.set_set, (zb9 h0 (by first | (simp; done) | (rintro ⟨q1, q2, q3⟩; simp_all; done) | (rintro ⟨q1, q2⟩; simp_all; done) | simp_all) (by first | (simp; done) | (rintro ⟨q1, q2, q3⟩; simp_all; done) | (rintro ⟨q1, q2⟩; simp_all; done) | simp_all) (by first | (simp; done) | (rintro ⟨q1, q2, q3⟩; simp_all; done) | (rintro ⟨q1, q2⟩; simp_all; done) | simp_all) (by simp_all)).1 (by have q := h13; rw [zaX] at q; exact q)])⟩
       | exact zak rfl ⟨rfl, by rw [(zb9 h0 (by first | (simp; done) | (rintro ⟨q1, q2, q3⟩; simp_all; done) | (rintro ⟨q1, q2⟩; simp_all; done) | simp_all) (by first | (simp; done) | (rintro ⟨q1, q2, q3⟩; simp_all; done) | (rintro ⟨q1, q2⟩; simp_all; done) | simp_all) (by first | (simp; done) | (rintro ⟨q1, q2, q3⟩; simp_all; done) | (rintro ⟨q1, q2⟩; simp_all; done) | simp_all) (by simp_all)).2 (by have q := h14; rw [zaX] at q; exact q)]⟩
       | exact zak rfl ⟨rfl, zeV hk0 (by first | (simp; done) | (rintro ⟨q1, q2, q3⟩; simp_all; done) | (rintro ⟨q1, q2⟩; simp_all; done) | simp_all) (by first | (simp; done) | (rintro ⟨q1, q2, q3⟩; simp_all; done) | (rintro ⟨q1, q2⟩; simp_all; done) | simp_all) (by first | (simp; done) | (rintro ⟨q1, q2, q3⟩; simp_all; done) | (rintro ⟨q1, q2⟩; simp_all; done) | simp_all) (by first | (simp; done) | (rintro ⟨q1, q2, q3⟩; simp_all; done) | (rintro ⟨q1, q2⟩; simp_all; done) | simp_all)⟩
      ·try simp at h14
       refine zm ?_
       refine zy ?_
       first
       | exact za2 rfl ⟨rfl, zeS hk0 (by simpa using h1)⟩
       | exact zak rfl ⟨rfl, (zbq hk1).trans (by rw [List.set_set, (zcF h0 (by simp_all)).1 (by have q := h5; rw [zaX] at q; exact q)])⟩
       | exact zak rfl ⟨rfl, by rw [(zcF h0 (by simp_all)).2 (by have q := h6; rw [zaX] at q; exact q)]⟩
       | exact zak rfl ⟨rfl, (zbq hk0).trans (by rw [zgT h0 (by first | (simp; done) | (rintro ⟨q1, q2, q3⟩; simp_all; done) | (rintro ⟨q1, q2⟩; simp_all; done) | simp_all) (by simp_all)])⟩
       | exact zak rfl ⟨rfl, (zbq hk0).trans (by rw [zeO h0 (by first | (simp; done) | (rintro ⟨q1, q2, q3⟩; simp_all; done) | (rintro ⟨q1, q2⟩; simp_all; done) | simp_all) (by first | (simp; done) | (rintro ⟨q1, q2, q3⟩; simp_all; done) | (rintro ⟨q1, q2⟩; simp_all; done) | simp_all) (by simp_all)])⟩
       | exact zak rfl ⟨rfl, (zbq hk2).trans (by rw [List.set_set, (zb9 h0 (by first | (simp; done) | (rintro ⟨q1, q2, q3⟩; simp_all; done) | (rintro ⟨q1, q2⟩; simp_all; done) | simp_all) (by first | (simp; done) | (rintro ⟨q1, q2, q3⟩; simp_all; done) | (rintro ⟨q1, q2⟩; simp_all; done) | simp_all) (by first | (simp; done) | (rintro ⟨q1, q2, q3⟩; simp_all; done) | (rintro ⟨q1, q2⟩; simp_all; done) | simp_all) (by simp_all)).1 (by have q := h13; rw [zaX] at q; exact q)])⟩
       | exact zak rfl ⟨rfl, by rw [(zb9 h0 (by first | (simp; done) | (rintro ⟨q1, q2, q3⟩; simp_all; done) | (rintro ⟨q1, q2⟩; simp_all; done) | simp_all) (by first | (simp; done) | (rintro ⟨q1, q2, q3⟩; simp_all; done) | (rintro ⟨q1, q2⟩; simp_all; done) | simp_all) (by first | (simp; done) | (rintro ⟨q1, q2, q3⟩; simp_all; done) | (rintro ⟨q1, q2⟩; simp_all; done) | simp_all) (by simp_all)).2 (by have q := h14; rw [zaX] at q; exact q)]⟩
       | exact zak rfl ⟨rfl, zeV hk0 (by first | (simp; done) | (rintro ⟨q1, q2, q3⟩; simp_all; done) | (rintro ⟨q1, q2⟩; simp_all; done) | simp_all) (by first | (simp; done) | (rintro ⟨q1, q2, q3⟩; simp_all; done) | (rintro ⟨q1, q2⟩; simp_all; done) | simp_all) (by first | (simp; done) | (rintro ⟨q1, q2, q3⟩; simp_all; done) | (rintro ⟨q1, q2⟩; simp_all; done) | simp_all) (by first | (simp; done) | (rintro ⟨q1, q2, q3⟩; simp_all; done) | (rintro ⟨q1, q2⟩; simp_all; done) | simp_all)⟩
     ·try simp at h12
      refine zm ?_
      refine zy ?_
      first
      | exact za2 rfl ⟨rfl, zeS hk0 (by simpa using h1)⟩
      | exact zak rfl ⟨rfl, (zbq hk1).trans (by rw [List.set_set, (zcF h0 (by simp_all)).1 (by have q := h5; rw [zaX] at q; exact q)])⟩
      | exact zak rfl ⟨rfl, by rw [(zcF h0 (by simp_all)).2 (by have q := h6; rw [zaX] at q; exact q)]⟩
      | exact zak rfl ⟨rfl, (zbq hk0).trans (by rw [zgT h0 (by first | (simp; done) | (rintro ⟨q1, q2, q3⟩; simp_all; done) | (rintro ⟨q1, q2⟩; simp_all; done) | simp_all) (by simp_all)])⟩
      | exact zak rfl ⟨rfl, (zbq hk0).trans (by rw [zeO h0 (by first | (simp; done) | (rintro ⟨q1, q2, q3⟩; simp_all; done) | (rintro ⟨q1, q2⟩; simp_all; done) | simp_all) (by first | (simp; done) | (rintro ⟨q1, q2, q3⟩; simp_all; done) | (rintro ⟨q1, q2⟩; simp_all; done) | simp_all) (by simp_all)])⟩
      | exact zak rfl ⟨rfl, (zbq hk2).trans (by rw [List.set_set, (zb9 h0 (by first | (simp; done) | (rintro ⟨q1, q2, q3⟩; simp_all; done) | (rintro ⟨q1, q2⟩; simp_all; done) | simp_all) (by first | (simp; done) | (rintro ⟨q1, q2, q3⟩; simp_all; done) | (rintro ⟨q1, q2⟩; simp_all; done) | simp_all) (by first | (simp; done) | (rintro ⟨q1, q2, q3⟩; simp_all; done) | (rintro ⟨q1, q2⟩; simp_all; done) | simp_all) (by simp_all)).1 (by have q := h13; rw [zaX] at q; exact q)])⟩
      | exact zak rfl ⟨rfl, by rw [(zb9 h0 (by first | (simp; done) | (rintro ⟨q1, q2, q3⟩; simp_all; done) | (rintro ⟨q1, q2⟩; simp_all; done) | simp_all) (by first | (simp; done) | (rintro ⟨q1, q2, q3⟩; simp_all; done) | (rintro ⟨q1, q2⟩; simp_all; done) | simp_all) (by first | (simp; done) | (rintro ⟨q1, q2, q3⟩; simp_all; done) | (rintro ⟨q1, q2⟩; simp_all; done) | simp_all) (by simp_all)).2 (by have q := h14; rw [zaX] at q; exact q)]⟩
      | exact zak rfl ⟨rfl, zeV hk0 (by first | (simp; done) | (rintro ⟨q1, q2, q3⟩; simp_all; done) | (rintro ⟨q1, q2⟩; simp_all; done) | simp_all) (by first | (simp; done) | (rintro ⟨q1, q2, q3⟩; simp_all; done) | (rintro ⟨q1, q2⟩; simp_all; done) | simp_all) (by first | (simp; done) | (rintro ⟨q1, q2, q3⟩; simp_all; done) | (rintro ⟨q1, q2⟩; simp_all; done) | simp_all) (by first | (simp; done) | (rintro ⟨q1, q2, q3⟩; simp_all; done) | (rintro ⟨q1, q2⟩; simp_all; done) | simp_all)⟩

/-- (*benchwarmer/trade.floor).answer -/
theorem zph [Tracks] {bf : Nat} {m : MarketS} {o : List OwnerS} {fn : HVal} {E : List DV} {S : List MObj} {a : ReplyS} (hE : E.length ≤ 1000000) (hno : ∀ z ∈ E, z.p.1.Id ≠ a.Offer) : Con Tryz.prog 90 [pAt bf, zbx a] (FL bf m o fn E ++ S) (fun x M' => x = .tup [] ∧ M' = (FL bf m o fn E ++ S)) := by
 refine Con.of_body Tryz.func90 rfl Tryz.ntmps90 rfl rfl ?_
 refine za ?_
 refine dq (zat rfl rfl) ?_
 refine dn ?_
 refine za ?_
 refine dmv rfl ?_
 refine dq ((by first | exact zb z6 rfl ty9 (by decide) rfl | exact ze z6 rfl ty9 (by decide) rfl)) ?_
 refine dq (zg ty9 rfl rfl rfl) ?_
 refine de rfl (EOp.mono ?_ (zcB zrS rfl (WeakL.refl _) (zru hE hno)))
 rintro _ _ ⟨rfl, rfl⟩
 refine das rfl ?_
 refine dn ?_
 refine zj ?_
 refine za ?_
 refine dmv rfl ?_
 refine dq (zkP zc3 rfl rfl) ?_
 refine dmv rfl ?_
 refine dg rfl rfl (fun hc => ⟨_, OpenTo.refl _, zf rfl⟩) ?_
 refine dg (h := .raw (.pointer none)) rfl rfl (fun hc => absurd hc (by simp)) ?_
 refine dg (h := .raw (.pointer none)) rfl rfl (fun hc => absurd hc (by simp)) ?_
 refine dgl (h := .int .i64 0) rfl rfl (fun hc => absurd hc (by simp)) ?_
 refine dg rfl rfl (fun hc => ⟨_, OpenTo.upd (t := 16) rfl (by first | exact hc | simp_all) (OpenTo.refl _), zaK rfl rfl⟩) ?_
 refine dg rfl rfl (fun hc => ⟨_, OpenTo.upd (t := 17) rfl (by first | exact hc | simp_all) (OpenTo.refl _), zf rfl⟩) ?_
 refine dg rfl rfl (fun hc => ⟨_, OpenTo.refl _, zf rfl⟩) ?_
 refine dg (h := .raw (.pointer none)) rfl rfl (fun hc => absurd hc (by simp)) ?_
 refine dg (h := .raw (.pointer none)) rfl rfl (fun hc => absurd hc (by simp)) ?_
 refine dgl (h := .int .i64 0) rfl rfl (fun hc => absurd hc (by simp)) ?_
 refine dg rfl rfl (fun hc => ⟨_, OpenTo.upd (t := 22) rfl (by first | exact hc | simp_all) (OpenTo.refl _), zaK rfl rfl⟩) ?_
 refine dg rfl rfl (fun hc => ⟨_, OpenTo.upd (t := 18) rfl (by first | exact hc | simp_all) (OpenTo.refl _), zz rfl (.inr ⟨_, rfl, fun h => by simp_all⟩) (.inl rfl)⟩) ?_
 refine dq (zz rfl (.inl rfl) (.inr ⟨_, rfl, fun h => by simp_all⟩)) ?_
 refine dn ?_
 refine zi rfl (fun h1 => ?_) (fun h1 => ?_)
 ·try simp at h1
  refine zl ?_
  exact za2 rfl ⟨rfl, rfl⟩
 ·exfalso
  try simp at h1
  done

/-- An answer is followed. -/
theorem zrI [Tracks] {bf : Nat} {m : MarketS} {o : List OwnerS} {fn : HVal} {E : List DV} {S : List MObj} {a : ReplyS} (hE : E.length ≤ 1000000) (hG : ∀ d ∈ E, d.p.1.Gives.length ≤ 1000) : Con Tryz.prog 90 [pAt bf, zbx a] (FL bf m o fn E ++ S) (fun x M' => ∃ E', x = .tup [] ∧ M' = FL bf m o fn E' ++ S ∧ E'.map (·.p) = zcK m a (E.map (·.p))) := by
 rcases zs8 E a.Offer with h | ⟨k, d, h1, h2, h3⟩
 ·exact (zph hE h).mono fun x M' ⟨hx, hM⟩ => ⟨E, hx, hM, (zmt h).symm⟩
 ·exact (zpD hE (hG d (List.mem_of_getElem? h1)) h1 h2 h3).mono fun x M' ⟨hx, hM⟩ => ⟨_, hx, hM, (zo2 h1 h2 h3).symm⟩
end
end Go.Proofs.YtpcaaekefgkhjaaGreatDoor
namespace Go.HL
section
section
variable {P : Program} {e : Env} {dst : Option Tmp} {ty : TypeId} {pos : String} {af : Array Edge} {g : Option (Nat × Bool)}
end
section
variable {P : Program} {n : Nat} {e e' : Env} {M M' : List MObj} {Q Q' : Exit → Env → List MObj → Prop} {c c' : Code}
def zqn {α β γ δ : Type} (e : Env) (ks : List Nat) (W : α → β → γ → δ → List (Nat × HVal)) (MM : α → β → γ → δ → List MObj) (Iv : α → β → γ → δ → Prop) (μ : α → β → γ → δ → Nat) (x : α) (y : β) (u : γ) (v : δ) (Q : Exit → Env → List MObj → Prop) : Exit → Env → List MObj → Prop
 | .normal, e', M => ∃ j k l m, Iv j k l m ∧ μ j k l m < μ x y u v ∧ zc9 e' (W j k l m) ∧ zem ks e e' ∧ M.Perm (MM j k l m)
 | z, e', M => Q z e' M
theorem zib {α β γ δ : Type} {e0 : Env} {ks : List Nat} {W : α → β → γ → δ → List (Nat × HVal)} {MM : α → β → γ → δ → List MObj} {Iv : α → β → γ → δ → Prop} {μ : α → β → γ → δ → Nat} {x : α} {y : β} {u : γ} {v : δ} {id : Nat} (h : Q (.exit id) e M) :
 zqn e0 ks W MM Iv μ x y u v Q (.exit id) e M := h
theorem zgR [Tracks] {α β γ δ : Type} (ks : List Nat) (W : α → β → γ → δ → List (Nat × HVal)) (MM : α → β → γ → δ → List MObj) (Iv : α → β → γ → δ → Prop) (μ : α → β → γ → δ → Nat) (x : α) (y : β) (u : γ) (v : δ) (h0 : Iv x y u v) (hW : zc9 e (W x y u v)) (hM : M.Perm (MM x y u v))
 (hb : ∀ x y u v, Iv x y u v → HWp P n c (loopE e ks (W x y u v)) (MM x y u v) (zqn e ks W MM Iv μ x y u v Q)) : HWp P n (.loop c) e M Q := by
 refine zai (ι := α × β × γ × δ) ks (fun p => W p.1 p.2.1 p.2.2.1 p.2.2.2) (fun p => MM p.1 p.2.1 p.2.2.1 p.2.2.2) (fun p => Iv p.1 p.2.1 p.2.2.1 p.2.2.2) (fun p => μ p.1 p.2.1 p.2.2.1 p.2.2.2) (x, y, u, v) h0 hW hM fun p hp => zgj (hb p.1 p.2.1 p.2.2.1 p.2.2.2 hp) ?_
 intro z e1 M1 hq
 cases z with
 | normal => obtain ⟨j, k, l, m, h⟩ := hq; exact ⟨(j, k, l, m), h⟩
 | _ => exact hq
end
end
end Go.HL
section
namespace Go.HL
theorem znW [Tracks] {rs : List ResultVar} {e e' : Env} {M M' : List MObj} {h : HVal} {Q : HVal → List MObj → Prop} (hg : Ghost e M e' M') (hr : zfQ e' rs = some h) (hh : Q h M') : zg1 rs Q .normal e M :=
 ⟨e', M', hg, h, h, hr, Weak.refl _, hh⟩
structure PInv (m : MarketS) (t : Int) (o : List OwnerS) (E : List DV) (k : Nat) (o1 : List OwnerS) (D : List DV) (l1 : List (DealS × List OwnerS)) : Prop where
 eq : zbr m t o (E.map (·.p)) = ⟨(zbr m t o1 ((E.drop k).map (·.p))).o, (D.take k).map (·.p) ++ (zbr m t o1 ((E.drop k).map (·.p))).ds, l1 ++ (zbr m t o1 ((E.drop k).map (·.p))).log⟩
 rest : D.drop k = E.drop k
 pl : o1.map (·.Player) = o.map (·.Player)
 len : D.length = E.length
 ll : l1.length ≤ k
theorem PInv.start (m : MarketS) (t : Int) (o : List OwnerS) (E : List DV) : PInv m t o E 0 o E [] := ⟨by simp, rfl, rfl, rfl, Nat.le_refl _⟩
theorem zi9 {m : MarketS} {t : Int} {o : List OwnerS} {p : DD} : (zbg m t o p).1.map (·.Player) = o.map (·.Player) := by
 unfold zbg
 split
 ·split
  ·rfl
  split
  ·rename_i hb; exact ziG hb
  ·rfl
 split <;> rfl
theorem zry (m : MarketS) (t : Int) (o : List OwnerS) (p : DD) : (zbg m t o p).2.2.length ≤ 1 := by
 unfold zbg
 split
 ·split
  ·simp
  split <;> simp
 split <;> simp
theorem PInv.get {m : MarketS} {t : Int} {o o1 : List OwnerS} {E D : List DV} {k : Nat} {l1 : List (DealS × List OwnerS)} {d : DV} (h : PInv m t o E k o1 D l1) (hd : E[k]? = some d) : D[k]? = some d := by
 have h1 : (D.drop k)[0]? = (E.drop k)[0]? := by rw [h.rest]
 rw [List.getElem?_drop, List.getElem?_drop, Nat.add_zero, hd] at h1
 exact h1
theorem PInv.step {m : MarketS} {t : Int} {o o1 : List OwnerS} {E D : List DV} {k : Nat} {l1 : List (DealS × List OwnerS)} {d : DV} (h : PInv m t o E k o1 D l1) (hd : E[k]? = some d) :
 PInv m t o E (k + 1) (zbg m t o1 d.p).1 (D.set k (dP d (zbg m t o1 d.p).2.1)) (l1 ++ (zbg m t o1 d.p).2.2) := by
 have hD := h.get hd
 have hk := zK hD
 refine ⟨?_, ?_, by rw [zi9, h.pl], by simpa using h.len, ?_⟩
 ·rw [h.eq, zU hd]
  show (⟨(zbr m t o1 (d.p :: (E.drop (k + 1)).map (·.p))).o, _ ++ (zbr m t o1 (d.p :: (E.drop (k + 1)).map (·.p))).ds, _ ++ (zbr m t o1 (d.p :: (E.drop (k + 1)).map (·.p))).log⟩ : FS) = _
  rw [zbr]
  have e : (D.set k (dP d (zbg m t o1 d.p).2.1)).take (k + 1) = D.take k ++ [dP d (zbg m t o1 d.p).2.1] := by
   rw [zaF (zlX hD), List.take_set_of_le (Nat.le_refl _)]
  rw [e]
  simp [dP]
 ·rw [List.drop_set_of_lt (by omega)]
  have h1 := congrArg (List.drop 1) h.rest
  rw [List.drop_drop, List.drop_drop] at h1
  exact h1
 ·have := zry m t o1 d.p
  have := h.ll
  rw [List.length_append]; omega
theorem PInv.fin {m : MarketS} {t : Int} {o o1 : List OwnerS} {E D : List DV} {l1 : List (DealS × List OwnerS)} (h : PInv m t o E E.length o1 D l1) : zbr m t o (E.map (·.p)) = ⟨o1, D.map (·.p), l1⟩ := by
 have e := h.eq
 have hl := h.len
 rw [List.drop_length, List.take_of_length_le (by omega)] at e
 rw [e]
 show (⟨o1, _ ++ [], _ ++ []⟩ : FS) = _
 simp
section
variable {m : MarketS} {t : Int} {o : List OwnerS} {d : DV} {E : List DV} {k : Nat}
theorem zgc (h : d.p.2.how = 2 ∧ d.p.2.since + m.Wait ≤ t) (h2 : m.Deadline ≤ t) : zbg m t o d.p = (o, zbf d.p 7 t, []) := by unfold zbg; rw [if_pos h, if_pos h2]
theorem zeY (h : d.p.2.how = 2 ∧ d.p.2.since + m.Wait ≤ t) (h2 : ¬ m.Deadline ≤ t) (h3 : zfq m o d.p.1.Gives = false) : zbg m t o d.p = (o, zbf d.p 8 t, []) := by unfold zbg; rw [if_pos h, if_neg h2, if_neg (by simp [h3])]
theorem zgi (h : d.p.2.how = 2 ∧ d.p.2.since + m.Wait ≤ t) (h2 : ¬ m.Deadline ≤ t) (h3 : zfq m o d.p.1.Gives = true) : zbg m t o d.p = (zdE o d.p.1.Gives, zbf d.p 3 t, [(d.p.1, zdE o d.p.1.Gives)]) := by unfold zbg; rw [if_pos h, if_neg h2, if_pos h3]
theorem zsX (h : ¬ (d.p.2.how = 2 ∧ d.p.2.since + m.Wait ≤ t)) (h2 : d.p.2.how = 1 ∧ (d.p.1.To ≤ t ∨ m.Deadline ≤ t)) : zbg m t o d.p = (o, zbf d.p 7 t, []) := by unfold zbg; rw [if_neg h, if_pos h2]
theorem zsm (h : ¬ (d.p.2.how = 2 ∧ d.p.2.since + m.Wait ≤ t)) (h2 : ¬ (d.p.2.how = 1 ∧ (d.p.1.To ≤ t ∨ m.Deadline ≤ t))) : zbg m t o d.p = (o, d.p, []) := by unfold zbg; rw [if_neg h, if_neg h2]
end
/-! from zba to zba -/
def ini (l : List DealS) : List DD := l.map fun x => (x, zg4)
structure FI (m : MarketS) (o : List OwnerS) (l : List DealS) (a : List ReplyS) (u p : Int) (j : Nat) (ps : List DD) : Prop where
 lo : 0 ≤ p
 hi : p ≤ 345686400000
 ds : ps = (zaB m o l a p.toNat).ds
 fin : u < p → zaB m o l a p.toNat = zaB m o l a (u + 1).toNat
 bef : ∀ r ∈ a.take j, r.At < p
 aft : ∀ r ∈ a.drop j, p ≤ r.At
def zlY (a : List ReplyS) : Prop := a.Pairwise fun x y => x.At ≤ y.At
theorem zk9 {m : MarketS} {t : Int} {x : ReplyS} {r : List ReplyS} {ps : List DD} (h : t < x.At) : zct m t (x :: r) ps ≤ x.At := by
 have h1 := zhI m t ps (zcv m t (x :: r))
 have h2 := zf8 (out := za3 t 345686400000 m.Deadline) h
 unfold zct
 unfold zcv at h1 ⊢
 dsimp only at h1 ⊢
 omega
theorem zrl {m : MarketS} {o : List OwnerS} {l : List DealS} {a : List ReplyS} {u : Int} (hf : FOk m l) (ha : ∀ r ∈ a, 0 ≤ r.At) (hs : zlY a) (hu : 0 ≤ u) : FI m o l a u (zct m (-1) a (ini l)) 0 (ini l) ∧ zaB m o l a (zct m (-1) a (ini l)).toNat = zm8 o l := by
 obtain ⟨h1, h2⟩ := zj3 (m := m) (t := -1) (a := a) (ps := ini l) (by decide)
 have hq : ∀ t : Nat, 0 ≤ t → (t : Int) < zct m (-1) a (ini l) → zjp m a (zaB m o l a 0).ds t := fun t _ ht =>
  zjY (t := -1) (a := a) (ps := ini l) (by omega) ht (fun r hr => .inr (by
   cases a with
   | nil => cases hr
   | cons x y =>
     refine ⟨x, rfl, by have := ha x (by simp); omega, ?_⟩
     rcases List.mem_cons.1 hr with rfl | hr
     ·exact Int.le_refl _
     ·exact (List.pairwise_cons.1 hs).1 r hr)) (fun p hp hh => by
   obtain ⟨x, _, rfl⟩ := List.mem_map.1 hp
   cases hh)
 have e0 : ∀ n : Nat, (n : Int) ≤ zct m (-1) a (ini l) → zaB m o l a n = zaB m o l a 0 := fun n hn => znD hf (Nat.zero_le n) fun t h3 h4 => hq t h3 (by omega)
 refine ⟨⟨by omega, h2, ?_, fun h => ?_, fun r hr => by simp at hr, fun r hr => ?_⟩, e0 _ (by omega)⟩
 ·rw [e0 _ (by omega)]; rfl
 ·exact (e0 _ (by omega)).trans (e0 _ (by omega)).symm
 ·rw [List.drop_zero] at hr
  cases a with
  | nil => cases hr
  | cons x y =>
    have hx := ha x (by simp)
    have h3 := zk9 (m := m) (t := -1) (r := y) (ps := ini l) (x := x) (by omega)
    rcases List.mem_cons.1 hr with rfl | hr
    ·exact h3
    ·exact Int.le_trans h3 ((List.pairwise_cons.1 hs).1 r hr)
theorem zs2 {m : MarketS} {o : List OwnerS} {l : List DealS} {a : List ReplyS} {u p : Int} {j : Nat} {ps : List DD} (hf : FOk m l) (hs : zlY a) (hp : 0 ≤ p) (hp2 : p < 345686400000) (hu : p ≤ u)
 (hb : ∀ r ∈ a.take j, r.At ≤ p) (ha : ∀ r ∈ a.drop j, p < r.At) (hd : ps = (zaB m o l a (p.toNat + 1)).ds) : FI m o l a u (zct m p (a.drop j) ps) j ps ∧ zaB m o l a (zct m p (a.drop j) ps).toNat = zaB m o l a (p.toNat + 1) := by
 obtain ⟨h1, h2⟩ := zj3 (m := m) (t := p) (a := a.drop j) (ps := ps) hp2
 have hsd : (a.drop j).Pairwise fun x y => x.At ≤ y.At := hs.sublist (List.drop_sublist j a)
 have hq : ∀ t : Nat, p.toNat + 1 ≤ t → (t : Int) < zct m p (a.drop j) ps → zjp m a (zaB m o l a (p.toNat + 1)).ds t := fun t h3 ht => by
  rw [← hd]
  refine zjY (t := p) (a := a.drop j) (ps := ps) (by omega) ht (fun r hr => ?_) (fun q hq hh => ?_)
  ·rw [← List.take_append_drop j a] at hr
   rcases List.mem_append.1 hr with hr | hr
   ·exact .inl (hb r hr)
   ·refine .inr ?_
    cases hc : a.drop j with
    | nil => rw [hc] at hr; cases hr
    | cons x y =>
      rw [hc] at hr hsd
      refine ⟨x, rfl, ha x (by rw [hc]; simp), ?_⟩
      rcases List.mem_cons.1 hr with rfl | hr
      ·exact Int.le_refl _
      ·exact (List.pairwise_cons.1 hsd).1 r hr
  ·rw [hd] at hq
   have := ((zga (o := o) (a := a) hf (p.toNat + 1) q hq).1.wt hh).1
   omega
 have e0 : ∀ n : Nat, p.toNat + 1 ≤ n → (n : Int) ≤ zct m p (a.drop j) ps → zaB m o l a n = zaB m o l a (p.toNat + 1) := fun n hn hn2 => znD hf hn fun t h3 h4 => hq t h3 (by omega)
 refine ⟨⟨by omega, h2, ?_, fun h => ?_, fun r hr => by have := hb r hr; omega, fun r hr => ?_⟩, e0 _ (by omega) (by omega)⟩
 ·rw [e0 _ (by omega) (by omega)]; exact hd
 ·exact (e0 _ (by omega) (by omega)).trans (e0 _ (by omega) (by omega)).symm
 ·cases hc : a.drop j with
  | nil => rw [hc] at hr; cases hr
  | cons x y =>
    rw [hc] at hr hsd
    have h3 := zk9 (m := m) (t := p) (r := y) (ps := ps) (ha x (by rw [hc]; simp))
    rcases List.mem_cons.1 hr with rfl | hr
    ·exact h3
    ·exact Int.le_trans h3 ((List.pairwise_cons.1 hsd).1 r hr)
/-! the answers of a zba -/
structure AI (m : MarketS) (a : List ReplyS) (p : Int) (qs : List DD) (j : Nat) (ps : List DD) : Prop where
 eq : zeu m (atL a p) qs = zeu m (atL (a.drop j) p) ps
 bef : ∀ r ∈ a.take j, r.At ≤ p
 aft : ∀ r ∈ a.drop j, p ≤ r.At
 fst : ps.map (·.1) = qs.map (·.1)
theorem AI.start {m : MarketS} {a : List ReplyS} {p : Int} {qs : List DD} {j : Nat} (hb : ∀ r ∈ a.take j, r.At < p) (ha : ∀ r ∈ a.drop j, p ≤ r.At) : AI m a p qs j qs := by
 refine ⟨?_, fun r hr => Int.le_of_lt (hb r hr), ha, rfl⟩
 have e : atL a p = atL (a.drop j) p := by
  conv => lhs; rw [← List.take_append_drop j a]
  unfold atL
  rw [List.filter_append, List.filter_eq_nil_iff.2 (fun r hr => by have := hb r hr; simp; omega), List.nil_append]
 rw [e]
theorem AI.step {m : MarketS} {a : List ReplyS} {p : Int} {qs ps : List DD} {j : Nat} {x : ReplyS} (h : AI m a p qs j ps) (hx : a[j]? = some x) (hp : x.At = p) : AI m a p qs (j + 1) (zcK m x ps) := by
 refine ⟨?_, fun r hr => ?_, fun r hr => h.aft r (by rw [zU hx]; exact List.mem_cons_of_mem x hr), by rw [zj8, h.fst]⟩
 ·rw [h.eq, zU hx]
  unfold atL
  rw [List.filter_cons_of_pos (by simpa using hp)]; rfl
 ·rw [zaF hx] at hr
  rcases List.mem_append.1 hr with hr | hr
  ·exact h.bef r hr
  ·rw [List.mem_singleton.1 hr, hp]; exact Int.le_refl _
theorem AI.fin {m : MarketS} {a : List ReplyS} {p : Int} {qs ps : List DD} {j : Nat} (hs : zlY a) (h : AI m a p qs j ps) (hx : ∀ x, a[j]? = some x → x.At ≠ p) : zeu m (atL a p) qs = ps ∧ ∀ r ∈ a.drop j, p < r.At := by
 have hsd : (a.drop j).Pairwise fun x y => x.At ≤ y.At := hs.sublist (List.drop_sublist j a)
 have hl : ∀ r ∈ a.drop j, p < r.At := by
  cases hc : a.drop j with
  | nil => intro r hr; cases hr
  | cons x y =>
    have hj : a[j]? = some x := by
     have : (a.drop j)[0]? = some x := by rw [hc]; rfl
     rwa [List.getElem?_drop, Nat.add_zero] at this
    have h1 := hx x hj
    have h2 := h.aft x (by rw [hc]; simp)
    rw [hc] at hsd
    intro r hr
    rcases List.mem_cons.1 hr with rfl | hr
    ·omega
    ·have := (List.pairwise_cons.1 hsd).1 r hr; omega
 refine ⟨?_, hl⟩
 rw [h.eq]
 have e : atL (a.drop j) p = [] := List.filter_eq_nil_iff.2 fun r hr => by have := hl r hr; simp; omega
 rw [e]; rfl
theorem zs5 {m : MarketS} {o : List OwnerS} {l : List DealS} {a rs : List ReplyS} {n : Nat} (h : FOk m l) (hr : ∀ r ∈ rs, r.At = n) : zgB (fun p => DMid m n p ∧ p.1 ∈ l) (zeu m rs ((zaB m o l a n).ds.map (zcM n))) := by
 refine zka (fun r hr2 p hp => ⟨hp.1.ans (by omega) (hr r hr2) h.veto, by rw [zkt]; exact hp.2⟩) fun p hp => ?_
 obtain ⟨q, hq, rfl⟩ := List.mem_map.1 hp
 obtain ⟨i1, i2⟩ := zga (o := o) (a := a) h n q hq
 exact ⟨i1.opn (by omega) (h.two _ i2), by rw [zku]; exact i2⟩
theorem zfw {m : MarketS} {o : List OwnerS} {l : List DealS} {a : List ReplyS} : ∀ n, (zaB m o l a n).o.map (·.Player) = o.map (·.Player)
 | 0 => rfl
 | n + 1 => by
   have key : ∀ (ds : List DD) (o : List OwnerS), (zbr m n o ds).o.map (·.Player) = o.map (·.Player) := by
    intro ds
    induction ds with
    | nil => intro o; rfl
    | cons p r ih => intro o; rw [zbr]; dsimp only; rw [ih, zi9]
   rw [zaB, stF]
   dsimp only
   rw [key, zfw n]
theorem zgv {m : MarketS} {o : List OwnerS} {l : List DealS} {a : List ReplyS} (n : Nat) : (zaB m o l a n).o.length = o.length := by
 have := congrArg List.length (zfw (m := m) (o := o) (l := l) (a := a) n)
 simpa using this
end Go.HL
namespace Go.HL
theorem zuE {o o1 : List OwnerS} (h : o1.map (·.Player) = o.map (·.Player)) (h0 : 0 < o.length) (ho : o.length ≤ 1000000) (hs : SortedS (o.map (·.Player))) : 0 < o1.length ∧ o1.length ≤ 1000000 ∧ SortedS (o1.map (·.Player)) := by
 have := congrArg List.length h
 simp at this
 exact ⟨by omega, by omega, by rw [h]; exact hs⟩
theorem zsz {m : MarketS} {t : Int} {a : List ReplyS} (h : 0 < a.length) : za3 t (za3 t 345686400000 m.Deadline) (a.getD 0 zbD).At = zcv m t a := by
 cases a with
 | nil => simp at h
 | cons x r => rfl
theorem zsu {m : MarketS} {t : Int} {a : List ReplyS} (h : a.length ≤ 0) : za3 t 345686400000 m.Deadline = zcv m t a := by
 cases a with
 | nil => rfl
 | cons x r => simp at h
end Go.HL
end
namespace Go.Proofs.YtpcaaekefgkhjaaGreatDoor
set_option maxRecDepth 100000
set_option linter.unusedVariables false
set_option linter.unusedSimpArgs false
section
open Go.HL
set_option maxHeartbeats 1000000 in
/-- (*benchwarmer/trade.floor).end -/
theorem zou [Tracks] {bf : Nat} {m : MarketS} {o : List OwnerS} {fid : FuncId} {caps : List HVal} {E : List DV} {σ : Type} {I : List (List OwnerS) → σ → Prop} {S : σ → List MObj} {st : σ} {lg : List (List OwnerS)} {t : Int} {k0 : Nat} {d0 : DV} (hca : Callable Tryz.prog fid) (hdone : ∀ (g : List (List OwnerS)) (s : σ) (x : List OwnerS), g.length ≤ 1000000 → x.length ≤ 1000000 → I g s → Con Tryz.prog fid ([zbe x] ++ caps) (S s) fun r M' => ∃ s', r = .tup [] ∧ M' = S s' ∧ I (g ++ [x]) s') (hI : I lg st) (ht : m.Teams.length ≤ 1000000) (h0o : 0 < o.length) (ho : o.length ≤ 1000000) (hs : SortedS (o.map (·.Player))) (hG : d0.p.1.Gives.length ≤ 1000) (hk0 : E[k0]? = some d0) (hw : d0.p.2.how = 2 ∧ d0.p.2.since + m.Wait ≤ t) (hlg : lg.length ≤ 1000000) : Con Tryz.prog 136 [pAt bf, pD d0, .int .i64 t] (FL bf m o (.fn (.func fid) [] caps) E ++ S st) (fun x M' => ∃ s', x = .tup [] ∧ M' = (FL bf m (zbg m t o d0.p).1 (.fn (.func fid) [] caps) (E.set k0 (dP d0 (zbg m t o d0.p).2.1)) ++ S s') ∧ I (lg ++ (zbg m t o d0.p).2.2.map (·.2)) s') := by
 refine Con.of_body Tryz.func136 rfl Tryz.ntmps136 rfl rfl ?_
 refine zj ?_
 refine za ?_
 refine dmv rfl ?_
 refine dmv rfl ?_
 refine dq ((by first | exact zx rfl | exact zo rfl)) ?_
 refine dq (ze zcn rfl zdR (by decide) rfl) ?_
 refine de rfl (zL (i := 0) zdR rfl rfl (.inl ⟨rfl, rfl⟩) ?_)
 refine dq ((by first | exact zx rfl | exact zo rfl)) ?_
 refine dq ((by first | exact zb zV rfl ty3 (by decide) rfl | exact ze zV rfl ty3 (by decide) rfl)) ?_
 refine dq (zg ty3 rfl rfl rfl) ?_
 refine dq (zbK rfl rfl) ?_
 refine dn ?_
 refine zi rfl (fun h1 => ?_) (fun h2 => ?_)
 ·try simp at h1
  refine za ?_
  refine dmv rfl ?_
  refine dmv rfl ?_
  refine de rfl (zdc (i := 3 * k0 + 1) (m' := .cells d0.b (cD { d0 with p := zbf d0.p 7 t })) zfX rfl (WeakL.refl _) (zbt hk0) (zbn (d := d0)) ?_)
  refine dn ?_
  refine zl ?_
  first
  | exact za2 rfl ⟨st, rfl, (zbq hk0).trans (by rw [zgc hw (by omega)]; simp [dT, dP]), by rw [zgc hw (by omega)]; simpa using hI⟩
  | exact za2 rfl ⟨st, rfl, (zbq hk0).trans (by rw [zeY hw (by omega) (by simpa using h3)]; simp [dT, dP]), by rw [zeY hw (by omega) (by simpa using h3)]; simpa using hI⟩
  | (refine znW (Ghost.perm List.perm_append_comm) rfl ⟨st2, rfl, ?_, ?_⟩
     ·rw [zgi hw (by omega) (by simpa using h4)]
      simp [dT, dP]
     ·rw [zgi hw (by omega) (by simpa using h4)]
      exact hI2)
 ·try simp at h2
  refine zm ?_
  refine zh ?_
  refine zaH (fun M => M = (FL bf m o (.fn (.func fid) [] caps) E ++ S st)) [3, 7, 11] mixed ?_
  refine ahp 0 rfl rfl (by kernel_rfl) (by kernel_rfl) (zf rfl) ?_
  refine ahp 1 rfl rfl (by kernel_rfl) (by kernel_rfl) ((by first | exact zx rfl | exact zo rfl)) ?_
  refine ahp 2 rfl rfl (by kernel_rfl) (by kernel_rfl) (ze zcn rfl zdR (by decide) rfl) ?_
  refine ahl 3 rfl rfl (by kernel_rfl) (by kernel_rfl) (by simp) rfl (fun M hM => by subst hM; exact zL (i := 0) zdR rfl rfl (.inl ⟨rfl, rfl⟩) ⟨rfl, rfl⟩) ?_
  refine ahp 4 rfl rfl (by kernel_rfl) (by kernel_rfl) (zf rfl) ?_
  refine ahp 5 rfl rfl (by kernel_rfl) (by kernel_rfl) ((by first | exact zx rfl | exact zo rfl)) ?_
  refine ahp 6 rfl rfl (by kernel_rfl) (by kernel_rfl) (ze zcn rfl zaR (by decide) rfl) ?_
  refine ahl 7 rfl rfl (by kernel_rfl) (by kernel_rfl) (by simp) rfl (fun M hM => by subst hM; exact zL (i := 0) zaR rfl rfl (.inl ⟨rfl, rfl⟩) ⟨rfl, rfl⟩) ?_
  refine ahp 8 rfl rfl (by kernel_rfl) (by kernel_rfl) (zf rfl) ?_
  refine ahp 9 rfl rfl (by kernel_rfl) (by kernel_rfl) ((by first | exact zx rfl | exact zo rfl)) ?_
  refine ahp 10 rfl rfl (by kernel_rfl) (by kernel_rfl) (ze zbm rfl zal (by decide) rfl) ?_
  refine ahl 11 rfl rfl (by kernel_rfl) (by kernel_rfl) (by simp) rfl (fun M hM => by subst hM; exact zL (i := 3 * k0 + 1) zal rfl (zbt hk0) (.inr ⟨rfl, Nat.le_of_ble_eq_true rfl, rfl⟩) ⟨rfl, rfl⟩) ?_
  refine ahp 12 rfl rfl (by kernel_rfl) (by kernel_rfl) (zp ca98 rfl (WeakL.refl _) (zom (m := m) (o := o) (x := d0.p.1) ht h0o ho hs (by omega))) ?_
  refine ahp 13 rfl rfl (by kernel_rfl) (by kernel_rfl) (zf rfl) ?_
  refine ahp 14 rfl rfl (by kernel_rfl) (by kernel_rfl) (zab rfl rfl) ?_
  refine ahp 15 rfl rfl (by kernel_rfl) (by kernel_rfl) (zab rfl rfl) ?_
  refine ahp 16 rfl rfl (by kernel_rfl) (by kernel_rfl) (zau rfl) ?_
  refine ahp 17 rfl rfl (by kernel_rfl) (by kernel_rfl) (zau rfl) ?_
  refine ahz (by kernel_rfl) ?_
  refine zj ?_
  refine za ?_
  refine dmv rfl ?_
  refine dq (zac rfl) ?_
  refine dn ?_
  refine zi rfl (fun h3 => ?_) (fun h4 => ?_)
  ·try simp at h3
   refine za ?_
   refine dmv rfl ?_
   refine dmv rfl ?_
   refine de rfl (zdc (i := 3 * k0 + 1) (m' := .cells d0.b (cD { d0 with p := zbf d0.p 8 t })) zfX rfl (WeakL.refl _) (zbt hk0) (zbn (d := d0)) ?_)
   refine dn ?_
   refine zl ?_
   first
   | exact za2 rfl ⟨st, rfl, (zbq hk0).trans (by rw [zgc hw (by omega)]; simp [dT, dP]), by rw [zgc hw (by omega)]; simpa using hI⟩
   | exact za2 rfl ⟨st, rfl, (zbq hk0).trans (by rw [zeY hw (by omega) (by simpa using h3)]; simp [dT, dP]), by rw [zeY hw (by omega) (by simpa using h3)]; simpa using hI⟩
   | (refine znW (Ghost.perm List.perm_append_comm) rfl ⟨st2, rfl, ?_, ?_⟩
      ·rw [zgi hw (by omega) (by simpa using h4)]
       simp [dT, dP]
      ·rw [zgi hw (by omega) (by simpa using h4)]
       exact hI2)
  ·try simp at h4
   refine zm ?_
   refine zh ?_
   have hdl : (zdE o d0.p.1.Gives).length ≤ 1000000 := by rw [zqB (m := m) (by simpa using h4)]; exact ho
   refine za ?_
   refine dmv rfl ?_
   refine dmv rfl ?_
   refine dq ((by first | exact zx rfl | exact zo rfl)) ?_
   refine dq (ze zcn rfl zaR (by decide) rfl) ?_
   first
   | refine de0 (zA (i := 0) zaR rfl rfl rfl rfl rfl (Nat.le_of_ble_eq_true rfl) ?_)
   | refine de0 (zA (i := 1) zaR rfl rfl rfl rfl rfl (Nat.le_of_ble_eq_true rfl) ?_)
   | refine de0 (zA (i := 2) zaR rfl rfl rfl rfl rfl (Nat.le_of_ble_eq_true rfl) ?_)
   | refine de0 (zA (i := 3) zaR rfl rfl rfl rfl rfl (Nat.le_of_ble_eq_true rfl) ?_)
   refine dn ?_
   refine zM (Ghost.of_eq (show _ = (FL bf m (zdE o d0.p.1.Gives) (.fn (.func fid) [] caps) E ++ S st) from rfl)) ?_
   refine za ?_
   refine dmv rfl ?_
   refine dmv rfl ?_
   refine de rfl (zdc (i := 3 * k0 + 1) (m' := .cells d0.b (cD { d0 with p := zbf d0.p 3 t })) zfX rfl (WeakL.refl _) (zbt hk0) (zbn (d := d0)) ?_)
   refine dn ?_
   refine zM (Ghost.of_eq (zbq hk0)) ?_
   refine zD ?_
   refine dmv rfl ?_
   refine dq ((by first | exact zx rfl | exact zo rfl)) ?_
   refine dq (ze zcn rfl zrJ (by decide) rfl) ?_
   refine de rfl (zL (i := 0) zrJ rfl rfl (.inl ⟨rfl, rfl⟩) ?_)
   refine dmv rfl ?_
   refine de rfl (EOp.perm (M := S st ++ (FL bf m (zdE o d0.p.1.Gives) (.fn (.func fid) [] caps) (E.set k0 (dT d0 3 t)))) List.perm_append_comm (EOp.mono ?_ ((zc8 hca rfl rfl (WeakL.refl _) (hdone lg st (zdE o d0.p.1.Gives) hlg hdl hI)).frame (FL bf m (zdE o d0.p.1.Gives) (.fn (.func fid) [] caps) (E.set k0 (dT d0 3 t))))))
   rintro _ _ ⟨N, rfl, st2, rfl, rfl, hI2⟩
   refine dn ?_
   first
   | exact za2 rfl ⟨st, rfl, (zbq hk0).trans (by rw [zgc hw (by omega)]; simp [dT, dP]), by rw [zgc hw (by omega)]; simpa using hI⟩
   | exact za2 rfl ⟨st, rfl, (zbq hk0).trans (by rw [zeY hw (by omega) (by simpa using h3)]; simp [dT, dP]), by rw [zeY hw (by omega) (by simpa using h3)]; simpa using hI⟩
   | (refine znW (Ghost.perm List.perm_append_comm) rfl ⟨st2, rfl, ?_, ?_⟩
      ·rw [zgi hw (by omega) (by simpa using h4)]
       simp [dT, dP]
      ·rw [zgi hw (by omega) (by simpa using h4)]
       exact hI2)

set_option maxHeartbeats 1000000 in
/-- (*benchwarmer/trade.floor).pass -/
theorem ziH [Tracks] {bf : Nat} {m : MarketS} {o : List OwnerS} {fid : FuncId} {caps : List HVal} {E : List DV} {σ : Type} {I : List (List OwnerS) → σ → Prop} {S : σ → List MObj} {st : σ} {lg : List (List OwnerS)} {t : Int}  (hca : Callable Tryz.prog fid) (hdone : ∀ (g : List (List OwnerS)) (s : σ) (x : List OwnerS), g.length ≤ 1000000 → x.length ≤ 1000000 → I g s → Con Tryz.prog fid ([zbe x] ++ caps) (S s) fun r M' => ∃ s', r = .tup [] ∧ M' = S s' ∧ I (g ++ [x]) s') (hI : I lg st) (ht : m.Teams.length ≤ 1000000) (h0o : E ≠ [] → 0 < o.length) (ho : o.length ≤ 1000000) (hs : SortedS (o.map (·.Player))) (hE : E.length ≤ 1000000) (hG : ∀ d ∈ E, d.p.1.Gives.length ≤ 1000) (hsb : ∀ d ∈ E, d.p.2.how = 2 → 0 ≤ d.p.2.since ∧ d.p.2.since ≤ 345686400000) (hwt : 0 ≤ m.Wait ∧ m.Wait ≤ 864000000) (hlg : lg.length + E.length ≤ 1000000) : Con Tryz.prog 91 [pAt bf, .int .i64 t] (FL bf m o (.fn (.func fid) [] caps) E ++ S st) (fun x M' => ∃ E' s', x = .tup [] ∧ M' = (FL bf m (zbr m t o (E.map (·.p))).o (.fn (.func fid) [] caps) E' ++ S s') ∧ E'.map (·.p) = (zbr m t o (E.map (·.p))).ds ∧ I (lg ++ (zbr m t o (E.map (·.p))).log.map (·.2)) s') := by
 refine Con.of_body Tryz.func91 rfl Tryz.ntmps91 rfl rfl ?_
 refine za ?_
 refine dmv rfl ?_
 refine dq ((by first | exact zx rfl | exact zo rfl)) ?_
 refine dq (ze zcn rfl zbH (by decide) rfl) ?_
 refine de rfl (zL (i := 0) zbH rfl rfl (.inl ⟨rfl, rfl⟩) ?_)
 refine dq (zI zbH rfl) ?_
 refine dmv rfl ?_
 refine dn ?_
 refine zq ?_
 refine zgR (5 :: 11 :: 12 :: 13 :: 14 :: 15 :: 16 :: 17 :: 18 :: 19 :: 20 :: 21 :: 22 :: 23 :: 24 :: 25 :: 26 :: 27 :: 28 :: 29 :: 30 :: 31 :: 32 :: 33 :: 34 :: 35 :: 36 :: 37 :: 38 :: 39 :: 40 :: 41 :: 42 :: 43 :: 44 :: 45 :: 46 :: 47 :: 48 :: 49 :: 50 :: 51 :: 52 :: 53 :: 54 :: 55 :: 56 :: 57 :: 58 :: 59 :: 60 :: 61 :: 62 :: 63 :: 64 :: 65 :: 66 :: 67 :: 68 :: 69 :: 70 :: 71 :: []) (fun (k : Nat) (o1 : List OwnerS) (q : List DV × σ) (l1 : List (DealS × List OwnerS)) => [(11, .int .i64 k)]) (fun (k : Nat) (o1 : List OwnerS) (q : List DV × σ) (l1 : List (DealS × List OwnerS)) => (FL bf m o1 (.fn (.func fid) [] caps) q.1 ++ S q.2)) (fun (k : Nat) (o1 : List OwnerS) (q : List DV × σ) (l1 : List (DealS × List OwnerS)) => k ≤ E.length ∧ (PInv m t o E k o1 q.1 l1 ∧ I (lg ++ l1.map (·.2)) q.2)) (fun (k : Nat) (o1 : List OwnerS) (q : List DV × σ) (l1 : List (DealS × List OwnerS)) => E.length - k) (0) (o) ((E, st)) ([]) ?_ ?_ ?_ ?_
 ·exact ⟨Nat.zero_le _, PInv.start m t o E, by simpa using hI⟩
 ·exact ⟨rfl, trivial⟩
 ·exact zQ (by simp)
 ·intro k o1 q l1 hinv
  obtain ⟨hk, hp, hI1⟩ := hinv
  obtain ⟨D, s1⟩ := q
  dsimp only at hp hI1
  refine za ?_
  refine dq (zS rfl rfl) ?_
  refine dn ?_
  refine zj ?_
  refine zi rfl (fun h1 => ?_) (fun h2 => ?_)
  ·try simp at h1
   obtain ⟨d, hd⟩ : ∃ d, E[k]? = some d := ⟨_, List.getElem?_eq_getElem h1⟩
   have hdd := zU hd
   have hDk := hp.get hd
   obtain ⟨ho1, ho2, ho3⟩ := zuE hp.pl (h0o (fun q => by rw [q] at hd; simp at hd)) ho hs
   refine zm ?_
   refine zh ?_
   refine zj ?_
   refine zq ?_
   refine za ?_
   refine dq (zW (j := k) (a := d) zbH zc3 rfl rfl rfl hd) ?_
   refine dq (zg zc3 rfl rfl rfl) ?_
   refine das rfl ?_
   refine dn ?_
   refine zq ?_
   refine zaH (fun M => M = (FL bf m o1 (.fn (.func fid) [] caps) D ++ S s1)) [3, 10, 14] mixed ?_
   refine ahp 0 rfl rfl (by kernel_rfl) (by kernel_rfl) (zf rfl) ?_
   refine ahp 1 rfl rfl (by kernel_rfl) (by kernel_rfl) ((by first | exact zx rfl | exact zo rfl)) ?_
   refine ahp 2 rfl rfl (by kernel_rfl) (by kernel_rfl) (ze zbm rfl ty3 (by decide) rfl) ?_
   refine ahl 3 rfl rfl (by kernel_rfl) (by kernel_rfl) (by simp) rfl (fun M hM => by subst hM; exact zL (i := 3 * k + 1) ty3 rfl (zbt hDk) (.inl ⟨rfl, rfl⟩) ⟨rfl, rfl⟩) ?_
   refine ahp 4 rfl rfl (by kernel_rfl) (by kernel_rfl) (zas rfl rfl) ?_
   refine ahp 5 rfl rfl (by kernel_rfl) (by kernel_rfl) (zf rfl) ?_
   refine ahg 6 rfl rfl (by kernel_rfl) (by kernel_rfl) rfl (fun hc => ⟨_, OpenTo.refl _, zf rfl⟩) ?_
   refine ahg 7 rfl rfl (by kernel_rfl) (by kernel_rfl) rfl (fun hc => ⟨_, OpenTo.refl _, zf rfl⟩) ?_
   refine ahg 8 rfl rfl (by kernel_rfl) (by kernel_rfl) rfl (fun hc => ⟨_, OpenTo.upd (t := 23) rfl (by first | exact hc | simp_all) (OpenTo.refl _), (by first | exact zx rfl | exact zo rfl)⟩) ?_
   refine ahg 9 rfl rfl (by kernel_rfl) (by kernel_rfl) rfl (fun hc => ⟨_, OpenTo.upd (t := 24) rfl (by first | exact hc | simp_all) (OpenTo.refl _), ze zbm rfl ty3 (by decide) rfl⟩) ?_
   refine zgY 10 rfl rfl (by kernel_rfl) (by kernel_rfl) (by simp) rfl rfl (fun hc => ⟨_, OpenTo.upd (t := 25) rfl (by first | exact hc | simp_all) (OpenTo.refl _), fun M hM => by
    subst hM; exact zL (i := 3 * k + 1) ty3 rfl (zbt hDk) (.inl ⟨rfl, rfl⟩) ⟨rfl, rfl⟩
    ⟩) ?_
   refine ahg 11 rfl rfl (by kernel_rfl) (by kernel_rfl) rfl (fun hc => ⟨_, OpenTo.refl _, zf rfl⟩) ?_
   refine ahg 12 rfl rfl (by kernel_rfl) (by kernel_rfl) rfl (fun hc => ⟨_, OpenTo.upd (t := 27) rfl (by first | exact hc | simp_all) (OpenTo.refl _), (by first | exact zx rfl | exact zo rfl)⟩) ?_
   refine ahg 13 rfl rfl (by kernel_rfl) (by kernel_rfl) rfl (fun hc => ⟨_, OpenTo.upd (t := 28) rfl (by first | exact hc | simp_all) (OpenTo.refl _), ze zcn rfl zdR (by decide) rfl⟩) ?_
   refine zgY 14 rfl rfl (by kernel_rfl) (by kernel_rfl) (by simp) rfl rfl (fun hc => ⟨_, OpenTo.upd (t := 29) rfl (by first | exact hc | simp_all) (OpenTo.refl _), fun M hM => by
    subst hM; exact zL (i := 0) zdR rfl rfl (.inl ⟨rfl, rfl⟩) ⟨rfl, rfl⟩
    ⟩) ?_
   refine ahg 15 rfl rfl (by kernel_rfl) (by kernel_rfl) rfl (fun hc => ⟨_, OpenTo.upd (t := 30) rfl (by first | exact hc | simp_all) (OpenTo.refl _), (by first | exact zx rfl | exact zo rfl)⟩) ?_
   refine ahg 16 rfl rfl (by kernel_rfl) (by kernel_rfl) rfl (fun hc => ⟨_, OpenTo.upd (t := 31) rfl (by first | exact hc | simp_all) (OpenTo.refl _), (by first | exact zb zV rfl ty3 (by decide) rfl | exact ze zV rfl ty3 (by decide) rfl)⟩) ?_
   refine ahg 17 rfl rfl (by kernel_rfl) (by kernel_rfl) rfl (fun hc => ⟨_, OpenTo.upd (t := 32) rfl (by first | exact hc | simp_all) (OpenTo.refl _), zg ty3 rfl rfl rfl⟩) ?_
   refine ahg 18 rfl rfl (by kernel_rfl) (by kernel_rfl) rfl (fun hc => by
    have hsb1 := hsb d (List.mem_of_getElem? hd) (by simpa using hc)
    exact ⟨_, OpenTo.upd (t := 33) rfl (by first | exact hc | simp_all) (OpenTo.upd (t := 26) rfl (by first | exact hc | simp_all) (OpenTo.refl _)), zB rfl rfl (by omega) (by omega)⟩) ?_
   refine ahg 19 rfl rfl (by kernel_rfl) (by kernel_rfl) rfl (fun hc => ⟨_, OpenTo.upd (t := 34) rfl (by first | exact hc | simp_all) (OpenTo.upd (t := 22) rfl (by first | exact hc | simp_all) (OpenTo.refl _)), zbK rfl rfl⟩) ?_
   refine ahp 20 rfl rfl (by kernel_rfl) (by kernel_rfl) (zz rfl (.inr ⟨_, rfl, fun h => by simp_all⟩) (.inl rfl)) ?_
   refine ahp 21 rfl rfl (by kernel_rfl) (by kernel_rfl) (zau rfl) ?_
   refine ahz (by kernel_rfl) ?_
   refine zi rfl (fun h3 => ?_) (fun h4 => ?_)
   ·try simp at h3
    refine zD ?_
    refine dmv rfl ?_
    refine dmv rfl ?_
    refine dmv rfl ?_
    refine de rfl (EOp.mono ?_ (zcB zua rfl (WeakL.refl _) (zou (d0 := d) (k0 := k) hca hdone hI1 ht ho1 ho2 ho3 (hG d (List.mem_of_getElem? hd)) hDk (by simpa using h3) (by have := hp.ll; simp; omega))))
    rintro _ _ ⟨st2, rfl, rfl, hI2⟩
    refine dn ?_
    refine zy ?_
    refine zy ?_
    refine zh ?_
    refine zD ?_
    refine dq (zB rfl rfl (by omega) (by omega)) ?_
    refine dmv rfl ?_
    refine dn ?_
    exact ⟨k + 1, (zbg m t o1 d.p).1, (D.set k (dP d (zbg m t o1 d.p).2.1), st2), l1 ++ (zbg m t o1 d.p).2.2, ⟨by omega, hp.step hd, by rw [List.map_append, ← List.append_assoc]; exact hI2⟩, by dsimp only; omega, ⟨rfl, trivial⟩, (by repeat (first | exact zt | refine zw rfl ?_ | refine zu rfl rfl ?_)), zQ rfl⟩
   ·try simp at h4
    refine za ?_
    refine dmv rfl ?_
    refine dq ((by first | exact zx rfl | exact zo rfl)) ?_
    refine dq (ze zbm rfl ty3 (by decide) rfl) ?_
    refine de rfl (zL (i := 3 * k + 1) ty3 rfl (zbt hDk) (.inl ⟨rfl, rfl⟩) ?_)
    refine dq (zas rfl rfl) ?_
    refine dmv rfl ?_
    refine dg rfl rfl (fun hc => ⟨_, OpenTo.refl _, zf rfl⟩) ?_
    refine dg rfl rfl (fun hc => ⟨_, OpenTo.refl _, zf rfl⟩) ?_
    refine dg rfl rfl (fun hc => ⟨_, OpenTo.upd (t := 49) rfl (by first | exact hc | simp_all) (OpenTo.refl _), (by first | exact zx rfl | exact zo rfl)⟩) ?_
    refine dg rfl rfl (fun hc => ⟨_, OpenTo.upd (t := 50) rfl (by first | exact hc | simp_all) (OpenTo.refl _), ze zbm rfl zal (by decide) rfl⟩) ?_
    refine dg rfl rfl (fun hc => ⟨_, OpenTo.upd (t := 51) rfl (by first | exact hc | simp_all) (OpenTo.refl _), ze zal rfl zbS (by decide) rfl⟩) ?_
    refine dg rfl rfl (fun hc => ⟨_, OpenTo.upd (t := 52) rfl (by first | exact hc | simp_all) (OpenTo.refl _), ze zbS rfl ty3 (by decide) rfl⟩) ?_
    refine dgl rfl rfl (fun hc => ⟨_, OpenTo.upd (t := 53) rfl (by first | exact hc | simp_all) (OpenTo.refl _), zL (i := 3 * k + 1) ty3 rfl (zbt hDk) (.inl ⟨rfl, rfl⟩) ⟨rfl, rfl⟩⟩) ?_
    refine dg rfl rfl (fun hc => ⟨_, OpenTo.upd (t := 54) rfl (by first | exact hc | simp_all) (OpenTo.upd (t := 48) rfl (by first | exact hc | simp_all) (OpenTo.refl _)), zbK rfl rfl⟩) ?_
    refine dg rfl rfl (fun hc => ⟨_, OpenTo.upd (t := 55) rfl (by first | exact hc | simp_all) (OpenTo.refl _), zf rfl⟩) ?_
    refine dg rfl rfl (fun hc => ⟨_, OpenTo.refl _, zf rfl⟩) ?_
    refine dg rfl rfl (fun hc => ⟨_, OpenTo.refl _, zf rfl⟩) ?_
    refine dg rfl rfl (fun hc => ⟨_, OpenTo.upd (t := 58) rfl (by first | exact hc | simp_all) (OpenTo.refl _), (by first | exact zx rfl | exact zo rfl)⟩) ?_
    refine dg rfl rfl (fun hc => ⟨_, OpenTo.upd (t := 59) rfl (by first | exact hc | simp_all) (OpenTo.refl _), ze zcn rfl zdR (by decide) rfl⟩) ?_
    refine dgl rfl rfl (fun hc => ⟨_, OpenTo.upd (t := 60) rfl (by first | exact hc | simp_all) (OpenTo.refl _), zL (i := 0) zdR rfl rfl (.inl ⟨rfl, rfl⟩) ⟨rfl, rfl⟩⟩) ?_
    refine dg rfl rfl (fun hc => ⟨_, OpenTo.upd (t := 61) rfl (by first | exact hc | simp_all) (OpenTo.refl _), (by first | exact zx rfl | exact zo rfl)⟩) ?_
    refine dg rfl rfl (fun hc => ⟨_, OpenTo.upd (t := 62) rfl (by first | exact hc | simp_all) (OpenTo.refl _), (by first | exact zb zV rfl ty3 (by decide) rfl | exact ze zV rfl ty3 (by decide) rfl)⟩) ?_
    refine dg rfl rfl (fun hc => ⟨_, OpenTo.upd (t := 63) rfl (by first | exact hc | simp_all) (OpenTo.refl _), zg ty3 rfl rfl rfl⟩) ?_
    refine dg rfl rfl (fun hc => ⟨_, OpenTo.upd (t := 64) rfl (by first | exact hc | simp_all) (OpenTo.upd (t := 57) rfl (by first | exact hc | simp_all) (OpenTo.refl _)), zbK rfl rfl⟩) ?_
    refine dg rfl rfl (fun hc => ⟨_, OpenTo.upd (t := 56) rfl (by first | exact hc | simp_all) (OpenTo.refl _), zz rfl (.inl rfl) (.inr ⟨_, rfl, fun h => by simp_all⟩)⟩) ?_
    refine dq (zz rfl (.inr ⟨_, rfl, fun h => by simp_all⟩) (.inl rfl)) ?_
    refine das rfl ?_
    refine dn ?_
    refine zi rfl (fun h5 => ?_) (fun h6 => ?_)
    ·try simp at h5
     refine zD ?_
     refine dmv rfl ?_
     refine dmv rfl ?_
     refine de rfl (zdc (i := 3 * k + 1) (m' := .cells d.b (cD { d with p := zbf d.p 7 t })) zfX rfl (WeakL.refl _) (zbt hDk) (zbn (d := d)) ?_)
     refine dn ?_
     refine zy ?_
     refine zy ?_
     refine zh ?_
     refine zD ?_
     refine dq (zB rfl rfl (by omega) (by omega)) ?_
     refine dmv rfl ?_
     refine dn ?_
     have hst := hp.step hd
     rw [zsX (by simpa using h4) (by simpa using h5)] at hst
     exact ⟨k + 1, o1, (D.set k (dT d 7 t), s1), l1 ++ [], ⟨by omega, hst, by simpa using hI1⟩, by dsimp only; omega, ⟨rfl, trivial⟩, (by repeat (first | exact zt | refine zw rfl ?_ | refine zu rfl rfl ?_)), zQ (zbq hDk)⟩
    ·try simp at h6
     refine zm ?_
     refine zy ?_
     refine zy ?_
     refine zh ?_
     refine zD ?_
     refine dq (zB rfl rfl (by omega) (by omega)) ?_
     refine dmv rfl ?_
     refine dn ?_
     have hst := hp.step hd
     rw [zsm (by simpa using h4) (by simpa using h6)] at hst
     rw [show D.set k (dP d (o1, d.p, ([] : List (DealS × List OwnerS))).2.1) = D from znu hDk] at hst
     exact ⟨k + 1, o1, (D, s1), l1 ++ [], ⟨by omega, hst, by simpa using hI1⟩, by dsimp only; omega, ⟨rfl, trivial⟩, (by repeat (first | exact zt | refine zw rfl ?_ | refine zu rfl rfl ?_)), zQ rfl⟩
  ·try simp at h2
   have hnk : E.length ≤ k := by omega
   obtain rfl : k = E.length := by omega
   have hfin := hp.fin
   refine zX ?_
   refine z8 ?_
   refine zib ?_
   refine zO ?_
   exact zak rfl ⟨D, s1, rfl, by rw [hfin], by rw [hfin], by rw [hfin]; exact hI1⟩

/-- (*benchwarmer/trade.floor).next$1 -/
theorem zgu [Tracks] {t out x : Int} {b7 : Nat}  : Con Tryz.prog 133 [.int .i64 x, .vptr [.int .i64 t] 0, pAt b7] [.cells b7 [.int .i64 out]] (fun r M' => r = .tup [] ∧ M' = [.cells b7 [.int .i64 (za3 t out x)]]) := by
 refine Con.of_body Tryz.func133 rfl Tryz.ntmps133 rfl rfl ?_
 refine za ?_
 refine dmv rfl ?_
 refine dq (zg ty3 rfl rfl rfl) ?_
 refine dq (zad rfl rfl) ?_
 refine dn ?_
 refine zi rfl (fun h1 => ?_) (fun h2 => ?_)
 ·try simp at h1
  refine zD ?_
  first
  | refine de rfl (zL (i := 0) ty3 rfl rfl (.inl ⟨rfl, rfl⟩) ?_)
  | refine de rfl (zL (i := 1) ty3 rfl rfl (.inl ⟨rfl, rfl⟩) ?_)
  | refine de rfl (zL (i := 2) ty3 rfl rfl (.inl ⟨rfl, rfl⟩) ?_)
  | refine de rfl (zL (i := 3) ty3 rfl rfl (.inl ⟨rfl, rfl⟩) ?_)
  refine dmv rfl ?_
  refine dq (zoJ rfl rfl) ?_
  first
  | refine de0 (zA (i := 0) ty3 rfl rfl rfl rfl rfl (Nat.le_of_ble_eq_true rfl) ?_)
  | refine de0 (zA (i := 1) ty3 rfl rfl rfl rfl rfl (Nat.le_of_ble_eq_true rfl) ?_)
  | refine de0 (zA (i := 2) ty3 rfl rfl rfl rfl rfl (Nat.le_of_ble_eq_true rfl) ?_)
  | refine de0 (zA (i := 3) ty3 rfl rfl rfl rfl rfl (Nat.le_of_ble_eq_true rfl) ?_)
  refine dn ?_
  first
  | exact zak rfl ⟨rfl, by unfold za3; rw [if_pos h1]; simp [zY, zn, Int.min_def]; split <;> split <;> omega⟩
  | exact zak rfl ⟨rfl, by unfold za3; rw [if_neg (by omega)]⟩
 ·try simp at h2
  refine zm ?_
  first
  | exact zak rfl ⟨rfl, by unfold za3; rw [if_pos h1]; simp [zY, zn, Int.min_def]; split <;> split <;> omega⟩
  | exact zak rfl ⟨rfl, by unfold za3; rw [if_neg (by omega)]⟩

set_option maxHeartbeats 1000000 in
/-- (*benchwarmer/trade.floor).next -/
theorem ziv [Tracks] {bf : Nat} {m : MarketS} {o : List OwnerS} {fn : HVal} {E : List DV} {S : List MObj} {a : List ReplyS} {t : Int} (hE : E.length ≤ 1000000) (ha : a.length ≤ 1000000) (hsb : ∀ d ∈ E, d.p.2.how = 2 → 0 ≤ d.p.2.since ∧ d.p.2.since ≤ 345686400000) (hwt : 0 ≤ m.Wait ∧ m.Wait ≤ 864000000) : Con Tryz.prog 88 [pAt bf, zb5 a, .int .i64 t] (FL bf m o fn E ++ S) (fun x M' => x = .int .i64 (zct m t a (E.map (·.p))) ∧ M' = (FL bf m o fn E ++ S)) := by
 refine Con.of_body Tryz.func88 rfl Tryz.ntmps88 rfl rfl ?_
 refine za ?_
 refine dq (zat rfl rfl) ?_
 refine das rfl ?_
 refine dn ?_
 refine za ?_
 refine de rfl (zZ ty3 rfl fun b7 => ?_)
 first
 | refine de0 (zA (i := 0) ty3 rfl rfl rfl rfl rfl (Nat.le_of_ble_eq_true rfl) ?_)
 | refine de0 (zA (i := 1) ty3 rfl rfl rfl rfl rfl (Nat.le_of_ble_eq_true rfl) ?_)
 | refine de0 (zA (i := 2) ty3 rfl rfl rfl rfl rfl (Nat.le_of_ble_eq_true rfl) ?_)
 | refine de0 (zA (i := 3) ty3 rfl rfl rfl rfl rfl (Nat.le_of_ble_eq_true rfl) ?_)
 refine dn ?_
 refine za ?_
 refine dq (zgq rfl rfl) ?_
 refine das rfl ?_
 refine dn ?_
 refine za ?_
 refine dmv rfl ?_
 refine dmv rfl ?_
 refine dq ((by first | exact zx rfl | exact zo rfl)) ?_
 refine dq (ze zcn rfl zdR (by decide) rfl) ?_
 refine de rfl (zL (i := 1) zdR rfl rfl (.inl ⟨rfl, rfl⟩) ?_)
 refine dq ((by first | exact zx rfl | exact zo rfl)) ?_
 refine dq ((by first | exact zb zV rfl ty3 (by decide) rfl | exact ze zV rfl ty3 (by decide) rfl)) ?_
 refine dq (zg ty3 rfl rfl rfl) ?_
 refine de rfl (EOp.mono ?_ ((zc8 (M := [.cells b7 [.int .i64 345686400000]]) zky rfl rfl (WeakL.refl _) (zgu (t := t) (out := 345686400000) (x := m.Deadline))).frame (FL bf m o fn E ++ S)))
 rintro _ _ ⟨N, rfl, rfl, rfl⟩
 refine dn ?_
 refine zeP [21, 22, 23, 24, 25, 26, 27, 28, 29] (fun (q : Int) => []) (fun (q : Int) => (.cells b7 [.int .i64 q] :: (FL bf m o fn E ++ S))) (fun (q : Int) => q = zcv m t a) ?_ ?_
 ·skip
  refine za ?_
  refine dmv rfl ?_
  refine dq (zI zcb rfl) ?_
  refine dq (zad rfl rfl) ?_
  refine dn ?_
  refine zi rfl (fun h1 => ?_) (fun h2 => ?_)
  ·try simp at h1
   refine zD ?_
   refine dmv rfl ?_
   refine dmv rfl ?_
   refine dq (zW (j := 0) (a := a.getD 0 zbD) zcb z6 rfl rfl rfl (getD_some (by omega))) ?_
   refine dq ((by first | exact zb z6 rfl ty3 (by decide) rfl | exact ze z6 rfl ty3 (by decide) rfl)) ?_
   refine dq (zg ty3 rfl rfl rfl) ?_
   refine de rfl (EOp.mono ?_ ((zc8 (M := [.cells b7 [.int .i64 (za3 t 345686400000 m.Deadline)]]) zky rfl rfl (WeakL.refl _) (zgu (t := t) (out := (za3 t 345686400000 m.Deadline)) (x := (a.getD 0 zbD).At))).frame (FL bf m o fn E ++ S)))
   rintro _ _ ⟨N, rfl, rfl, rfl⟩
   refine dn ?_
   exact ⟨_, zsz (by omega), trivial, (by repeat (first | exact zt | refine zw rfl ?_ | refine zu rfl rfl ?_)), zQ rfl⟩
  ·try simp at h2
   refine zm ?_
   exact ⟨_, zsu (by first | omega | simp [h2]), trivial, (by repeat (first | exact zt | refine zw rfl ?_ | refine zu rfl rfl ?_)), zQ rfl⟩
 ·intro q hq
  subst hq
  refine zj ?_
  refine za ?_
  refine dmv rfl ?_
  refine dq ((by first | exact zx rfl | exact zo rfl)) ?_
  refine dq (ze zcn rfl zbH (by decide) rfl) ?_
  refine de rfl (zL (i := 1) zbH rfl rfl (.inl ⟨rfl, rfl⟩) ?_)
  refine dq (zI zbH rfl) ?_
  refine dmv rfl ?_
  refine dn ?_
  refine zq ?_
  refine zai [10, 35, 36, 37, 38, 39, 40, 41, 42, 43, 44, 45, 46, 47, 48, 49, 50, 51, 52, 53, 54, 55, 56, 57, 58, 59, 60, 61, 62, 63, 64, 65, 66, 67, 68, 69, 70, 71, 72, 73, 74] (fun (k : Nat) => [(35, .int .i64 k)]) (fun (k : Nat) => (.cells b7 [.int .i64 (((E.take k).map (·.p)).foldl (zbz m t) (zcv m t a))] :: (FL bf m o fn E ++ S))) (fun (k : Nat) => k ≤ E.length ∧ (True)) (fun (k : Nat) => E.length - k) (0) ?_ ?_ ?_ ?_
  ·exact ⟨Nat.zero_le _, trivial⟩
  ·exact ⟨rfl, trivial⟩
  ·exact zQ rfl
  ·intro k hinv
   obtain ⟨hk, -⟩ := hinv
   refine za ?_
   refine dq (zS rfl rfl) ?_
   refine dn ?_
   refine zj ?_
   refine zi rfl (fun h3 => ?_) (fun h4 => ?_)
   ·try simp at h3
    obtain ⟨d, hd⟩ : ∃ d, E[k]? = some d := ⟨_, List.getElem?_eq_getElem h3⟩
    have hdd := zU hd
    refine zm ?_
    refine zh ?_
    refine zj ?_
    refine zq ?_
    refine za ?_
    refine dq (zW (j := k) (a := d) zbH zc3 rfl rfl rfl hd) ?_
    refine dq (zg zc3 rfl rfl rfl) ?_
    refine das rfl ?_
    refine dn ?_
    refine za ?_
    refine dmv rfl ?_
    refine dmv rfl ?_
    refine dq ((by first | exact zx rfl | exact zo rfl)) ?_
    refine dq (ze zbm rfl zal (by decide) rfl) ?_
    refine dq (ze zal rfl zbS (by decide) rfl) ?_
    refine dq (ze zbS rfl ty3 (by decide) rfl) ?_
    refine de rfl (zL (i := 3 * k + 1 + 1) ty3 rfl (zbt (bf := bf) (m := m) (o := o) (fn := fn) (S := S) hd) (.inl ⟨rfl, rfl⟩) ?_)
    refine de rfl (EOp.mono ?_ ((zc8 (M := [.cells b7 [.int .i64 (((E.take k).map (·.p)).foldl (zbz m t) (zcv m t a))]]) zky rfl rfl (WeakL.refl _) (zgu (t := t) (out := (((E.take k).map (·.p)).foldl (zbz m t) (zcv m t a))) (x := d.p.1.From))).frame (FL bf m o fn E ++ S)))
    rintro _ _ ⟨N, rfl, rfl, rfl⟩
    refine dn ?_
    refine za ?_
    refine dmv rfl ?_
    refine dmv rfl ?_
    refine dq ((by first | exact zx rfl | exact zo rfl)) ?_
    refine dq (ze zbm rfl zal (by decide) rfl) ?_
    refine dq (ze zal rfl zbS (by decide) rfl) ?_
    refine dq (ze zbS rfl ty3 (by decide) rfl) ?_
    refine de rfl (zL (i := 3 * k + 1 + 1) ty3 rfl (zbt (bf := bf) (m := m) (o := o) (fn := fn) (S := S) hd) (.inl ⟨rfl, rfl⟩) ?_)
    refine de rfl (EOp.mono ?_ ((zc8 (M := [.cells b7 [.int .i64 (za3 t (((E.take k).map (·.p)).foldl (zbz m t) (zcv m t a)) d.p.1.From)]]) zky rfl rfl (WeakL.refl _) (zgu (t := t) (out := (za3 t (((E.take k).map (·.p)).foldl (zbz m t) (zcv m t a)) d.p.1.From)) (x := d.p.1.To))).frame (FL bf m o fn E ++ S)))
    rintro _ _ ⟨N, rfl, rfl, rfl⟩
    refine dn ?_
    refine za ?_
    refine dmv rfl ?_
    refine dq ((by first | exact zx rfl | exact zo rfl)) ?_
    refine dq (ze zbm rfl ty3 (by decide) rfl) ?_
    refine de rfl (zL (i := 3 * k + 1 + 1) ty3 rfl (zbt (bf := bf) (m := m) (o := o) (fn := fn) (S := S) hd) (.inl ⟨rfl, rfl⟩) ?_)
    refine dq (zas rfl rfl) ?_
    refine dn ?_
    refine zi rfl (fun h5 => ?_) (fun h6 => ?_)
    ·try simp at h5
     refine zbM (fun M => ∃ z : Int, M = (.cells b7 [.int .i64 z] :: (FL bf m o fn E ++ S))) [4, 8] mixed ?_
     refine ahp 0 rfl rfl (by kernel_rfl) (by kernel_rfl) (zf rfl) ?_
     refine ahp 1 rfl rfl (by kernel_rfl) (by kernel_rfl) (zf rfl) ?_
     refine ahp 2 rfl rfl (by kernel_rfl) (by kernel_rfl) ((by first | exact zx rfl | exact zo rfl)) ?_
     refine ahp 3 rfl rfl (by kernel_rfl) (by kernel_rfl) (ze zbm rfl ty3 (by decide) rfl) ?_
     refine ahl 4 rfl rfl (by kernel_rfl) (by kernel_rfl) (by simp) ⟨_, rfl⟩ (fun M hM => by obtain ⟨z, rfl⟩ := hM; exact zL (i := 3 * k + 1 + 1) ty3 rfl (zbt (bf := bf) (m := m) (o := o) (fn := fn) (S := S) hd) (.inl ⟨rfl, rfl⟩) ⟨rfl, rfl⟩) ?_
     refine ahp 5 rfl rfl (by kernel_rfl) (by kernel_rfl) (zf rfl) ?_
     refine ahp 6 rfl rfl (by kernel_rfl) (by kernel_rfl) ((by first | exact zx rfl | exact zo rfl)) ?_
     refine ahp 7 rfl rfl (by kernel_rfl) (by kernel_rfl) (ze zcn rfl zdR (by decide) rfl) ?_
     refine ahl 8 rfl rfl (by kernel_rfl) (by kernel_rfl) (by simp) ⟨_, rfl⟩ (fun M hM => by obtain ⟨z, rfl⟩ := hM; exact zL (i := 1) zdR rfl rfl (.inl ⟨rfl, rfl⟩) ⟨rfl, rfl⟩) ?_
     refine ahp 9 rfl rfl (by kernel_rfl) (by kernel_rfl) ((by first | exact zx rfl | exact zo rfl)) ?_
     refine ahp 10 rfl rfl (by kernel_rfl) (by kernel_rfl) ((by first | exact zb zV rfl ty3 (by decide) rfl | exact ze zV rfl ty3 (by decide) rfl)) ?_
     refine ahp 11 rfl rfl (by kernel_rfl) (by kernel_rfl) (zg ty3 rfl rfl rfl) ?_
     have hsb1 := hsb d (List.mem_of_getElem? hd) (by simpa using h5)
     refine ahp 12 rfl rfl (by kernel_rfl) (by kernel_rfl) (zB rfl rfl (by omega) (by omega)) ?_
     refine ahe 13 rfl (by kernel_rfl) ?_
     refine zv rfl (EOp.mono ?_ ((zc8 (M := [.cells b7 [.int .i64 (za3 t (za3 t (((E.take k).map (·.p)).foldl (zbz m t) (zcv m t a)) d.p.1.From) d.p.1.To)]]) zky rfl rfl (WeakL.refl _) (zgu (t := t) (out := (za3 t (za3 t (((E.take k).map (·.p)).foldl (zbz m t) (zcv m t a)) d.p.1.From) d.p.1.To)) (x := d.p.2.since + m.Wait))).frame (FL bf m o fn E ++ S)))
     rintro _ _ ⟨N, rfl, rfl, rfl⟩
     refine ⟨fun _ => .inl ⟨_, rfl⟩, ?_⟩
     refine ahz (by kernel_rfl) ?_
     refine zy ?_
     refine zh ?_
     refine zD ?_
     refine dq (zB rfl rfl (by omega) (by omega)) ?_
     refine dmv rfl ?_
     refine dn ?_
     exact ⟨k + 1, ⟨by omega, trivial⟩, by dsimp only; omega, ⟨rfl, trivial⟩, (by repeat (first | exact zt | refine zw rfl ?_ | refine zu rfl rfl ?_)), zQ (by dsimp only; rw [zaF hd, List.map_append, List.foldl_append]; show _ = MObj.cells b7 [.int .i64 (zbz m t _ d.p)] :: _; unfold zbz; rw [if_pos (by simpa using h5)]; rfl)⟩
    ·try simp at h6
     refine zm ?_
     refine zy ?_
     refine zh ?_
     refine zD ?_
     refine dq (zB rfl rfl (by omega) (by omega)) ?_
     refine dmv rfl ?_
     refine dn ?_
     exact ⟨k + 1, ⟨by omega, trivial⟩, by dsimp only; omega, ⟨rfl, trivial⟩, (by repeat (first | exact zt | refine zw rfl ?_ | refine zu rfl rfl ?_)), zQ (by dsimp only; rw [zaF hd, List.map_append, List.foldl_append]; show _ = MObj.cells b7 [.int .i64 (zbz m t _ d.p)] :: _; unfold zbz; rw [if_neg (by simpa using h6)]; rfl)⟩
   ·try simp at h4
    have hnk : E.length ≤ k := by omega
    obtain rfl : k = E.length := by omega
    rw [List.take_length]
    refine zX ?_
    refine z8 ?_
    refine zax ?_
    refine zO ?_
    refine zh ?_
    refine za ?_
    first
    | refine de rfl (zL (i := 0) ty3 rfl rfl (.inl ⟨rfl, rfl⟩) ?_)
    | refine de rfl (zL (i := 1) ty3 rfl rfl (.inl ⟨rfl, rfl⟩) ?_)
    | refine de rfl (zL (i := 2) ty3 rfl rfl (.inl ⟨rfl, rfl⟩) ?_)
    | refine de rfl (zL (i := 3) ty3 rfl rfl (.inl ⟨rfl, rfl⟩) ?_)
    refine das rfl ?_
    refine dn ?_
    refine zl ?_
    exact zb2 Ghost.drop rfl ⟨rfl, rfl⟩
end
end Go.Proofs.YtpcaaekefgkhjaaGreatDoor
namespace Go.HL
section
/-! how often owners change -/
def c3 (ds : List DD) : Nat := ds.countP fun p => p.2.how == 3
theorem ztu {f : DD → DD} (h : ∀ p, ((f p).2.how = 3 ↔ p.2.how = 3)) (ds : List DD) : c3 (ds.map f) = c3 ds := by
 unfold c3
 rw [List.countP_map]
 refine List.countP_congr fun p _ => ?_
 simp [h p]
theorem zum (t : Int) (p : DD) : (zcM t p).2.how = 3 ↔ p.2.how = 3 := by
 unfold zcM; split
 ·rename_i h; constructor
  ·intro e; simp at e
  ·intro e; omega
 ·exact Iff.rfl
theorem zuN (m : MarketS) (a : ReplyS) (p : DD) : (zbU m a p).2.how = 3 ↔ p.2.how = 3 := by
 unfold zbU zbf
 split
 ·exact Iff.rfl
 rename_i h
 have hn : p.2.how ≠ 3 := fun e => h ⟨by omega, by omega⟩
 split
 ·split
  ·simp [hn]
  ·simp [hn]
 split
 ·simp [hn]
 split
 ·simp [hn]
 split
 ·split <;> simp [hn]
 ·exact Iff.rfl
theorem zge (p : DD) (r : List DD) : c3 (p :: r) = c3 r + (if p.2.how = 3 then 1 else 0) := by
 unfold c3; rw [List.countP_cons]; simp
theorem zqJ (m : MarketS) (a : ReplyS) : ∀ ds, c3 (zcK m a ds) = c3 ds
 | [] => rfl
 | p :: r => by
   rw [zcK]; split
   ·rw [zge, zge]; simp only [zuN]
   ·rw [zge, zge, zqJ m a r]
theorem zqt (m : MarketS) : ∀ (rs : List ReplyS) (ds : List DD), c3 (zeu m rs ds) = c3 ds
 | [], _ => rfl
 | a :: r, ds => by
   have := zqt m r (zcK m a ds)
   unfold zeu at this ⊢
   rw [List.foldl_cons, this, zqJ]
theorem zuP (m : MarketS) (t : Int) (o : List OwnerS) (p : DD) : (if (zbg m t o p).2.1.2.how = 3 then 1 else 0) = (if p.2.how = 3 then 1 else 0) + (zbg m t o p).2.2.length := by
 unfold zbg zbf
 split
 ·rename_i h
  have hn : p.2.how ≠ 3 := by omega
  split
  ·simp [hn]
  split <;> simp [hn]
 split
 ·rename_i h
  have hn : p.2.how ≠ 3 := by omega
  simp [hn]
 ·simp
theorem zqy (m : MarketS) (t : Int) : ∀ (ds : List DD) (o : List OwnerS), c3 (zbr m t o ds).ds = c3 ds + (zbr m t o ds).log.length
 | [], _ => rfl
 | p :: r, o => by
   have h1 := zuP m t o p
   have h2 := zqy m t r (zbg m t o p).1
   rw [zbr]; dsimp only
   rw [zge, zge, h2, h1, List.length_append]; omega
theorem zr8 (m : MarketS) (o : List OwnerS) (l : List DealS) (a : List ReplyS) : ∀ n, c3 (zaB m o l a n).ds = (zaB m o l a n).log.length
 | 0 => by
   show c3 (l.map fun x => (x, zg4)) = 0
   unfold c3
   rw [List.countP_eq_zero]
   intro p hp
   obtain ⟨x, _, rfl⟩ := List.mem_map.1 hp
   show ¬ ((0 : Int) == 3) = true
   decide
 | n + 1 => by
   have ih := zr8 m o l a n
   rw [zaB, stF]; dsimp only
   rw [zqy, zqt, ztu (zum n), ih, List.length_append]
theorem zsA (m : MarketS) (o : List OwnerS) (l : List DealS) (a : List ReplyS) (n : Nat) : (zaB m o l a n).log.length ≤ l.length := by
 rw [← zr8]
 have h1 : (zaB m o l a n).ds.length = l.length := by
  have := congrArg List.length (zeM m o l a n)
  simpa using this
 rw [← h1]
 exact List.countP_le_length
/-! one zba -/
theorem zrz {m : MarketS} {o : List OwnerS} {l : List DealS} {a : List ReplyS} {p : Int} {qs ps : List DD} (hp : 0 ≤ p) (hq : qs = (zaB m o l a p.toNat).ds.map (zcM p)) (ha : zeu m (atL a p) qs = ps) :
 zaB m o l a (p.toNat + 1) = ⟨(zbr m p (zaB m o l a p.toNat).o ps).o, (zbr m p (zaB m o l a p.toNat).o ps).ds, (zaB m o l a p.toNat).log ++ (zbr m p (zaB m o l a p.toNat).o ps).log⟩ := by
 have e : ((p.toNat : Nat) : Int) = p := by omega
 rw [zaB, stF, e, ← hq, ha]
theorem znE {E : List DV} {t : Int} : (E.map (zfM t)).map (·.p) = (E.map (·.p)).map (zcM t) := by
 rw [List.map_map, List.map_map]; rfl
section
variable {m : MarketS} {o : List OwnerS} {l : List DealS} {a : List ReplyS} {E : List DV}
theorem zoP (l : List DealS) : (ini l).map (·.1) = l := by
 unfold ini
 rw [List.map_map]
 exact (List.map_congr_left (g := id) fun _ _ => rfl).trans (List.map_id l)
theorem zsg (h : (E.map (·.p)).map (·.1) = l) : ∀ d ∈ E, d.p.1 ∈ l := fun d hd => by
 rw [← h]; exact List.mem_map_of_mem (List.mem_map_of_mem hd)
theorem zh9 (h : (E.map (·.p)).map (·.1) = l) : E.length = l.length := by
 rw [← h]; simp
theorem zuh (h : E.map (·.p) = ini l) : ∀ d ∈ E, d.p.2.how = 2 → 0 ≤ d.p.2.since ∧ d.p.2.since ≤ 345686400000 := fun d hd hh => by
 have : d.p ∈ ini l := by rw [← h]; exact List.mem_map_of_mem hd
 obtain ⟨x, _, hx⟩ := List.mem_map.1 this
 rw [← hx] at hh; cases hh
theorem ztF {n : Nat} (hf : FOk m l) (hn : (n : Int) ≤ 345686400001) (h : E.map (·.p) = (zaB m o l a n).ds) : ∀ d ∈ E, d.p.2.how = 2 → 0 ≤ d.p.2.since ∧ d.p.2.since ≤ 345686400000 := fun d hd hh => by
 have h1 : d.p ∈ (zaB m o l a n).ds := by rw [← h]; exact List.mem_map_of_mem hd
 have := (zga hf n d.p h1).1.since (by omega)
 omega
theorem zuq {p : Int} {rs : List ReplyS} (hf : FOk m l) (hp : 0 ≤ p) (hn : p ≤ 345686400000) (hr : ∀ r ∈ rs, r.At = p) (h : E.map (·.p) = zeu m rs ((zaB m o l a p.toNat).ds.map (zcM p))) : ∀ d ∈ E, d.p.2.how = 2 → 0 ≤ d.p.2.since ∧ d.p.2.since ≤ 345686400000 := fun d hd hh => by
 have e : ((p.toNat : Nat) : Int) = p := by omega
 have h0 := zs5 (o := o) (a := a) (rs := rs) (n := p.toNat) hf (by rw [e]; exact hr)
 rw [e] at h0
 have h1 := (h0 d.p (by rw [← h]; exact List.mem_map_of_mem hd)).1.since (by omega)
 omega
end
theorem ztn {a : List ReplyS} {p : Int} : ∀ r ∈ atL a p, r.At = p := fun r hr => by
 unfold atL at hr
 simpa using (List.mem_filter.1 hr).2
/-! a new record on the floor -/
theorem zsS (E : List DV) (d : DV) : flD (E ++ [d]) = flD E ++ o3 d := by unfold flD; rw [List.flatMap_append]; simp
theorem zmb {x y : MObj} {E : List DV} {d : DV} {S : List MObj} : (.cells d.b (cD d) :: .map d.mv (sk (za8 d.p.2.veto)) :: .map d.my (sk (za8 d.p.2.yes)) :: x :: y :: (flD E ++ S)).Perm (x :: y :: (flD (E ++ [d]) ++ S)) := by
 rw [zsS, List.append_assoc]
 have h1 : (MObj.cells d.b (cD d) :: .map d.mv (sk (za8 d.p.2.veto)) :: .map d.my (sk (za8 d.p.2.yes)) :: x :: y :: (flD E ++ S)).Perm (o3 d ++ (x :: y :: (flD E ++ S))) := List.Perm.cons _ (List.Perm.swap _ _ _)
 refine h1.trans ?_
 have h2 : (o3 d ++ ((x :: y :: flD E) ++ S)).Perm ((x :: y :: flD E) ++ (o3 d ++ S)) := by
  rw [← List.append_assoc, ← List.append_assoc]
  exact (List.perm_append_comm).append_right S
 exact h2
theorem zpX {x y : MObj} {E : List DV} {d : DV} {S : List MObj} : (.cells d.b (cD d) :: .map d.my (sk (za8 d.p.2.yes)) :: .map d.mv (sk (za8 d.p.2.veto)) :: x :: y :: (flD E ++ S)).Perm (x :: y :: (flD (E ++ [d]) ++ S)) :=
 (List.Perm.cons _ (List.Perm.swap _ _ _)).trans zmb
theorem zml {a : List ReplyS} {i : Nat} {x : ReplyS} (h : a[i]? = some x) : (a.drop i).getD 0 zbD = x := by
 rw [List.getD_eq_getElem?_getD, List.getElem?_drop, Nat.add_zero, h]; rfl
end
end Go.HL
namespace Go.Proofs.YtpcaaekefgkhjaaGreatDoor
set_option maxRecDepth 100000
set_option linter.unusedVariables false
set_option linter.unusedSimpArgs false
section
open Go.HL
set_option maxHeartbeats 4000000 in
/-- benchwarmer/trade.follow -/
theorem zrQ [Tracks] {m : MarketS} {o : List OwnerS} {l : List DealS} {a : List ReplyS} {u : Int} {fid : FuncId} {caps : List HVal} {σ : Type} {I : List (List OwnerS) → σ → Prop} {S : σ → List MObj} {st : σ} {lg : List (List OwnerS)}  (hca : Callable Tryz.prog fid) (hdone : ∀ (g : List (List OwnerS)) (s : σ) (x : List OwnerS), g.length ≤ 1000000 → x.length ≤ 1000000 → I g s → Con Tryz.prog fid ([zbe x] ++ caps) (S s) fun r M' => ∃ s', r = .tup [] ∧ M' = S s' ∧ I (g ++ [x]) s') (hI : I lg st) (ht : m.Teams.length ≤ 1000000) (h0o : l ≠ [] → 0 < o.length) (ho : o.length ≤ 1000000) (hs : SortedS (o.map (·.Player))) (hl : l.length ≤ 1000) (hG : ∀ x ∈ l, x.Gives.length ≤ 1000) (hf : FOk m l) (hsa : zlY a) (ha : a.length ≤ 1000000) (ha0 : ∀ r ∈ a, 0 ≤ r.At) (hu : 0 ≤ u ∧ u < 345686400000) (hwt : 0 ≤ m.Wait ∧ m.Wait ≤ 864000000) (hlg : lg.length ≤ 1000) : Con Tryz.prog 54 [.vptr (zn (zaM m)) 0, zbe o, zeB l, zb5 a, .int .i64 u, (.fn (.func fid) [] caps)] (S st) (fun x M' => ∃ b22 E' s', x = pAt b22 ∧ M' = (FL b22 m (zaB m o l a (u + 1).toNat).o (.fn (.func fid) [] caps) E' ++ S s') ∧ E'.map (·.p) = (zaB m o l a (u + 1).toNat).ds ∧ I (lg ++ (zaB m o l a (u + 1).toNat).log.map (·.2)) s') := by
 refine Con.of_body Tryz.func54 rfl Tryz.ntmps54 rfl rfl ?_
 refine za ?_
 refine das rfl ?_
 refine dn ?_
 refine za ?_
 refine dmv rfl ?_
 refine dmv rfl ?_
 refine de rfl (zeR ca86 rfl (WeakL.refl _) (zcG (l := o) ho) fun v19 => ?_)
 refine dmv rfl ?_
 refine dq (zaA (cs := [_, _, _, _]) zcn zuz rfl) ?_
 refine de rfl (zjn rfl rfl fun b22 => ?_)
 refine das rfl ?_
 refine dn ?_
 refine zM (Ghost.fcell (i := 1) (k := 0) (j := 2) rfl rfl rfl) ?_
 refine zM (Ghost.of_eq (M' := .cells b22 [.vptr (zn (zaM m)) 0, .raw (.slice none 0 0), zbe o, (.fn (.func fid) [] caps)] :: S st) rfl) ?_
 refine zM (Ghost.arr_nil 1) ?_
 refine zj ?_
 refine za ?_
 refine dmv rfl ?_
 refine dq (zI zdl rfl) ?_
 refine dmv rfl ?_
 refine dn ?_
 refine zq ?_
 refine zfA [15, 25, 26, 27, 28, 29, 30, 31, 32, 33, 34, 35, 36, 37, 38, 39, 40, 41, 42, 43, 44, 45] (fun (k : Nat) (v : Value) (E : List DV) => [(25, .int .i64 k)]) (fun (k : Nat) (v : Value) (E : List DV) => (.cells b22 [.vptr (zn (zaM m)) 0, .raw v, zbe o, (.fn (.func fid) [] caps)] :: .arr v 1 (E.map pD) :: (flD E ++ S st))) (fun (k : Nat) (v : Value) (E : List DV) => k ≤ l.length ∧ (E.map (·.p) = ini (l.take k))) (fun (k : Nat) (v : Value) (E : List DV) => l.length - k) (0) (.slice none 0 0) ([]) ?_ ?_ ?_ ?_
 ·exact ⟨Nat.zero_le _, rfl⟩
 ·exact ⟨rfl, trivial⟩
 ·exact (List.Perm.swap _ _ _)
 ·intro k v E hinv
  obtain ⟨hk, hg⟩ := hinv
  refine za ?_
  refine dq (zS rfl rfl) ?_
  refine dn ?_
  refine zj ?_
  refine zi rfl (fun h1 => ?_) (fun h2 => ?_)
  ·try simp at h1
   obtain ⟨x, hx⟩ : ∃ x, l[k]? = some x := ⟨_, List.getElem?_eq_getElem h1⟩
   have hdx := zU hx
   have hg0 : (E.map (·.p)).map (·.1) = l.take k := by rw [hg, zoP]
   refine zm ?_
   refine zh ?_
   refine zj ?_
   refine zq ?_
   refine za ?_
   refine dq (zW zdl zal rfl rfl rfl (by first | assumption | simp_all)) ?_
   refine dq (zH zal rfl rfl rfl rfl) ?_
   refine de rfl (zZ zal rfl fun b15 => ?_)
   refine de0 (zah zal rfl rfl rfl rfl rfl ?_)
   refine dn ?_
   refine zM (Ghost.fc0 15 rfl) ?_
   refine zbM (fun M => ∃ i : Nat, M[i]? = some (.cells b22 [.vptr (zn (zaM m)) 0, .raw v, zbe o, (.fn (.func fid) [] caps)])) [4] mixed ?_
   refine ahp 0 rfl rfl (by kernel_rfl) (by kernel_rfl) (zf rfl) ?_
   refine ahp 1 rfl rfl (by kernel_rfl) (by kernel_rfl) (zf rfl) ?_
   refine ahp 2 rfl rfl (by kernel_rfl) (by kernel_rfl) ((by first | exact zx rfl | exact zo rfl)) ?_
   refine ahp 3 rfl rfl (by kernel_rfl) (by kernel_rfl) (ze zcn rfl zbH (by decide) rfl) ?_
   refine ahl 4 rfl rfl (by kernel_rfl) (by kernel_rfl) (by simp) ⟨0, rfl⟩ (fun M hM => by obtain ⟨i, hi⟩ := hM; exact zL (i := i) zbH rfl hi (.inl ⟨rfl, rfl⟩) ⟨rfl, rfl⟩) ?_
   refine ahp 5 rfl rfl (by kernel_rfl) (by kernel_rfl) (zH zal rfl rfl rfl rfl) ?_
   refine ahp 6 rfl rfl (by kernel_rfl) (by kernel_rfl) (zH zal rfl rfl rfl rfl) ?_
   refine ahp 7 rfl rfl (by kernel_rfl) (by kernel_rfl) (zp ca87 rfl (WeakL.refl _) (zfS (x := x) (hG x (List.mem_of_getElem? hx)))) ?_
   refine zgZ 8 9 rfl rfl (by kernel_rfl) ?_ ?_
   ·skip
    refine zv rfl (zbo fun m37 => ?_)
    refine ⟨fun _ => by first | exact .inl ⟨0, rfl⟩ | exact .inl ⟨1, rfl⟩ | exact .inl ⟨2, rfl⟩ | exact .inr (by simp [zaN, Region.binds]), ?_⟩
    refine ahe 9 rfl (by kernel_rfl) ?_
    refine zv rfl (zbo fun m38 => ?_)
    refine ⟨fun _ => by first | exact .inl ⟨0, rfl⟩ | exact .inl ⟨1, rfl⟩ | exact .inl ⟨2, rfl⟩ | exact .inr (by simp [zaN, Region.binds]), ?_⟩
    refine ahp 10 rfl rfl (by kernel_rfl) (by kernel_rfl) (zaA (cs := [_, _, _, _, _, _, _, _, _, _]) zbm zrX rfl) ?_
    refine ahe 11 rfl (by kernel_rfl) ?_
    refine zv rfl (zjn rfl rfl fun b40 => ?_)
    refine ⟨fun _ => .inl ⟨3, rfl⟩, ?_⟩
    refine ahp 12 rfl rfl (by kernel_rfl) (by kernel_rfl) (zG (hs := [_]) zbH zc3 rfl rfl (by decide) (by decide) rfl) ?_
    refine ahe 13 rfl (by kernel_rfl) ?_
    refine zv rfl (zay (i := 4) (v := v) (es := E.map pD) zbH zc3 rfl rfl rfl rfl rfl (by simp [za5, zn]) (by have := zh9 hg0; rw [List.length_take] at this; simp; omega) fun v42 => ?_)
    refine ⟨fun _ => .inl ⟨3, rfl⟩, ?_⟩
    refine ahp 14 rfl rfl (by kernel_rfl) (by kernel_rfl) ((by first | exact zx rfl | exact zo rfl)) ?_
    refine ahp 15 rfl rfl (by kernel_rfl) (by kernel_rfl) (ze zcn rfl zbH (by decide) rfl) ?_
    refine ahe 16 rfl (by kernel_rfl) ?_
    refine zaa (zA (i := 3) zbH rfl rfl rfl rfl rfl (by simp) ?_)
    refine ⟨fun _ => .inr (by simp [zaN, Region.binds]), ?_⟩
    refine ahz (by kernel_rfl) ?_
    refine zy ?_
    refine zh ?_
    refine zD ?_
    refine dq (zB rfl rfl (by omega) (by omega)) ?_
    refine dmv rfl ?_
    refine dn ?_
    exact ⟨k + 1, v42, E ++ [⟨(x, zg4), b40, m37, m38⟩], ⟨by omega, by rw [List.map_append, hg, zaF hx]; simp [ini]⟩, by dsimp only; omega, ⟨rfl, trivial⟩, (by repeat (first | exact zt | refine zw rfl ?_ | refine zu rfl rfl ?_)), (zmb (d := ⟨(x, zg4), b40, m37, m38⟩)).trans (zQ (by dsimp only; rw [List.map_append]; rfl))⟩
   ·skip
    refine zv rfl (zbo fun m38 => ?_)
    refine ⟨fun _ => by first | exact .inl ⟨0, rfl⟩ | exact .inl ⟨1, rfl⟩ | exact .inl ⟨2, rfl⟩ | exact .inr (by simp [zaN, Region.binds]), ?_⟩
    refine ahe 8 rfl (by kernel_rfl) ?_
    refine zv rfl (zbo fun m37 => ?_)
    refine ⟨fun _ => by first | exact .inl ⟨0, rfl⟩ | exact .inl ⟨1, rfl⟩ | exact .inl ⟨2, rfl⟩ | exact .inr (by simp [zaN, Region.binds]), ?_⟩
    refine ahp 10 rfl rfl (by kernel_rfl) (by kernel_rfl) (zaA (cs := [_, _, _, _, _, _, _, _, _, _]) zbm zrX rfl) ?_
    refine ahe 11 rfl (by kernel_rfl) ?_
    refine zv rfl (zjn rfl rfl fun b40 => ?_)
    refine ⟨fun _ => .inl ⟨3, rfl⟩, ?_⟩
    refine ahp 12 rfl rfl (by kernel_rfl) (by kernel_rfl) (zG (hs := [_]) zbH zc3 rfl rfl (by decide) (by decide) rfl) ?_
    refine ahe 13 rfl (by kernel_rfl) ?_
    refine zv rfl (zay (i := 4) (v := v) (es := E.map pD) zbH zc3 rfl rfl rfl rfl rfl (by simp [za5, zn]) (by have := zh9 hg0; rw [List.length_take] at this; simp; omega) fun v42 => ?_)
    refine ⟨fun _ => .inl ⟨3, rfl⟩, ?_⟩
    refine ahp 14 rfl rfl (by kernel_rfl) (by kernel_rfl) ((by first | exact zx rfl | exact zo rfl)) ?_
    refine ahp 15 rfl rfl (by kernel_rfl) (by kernel_rfl) (ze zcn rfl zbH (by decide) rfl) ?_
    refine ahe 16 rfl (by kernel_rfl) ?_
    refine zaa (zA (i := 3) zbH rfl rfl rfl rfl rfl (by simp) ?_)
    refine ⟨fun _ => .inr (by simp [zaN, Region.binds]), ?_⟩
    refine ahz (by kernel_rfl) ?_
    refine zy ?_
    refine zh ?_
    refine zD ?_
    refine dq (zB rfl rfl (by omega) (by omega)) ?_
    refine dmv rfl ?_
    refine dn ?_
    exact ⟨k + 1, v42, E ++ [⟨(x, zg4), b40, m37, m38⟩], ⟨by omega, by rw [List.map_append, hg, zaF hx]; simp [ini]⟩, by dsimp only; omega, ⟨rfl, trivial⟩, (by repeat (first | exact zt | refine zw rfl ?_ | refine zu rfl rfl ?_)), (zpX (d := ⟨(x, zg4), b40, m37, m38⟩)).trans (zQ (by dsimp only; rw [List.map_append]; rfl))⟩
  ·try simp at h2
   have hnk : l.length ≤ k := by omega
   obtain rfl : k = l.length := by omega
   rw [List.take_length] at hg
   have hE1 := hg
   refine zX ?_
   refine z8 ?_
   refine zgo ?_
   refine zO ?_
   refine zh ?_
   refine zj ?_
   refine zM (Ghost.fcell (i := 1) (k := 0) (j := 1) rfl rfl rfl) ?_
   refine zM (Ghost.of_eq (M' := (FL b22 m o (.fn (.func fid) [] caps) E ++ S st)) rfl) ?_
   have hEf : (E.map (·.p)).map (·.1) = l := by rw [hE1, zoP]
   have hEl := zh9 hEf
   refine za ?_
   refine dmv rfl ?_
   refine dmv rfl ?_
   refine de rfl (EOp.mono ?_ (zcB ca88 rfl (WeakL.refl _) (ziv (t := -1) (a := a) (by omega) ha (zuh hE1) hwt)))
   rintro _ _ ⟨rfl, rfl⟩
   refine das rfl ?_
   refine dn ?_
   simp only [hE1]
   obtain ⟨hst1, hst2⟩ := zrl (o := o) (u := u) hf ha0 hsa hu.1
   refine zq ?_
   refine zgR [3, 16, 49, 50, 51, 52, 53, 54, 55, 56, 57, 58, 59, 60, 61, 62, 63, 64, 65, 66, 67, 68, 69, 70, 71, 72, 73, 74, 75, 76, 77, 78, 79, 80, 81, 82, 83] (fun (p : Int) (j : Nat) (E1 : List DV) (s1 : σ) => [(16, .int .i64 p), (3, zb5 (a.drop j))]) (fun (p : Int) (j : Nat) (E1 : List DV) (s1 : σ) => (FL b22 m (zaB m o l a p.toNat).o (.fn (.func fid) [] caps) E1 ++ S s1)) (fun (p : Int) (j : Nat) (E1 : List DV) (s1 : σ) => FI m o l a u p j (E1.map (·.p)) ∧ j ≤ a.length ∧ I (lg ++ (zaB m o l a p.toNat).log.map (·.2)) s1) (fun (p : Int) (j : Nat) (E1 : List DV) (s1 : σ) => (345686400000 - p).toNat) (zct m (-1) a (ini l)) (0) (E) (st) ?_ ?_ ?_ ?_
   ·exact ⟨by rw [hE1]; exact hst1, Nat.zero_le _, by rw [hst2]; simpa [zm8] using hI⟩
   ·exact ⟨rfl, rfl, trivial⟩
   ·exact zQ (by rw [hst2]; rfl)
   ·intro p j E1 s1 hinv
    obtain ⟨hfi, hjl, hI1⟩ := hinv
    have hE1f : (E1.map (·.p)).map (·.1) = l := by rw [hfi.ds, zeM]
    have hE1l := zh9 hE1f
    refine zj ?_
    refine za ?_
    refine dmv rfl ?_
    refine dmv rfl ?_
    refine dq (zcT rfl rfl) ?_
    refine dmv rfl ?_
    refine dg rfl rfl (fun hc => ⟨_, OpenTo.refl _, zf rfl⟩) ?_
    refine dg rfl rfl (fun hc => ⟨_, OpenTo.upd (t := 53) rfl (by first | exact hc | simp_all) (OpenTo.refl _), zS rfl rfl⟩) ?_
    refine dq (zz rfl (.inr ⟨_, rfl, fun h => by simp_all⟩) (.inl rfl)) ?_
    refine dn ?_
    refine zi rfl (fun h3 => ?_) (fun h4 => ?_)
    ·try simp at h3
     obtain ⟨hpu, hp2⟩ := h3
     refine zm ?_
     refine zh ?_
     refine zj ?_
     refine zq ?_
     refine za ?_
     refine dmv rfl ?_
     refine dmv rfl ?_
     refine de rfl (EOp.mono ?_ (zcB ca89 rfl (WeakL.refl _) (ziM (t := p) (by omega))))
     rintro _ _ ⟨rfl, rfl⟩
     refine dn ?_
     refine zj ?_
     refine zq ?_
     refine za9 [3, 63, 64, 65, 66, 67, 68, 69, 70, 71, 72, 73, 74, 75, 76, 77, 78, 79, 80] (fun (i : Nat) (E3 : List DV) => [(3, zb5 (a.drop i))]) (fun (i : Nat) (E3 : List DV) => (FL b22 m (zaB m o l a p.toNat).o (.fn (.func fid) [] caps) E3 ++ S s1)) (fun (i : Nat) (E3 : List DV) => AI m a p ((E1.map (zfM p)).map (·.p)) i (E3.map (·.p)) ∧ i ≤ a.length) (fun (i : Nat) (E3 : List DV) => a.length - i) (j) ((E1.map (zfM p))) ?_ ?_ ?_ ?_
     ·exact ⟨AI.start hfi.bef hfi.aft, hjl⟩
     ·exact ⟨rfl, trivial⟩
     ·exact zQ rfl
     ·intro i E3 hinv
      obtain ⟨hai, hil⟩ := hinv
      have hE3 : (E3.map (·.p)).map (·.1) = l := by rw [hai.fst, znE, zlH]; exact hE1f
      have hE3l := zh9 hE3
      refine zj ?_
      refine za ?_
      refine dmv rfl ?_
      refine dq (zI zcb rfl) ?_
      refine dq (zad rfl rfl) ?_
      refine dmv rfl ?_
      refine dg rfl rfl (fun hc => ⟨_, OpenTo.refl _, zf rfl⟩) ?_
      refine dg rfl rfl (fun hc => by have hq := hc; (try simp at hq); exact ⟨_, OpenTo.upd (t := 67) rfl (by first | exact hc | simp_all) (OpenTo.refl _), zW (j := 0) (a := (a.drop i).getD 0 zbD) zcb z6 rfl rfl rfl (getD_some (by rw [List.length_drop]; omega))⟩) ?_
      refine dg rfl rfl (fun hc => ⟨_, OpenTo.upd (t := 68) rfl (by first | exact hc | simp_all) (OpenTo.refl _), (by first | exact zb z6 rfl ty3 (by decide) rfl | exact ze z6 rfl ty3 (by decide) rfl)⟩) ?_
      refine dg rfl rfl (fun hc => ⟨_, OpenTo.upd (t := 69) rfl (by first | exact hc | simp_all) (OpenTo.refl _), zg ty3 rfl rfl rfl⟩) ?_
      refine dg rfl rfl (fun hc => ⟨_, OpenTo.refl _, zf rfl⟩) ?_
      refine dg rfl rfl (fun hc => ⟨_, OpenTo.upd (t := 71) rfl (by first | exact hc | simp_all) (OpenTo.upd (t := 70) rfl (by first | exact hc | simp_all) (OpenTo.refl _)), zas rfl rfl⟩) ?_
      refine dq (zz rfl (.inr ⟨_, rfl, fun h => by simp_all⟩) (.inl rfl)) ?_
      refine dn ?_
      refine zi rfl (fun h5 => ?_) (fun h6 => ?_)
      ·try simp at h5
       have hil2 : i < a.length := by have q := h5.1; omega
       obtain ⟨x, hx⟩ : ∃ x, a[i]? = some x := ⟨_, List.getElem?_eq_getElem hil2⟩
       have hxp : x.At = p := by have q := h5.2; have q2 := zml hx; rw [← q2]; simpa using q
       refine zm ?_
       refine zh ?_
       refine zq ?_
       refine za ?_
       refine dmv rfl ?_
       refine dmv rfl ?_
       refine dq (zW (j := 0) (a := x) zcb z6 rfl rfl rfl (by rw [List.getElem?_drop]; exact hx)) ?_
       refine dq (zH z6 rfl rfl rfl rfl) ?_
       refine de rfl (EOp.mono ?_ (zcB ca90 rfl (WeakL.refl _) (zrI (by omega) (fun d hd => hG _ (zsg hE3 d hd)))))
       rintro _ _ ⟨E4, rfl, rfl, hE4⟩
       refine dn ?_
       refine zD ?_
       refine dmv rfl ?_
       refine dq (ze4 (zef (l := 1) (h := (a.drop i).length) zcb z6 rfl ⟨_, _, rfl, rfl⟩ rfl (by rw [List.length_drop]; omega) (Nat.le_refl _)) (show _ = zb5 (a.drop (i + 1)) by rw [List.take_length, List.drop_drop])) ?_
       refine das rfl ?_
       refine dn ?_
       refine zy ?_
       exact ⟨i + 1, E4, ⟨by rw [hE4]; exact hai.step hx hxp, by omega⟩, by dsimp only; omega, ⟨rfl, trivial⟩, (by repeat (first | exact zt | refine zw rfl ?_ | refine zu rfl rfl ?_)), zQ rfl⟩
      ·try simp at h6
       have hxn : ∀ x, a[i]? = some x → x.At ≠ p := fun x hx q => by
        have h1 := zK hx
        have q2 := zml hx
        have h2 := h6 (by omega)
        apply h2
        rw [← q, ← q2]; simp
       obtain ⟨hfin, haft⟩ := hai.fin hsa hxn
       obtain ⟨_, hrl, hrs⟩ : True ∧ (zaB m o l a p.toNat).o.length ≤ 1000000 ∧ SortedS ((zaB m o l a p.toNat).o.map (·.Player)) := ⟨trivial, by rw [zgv]; exact ho, by rw [zfw]; exact hs⟩
       have hr0 : E3 ≠ [] → 0 < (zaB m o l a p.toNat).o.length := fun q => by rw [zgv]; refine h0o (fun q2 => q ?_); rw [q2] at hE3l; exact List.length_eq_zero_iff.1 hE3l
       have hmid := zuq (E := E3) (o := o) (a := a) hf hfi.lo hfi.hi ztn (by rw [← hfin, znE, hfi.ds])
       refine zX ?_
       refine z8 ?_
       refine zbj ?_
       refine zO ?_
       refine zh ?_
       refine zD ?_
       refine dmv rfl ?_
       refine dmv rfl ?_
       refine de rfl (EOp.mono ?_ (zcB ca91 rfl (WeakL.refl _) (ziH (t := p) hca hdone hI1 ht hr0 hrl hrs (by omega) (fun d hd => hG _ (zsg hE3 d hd)) hmid hwt (by have := zsA m o l a p.toNat; simp; omega))))
       rintro _ _ ⟨E5, s2, rfl, rfl, hE5, hI2⟩
       refine dn ?_
       refine zy ?_
       refine zh ?_
       have hr := zrz (o := o) (l := l) (a := a) hfi.lo (znE.trans (congrArg (List.map (zcM p)) hfi.ds)) hfin
       refine zM (Ghost.of_eq (M' := (FL b22 m (zaB m o l a (p.toNat + 1)).o (.fn (.func fid) [] caps) E5 ++ S s2)) (by rw [hr])) ?_
       have hE6 : E5.map (·.p) = (zaB m o l a (p.toNat + 1)).ds := by rw [hE5, hr]
       have hE5f : (E5.map (·.p)).map (·.1) = l := by rw [hE6, zeM]
       have hE5l := zh9 hE5f
       have hI3 : I (lg ++ (zaB m o l a (p.toNat + 1)).log.map (·.2)) s2 := by rw [hr]; simpa using hI2
       refine zD ?_
       refine dmv rfl ?_
       refine dmv rfl ?_
       refine dmv rfl ?_
       refine de rfl (EOp.mono ?_ (zcB ca88 rfl (WeakL.refl _) (ziv (t := p) (a := a.drop i) (by omega) (by rw [List.length_drop]; omega) (ztF hf (by omega) hE6) hwt)))
       rintro _ _ ⟨rfl, rfl⟩
       refine das rfl ?_
       refine dn ?_
       obtain ⟨q1, q2⟩ := zs2 hf hsa hfi.lo hp2 hpu hai.bef haft hE6
       have q3 := (zj3 (m := m) (t := p) (a := a.drop i) (ps := E5.map (·.p)) hp2)
       exact ⟨zct m p (a.drop i) (E5.map (·.p)), i, E5, s2, ⟨q1, hil, by rw [q2]; exact hI3⟩, by dsimp only; omega, ⟨rfl, rfl, trivial⟩, (by repeat (first | exact zt | refine zw rfl ?_ | refine zu rfl rfl ?_)), zQ (by dsimp only; rw [q2])⟩
    ·try simp at h4
     have hpu : u < p := by omega
     have hfin := hfi.fin hpu
     refine zX ?_
     refine z8 ?_
     refine zib ?_
     refine zO ?_
     refine zh ?_
     refine za ?_
     refine dmv rfl ?_
     refine das rfl ?_
     refine dn ?_
     refine zl ?_
     exact za2 rfl ⟨b22, E1, s1, rfl, by rw [← hfin], by rw [← hfin]; exact hfi.ds, by rw [← hfin]; exact hI1⟩
end
end Go.Proofs.YtpcaaekefgkhjaaGreatDoor
section
namespace Go.HL
structure StageS where
 Offer : Str
 How : Int
 Since : Int
abbrev zcX (x : StageS) : HVal := .agg [.str x.Offer, .int .i64 x.How, .int .i64 x.Since]
abbrev zlN (l : List StageS) : HVal := .slice 3 (l.map zcX)
def ze5 (p : DD) : List StageS := if p.2.how = 0 then [] else [⟨p.1.Id, p.2.how, p.2.since⟩]
def zbW (ds : List DD) : List StageS := ds.flatMap ze5
theorem zmE {β : Type} {f : DD → List β} {E : List DV} {k : Nat} {d : DV} (h : E[k]? = some d) : ((E.take (k + 1)).map (·.p)).flatMap f = ((E.take k).map (·.p)).flatMap f ++ f d.p := by
 rw [zaF h, List.map_append, List.flatMap_append]; simp
theorem zkr {β : Type} {f : DD → List β} (hf : ∀ p, (f p).length ≤ 1) : ∀ ds : List DD, (ds.flatMap f).length ≤ ds.length
 | [] => by simp
 | p :: r => by
   have := zkr hf r
   have := hf p
   rw [List.flatMap_cons, List.length_append, List.length_cons]; omega
theorem zog (p : DD) : (ze5 p).length ≤ 1 := by unfold ze5; split <;> simp
section
variable (m : MarketS) (o : List OwnerS) (l : List DealS) (a : List ReplyS) (u : Int) (s : Str)
abbrev zcJ : FS := zaB m o l a (u + 1).toNat
def zev : Int := if zcQ m o l a = 0 ∧ zba u = false then 1 else zcQ m o l a
def zj4 : List StageS := if zev m o l a u ≠ 0 then [] else zbW (zcJ m o l a u).ds
def zkl : List OwnerS := if zev m o l a u ≠ 0 then [] else (zcJ m o l a u).o
end
/-! what no fault gives -/
structure TOk (m : MarketS) (o : List OwnerS) (l : List DealS) (a : List ReplyS) : Prop where
 mok : zag m = 0
 hs : SortedS (o.map (·.Player))
 hl : l.length ≤ 500
 hG : ∀ x ∈ l, x.Gives.length ≤ 1000
 hf : FOk m l
 hsa : zlY a
 ha : a.length ≤ 2000
 ha0 : ∀ r ∈ a, 0 ≤ r.At
 hwt : 0 ≤ m.Wait ∧ m.Wait ≤ 864000000
theorem ztp {l : List Str} {x y : Str} (hx : x ∈ l) (hy : y ∈ l) (h : x ≠ y) : 2 ≤ l.length := by
 match l, hx, hy with
 | [], hx, _ => cases hx
 | [z], hx, hy => simp at hx hy; exact absurd (hx.trans hy.symm) h
 | _ :: _ :: r, _, _ => simp
theorem zrj {m : MarketS} {l : List GiveS} (h : zaI m l = 0) : 2 ≤ (zbp l).length := by
 obtain ⟨h1, _, h3, _⟩ := zfC h
 match l, h1, h3 with
 | [], h1, _ => simp at h1
 | g :: r, _, h3 =>
   have hg := h3 g (by simp)
   unfold zaw at hg
   split at hg
   ·cases hg
   split at hg
   ·cases hg
   split at hg
   ·cases hg
   rename_i hne
   exact ztp (x := g.From) (y := g.To) (zmq.2 (by simp [zcH])) (zmq.2 (by simp [zcH])) hne
theorem zrA {x y : ReplyS} (h : zb3 x y < 0) : x.At ≤ y.At := by
 unfold zb3 at h
 rw [zkd] at h
 by_cases hc : zdo x.At y.At = 0
 ·unfold zdo at hc
  split at hc
  ·cases hc
  split at hc
  ·cases hc
  ·omega
 ·rw [if_pos hc] at h
  unfold zdo at h
  split at h
  ·omega
  split at h
  ·omega
  ·omega
theorem zfv {m : MarketS} {o : List OwnerS} {l : List DealS} {a : List ReplyS} (h : zcQ m o l a = 0) : TOk m o l a := by
 obtain ⟨h1, h2, h3⟩ := orI3 h
 obtain ⟨hm, h4⟩ := zlm h1
 obtain ⟨_, h5⟩ := zl5 h2
 obtain ⟨_, h6⟩ := zrN h3
 obtain ⟨_, _, o3, _⟩ := zk4 h4
 obtain ⟨d1, d2, _⟩ := zmg h5
 obtain ⟨r1, r2, r3⟩ := zrB h6
 have hq : 1 ≤ m.Vetoes ∧ 0 ≤ m.Wait ∧ m.Wait ≤ 864000000 := by
  have hm' := hm
  unfold zag at hm'
  split at hm'
  ·cases hm'
  split at hm'
  ·cases hm'
  split at hm'
  ·rename_i h3; exact absurd hm' h3
  split at hm'
  ·cases hm'
  rename_i h4
  simp only [Bool.or_eq_true, not_or, Bool.not_eq_true] at h4
  have e1 := zdH h4.1.1.1.1
  have e2 := zdH h4.1.1.1.2
  omega
 refine ⟨hm, zpt o3, d1, fun x hx => ?_, ⟨hq.1, fun x hx => zrj (zks (d2 x hx))⟩, r3.imp fun h => zrA h, r1, fun r hr => ?_, hq.2⟩
 ·have := (zfC (zks (d2 x hx))).2.1; omega
 ·have := r2 r hr
  unfold zam at this
  split at this
  ·cases this
  split at this
  ·cases this
  split at this
  ·cases this
  rename_i hmo
  have : zba r.At = true := by simpa using hmo
  unfold zba at this
  have := zdH (n := r.At) (lo := 0) (hi := 345686399999) (by simpa using this)
  omega
theorem zmf {u : Int} (h : zba u = true) : 0 ≤ u ∧ u < 345686400000 := by
 unfold zba at h
 have := zdH (n := u) (lo := 0) (hi := 345686399999) (by simpa using h)
 omega
theorem zoY {m : MarketS} {o : List OwnerS} {l : List DealS} {a : List ReplyS} {u : Int} (h : zev m o l a u = 0) : zcQ m o l a = 0 ∧ zba u = true := by
 unfold zev at h
 split at h
 ·cases h
 ·rename_i hn
  refine ⟨h, ?_⟩
  cases hm : zba u with
  | true => rfl
  | false => exact absurd ⟨h, hm⟩ hn
/-! the floor with one more object -/
theorem zsE {bf : Nat} {m : MarketS} {o : List OwnerS} {fn : HVal} {E : List DV} {x : MObj} : (FL bf m o fn E ++ [x])[(flD E).length + 1]? = some x := by
 show (flD E ++ [x])[(flD E).length]? = some x
 rw [List.getElem?_append_right (Nat.le_refl _)]; simp
theorem zoV {bf : Nat} {m : MarketS} {o : List OwnerS} {fn : HVal} {E : List DV} {x y : MObj} : (FL bf m o fn E ++ [x]).set ((flD E).length + 1) y = FL bf m o fn E ++ [y] := by
 show _ :: (flD E ++ [x]).set (flD E).length y = _ :: (flD E ++ [y])
 rw [List.set_append_right _ _ (Nat.le_refl _)]; simp
theorem Ghost.fal [Tracks] {e : Env} {X : List MObj} {v : Value} {sz : Nat} {es : List HVal} (t : Nat) (ht : e t = some (.raw v)) : Ghost e (X ++ [.arr v sz es]) (upd e t (.slice sz es)) [] :=
 (Ghost.perm (List.perm_append_comm (l₁ := X) (l₂ := [.arr v sz es]))).trans ((Ghost.fa0 t ht).trans Ghost.clear)
/-! where a player has been -/
end Go.HL
namespace Go.HL
end Go.HL
end
namespace Go.HL
section
variable {P : Program}
end
end Go.HL
namespace Go.Proofs.YtpcaaekefgkhjaaGreatDoor
set_option maxRecDepth 100000
set_option linter.unusedVariables false
set_option linter.unusedSimpArgs false
section
open Go.HL
/-- benchwarmer/trade.at$1 -/
theorem ztC [Tracks] {x : List OwnerS}  : Con Tryz.prog 80 [zbe x] [] (fun r M' => r = .tup [] ∧ M' = []) := by
 refine Con.of_body Tryz.func80 rfl Tryz.ntmps80 rfl rfl ?_
 refine zm ?_
 exact zak rfl ⟨rfl, rfl⟩

/-- benchwarmer/trade.at -/
theorem zk6 [Tracks] {m : MarketS} {o : List OwnerS} {l : List DealS} {a : List ReplyS} {u : Int}  (ht : m.Teams.length ≤ 1000000) (h0o : l ≠ [] → 0 < o.length) (ho : o.length ≤ 1000000) (hs : SortedS (o.map (·.Player))) (hl : l.length ≤ 1000) (hG : ∀ x ∈ l, x.Gives.length ≤ 1000) (hf : FOk m l) (hsa : zlY a) (ha : a.length ≤ 1000000) (ha0 : ∀ r ∈ a, 0 ≤ r.At) (hu : 0 ≤ u ∧ u < 345686400000) (hwt : 0 ≤ m.Wait ∧ m.Wait ≤ 864000000) : Con Tryz.prog 49 [.vptr (zn (zaM m)) 0, zbe o, zeB l, zb5 a, .int .i64 u] [] (fun x M' => ∃ b22 fn E', x = pAt b22 ∧ M' = FL b22 m (zcJ m o l a u).o fn E' ∧ E'.map (·.p) = (zcJ m o l a u).ds) := by
 refine Con.of_body Tryz.func49 rfl Tryz.ntmps49 rfl rfl ?_
 refine za ?_
 refine das rfl ?_
 refine dn ?_
 refine za ?_
 refine dmv rfl ?_
 refine dmv rfl ?_
 refine dmv rfl ?_
 refine dmv rfl ?_
 refine dmv rfl ?_
 refine de rfl (EOp.mono ?_ (zcB ca54 rfl (WeakL.refl _) (zrQ (S := fun _ : Unit => []) (I := fun _ _ => True) (st := ()) (lg := []) (u := u) (a := a) (l := l) (o := o) (m := m) ca80 (fun g s x _ _ _ => (ztC).mono fun r M' ⟨h1, h2⟩ => ⟨(), h1, h2, trivial⟩) trivial ht h0o ho hs hl hG hf hsa ha ha0 hu hwt (by simp))))
 rintro _ _ ⟨b22, E', s', rfl, rfl, hE, _⟩
 refine das rfl ?_
 refine dn ?_
 refine zl ?_
 exact za2 rfl ⟨b22, _, E', rfl, by rw [List.append_nil], hE⟩

/-- benchwarmer/trade.fault -/
theorem zmJ [Tracks] {m : MarketS} {o : List OwnerS} {l : List DealS} {a : List ReplyS}  (ht : m.Teams.length ≤ 1000000) (ho : o.length ≤ 1000000) (hl : l.length ≤ 1000000) (hx0 : ∀ x ∈ l, x.Gives.length ≤ 1000000) (ha : a.length ≤ 1000000) : ConP Tryz.prog 50 [zaM m, zbe o, zeB l, zb5 a] (.int .i64 (zcQ m o l a)) := by
 refine Con.of_body Tryz.func50 rfl Tryz.ntmps50 rfl rfl ?_
 refine za ?_
 refine dq (zat rfl rfl) ?_
 refine das rfl ?_
 refine dn ?_
 refine zaH (fun _ => True) [] mixed ?_
 refine ahp 0 rfl rfl (by kernel_rfl) (by kernel_rfl) (zH zV rfl rfl rfl rfl) ?_
 refine ahp 1 rfl rfl (by kernel_rfl) (by kernel_rfl) (zf rfl) ?_
 refine ahp 2 rfl rfl (by kernel_rfl) (by kernel_rfl) (zp ca31 rfl (WeakL.refl _) (zff (m := m) (o := o) ht ho)) ?_
 refine ahp 3 rfl rfl (by kernel_rfl) (by kernel_rfl) (zH zV rfl rfl rfl rfl) ?_
 refine ahp 4 rfl rfl (by kernel_rfl) (by kernel_rfl) (zf rfl) ?_
 refine ahp 5 rfl rfl (by kernel_rfl) (by kernel_rfl) (zp ca82 rfl (WeakL.refl _) (zim (m := m) (l := l) ht hl hx0)) ?_
 refine ahp 6 rfl rfl (by kernel_rfl) (by kernel_rfl) (zH zV rfl rfl rfl rfl) ?_
 refine ahp 7 rfl rfl (by kernel_rfl) (by kernel_rfl) (zf rfl) ?_
 refine ahp 8 rfl rfl (by kernel_rfl) (by kernel_rfl) (zp ca83 rfl (WeakL.refl _) (zhW (m := m) (l := a) ht ha)) ?_
 refine ahp 9 rfl rfl (by kernel_rfl) (by kernel_rfl) (zG (hs := [_, _, _]) zgP zi0 rfl rfl (by decide) (by decide) rfl) ?_
 refine ahp 10 rfl rfl (by kernel_rfl) (by kernel_rfl) (zp zqZ rfl (WeakL.refl _) (zgD (l := [_, _, _]) (by simp))) ?_
 refine ahp 11 rfl rfl (by kernel_rfl) (by kernel_rfl) (zau rfl) ?_
 refine ahz (by kernel_rfl) ?_
 refine zl ?_
 refine zC rfl ?_
 rfl

/-- benchwarmer/trade.momentFault -/
theorem zfe [Tracks] {m : MarketS} {o : List OwnerS} {l : List DealS} {a : List ReplyS} {u : Int}  (ht : m.Teams.length ≤ 1000000) (ho : o.length ≤ 1000000) (hl : l.length ≤ 1000000) (hx0 : ∀ x ∈ l, x.Gives.length ≤ 1000000) (ha : a.length ≤ 1000000) : ConP Tryz.prog 48 [zaM m, zbe o, zeB l, zb5 a, .int .i64 u] (.int .i64 (zev m o l a u)) := by
 refine Con.of_body Tryz.func48 rfl Tryz.ntmps48 rfl rfl ?_
 refine za ?_
 refine dq (zat rfl rfl) ?_
 refine das rfl ?_
 refine dn ?_
 refine za ?_
 refine dq (zH zV rfl rfl rfl rfl) ?_
 refine dmv rfl ?_
 refine dmv rfl ?_
 refine dmv rfl ?_
 refine dq (zp ca50 rfl (WeakL.refl _) (zmJ ht ho hl hx0 ha)) ?_
 refine das rfl ?_
 refine dn ?_
 refine zj ?_
 refine za ?_
 refine dmv rfl ?_
 refine dq (zas rfl rfl) ?_
 refine dmv rfl ?_
 refine dg rfl rfl (fun hc => ⟨_, OpenTo.refl _, zf rfl⟩) ?_
 refine dg rfl rfl (fun hc => ⟨_, OpenTo.upd (t := 20) rfl (by first | exact hc | simp_all) (OpenTo.refl _), zp znf rfl (WeakL.refl _) zdO⟩) ?_
 refine dg rfl rfl (fun hc => ⟨_, OpenTo.upd (t := 21) rfl (by first | exact hc | simp_all) (OpenTo.refl _), zac rfl⟩) ?_
 refine dq (zz rfl (.inr ⟨_, rfl, fun h => by simp_all⟩) (.inl rfl)) ?_
 refine dn ?_
 refine zi rfl (fun h1 => ?_) (fun h2 => ?_)
 ·try simp at h1
  refine zD ?_
  refine das rfl ?_
  refine dn ?_
  refine zh ?_
  refine za ?_
  refine dmv rfl ?_
  refine das rfl ?_
  refine dn ?_
  refine zl ?_
  refine zC rfl ?_
  show HVal.int .i64 _ = _
  unfold zev
  simp_all
 ·try simp at h2
  refine zm ?_
  refine zh ?_
  refine za ?_
  refine dmv rfl ?_
  refine das rfl ?_
  refine dn ?_
  refine zl ?_
  refine zC rfl ?_
  show HVal.int .i64 _ = _
  unfold zev
  simp_all

set_option maxHeartbeats 1000000 in
/-- benchwarmer/trade.Stages -/
theorem zhJ [Tracks] {m : MarketS} {o : List OwnerS} {l : List DealS} {a : List ReplyS} {u : Int}  (ht : m.Teams.length ≤ 1000000) (h0o : l ≠ [] → 0 < o.length) (ho : o.length ≤ 1000000) (hl : l.length ≤ 1000000) (hx0 : ∀ x ∈ l, x.Gives.length ≤ 1000000) (ha : a.length ≤ 1000000) : ConP Tryz.prog 13 [zaM m, zbe o, zeB l, zb5 a, .int .i64 u] (.tup [zlN (zj4 m o l a u), .int .i64 (zev m o l a u)]) := by
 refine Con.of_body Tryz.func13 rfl Tryz.ntmps13 rfl rfl ?_
 refine za ?_
 refine dq (zat rfl rfl) ?_
 refine das rfl ?_
 refine das rfl ?_
 refine dn ?_
 refine zj ?_
 refine za ?_
 refine dq (zH zV rfl rfl rfl rfl) ?_
 refine dmv rfl ?_
 refine dmv rfl ?_
 refine dmv rfl ?_
 refine dmv rfl ?_
 refine dq (zp ca48 rfl (WeakL.refl _) (zfe ht ho hl hx0 ha)) ?_
 refine das rfl ?_
 refine dn ?_
 refine za ?_
 refine dmv rfl ?_
 refine dq (zaK rfl rfl) ?_
 refine dn ?_
 refine zi rfl (fun h1 => ?_) (fun h2 => ?_)
 ·try simp at h1
  refine za ?_
  refine dmv rfl ?_
  refine das rfl ?_
  refine das rfl ?_
  refine dn ?_
  refine zl ?_
  first
  | exact zgU rfl (zcr (by rw [zj4, if_pos (by simpa using h1)]; exact zbV 3) (Weak.refl _))
  | (refine zb2 (Ghost.fal 10 rfl) rfl ⟨?_, rfl⟩
     have hz : zev m o l a u = 0 := by simpa using h2
     show HVal.tup _ = _
     rw [zj4, if_neg (by simp [hz]), hz]; rfl)
 ·try simp at h2
  refine zm ?_
  refine zh ?_
  obtain ⟨htz, hmo⟩ := zoY (m := m) (o := o) (l := l) (a := a) (u := u) (by simpa using h2)
  have tk := zfv htz
  have hub := zmf hmo
  refine za ?_
  refine das rfl ?_
  refine dn ?_
  refine zM (Ghost.arr_nil 3) ?_
  refine zj ?_
  refine za ?_
  refine dmv rfl ?_
  refine dmv rfl ?_
  refine dmv rfl ?_
  refine dmv rfl ?_
  refine de rfl (zbi (M1 := []) (R := [.arr (.slice none 0 0) 3 []]) ca49 rfl (WeakL.refl _) (List.Perm.refl _) (zk6 ht h0o ho tk.hs (by have := tk.hl; omega) tk.hG tk.hf tk.hsa ha tk.ha0 hub tk.hwt) ?_)
  rintro _ _ ⟨b29, fn, E, rfl, rfl, hE⟩
  refine dq ((by first | exact zx rfl | exact zo rfl)) ?_
  refine dq (ze zcn rfl zbH (by decide) rfl) ?_
  refine de rfl (zL (i := 0) zbH rfl rfl (.inl ⟨rfl, rfl⟩) ?_)
  refine dq (zI zbH rfl) ?_
  refine dmv rfl ?_
  refine dn ?_
  have hEl := zh9 (l := l) (E := E) (by rw [hE, zeM])
  have hl5 := tk.hl
  refine zq ?_
  refine za9 [13, 15, 34, 35, 36, 37, 38, 39, 40, 41, 42, 43, 44, 45, 46, 47, 48, 49, 50, 51, 52, 53, 54, 55, 56, 57, 58, 59, 60] (fun (k : Nat) (v : Value) => [(34, .int .i64 k), (13, .raw v)]) (fun (k : Nat) (v : Value) => (FL b29 m (zcJ m o l a u).o fn E ++ [.arr v 3 (((zbW ((E.take k).map (·.p)))).map zcX)])) (fun (k : Nat) (v : Value) => k ≤ E.length ∧ (True)) (fun (k : Nat) (v : Value) => E.length - k) (0) (.slice none 0 0) ?_ ?_ ?_ ?_
  ·exact ⟨Nat.zero_le _, trivial⟩
  ·exact ⟨rfl, rfl, trivial⟩
  ·exact zQ rfl
  ·intro k v hinv
   obtain ⟨hk, -⟩ := hinv
   refine za ?_
   refine dq (zS rfl rfl) ?_
   refine dn ?_
   refine zj ?_
   refine zi rfl (fun h3 => ?_) (fun h4 => ?_)
   ·try simp at h3
    obtain ⟨d, hd⟩ : ∃ d, E[k]? = some d := ⟨_, List.getElem?_eq_getElem h3⟩
    have hdd := zU hd
    refine zm ?_
    refine zh ?_
    refine zj ?_
    refine zq ?_
    refine za ?_
    refine dq (zW (j := k) (a := d) zbH zc3 rfl rfl rfl hd) ?_
    refine dq (zg zc3 rfl rfl rfl) ?_
    refine das rfl ?_
    refine dn ?_
    refine za ?_
    refine dmv rfl ?_
    refine dq ((by first | exact zx rfl | exact zo rfl)) ?_
    refine dq (ze zbm rfl ty3 (by decide) rfl) ?_
    refine de rfl (zL (i := 3 * k + 1) ty3 rfl (zbt hd) (.inl ⟨rfl, rfl⟩) ?_)
    refine dq (zaK rfl rfl) ?_
    refine dn ?_
    refine zi rfl (fun h5 => ?_) (fun h6 => ?_)
    ·try simp at h5
     refine zbM (fun M => ∃ z : MObj, M = (FL b29 m (zcJ m o l a u).o fn E ++ [z])) [5, 9, 13] mixed ?_
     refine ahp 0 rfl rfl (by kernel_rfl) (by kernel_rfl) (zf rfl) ?_
     refine ahp 1 rfl rfl (by kernel_rfl) (by kernel_rfl) (zf rfl) ?_
     refine ahp 2 rfl rfl (by kernel_rfl) (by kernel_rfl) ((by first | exact zx rfl | exact zo rfl)) ?_
     refine ahp 3 rfl rfl (by kernel_rfl) (by kernel_rfl) (ze zbm rfl zal (by decide) rfl) ?_
     refine ahp 4 rfl rfl (by kernel_rfl) (by kernel_rfl) (ze zal rfl ty9 (by decide) rfl) ?_
     refine ahl 5 rfl rfl (by kernel_rfl) (by kernel_rfl) (by simp) ⟨_, rfl⟩ (fun M hM => by obtain ⟨z, rfl⟩ := hM; exact zL (i := 3 * k + 1) ty9 rfl (zbt hd) (.inl ⟨rfl, rfl⟩) ⟨rfl, rfl⟩) ?_
     refine ahp 6 rfl rfl (by kernel_rfl) (by kernel_rfl) (zf rfl) ?_
     refine ahp 7 rfl rfl (by kernel_rfl) (by kernel_rfl) ((by first | exact zx rfl | exact zo rfl)) ?_
     refine ahp 8 rfl rfl (by kernel_rfl) (by kernel_rfl) (ze zbm rfl ty3 (by decide) rfl) ?_
     refine ahl 9 rfl rfl (by kernel_rfl) (by kernel_rfl) (by simp) ⟨_, rfl⟩ (fun M hM => by obtain ⟨z, rfl⟩ := hM; exact zL (i := 3 * k + 1) ty3 rfl (zbt hd) (.inl ⟨rfl, rfl⟩) ⟨rfl, rfl⟩) ?_
     refine ahp 10 rfl rfl (by kernel_rfl) (by kernel_rfl) (zf rfl) ?_
     refine ahp 11 rfl rfl (by kernel_rfl) (by kernel_rfl) ((by first | exact zx rfl | exact zo rfl)) ?_
     refine ahp 12 rfl rfl (by kernel_rfl) (by kernel_rfl) (ze zbm rfl ty3 (by decide) rfl) ?_
     refine ahl 13 rfl rfl (by kernel_rfl) (by kernel_rfl) (by simp) ⟨_, rfl⟩ (fun M hM => by obtain ⟨z, rfl⟩ := hM; exact zL (i := 3 * k + 1) ty3 rfl (zbt hd) (.inl ⟨rfl, rfl⟩) ⟨rfl, rfl⟩) ?_
     refine ahp 14 rfl rfl (by kernel_rfl) (by kernel_rfl) (zaA (cs := [_, _, _]) zeN pl59 rfl) ?_
     refine ahp 15 rfl rfl (by kernel_rfl) (by kernel_rfl) (zG (hs := [_]) zi3 zeN rfl rfl (by decide) (by decide) rfl) ?_
     refine ahe 16 rfl (by kernel_rfl) ?_
     refine zv rfl (zay (i := (flD E).length + 1) (v := v) zi3 zeN rfl rfl rfl rfl zsE (by simp [za5, zn]) (by have := zkr zog ((E.take k).map (·.p)); unfold zbW; simp only [List.length_map, List.length_cons, List.length_nil, List.length_take] at *; omega) fun v59 => ?_)
     refine ⟨fun _ => .inl ⟨_, zoV⟩, ?_⟩
     refine ahp 17 rfl rfl (by kernel_rfl) (by kernel_rfl) (zau rfl) ?_
     refine ahz (by kernel_rfl) ?_
     refine zy ?_
     refine zh ?_
     refine zD ?_
     refine dq (zB rfl rfl (by omega) (by omega)) ?_
     refine dmv rfl ?_
     refine dn ?_
     exact ⟨k + 1, v59, ⟨by omega, trivial⟩, by dsimp only; omega, ⟨rfl, rfl, trivial⟩, (by repeat (first | exact zt | refine zw rfl ?_ | refine zu rfl rfl ?_)), zQ (by dsimp only; rw [zoV]; unfold zbW; rw [zmE hd]; unfold ze5; rw [if_neg (by simpa using h5)]; simp)⟩
    ·try simp at h6
     refine zm ?_
     refine zy ?_
     refine zh ?_
     refine zD ?_
     refine dq (zB rfl rfl (by omega) (by omega)) ?_
     refine dmv rfl ?_
     refine dn ?_
     exact ⟨k + 1, v, ⟨by omega, trivial⟩, by dsimp only; omega, ⟨rfl, rfl, trivial⟩, (by repeat (first | exact zt | refine zw rfl ?_ | refine zu rfl rfl ?_)), zQ (by dsimp only; unfold zbW; rw [zmE hd]; unfold ze5; rw [if_pos (by simpa using h6)]; simp)⟩
   ·try simp at h4
    have hnk : E.length ≤ k := by omega
    obtain rfl : k = E.length := by omega
    rw [List.take_length, hE]
    refine zX ?_
    refine z8 ?_
    refine zbj ?_
    refine zO ?_
    refine zh ?_
    refine za ?_
    refine dmv rfl ?_
    refine das rfl ?_
    refine das rfl ?_
    refine dn ?_
    refine zl ?_
    first
    | exact zgU rfl (zcr (by rw [zj4, if_pos (by simpa using h1)]; exact zbV 3) (Weak.refl _))
    | (refine zb2 (Ghost.fal 10 rfl) rfl ⟨?_, rfl⟩
       have hz : zev m o l a u = 0 := by simpa using h2
       show HVal.tup _ = _
       rw [zj4, if_neg (by simp [hz]), hz]; rfl)

/-- benchwarmer/trade.Owners -/
theorem zlT [Tracks] {m : MarketS} {o : List OwnerS} {l : List DealS} {a : List ReplyS} {u : Int}  (ht : m.Teams.length ≤ 1000000) (h0o : l ≠ [] → 0 < o.length) (ho : o.length ≤ 1000000) (hl : l.length ≤ 1000000) (hx0 : ∀ x ∈ l, x.Gives.length ≤ 1000000) (ha : a.length ≤ 1000000) : ConP Tryz.prog 14 [zaM m, zbe o, zeB l, zb5 a, .int .i64 u] (.tup [zbe (zkl m o l a u), .int .i64 (zev m o l a u)]) := by
 refine Con.of_body Tryz.func14 rfl Tryz.ntmps14 rfl rfl ?_
 refine za ?_
 refine dq (zat rfl rfl) ?_
 refine das rfl ?_
 refine das rfl ?_
 refine dn ?_
 refine zj ?_
 refine za ?_
 refine dq (zH zV rfl rfl rfl rfl) ?_
 refine dmv rfl ?_
 refine dmv rfl ?_
 refine dmv rfl ?_
 refine dmv rfl ?_
 refine dq (zp ca48 rfl (WeakL.refl _) (zfe ht ho hl hx0 ha)) ?_
 refine das rfl ?_
 refine dn ?_
 refine za ?_
 refine dmv rfl ?_
 refine dq (zaK rfl rfl) ?_
 refine dn ?_
 refine zi rfl (fun h1 => ?_) (fun h2 => ?_)
 ·try simp at h1
  refine za ?_
  refine dmv rfl ?_
  refine das rfl ?_
  refine das rfl ?_
  refine dn ?_
  refine zl ?_
  first
  | exact zgU rfl (zcr (by rw [zkl, if_pos (by simpa using h1)]; exact zbV 2) (Weak.refl _))
  | (refine zb2 Ghost.clear rfl ⟨?_, rfl⟩
     have hz : zev m o l a u = 0 := by simpa using h2
     show HVal.tup _ = _
     rw [zkl, if_neg (by simp [hz]), hz]; rfl)
 ·try simp at h2
  refine zm ?_
  refine zh ?_
  obtain ⟨htz, hmo⟩ := zoY (m := m) (o := o) (l := l) (a := a) (u := u) (by simpa using h2)
  have tk := zfv htz
  have hub := zmf hmo
  refine za ?_
  refine dmv rfl ?_
  refine dmv rfl ?_
  refine dmv rfl ?_
  refine dmv rfl ?_
  refine de rfl (zbi (M1 := []) (R := []) ca49 rfl (WeakL.refl _) (List.Perm.refl _) (zk6 ht h0o ho tk.hs (by have := tk.hl; omega) tk.hG tk.hf tk.hsa ha tk.ha0 hub tk.hwt) ?_)
  rintro _ _ ⟨b26, fn, E, rfl, rfl, hE⟩
  refine dq ((by first | exact zx rfl | exact zo rfl)) ?_
  refine dq (ze zcn rfl zaR (by decide) rfl) ?_
  refine de rfl (zL (i := 0) zaR rfl rfl (.inl ⟨rfl, rfl⟩) ?_)
  refine das rfl ?_
  refine das rfl ?_
  refine dn ?_
  refine zl ?_
  first
  | exact zgU rfl (zcr (by rw [zkl, if_pos (by simpa using h1)]; exact zbV 2) (Weak.refl _))
  | (refine zb2 Ghost.clear rfl ⟨?_, rfl⟩
     have hz : zev m o l a u = 0 := by simpa using h2
     show HVal.tup _ = _
     rw [zkl, if_neg (by simp [hz]), hz]; rfl)

end
end Go.Proofs.YtpcaaekefgkhjaaGreatDoor
section
namespace Go.HL
/-! owners stay right -/
structure OwnOk (m : MarketS) (o : List OwnerS) : Prop where
 f : ∀ x ∈ o, zaU m x = 0
 fit : ze8 m o = true
theorem zs6 {m : MarketS} {p q : List OwnerS} {g : GiveS} (hg : zaw m g = 0) (hp : ∀ x ∈ p, zaU m x = 0) (h : zfu p g = some q) : ∀ x ∈ q, zaU m x = 0 := by
 unfold zfu at h
 split at h
 ·rename_i y hy
  split at h
  ·cases h
   intro x hx
   rcases List.mem_or_eq_of_mem_set hx with hx | hx
   ·exact hp x hx
   ·subst hx
    have h1 := hp y (List.mem_of_getElem? hy)
    unfold zaU at h1 ⊢
    dsimp only
    split at h1
    ·cases h1
    ·rename_i hk
     rw [if_neg hk]
     unfold zaw at hg
     split at hg
     ·cases hg
     split at hg
     ·cases hg
     rename_i ht
     simp only [Bool.or_eq_true, not_or] at ht
     rw [if_neg ht.2]
  ·cases h
 ·cases h
theorem zqf {m : MarketS} : ∀ (l : List GiveS) (p d : List OwnerS), (∀ g ∈ l, zaw m g = 0) → (∀ x ∈ p, zaU m x = 0) → zbX p l = some d → ∀ x ∈ d, zaU m x = 0
 | [], p, d, _, hp, h => by rw [zbX] at h; cases h; exact hp
 | g :: r, p, d, hg, hp, h => by
   rw [zbX] at h
   cases hs : zfu p g with
   | none => rw [hs] at h; cases h
   | some q => rw [hs] at h; exact zqf r q d (fun x hx => hg x (List.mem_cons_of_mem g hx)) (zs6 (hg g (by simp)) hp hs) h
theorem zsv {m : MarketS} {o : List OwnerS} {x : DealS} (hx : zaI m x.Gives = 0) (ho : OwnOk m o) (h : zfq m o x.Gives = true) : OwnOk m (zdE o x.Gives) := by
 unfold zfq at h
 cases hd : zbX o x.Gives with
 | none => rw [hd] at h; cases h
 | some d =>
   rw [hd] at h
   unfold zdE
   rw [hd]
   exact ⟨zqf _ _ _ (zfC hx).2.2.1 ho.f hd, h⟩
theorem zsH {m : MarketS} {t : Int} {o : List OwnerS} {p : DD} (hx : zaI m p.1.Gives = 0) (ho : OwnOk m o) : OwnOk m (zbg m t o p).1 := by
 unfold zbg
 split
 ·split
  ·exact ho
  split
  ·rename_i h; exact zsv hx ho h
  ·exact ho
 split <;> exact ho
theorem zo4 {m : MarketS} {t : Int} : ∀ (ds : List DD) (o : List OwnerS), (∀ p ∈ ds, zaI m p.1.Gives = 0) → OwnOk m o → OwnOk m (zbr m t o ds).o
 | [], _, _, ho => ho
 | p :: r, o, h, ho => by
   rw [zbr]
   exact zo4 r _ (fun q hq => h q (List.mem_cons_of_mem p hq)) (zsH (h p (by simp)) ho)
theorem zsJ {ds : List DD} {l : List DealS} (h : ds.map (·.1) = l) : ∀ p ∈ ds, p.1 ∈ l := fun p hp => by rw [← h]; exact List.mem_map_of_mem hp
theorem zsD (m : MarketS) (o : List OwnerS) (l : List DealS) (a : List ReplyS) (n : Nat) : (zeu m (atL a n) ((zaB m o l a n).ds.map (zcM n))).map (·.1) = l := by
 rw [zkc, zlH, zeM]
theorem zqD {m : MarketS} {o : List OwnerS} {l : List DealS} {a : List ReplyS} (hl : ∀ x ∈ l, zaI m x.Gives = 0) (ho : OwnOk m o) : ∀ n, OwnOk m (zaB m o l a n).o
 | 0 => ho
 | n + 1 => by
   rw [zaB, stF]
   exact zo4 _ _ (fun p hp => hl _ (zsJ (zsD m o l a n) p hp)) (zqD hl ho n)
theorem zqd {o : List OwnerS} (h : SortedS (o.map (·.Player))) : o.Pairwise fun a b => zdX a b < 0 :=
 (List.pairwise_map.1 h).imp fun {a b} hab => by
   unfold zdX
   exact zly.2 hab
theorem zol {m : MarketS} {o : List OwnerS} {l : List DealS} {a : List ReplyS} (h : zcQ m o l a = 0) (n : Nat) : zbJ m (zaB m o l a n).o = 0 := by
 have tk := zfv h
 obtain ⟨h1, h2, _⟩ := orI3 h
 obtain ⟨hm, h4⟩ := zlm h1
 obtain ⟨_, h5⟩ := zl5 h2
 obtain ⟨o1, o2, _, o4⟩ := zk4 h4
 obtain ⟨_, d2, _⟩ := zmg h5
 have hk := zqD (a := a) (fun x hx => zks (d2 x hx)) (⟨o2, o4⟩ : OwnOk m o) n
 have hs : SortedS ((zaB m o l a n).o.map (·.Player)) := by rw [zfw]; exact tk.hs
 have hc : zc7 m (zaB m o l a n).o = 0 := zqH zma hk.f (zqd hs) _ 0 rfl
 have hlen := zgv (m := m) (o := o) (l := l) (a := a) n
 unfold zbJ
 rw [if_neg (by simp [hm])]
 unfold zb0
 rw [if_neg (by omega), if_neg (by simp [hc]), if_pos hk.fit]
/-! what is done stays done -/
structure Mono (p q : DD) : Prop where
 fst : q.1 = p.1
 nz : p.2.how ≠ 0 → q.2.how ≠ 0
 fin : 2 < p.2.how → q.2.how = p.2.how ∧ q.2.since = p.2.since
theorem Mono.refl (p : DD) : Mono p p := ⟨rfl, id, fun _ => ⟨rfl, rfl⟩⟩
theorem Mono.trans {p q r : DD} (h1 : Mono p q) (h2 : Mono q r) : Mono p r :=
 ⟨h2.fst.trans h1.fst, fun h => h2.nz (h1.nz h), fun h => by
  obtain ⟨a1, a2⟩ := h1.fin h
  obtain ⟨b1, b2⟩ := h2.fin (by omega)
  exact ⟨b1.trans a1, b2.trans a2⟩⟩
def MonoL : List DD → List DD → Prop
 | [], [] => True
 | p :: r, q :: s => Mono p q ∧ MonoL r s
 | _, _ => False
theorem MonoL.refl : ∀ l, MonoL l l
 | [] => trivial
 | p :: r => ⟨Mono.refl p, MonoL.refl r⟩
theorem MonoL.trans : ∀ {a b c : List DD}, MonoL a b → MonoL b c → MonoL a c
 | [], [], [], _, _ => trivial
 | p :: r, q :: s, x :: t, h1, h2 => ⟨h1.1.trans h2.1, MonoL.trans h1.2 h2.2⟩
 | [], _ :: _, _, h, _ => h.elim
 | _ :: _, [], _, h, _ => h.elim
 | _, [], _ :: _, _, h => h.elim
 | _, _ :: _, [], _, h => h.elim
theorem znM {f : DD → DD} (h : ∀ p, Mono p (f p)) : ∀ l, MonoL l (l.map f)
 | [] => trivial
 | p :: r => ⟨h p, znM h r⟩
theorem zri (t : Int) (p : DD) : Mono p (zcM t p) := by
 unfold zcM
 split
 ·rename_i h
  exact ⟨rfl, fun e => absurd h.1 e, fun e => by omega⟩
 ·exact Mono.refl p
theorem zeU {p : DD} {k t : Int} (hk : k ≠ 0) (h : p.2.how ≤ 2) : Mono p (zbf p k t) := ⟨rfl, fun _ => hk, fun e => by omega⟩
theorem zrf (m : MarketS) (a : ReplyS) (p : DD) : Mono p (zbU m a p) := by
 unfold zbU
 split
 ·exact Mono.refl p
 rename_i h0
 have hh : p.2.how ≤ 2 ∧ p.2.how ≠ 0 := by
  by_cases h1 : p.2.how = 1
  ·omega
  ·by_cases h2 : p.2.how = 2
   ·omega
   ·exact absurd ⟨h1, h2⟩ h0
 split
 ·split
  ·exact ⟨rfl, fun _ => by (show (2 : Int) ≠ 0; decide), fun e => by omega⟩
  ·exact ⟨rfl, fun e => e, fun e => by omega⟩
 split
 ·exact zeU (by decide) hh.1
 split
 ·exact zeU (by decide) hh.1
 split
 ·split
  ·exact ⟨rfl, fun _ => by (show (6 : Int) ≠ 0; decide), fun e => by omega⟩
  ·exact ⟨rfl, fun e => e, fun e => by omega⟩
 ·exact Mono.refl p
theorem zmj (m : MarketS) (a : ReplyS) : ∀ l, MonoL l (zcK m a l)
 | [] => trivial
 | p :: r => by
   rw [zcK]; split
   ·exact ⟨zrf m a p, MonoL.refl r⟩
   ·exact ⟨Mono.refl p, zmj m a r⟩
theorem zmc (m : MarketS) : ∀ (rs : List ReplyS) (l : List DD), MonoL l (zeu m rs l)
 | [], l => MonoL.refl l
 | a :: r, l => (zmj m a l).trans (zmc m r (zcK m a l))
theorem zrb (m : MarketS) (t : Int) (o : List OwnerS) (p : DD) : Mono p (zbg m t o p).2.1 := by
 unfold zbg
 split
 ·rename_i h
  split
  ·exact zeU (by decide) (by omega)
  split
  ·exact zeU (by decide) (by omega)
  ·exact zeU (by decide) (by omega)
 split
 ·exact zeU (by decide) (by omega)
 ·exact Mono.refl p
theorem zms (m : MarketS) (t : Int) : ∀ (l : List DD) (o : List OwnerS), MonoL l (zbr m t o l).ds
 | [], _ => trivial
 | p :: r, o => by rw [zbr]; exact ⟨zrb m t o p, zms m t r _⟩
theorem zn8 (m : MarketS) (o : List OwnerS) (l : List DealS) (a : List ReplyS) (n : Nat) : ∀ k, MonoL (zaB m o l a n).ds (zaB m o l a (n + k)).ds
 | 0 => MonoL.refl _
 | k + 1 => by
   refine (zn8 m o l a n k).trans ?_
   show MonoL _ (stF m a (zaB m o l a (n + k)) _).ds
   unfold stF
   exact ((znM (zri _) _).trans (zmc m _ _)).trans (zms m _ _ _)
theorem zoS : ∀ {a b : List DD}, MonoL a b → (zbW a).length ≤ (zbW b).length
 | [], [], _ => Nat.le_refl _
 | p :: r, q :: s, h => by
   have ih := zoS h.2
   have h1 : (ze5 p).length ≤ (ze5 q).length := by
    unfold ze5
    by_cases hp : p.2.how = 0
    ·rw [if_pos hp]; exact Nat.zero_le _
    ·rw [if_neg hp, if_neg (h.1.nz hp)]; exact Nat.le_refl _
   show (ze5 p ++ zbW r).length ≤ (ze5 q ++ zbW s).length
   rw [List.length_append, List.length_append]; omega
 | [], _ :: _, h => h.elim
 | _ :: _, [], h => h.elim
theorem zo5 : ∀ {a b : List DD}, MonoL a b → ∀ z ∈ zbW a, 2 < z.How → z ∈ zbW b
 | [], [], _, z, hz, _ => by cases hz
 | p :: r, q :: s, h, z, hz, hh => by
   have hz' : z ∈ ze5 p ++ zbW r := hz
   show z ∈ ze5 q ++ zbW s
   rcases List.mem_append.1 hz' with hz1 | hz1
   ·refine List.mem_append_left _ ?_
    unfold ze5 at hz1 ⊢
    by_cases hp : p.2.how = 0
    ·rw [if_pos hp] at hz1; cases hz1
    ·rw [if_neg hp] at hz1
     have e := List.mem_singleton.1 hz1
     rw [e] at hh
     obtain ⟨f1, f2⟩ := h.1.fin hh
     rw [if_neg (h.1.nz hp), e, h.1.fst, f1, f2]; simp
   ·exact List.mem_append_right _ (zo5 h.2 z hz1 hh)
 | [], _ :: _, h, _, _, _ => h.elim
 | _ :: _, [], h, _, _, _ => h.elim
theorem zqG {m : MarketS} {o : List OwnerS} {l : List DealS} {a : List ReplyS} (hf : FOk m l) (n : Nat) : ∀ z ∈ zbW (zaB m o l a n).ds, z.Since < n := fun z hz => by
 unfold zbW at hz
 obtain ⟨p, hp, hz⟩ := List.mem_flatMap.1 hz
 unfold ze5 at hz
 split at hz
 ·cases hz
 ·rename_i h0
  rw [List.mem_singleton.1 hz]
  exact ((zga hf n p hp).1.since h0).2
/-! the last team is the owner's -/
theorem ziF {u : Int} (h : 0 ≤ u ∧ u ≤ 1000) : zba u = true := by
 unfold zba
 have : out u 0 345686399999 = false := by unfold out; simp; omega
 rw [this]; rfl
theorem zpZ {m : MarketS} {o : List OwnerS} {l : List DealS} {a : List ReplyS} {u : Int} (h : zcQ m o l a = 0) (hu : zba u = true) : zev m o l a u = 0 ∧ zj4 m o l a u = zbW (zcJ m o l a u).ds ∧ zkl m o l a u = (zcJ m o l a u).o := by
 have e : zev m o l a u = 0 := by unfold zev; rw [if_neg (by simp [hu]), h]
 exact ⟨e, by unfold zj4; rw [if_neg (by simp [e])], by unfold zkl; rw [if_neg (by simp [e])]⟩
end Go.HL
namespace Go.HL
theorem znJ (z : StageS) : zg3 zcX z z = true := by simp [zg3, zn, zgp, eqH]
theorem zoT {m : MarketS} {o : List OwnerS} {l : List DealS} {a : List ReplyS} (n : Nat) : (zbW (zaB m o l a n).ds).length ≤ l.length := by
 have h1 : (zbW (zaB m o l a n).ds).length ≤ (zaB m o l a n).ds.length := zkr zog _
 have h2 : (zaB m o l a n).ds.length = l.length := by
  have := congrArg List.length (zeM m o l a n)
  simpa using this
 omega
theorem zst {z : StageS} {q : List StageS} {u : Int} (h1 : 2 < z.How → z ∈ q) (h2 : z.Since ≤ u) (h : (2 < z.How ∧ ∀ x, x ∈ q → zg3 zcX z x = false) ∨ u < z.Since) : False := by
 rcases h with ⟨h3, h4⟩ | h3
 ·have := h4 z (h1 h3)
  rw [znJ] at this; cases this
 ·omega
end Go.HL
end
namespace Go.Proofs.YtpcaaekefgkhjaaGreatDoor
set_option maxRecDepth 100000
set_option linter.unusedVariables false
set_option linter.unusedSimpArgs false
section
open Go.HL
set_option maxHeartbeats 2000000 in
/-- (*benchwarmer/benchmake.Stream).MarketOf -/
theorem zbN [Tracks] {b : Nat} {l : List Int} {a : Nat}  (ha : a ≤ 800000) : Con Tryz.prog 6 [pAt b] [St b l a] (fun x M' => ∃ m a', x = zaM m ∧ GoodM m ∧ a' ≤ a + 20 ∧ M' = [St b l a']) := by
 refine Con.of_bodyc Tryz.func6 rfl Tryz.ntmps6 rfl rfl ?_
 refine za ?_
 refine de rfl (zZ zV rfl fun b2 => ?_)
 refine dn ?_
 refine zeP [3, 4, 5, 6, 7, 8, 9, 10, 11, 12, 13, 14, 15, 16, 17, 18, 19, 20, 21, 22, 23] (fun (q : Nat × MarketS) => [(3, pAt q.1)]) (fun (q : Nat × MarketS) => [.cells q.1 (zn (zaM q.2)), .cells b2 [nilS, .int .i64 0, .int .i64 0, .int .i64 0, .int .i64 0, .int .i64 0], St b l (a + 6)]) (fun (q : Nat × MarketS) => (0 < q.2.Teams.length ∧ q.2.Teams.length ≤ 4) ∧ ∀ s ∈ q.2.Teams, s.length ≤ 10) ?_ ?_
 ·skip
  refine zbM (fun _ => True) [] mixed ?_
  refine ahp 0 rfl rfl (by kernel_rfl) (by kernel_rfl) (zG (hs := [_, _, _, _]) zR ty9 rfl rfl (by decide) (by decide) rfl) ?_
  refine ahp 1 rfl rfl (by kernel_rfl) (by kernel_rfl) (zf rfl) ?_
  refine ahp 4 rfl rfl (by kernel_rfl) (by kernel_rfl) (zf rfl) ?_
  refine ahp 5 rfl rfl (by kernel_rfl) (by kernel_rfl) (zG (hs := [_, _, _]) zbB ty3 rfl rfl (by decide) (by decide) rfl) ?_
  refine ahp 7 rfl rfl (by kernel_rfl) (by kernel_rfl) (zf rfl) ?_
  refine ahp 8 rfl rfl (by kernel_rfl) (by kernel_rfl) (zG (hs := [_, _, _]) zbB ty3 rfl rfl (by decide) (by decide) rfl) ?_
  refine ahp 10 rfl rfl (by kernel_rfl) (by kernel_rfl) (zf rfl) ?_
  refine ahp 11 rfl rfl (by kernel_rfl) (by kernel_rfl) (zG (hs := [_, _, _]) zbB ty3 rfl rfl (by decide) (by decide) rfl) ?_
  refine ahp 13 rfl rfl (by kernel_rfl) (by kernel_rfl) (zf rfl) ?_
  refine ahp 14 rfl rfl (by kernel_rfl) (by kernel_rfl) (zG (hs := [_, _, _]) zbB ty3 rfl rfl (by decide) (by decide) rfl) ?_
  refine ahp 16 rfl rfl (by kernel_rfl) (by kernel_rfl) (zf rfl) ?_
  refine ahp 17 rfl rfl (by kernel_rfl) (by kernel_rfl) (zG (hs := [_, _, _]) zbB ty3 rfl rfl (by decide) (by decide) rfl) ?_
  refine zgZ 2 20 rfl rfl (by kernel_rfl) ?_ ?_
  ·skip
   first
   | refine zv rfl (zd (i := 0) zb7 rfl (WeakL.refl _) rfl (zN (by first | assumption | omega | (simp; omega) | simp_all) (by first | assumption | omega | (simp; omega) | simp_all) (by first | assumption | omega | (simp; omega) | simp_all) (by first | assumption | omega | (simp; omega) | simp_all)) ?_)
   | refine zv rfl (zd (i := 1) zb7 rfl (WeakL.refl _) rfl (zN (by first | assumption | omega | (simp; omega) | simp_all) (by first | assumption | omega | (simp; omega) | simp_all) (by first | assumption | omega | (simp; omega) | simp_all) (by first | assumption | omega | (simp; omega) | simp_all)) ?_)
   | refine zv rfl (zd (i := 2) zb7 rfl (WeakL.refl _) rfl (zN (by first | assumption | omega | (simp; omega) | simp_all) (by first | assumption | omega | (simp; omega) | simp_all) (by first | assumption | omega | (simp; omega) | simp_all) (by first | assumption | omega | (simp; omega) | simp_all)) ?_)
   | refine zv rfl (zd (i := 3) zb7 rfl (WeakL.refl _) rfl (zN (by first | assumption | omega | (simp; omega) | simp_all) (by first | assumption | omega | (simp; omega) | simp_all) (by first | assumption | omega | (simp; omega) | simp_all) (by first | assumption | omega | (simp; omega) | simp_all)) ?_)
   rintro _ _ ⟨y6, rfl, hy6, rfl⟩
   refine ⟨fun _ => .inl trivial, ?_⟩
   refine ahp 3 rfl rfl (by kernel_rfl) (by kernel_rfl) (zef (es := zbP) (f := HVal.str) (h := y6.toNat) zR ty9 rfl rfl ⟨_, _, rfl, by omega⟩ (by omega) (by simp [zbP]; omega)) ?_
   refine zgZ 6 20 rfl rfl (by kernel_rfl) ?_ ?_
   ·skip
    first
    | refine zv rfl (zd (i := 0) zT rfl (WeakL.refl _) rfl (zc (L := [_, _, _]) (by first | assumption | omega | (simp; omega) | simp_all) (by first | assumption | omega | (simp; omega) | simp_all) (by first | assumption | omega | (simp; omega) | simp_all)) ?_)
    | refine zv rfl (zd (i := 1) zT rfl (WeakL.refl _) rfl (zc (L := [_, _, _]) (by first | assumption | omega | (simp; omega) | simp_all) (by first | assumption | omega | (simp; omega) | simp_all) (by first | assumption | omega | (simp; omega) | simp_all)) ?_)
    | refine zv rfl (zd (i := 2) zT rfl (WeakL.refl _) rfl (zc (L := [_, _, _]) (by first | assumption | omega | (simp; omega) | simp_all) (by first | assumption | omega | (simp; omega) | simp_all) (by first | assumption | omega | (simp; omega) | simp_all)) ?_)
    | refine zv rfl (zd (i := 3) zT rfl (WeakL.refl _) rfl (zc (L := [_, _, _]) (by first | assumption | omega | (simp; omega) | simp_all) (by first | assumption | omega | (simp; omega) | simp_all) (by first | assumption | omega | (simp; omega) | simp_all)) ?_)
    rintro _ _ ⟨y10, rfl, hy10, rfl⟩
    refine ⟨fun _ => .inl trivial, ?_⟩
    refine zgZ 9 20 rfl rfl (by kernel_rfl) ?_ ?_
    ·skip
     first
     | refine zv rfl (zd (i := 0) zT rfl (WeakL.refl _) rfl (zc (L := [_, _, _]) (by first | assumption | omega | (simp; omega) | simp_all) (by first | assumption | omega | (simp; omega) | simp_all) (by first | assumption | omega | (simp; omega) | simp_all)) ?_)
     | refine zv rfl (zd (i := 1) zT rfl (WeakL.refl _) rfl (zc (L := [_, _, _]) (by first | assumption | omega | (simp; omega) | simp_all) (by first | assumption | omega | (simp; omega) | simp_all) (by first | assumption | omega | (simp; omega) | simp_all)) ?_)
     | refine zv rfl (zd (i := 2) zT rfl (WeakL.refl _) rfl (zc (L := [_, _, _]) (by first | assumption | omega | (simp; omega) | simp_all) (by first | assumption | omega | (simp; omega) | simp_all) (by first | assumption | omega | (simp; omega) | simp_all)) ?_)
     | refine zv rfl (zd (i := 3) zT rfl (WeakL.refl _) rfl (zc (L := [_, _, _]) (by first | assumption | omega | (simp; omega) | simp_all) (by first | assumption | omega | (simp; omega) | simp_all) (by first | assumption | omega | (simp; omega) | simp_all)) ?_)
     rintro _ _ ⟨y13, rfl, hy13, rfl⟩
     refine ⟨fun _ => .inl trivial, ?_⟩
     refine zgZ 12 20 rfl rfl (by kernel_rfl) ?_ ?_
     ·skip
      first
      | refine zv rfl (zd (i := 0) zT rfl (WeakL.refl _) rfl (zc (L := [_, _, _]) (by first | assumption | omega | (simp; omega) | simp_all) (by first | assumption | omega | (simp; omega) | simp_all) (by first | assumption | omega | (simp; omega) | simp_all)) ?_)
      | refine zv rfl (zd (i := 1) zT rfl (WeakL.refl _) rfl (zc (L := [_, _, _]) (by first | assumption | omega | (simp; omega) | simp_all) (by first | assumption | omega | (simp; omega) | simp_all) (by first | assumption | omega | (simp; omega) | simp_all)) ?_)
      | refine zv rfl (zd (i := 2) zT rfl (WeakL.refl _) rfl (zc (L := [_, _, _]) (by first | assumption | omega | (simp; omega) | simp_all) (by first | assumption | omega | (simp; omega) | simp_all) (by first | assumption | omega | (simp; omega) | simp_all)) ?_)
      | refine zv rfl (zd (i := 3) zT rfl (WeakL.refl _) rfl (zc (L := [_, _, _]) (by first | assumption | omega | (simp; omega) | simp_all) (by first | assumption | omega | (simp; omega) | simp_all) (by first | assumption | omega | (simp; omega) | simp_all)) ?_)
      rintro _ _ ⟨y16, rfl, hy16, rfl⟩
      refine ⟨fun _ => .inl trivial, ?_⟩
      refine zgZ 15 20 rfl rfl (by kernel_rfl) ?_ ?_
      ·skip
       first
       | refine zv rfl (zd (i := 0) zT rfl (WeakL.refl _) rfl (zc (L := [_, _, _]) (by first | assumption | omega | (simp; omega) | simp_all) (by first | assumption | omega | (simp; omega) | simp_all) (by first | assumption | omega | (simp; omega) | simp_all)) ?_)
       | refine zv rfl (zd (i := 1) zT rfl (WeakL.refl _) rfl (zc (L := [_, _, _]) (by first | assumption | omega | (simp; omega) | simp_all) (by first | assumption | omega | (simp; omega) | simp_all) (by first | assumption | omega | (simp; omega) | simp_all)) ?_)
       | refine zv rfl (zd (i := 2) zT rfl (WeakL.refl _) rfl (zc (L := [_, _, _]) (by first | assumption | omega | (simp; omega) | simp_all) (by first | assumption | omega | (simp; omega) | simp_all) (by first | assumption | omega | (simp; omega) | simp_all)) ?_)
       | refine zv rfl (zd (i := 3) zT rfl (WeakL.refl _) rfl (zc (L := [_, _, _]) (by first | assumption | omega | (simp; omega) | simp_all) (by first | assumption | omega | (simp; omega) | simp_all) (by first | assumption | omega | (simp; omega) | simp_all)) ?_)
       rintro _ _ ⟨y19, rfl, hy19, rfl⟩
       refine ⟨fun _ => .inl trivial, ?_⟩
       refine zgZ 18 20 rfl rfl (by kernel_rfl) ?_ ?_
       ·skip
        first
        | refine zv rfl (zd (i := 0) zT rfl (WeakL.refl _) rfl (zc (L := [_, _, _]) (by first | assumption | omega | (simp; omega) | simp_all) (by first | assumption | omega | (simp; omega) | simp_all) (by first | assumption | omega | (simp; omega) | simp_all)) ?_)
        | refine zv rfl (zd (i := 1) zT rfl (WeakL.refl _) rfl (zc (L := [_, _, _]) (by first | assumption | omega | (simp; omega) | simp_all) (by first | assumption | omega | (simp; omega) | simp_all) (by first | assumption | omega | (simp; omega) | simp_all)) ?_)
        | refine zv rfl (zd (i := 2) zT rfl (WeakL.refl _) rfl (zc (L := [_, _, _]) (by first | assumption | omega | (simp; omega) | simp_all) (by first | assumption | omega | (simp; omega) | simp_all) (by first | assumption | omega | (simp; omega) | simp_all)) ?_)
        | refine zv rfl (zd (i := 3) zT rfl (WeakL.refl _) rfl (zc (L := [_, _, _]) (by first | assumption | omega | (simp; omega) | simp_all) (by first | assumption | omega | (simp; omega) | simp_all) (by first | assumption | omega | (simp; omega) | simp_all)) ?_)
        rintro _ _ ⟨y22, rfl, hy22, rfl⟩
        refine ⟨fun _ => .inl trivial, ?_⟩
        refine ahp 19 rfl rfl (by kernel_rfl) (by kernel_rfl) (zaA (cs := [_, _, _, _, _, _]) zV zj0 rfl) ?_
        refine ahe 20 rfl (by kernel_rfl) ?_
        refine zv rfl (zZ zV rfl fun b3 => ?_)
        refine ⟨fun _ => .inl trivial, ?_⟩
        refine ahe 21 rfl (by kernel_rfl) ?_
        first
        | refine zaa (zA (i := 0) zV rfl rfl rfl rfl rfl (Nat.le_of_ble_eq_true rfl) ?_)
        | refine zaa (zA (i := 1) zV rfl rfl rfl rfl rfl (Nat.le_of_ble_eq_true rfl) ?_)
        | refine zaa (zA (i := 2) zV rfl rfl rfl rfl rfl (Nat.le_of_ble_eq_true rfl) ?_)
        | refine zaa (zA (i := 3) zV rfl rfl rfl rfl rfl (Nat.le_of_ble_eq_true rfl) ?_)
        refine ⟨fun _ => .inl trivial, ?_⟩
        refine ahz (by kernel_rfl) ?_
        refine ⟨(b3, ⟨(zbP.take y6.toNat).drop 0, y10, y13, y16, y19, y22⟩), ?_, ⟨rfl, trivial⟩, (by repeat (first | exact zt | refine zw rfl ?_ | refine zu rfl rfl ?_)), ?_⟩
        ·exact ⟨⟨by simp [zbP]; omega, by simp [zbP]; omega⟩, fun s hs => zed s (List.mem_of_mem_take (by simpa using hs))⟩
        ·repeat (first | exact List.Perm.nil | refine zP 0 rfl ?_ | refine zP 1 rfl ?_ | refine zP 2 rfl ?_ | refine zP 3 rfl ?_ | (refine zJ 0 rfl ?hq ?_; (case hq => simp [zY, zn]; done)) | (refine zJ 1 rfl ?hq ?_; (case hq => simp [zY, zn]; done)) | (refine zJ 2 rfl ?hq ?_; (case hq => simp [zY, zn]; done)) | (refine zJ 3 rfl ?hq ?_; (case hq => simp [zY, zn]; done)) | fail)
       ·skip
        refine zv rfl (zZ zV rfl fun b3 => ?_)
        refine ⟨fun _ => .inl trivial, ?_⟩
        refine ahe 18 rfl (by kernel_rfl) ?_
        first
        | refine zv rfl (zd (i := 0) zT rfl (WeakL.refl _) rfl (zc (L := [_, _, _]) (by first | assumption | omega | (simp; omega) | simp_all) (by first | assumption | omega | (simp; omega) | simp_all) (by first | assumption | omega | (simp; omega) | simp_all)) ?_)
        | refine zv rfl (zd (i := 1) zT rfl (WeakL.refl _) rfl (zc (L := [_, _, _]) (by first | assumption | omega | (simp; omega) | simp_all) (by first | assumption | omega | (simp; omega) | simp_all) (by first | assumption | omega | (simp; omega) | simp_all)) ?_)
        | refine zv rfl (zd (i := 2) zT rfl (WeakL.refl _) rfl (zc (L := [_, _, _]) (by first | assumption | omega | (simp; omega) | simp_all) (by first | assumption | omega | (simp; omega) | simp_all) (by first | assumption | omega | (simp; omega) | simp_all)) ?_)
        | refine zv rfl (zd (i := 3) zT rfl (WeakL.refl _) rfl (zc (L := [_, _, _]) (by first | assumption | omega | (simp; omega) | simp_all) (by first | assumption | omega | (simp; omega) | simp_all) (by first | assumption | omega | (simp; omega) | simp_all)) ?_)
        rintro _ _ ⟨y22, rfl, hy22, rfl⟩
        refine ⟨fun _ => .inl trivial, ?_⟩
        refine ahp 19 rfl rfl (by kernel_rfl) (by kernel_rfl) (zaA (cs := [_, _, _, _, _, _]) zV zj0 rfl) ?_
        refine ahe 21 rfl (by kernel_rfl) ?_
        first
        | refine zaa (zA (i := 0) zV rfl rfl rfl rfl rfl (Nat.le_of_ble_eq_true rfl) ?_)
        | refine zaa (zA (i := 1) zV rfl rfl rfl rfl rfl (Nat.le_of_ble_eq_true rfl) ?_)
        | refine zaa (zA (i := 2) zV rfl rfl rfl rfl rfl (Nat.le_of_ble_eq_true rfl) ?_)
        | refine zaa (zA (i := 3) zV rfl rfl rfl rfl rfl (Nat.le_of_ble_eq_true rfl) ?_)
        refine ⟨fun _ => .inl trivial, ?_⟩
        refine ahz (by kernel_rfl) ?_
        refine ⟨(b3, ⟨(zbP.take y6.toNat).drop 0, y10, y13, y16, y19, y22⟩), ?_, ⟨rfl, trivial⟩, (by repeat (first | exact zt | refine zw rfl ?_ | refine zu rfl rfl ?_)), ?_⟩
        ·exact ⟨⟨by simp [zbP]; omega, by simp [zbP]; omega⟩, fun s hs => zed s (List.mem_of_mem_take (by simpa using hs))⟩
        ·repeat (first | exact List.Perm.nil | refine zP 0 rfl ?_ | refine zP 1 rfl ?_ | refine zP 2 rfl ?_ | refine zP 3 rfl ?_ | (refine zJ 0 rfl ?hq ?_; (case hq => simp [zY, zn]; done)) | (refine zJ 1 rfl ?hq ?_; (case hq => simp [zY, zn]; done)) | (refine zJ 2 rfl ?hq ?_; (case hq => simp [zY, zn]; done)) | (refine zJ 3 rfl ?hq ?_; (case hq => simp [zY, zn]; done)) | fail)
      ·skip
       refine zv rfl (zZ zV rfl fun b3 => ?_)
       refine ⟨fun _ => .inl trivial, ?_⟩
       refine ahe 15 rfl (by kernel_rfl) ?_
       first
       | refine zv rfl (zd (i := 0) zT rfl (WeakL.refl _) rfl (zc (L := [_, _, _]) (by first | assumption | omega | (simp; omega) | simp_all) (by first | assumption | omega | (simp; omega) | simp_all) (by first | assumption | omega | (simp; omega) | simp_all)) ?_)
       | refine zv rfl (zd (i := 1) zT rfl (WeakL.refl _) rfl (zc (L := [_, _, _]) (by first | assumption | omega | (simp; omega) | simp_all) (by first | assumption | omega | (simp; omega) | simp_all) (by first | assumption | omega | (simp; omega) | simp_all)) ?_)
       | refine zv rfl (zd (i := 2) zT rfl (WeakL.refl _) rfl (zc (L := [_, _, _]) (by first | assumption | omega | (simp; omega) | simp_all) (by first | assumption | omega | (simp; omega) | simp_all) (by first | assumption | omega | (simp; omega) | simp_all)) ?_)
       | refine zv rfl (zd (i := 3) zT rfl (WeakL.refl _) rfl (zc (L := [_, _, _]) (by first | assumption | omega | (simp; omega) | simp_all) (by first | assumption | omega | (simp; omega) | simp_all) (by first | assumption | omega | (simp; omega) | simp_all)) ?_)
       rintro _ _ ⟨y19, rfl, hy19, rfl⟩
       refine ⟨fun _ => .inl trivial, ?_⟩
       refine ahe 18 rfl (by kernel_rfl) ?_
       first
       | refine zv rfl (zd (i := 0) zT rfl (WeakL.refl _) rfl (zc (L := [_, _, _]) (by first | assumption | omega | (simp; omega) | simp_all) (by first | assumption | omega | (simp; omega) | simp_all) (by first | assumption | omega | (simp; omega) | simp_all)) ?_)
       | refine zv rfl (zd (i := 1) zT rfl (WeakL.refl _) rfl (zc (L := [_, _, _]) (by first | assumption | omega | (simp; omega) | simp_all) (by first | assumption | omega | (simp; omega) | simp_all) (by first | assumption | omega | (simp; omega) | simp_all)) ?_)
       | refine zv rfl (zd (i := 2) zT rfl (WeakL.refl _) rfl (zc (L := [_, _, _]) (by first | assumption | omega | (simp; omega) | simp_all) (by first | assumption | omega | (simp; omega) | simp_all) (by first | assumption | omega | (simp; omega) | simp_all)) ?_)
       | refine zv rfl (zd (i := 3) zT rfl (WeakL.refl _) rfl (zc (L := [_, _, _]) (by first | assumption | omega | (simp; omega) | simp_all) (by first | assumption | omega | (simp; omega) | simp_all) (by first | assumption | omega | (simp; omega) | simp_all)) ?_)
       rintro _ _ ⟨y22, rfl, hy22, rfl⟩
       refine ⟨fun _ => .inl trivial, ?_⟩
       refine ahp 19 rfl rfl (by kernel_rfl) (by kernel_rfl) (zaA (cs := [_, _, _, _, _, _]) zV zj0 rfl) ?_
       refine ahe 21 rfl (by kernel_rfl) ?_
       first
       | refine zaa (zA (i := 0) zV rfl rfl rfl rfl rfl (Nat.le_of_ble_eq_true rfl) ?_)
       | refine zaa (zA (i := 1) zV rfl rfl rfl rfl rfl (Nat.le_of_ble_eq_true rfl) ?_)
       | refine zaa (zA (i := 2) zV rfl rfl rfl rfl rfl (Nat.le_of_ble_eq_true rfl) ?_)
       | refine zaa (zA (i := 3) zV rfl rfl rfl rfl rfl (Nat.le_of_ble_eq_true rfl) ?_)
       refine ⟨fun _ => .inl trivial, ?_⟩
       refine ahz (by kernel_rfl) ?_
       refine ⟨(b3, ⟨(zbP.take y6.toNat).drop 0, y10, y13, y16, y19, y22⟩), ?_, ⟨rfl, trivial⟩, (by repeat (first | exact zt | refine zw rfl ?_ | refine zu rfl rfl ?_)), ?_⟩
       ·exact ⟨⟨by simp [zbP]; omega, by simp [zbP]; omega⟩, fun s hs => zed s (List.mem_of_mem_take (by simpa using hs))⟩
       ·repeat (first | exact List.Perm.nil | refine zP 0 rfl ?_ | refine zP 1 rfl ?_ | refine zP 2 rfl ?_ | refine zP 3 rfl ?_ | (refine zJ 0 rfl ?hq ?_; (case hq => simp [zY, zn]; done)) | (refine zJ 1 rfl ?hq ?_; (case hq => simp [zY, zn]; done)) | (refine zJ 2 rfl ?hq ?_; (case hq => simp [zY, zn]; done)) | (refine zJ 3 rfl ?hq ?_; (case hq => simp [zY, zn]; done)) | fail)
     ·skip
      refine zv rfl (zZ zV rfl fun b3 => ?_)
      refine ⟨fun _ => .inl trivial, ?_⟩
      refine ahe 12 rfl (by kernel_rfl) ?_
      first
      | refine zv rfl (zd (i := 0) zT rfl (WeakL.refl _) rfl (zc (L := [_, _, _]) (by first | assumption | omega | (simp; omega) | simp_all) (by first | assumption | omega | (simp; omega) | simp_all) (by first | assumption | omega | (simp; omega) | simp_all)) ?_)
      | refine zv rfl (zd (i := 1) zT rfl (WeakL.refl _) rfl (zc (L := [_, _, _]) (by first | assumption | omega | (simp; omega) | simp_all) (by first | assumption | omega | (simp; omega) | simp_all) (by first | assumption | omega | (simp; omega) | simp_all)) ?_)
      | refine zv rfl (zd (i := 2) zT rfl (WeakL.refl _) rfl (zc (L := [_, _, _]) (by first | assumption | omega | (simp; omega) | simp_all) (by first | assumption | omega | (simp; omega) | simp_all) (by first | assumption | omega | (simp; omega) | simp_all)) ?_)
      | refine zv rfl (zd (i := 3) zT rfl (WeakL.refl _) rfl (zc (L := [_, _, _]) (by first | assumption | omega | (simp; omega) | simp_all) (by first | assumption | omega | (simp; omega) | simp_all) (by first | assumption | omega | (simp; omega) | simp_all)) ?_)
      rintro _ _ ⟨y16, rfl, hy16, rfl⟩
      refine ⟨fun _ => .inl trivial, ?_⟩
      refine ahe 15 rfl (by kernel_rfl) ?_
      first
      | refine zv rfl (zd (i := 0) zT rfl (WeakL.refl _) rfl (zc (L := [_, _, _]) (by first | assumption | omega | (simp; omega) | simp_all) (by first | assumption | omega | (simp; omega) | simp_all) (by first | assumption | omega | (simp; omega) | simp_all)) ?_)
      | refine zv rfl (zd (i := 1) zT rfl (WeakL.refl _) rfl (zc (L := [_, _, _]) (by first | assumption | omega | (simp; omega) | simp_all) (by first | assumption | omega | (simp; omega) | simp_all) (by first | assumption | omega | (simp; omega) | simp_all)) ?_)
      | refine zv rfl (zd (i := 2) zT rfl (WeakL.refl _) rfl (zc (L := [_, _, _]) (by first | assumption | omega | (simp; omega) | simp_all) (by first | assumption | omega | (simp; omega) | simp_all) (by first | assumption | omega | (simp; omega) | simp_all)) ?_)
      | refine zv rfl (zd (i := 3) zT rfl (WeakL.refl _) rfl (zc (L := [_, _, _]) (by first | assumption | omega | (simp; omega) | simp_all) (by first | assumption | omega | (simp; omega) | simp_all) (by first | assumption | omega | (simp; omega) | simp_all)) ?_)
      rintro _ _ ⟨y19, rfl, hy19, rfl⟩
      refine ⟨fun _ => .inl trivial, ?_⟩
      refine ahe 18 rfl (by kernel_rfl) ?_
      first
      | refine zv rfl (zd (i := 0) zT rfl (WeakL.refl _) rfl (zc (L := [_, _, _]) (by first | assumption | omega | (simp; omega) | simp_all) (by first | assumption | omega | (simp; omega) | simp_all) (by first | assumption | omega | (simp; omega) | simp_all)) ?_)
      | refine zv rfl (zd (i := 1) zT rfl (WeakL.refl _) rfl (zc (L := [_, _, _]) (by first | assumption | omega | (simp; omega) | simp_all) (by first | assumption | omega | (simp; omega) | simp_all) (by first | assumption | omega | (simp; omega) | simp_all)) ?_)
      | refine zv rfl (zd (i := 2) zT rfl (WeakL.refl _) rfl (zc (L := [_, _, _]) (by first | assumption | omega | (simp; omega) | simp_all) (by first | assumption | omega | (simp; omega) | simp_all) (by first | assumption | omega | (simp; omega) | simp_all)) ?_)
      | refine zv rfl (zd (i := 3) zT rfl (WeakL.refl _) rfl (zc (L := [_, _, _]) (by first | assumption | omega | (simp; omega) | simp_all) (by first | assumption | omega | (simp; omega) | simp_all) (by first | assumption | omega | (simp; omega) | simp_all)) ?_)
      rintro _ _ ⟨y22, rfl, hy22, rfl⟩
      refine ⟨fun _ => .inl trivial, ?_⟩
      refine ahp 19 rfl rfl (by kernel_rfl) (by kernel_rfl) (zaA (cs := [_, _, _, _, _, _]) zV zj0 rfl) ?_
      refine ahe 21 rfl (by kernel_rfl) ?_
      first
      | refine zaa (zA (i := 0) zV rfl rfl rfl rfl rfl (Nat.le_of_ble_eq_true rfl) ?_)
      | refine zaa (zA (i := 1) zV rfl rfl rfl rfl rfl (Nat.le_of_ble_eq_true rfl) ?_)
      | refine zaa (zA (i := 2) zV rfl rfl rfl rfl rfl (Nat.le_of_ble_eq_true rfl) ?_)
      | refine zaa (zA (i := 3) zV rfl rfl rfl rfl rfl (Nat.le_of_ble_eq_true rfl) ?_)
      refine ⟨fun _ => .inl trivial, ?_⟩
      refine ahz (by kernel_rfl) ?_
      refine ⟨(b3, ⟨(zbP.take y6.toNat).drop 0, y10, y13, y16, y19, y22⟩), ?_, ⟨rfl, trivial⟩, (by repeat (first | exact zt | refine zw rfl ?_ | refine zu rfl rfl ?_)), ?_⟩
      ·exact ⟨⟨by simp [zbP]; omega, by simp [zbP]; omega⟩, fun s hs => zed s (List.mem_of_mem_take (by simpa using hs))⟩
      ·repeat (first | exact List.Perm.nil | refine zP 0 rfl ?_ | refine zP 1 rfl ?_ | refine zP 2 rfl ?_ | refine zP 3 rfl ?_ | (refine zJ 0 rfl ?hq ?_; (case hq => simp [zY, zn]; done)) | (refine zJ 1 rfl ?hq ?_; (case hq => simp [zY, zn]; done)) | (refine zJ 2 rfl ?hq ?_; (case hq => simp [zY, zn]; done)) | (refine zJ 3 rfl ?hq ?_; (case hq => simp [zY, zn]; done)) | fail)
    ·skip
     refine zv rfl (zZ zV rfl fun b3 => ?_)
     refine ⟨fun _ => .inl trivial, ?_⟩
     refine ahe 9 rfl (by kernel_rfl) ?_
     first
     | refine zv rfl (zd (i := 0) zT rfl (WeakL.refl _) rfl (zc (L := [_, _, _]) (by first | assumption | omega | (simp; omega) | simp_all) (by first | assumption | omega | (simp; omega) | simp_all) (by first | assumption | omega | (simp; omega) | simp_all)) ?_)
     | refine zv rfl (zd (i := 1) zT rfl (WeakL.refl _) rfl (zc (L := [_, _, _]) (by first | assumption | omega | (simp; omega) | simp_all) (by first | assumption | omega | (simp; omega) | simp_all) (by first | assumption | omega | (simp; omega) | simp_all)) ?_)
     | refine zv rfl (zd (i := 2) zT rfl (WeakL.refl _) rfl (zc (L := [_, _, _]) (by first | assumption | omega | (simp; omega) | simp_all) (by first | assumption | omega | (simp; omega) | simp_all) (by first | assumption | omega | (simp; omega) | simp_all)) ?_)
     | refine zv rfl (zd (i := 3) zT rfl (WeakL.refl _) rfl (zc (L := [_, _, _]) (by first | assumption | omega | (simp; omega) | simp_all) (by first | assumption | omega | (simp; omega) | simp_all) (by first | assumption | omega | (simp; omega) | simp_all)) ?_)
     rintro _ _ ⟨y13, rfl, hy13, rfl⟩
     refine ⟨fun _ => .inl trivial, ?_⟩
     refine ahe 12 rfl (by kernel_rfl) ?_
     first
     | refine zv rfl (zd (i := 0) zT rfl (WeakL.refl _) rfl (zc (L := [_, _, _]) (by first | assumption | omega | (simp; omega) | simp_all) (by first | assumption | omega | (simp; omega) | simp_all) (by first | assumption | omega | (simp; omega) | simp_all)) ?_)
     | refine zv rfl (zd (i := 1) zT rfl (WeakL.refl _) rfl (zc (L := [_, _, _]) (by first | assumption | omega | (simp; omega) | simp_all) (by first | assumption | omega | (simp; omega) | simp_all) (by first | assumption | omega | (simp; omega) | simp_all)) ?_)
     | refine zv rfl (zd (i := 2) zT rfl (WeakL.refl _) rfl (zc (L := [_, _, _]) (by first | assumption | omega | (simp; omega) | simp_all) (by first | assumption | omega | (simp; omega) | simp_all) (by first | assumption | omega | (simp; omega) | simp_all)) ?_)
     | refine zv rfl (zd (i := 3) zT rfl (WeakL.refl _) rfl (zc (L := [_, _, _]) (by first | assumption | omega | (simp; omega) | simp_all) (by first | assumption | omega | (simp; omega) | simp_all) (by first | assumption | omega | (simp; omega) | simp_all)) ?_)
     rintro _ _ ⟨y16, rfl, hy16, rfl⟩
     refine ⟨fun _ => .inl trivial, ?_⟩
     refine ahe 15 rfl (by kernel_rfl) ?_
     first
     | refine zv rfl (zd (i := 0) zT rfl (WeakL.refl _) rfl (zc (L := [_, _, _]) (by first | assumption | omega | (simp; omega) | simp_all) (by first | assumption | omega | (simp; omega) | simp_all) (by first | assumption | omega | (simp; omega) | simp_all)) ?_)
     | refine zv rfl (zd (i := 1) zT rfl (WeakL.refl _) rfl (zc (L := [_, _, _]) (by first | assumption | omega | (simp; omega) | simp_all) (by first | assumption | omega | (simp; omega) | simp_all) (by first | assumption | omega | (simp; omega) | simp_all)) ?_)
     | refine zv rfl (zd (i := 2) zT rfl (WeakL.refl _) rfl (zc (L := [_, _, _]) (by first | assumption | omega | (simp; omega) | simp_all) (by first | assumption | omega | (simp; omega) | simp_all) (by first | assumption | omega | (simp; omega) | simp_all)) ?_)
     | refine zv rfl (zd (i := 3) zT rfl (WeakL.refl _) rfl (zc (L := [_, _, _]) (by first | assumption | omega | (simp; omega) | simp_all) (by first | assumption | omega | (simp; omega) | simp_all) (by first | assumption | omega | (simp; omega) | simp_all)) ?_)
     rintro _ _ ⟨y19, rfl, hy19, rfl⟩
     refine ⟨fun _ => .inl trivial, ?_⟩
     refine ahe 18 rfl (by kernel_rfl) ?_
     first
     | refine zv rfl (zd (i := 0) zT rfl (WeakL.refl _) rfl (zc (L := [_, _, _]) (by first | assumption | omega | (simp; omega) | simp_all) (by first | assumption | omega | (simp; omega) | simp_all) (by first | assumption | omega | (simp; omega) | simp_all)) ?_)
     | refine zv rfl (zd (i := 1) zT rfl (WeakL.refl _) rfl (zc (L := [_, _, _]) (by first | assumption | omega | (simp; omega) | simp_all) (by first | assumption | omega | (simp; omega) | simp_all) (by first | assumption | omega | (simp; omega) | simp_all)) ?_)
     | refine zv rfl (zd (i := 2) zT rfl (WeakL.refl _) rfl (zc (L := [_, _, _]) (by first | assumption | omega | (simp; omega) | simp_all) (by first | assumption | omega | (simp; omega) | simp_all) (by first | assumption | omega | (simp; omega) | simp_all)) ?_)
     | refine zv rfl (zd (i := 3) zT rfl (WeakL.refl _) rfl (zc (L := [_, _, _]) (by first | assumption | omega | (simp; omega) | simp_all) (by first | assumption | omega | (simp; omega) | simp_all) (by first | assumption | omega | (simp; omega) | simp_all)) ?_)
     rintro _ _ ⟨y22, rfl, hy22, rfl⟩
     refine ⟨fun _ => .inl trivial, ?_⟩
     refine ahp 19 rfl rfl (by kernel_rfl) (by kernel_rfl) (zaA (cs := [_, _, _, _, _, _]) zV zj0 rfl) ?_
     refine ahe 21 rfl (by kernel_rfl) ?_
     first
     | refine zaa (zA (i := 0) zV rfl rfl rfl rfl rfl (Nat.le_of_ble_eq_true rfl) ?_)
     | refine zaa (zA (i := 1) zV rfl rfl rfl rfl rfl (Nat.le_of_ble_eq_true rfl) ?_)
     | refine zaa (zA (i := 2) zV rfl rfl rfl rfl rfl (Nat.le_of_ble_eq_true rfl) ?_)
     | refine zaa (zA (i := 3) zV rfl rfl rfl rfl rfl (Nat.le_of_ble_eq_true rfl) ?_)
     refine ⟨fun _ => .inl trivial, ?_⟩
     refine ahz (by kernel_rfl) ?_
     refine ⟨(b3, ⟨(zbP.take y6.toNat).drop 0, y10, y13, y16, y19, y22⟩), ?_, ⟨rfl, trivial⟩, (by repeat (first | exact zt | refine zw rfl ?_ | refine zu rfl rfl ?_)), ?_⟩
     ·exact ⟨⟨by simp [zbP]; omega, by simp [zbP]; omega⟩, fun s hs => zed s (List.mem_of_mem_take (by simpa using hs))⟩
     ·repeat (first | exact List.Perm.nil | refine zP 0 rfl ?_ | refine zP 1 rfl ?_ | refine zP 2 rfl ?_ | refine zP 3 rfl ?_ | (refine zJ 0 rfl ?hq ?_; (case hq => simp [zY, zn]; done)) | (refine zJ 1 rfl ?hq ?_; (case hq => simp [zY, zn]; done)) | (refine zJ 2 rfl ?hq ?_; (case hq => simp [zY, zn]; done)) | (refine zJ 3 rfl ?hq ?_; (case hq => simp [zY, zn]; done)) | fail)
   ·skip
    refine zv rfl (zZ zV rfl fun b3 => ?_)
    refine ⟨fun _ => .inl trivial, ?_⟩
    refine ahe 6 rfl (by kernel_rfl) ?_
    first
    | refine zv rfl (zd (i := 0) zT rfl (WeakL.refl _) rfl (zc (L := [_, _, _]) (by first | assumption | omega | (simp; omega) | simp_all) (by first | assumption | omega | (simp; omega) | simp_all) (by first | assumption | omega | (simp; omega) | simp_all)) ?_)
    | refine zv rfl (zd (i := 1) zT rfl (WeakL.refl _) rfl (zc (L := [_, _, _]) (by first | assumption | omega | (simp; omega) | simp_all) (by first | assumption | omega | (simp; omega) | simp_all) (by first | assumption | omega | (simp; omega) | simp_all)) ?_)
    | refine zv rfl (zd (i := 2) zT rfl (WeakL.refl _) rfl (zc (L := [_, _, _]) (by first | assumption | omega | (simp; omega) | simp_all) (by first | assumption | omega | (simp; omega) | simp_all) (by first | assumption | omega | (simp; omega) | simp_all)) ?_)
    | refine zv rfl (zd (i := 3) zT rfl (WeakL.refl _) rfl (zc (L := [_, _, _]) (by first | assumption | omega | (simp; omega) | simp_all) (by first | assumption | omega | (simp; omega) | simp_all) (by first | assumption | omega | (simp; omega) | simp_all)) ?_)
    rintro _ _ ⟨y10, rfl, hy10, rfl⟩
    refine ⟨fun _ => .inl trivial, ?_⟩
    refine ahe 9 rfl (by kernel_rfl) ?_
    first
    | refine zv rfl (zd (i := 0) zT rfl (WeakL.refl _) rfl (zc (L := [_, _, _]) (by first | assumption | omega | (simp; omega) | simp_all) (by first | assumption | omega | (simp; omega) | simp_all) (by first | assumption | omega | (simp; omega) | simp_all)) ?_)
    | refine zv rfl (zd (i := 1) zT rfl (WeakL.refl _) rfl (zc (L := [_, _, _]) (by first | assumption | omega | (simp; omega) | simp_all) (by first | assumption | omega | (simp; omega) | simp_all) (by first | assumption | omega | (simp; omega) | simp_all)) ?_)
    | refine zv rfl (zd (i := 2) zT rfl (WeakL.refl _) rfl (zc (L := [_, _, _]) (by first | assumption | omega | (simp; omega) | simp_all) (by first | assumption | omega | (simp; omega) | simp_all) (by first | assumption | omega | (simp; omega) | simp_all)) ?_)
    | refine zv rfl (zd (i := 3) zT rfl (WeakL.refl _) rfl (zc (L := [_, _, _]) (by first | assumption | omega | (simp; omega) | simp_all) (by first | assumption | omega | (simp; omega) | simp_all) (by first | assumption | omega | (simp; omega) | simp_all)) ?_)
    rintro _ _ ⟨y13, rfl, hy13, rfl⟩
    refine ⟨fun _ => .inl trivial, ?_⟩
    refine ahe 12 rfl (by kernel_rfl) ?_
    first
    | refine zv rfl (zd (i := 0) zT rfl (WeakL.refl _) rfl (zc (L := [_, _, _]) (by first | assumption | omega | (simp; omega) | simp_all) (by first | assumption | omega | (simp; omega) | simp_all) (by first | assumption | omega | (simp; omega) | simp_all)) ?_)
    | refine zv rfl (zd (i := 1) zT rfl (WeakL.refl _) rfl (zc (L := [_, _, _]) (by first | assumption | omega | (simp; omega) | simp_all) (by first | assumption | omega | (simp; omega) | simp_all) (by first | assumption | omega | (simp; omega) | simp_all)) ?_)
    | refine zv rfl (zd (i := 2) zT rfl (WeakL.refl _) rfl (zc (L := [_, _, _]) (by first | assumption | omega | (simp; omega) | simp_all) (by first | assumption | omega | (simp; omega) | simp_all) (by first | assumption | omega | (simp; omega) | simp_all)) ?_)
    | refine zv rfl (zd (i := 3) zT rfl (WeakL.refl _) rfl (zc (L := [_, _, _]) (by first | assumption | omega | (simp; omega) | simp_all) (by first | assumption | omega | (simp; omega) | simp_all) (by first | assumption | omega | (simp; omega) | simp_all)) ?_)
    rintro _ _ ⟨y16, rfl, hy16, rfl⟩
    refine ⟨fun _ => .inl trivial, ?_⟩
    refine ahe 15 rfl (by kernel_rfl) ?_
    first
    | refine zv rfl (zd (i := 0) zT rfl (WeakL.refl _) rfl (zc (L := [_, _, _]) (by first | assumption | omega | (simp; omega) | simp_all) (by first | assumption | omega | (simp; omega) | simp_all) (by first | assumption | omega | (simp; omega) | simp_all)) ?_)
    | refine zv rfl (zd (i := 1) zT rfl (WeakL.refl _) rfl (zc (L := [_, _, _]) (by first | assumption | omega | (simp; omega) | simp_all) (by first | assumption | omega | (simp; omega) | simp_all) (by first | assumption | omega | (simp; omega) | simp_all)) ?_)
    | refine zv rfl (zd (i := 2) zT rfl (WeakL.refl _) rfl (zc (L := [_, _, _]) (by first | assumption | omega | (simp; omega) | simp_all) (by first | assumption | omega | (simp; omega) | simp_all) (by first | assumption | omega | (simp; omega) | simp_all)) ?_)
    | refine zv rfl (zd (i := 3) zT rfl (WeakL.refl _) rfl (zc (L := [_, _, _]) (by first | assumption | omega | (simp; omega) | simp_all) (by first | assumption | omega | (simp; omega) | simp_all) (by first | assumption | omega | (simp; omega) | simp_all)) ?_)
    rintro _ _ ⟨y19, rfl, hy19, rfl⟩
    refine ⟨fun _ => .inl trivial, ?_⟩
    refine ahe 18 rfl (by kernel_rfl) ?_
    first
    | refine zv rfl (zd (i := 0) zT rfl (WeakL.refl _) rfl (zc (L := [_, _, _]) (by first | assumption | omega | (simp; omega) | simp_all) (by first | assumption | omega | (simp; omega) | simp_all) (by first | assumption | omega | (simp; omega) | simp_all)) ?_)
    | refine zv rfl (zd (i := 1) zT rfl (WeakL.refl _) rfl (zc (L := [_, _, _]) (by first | assumption | omega | (simp; omega) | simp_all) (by first | assumption | omega | (simp; omega) | simp_all) (by first | assumption | omega | (simp; omega) | simp_all)) ?_)
    | refine zv rfl (zd (i := 2) zT rfl (WeakL.refl _) rfl (zc (L := [_, _, _]) (by first | assumption | omega | (simp; omega) | simp_all) (by first | assumption | omega | (simp; omega) | simp_all) (by first | assumption | omega | (simp; omega) | simp_all)) ?_)
    | refine zv rfl (zd (i := 3) zT rfl (WeakL.refl _) rfl (zc (L := [_, _, _]) (by first | assumption | omega | (simp; omega) | simp_all) (by first | assumption | omega | (simp; omega) | simp_all) (by first | assumption | omega | (simp; omega) | simp_all)) ?_)
    rintro _ _ ⟨y22, rfl, hy22, rfl⟩
    refine ⟨fun _ => .inl trivial, ?_⟩
    refine ahp 19 rfl rfl (by kernel_rfl) (by kernel_rfl) (zaA (cs := [_, _, _, _, _, _]) zV zj0 rfl) ?_
    refine ahe 21 rfl (by kernel_rfl) ?_
    first
    | refine zaa (zA (i := 0) zV rfl rfl rfl rfl rfl (Nat.le_of_ble_eq_true rfl) ?_)
    | refine zaa (zA (i := 1) zV rfl rfl rfl rfl rfl (Nat.le_of_ble_eq_true rfl) ?_)
    | refine zaa (zA (i := 2) zV rfl rfl rfl rfl rfl (Nat.le_of_ble_eq_true rfl) ?_)
    | refine zaa (zA (i := 3) zV rfl rfl rfl rfl rfl (Nat.le_of_ble_eq_true rfl) ?_)
    refine ⟨fun _ => .inl trivial, ?_⟩
    refine ahz (by kernel_rfl) ?_
    refine ⟨(b3, ⟨(zbP.take y6.toNat).drop 0, y10, y13, y16, y19, y22⟩), ?_, ⟨rfl, trivial⟩, (by repeat (first | exact zt | refine zw rfl ?_ | refine zu rfl rfl ?_)), ?_⟩
    ·exact ⟨⟨by simp [zbP]; omega, by simp [zbP]; omega⟩, fun s hs => zed s (List.mem_of_mem_take (by simpa using hs))⟩
    ·repeat (first | exact List.Perm.nil | refine zP 0 rfl ?_ | refine zP 1 rfl ?_ | refine zP 2 rfl ?_ | refine zP 3 rfl ?_ | (refine zJ 0 rfl ?hq ?_; (case hq => simp [zY, zn]; done)) | (refine zJ 1 rfl ?hq ?_; (case hq => simp [zY, zn]; done)) | (refine zJ 2 rfl ?hq ?_; (case hq => simp [zY, zn]; done)) | (refine zJ 3 rfl ?hq ?_; (case hq => simp [zY, zn]; done)) | fail)
  ·skip
   refine zv rfl (zZ zV rfl fun b3 => ?_)
   refine ⟨fun _ => .inl trivial, ?_⟩
   refine ahe 2 rfl (by kernel_rfl) ?_
   first
   | refine zv rfl (zd (i := 0) zb7 rfl (WeakL.refl _) rfl (zN (by first | assumption | omega | (simp; omega) | simp_all) (by first | assumption | omega | (simp; omega) | simp_all) (by first | assumption | omega | (simp; omega) | simp_all) (by first | assumption | omega | (simp; omega) | simp_all)) ?_)
   | refine zv rfl (zd (i := 1) zb7 rfl (WeakL.refl _) rfl (zN (by first | assumption | omega | (simp; omega) | simp_all) (by first | assumption | omega | (simp; omega) | simp_all) (by first | assumption | omega | (simp; omega) | simp_all) (by first | assumption | omega | (simp; omega) | simp_all)) ?_)
   | refine zv rfl (zd (i := 2) zb7 rfl (WeakL.refl _) rfl (zN (by first | assumption | omega | (simp; omega) | simp_all) (by first | assumption | omega | (simp; omega) | simp_all) (by first | assumption | omega | (simp; omega) | simp_all) (by first | assumption | omega | (simp; omega) | simp_all)) ?_)
   | refine zv rfl (zd (i := 3) zb7 rfl (WeakL.refl _) rfl (zN (by first | assumption | omega | (simp; omega) | simp_all) (by first | assumption | omega | (simp; omega) | simp_all) (by first | assumption | omega | (simp; omega) | simp_all) (by first | assumption | omega | (simp; omega) | simp_all)) ?_)
   rintro _ _ ⟨y6, rfl, hy6, rfl⟩
   refine ⟨fun _ => .inl trivial, ?_⟩
   refine ahp 3 rfl rfl (by kernel_rfl) (by kernel_rfl) (zef (es := zbP) (f := HVal.str) (h := y6.toNat) zR ty9 rfl rfl ⟨_, _, rfl, by omega⟩ (by omega) (by simp [zbP]; omega)) ?_
   refine ahe 6 rfl (by kernel_rfl) ?_
   first
   | refine zv rfl (zd (i := 0) zT rfl (WeakL.refl _) rfl (zc (L := [_, _, _]) (by first | assumption | omega | (simp; omega) | simp_all) (by first | assumption | omega | (simp; omega) | simp_all) (by first | assumption | omega | (simp; omega) | simp_all)) ?_)
   | refine zv rfl (zd (i := 1) zT rfl (WeakL.refl _) rfl (zc (L := [_, _, _]) (by first | assumption | omega | (simp; omega) | simp_all) (by first | assumption | omega | (simp; omega) | simp_all) (by first | assumption | omega | (simp; omega) | simp_all)) ?_)
   | refine zv rfl (zd (i := 2) zT rfl (WeakL.refl _) rfl (zc (L := [_, _, _]) (by first | assumption | omega | (simp; omega) | simp_all) (by first | assumption | omega | (simp; omega) | simp_all) (by first | assumption | omega | (simp; omega) | simp_all)) ?_)
   | refine zv rfl (zd (i := 3) zT rfl (WeakL.refl _) rfl (zc (L := [_, _, _]) (by first | assumption | omega | (simp; omega) | simp_all) (by first | assumption | omega | (simp; omega) | simp_all) (by first | assumption | omega | (simp; omega) | simp_all)) ?_)
   rintro _ _ ⟨y10, rfl, hy10, rfl⟩
   refine ⟨fun _ => .inl trivial, ?_⟩
   refine ahe 9 rfl (by kernel_rfl) ?_
   first
   | refine zv rfl (zd (i := 0) zT rfl (WeakL.refl _) rfl (zc (L := [_, _, _]) (by first | assumption | omega | (simp; omega) | simp_all) (by first | assumption | omega | (simp; omega) | simp_all) (by first | assumption | omega | (simp; omega) | simp_all)) ?_)
   | refine zv rfl (zd (i := 1) zT rfl (WeakL.refl _) rfl (zc (L := [_, _, _]) (by first | assumption | omega | (simp; omega) | simp_all) (by first | assumption | omega | (simp; omega) | simp_all) (by first | assumption | omega | (simp; omega) | simp_all)) ?_)
   | refine zv rfl (zd (i := 2) zT rfl (WeakL.refl _) rfl (zc (L := [_, _, _]) (by first | assumption | omega | (simp; omega) | simp_all) (by first | assumption | omega | (simp; omega) | simp_all) (by first | assumption | omega | (simp; omega) | simp_all)) ?_)
   | refine zv rfl (zd (i := 3) zT rfl (WeakL.refl _) rfl (zc (L := [_, _, _]) (by first | assumption | omega | (simp; omega) | simp_all) (by first | assumption | omega | (simp; omega) | simp_all) (by first | assumption | omega | (simp; omega) | simp_all)) ?_)
   rintro _ _ ⟨y13, rfl, hy13, rfl⟩
   refine ⟨fun _ => .inl trivial, ?_⟩
   refine ahe 12 rfl (by kernel_rfl) ?_
   first
   | refine zv rfl (zd (i := 0) zT rfl (WeakL.refl _) rfl (zc (L := [_, _, _]) (by first | assumption | omega | (simp; omega) | simp_all) (by first | assumption | omega | (simp; omega) | simp_all) (by first | assumption | omega | (simp; omega) | simp_all)) ?_)
   | refine zv rfl (zd (i := 1) zT rfl (WeakL.refl _) rfl (zc (L := [_, _, _]) (by first | assumption | omega | (simp; omega) | simp_all) (by first | assumption | omega | (simp; omega) | simp_all) (by first | assumption | omega | (simp; omega) | simp_all)) ?_)
   | refine zv rfl (zd (i := 2) zT rfl (WeakL.refl _) rfl (zc (L := [_, _, _]) (by first | assumption | omega | (simp; omega) | simp_all) (by first | assumption | omega | (simp; omega) | simp_all) (by first | assumption | omega | (simp; omega) | simp_all)) ?_)
   | refine zv rfl (zd (i := 3) zT rfl (WeakL.refl _) rfl (zc (L := [_, _, _]) (by first | assumption | omega | (simp; omega) | simp_all) (by first | assumption | omega | (simp; omega) | simp_all) (by first | assumption | omega | (simp; omega) | simp_all)) ?_)
   rintro _ _ ⟨y16, rfl, hy16, rfl⟩
   refine ⟨fun _ => .inl trivial, ?_⟩
   refine ahe 15 rfl (by kernel_rfl) ?_
   first
   | refine zv rfl (zd (i := 0) zT rfl (WeakL.refl _) rfl (zc (L := [_, _, _]) (by first | assumption | omega | (simp; omega) | simp_all) (by first | assumption | omega | (simp; omega) | simp_all) (by first | assumption | omega | (simp; omega) | simp_all)) ?_)
   | refine zv rfl (zd (i := 1) zT rfl (WeakL.refl _) rfl (zc (L := [_, _, _]) (by first | assumption | omega | (simp; omega) | simp_all) (by first | assumption | omega | (simp; omega) | simp_all) (by first | assumption | omega | (simp; omega) | simp_all)) ?_)
   | refine zv rfl (zd (i := 2) zT rfl (WeakL.refl _) rfl (zc (L := [_, _, _]) (by first | assumption | omega | (simp; omega) | simp_all) (by first | assumption | omega | (simp; omega) | simp_all) (by first | assumption | omega | (simp; omega) | simp_all)) ?_)
   | refine zv rfl (zd (i := 3) zT rfl (WeakL.refl _) rfl (zc (L := [_, _, _]) (by first | assumption | omega | (simp; omega) | simp_all) (by first | assumption | omega | (simp; omega) | simp_all) (by first | assumption | omega | (simp; omega) | simp_all)) ?_)
   rintro _ _ ⟨y19, rfl, hy19, rfl⟩
   refine ⟨fun _ => .inl trivial, ?_⟩
   refine ahe 18 rfl (by kernel_rfl) ?_
   first
   | refine zv rfl (zd (i := 0) zT rfl (WeakL.refl _) rfl (zc (L := [_, _, _]) (by first | assumption | omega | (simp; omega) | simp_all) (by first | assumption | omega | (simp; omega) | simp_all) (by first | assumption | omega | (simp; omega) | simp_all)) ?_)
   | refine zv rfl (zd (i := 1) zT rfl (WeakL.refl _) rfl (zc (L := [_, _, _]) (by first | assumption | omega | (simp; omega) | simp_all) (by first | assumption | omega | (simp; omega) | simp_all) (by first | assumption | omega | (simp; omega) | simp_all)) ?_)
   | refine zv rfl (zd (i := 2) zT rfl (WeakL.refl _) rfl (zc (L := [_, _, _]) (by first | assumption | omega | (simp; omega) | simp_all) (by first | assumption | omega | (simp; omega) | simp_all) (by first | assumption | omega | (simp; omega) | simp_all)) ?_)
   | refine zv rfl (zd (i := 3) zT rfl (WeakL.refl _) rfl (zc (L := [_, _, _]) (by first | assumption | omega | (simp; omega) | simp_all) (by first | assumption | omega | (simp; omega) | simp_all) (by first | assumption | omega | (simp; omega) | simp_all)) ?_)
   rintro _ _ ⟨y22, rfl, hy22, rfl⟩
   refine ⟨fun _ => .inl trivial, ?_⟩
   refine ahp 19 rfl rfl (by kernel_rfl) (by kernel_rfl) (zaA (cs := [_, _, _, _, _, _]) zV zj0 rfl) ?_
   refine ahe 21 rfl (by kernel_rfl) ?_
   first
   | refine zaa (zA (i := 0) zV rfl rfl rfl rfl rfl (Nat.le_of_ble_eq_true rfl) ?_)
   | refine zaa (zA (i := 1) zV rfl rfl rfl rfl rfl (Nat.le_of_ble_eq_true rfl) ?_)
   | refine zaa (zA (i := 2) zV rfl rfl rfl rfl rfl (Nat.le_of_ble_eq_true rfl) ?_)
   | refine zaa (zA (i := 3) zV rfl rfl rfl rfl rfl (Nat.le_of_ble_eq_true rfl) ?_)
   refine ⟨fun _ => .inl trivial, ?_⟩
   refine ahz (by kernel_rfl) ?_
   refine ⟨(b3, ⟨(zbP.take y6.toNat).drop 0, y10, y13, y16, y19, y22⟩), ?_, ⟨rfl, trivial⟩, (by repeat (first | exact zt | refine zw rfl ?_ | refine zu rfl rfl ?_)), ?_⟩
   ·exact ⟨⟨by simp [zbP]; omega, by simp [zbP]; omega⟩, fun s hs => zed s (List.mem_of_mem_take (by simpa using hs))⟩
   ·repeat (first | exact List.Perm.nil | refine zP 0 rfl ?_ | refine zP 1 rfl ?_ | refine zP 2 rfl ?_ | refine zP 3 rfl ?_ | (refine zJ 0 rfl ?hq ?_; (case hq => simp [zY, zn]; done)) | (refine zJ 1 rfl ?hq ?_; (case hq => simp [zY, zn]; done)) | (refine zJ 2 rfl ?hq ?_; (case hq => simp [zY, zn]; done)) | (refine zJ 3 rfl ?hq ?_; (case hq => simp [zY, zn]; done)) | fail)
 ·intro q hq
  obtain ⟨b3, ⟨T, Ve, Wa, Dl, Le, Mo⟩⟩ := q
  dsimp only at hq
  obtain ⟨⟨hT0, hT5⟩, hTs⟩ := hq
  refine zra [24, 25, 26, 27, 28, 29, 30, 31, 32, 33, 34, 35, 36, 37, 38, 39, 40, 41, 42, 43] (fun (q : MarketS × Nat) => []) (fun (q : MarketS × Nat) => [.cells b3 (zn (zaM q.1)), .cells b2 [nilS, .int .i64 0, .int .i64 0, .int .i64 0, .int .i64 0, .int .i64 0], St b l q.2]) (fun (q : MarketS × Nat) => GoodM q.1 ∧ q.2 ≤ a + 20) ?_ ?_
  ·skip
   refine za ?_
   refine dmv rfl ?_
   first
   | refine de rfl (zd (i := 0) zer rfl (WeakL.refl _) rfl (zaj (by first | assumption | omega | (simp; omega) | simp_all) (by first | assumption | omega | (simp; omega) | simp_all)) ?_)
   | refine de rfl (zd (i := 1) zer rfl (WeakL.refl _) rfl (zaj (by first | assumption | omega | (simp; omega) | simp_all) (by first | assumption | omega | (simp; omega) | simp_all)) ?_)
   | refine de rfl (zd (i := 2) zer rfl (WeakL.refl _) rfl (zaj (by first | assumption | omega | (simp; omega) | simp_all) (by first | assumption | omega | (simp; omega) | simp_all)) ?_)
   | refine de rfl (zd (i := 3) zer rfl (WeakL.refl _) rfl (zaj (by first | assumption | omega | (simp; omega) | simp_all) (by first | assumption | omega | (simp; omega) | simp_all)) ?_)
   rintro _ _ ⟨y25, rfl, rfl⟩
   refine dn ?_
   refine zi rfl (fun h1 => ?_) (fun h2 => ?_)
   ·try simp at h1
    refine zD ?_
    refine dq (ze zV rfl zR (by decide) rfl) ?_
    first
    | refine de rfl (zL (i := 0) zR rfl rfl (.inl ⟨rfl, rfl⟩) ?_)
    | refine de rfl (zL (i := 1) zR rfl rfl (.inl ⟨rfl, rfl⟩) ?_)
    | refine de rfl (zL (i := 2) zR rfl rfl (.inl ⟨rfl, rfl⟩) ?_)
    | refine de rfl (zL (i := 3) zR rfl rfl (.inl ⟨rfl, rfl⟩) ?_)
    refine de rfl (zeR zqW rfl (WeakL.refl _) (zce (by first | assumption | omega | (simp; omega) | simp_all)) fun v28 => ?_)
    refine dmv rfl ?_
    refine dq (zG (hs := [_, _, _]) zR ty9 rfl rfl (by decide) (by decide) rfl) ?_
    first
    | refine de rfl (zd (i := 0) zaE rfl (WeakL.refl _) rfl (zk (L := [_, _, _]) (by first | assumption | omega | (simp; omega) | simp_all) (by first | assumption | omega | (simp; omega) | simp_all) (by first | assumption | omega | (simp; omega) | simp_all)) ?_)
    | refine de rfl (zd (i := 1) zaE rfl (WeakL.refl _) rfl (zk (L := [_, _, _]) (by first | assumption | omega | (simp; omega) | simp_all) (by first | assumption | omega | (simp; omega) | simp_all) (by first | assumption | omega | (simp; omega) | simp_all)) ?_)
    | refine de rfl (zd (i := 2) zaE rfl (WeakL.refl _) rfl (zk (L := [_, _, _]) (by first | assumption | omega | (simp; omega) | simp_all) (by first | assumption | omega | (simp; omega) | simp_all) (by first | assumption | omega | (simp; omega) | simp_all)) ?_)
    | refine de rfl (zd (i := 3) zaE rfl (WeakL.refl _) rfl (zk (L := [_, _, _]) (by first | assumption | omega | (simp; omega) | simp_all) (by first | assumption | omega | (simp; omega) | simp_all) (by first | assumption | omega | (simp; omega) | simp_all)) ?_)
    rintro _ _ ⟨y31, rfl, hy31, rfl⟩
    refine dq (zG (hs := [_]) zR ty9 rfl rfl (by decide) (by decide) rfl) ?_
    first
    | refine de rfl (zay (i := 0) zR ty9 rfl rfl rfl rfl rfl (by simp [za5, zn]) (by first | omega | (simp; omega)) fun v33 => ?_)
    | refine de rfl (zay (i := 1) zR ty9 rfl rfl rfl rfl rfl (by simp [za5, zn]) (by first | omega | (simp; omega)) fun v33 => ?_)
    | refine de rfl (zay (i := 2) zR ty9 rfl rfl rfl rfl rfl (by simp [za5, zn]) (by first | omega | (simp; omega)) fun v33 => ?_)
    | refine de rfl (zay (i := 3) zR ty9 rfl rfl rfl rfl rfl (by simp [za5, zn]) (by first | omega | (simp; omega)) fun v33 => ?_)
    refine dmv rfl ?_
    first
    | refine de rfl (zd (i := 0) zeq rfl (WeakL.refl _) rfl (zan (by first | assumption | omega | (simp; omega) | simp_all) (by first | assumption | omega | (simp; omega) | simp_all) (by first | assumption | omega | (simp; omega) | simp_all) (by first | assumption | omega | (simp; omega) | simp_all)) ?_)
    | refine de rfl (zd (i := 1) zeq rfl (WeakL.refl _) rfl (zan (by first | assumption | omega | (simp; omega) | simp_all) (by first | assumption | omega | (simp; omega) | simp_all) (by first | assumption | omega | (simp; omega) | simp_all) (by first | assumption | omega | (simp; omega) | simp_all)) ?_)
    | refine de rfl (zd (i := 2) zeq rfl (WeakL.refl _) rfl (zan (by first | assumption | omega | (simp; omega) | simp_all) (by first | assumption | omega | (simp; omega) | simp_all) (by first | assumption | omega | (simp; omega) | simp_all) (by first | assumption | omega | (simp; omega) | simp_all)) ?_)
    | refine de rfl (zd (i := 3) zeq rfl (WeakL.refl _) rfl (zan (by first | assumption | omega | (simp; omega) | simp_all) (by first | assumption | omega | (simp; omega) | simp_all) (by first | assumption | omega | (simp; omega) | simp_all) (by first | assumption | omega | (simp; omega) | simp_all)) ?_)
    rintro _ _ ⟨y35, rfl, rfl⟩
    refine dmv rfl ?_
    first
    | refine de rfl (zd (i := 0) zeq rfl (WeakL.refl _) rfl (zan (by first | assumption | omega | (simp; omega) | simp_all) (by first | assumption | omega | (simp; omega) | simp_all) (by first | assumption | omega | (simp; omega) | simp_all) (by first | assumption | omega | (simp; omega) | simp_all)) ?_)
    | refine de rfl (zd (i := 1) zeq rfl (WeakL.refl _) rfl (zan (by first | assumption | omega | (simp; omega) | simp_all) (by first | assumption | omega | (simp; omega) | simp_all) (by first | assumption | omega | (simp; omega) | simp_all) (by first | assumption | omega | (simp; omega) | simp_all)) ?_)
    | refine de rfl (zd (i := 2) zeq rfl (WeakL.refl _) rfl (zan (by first | assumption | omega | (simp; omega) | simp_all) (by first | assumption | omega | (simp; omega) | simp_all) (by first | assumption | omega | (simp; omega) | simp_all) (by first | assumption | omega | (simp; omega) | simp_all)) ?_)
    | refine de rfl (zd (i := 3) zeq rfl (WeakL.refl _) rfl (zan (by first | assumption | omega | (simp; omega) | simp_all) (by first | assumption | omega | (simp; omega) | simp_all) (by first | assumption | omega | (simp; omega) | simp_all) (by first | assumption | omega | (simp; omega) | simp_all)) ?_)
    rintro _ _ ⟨y37, rfl, rfl⟩
    refine dmv rfl ?_
    first
    | refine de rfl (zd (i := 0) zeq rfl (WeakL.refl _) rfl (zan (by first | assumption | omega | (simp; omega) | simp_all) (by first | assumption | omega | (simp; omega) | simp_all) (by first | assumption | omega | (simp; omega) | simp_all) (by first | assumption | omega | (simp; omega) | simp_all)) ?_)
    | refine de rfl (zd (i := 1) zeq rfl (WeakL.refl _) rfl (zan (by first | assumption | omega | (simp; omega) | simp_all) (by first | assumption | omega | (simp; omega) | simp_all) (by first | assumption | omega | (simp; omega) | simp_all) (by first | assumption | omega | (simp; omega) | simp_all)) ?_)
    | refine de rfl (zd (i := 2) zeq rfl (WeakL.refl _) rfl (zan (by first | assumption | omega | (simp; omega) | simp_all) (by first | assumption | omega | (simp; omega) | simp_all) (by first | assumption | omega | (simp; omega) | simp_all) (by first | assumption | omega | (simp; omega) | simp_all)) ?_)
    | refine de rfl (zd (i := 3) zeq rfl (WeakL.refl _) rfl (zan (by first | assumption | omega | (simp; omega) | simp_all) (by first | assumption | omega | (simp; omega) | simp_all) (by first | assumption | omega | (simp; omega) | simp_all) (by first | assumption | omega | (simp; omega) | simp_all)) ?_)
    rintro _ _ ⟨y39, rfl, rfl⟩
    refine dq (ze zV rfl zR (by decide) rfl) ?_
    first
    | refine de0 (zA (i := 0) zR rfl rfl rfl rfl rfl (Nat.le_of_ble_eq_true rfl) ?_)
    | refine de0 (zA (i := 1) zR rfl rfl rfl rfl rfl (Nat.le_of_ble_eq_true rfl) ?_)
    | refine de0 (zA (i := 2) zR rfl rfl rfl rfl rfl (Nat.le_of_ble_eq_true rfl) ?_)
    | refine de0 (zA (i := 3) zR rfl rfl rfl rfl rfl (Nat.le_of_ble_eq_true rfl) ?_)
    refine dq (ze zV rfl ty3 (by decide) rfl) ?_
    first
    | refine de0 (zA (i := 0) ty3 rfl rfl rfl rfl rfl (Nat.le_of_ble_eq_true rfl) ?_)
    | refine de0 (zA (i := 1) ty3 rfl rfl rfl rfl rfl (Nat.le_of_ble_eq_true rfl) ?_)
    | refine de0 (zA (i := 2) ty3 rfl rfl rfl rfl rfl (Nat.le_of_ble_eq_true rfl) ?_)
    | refine de0 (zA (i := 3) ty3 rfl rfl rfl rfl rfl (Nat.le_of_ble_eq_true rfl) ?_)
    refine dq (ze zV rfl ty3 (by decide) rfl) ?_
    first
    | refine de0 (zA (i := 0) ty3 rfl rfl rfl rfl rfl (Nat.le_of_ble_eq_true rfl) ?_)
    | refine de0 (zA (i := 1) ty3 rfl rfl rfl rfl rfl (Nat.le_of_ble_eq_true rfl) ?_)
    | refine de0 (zA (i := 2) ty3 rfl rfl rfl rfl rfl (Nat.le_of_ble_eq_true rfl) ?_)
    | refine de0 (zA (i := 3) ty3 rfl rfl rfl rfl rfl (Nat.le_of_ble_eq_true rfl) ?_)
    refine dq (ze zV rfl ty3 (by decide) rfl) ?_
    first
    | refine de0 (zA (i := 0) ty3 rfl rfl rfl rfl rfl (Nat.le_of_ble_eq_true rfl) ?_)
    | refine de0 (zA (i := 1) ty3 rfl rfl rfl rfl rfl (Nat.le_of_ble_eq_true rfl) ?_)
    | refine de0 (zA (i := 2) ty3 rfl rfl rfl rfl rfl (Nat.le_of_ble_eq_true rfl) ?_)
    | refine de0 (zA (i := 3) ty3 rfl rfl rfl rfl rfl (Nat.le_of_ble_eq_true rfl) ?_)
    refine dn ?_
    (first | refine zca (Ghost.fcell (i := 0) (k := 0) (j := 0) rfl rfl rfl) ?_ | refine zca (Ghost.fcell (i := 0) (k := 1) (j := 0) rfl rfl rfl) ?_ | refine zca (Ghost.fcell (i := 0) (k := 2) (j := 0) rfl rfl rfl) ?_ | refine zca (Ghost.fcell (i := 0) (k := 3) (j := 0) rfl rfl rfl) ?_ | refine zca (Ghost.fcell (i := 1) (k := 0) (j := 0) rfl rfl rfl) ?_ | refine zca (Ghost.fcell (i := 1) (k := 1) (j := 0) rfl rfl rfl) ?_ | refine zca (Ghost.fcell (i := 1) (k := 2) (j := 0) rfl rfl rfl) ?_ | refine zca (Ghost.fcell (i := 1) (k := 3) (j := 0) rfl rfl rfl) ?_ | refine zca (Ghost.fcell (i := 2) (k := 0) (j := 0) rfl rfl rfl) ?_ | refine zca (Ghost.fcell (i := 2) (k := 1) (j := 0) rfl rfl rfl) ?_ | refine zca (Ghost.fcell (i := 2) (k := 2) (j := 0) rfl rfl rfl) ?_ | refine zca (Ghost.fcell (i := 2) (k := 3) (j := 0) rfl rfl rfl) ?_ | refine zca (Ghost.fcell (i := 3) (k := 0) (j := 0) rfl rfl rfl) ?_ | refine zca (Ghost.fcell (i := 3) (k := 1) (j := 0) rfl rfl rfl) ?_ | refine zca (Ghost.fcell (i := 3) (k := 2) (j := 0) rfl rfl rfl) ?_ | refine zca (Ghost.fcell (i := 3) (k := 3) (j := 0) rfl rfl rfl) ?_)
    refine zoO (⟨T ++ [y31], y35, y37, Dl, y39, Mo⟩, a + 14) ⟨?_, by dsimp only; omega⟩ trivial (by repeat (first | exact zt | refine zw rfl ?_ | refine zu rfl rfl ?_)) ?_
    ·exact ⟨by simp, by simp; omega, fun s hs => by
      rcases List.mem_append.1 hs with hs | hs
      ·exact hTs s hs
      ·rw [List.mem_singleton.1 hs]; simp at hy31; rcases hy31 with rfl | rfl | rfl <;> decide⟩
    ·repeat (first | exact List.Perm.nil | refine zP 0 rfl ?_ | refine zP 1 rfl ?_ | refine zP 2 rfl ?_ | refine zP 3 rfl ?_ | (refine zJ 0 rfl ?hq ?_; (case hq => simp [zY, zn]; done)) | (refine zJ 1 rfl ?hq ?_; (case hq => simp [zY, zn]; done)) | (refine zJ 2 rfl ?hq ?_; (case hq => simp [zY, zn]; done)) | (refine zJ 3 rfl ?hq ?_; (case hq => simp [zY, zn]; done)) | fail)
   ·try simp at h2
    refine zm ?_
    refine zoO (⟨T, Ve, Wa, Dl, Le, Mo⟩, a + 7) ⟨⟨hT0, Nat.le_succ_of_le hT5, hTs⟩, by dsimp only; omega⟩ trivial (by repeat (first | exact zt | refine zw rfl ?_ | refine zu rfl rfl ?_)) ?_
    ·repeat (first | exact List.Perm.nil | refine zP 0 rfl ?_ | refine zP 1 rfl ?_ | refine zP 2 rfl ?_ | refine zP 3 rfl ?_ | (refine zJ 0 rfl ?hq ?_; (case hq => simp [zY, zn]; done)) | (refine zJ 1 rfl ?hq ?_; (case hq => simp [zY, zn]; done)) | (refine zJ 2 rfl ?hq ?_; (case hq => simp [zY, zn]; done)) | (refine zJ 3 rfl ?hq ?_; (case hq => simp [zY, zn]; done)) | fail)
  ·intro q hq2
   obtain ⟨m, a2⟩ := q
   dsimp only at hq2
   refine za ?_
   first
   | refine de rfl (zeX (i := 0) zV rfl rfl rfl rfl rfl ?_)
   | refine de rfl (zeX (i := 1) zV rfl rfl rfl rfl rfl ?_)
   | refine de rfl (zeX (i := 2) zV rfl rfl rfl rfl rfl ?_)
   | refine de rfl (zeX (i := 3) zV rfl rfl rfl rfl rfl ?_)
   first
   | refine de0 (zA (i := 0) zV rfl rfl rfl rfl rfl (Nat.le_of_ble_eq_true rfl) ?_)
   | refine de0 (zA (i := 1) zV rfl rfl rfl rfl rfl (Nat.le_of_ble_eq_true rfl) ?_)
   | refine de0 (zA (i := 2) zV rfl rfl rfl rfl rfl (Nat.le_of_ble_eq_true rfl) ?_)
   | refine de0 (zA (i := 3) zV rfl rfl rfl rfl rfl (Nat.le_of_ble_eq_true rfl) ?_)
   refine dn ?_
   refine zl ?_
   exact ⟨_, _, (Ghost.drop).trans (Ghost.fc0 2 rfl), [_], _, ⟨⟨_, _, _, _, _, rfl, zV, .inr ⟨rfl, rfl, rfl⟩⟩, trivial⟩, Weak.refl _, m, a2, rfl, hq2.1, hq2.2, rfl⟩
end
section
open Go.HL
set_option maxHeartbeats 4000000 in
/-- (*benchwarmer/benchmake.Stream).AnswerList -/
theorem zbC [Tracks] {b : Nat} {l : List Int} {a : Nat} {m : MarketS} (ha : a ≤ 700000) (hm : GoodM m) : Con Tryz.prog 9 [pAt b, zaM m] [St b l a] (fun x M' => ∃ k a', x = zb5 k ∧ GoodRp k ∧ a' ≤ a + 100 ∧ M' = [St b l a']) := by
 have hm0 := hm.pos
 have hm5 := hm.len
 refine Con.of_body Tryz.func9 rfl Tryz.ntmps9 rfl rfl ?_
 refine za ?_
 refine dq (zat rfl rfl) ?_
 refine das rfl ?_
 refine dn ?_
 refine za ?_
 refine das rfl ?_
 refine dn ?_
 refine za ?_
 refine dmv rfl ?_
 refine dq (zG (hs := [_, _]) zbB ty3 rfl rfl (by decide) (by decide) rfl) ?_
 first
 | refine de rfl (zd (i := 0) zT rfl (WeakL.refl _) rfl (zc (L := [_, _]) (by first | assumption | omega | (simp; omega) | simp_all) (by first | assumption | omega | (simp; omega) | simp_all) (by first | assumption | omega | (simp; omega) | simp_all)) ?_)
 | refine de rfl (zd (i := 1) zT rfl (WeakL.refl _) rfl (zc (L := [_, _]) (by first | assumption | omega | (simp; omega) | simp_all) (by first | assumption | omega | (simp; omega) | simp_all) (by first | assumption | omega | (simp; omega) | simp_all)) ?_)
 | refine de rfl (zd (i := 2) zT rfl (WeakL.refl _) rfl (zc (L := [_, _]) (by first | assumption | omega | (simp; omega) | simp_all) (by first | assumption | omega | (simp; omega) | simp_all) (by first | assumption | omega | (simp; omega) | simp_all)) ?_)
 | refine de rfl (zd (i := 3) zT rfl (WeakL.refl _) rfl (zc (L := [_, _]) (by first | assumption | omega | (simp; omega) | simp_all) (by first | assumption | omega | (simp; omega) | simp_all) (by first | assumption | omega | (simp; omega) | simp_all)) ?_)
 rintro _ _ ⟨y12, rfl, hy12, rfl⟩
 refine das rfl ?_
 refine dn ?_
 refine zM (Ghost.perm (M' := [St b l (a + 1)]) (List.Perm.refl _)) ?_
 refine zM (Ghost.arr_nil 4) ?_
 refine zj ?_
 refine za ?_
 refine dmv rfl ?_
 first
 | refine de rfl (zd (i := 0) zb7 rfl (WeakL.refl _) rfl (zN (by first | assumption | omega | (simp; omega) | simp_all) (by first | assumption | omega | (simp; omega) | simp_all) (by first | assumption | omega | (simp; omega) | simp_all) (by first | assumption | omega | (simp; omega) | simp_all)) ?_)
 | refine de rfl (zd (i := 1) zb7 rfl (WeakL.refl _) rfl (zN (by first | assumption | omega | (simp; omega) | simp_all) (by first | assumption | omega | (simp; omega) | simp_all) (by first | assumption | omega | (simp; omega) | simp_all) (by first | assumption | omega | (simp; omega) | simp_all)) ?_)
 | refine de rfl (zd (i := 2) zb7 rfl (WeakL.refl _) rfl (zN (by first | assumption | omega | (simp; omega) | simp_all) (by first | assumption | omega | (simp; omega) | simp_all) (by first | assumption | omega | (simp; omega) | simp_all) (by first | assumption | omega | (simp; omega) | simp_all)) ?_)
 | refine de rfl (zd (i := 3) zb7 rfl (WeakL.refl _) rfl (zN (by first | assumption | omega | (simp; omega) | simp_all) (by first | assumption | omega | (simp; omega) | simp_all) (by first | assumption | omega | (simp; omega) | simp_all) (by first | assumption | omega | (simp; omega) | simp_all)) ?_)
 rintro _ _ ⟨y14, rfl, hy14, rfl⟩
 refine dmv rfl ?_
 refine dn ?_
 refine zq ?_
 refine zfA [5, 6, 7, 8, 15, 16, 17, 18, 19, 20, 21, 22, 23, 24, 25, 26, 27, 28, 29, 30, 31, 32, 33, 34, 35, 36, 37, 38, 39, 40, 41, 42, 43, 44, 45, 46, 47, 48, 49, 50, 51, 52, 53, 54, 55, 56, 57, 58, 59, 60, 61, 62, 63] (fun (k : Nat) (t : Int) (q : GL ReplyS) => [(15, .int .i64 (k : Int)), (6, .int .i64 t), (5, .raw q.u)]) (fun (k : Nat) (t : Int) (q : GL ReplyS) => [St b l q.a, .arr q.u 4 (q.out.map zbx)]) (fun (k : Nat) (t : Int) (q : GL ReplyS) => (k : Int) ≤ y14 ∧ (0 ≤ t ∧ t ≤ 5 + 30 * k) ∧ GLok zo0 k (a + 2 + 4 * k) q) (fun (k : Nat) (t : Int) (q : GL ReplyS) => y14.toNat - k) (0) (y12) (⟨.slice none 0 0, [], a + 2⟩) ?_ ?_ ?_ ?_
 ·exact ⟨by omega, ⟨by simp at hy12; omega, by simp at hy12; omega⟩, ⟨by simp, by simp, by dsimp only; omega⟩⟩
 ·exact ⟨rfl, rfl, rfl, trivial⟩
 ·repeat (first | exact List.Perm.nil | refine zP 0 rfl ?_ | refine zP 1 rfl ?_ | refine zP 2 rfl ?_ | refine zP 3 rfl ?_ | (refine zJ 0 rfl ?hq ?_; (case hq => simp [zY, zn]; done)) | (refine zJ 1 rfl ?hq ?_; (case hq => simp [zY, zn]; done)) | (refine zJ 2 rfl ?hq ?_; (case hq => simp [zY, zn]; done)) | (refine zJ 3 rfl ?hq ?_; (case hq => simp [zY, zn]; done)) | fail)
 ·intro k t q hinv
  obtain ⟨hk, ht, hq⟩ := hinv
  obtain ⟨u, out, a2⟩ := q
  obtain ⟨g1, g2, g3⟩ := id hq
  dsimp only at g1 g2 g3
  refine za ?_
  refine dq (zS rfl rfl) ?_
  refine dn ?_
  refine zj ?_
  refine zi rfl (fun h1 => ?_) (fun h2 => ?_)
  ·try simp at h1
   refine zm ?_
   refine zh ?_
   refine zj ?_
   refine zq ?_
   refine zeP [7, 17, 18, 19, 20, 21, 22, 23, 24, 25, 26, 27, 28] (fun (q7 : Nat × ReplyS) => [(7, pAt q7.1)]) (fun (q7 : Nat × ReplyS) => [St b l (a2 + 3), .arr u 4 (out.map zbx), .cells q7.1 (zn (zbx q7.2))]) (fun (q7 : Nat × ReplyS) => Sh q7.2.Offer) ?_ ?_
   ·skip
    refine zbM (fun _ => True) [] mixed ?_
    refine ahp 0 rfl rfl (by kernel_rfl) (by kernel_rfl) (zf rfl) ?_
    refine ahp 1 rfl rfl (by kernel_rfl) (by kernel_rfl) (zG (hs := [_, _, _, _, _, _]) zR ty9 rfl rfl (by decide) (by decide) rfl) ?_
    refine ahp 3 rfl rfl (by kernel_rfl) (by kernel_rfl) (zf rfl) ?_
    refine ahp 4 rfl rfl (by kernel_rfl) (by kernel_rfl) ((by first | exact zb zV rfl zR (by decide) rfl | exact ze zV rfl zR (by decide) rfl)) ?_
    refine ahp 5 rfl rfl (by kernel_rfl) (by kernel_rfl) (zg zR rfl rfl rfl) ?_
    refine ahp 7 rfl rfl (by kernel_rfl) (by kernel_rfl) (zf rfl) ?_
    refine ahp 8 rfl rfl (by kernel_rfl) (by kernel_rfl) (zf rfl) ?_
    refine ahp 9 rfl rfl (by kernel_rfl) (by kernel_rfl) (zG (hs := [_, _, _, _, _, _, _, _, _]) zbB ty3 rfl rfl (by decide) (by decide) rfl) ?_
    refine zgZ 2 12 rfl rfl (by kernel_rfl) ?_ ?_
    ·skip
     first
     | refine zv rfl (zd (i := 0) zaE rfl (WeakL.refl _) rfl (zk (L := [_, _, _, _, _, _]) (by first | assumption | omega | (simp; omega) | simp_all) (by first | assumption | omega | (simp; omega) | simp_all) (by first | assumption | omega | (simp; omega) | simp_all)) ?_)
     | refine zv rfl (zd (i := 1) zaE rfl (WeakL.refl _) rfl (zk (L := [_, _, _, _, _, _]) (by first | assumption | omega | (simp; omega) | simp_all) (by first | assumption | omega | (simp; omega) | simp_all) (by first | assumption | omega | (simp; omega) | simp_all)) ?_)
     | refine zv rfl (zd (i := 2) zaE rfl (WeakL.refl _) rfl (zk (L := [_, _, _, _, _, _]) (by first | assumption | omega | (simp; omega) | simp_all) (by first | assumption | omega | (simp; omega) | simp_all) (by first | assumption | omega | (simp; omega) | simp_all)) ?_)
     | refine zv rfl (zd (i := 3) zaE rfl (WeakL.refl _) rfl (zk (L := [_, _, _, _, _, _]) (by first | assumption | omega | (simp; omega) | simp_all) (by first | assumption | omega | (simp; omega) | simp_all) (by first | assumption | omega | (simp; omega) | simp_all)) ?_)
     rintro _ _ ⟨y19, rfl, hy19, rfl⟩
     refine ⟨fun _ => .inl trivial, ?_⟩
     refine zgZ 6 12 rfl rfl (by kernel_rfl) ?_ ?_
     ·skip
      first
      | refine zv rfl (zd (i := 0) zaE rfl (WeakL.refl _) rfl (zk (by first | assumption | omega | (simp; omega) | simp_all) (by first | assumption | omega | (simp; omega) | simp_all) (by first | assumption | omega | (simp; omega) | simp_all)) ?_)
      | refine zv rfl (zd (i := 1) zaE rfl (WeakL.refl _) rfl (zk (by first | assumption | omega | (simp; omega) | simp_all) (by first | assumption | omega | (simp; omega) | simp_all) (by first | assumption | omega | (simp; omega) | simp_all)) ?_)
      | refine zv rfl (zd (i := 2) zaE rfl (WeakL.refl _) rfl (zk (by first | assumption | omega | (simp; omega) | simp_all) (by first | assumption | omega | (simp; omega) | simp_all) (by first | assumption | omega | (simp; omega) | simp_all)) ?_)
      | refine zv rfl (zd (i := 3) zaE rfl (WeakL.refl _) rfl (zk (by first | assumption | omega | (simp; omega) | simp_all) (by first | assumption | omega | (simp; omega) | simp_all) (by first | assumption | omega | (simp; omega) | simp_all)) ?_)
      rintro _ _ ⟨y23, rfl, hy23, rfl⟩
      refine ⟨fun _ => .inl trivial, ?_⟩
      refine zgZ 10 12 rfl rfl (by kernel_rfl) ?_ ?_
      ·skip
       first
       | refine zv rfl (zd (i := 0) zT rfl (WeakL.refl _) rfl (zc (L := [_, _, _, _, _, _, _, _, _]) (by first | assumption | omega | (simp; omega) | simp_all) (by first | assumption | omega | (simp; omega) | simp_all) (by first | assumption | omega | (simp; omega) | simp_all)) ?_)
       | refine zv rfl (zd (i := 1) zT rfl (WeakL.refl _) rfl (zc (L := [_, _, _, _, _, _, _, _, _]) (by first | assumption | omega | (simp; omega) | simp_all) (by first | assumption | omega | (simp; omega) | simp_all) (by first | assumption | omega | (simp; omega) | simp_all)) ?_)
       | refine zv rfl (zd (i := 2) zT rfl (WeakL.refl _) rfl (zc (L := [_, _, _, _, _, _, _, _, _]) (by first | assumption | omega | (simp; omega) | simp_all) (by first | assumption | omega | (simp; omega) | simp_all) (by first | assumption | omega | (simp; omega) | simp_all)) ?_)
       | refine zv rfl (zd (i := 3) zT rfl (WeakL.refl _) rfl (zc (L := [_, _, _, _, _, _, _, _, _]) (by first | assumption | omega | (simp; omega) | simp_all) (by first | assumption | omega | (simp; omega) | simp_all) (by first | assumption | omega | (simp; omega) | simp_all)) ?_)
       rintro _ _ ⟨y27, rfl, hy27, rfl⟩
       refine ⟨fun _ => .inl trivial, ?_⟩
       refine ahp 11 rfl rfl (by kernel_rfl) (by kernel_rfl) (zaA (cs := [_, _, _, _]) z6 zpC rfl) ?_
       refine ahe 12 rfl (by kernel_rfl) ?_
       refine zv rfl (zZ z6 rfl fun b7 => ?_)
       refine ⟨fun _ => .inl trivial, ?_⟩
       refine ahe 13 rfl (by kernel_rfl) ?_
       first
       | refine zaa (zA (i := 0) z6 rfl rfl rfl rfl rfl (Nat.le_of_ble_eq_true rfl) ?_)
       | refine zaa (zA (i := 1) z6 rfl rfl rfl rfl rfl (Nat.le_of_ble_eq_true rfl) ?_)
       | refine zaa (zA (i := 2) z6 rfl rfl rfl rfl rfl (Nat.le_of_ble_eq_true rfl) ?_)
       | refine zaa (zA (i := 3) z6 rfl rfl rfl rfl rfl (Nat.le_of_ble_eq_true rfl) ?_)
       refine ⟨fun _ => .inl trivial, ?_⟩
       refine ahz (by kernel_rfl) ?_
       refine ⟨(b7, ⟨y19, y23, t, y27⟩), ?_, ⟨rfl, trivial⟩, (by repeat (first | exact zt | refine zw rfl ?_ | refine zu rfl rfl ?_)), ?_⟩
       ·exact zf6 (n := 2) (show y19.length ≤ 2 from by revert hy19; revert y19; decide) (by decide)
       ·repeat (first | exact List.Perm.nil | refine zP 0 rfl ?_ | refine zP 1 rfl ?_ | refine zP 2 rfl ?_ | refine zP 3 rfl ?_ | (refine zJ 0 rfl ?hq ?_; (case hq => simp [zY, zn]; done)) | (refine zJ 1 rfl ?hq ?_; (case hq => simp [zY, zn]; done)) | (refine zJ 2 rfl ?hq ?_; (case hq => simp [zY, zn]; done)) | (refine zJ 3 rfl ?hq ?_; (case hq => simp [zY, zn]; done)) | fail)
      ·skip
       refine zv rfl (zZ z6 rfl fun b7 => ?_)
       refine ⟨fun _ => .inl trivial, ?_⟩
       refine ahe 10 rfl (by kernel_rfl) ?_
       first
       | refine zv rfl (zd (i := 0) zT rfl (WeakL.refl _) rfl (zc (L := [_, _, _, _, _, _, _, _, _]) (by first | assumption | omega | (simp; omega) | simp_all) (by first | assumption | omega | (simp; omega) | simp_all) (by first | assumption | omega | (simp; omega) | simp_all)) ?_)
       | refine zv rfl (zd (i := 1) zT rfl (WeakL.refl _) rfl (zc (L := [_, _, _, _, _, _, _, _, _]) (by first | assumption | omega | (simp; omega) | simp_all) (by first | assumption | omega | (simp; omega) | simp_all) (by first | assumption | omega | (simp; omega) | simp_all)) ?_)
       | refine zv rfl (zd (i := 2) zT rfl (WeakL.refl _) rfl (zc (L := [_, _, _, _, _, _, _, _, _]) (by first | assumption | omega | (simp; omega) | simp_all) (by first | assumption | omega | (simp; omega) | simp_all) (by first | assumption | omega | (simp; omega) | simp_all)) ?_)
       | refine zv rfl (zd (i := 3) zT rfl (WeakL.refl _) rfl (zc (L := [_, _, _, _, _, _, _, _, _]) (by first | assumption | omega | (simp; omega) | simp_all) (by first | assumption | omega | (simp; omega) | simp_all) (by first | assumption | omega | (simp; omega) | simp_all)) ?_)
       rintro _ _ ⟨y27, rfl, hy27, rfl⟩
       refine ⟨fun _ => .inl trivial, ?_⟩
       refine ahp 11 rfl rfl (by kernel_rfl) (by kernel_rfl) (zaA (cs := [_, _, _, _]) z6 zpC rfl) ?_
       refine ahe 13 rfl (by kernel_rfl) ?_
       first
       | refine zaa (zA (i := 0) z6 rfl rfl rfl rfl rfl (Nat.le_of_ble_eq_true rfl) ?_)
       | refine zaa (zA (i := 1) z6 rfl rfl rfl rfl rfl (Nat.le_of_ble_eq_true rfl) ?_)
       | refine zaa (zA (i := 2) z6 rfl rfl rfl rfl rfl (Nat.le_of_ble_eq_true rfl) ?_)
       | refine zaa (zA (i := 3) z6 rfl rfl rfl rfl rfl (Nat.le_of_ble_eq_true rfl) ?_)
       refine ⟨fun _ => .inl trivial, ?_⟩
       refine ahz (by kernel_rfl) ?_
       refine ⟨(b7, ⟨y19, y23, t, y27⟩), ?_, ⟨rfl, trivial⟩, (by repeat (first | exact zt | refine zw rfl ?_ | refine zu rfl rfl ?_)), ?_⟩
       ·exact zf6 (n := 2) (show y19.length ≤ 2 from by revert hy19; revert y19; decide) (by decide)
       ·repeat (first | exact List.Perm.nil | refine zP 0 rfl ?_ | refine zP 1 rfl ?_ | refine zP 2 rfl ?_ | refine zP 3 rfl ?_ | (refine zJ 0 rfl ?hq ?_; (case hq => simp [zY, zn]; done)) | (refine zJ 1 rfl ?hq ?_; (case hq => simp [zY, zn]; done)) | (refine zJ 2 rfl ?hq ?_; (case hq => simp [zY, zn]; done)) | (refine zJ 3 rfl ?hq ?_; (case hq => simp [zY, zn]; done)) | fail)
     ·skip
      refine zv rfl (zZ z6 rfl fun b7 => ?_)
      refine ⟨fun _ => .inl trivial, ?_⟩
      refine ahe 6 rfl (by kernel_rfl) ?_
      first
      | refine zv rfl (zd (i := 0) zaE rfl (WeakL.refl _) rfl (zk (by first | assumption | omega | (simp; omega) | simp_all) (by first | assumption | omega | (simp; omega) | simp_all) (by first | assumption | omega | (simp; omega) | simp_all)) ?_)
      | refine zv rfl (zd (i := 1) zaE rfl (WeakL.refl _) rfl (zk (by first | assumption | omega | (simp; omega) | simp_all) (by first | assumption | omega | (simp; omega) | simp_all) (by first | assumption | omega | (simp; omega) | simp_all)) ?_)
      | refine zv rfl (zd (i := 2) zaE rfl (WeakL.refl _) rfl (zk (by first | assumption | omega | (simp; omega) | simp_all) (by first | assumption | omega | (simp; omega) | simp_all) (by first | assumption | omega | (simp; omega) | simp_all)) ?_)
      | refine zv rfl (zd (i := 3) zaE rfl (WeakL.refl _) rfl (zk (by first | assumption | omega | (simp; omega) | simp_all) (by first | assumption | omega | (simp; omega) | simp_all) (by first | assumption | omega | (simp; omega) | simp_all)) ?_)
      rintro _ _ ⟨y23, rfl, hy23, rfl⟩
      refine ⟨fun _ => .inl trivial, ?_⟩
      refine ahe 10 rfl (by kernel_rfl) ?_
      first
      | refine zv rfl (zd (i := 0) zT rfl (WeakL.refl _) rfl (zc (L := [_, _, _, _, _, _, _, _, _]) (by first | assumption | omega | (simp; omega) | simp_all) (by first | assumption | omega | (simp; omega) | simp_all) (by first | assumption | omega | (simp; omega) | simp_all)) ?_)
      | refine zv rfl (zd (i := 1) zT rfl (WeakL.refl _) rfl (zc (L := [_, _, _, _, _, _, _, _, _]) (by first | assumption | omega | (simp; omega) | simp_all) (by first | assumption | omega | (simp; omega) | simp_all) (by first | assumption | omega | (simp; omega) | simp_all)) ?_)
      | refine zv rfl (zd (i := 2) zT rfl (WeakL.refl _) rfl (zc (L := [_, _, _, _, _, _, _, _, _]) (by first | assumption | omega | (simp; omega) | simp_all) (by first | assumption | omega | (simp; omega) | simp_all) (by first | assumption | omega | (simp; omega) | simp_all)) ?_)
      | refine zv rfl (zd (i := 3) zT rfl (WeakL.refl _) rfl (zc (L := [_, _, _, _, _, _, _, _, _]) (by first | assumption | omega | (simp; omega) | simp_all) (by first | assumption | omega | (simp; omega) | simp_all) (by first | assumption | omega | (simp; omega) | simp_all)) ?_)
      rintro _ _ ⟨y27, rfl, hy27, rfl⟩
      refine ⟨fun _ => .inl trivial, ?_⟩
      refine ahp 11 rfl rfl (by kernel_rfl) (by kernel_rfl) (zaA (cs := [_, _, _, _]) z6 zpC rfl) ?_
      refine ahe 13 rfl (by kernel_rfl) ?_
      first
      | refine zaa (zA (i := 0) z6 rfl rfl rfl rfl rfl (Nat.le_of_ble_eq_true rfl) ?_)
      | refine zaa (zA (i := 1) z6 rfl rfl rfl rfl rfl (Nat.le_of_ble_eq_true rfl) ?_)
      | refine zaa (zA (i := 2) z6 rfl rfl rfl rfl rfl (Nat.le_of_ble_eq_true rfl) ?_)
      | refine zaa (zA (i := 3) z6 rfl rfl rfl rfl rfl (Nat.le_of_ble_eq_true rfl) ?_)
      refine ⟨fun _ => .inl trivial, ?_⟩
      refine ahz (by kernel_rfl) ?_
      refine ⟨(b7, ⟨y19, y23, t, y27⟩), ?_, ⟨rfl, trivial⟩, (by repeat (first | exact zt | refine zw rfl ?_ | refine zu rfl rfl ?_)), ?_⟩
      ·exact zf6 (n := 2) (show y19.length ≤ 2 from by revert hy19; revert y19; decide) (by decide)
      ·repeat (first | exact List.Perm.nil | refine zP 0 rfl ?_ | refine zP 1 rfl ?_ | refine zP 2 rfl ?_ | refine zP 3 rfl ?_ | (refine zJ 0 rfl ?hq ?_; (case hq => simp [zY, zn]; done)) | (refine zJ 1 rfl ?hq ?_; (case hq => simp [zY, zn]; done)) | (refine zJ 2 rfl ?hq ?_; (case hq => simp [zY, zn]; done)) | (refine zJ 3 rfl ?hq ?_; (case hq => simp [zY, zn]; done)) | fail)
    ·skip
     refine zv rfl (zZ z6 rfl fun b7 => ?_)
     refine ⟨fun _ => .inl trivial, ?_⟩
     refine ahe 2 rfl (by kernel_rfl) ?_
     first
     | refine zv rfl (zd (i := 0) zaE rfl (WeakL.refl _) rfl (zk (L := [_, _, _, _, _, _]) (by first | assumption | omega | (simp; omega) | simp_all) (by first | assumption | omega | (simp; omega) | simp_all) (by first | assumption | omega | (simp; omega) | simp_all)) ?_)
     | refine zv rfl (zd (i := 1) zaE rfl (WeakL.refl _) rfl (zk (L := [_, _, _, _, _, _]) (by first | assumption | omega | (simp; omega) | simp_all) (by first | assumption | omega | (simp; omega) | simp_all) (by first | assumption | omega | (simp; omega) | simp_all)) ?_)
     | refine zv rfl (zd (i := 2) zaE rfl (WeakL.refl _) rfl (zk (L := [_, _, _, _, _, _]) (by first | assumption | omega | (simp; omega) | simp_all) (by first | assumption | omega | (simp; omega) | simp_all) (by first | assumption | omega | (simp; omega) | simp_all)) ?_)
     | refine zv rfl (zd (i := 3) zaE rfl (WeakL.refl _) rfl (zk (L := [_, _, _, _, _, _]) (by first | assumption | omega | (simp; omega) | simp_all) (by first | assumption | omega | (simp; omega) | simp_all) (by first | assumption | omega | (simp; omega) | simp_all)) ?_)
     rintro _ _ ⟨y19, rfl, hy19, rfl⟩
     refine ⟨fun _ => .inl trivial, ?_⟩
     refine ahe 6 rfl (by kernel_rfl) ?_
     first
     | refine zv rfl (zd (i := 0) zaE rfl (WeakL.refl _) rfl (zk (by first | assumption | omega | (simp; omega) | simp_all) (by first | assumption | omega | (simp; omega) | simp_all) (by first | assumption | omega | (simp; omega) | simp_all)) ?_)
     | refine zv rfl (zd (i := 1) zaE rfl (WeakL.refl _) rfl (zk (by first | assumption | omega | (simp; omega) | simp_all) (by first | assumption | omega | (simp; omega) | simp_all) (by first | assumption | omega | (simp; omega) | simp_all)) ?_)
     | refine zv rfl (zd (i := 2) zaE rfl (WeakL.refl _) rfl (zk (by first | assumption | omega | (simp; omega) | simp_all) (by first | assumption | omega | (simp; omega) | simp_all) (by first | assumption | omega | (simp; omega) | simp_all)) ?_)
     | refine zv rfl (zd (i := 3) zaE rfl (WeakL.refl _) rfl (zk (by first | assumption | omega | (simp; omega) | simp_all) (by first | assumption | omega | (simp; omega) | simp_all) (by first | assumption | omega | (simp; omega) | simp_all)) ?_)
     rintro _ _ ⟨y23, rfl, hy23, rfl⟩
     refine ⟨fun _ => .inl trivial, ?_⟩
     refine ahe 10 rfl (by kernel_rfl) ?_
     first
     | refine zv rfl (zd (i := 0) zT rfl (WeakL.refl _) rfl (zc (L := [_, _, _, _, _, _, _, _, _]) (by first | assumption | omega | (simp; omega) | simp_all) (by first | assumption | omega | (simp; omega) | simp_all) (by first | assumption | omega | (simp; omega) | simp_all)) ?_)
     | refine zv rfl (zd (i := 1) zT rfl (WeakL.refl _) rfl (zc (L := [_, _, _, _, _, _, _, _, _]) (by first | assumption | omega | (simp; omega) | simp_all) (by first | assumption | omega | (simp; omega) | simp_all) (by first | assumption | omega | (simp; omega) | simp_all)) ?_)
     | refine zv rfl (zd (i := 2) zT rfl (WeakL.refl _) rfl (zc (L := [_, _, _, _, _, _, _, _, _]) (by first | assumption | omega | (simp; omega) | simp_all) (by first | assumption | omega | (simp; omega) | simp_all) (by first | assumption | omega | (simp; omega) | simp_all)) ?_)
     | refine zv rfl (zd (i := 3) zT rfl (WeakL.refl _) rfl (zc (L := [_, _, _, _, _, _, _, _, _]) (by first | assumption | omega | (simp; omega) | simp_all) (by first | assumption | omega | (simp; omega) | simp_all) (by first | assumption | omega | (simp; omega) | simp_all)) ?_)
     rintro _ _ ⟨y27, rfl, hy27, rfl⟩
     refine ⟨fun _ => .inl trivial, ?_⟩
     refine ahp 11 rfl rfl (by kernel_rfl) (by kernel_rfl) (zaA (cs := [_, _, _, _]) z6 zpC rfl) ?_
     refine ahe 13 rfl (by kernel_rfl) ?_
     first
     | refine zaa (zA (i := 0) z6 rfl rfl rfl rfl rfl (Nat.le_of_ble_eq_true rfl) ?_)
     | refine zaa (zA (i := 1) z6 rfl rfl rfl rfl rfl (Nat.le_of_ble_eq_true rfl) ?_)
     | refine zaa (zA (i := 2) z6 rfl rfl rfl rfl rfl (Nat.le_of_ble_eq_true rfl) ?_)
     | refine zaa (zA (i := 3) z6 rfl rfl rfl rfl rfl (Nat.le_of_ble_eq_true rfl) ?_)
     refine ⟨fun _ => .inl trivial, ?_⟩
     refine ahz (by kernel_rfl) ?_
     refine ⟨(b7, ⟨y19, y23, t, y27⟩), ?_, ⟨rfl, trivial⟩, (by repeat (first | exact zt | refine zw rfl ?_ | refine zu rfl rfl ?_)), ?_⟩
     ·exact zf6 (n := 2) (show y19.length ≤ 2 from by revert hy19; revert y19; decide) (by decide)
     ·repeat (first | exact List.Perm.nil | refine zP 0 rfl ?_ | refine zP 1 rfl ?_ | refine zP 2 rfl ?_ | refine zP 3 rfl ?_ | (refine zJ 0 rfl ?hq ?_; (case hq => simp [zY, zn]; done)) | (refine zJ 1 rfl ?hq ?_; (case hq => simp [zY, zn]; done)) | (refine zJ 2 rfl ?hq ?_; (case hq => simp [zY, zn]; done)) | (refine zJ 3 rfl ?hq ?_; (case hq => simp [zY, zn]; done)) | fail)
   ·intro q7 hq7
    obtain ⟨b7, x7⟩ := q7
    dsimp only at hq7
    refine zM (Ghost.fc 7 (i := 2) rfl rfl) ?_
    refine zj ?_
    refine za ?_
    refine dmv rfl ?_
    refine de rfl (zaG (i := 1) (es := out) zcb rfl rfl ?_)
    refine das rfl ?_
    refine dn ?_
    refine zs9 (i := 1) rfl (fun p ob off cap hp hv => ?_)
    rw [List.length_map] at hv
    subst hv
    refine zaH (fun M => ∃ i : Nat, M[i]? = some (.arr (.slice p out.length cap) 4 (out.map zbx))) [8, 18] mixed ?_
    refine ahp 0 rfl rfl (by kernel_rfl) (by kernel_rfl) (zf rfl) ?_
    refine ahp 1 rfl rfl (by kernel_rfl) (by kernel_rfl) (zas rfl rfl) ?_
    refine ahp 2 rfl rfl (by kernel_rfl) (by kernel_rfl) (zf rfl) ?_
    refine ahg 3 rfl rfl (by kernel_rfl) (by kernel_rfl) rfl (fun hc => ⟨_, OpenTo.refl _, zf rfl⟩) ?_
    refine ahg 4 rfl rfl (by kernel_rfl) (by kernel_rfl) rfl (fun hc => ⟨_, OpenTo.refl _, zf rfl⟩) ?_
    refine ahg 5 rfl rfl (by kernel_rfl) (by kernel_rfl) rfl (fun hc => by have hq := hc; (try simp at hq); exact ⟨_, OpenTo.upd (t := 35) rfl (by first | exact hc | simp_all) (OpenTo.refl _), zar rfl rfl (by omega) (by omega)⟩) ?_
    refine ahg 6 rfl rfl (by kernel_rfl) (by kernel_rfl) rfl (fun hc => by
     have hp2 := hp.resolve_right (fun e => by have e2 := List.map_eq_nil_iff.1 e; subst e2; simp at hc)
     have hne : 0 < out.length := List.length_pos_iff.2 (fun e => by subst e; simp at hc)
     exact ⟨_, OpenTo.upd (t := 36) rfl (by first | exact hc | simp_all) (OpenTo.upd (t := 34) rfl (by first | exact hc | simp_all) (OpenTo.refl _)), zaD (j := out.length - 1) zcb z6 (congrArg (fun q => some (HVal.raw (Value.slice q out.length cap))) hp2) rfl (by omega) (by omega)⟩) ?_
    refine ahg 7 rfl rfl (by kernel_rfl) (by kernel_rfl) rfl (fun hc => ⟨_, OpenTo.upd (t := 37) rfl (by first | exact hc | simp_all) (OpenTo.refl _), (by first | exact zb z6 rfl ty3 (by decide) rfl | exact ze z6 rfl ty3 (by decide) rfl)⟩) ?_
    refine zgY 8 rfl rfl (by kernel_rfl) (by kernel_rfl) (by simp) (by first | exact ⟨0, rfl⟩ | exact ⟨1, rfl⟩) rfl (fun hc => ⟨_, OpenTo.upd (t := 38) rfl (by first | exact hc | simp_all) (OpenTo.refl _), fun M hM => by
     have hp2 := hp.resolve_right (fun e => by have e2 := List.map_eq_nil_iff.1 e; subst e2; simp at hc); obtain ⟨i, hi⟩ := hM; rw [hp2] at hi; exact za4 (i := i) (j := out.length - 1) (y := out.getD (out.length - 1) zbD) 2 ty3 rfl (by omega) hi (getD_some (by have : out ≠ [] := (fun e => by (subst e; simp at hc)); have := List.length_pos_iff.2 this; omega)) rfl rfl ⟨rfl, rfl⟩
     ⟩) ?_
    refine ahg 9 rfl rfl (by kernel_rfl) (by kernel_rfl) rfl (fun hc => ⟨_, OpenTo.refl _, zf rfl⟩) ?_
    refine ahg 10 rfl rfl (by kernel_rfl) (by kernel_rfl) rfl (fun hc => ⟨_, OpenTo.upd (t := 40) rfl (by first | exact hc | simp_all) (OpenTo.upd (t := 39) rfl (by first | exact hc | simp_all) (OpenTo.refl _)), zS rfl rfl⟩) ?_
    refine ahp 11 rfl rfl (by kernel_rfl) (by kernel_rfl) (zz rfl (.inl rfl) (.inr ⟨_, rfl, fun h => by simp_all⟩)) ?_
    refine ahp 12 rfl rfl (by kernel_rfl) (by kernel_rfl) (zf rfl) ?_
    refine ahg 13 rfl rfl (by kernel_rfl) (by kernel_rfl) rfl (fun hc => ⟨_, OpenTo.refl _, zf rfl⟩) ?_
    refine ahg 14 rfl rfl (by kernel_rfl) (by kernel_rfl) rfl (fun hc => ⟨_, OpenTo.refl _, zf rfl⟩) ?_
    refine ahg 15 rfl rfl (by kernel_rfl) (by kernel_rfl) rfl (fun hc => by have hq := hc; (try simp at hq); exact ⟨_, OpenTo.upd (t := 45) rfl (by first | exact hc | simp_all) (OpenTo.refl _), zar rfl rfl (by omega) (by omega)⟩) ?_
    refine ahg 16 rfl rfl (by kernel_rfl) (by kernel_rfl) rfl (fun hc => by
     have hp2 := hp.resolve_right (fun e => by have e2 := List.map_eq_nil_iff.1 e; subst e2; simp at hc)
     have hne : 0 < out.length := List.length_pos_iff.2 (fun e => by subst e; simp at hc)
     exact ⟨_, OpenTo.upd (t := 46) rfl (by first | exact hc | simp_all) (OpenTo.upd (t := 44) rfl (by first | exact hc | simp_all) (OpenTo.refl _)), zaD (j := out.length - 1) zcb z6 (congrArg (fun q => some (HVal.raw (Value.slice q out.length cap))) hp2) rfl (by omega) (by omega)⟩) ?_
    refine ahg 17 rfl rfl (by kernel_rfl) (by kernel_rfl) rfl (fun hc => ⟨_, OpenTo.upd (t := 47) rfl (by first | exact hc | simp_all) (OpenTo.refl _), (by first | exact zb z6 rfl ty9 (by decide) rfl | exact ze z6 rfl ty9 (by decide) rfl)⟩) ?_
    refine zgY 18 rfl rfl (by kernel_rfl) (by kernel_rfl) (by simp) (by first | exact ⟨0, rfl⟩ | exact ⟨1, rfl⟩) rfl (fun hc => ⟨_, OpenTo.upd (t := 48) rfl (by first | exact hc | simp_all) (OpenTo.refl _), fun M hM => by
     have hp2 := hp.resolve_right (fun e => by have e2 := List.map_eq_nil_iff.1 e; subst e2; simp at hc); obtain ⟨i, hi⟩ := hM; rw [hp2] at hi; exact za4 (i := i) (j := out.length - 1) (y := out.getD (out.length - 1) zbD) 0 ty9 rfl (by omega) hi (getD_some (by have : out ≠ [] := (fun e => by (subst e; simp at hc)); have := List.length_pos_iff.2 this; omega)) rfl rfl ⟨rfl, rfl⟩
     ⟩) ?_
    refine ahg 19 rfl rfl (by kernel_rfl) (by kernel_rfl) rfl (fun hc => ⟨_, OpenTo.refl _, zb z6 rfl ty9 (by decide) rfl⟩) ?_
    refine ahg 20 rfl rfl (by kernel_rfl) (by kernel_rfl) rfl (fun hc => ⟨_, OpenTo.upd (t := 50) rfl (by first | exact hc | simp_all) (OpenTo.refl _), zg ty9 rfl rfl rfl⟩) ?_
    refine ahg 21 rfl rfl (by kernel_rfl) (by kernel_rfl) rfl (fun hc => ⟨_, OpenTo.upd (t := 51) rfl (by first | exact hc | simp_all) (OpenTo.upd (t := 49) rfl (by first | exact hc | simp_all) (OpenTo.refl _)), znw rfl rfl⟩) ?_
    refine ahp 22 rfl rfl (by kernel_rfl) (by kernel_rfl) (zz rfl (.inl rfl) (.inr ⟨_, rfl, fun h => by simp_all⟩)) ?_
    refine ahz (by kernel_rfl) ?_
    refine zi rfl (fun h3 => ?_) (fun h4 => ?_)
    ·try simp at h3
     refine zD ?_
     refine dmv rfl ?_
     refine dq (zH z6 rfl rfl rfl rfl) ?_
     refine dq (zG (hs := [_]) zcb z6 rfl rfl (by decide) (by decide) rfl) ?_
     refine de rfl (zay (i := 1) zcb z6 rfl rfl rfl rfl rfl (by simp [za5, zn]) (by simp; omega) fun v57 => ?_)
     refine das rfl ?_
     refine dn ?_
     refine zh ?_
     refine zD ?_
     refine dmv rfl ?_
     refine dmv rfl ?_
     refine dq (zG (hs := [_, _, _, _, _]) zbB ty3 rfl rfl (by decide) (by decide) rfl) ?_
     first
     | refine de rfl (zd (i := 0) zT rfl (WeakL.refl _) rfl (zc (L := [_, _, _, _, _]) (by first | assumption | omega | (simp; omega) | simp_all) (by first | assumption | omega | (simp; omega) | simp_all) (by first | assumption | omega | (simp; omega) | simp_all)) ?_)
     | refine de rfl (zd (i := 1) zT rfl (WeakL.refl _) rfl (zc (L := [_, _, _, _, _]) (by first | assumption | omega | (simp; omega) | simp_all) (by first | assumption | omega | (simp; omega) | simp_all) (by first | assumption | omega | (simp; omega) | simp_all)) ?_)
     | refine de rfl (zd (i := 2) zT rfl (WeakL.refl _) rfl (zc (L := [_, _, _, _, _]) (by first | assumption | omega | (simp; omega) | simp_all) (by first | assumption | omega | (simp; omega) | simp_all) (by first | assumption | omega | (simp; omega) | simp_all)) ?_)
     | refine de rfl (zd (i := 3) zT rfl (WeakL.refl _) rfl (zc (L := [_, _, _, _, _]) (by first | assumption | omega | (simp; omega) | simp_all) (by first | assumption | omega | (simp; omega) | simp_all) (by first | assumption | omega | (simp; omega) | simp_all)) ?_)
     rintro _ _ ⟨y61, rfl, hy61, rfl⟩
     refine dq (zB rfl rfl (by simp at hy61; omega) (by simp at hy61; omega)) ?_
     refine das rfl ?_
     refine dn ?_
     refine zy ?_
     refine zh ?_
     refine zD ?_
     refine dq (zB rfl rfl (by omega) (by omega)) ?_
     refine dmv rfl ?_
     refine dn ?_
     exact ⟨k + 1, t + y61, ⟨v57, out ++ [x7], a2 + 4⟩, ⟨by omega, ⟨by simp at hy61; omega, by simp at hy61; omega⟩, hq.add (x := x7) hq7 (by omega)⟩, by dsimp only; omega, ⟨rfl, rfl, rfl, trivial⟩, (by repeat (first | exact zt | refine zw rfl ?_ | refine zu rfl rfl ?_)), by repeat (first | exact List.Perm.nil | refine zP 0 rfl ?_ | refine zP 1 rfl ?_ | refine zP 2 rfl ?_ | refine zP 3 rfl ?_ | (refine zJ 0 rfl ?hq ?_; (case hq => simp [zY, zn]; done)) | (refine zJ 1 rfl ?hq ?_; (case hq => simp [zY, zn]; done)) | (refine zJ 2 rfl ?hq ?_; (case hq => simp [zY, zn]; done)) | (refine zJ 3 rfl ?hq ?_; (case hq => simp [zY, zn]; done)) | fail)⟩
    ·try simp at h4
     refine zm ?_
     refine zh ?_
     refine zD ?_
     refine dmv rfl ?_
     refine dmv rfl ?_
     refine dq (zG (hs := [_, _, _, _, _]) zbB ty3 rfl rfl (by decide) (by decide) rfl) ?_
     first
     | refine de rfl (zd (i := 0) zT rfl (WeakL.refl _) rfl (zc (L := [_, _, _, _, _]) (by first | assumption | omega | (simp; omega) | simp_all) (by first | assumption | omega | (simp; omega) | simp_all) (by first | assumption | omega | (simp; omega) | simp_all)) ?_)
     | refine de rfl (zd (i := 1) zT rfl (WeakL.refl _) rfl (zc (L := [_, _, _, _, _]) (by first | assumption | omega | (simp; omega) | simp_all) (by first | assumption | omega | (simp; omega) | simp_all) (by first | assumption | omega | (simp; omega) | simp_all)) ?_)
     | refine de rfl (zd (i := 2) zT rfl (WeakL.refl _) rfl (zc (L := [_, _, _, _, _]) (by first | assumption | omega | (simp; omega) | simp_all) (by first | assumption | omega | (simp; omega) | simp_all) (by first | assumption | omega | (simp; omega) | simp_all)) ?_)
     | refine de rfl (zd (i := 3) zT rfl (WeakL.refl _) rfl (zc (L := [_, _, _, _, _]) (by first | assumption | omega | (simp; omega) | simp_all) (by first | assumption | omega | (simp; omega) | simp_all) (by first | assumption | omega | (simp; omega) | simp_all)) ?_)
     rintro _ _ ⟨y61, rfl, hy61, rfl⟩
     refine dq (zB rfl rfl (by simp at hy61; omega) (by simp at hy61; omega)) ?_
     refine das rfl ?_
     refine dn ?_
     refine zy ?_
     refine zh ?_
     refine zD ?_
     refine dq (zB rfl rfl (by omega) (by omega)) ?_
     refine dmv rfl ?_
     refine dn ?_
     exact ⟨k + 1, t + y61, ⟨.slice p out.length cap, out, a2 + 4⟩, ⟨by omega, ⟨by simp at hy61; omega, by simp at hy61; omega⟩, hq.same (by omega)⟩, by dsimp only; omega, ⟨rfl, rfl, rfl, trivial⟩, (by repeat (first | exact zt | refine zw rfl ?_ | refine zu rfl rfl ?_)), by repeat (first | exact List.Perm.nil | refine zP 0 rfl ?_ | refine zP 1 rfl ?_ | refine zP 2 rfl ?_ | refine zP 3 rfl ?_ | (refine zJ 0 rfl ?hq ?_; (case hq => simp [zY, zn]; done)) | (refine zJ 1 rfl ?hq ?_; (case hq => simp [zY, zn]; done)) | (refine zJ 2 rfl ?hq ?_; (case hq => simp [zY, zn]; done)) | (refine zJ 3 rfl ?hq ?_; (case hq => simp [zY, zn]; done)) | fail)⟩
  ·try simp at h2
   refine zX ?_
   refine z8 ?_
   refine zgo ?_
   refine zO ?_
   refine zh ?_
   refine zeP [9, 64, 65, 66, 67, 68, 69, 70, 71, 72, 73, 74, 75, 76, 77, 78, 79, 80, 81, 82, 83, 84, 85, 86, 87, 88, 89, 90, 91, 92, 93, 94, 95, 96, 97, 98, 99, 100, 101, 102, 103, 104, 105, 106, 107, 108, 109, 110, 111] (fun (q : List ReplyS × Nat) => []) (fun (q : List ReplyS × Nat) => [St b l q.2, .arr u 4 (q.1.map zbx)]) (fun (q : List ReplyS × Nat) => q.1.length ≤ 12 ∧ (∀ x ∈ q.1, Sh x.Offer) ∧ q.2 ≤ a + 100) ?_ ?_
   ·skip
    refine za ?_
    refine dmv rfl ?_
    first
    | refine de rfl (zaG (i := 0) zcb rfl rfl ?_)
    | refine de rfl (zaG (i := 1) zcb rfl rfl ?_)
    | refine de rfl (zaG (i := 2) zcb rfl rfl ?_)
    | refine de rfl (zaG (i := 3) zcb rfl rfl ?_)
    refine dq (zad rfl rfl) ?_
    refine dmv rfl ?_
    refine dg rfl rfl (fun hc => ⟨_, OpenTo.refl _, zf rfl⟩) ?_
    refine dgx (fun x M' => ∃ (y : Bool) (a3 : Nat), x = .bool y ∧ a3 ≤ a2 + 1 ∧ M' = [St b l a3, .arr u 4 (out.map zbx)]) rfl rfl (fun hc => ⟨_, false, a2, rfl, by omega, rfl⟩) (fun hc => ⟨_, OpenTo.upd (t := 68) rfl (by first | exact hc | simp_all) (OpenTo.refl _), zd (i := 0) zer rfl (WeakL.refl _) rfl (zaj (a := a2) (by omega) (by omega)) (fun h M' hh => by
     obtain ⟨y, h1, h2⟩ := hh
     exact ⟨y, a2 + 1, h1, by omega, by rw [h2]; rfl⟩)⟩) ?_
    rintro _ _ ⟨y, a3, rfl, ha3, rfl⟩
    refine dq (zz rfl (.inr ⟨_, rfl, fun h => by simp_all⟩) (.inl rfl)) ?_
    refine dn ?_
    refine zi rfl (fun h5 => ?_) (fun h6 => ?_)
    ·try simp at h5
     have ho0 : 0 < out.length := by simp_all
     refine zdy (i := 1) rfl (fun h0 he => ?_) (fun ob off cap hv hcap => ?_)
     ·exfalso; have := congrArg List.length he; simp at this; subst this; simp at ho0
     subst hv
     refine za ?_
     refine dmv rfl ?_
     refine dmv rfl ?_
     refine dmv rfl ?_
     first
     | refine de rfl (zaG (i := 0) zcb rfl rfl ?_)
     | refine de rfl (zaG (i := 1) zcb rfl rfl ?_)
     | refine de rfl (zaG (i := 2) zcb rfl rfl ?_)
     | refine de rfl (zaG (i := 3) zcb rfl rfl ?_)
     first
     | refine de rfl (zd (i := 0) zdr rfl (WeakL.refl _) rfl (z7 (by first | assumption | omega | (simp; omega) | simp_all) (by first | assumption | omega | (simp; omega) | simp_all)) ?_)
     | refine de rfl (zd (i := 1) zdr rfl (WeakL.refl _) rfl (z7 (by first | assumption | omega | (simp; omega) | simp_all) (by first | assumption | omega | (simp; omega) | simp_all)) ?_)
     | refine de rfl (zd (i := 2) zdr rfl (WeakL.refl _) rfl (z7 (by first | assumption | omega | (simp; omega) | simp_all) (by first | assumption | omega | (simp; omega) | simp_all)) ?_)
     | refine de rfl (zd (i := 3) zdr rfl (WeakL.refl _) rfl (z7 (by first | assumption | omega | (simp; omega) | simp_all) (by first | assumption | omega | (simp; omega) | simp_all)) ?_)
     rintro _ _ ⟨y75, rfl, hy75, rfl⟩
     refine dq (zaD (j := y75) zcb z6 rfl rfl rfl (by simp; omega)) ?_
     refine das rfl ?_
     refine dn ?_
     obtain ⟨x, hx⟩ : ∃ x, out[y75]? = some x := ⟨_, List.getElem?_eq_getElem (by omega)⟩
     refine zbM (fun M => ∃ i : Nat, M[i]? = some (.arr (.slice (some ⟨ob, off, none⟩) (out.map zbx).length cap) 4 (out.map zbx))) [8, 15, 22] mixed ?_
     refine ahp 0 rfl rfl (by kernel_rfl) (by kernel_rfl) (zf rfl) ?_
     refine ahp 1 rfl rfl (by kernel_rfl) (by kernel_rfl) (zf rfl) ?_
     refine ahp 2 rfl rfl (by kernel_rfl) (by kernel_rfl) (zf rfl) ?_
     refine ahp 3 rfl rfl (by kernel_rfl) (by kernel_rfl) (zf rfl) ?_
     refine ahp 4 rfl rfl (by kernel_rfl) (by kernel_rfl) (zf rfl) ?_
     refine ahp 5 rfl rfl (by kernel_rfl) (by kernel_rfl) (zf rfl) ?_
     refine ahp 6 rfl rfl (by kernel_rfl) (by kernel_rfl) ((by first | exact zx rfl | exact zo rfl)) ?_
     refine ahp 7 rfl rfl (by kernel_rfl) (by kernel_rfl) ((by first | exact zb z6 rfl ty9 (by decide) rfl | exact ze z6 rfl ty9 (by decide) rfl)) ?_
     refine ahl 8 rfl rfl (by kernel_rfl) (by kernel_rfl) (by simp) ⟨1, rfl⟩ (fun M hM => by obtain ⟨i, hi⟩ := hM; exact za4 (i := i) (j := y75) 0 ty9 rfl (by omega) hi hx rfl rfl ⟨rfl, rfl⟩) ?_
     refine ahp 9 rfl rfl (by kernel_rfl) (by kernel_rfl) (zG (hs := [_, _]) zR ty9 rfl rfl (by decide) (by decide) rfl) ?_
     refine ahp 11 rfl rfl (by kernel_rfl) (by kernel_rfl) (zf rfl) ?_
     refine ahp 12 rfl rfl (by kernel_rfl) (by kernel_rfl) (zf rfl) ?_
     refine ahp 13 rfl rfl (by kernel_rfl) (by kernel_rfl) ((by first | exact zx rfl | exact zo rfl)) ?_
     refine ahp 14 rfl rfl (by kernel_rfl) (by kernel_rfl) ((by first | exact zb z6 rfl ty9 (by decide) rfl | exact ze z6 rfl ty9 (by decide) rfl)) ?_
     refine ahl 15 rfl rfl (by kernel_rfl) (by kernel_rfl) (by simp) ⟨1, rfl⟩ (fun M hM => by obtain ⟨i, hi⟩ := hM; exact za4 (i := i) (j := y75) 1 ty9 rfl (by omega) hi hx rfl rfl ⟨rfl, rfl⟩) ?_
     refine ahp 16 rfl rfl (by kernel_rfl) (by kernel_rfl) (zG (hs := [_, _]) zR ty9 rfl rfl (by decide) (by decide) rfl) ?_
     refine ahp 18 rfl rfl (by kernel_rfl) (by kernel_rfl) (zf rfl) ?_
     refine ahp 19 rfl rfl (by kernel_rfl) (by kernel_rfl) (zf rfl) ?_
     refine ahp 20 rfl rfl (by kernel_rfl) (by kernel_rfl) ((by first | exact zx rfl | exact zo rfl)) ?_
     refine ahp 21 rfl rfl (by kernel_rfl) (by kernel_rfl) ((by first | exact zb z6 rfl ty3 (by decide) rfl | exact ze z6 rfl ty3 (by decide) rfl)) ?_
     refine ahl 22 rfl rfl (by kernel_rfl) (by kernel_rfl) (by simp) ⟨1, rfl⟩ (fun M hM => by obtain ⟨i, hi⟩ := hM; exact za4 (i := i) (j := y75) 2 ty3 rfl (by omega) hi hx rfl rfl ⟨rfl, rfl⟩) ?_
     refine ahp 23 rfl rfl (by kernel_rfl) (by kernel_rfl) (zG (hs := [_, _, _]) zbB ty3 rfl rfl (by decide) (by decide) rfl) ?_
     refine ahp 25 rfl rfl (by kernel_rfl) (by kernel_rfl) (zf rfl) ?_
     refine ahe 10 rfl (by kernel_rfl) ?_
     first
     | refine zv rfl (zd (i := 0) zaE rfl (WeakL.refl _) rfl (zk (L := [_, _]) (by first | assumption | omega | (simp; omega) | simp_all) (by first | assumption | omega | (simp; omega) | simp_all) (by first | assumption | omega | (simp; omega) | simp_all)) ?_)
     | refine zv rfl (zd (i := 1) zaE rfl (WeakL.refl _) rfl (zk (L := [_, _]) (by first | assumption | omega | (simp; omega) | simp_all) (by first | assumption | omega | (simp; omega) | simp_all) (by first | assumption | omega | (simp; omega) | simp_all)) ?_)
     | refine zv rfl (zd (i := 2) zaE rfl (WeakL.refl _) rfl (zk (L := [_, _]) (by first | assumption | omega | (simp; omega) | simp_all) (by first | assumption | omega | (simp; omega) | simp_all) (by first | assumption | omega | (simp; omega) | simp_all)) ?_)
     | refine zv rfl (zd (i := 3) zaE rfl (WeakL.refl _) rfl (zk (L := [_, _]) (by first | assumption | omega | (simp; omega) | simp_all) (by first | assumption | omega | (simp; omega) | simp_all) (by first | assumption | omega | (simp; omega) | simp_all)) ?_)
     rintro _ _ ⟨y87, rfl, hy87, rfl⟩
     refine ⟨fun _ => by first | exact .inl ⟨0, rfl⟩ | exact .inl ⟨1, rfl⟩ | exact .inl ⟨2, rfl⟩ | exact .inr (by simp [zaN, Region.binds]), ?_⟩
     refine ahe 17 rfl (by kernel_rfl) ?_
     first
     | refine zv rfl (zd (i := 0) zaE rfl (WeakL.refl _) rfl (zk (L := [_, _]) (by first | assumption | omega | (simp; omega) | simp_all) (by first | assumption | omega | (simp; omega) | simp_all) (by first | assumption | omega | (simp; omega) | simp_all)) ?_)
     | refine zv rfl (zd (i := 1) zaE rfl (WeakL.refl _) rfl (zk (L := [_, _]) (by first | assumption | omega | (simp; omega) | simp_all) (by first | assumption | omega | (simp; omega) | simp_all) (by first | assumption | omega | (simp; omega) | simp_all)) ?_)
     | refine zv rfl (zd (i := 2) zaE rfl (WeakL.refl _) rfl (zk (L := [_, _]) (by first | assumption | omega | (simp; omega) | simp_all) (by first | assumption | omega | (simp; omega) | simp_all) (by first | assumption | omega | (simp; omega) | simp_all)) ?_)
     | refine zv rfl (zd (i := 3) zaE rfl (WeakL.refl _) rfl (zk (L := [_, _]) (by first | assumption | omega | (simp; omega) | simp_all) (by first | assumption | omega | (simp; omega) | simp_all) (by first | assumption | omega | (simp; omega) | simp_all)) ?_)
     rintro _ _ ⟨y94, rfl, hy94, rfl⟩
     refine ⟨fun _ => by first | exact .inl ⟨0, rfl⟩ | exact .inl ⟨1, rfl⟩ | exact .inl ⟨2, rfl⟩ | exact .inr (by simp [zaN, Region.binds]), ?_⟩
     refine ahe 24 rfl (by kernel_rfl) ?_
     first
     | refine zv rfl (zd (i := 0) zT rfl (WeakL.refl _) rfl (zc (L := [_, _, _]) (by first | assumption | omega | (simp; omega) | simp_all) (by first | assumption | omega | (simp; omega) | simp_all) (by first | assumption | omega | (simp; omega) | simp_all)) ?_)
     | refine zv rfl (zd (i := 1) zT rfl (WeakL.refl _) rfl (zc (L := [_, _, _]) (by first | assumption | omega | (simp; omega) | simp_all) (by first | assumption | omega | (simp; omega) | simp_all) (by first | assumption | omega | (simp; omega) | simp_all)) ?_)
     | refine zv rfl (zd (i := 2) zT rfl (WeakL.refl _) rfl (zc (L := [_, _, _]) (by first | assumption | omega | (simp; omega) | simp_all) (by first | assumption | omega | (simp; omega) | simp_all) (by first | assumption | omega | (simp; omega) | simp_all)) ?_)
     | refine zv rfl (zd (i := 3) zT rfl (WeakL.refl _) rfl (zc (L := [_, _, _]) (by first | assumption | omega | (simp; omega) | simp_all) (by first | assumption | omega | (simp; omega) | simp_all) (by first | assumption | omega | (simp; omega) | simp_all)) ?_)
     rintro _ _ ⟨y101, rfl, hy101, rfl⟩
     refine ⟨fun _ => by first | exact .inl ⟨0, rfl⟩ | exact .inl ⟨1, rfl⟩ | exact .inl ⟨2, rfl⟩ | exact .inr (by simp [zaN, Region.binds]), ?_⟩
     refine ahe 26 rfl (by kernel_rfl) ?_
     first
     | refine zv rfl (zd (i := 0) zeq rfl (WeakL.refl _) rfl (zan (by first | assumption | omega | (simp; omega) | simp_all) (by first | assumption | omega | (simp; omega) | simp_all) (by first | assumption | omega | (simp; omega) | simp_all) (by first | assumption | omega | (simp; omega) | simp_all)) ?_)
     | refine zv rfl (zd (i := 1) zeq rfl (WeakL.refl _) rfl (zan (by first | assumption | omega | (simp; omega) | simp_all) (by first | assumption | omega | (simp; omega) | simp_all) (by first | assumption | omega | (simp; omega) | simp_all) (by first | assumption | omega | (simp; omega) | simp_all)) ?_)
     | refine zv rfl (zd (i := 2) zeq rfl (WeakL.refl _) rfl (zan (by first | assumption | omega | (simp; omega) | simp_all) (by first | assumption | omega | (simp; omega) | simp_all) (by first | assumption | omega | (simp; omega) | simp_all) (by first | assumption | omega | (simp; omega) | simp_all)) ?_)
     | refine zv rfl (zd (i := 3) zeq rfl (WeakL.refl _) rfl (zan (by first | assumption | omega | (simp; omega) | simp_all) (by first | assumption | omega | (simp; omega) | simp_all) (by first | assumption | omega | (simp; omega) | simp_all) (by first | assumption | omega | (simp; omega) | simp_all)) ?_)
     rintro _ _ ⟨y103, rfl, rfl⟩
     refine ⟨fun _ => by first | exact .inl ⟨0, rfl⟩ | exact .inl ⟨1, rfl⟩ | exact .inl ⟨2, rfl⟩ | exact .inr (by simp [zaN, Region.binds]), ?_⟩
     refine ahp 27 rfl rfl (by kernel_rfl) (by kernel_rfl) ((by first | exact zx rfl | exact zo rfl)) ?_
     refine ahp 28 rfl rfl (by kernel_rfl) (by kernel_rfl) ((by first | exact zb z6 rfl ty9 (by decide) rfl | exact ze z6 rfl ty9 (by decide) rfl)) ?_
     refine ahe 29 rfl (by kernel_rfl) ?_
     refine zaa (zaO (i := 1) (j := y75) (f := 0) (y := zbx x) (y' := zbx ⟨y87, x.Team, x.At, x.Kind⟩) ty9 rfl (by omega) rfl rfl (zb8 hx) rfl rfl (by simp [zn]) rfl ?_)
     refine ⟨fun _ => .inr (by simp [zaN, Region.binds]), ?_⟩
     refine ahp 30 rfl rfl (by kernel_rfl) (by kernel_rfl) ((by first | exact zx rfl | exact zo rfl)) ?_
     refine ahp 31 rfl rfl (by kernel_rfl) (by kernel_rfl) ((by first | exact zb z6 rfl ty9 (by decide) rfl | exact ze z6 rfl ty9 (by decide) rfl)) ?_
     refine ahe 32 rfl (by kernel_rfl) ?_
     refine zaa (zaO (i := 1) (j := y75) (f := 1) (y := zbx ⟨y87, x.Team, x.At, x.Kind⟩) (y' := zbx ⟨y87, y94, x.At, x.Kind⟩) ty9 rfl (by omega) rfl rfl (zb6 (zb8 hx)) rfl rfl (by simp [zn]) rfl ?_)
     refine ⟨fun _ => .inr (by simp [zaN, Region.binds]), ?_⟩
     refine ahp 33 rfl rfl (by kernel_rfl) (by kernel_rfl) ((by first | exact zx rfl | exact zo rfl)) ?_
     refine ahp 34 rfl rfl (by kernel_rfl) (by kernel_rfl) ((by first | exact zb z6 rfl ty3 (by decide) rfl | exact ze z6 rfl ty3 (by decide) rfl)) ?_
     refine ahe 35 rfl (by kernel_rfl) ?_
     refine zaa (zaO (i := 1) (j := y75) (f := 2) (y := zbx ⟨y87, y94, x.At, x.Kind⟩) (y' := zbx ⟨y87, y94, y101, x.Kind⟩) ty3 rfl (by omega) rfl rfl (zb6 (zb6 (zb8 hx))) rfl rfl (by simp [zn]) rfl ?_)
     refine ⟨fun _ => .inr (by simp [zaN, Region.binds]), ?_⟩
     refine ahp 36 rfl rfl (by kernel_rfl) (by kernel_rfl) ((by first | exact zx rfl | exact zo rfl)) ?_
     refine ahp 37 rfl rfl (by kernel_rfl) (by kernel_rfl) ((by first | exact zb z6 rfl ty3 (by decide) rfl | exact ze z6 rfl ty3 (by decide) rfl)) ?_
     refine ahe 38 rfl (by kernel_rfl) ?_
     refine zaa (zaO (i := 1) (j := y75) (f := 3) (y := zbx ⟨y87, y94, y101, x.Kind⟩) (y' := zbx ⟨y87, y94, y101, y103⟩) ty3 rfl (by omega) rfl rfl (zb6 (zb6 (zb6 (zb8 hx)))) rfl rfl (by simp [zn]) rfl ?_)
     refine ⟨fun _ => .inr (by simp [zaN, Region.binds]), ?_⟩
     refine ahz (by kernel_rfl) ?_
     exact ⟨(out.set y75 ⟨y87, y94, y101, y103⟩, a3 + 6), ⟨by simp; omega, zfg (P := zo0) g2 (by simp at hy87; rcases hy87 with rfl | rfl; exact g2 x (List.mem_of_getElem? hx); exact zkN), by dsimp only; omega⟩, trivial, (by repeat (first | exact zt | refine zw rfl ?_ | refine zu rfl rfl ?_)), by repeat (first | exact List.Perm.nil | refine zP 0 rfl ?_ | refine zP 1 rfl ?_ | refine zP 2 rfl ?_ | refine zP 3 rfl ?_ | (refine zJ 0 rfl ?hq ?_; (case hq => simp [zY, zn]; done)) | (refine zJ 1 rfl ?hq ?_; (case hq => simp [zY, zn]; done)) | (refine zJ 2 rfl ?hq ?_; (case hq => simp [zY, zn]; done)) | (refine zJ 3 rfl ?hq ?_; (case hq => simp [zY, zn]; done)) | fail)⟩
    ·try simp at h6
     refine zm ?_
     exact ⟨(out, a3), ⟨by dsimp only; omega, g2, by dsimp only; omega⟩, trivial, (by repeat (first | exact zt | refine zw rfl ?_ | refine zu rfl rfl ?_)), by repeat (first | exact List.Perm.nil | refine zP 0 rfl ?_ | refine zP 1 rfl ?_ | refine zP 2 rfl ?_ | refine zP 3 rfl ?_ | (refine zJ 0 rfl ?hq ?_; (case hq => simp [zY, zn]; done)) | (refine zJ 1 rfl ?hq ?_; (case hq => simp [zY, zn]; done)) | (refine zJ 2 rfl ?hq ?_; (case hq => simp [zY, zn]; done)) | (refine zJ 3 rfl ?hq ?_; (case hq => simp [zY, zn]; done)) | fail)⟩
   ·intro q hq3
    obtain ⟨k1, a4⟩ := q
    dsimp only at hq3
    obtain ⟨q1, q2, q3⟩ := hq3
    refine za ?_
    refine dmv rfl ?_
    refine das rfl ?_
    refine dn ?_
    refine zl ?_
    refine zb2 (Ghost.fa 4 (i := 1) rfl rfl) rfl ⟨k1, a4, rfl, ⟨q1, q2⟩, by omega, rfl⟩
end
end Go.Proofs.YtpcaaekefgkhjaaGreatDoor
