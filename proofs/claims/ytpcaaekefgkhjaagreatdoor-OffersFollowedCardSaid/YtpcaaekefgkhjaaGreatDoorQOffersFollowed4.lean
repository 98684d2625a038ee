/- Part 4 of the proof: a program logic, contracts of functions and plain facts; no conditions. -/
import Derived.Test.YtpcaaekefgkhjaaGreatDoorQOffersFollowed3
set_option linter.unusedVariables false
set_option linter.unusedSimpArgs false
namespace Go.Proofs.YtpcaaekefgkhjaaGreatDoor
set_option maxRecDepth 100000
set_option linter.unusedVariables false
set_option linter.unusedSimpArgs false
section
open Go.HL
/-- (*benchwarmer/trade.deal).turn -/
theorem zbD [Tracks] {d : DV} {h t : Int}  : Con Tryz.prog 134 [pD d, .int .i64 h, .int .i64 t] [.cells d.b (cD d)] (fun x M' => x = .tup [] ∧ M' = [.cells d.b (cD { d with p := setH d.p h t })]) := by
 refine Con.of_body Tryz.func134 rfl Tryz.ntmps134 rfl rfl ?_
 refine zB ?_
 refine dmv rfl ?_
 refine dmv rfl ?_
 refine dmv rfl ?_
 refine dmv rfl ?_
 refine dq ((by first | exact zn rfl | exact zg rfl)) ?_
 refine dq (zb zbm rfl ty3 (by decide) rfl) ?_
 first
 | refine de0 (zz (i := 0) ty3 rfl rfl rfl rfl rfl (Nat.le_of_ble_eq_true rfl) ?_)
 | refine de0 (zz (i := 1) ty3 rfl rfl rfl rfl rfl (Nat.le_of_ble_eq_true rfl) ?_)
 | refine de0 (zz (i := 2) ty3 rfl rfl rfl rfl rfl (Nat.le_of_ble_eq_true rfl) ?_)
 | refine de0 (zz (i := 3) ty3 rfl rfl rfl rfl rfl (Nat.le_of_ble_eq_true rfl) ?_)
 refine dq ((by first | exact zn rfl | exact zg rfl)) ?_
 refine dq (zb zbm rfl ty3 (by decide) rfl) ?_
 first
 | refine de0 (zz (i := 0) ty3 rfl rfl rfl rfl rfl (Nat.le_of_ble_eq_true rfl) ?_)
 | refine de0 (zz (i := 1) ty3 rfl rfl rfl rfl rfl (Nat.le_of_ble_eq_true rfl) ?_)
 | refine de0 (zz (i := 2) ty3 rfl rfl rfl rfl rfl (Nat.le_of_ble_eq_true rfl) ?_)
 | refine de0 (zz (i := 3) ty3 rfl rfl rfl rfl rfl (Nat.le_of_ble_eq_true rfl) ?_)
 refine dn ?_
 exact zH rfl ⟨rfl, rfl⟩

/-- (*benchwarmer/trade.floor).open -/
theorem ziW [Tracks] {bf : Nat} {m : MarketS} {o : List OwnerS} {fn : HVal} {E : List DV} {S : List MObj} {t : Int} (hE : E.length ≤ 1000000) : Con Tryz.prog 89 [pAt bf, .int .i64 t] (FL bf m o fn E ++ S) (fun x M' => x = .tup [] ∧ M' = FL bf m o fn (E.map (zfQ t)) ++ S) := by
 refine Con.of_body Tryz.func89 rfl Tryz.ntmps89 rfl rfl ?_
 refine za ?_
 refine dmv rfl ?_
 refine dq ((by first | exact zn rfl | exact zg rfl)) ?_
 refine dq (zb zcv rfl zbL (by decide) rfl) ?_
 refine de rfl (zy (i := 0) zbL rfl rfl (.inl ⟨rfl, rfl⟩) ?_)
 refine dq (zR zbL rfl) ?_
 refine dmv rfl ?_
 refine dn ?_
 refine zu ?_
 refine zaJ [5, 11, 12, 13, 14, 15, 16, 17, 18, 19, 20, 21, 22, 23, 24, 25, 26, 27, 28, 29, 30, 31, 32, 33, 34, 35, 36, 37, 38, 39, 40, 41, 42] (fun (k : Nat) => [(11, .int .i64 k)]) (fun (k : Nat) => (FL bf m o fn (EK (zfQ t) k E) ++ S)) (fun (k : Nat) => k ≤ E.length ∧ (True)) (fun (k : Nat) => E.length - k) (0) ?_ ?_ ?_ ?_
 ·exact ⟨Nat.zero_le _, trivial⟩
 ·exact ⟨rfl, trivial⟩
 ·exact zO (by rw [EK_0])
 ·intro k hinv
  obtain ⟨hk, -⟩ := hinv
  refine za ?_
  refine dq (zY rfl rfl) ?_
  refine dn ?_
  refine zm ?_
  refine zl rfl (fun h1 => ?_) (fun h2 => ?_)
  ·try simp at h1
   obtain ⟨d, hd⟩ : ∃ d, E[k]? = some d := ⟨_, List.getElem?_eq_getElem h1⟩
   have hdd := zU hd
   have hdk := zo1 (f := zfQ t) hd
   refine zo ?_
   refine zk ?_
   refine zm ?_
   refine zu ?_
   refine za ?_
   refine dq (zZ (j := k) (a := d) zbL zcM rfl rfl rfl hd) ?_
   refine dq (zh zcM rfl rfl rfl) ?_
   refine das rfl ?_
   refine dn ?_
   refine za ?_
   refine dmv rfl ?_
   refine dq ((by first | exact zn rfl | exact zg rfl)) ?_
   refine dq (zb zbm rfl ty3 (by decide) rfl) ?_
   refine de rfl (zy (i := 3 * k + 1) ty3 rfl (zbx hdk) (.inl ⟨rfl, rfl⟩) ?_)
   refine dq (zaj rfl rfl) ?_
   refine dmv rfl ?_
   refine dg rfl rfl (fun hc => ⟨_, OpenTo.refl _, zf rfl⟩) ?_
   refine dg rfl rfl (fun hc => ⟨_, OpenTo.upd (t := 21) rfl (by first | exact hc | simp_all) (OpenTo.refl _), (by first | exact zn rfl | exact zg rfl)⟩) ?_
   refine dg rfl rfl (fun hc => ⟨_, OpenTo.upd (t := 22) rfl (by first | exact hc | simp_all) (OpenTo.refl _), zb zbm rfl zJ (by decide) rfl⟩) ?_
   refine dg rfl rfl (fun hc => ⟨_, OpenTo.upd (t := 23) rfl (by first | exact hc | simp_all) (OpenTo.refl _), zb zJ rfl zbn (by decide) rfl⟩) ?_
   refine dg rfl rfl (fun hc => ⟨_, OpenTo.upd (t := 24) rfl (by first | exact hc | simp_all) (OpenTo.refl _), zb zbn rfl ty3 (by decide) rfl⟩) ?_
   refine dgl rfl rfl (fun hc => ⟨_, OpenTo.upd (t := 25) rfl (by first | exact hc | simp_all) (OpenTo.refl _), zy (i := 3 * k + 1) ty3 rfl (zbx hdk) (.inl ⟨rfl, rfl⟩) ⟨rfl, rfl⟩⟩) ?_
   refine dg rfl rfl (fun hc => ⟨_, OpenTo.refl _, zf rfl⟩) ?_
   refine dg rfl rfl (fun hc => ⟨_, OpenTo.upd (t := 27) rfl (by first | exact hc | simp_all) (OpenTo.upd (t := 26) rfl (by first | exact hc | simp_all) (OpenTo.refl _)), zaj rfl rfl⟩) ?_
   refine dq (zG rfl (.inr ⟨_, rfl, fun h => by simp_all⟩) (.inl rfl)) ?_
   refine dn ?_
   refine zl rfl (fun h3 => ?_) (fun h4 => ?_)
   ·try simp at h3
    refine za ?_
    refine dmv rfl ?_
    refine dmv rfl ?_
    refine de rfl (zdp (i := 3 * k + 1) (m' := .cells d.b (cD { d with p := setH d.p 1 t })) zf3 rfl (WeakL.refl _) (zbx hdk) (zbD (d := d)) ?_)
    refine dn ?_
    refine zP (Ghost.of_eq (zqF hdk rfl rfl)) ?_
    have hdk2 : ((EK (zfQ t) k E).set k (dU d ⟨1, t, d.p.2.yes, d.p.2.veto⟩))[k]? = some (dU d ⟨1, t, d.p.2.yes, d.p.2.veto⟩) := List.getElem?_set_self (zM hdk)
    refine zbZ (fun M => M = (FL bf m o fn ((EK (zfQ t) k E).set k (dU d ⟨1, t, d.p.2.yes, d.p.2.veto⟩)) ++ S)) [3, 8] mixed ?_
    refine ahp 0 rfl rfl (by kernel_rfl) (by kernel_rfl) (zf rfl) ?_
    refine ahp 1 rfl rfl (by kernel_rfl) (by kernel_rfl) ((by first | exact zn rfl | exact zg rfl)) ?_
    refine ahp 2 rfl rfl (by kernel_rfl) (by kernel_rfl) (zb zbm rfl zcP (by decide) rfl) ?_
    refine ahl 3 rfl rfl (by kernel_rfl) (by kernel_rfl) (by simp) rfl (fun M hM => by subst hM; exact zy (i := 3 * k + 1) zcP rfl (zbx (d := (dU d ⟨1, t, d.p.2.yes, d.p.2.veto⟩)) hdk2) (.inl ⟨rfl, rfl⟩) ⟨rfl, rfl⟩) ?_
    refine ahp 4 rfl rfl (by kernel_rfl) (by kernel_rfl) (zf rfl) ?_
    refine ahp 5 rfl rfl (by kernel_rfl) (by kernel_rfl) ((by first | exact zn rfl | exact zg rfl)) ?_
    refine ahp 6 rfl rfl (by kernel_rfl) (by kernel_rfl) (zb zbm rfl zJ (by decide) rfl) ?_
    refine ahp 7 rfl rfl (by kernel_rfl) (by kernel_rfl) (zb zJ rfl ty9 (by decide) rfl) ?_
    refine ahl 8 rfl rfl (by kernel_rfl) (by kernel_rfl) (by simp) rfl (fun M hM => by subst hM; exact zy (i := 3 * k + 1) ty9 rfl (zbx (d := (dU d ⟨1, t, d.p.2.yes, d.p.2.veto⟩)) hdk2) (.inl ⟨rfl, rfl⟩) ⟨rfl, rfl⟩) ?_
    refine ahe 9 rfl (by kernel_rfl) ?_
    refine zae (zfz (i := 3 * k + 2) zcP ty9 rfl rfl rfl (zoc (d := dU d ⟨1, t, d.p.2.yes, d.p.2.veto⟩) hdk2) ?_)
    refine ⟨fun _ => .inr (by simp [zaq, Region.binds]), ?_⟩
    refine ahz (by kernel_rfl) ?_
    refine zA ?_
    refine zk ?_
    refine zB ?_
    refine dq (zC rfl rfl (by omega) (by omega)) ?_
    refine dmv rfl ?_
    refine dn ?_
    exact ⟨k + 1, ⟨by omega, trivial⟩, by dsimp only; omega, ⟨rfl, trivial⟩, (by repeat (first | exact zq | refine zx rfl ?_ | refine zt rfl rfl ?_)), zO (by dsimp only; rw [← zpq hd]; exact (zqw hdk2).trans (zqS h3))⟩
   ·try simp at h4
    refine zo ?_
    refine zA ?_
    refine zk ?_
    refine zB ?_
    refine dq (zC rfl rfl (by omega) (by omega)) ?_
    refine dmv rfl ?_
    refine dn ?_
    exact ⟨k + 1, ⟨by omega, trivial⟩, by dsimp only; omega, ⟨rfl, trivial⟩, (by repeat (first | exact zq | refine zx rfl ?_ | refine zt rfl rfl ?_)), zO (by dsimp only; rw [zrg hd (zsb h4)])⟩
  ·try simp at h2
   have hnk : E.length ≤ k := by omega
   obtain rfl : k = E.length := by omega
   rw [zrZ]
   refine z7 ?_
   refine zag ?_
   refine zaY ?_
   refine zT ?_
   exact zH rfl ⟨rfl, rfl⟩

/-- (*benchwarmer/trade.floor).find -/
theorem zpx [Tracks] {bf : Nat} {m : MarketS} {o : List OwnerS} {fn : HVal} {E : List DV} {S : List MObj} {id : Str} {k0 : Nat} {d0 : DV} (hE : E.length ≤ 1000000) (hk0 : E[k0]? = some d0) (hid : d0.p.1.Id = id) (hlt : ∀ (j : Nat) (z : DV), j < k0 → E[j]? = some z → z.p.1.Id ≠ id) : Con Tryz.prog 135 [pAt bf, .str id] (FL bf m o fn E ++ S) (fun x M' => x = pD d0 ∧ M' = (FL bf m o fn E ++ S)) := by
 refine Con.of_body Tryz.func135 rfl Tryz.ntmps135 rfl rfl ?_
 refine za ?_
 refine das rfl ?_
 refine dn ?_
 refine zm ?_
 refine za ?_
 refine dmv rfl ?_
 refine dq ((by first | exact zn rfl | exact zg rfl)) ?_
 refine dq (zb zcv rfl zbL (by decide) rfl) ?_
 refine de rfl (zy (i := 0) zbL rfl rfl (.inl ⟨rfl, rfl⟩) ?_)
 refine dq (zR zbL rfl) ?_
 refine dmv rfl ?_
 refine dn ?_
 refine zu ?_
 refine zaJ [4, 6, 12, 13, 14, 15, 16, 17, 18, 19, 20, 21, 22, 23, 24] (fun (k : Nat) => [(12, .int .i64 k)]) (fun (k : Nat) => (FL bf m o fn E ++ S)) (fun (k : Nat) => k ≤ E.length ∧ (k ≤ k0)) (fun (k : Nat) => E.length - k) (0) ?_ ?_ ?_ ?_
 ·exact ⟨Nat.zero_le _, Nat.zero_le _⟩
 ·exact ⟨rfl, trivial⟩
 ·exact List.Perm.refl _
 ·intro k hinv
  obtain ⟨hk, hg⟩ := hinv
  refine za ?_
  refine dq (zY rfl rfl) ?_
  refine dn ?_
  refine zm ?_
  refine zl rfl (fun h1 => ?_) (fun h2 => ?_)
  ·try simp at h1
   obtain ⟨d, hd⟩ : ∃ d, E[k]? = some d := ⟨_, List.getElem?_eq_getElem h1⟩
   have hdd := zU hd
   refine zo ?_
   refine zk ?_
   refine zm ?_
   refine zu ?_
   refine za ?_
   refine dq (zZ (j := k) (a := d) zbL zcM rfl rfl rfl hd) ?_
   refine dq (zh zcM rfl rfl rfl) ?_
   refine das rfl ?_
   refine dn ?_
   refine za ?_
   refine dmv rfl ?_
   refine dq ((by first | exact zn rfl | exact zg rfl)) ?_
   refine dq (zb zbm rfl zJ (by decide) rfl) ?_
   refine dq (zb zJ rfl ty9 (by decide) rfl) ?_
   refine de rfl (zy (i := 3 * k + 1) ty9 rfl (zbx hd) (.inl ⟨rfl, rfl⟩) ?_)
   refine dmv rfl ?_
   refine dq (zbs rfl rfl) ?_
   refine dn ?_
   refine zl rfl (fun h3 => ?_) (fun h4 => ?_)
   ·try simp at h3
    refine za ?_
    refine dmv rfl ?_
    refine das rfl ?_
    refine dn ?_
    refine zp ?_
    first
    | (have hq : k = k0 := by
        rcases Nat.lt_or_ge k k0 with q | q
        ·exact absurd h3 (hlt k d q hd)
        ·omega
       subst hq
       rw [hk0] at hd; cases hd
       exact zaQ rfl ⟨rfl, rfl⟩)
    | (exfalso; have := zM hk0; omega)
   ·try simp at h4
    refine zo ?_
    refine zA ?_
    refine zk ?_
    refine zB ?_
    refine dq (zC rfl rfl (by omega) (by omega)) ?_
    refine dmv rfl ?_
    refine dn ?_
    refine ⟨k + 1, ?_, ?_, ⟨rfl, trivial⟩, (by repeat (first | exact zq | refine zx rfl ?_ | refine zt rfl rfl ?_)), List.Perm.refl _⟩
    ·refine ⟨by omega, ?_⟩
     rcases Nat.lt_or_ge k k0 with q | q
     ·omega
     ·obtain rfl : k = k0 := by omega
      rw [hk0] at hd; cases hd; exact absurd hid h4
    ·dsimp only; omega
  ·try simp at h2
   have hnk : E.length ≤ k := by omega
   obtain rfl : k = E.length := by omega
   refine z7 ?_
   refine zag ?_
   refine zaY ?_
   refine zT ?_
   refine zk ?_
   refine za ?_
   refine das rfl ?_
   refine dn ?_
   refine zp ?_
   first
   | (have hq : k = k0 := by
       rcases Nat.lt_or_ge k k0 with q | q
       ·exact absurd h3 (hlt k d q hd)
       ·omega
      subst hq
      rw [hk0] at hd; cases hd
      exact zaQ rfl ⟨rfl, rfl⟩)
   | (exfalso; have := zM hk0; omega)

/-- (*benchwarmer/trade.floor).find -/
theorem zp8 [Tracks] {bf : Nat} {m : MarketS} {o : List OwnerS} {fn : HVal} {E : List DV} {S : List MObj} {id : Str} (hE : E.length ≤ 1000000) (hno : ∀ z ∈ E, z.p.1.Id ≠ id) : Con Tryz.prog 135 [pAt bf, .str id] (FL bf m o fn E ++ S) (fun x M' => x = .raw (.pointer none) ∧ M' = (FL bf m o fn E ++ S)) := by
 refine Con.of_body Tryz.func135 rfl Tryz.ntmps135 rfl rfl ?_
 refine za ?_
 refine das rfl ?_
 refine dn ?_
 refine zm ?_
 refine za ?_
 refine dmv rfl ?_
 refine dq ((by first | exact zn rfl | exact zg rfl)) ?_
 refine dq (zb zcv rfl zbL (by decide) rfl) ?_
 refine de rfl (zy (i := 0) zbL rfl rfl (.inl ⟨rfl, rfl⟩) ?_)
 refine dq (zR zbL rfl) ?_
 refine dmv rfl ?_
 refine dn ?_
 refine zu ?_
 refine zaJ [4, 6, 12, 13, 14, 15, 16, 17, 18, 19, 20, 21, 22, 23, 24] (fun (k : Nat) => [(12, .int .i64 k)]) (fun (k : Nat) => (FL bf m o fn E ++ S)) (fun (k : Nat) => k ≤ E.length ∧ (True)) (fun (k : Nat) => E.length - k) (0) ?_ ?_ ?_ ?_
 ·exact ⟨Nat.zero_le _, trivial⟩
 ·exact ⟨rfl, trivial⟩
 ·exact List.Perm.refl _
 ·intro k hinv
  obtain ⟨hk, -⟩ := hinv
  refine za ?_
  refine dq (zY rfl rfl) ?_
  refine dn ?_
  refine zm ?_
  refine zl rfl (fun h1 => ?_) (fun h2 => ?_)
  ·try simp at h1
   obtain ⟨d, hd⟩ : ∃ d, E[k]? = some d := ⟨_, List.getElem?_eq_getElem h1⟩
   have hdd := zU hd
   refine zo ?_
   refine zk ?_
   refine zm ?_
   refine zu ?_
   refine za ?_
   refine dq (zZ (j := k) (a := d) zbL zcM rfl rfl rfl hd) ?_
   refine dq (zh zcM rfl rfl rfl) ?_
   refine das rfl ?_
   refine dn ?_
   refine za ?_
   refine dmv rfl ?_
   refine dq ((by first | exact zn rfl | exact zg rfl)) ?_
   refine dq (zb zbm rfl zJ (by decide) rfl) ?_
   refine dq (zb zJ rfl ty9 (by decide) rfl) ?_
   refine de rfl (zy (i := 3 * k + 1) ty9 rfl (zbx hd) (.inl ⟨rfl, rfl⟩) ?_)
   refine dmv rfl ?_
   refine dq (zbs rfl rfl) ?_
   refine dn ?_
   refine zl rfl (fun h3 => ?_) (fun h3 => ?_)
   ·exfalso
    try simp at h3
    exact hno d (List.mem_of_getElem? hd) h3
   ·try simp at h3
    refine zo ?_
    refine zA ?_
    refine zk ?_
    refine zB ?_
    refine dq (zC rfl rfl (by omega) (by omega)) ?_
    refine dmv rfl ?_
    refine dn ?_
    refine ⟨k + 1, ?_, ?_, ⟨rfl, trivial⟩, (by repeat (first | exact zq | refine zx rfl ?_ | refine zt rfl rfl ?_)), List.Perm.refl _⟩
    ·exact ⟨by omega, trivial⟩
    ·dsimp only; omega
  ·try simp at h2
   have hnk : E.length ≤ k := by omega
   obtain rfl : k = E.length := by omega
   refine z7 ?_
   refine zag ?_
   refine zaY ?_
   refine zT ?_
   refine zk ?_
   refine za ?_
   refine das rfl ?_
   refine dn ?_
   refine zp ?_
   exact zaQ rfl ⟨rfl, rfl⟩

set_option maxHeartbeats 4000000 in
/-- (*benchwarmer/trade.floor).answer -/
theorem zoj [Tracks] {bf : Nat} {m : MarketS} {o : List OwnerS} {fn : HVal} {E : List DV} {S : List MObj} {a : ReplyS} {k0 : Nat} {d0 : DV} (hE : E.length ≤ 1000000) (hG : d0.p.1.Gives.length ≤ 1000) (hk0 : E[k0]? = some d0) (hid : d0.p.1.Id = a.Offer) (hlt : ∀ (j : Nat) (z : DV), j < k0 → E[j]? = some z → z.p.1.Id ≠ a.Offer) : Con Tryz.prog 90 [pAt bf, zbA a] (FL bf m o fn E ++ S) (fun x M' => x = .tup [] ∧ M' = FL bf m o fn (E.set k0 (dP d0 (zbe m a d0.p))) ++ S) := by
 refine Con.of_body Tryz.func90 rfl Tryz.ntmps90 rfl rfl ?_
 refine za ?_
 refine dq (zal rfl rfl) ?_
 refine dn ?_
 refine za ?_
 refine dmv rfl ?_
 refine dq ((by first | exact zd zS rfl ty9 (by decide) rfl | exact zb zS rfl ty9 (by decide) rfl)) ?_
 refine dq (zh ty9 rfl rfl rfl) ?_
 refine de rfl (EOp.mono ?_ (zbd zqn rfl (WeakL.refl _) (zpx hE hk0 hid hlt)))
 rintro _ _ ⟨rfl, rfl⟩
 refine das rfl ?_
 refine dn ?_
 refine zm ?_
 refine za ?_
 refine dmv rfl ?_
 refine dq (zkj zcM rfl rfl) ?_
 refine dmv rfl ?_
 refine dg rfl rfl (fun hc => ⟨_, OpenTo.refl _, zf rfl⟩) ?_
 refine dg rfl rfl (fun hc => ⟨_, OpenTo.upd (t := 13) rfl (by first | exact hc | simp_all) (OpenTo.refl _), (by first | exact zn rfl | exact zg rfl)⟩) ?_
 refine dg rfl rfl (fun hc => ⟨_, OpenTo.upd (t := 14) rfl (by first | exact hc | simp_all) (OpenTo.refl _), zb zbm rfl ty3 (by decide) rfl⟩) ?_
 refine dgl rfl rfl (fun hc => ⟨_, OpenTo.upd (t := 15) rfl (by first | exact hc | simp_all) (OpenTo.refl _), zy (i := 3 * k0 + 1) ty3 rfl (zbx hk0) (.inl ⟨rfl, rfl⟩) ⟨rfl, rfl⟩⟩) ?_
 refine dg rfl rfl (fun hc => ⟨_, OpenTo.upd (t := 16) rfl (by first | exact hc | simp_all) (OpenTo.refl _), zbq rfl rfl⟩) ?_
 refine dg rfl rfl (fun hc => ⟨_, OpenTo.upd (t := 17) rfl (by first | exact hc | simp_all) (OpenTo.refl _), zf rfl⟩) ?_
 refine dg rfl rfl (fun hc => ⟨_, OpenTo.refl _, zf rfl⟩) ?_
 refine dg rfl rfl (fun hc => ⟨_, OpenTo.upd (t := 19) rfl (by first | exact hc | simp_all) (OpenTo.refl _), (by first | exact zn rfl | exact zg rfl)⟩) ?_
 refine dg rfl rfl (fun hc => ⟨_, OpenTo.upd (t := 20) rfl (by first | exact hc | simp_all) (OpenTo.refl _), zb zbm rfl ty3 (by decide) rfl⟩) ?_
 refine dgl rfl rfl (fun hc => ⟨_, OpenTo.upd (t := 21) rfl (by first | exact hc | simp_all) (OpenTo.refl _), zy (i := 3 * k0 + 1) ty3 rfl (zbx hk0) (.inl ⟨rfl, rfl⟩) ⟨rfl, rfl⟩⟩) ?_
 refine dg rfl rfl (fun hc => ⟨_, OpenTo.upd (t := 22) rfl (by first | exact hc | simp_all) (OpenTo.refl _), zbq rfl rfl⟩) ?_
 refine dg rfl rfl (fun hc => ⟨_, OpenTo.upd (t := 18) rfl (by first | exact hc | simp_all) (OpenTo.refl _), zG rfl (.inr ⟨_, rfl, fun h => by simp_all⟩) (.inl rfl)⟩) ?_
 refine dq (zG rfl (.inl rfl) (.inr ⟨_, rfl, fun h => by simp_all⟩)) ?_
 refine dn ?_
 refine zl rfl (fun h1 => ?_) (fun h2 => ?_)
 ·try simp at h1
  refine zp ?_
  first
  | exact zaQ rfl ⟨rfl, zeT hk0 (by simpa using h1)⟩
  | exact zH rfl ⟨rfl, (zbI hk1).trans (by rw [List.set_set, (zcZ h0 (by simp_all)).1 (by have q := h5; rw [zba] at q; exact q)])⟩
  | exact zH rfl ⟨rfl, by rw [(zcZ h0 (by simp_all)).2 (by have q := h6; rw [zba] at q; exact q)]⟩
  | exact zH rfl ⟨rfl, (zbI hk0).trans (by rw [zgU h0 (by first | (simp; done) | (rintro ⟨q1, q2, q3⟩; simp_all; done) | (rintro ⟨q1, q2⟩; simp_all; done) | simp_all) (by simp_all)])⟩
  | exact zH rfl ⟨rfl, (zbI hk0).trans (by rw [ze3 h0 (by first | (simp; done) | (rintro ⟨q1, q2, q3⟩; simp_all; done) | (rintro ⟨q1, q2⟩; simp_all; done) | simp_all) (by first | (simp; done) | (rintro ⟨q1, q2, q3⟩; simp_all; done) | (rintro ⟨q1, q2⟩; simp_all; done) | simp_all) (by simp_all)])⟩
  | exact zH rfl ⟨rfl, (zbI hk2).trans (by rw [List.set_set, (zcp h0 (by first | (simp; done) | (rintro ⟨q1, q2, q3⟩; simp_all; done) | (rintro ⟨q1, q2⟩; simp_all; done) | simp_all) (by first | (simp; done) | (rintro ⟨q1, q2, q3⟩; simp_all; done) | (rintro ⟨q1, q2⟩; simp_all; done) | simp_all) (by first | (simp; done) | (rintro ⟨q1, q2, q3⟩; simp_all; done) | (rintro ⟨q1, q2⟩; simp_all; done) | simp_all) (by simp_all)).1 (by have q := h13; rw [zba] at q; exact q)])⟩
  | exact zH rfl ⟨rfl, by rw [(zcp h0 (by first | (simp; done) | (rintro ⟨q1, q2, q3⟩; simp_all; done) | (rintro ⟨q1, q2⟩; simp_all; done) | simp_all) (by first | (simp; done) | (rintro ⟨q1, q2, q3⟩; simp_all; done) | (rintro ⟨q1, q2⟩; simp_all; done) | simp_all) (by first | (simp; done) | (rintro ⟨q1, q2, q3⟩; simp_all; done) | (rintro ⟨q1, q2⟩; simp_all; done) | simp_all) (by simp_all)).2 (by have q := h14; rw [zba] at q; exact q)]⟩
  | exact zH rfl ⟨rfl, zeW hk0 (by first | (simp; done) | (rintro ⟨q1, q2, q3⟩; simp_all; done) | (rintro ⟨q1, q2⟩; simp_all; done) | simp_all) (by first | (simp; done) | (rintro ⟨q1, q2, q3⟩; simp_all; done) | (rintro ⟨q1, q2⟩; simp_all; done) | simp_all) (by first | (simp; done) | (rintro ⟨q1, q2, q3⟩; simp_all; done) | (rintro ⟨q1, q2⟩; simp_all; done) | simp_all) (by first | (simp; done) | (rintro ⟨q1, q2, q3⟩; simp_all; done) | (rintro ⟨q1, q2⟩; simp_all; done) | simp_all)⟩
 ·try simp at h2
  refine zo ?_
  refine zk ?_
  have h0 : ¬ (d0.p.2.how ≠ 1 ∧ d0.p.2.how ≠ 2) := by simpa using h2
  refine zar (fun M => M = (FL bf m o fn E ++ S)) [3] mixed ?_
  refine ahp 0 rfl rfl (by kernel_rfl) (by kernel_rfl) (zf rfl) ?_
  refine ahp 1 rfl rfl (by kernel_rfl) (by kernel_rfl) ((by first | exact zn rfl | exact zg rfl)) ?_
  refine ahp 2 rfl rfl (by kernel_rfl) (by kernel_rfl) (zb zbm rfl zQ (by decide) rfl) ?_
  refine ahl 3 rfl rfl (by kernel_rfl) (by kernel_rfl) (by simp) rfl (fun M hM => by subst hM; exact zy (i := 3 * k0 + 1) zQ rfl (zbx hk0) (.inl ⟨rfl, rfl⟩) ⟨rfl, rfl⟩) ?_
  refine ahp 4 rfl rfl (by kernel_rfl) (by kernel_rfl) ((by first | exact zd zS rfl ty9 (by decide) rfl | exact zb zS rfl ty9 (by decide) rfl)) ?_
  refine ahp 5 rfl rfl (by kernel_rfl) (by kernel_rfl) (zh ty9 rfl rfl rfl) ?_
  refine ahp 6 rfl rfl (by kernel_rfl) (by kernel_rfl) (zw zgm rfl (WeakL.refl _) (zaw (l := zaV d0.p.1.Gives) (s := a.Team) (by have := zdn d0.p.1.Gives; omega))) ?_
  refine ahp 7 rfl rfl (by kernel_rfl) (by kernel_rfl) (z8 rfl) ?_
  refine ahz (by kernel_rfl) ?_
  refine zu ?_
  refine za ?_
  refine dq ((by first | exact zd zS rfl ty3 (by decide) rfl | exact zb zS rfl ty3 (by decide) rfl)) ?_
  refine dq (zh ty3 rfl rfl rfl) ?_
  refine dq (zaj rfl rfl) ?_
  refine dmv rfl ?_
  refine dg rfl rfl (fun hc => ⟨_, OpenTo.refl _, zf rfl⟩) ?_
  refine dq (zG rfl (.inr ⟨_, rfl, fun h => by simp_all⟩) (.inl rfl)) ?_
  refine dmv rfl ?_
  refine dg rfl rfl (fun hc => ⟨_, OpenTo.refl _, zf rfl⟩) ?_
  refine dg rfl rfl (fun hc => ⟨_, OpenTo.upd (t := 41) rfl (by first | exact hc | simp_all) (OpenTo.refl _), (by first | exact zn rfl | exact zg rfl)⟩) ?_
  refine dg rfl rfl (fun hc => ⟨_, OpenTo.upd (t := 42) rfl (by first | exact hc | simp_all) (OpenTo.refl _), zb zbm rfl ty3 (by decide) rfl⟩) ?_
  refine dgl rfl rfl (fun hc => ⟨_, OpenTo.upd (t := 43) rfl (by first | exact hc | simp_all) (OpenTo.refl _), zy (i := 3 * k0 + 1) ty3 rfl (zbx hk0) (.inl ⟨rfl, rfl⟩) ⟨rfl, rfl⟩⟩) ?_
  refine dg rfl rfl (fun hc => ⟨_, OpenTo.upd (t := 44) rfl (by first | exact hc | simp_all) (OpenTo.refl _), zaj rfl rfl⟩) ?_
  refine dq (zG rfl (.inr ⟨_, rfl, fun h => by simp_all⟩) (.inl rfl)) ?_
  refine das rfl ?_
  refine dn ?_
  refine zl rfl (fun h3 => ?_) (fun h4 => ?_)
  ·try simp at h3
   refine zar (fun M => M = (FL bf m o fn E ++ S)) [3] mixed ?_
   refine ahp 0 rfl rfl (by kernel_rfl) (by kernel_rfl) (zf rfl) ?_
   refine ahp 1 rfl rfl (by kernel_rfl) (by kernel_rfl) ((by first | exact zn rfl | exact zg rfl)) ?_
   refine ahp 2 rfl rfl (by kernel_rfl) (by kernel_rfl) (zb zbm rfl zcP (by decide) rfl) ?_
   refine ahl 3 rfl rfl (by kernel_rfl) (by kernel_rfl) (by simp) rfl (fun M hM => by subst hM; exact zy (i := 3 * k0 + 1) zcP rfl (zbx hk0) (.inl ⟨rfl, rfl⟩) ⟨rfl, rfl⟩) ?_
   refine ahp 4 rfl rfl (by kernel_rfl) (by kernel_rfl) ((by first | exact zd zS rfl ty9 (by decide) rfl | exact zb zS rfl ty9 (by decide) rfl)) ?_
   refine ahp 5 rfl rfl (by kernel_rfl) (by kernel_rfl) (zh ty9 rfl rfl rfl) ?_
   refine ahe 6 rfl (by kernel_rfl) ?_
   refine zae (zfz (i := 3 * k0 + 2) zcP ty9 rfl rfl rfl (zoc hk0) ?_)
   refine ⟨fun _ => .inr (by simp [zaq, Region.binds]), ?_⟩
   refine ahz (by kernel_rfl) ?_
   refine zP (Ghost.of_eq (zqw hk0)) ?_
   have hk1 : (E.set k0 (dY d0 (zaX a.Team d0.p.2.yes)))[k0]? = some (dY d0 (zaX a.Team d0.p.2.yes)) := zk3 hk0
   change HWp _ _ _ _ (FL bf m o fn (E.set k0 (dY d0 (zaX a.Team d0.p.2.yes))) ++ S) _
   refine zar (fun M => M = (FL bf m o fn (E.set k0 (dY d0 (zaX a.Team d0.p.2.yes))) ++ S)) [3, 4, 8] mixed ?_
   refine ahp 0 rfl rfl (by kernel_rfl) (by kernel_rfl) (zf rfl) ?_
   refine ahp 1 rfl rfl (by kernel_rfl) (by kernel_rfl) ((by first | exact zn rfl | exact zg rfl)) ?_
   refine ahp 2 rfl rfl (by kernel_rfl) (by kernel_rfl) (zb zbm rfl zcP (by decide) rfl) ?_
   refine ahl 3 rfl rfl (by kernel_rfl) (by kernel_rfl) (by simp) rfl (fun M hM => by subst hM; exact zy (i := 3 * k0 + 1) zcP rfl (zbx (d := (dY d0 (zaX a.Team d0.p.2.yes))) hk1) (.inl ⟨rfl, rfl⟩) ⟨rfl, rfl⟩) ?_
   refine ahl 4 rfl rfl (by kernel_rfl) (by kernel_rfl) (by simp) rfl (fun M hM => by subst hM; exact zkv (i := 3 * k0 + 2) zcP rfl (zoc (d := (dY d0 (zaX a.Team d0.p.2.yes))) hk1) ⟨rfl, rfl⟩) ?_
   refine ahp 5 rfl rfl (by kernel_rfl) (by kernel_rfl) (zf rfl) ?_
   refine ahp 6 rfl rfl (by kernel_rfl) (by kernel_rfl) ((by first | exact zn rfl | exact zg rfl)) ?_
   refine ahp 7 rfl rfl (by kernel_rfl) (by kernel_rfl) (zb zbm rfl zQ (by decide) rfl) ?_
   refine ahl 8 rfl rfl (by kernel_rfl) (by kernel_rfl) (by simp) rfl (fun M hM => by subst hM; exact zy (i := 3 * k0 + 1) zQ rfl (zbx (d := (dY d0 (zaX a.Team d0.p.2.yes))) hk1) (.inl ⟨rfl, rfl⟩) ⟨rfl, rfl⟩) ?_
   refine ahp 9 rfl rfl (by kernel_rfl) (by kernel_rfl) (zR zQ rfl) ?_
   refine ahp 10 rfl rfl (by kernel_rfl) (by kernel_rfl) (zaj rfl rfl) ?_
   refine ahz (by kernel_rfl) ?_
   refine zl rfl (fun h5 => ?_) (fun h6 => ?_)
   ·try simp at h5
    refine zB ?_
    refine dmv rfl ?_
    refine dq ((by first | exact zd zS rfl ty3 (by decide) rfl | exact zb zS rfl ty3 (by decide) rfl)) ?_
    refine dq (zh ty3 rfl rfl rfl) ?_
    refine de rfl (zdp (i := 3 * k0 + 1) (m' := .cells (dY d0 (zaX a.Team d0.p.2.yes)).b (cD { (dY d0 (zaX a.Team d0.p.2.yes)) with p := setH (dY d0 (zaX a.Team d0.p.2.yes)).p 2 a.At })) zf3 rfl (WeakL.refl _) (zbx hk1) (zbD (d := (dY d0 (zaX a.Team d0.p.2.yes)))) ?_)
    refine dn ?_
    refine zA ?_
    first
    | exact zaQ rfl ⟨rfl, zeT hk0 (by simpa using h1)⟩
    | exact zH rfl ⟨rfl, (zbI hk1).trans (by rw [List.set_set, (zcZ h0 (by simp_all)).1 (by have q := h5; rw [zba] at q; exact q)])⟩
    | exact zH rfl ⟨rfl, by rw [(zcZ h0 (by simp_all)).2 (by have q := h6; rw [zba] at q; exact q)]⟩
    | exact zH rfl ⟨rfl, (zbI hk0).trans (by rw [zgU h0 (by first | (simp; done) | (rintro ⟨q1, q2, q3⟩; simp_all; done) | (rintro ⟨q1, q2⟩; simp_all; done) | simp_all) (by simp_all)])⟩
    | exact zH rfl ⟨rfl, (zbI hk0).trans (by rw [ze3 h0 (by first | (simp; done) | (rintro ⟨q1, q2, q3⟩; simp_all; done) | (rintro ⟨q1, q2⟩; simp_all; done) | simp_all) (by first | (simp; done) | (rintro ⟨q1, q2, q3⟩; simp_all; done) | (rintro ⟨q1, q2⟩; simp_all; done) | simp_all) (by simp_all)])⟩
    | exact zH rfl ⟨rfl, (zbI hk2).trans (by rw [List.set_set, (zcp h0 (by first | (simp; done) | (rintro ⟨q1, q2, q3⟩; simp_all; done) | (rintro ⟨q1, q2⟩; simp_all; done) | simp_all) (by first | (simp; done) | (rintro ⟨q1, q2, q3⟩; simp_all; done) | (rintro ⟨q1, q2⟩; simp_all; done) | simp_all) (by first | (simp; done) | (rintro ⟨q1, q2, q3⟩; simp_all; done) | (rintro ⟨q1, q2⟩; simp_all; done) | simp_all) (by simp_all)).1 (by have q := h13; rw [zba] at q; exact q)])⟩
    | exact zH rfl ⟨rfl, by rw [(zcp h0 (by first | (simp; done) | (rintro ⟨q1, q2, q3⟩; simp_all; done) | (rintro ⟨q1, q2⟩; simp_all; done) | simp_all) (by first | (simp; done) | (rintro ⟨q1, q2, q3⟩; simp_all; done) | (rintro ⟨q1, q2⟩; simp_all; done) | simp_all) (by first | (simp; done) | (rintro ⟨q1, q2, q3⟩; simp_all; done) | (rintro ⟨q1, q2⟩; simp_all; done) | simp_all) (by simp_all)).2 (by have q := h14; rw [zba] at q; exact q)]⟩
    | exact zH rfl ⟨rfl, zeW hk0 (by first | (simp; done) | (rintro ⟨q1, q2, q3⟩; simp_all; done) | (rintro ⟨q1, q2⟩; simp_all; done) | simp_all) (by first | (simp; done) | (rintro ⟨q1, q2, q3⟩; simp_all; done) | (rintro ⟨q1, q2⟩; simp_all; done) | simp_all) (by first | (simp; done) | (rintro ⟨q1, q2, q3⟩; simp_all; done) | (rintro ⟨q1, q2⟩; simp_all; done) | simp_all) (by first | (simp; done) | (rintro ⟨q1, q2, q3⟩; simp_all; done) | (rintro ⟨q1, q2⟩; simp_all; done) | simp_all)⟩
   ·try simp at h6
    refine zo ?_
    refine zA ?_
    first
    | exact zaQ rfl ⟨rfl, zeT hk0 (by simpa using h1)⟩
    | exact zH rfl ⟨rfl, (zbI hk1).trans (by rw [List.set_set, (zcZ h0 (by simp_all)).1 (by have q := h5; rw [zba] at q; exact q)])⟩
    | exact zH rfl ⟨rfl, by rw [(zcZ h0 (by simp_all)).2 (by have q := h6; rw [zba] at q; exact q)]⟩
    | exact zH rfl ⟨rfl, (zbI hk0).trans (by rw [zgU h0 (by first | (simp; done) | (rintro ⟨q1, q2, q3⟩; simp_all; done) | (rintro ⟨q1, q2⟩; simp_all; done) | simp_all) (by simp_all)])⟩
    | exact zH rfl ⟨rfl, (zbI hk0).trans (by rw [ze3 h0 (by first | (simp; done) | (rintro ⟨q1, q2, q3⟩; simp_all; done) | (rintro ⟨q1, q2⟩; simp_all; done) | simp_all) (by first | (simp; done) | (rintro ⟨q1, q2, q3⟩; simp_all; done) | (rintro ⟨q1, q2⟩; simp_all; done) | simp_all) (by simp_all)])⟩
    | exact zH rfl ⟨rfl, (zbI hk2).trans (by rw [List.set_set, (zcp h0 (by first | (simp; done) | (rintro ⟨q1, q2, q3⟩; simp_all; done) | (rintro ⟨q1, q2⟩; simp_all; done) | simp_all) (by first | (simp; done) | (rintro ⟨q1, q2, q3⟩; simp_all; done) | (rintro ⟨q1, q2⟩; simp_all; done) | simp_all) (by first | (simp; done) | (rintro ⟨q1, q2, q3⟩; simp_all; done) | (rintro ⟨q1, q2⟩; simp_all; done) | simp_all) (by simp_all)).1 (by have q := h13; rw [zba] at q; exact q)])⟩
    | exact zH rfl ⟨rfl, by rw [(zcp h0 (by first | (simp; done) | (rintro ⟨q1, q2, q3⟩; simp_all; done) | (rintro ⟨q1, q2⟩; simp_all; done) | simp_all) (by first | (simp; done) | (rintro ⟨q1, q2, q3⟩; simp_all; done) | (rintro ⟨q1, q2⟩; simp_all; done) | simp_all) (by first | (simp; done) | (rintro ⟨q1, q2, q3⟩; simp_all; done) | (rintro ⟨q1, q2⟩; simp_all; done) | simp_all) (by simp_all)).2 (by have q := h14; rw [zba] at q; exact q)]⟩
    | exact zH rfl ⟨rfl, zeW hk0 (by first | (simp; done) | (rintro ⟨q1, q2, q3⟩; simp_all; done) | (rintro ⟨q1, q2⟩; simp_all; done) | simp_all) (by first | (simp; done) | (rintro ⟨q1, q2, q3⟩; simp_all; done) | (rintro ⟨q1, q2⟩; simp_all; done) | simp_all) (by first | (simp; done) | (rintro ⟨q1, q2, q3⟩; simp_all; done) | (rintro ⟨q1, q2⟩; simp_all; done) | simp_all) (by first | (simp; done) | (rintro ⟨q1, q2, q3⟩; simp_all; done) | (rintro ⟨q1, q2⟩; simp_all; done) | simp_all)⟩
  ·try simp at h4
   refine za ?_
   refine dq ((by first | exact zd zS rfl ty3 (by decide) rfl | exact zb zS rfl ty3 (by decide) rfl)) ?_
   refine dq (zh ty3 rfl rfl rfl) ?_
   refine dq (zaj rfl rfl) ?_
   refine dmv rfl ?_
   refine dg rfl rfl (fun hc => ⟨_, OpenTo.refl _, zf rfl⟩) ?_
   refine dq (zG rfl (.inr ⟨_, rfl, fun h => by simp_all⟩) (.inl rfl)) ?_
   refine das rfl ?_
   refine dn ?_
   refine zl rfl (fun h7 => ?_) (fun h8 => ?_)
   ·try simp at h7
    refine zB ?_
    refine dmv rfl ?_
    refine dq ((by first | exact zd zS rfl ty3 (by decide) rfl | exact zb zS rfl ty3 (by decide) rfl)) ?_
    refine dq (zh ty3 rfl rfl rfl) ?_
    refine de rfl (zdp (i := 3 * k0 + 1) (m' := .cells d0.b (cD { d0 with p := setH d0.p 4 a.At })) zf3 rfl (WeakL.refl _) (zbx hk0) (zbD (d := d0)) ?_)
    refine dn ?_
    refine zA ?_
    first
    | exact zaQ rfl ⟨rfl, zeT hk0 (by simpa using h1)⟩
    | exact zH rfl ⟨rfl, (zbI hk1).trans (by rw [List.set_set, (zcZ h0 (by simp_all)).1 (by have q := h5; rw [zba] at q; exact q)])⟩
    | exact zH rfl ⟨rfl, by rw [(zcZ h0 (by simp_all)).2 (by have q := h6; rw [zba] at q; exact q)]⟩
    | exact zH rfl ⟨rfl, (zbI hk0).trans (by rw [zgU h0 (by first | (simp; done) | (rintro ⟨q1, q2, q3⟩; simp_all; done) | (rintro ⟨q1, q2⟩; simp_all; done) | simp_all) (by simp_all)])⟩
    | exact zH rfl ⟨rfl, (zbI hk0).trans (by rw [ze3 h0 (by first | (simp; done) | (rintro ⟨q1, q2, q3⟩; simp_all; done) | (rintro ⟨q1, q2⟩; simp_all; done) | simp_all) (by first | (simp; done) | (rintro ⟨q1, q2, q3⟩; simp_all; done) | (rintro ⟨q1, q2⟩; simp_all; done) | simp_all) (by simp_all)])⟩
    | exact zH rfl ⟨rfl, (zbI hk2).trans (by rw [List.set_set, (zcp h0 (by first | (simp; done) | (rintro ⟨q1, q2, q3⟩; simp_all; done) | (rintro ⟨q1, q2⟩; simp_all; done) | simp_all) (by first | (simp; done) | (rintro ⟨q1, q2, q3⟩; simp_all; done) | (rintro ⟨q1, q2⟩; simp_all; done) | simp_all) (by first | (simp; done) | (rintro ⟨q1, q2, q3⟩; simp_all; done) | (rintro ⟨q1, q2⟩; simp_all; done) | simp_all) (by simp_all)).1 (by have q := h13; rw [zba] at q; exact q)])⟩
    | exact zH rfl ⟨rfl, by rw [(zcp h0 (by first | (simp; done) | (rintro ⟨q1, q2, q3⟩; simp_all; done) | (rintro ⟨q1, q2⟩; simp_all; done) | simp_all) (by first | (simp; done) | (rintro ⟨q1, q2, q3⟩; simp_all; done) | (rintro ⟨q1, q2⟩; simp_all; done) | simp_all) (by first | (simp; done) | (rintro ⟨q1, q2, q3⟩; simp_all; done) | (rintro ⟨q1, q2⟩; simp_all; done) | simp_all) (by simp_all)).2 (by have q := h14; rw [zba] at q; exact q)]⟩
    | exact zH rfl ⟨rfl, zeW hk0 (by first | (simp; done) | (rintro ⟨q1, q2, q3⟩; simp_all; done) | (rintro ⟨q1, q2⟩; simp_all; done) | simp_all) (by first | (simp; done) | (rintro ⟨q1, q2, q3⟩; simp_all; done) | (rintro ⟨q1, q2⟩; simp_all; done) | simp_all) (by first | (simp; done) | (rintro ⟨q1, q2, q3⟩; simp_all; done) | (rintro ⟨q1, q2⟩; simp_all; done) | simp_all) (by first | (simp; done) | (rintro ⟨q1, q2, q3⟩; simp_all; done) | (rintro ⟨q1, q2⟩; simp_all; done) | simp_all)⟩
   ·try simp at h8
    refine zar (fun M => M = (FL bf m o fn E ++ S)) [10] mixed ?_
    refine ahp 0 rfl rfl (by kernel_rfl) (by kernel_rfl) ((by first | exact zd zS rfl ty3 (by decide) rfl | exact zb zS rfl ty3 (by decide) rfl)) ?_
    refine ahp 1 rfl rfl (by kernel_rfl) (by kernel_rfl) (zh ty3 rfl rfl rfl) ?_
    refine ahp 2 rfl rfl (by kernel_rfl) (by kernel_rfl) (zaj rfl rfl) ?_
    refine ahp 3 rfl rfl (by kernel_rfl) (by kernel_rfl) (zf rfl) ?_
    refine ahg 4 rfl rfl (by kernel_rfl) (by kernel_rfl) rfl (fun hc => ⟨_, OpenTo.refl _, (by first | exact zd zS rfl ty9 (by decide) rfl | exact zb zS rfl ty9 (by decide) rfl)⟩) ?_
    refine ahg 5 rfl rfl (by kernel_rfl) (by kernel_rfl) rfl (fun hc => ⟨_, OpenTo.upd (t := 84) rfl (by first | exact hc | simp_all) (OpenTo.refl _), zh ty9 rfl rfl rfl⟩) ?_
    refine ahg 6 rfl rfl (by kernel_rfl) (by kernel_rfl) rfl (fun hc => ⟨_, OpenTo.refl _, zf rfl⟩) ?_
    refine ahg 7 rfl rfl (by kernel_rfl) (by kernel_rfl) rfl (fun hc => ⟨_, OpenTo.upd (t := 86) rfl (by first | exact hc | simp_all) (OpenTo.refl _), (by first | exact zn rfl | exact zg rfl)⟩) ?_
    refine ahg 8 rfl rfl (by kernel_rfl) (by kernel_rfl) rfl (fun hc => ⟨_, OpenTo.upd (t := 87) rfl (by first | exact hc | simp_all) (OpenTo.refl _), zb zbm rfl zJ (by decide) rfl⟩) ?_
    refine ahg 9 rfl rfl (by kernel_rfl) (by kernel_rfl) rfl (fun hc => ⟨_, OpenTo.upd (t := 88) rfl (by first | exact hc | simp_all) (OpenTo.refl _), zb zJ rfl ty9 (by decide) rfl⟩) ?_
    refine zdt 10 rfl rfl (by kernel_rfl) (by kernel_rfl) (by simp) rfl rfl (fun hc => ⟨_, OpenTo.upd (t := 89) rfl (by first | exact hc | simp_all) (OpenTo.refl _), fun M hM => by
     subst hM; exact zy (i := 3 * k0 + 1) ty9 rfl (zbx hk0) (.inl ⟨rfl, rfl⟩) ⟨rfl, rfl⟩
     ⟩) ?_
    refine ahg 11 rfl rfl (by kernel_rfl) (by kernel_rfl) rfl (fun hc => ⟨_, OpenTo.upd (t := 90) rfl (by first | exact hc | simp_all) (OpenTo.upd (t := 85) rfl (by first | exact hc | simp_all) (OpenTo.refl _)), zbs rfl rfl⟩) ?_
    refine ahp 12 rfl rfl (by kernel_rfl) (by kernel_rfl) (zG rfl (.inr ⟨_, rfl, fun h => by simp_all⟩) (.inl rfl)) ?_
    refine ahp 13 rfl rfl (by kernel_rfl) (by kernel_rfl) (z8 rfl) ?_
    refine ahz (by kernel_rfl) ?_
    refine zl rfl (fun h9 => ?_) (fun h10 => ?_)
    ·try simp at h9
     refine zB ?_
     refine dmv rfl ?_
     refine dq ((by first | exact zd zS rfl ty3 (by decide) rfl | exact zb zS rfl ty3 (by decide) rfl)) ?_
     refine dq (zh ty3 rfl rfl rfl) ?_
     refine de rfl (zdp (i := 3 * k0 + 1) (m' := .cells d0.b (cD { d0 with p := setH d0.p 5 a.At })) zf3 rfl (WeakL.refl _) (zbx hk0) (zbD (d := d0)) ?_)
     refine dn ?_
     refine zA ?_
     first
     | exact zaQ rfl ⟨rfl, zeT hk0 (by simpa using h1)⟩
     | exact zH rfl ⟨rfl, (zbI hk1).trans (by rw [List.set_set, (zcZ h0 (by simp_all)).1 (by have q := h5; rw [zba] at q; exact q)])⟩
     | exact zH rfl ⟨rfl, by rw [(zcZ h0 (by simp_all)).2 (by have q := h6; rw [zba] at q; exact q)]⟩
     | exact zH rfl ⟨rfl, (zbI hk0).trans (by rw [zgU h0 (by first | (simp; done) | (rintro ⟨q1, q2, q3⟩; simp_all; done) | (rintro ⟨q1, q2⟩; simp_all; done) | simp_all) (by simp_all)])⟩
     | exact zH rfl ⟨rfl, (zbI hk0).trans (by rw [ze3 h0 (by first | (simp; done) | (rintro ⟨q1, q2, q3⟩; simp_all; done) | (rintro ⟨q1, q2⟩; simp_all; done) | simp_all) (by first | (simp; done) | (rintro ⟨q1, q2, q3⟩; simp_all; done) | (rintro ⟨q1, q2⟩; simp_all; done) | simp_all) (by simp_all)])⟩
     | exact zH rfl ⟨rfl, (zbI hk2).trans (by rw [List.set_set, (zcp h0 (by first | (simp; done) | (rintro ⟨q1, q2, q3⟩; simp_all; done) | (rintro ⟨q1, q2⟩; simp_all; done) | simp_all) (by first | (simp; done) | (rintro ⟨q1, q2, q3⟩; simp_all; done) | (rintro ⟨q1, q2⟩; simp_all; done) | simp_all) (by first | (simp; done) | (rintro ⟨q1, q2, q3⟩; simp_all; done) | (rintro ⟨q1, q2⟩; simp_all; done) | simp_all) (by simp_all)).1 (by have q := h13; rw [zba] at q; exact q)])⟩
     | exact zH rfl ⟨rfl, by rw [(zcp h0 (by first | (simp; done) | (rintro ⟨q1, q2, q3⟩; simp_all; done) | (rintro ⟨q1, q2⟩; simp_all; done) | simp_all) (by first | (simp; done) | (rintro ⟨q1, q2, q3⟩; simp_all; done) | (rintro ⟨q1, q2⟩; simp_all; done) | simp_all) (by first | (simp; done) | (rintro ⟨q1, q2, q3⟩; simp_all; done) | (rintro ⟨q1, q2⟩; simp_all; done) | simp_all) (by simp_all)).2 (by have q := h14; rw [zba] at q; exact q)]⟩
     | exact zH rfl ⟨rfl, zeW hk0 (by first | (simp; done) | (rintro ⟨q1, q2, q3⟩; simp_all; done) | (rintro ⟨q1, q2⟩; simp_all; done) | simp_all) (by first | (simp; done) | (rintro ⟨q1, q2, q3⟩; simp_all; done) | (rintro ⟨q1, q2⟩; simp_all; done) | simp_all) (by first | (simp; done) | (rintro ⟨q1, q2, q3⟩; simp_all; done) | (rintro ⟨q1, q2⟩; simp_all; done) | simp_all) (by first | (simp; done) | (rintro ⟨q1, q2, q3⟩; simp_all; done) | (rintro ⟨q1, q2⟩; simp_all; done) | simp_all)⟩
    ·try simp at h10
     refine za ?_
     refine dq ((by first | exact zd zS rfl ty3 (by decide) rfl | exact zb zS rfl ty3 (by decide) rfl)) ?_
     refine dq (zh ty3 rfl rfl rfl) ?_
     refine dq (zaj rfl rfl) ?_
     refine dmv rfl ?_
     refine dg rfl rfl (fun hc => ⟨_, OpenTo.refl _, zf rfl⟩) ?_
     refine dg rfl rfl (fun hc => ⟨_, OpenTo.upd (t := 102) rfl (by first | exact hc | simp_all) (OpenTo.refl _), zam rfl⟩) ?_
     refine dq (zG rfl (.inr ⟨_, rfl, fun h => by simp_all⟩) (.inl rfl)) ?_
     refine dmv rfl ?_
     refine dg rfl rfl (fun hc => ⟨_, OpenTo.refl _, zf rfl⟩) ?_
     refine dg rfl rfl (fun hc => ⟨_, OpenTo.upd (t := 106) rfl (by first | exact hc | simp_all) (OpenTo.refl _), (by first | exact zn rfl | exact zg rfl)⟩) ?_
     refine dg rfl rfl (fun hc => ⟨_, OpenTo.upd (t := 107) rfl (by first | exact hc | simp_all) (OpenTo.refl _), zb zbm rfl ty3 (by decide) rfl⟩) ?_
     refine dgl rfl rfl (fun hc => ⟨_, OpenTo.upd (t := 108) rfl (by first | exact hc | simp_all) (OpenTo.refl _), zy (i := 3 * k0 + 1) ty3 rfl (zbx hk0) (.inl ⟨rfl, rfl⟩) ⟨rfl, rfl⟩⟩) ?_
     refine dg rfl rfl (fun hc => ⟨_, OpenTo.upd (t := 109) rfl (by first | exact hc | simp_all) (OpenTo.refl _), zaj rfl rfl⟩) ?_
     refine dq (zG rfl (.inr ⟨_, rfl, fun h => by simp_all⟩) (.inl rfl)) ?_
     refine das rfl ?_
     refine dn ?_
     refine zl rfl (fun h11 => ?_) (fun h12 => ?_)
     ·try simp at h11
      refine zar (fun M => M = (FL bf m o fn E ++ S)) [3] mixed ?_
      refine ahp 0 rfl rfl (by kernel_rfl) (by kernel_rfl) (zf rfl) ?_
      refine ahp 1 rfl rfl (by kernel_rfl) (by kernel_rfl) ((by first | exact zn rfl | exact zg rfl)) ?_
      refine ahp 2 rfl rfl (by kernel_rfl) (by kernel_rfl) (zb zbm rfl zcP (by decide) rfl) ?_
      refine ahl 3 rfl rfl (by kernel_rfl) (by kernel_rfl) (by simp) rfl (fun M hM => by subst hM; exact zy (i := 3 * k0 + 1) zcP rfl (zbx hk0) (.inl ⟨rfl, rfl⟩) ⟨rfl, rfl⟩) ?_
      refine ahp 4 rfl rfl (by kernel_rfl) (by kernel_rfl) ((by first | exact zd zS rfl ty9 (by decide) rfl | exact zb zS rfl ty9 (by decide) rfl)) ?_
      refine ahp 5 rfl rfl (by kernel_rfl) (by kernel_rfl) (zh ty9 rfl rfl rfl) ?_
      refine ahe 6 rfl (by kernel_rfl) ?_
      refine zae (zfz (i := 3 * k0 + 3) zcP ty9 rfl rfl rfl (FL_v hk0) ?_)
      refine ⟨fun _ => .inr (by simp [zaq, Region.binds]), ?_⟩
      refine ahz (by kernel_rfl) ?_
      refine zP (Ghost.of_eq (zsz hk0)) ?_
      have hk2 : (E.set k0 (dV d0 (zaX a.Team d0.p.2.veto)))[k0]? = some (dV d0 (zaX a.Team d0.p.2.veto)) := zk3 hk0
      change HWp _ _ _ _ (FL bf m o fn (E.set k0 (dV d0 (zaX a.Team d0.p.2.veto))) ++ S) _
      refine zar (fun M => M = (FL bf m o fn (E.set k0 (dV d0 (zaX a.Team d0.p.2.veto))) ++ S)) [3, 4, 8] mixed ?_
      refine ahp 0 rfl rfl (by kernel_rfl) (by kernel_rfl) (zf rfl) ?_
      refine ahp 1 rfl rfl (by kernel_rfl) (by kernel_rfl) ((by first | exact zn rfl | exact zg rfl)) ?_
      refine ahp 2 rfl rfl (by kernel_rfl) (by kernel_rfl) (zb zbm rfl zcP (by decide) rfl) ?_
      refine ahl 3 rfl rfl (by kernel_rfl) (by kernel_rfl) (by simp) rfl (fun M hM => by subst hM; exact zy (i := 3 * k0 + 1) zcP rfl (zbx (d := (dV d0 (zaX a.Team d0.p.2.veto))) hk2) (.inl ⟨rfl, rfl⟩) ⟨rfl, rfl⟩) ?_
      refine ahl 4 rfl rfl (by kernel_rfl) (by kernel_rfl) (by simp) rfl (fun M hM => by subst hM; exact zkv (i := 3 * k0 + 3) zcP rfl (FL_v (d := (dV d0 (zaX a.Team d0.p.2.veto))) hk2) ⟨rfl, rfl⟩) ?_
      refine ahp 5 rfl rfl (by kernel_rfl) (by kernel_rfl) (zf rfl) ?_
      refine ahp 6 rfl rfl (by kernel_rfl) (by kernel_rfl) ((by first | exact zn rfl | exact zg rfl)) ?_
      refine ahp 7 rfl rfl (by kernel_rfl) (by kernel_rfl) (zb zcv rfl zdY (by decide) rfl) ?_
      refine ahl 8 rfl rfl (by kernel_rfl) (by kernel_rfl) (by simp) rfl (fun M hM => by subst hM; exact zy (i := 0) zdY rfl rfl (.inl ⟨rfl, rfl⟩) ⟨rfl, rfl⟩) ?_
      refine ahp 9 rfl rfl (by kernel_rfl) (by kernel_rfl) ((by first | exact zn rfl | exact zg rfl)) ?_
      refine ahp 10 rfl rfl (by kernel_rfl) (by kernel_rfl) ((by first | exact zd zN rfl ty3 (by decide) rfl | exact zb zN rfl ty3 (by decide) rfl)) ?_
      refine ahp 11 rfl rfl (by kernel_rfl) (by kernel_rfl) (zh ty3 rfl rfl rfl) ?_
      refine ahp 12 rfl rfl (by kernel_rfl) (by kernel_rfl) (zaj rfl rfl) ?_
      refine ahz (by kernel_rfl) ?_
      refine zl rfl (fun h13 => ?_) (fun h14 => ?_)
      ·try simp at h13
       refine zB ?_
       refine dmv rfl ?_
       refine dq ((by first | exact zd zS rfl ty3 (by decide) rfl | exact zb zS rfl ty3 (by decide) rfl)) ?_
       refine dq (zh ty3 rfl rfl rfl) ?_
       refine de rfl (zdp (i := 3 * k0 + 1) (m' := .cells (dV d0 (zaX a.Team d0.p.2.veto)).b (cD { (dV d0 (zaX a.Team d0.p.2.veto)) with p := setH (dV d0 (zaX a.Team d0.p.2.veto)).p 6 a.At })) zf3 rfl (WeakL.refl _) (zbx hk2) (zbD (d := (dV d0 (zaX a.Team d0.p.2.veto)))) ?_)
       refine dn ?_
       refine zA ?_
       first
       | exact zaQ rfl ⟨rfl, zeT hk0 (by simpa using h1)⟩
       | exact zH rfl ⟨rfl, (zbI hk1).trans (by rw [List.set_set, (zcZ h0 (by simp_all)).1 (by have q := h5; rw [zba] at q; exact q)])⟩
       | exact zH rfl ⟨rfl, by rw [(zcZ h0 (by simp_all)).2 (by have q := h6; rw [zba] at q; exact q)]⟩
       | exact zH rfl ⟨rfl, (zbI hk0).trans (by rw [zgU h0 (by first | (simp; done) | (rintro ⟨q1, q2, q3⟩; simp_all; done) | (rintro ⟨q1, q2⟩; simp_all; done) | simp_all) (by simp_all)])⟩
       | exact zH rfl ⟨rfl, (zbI hk0).trans (by rw [ze3 h0 (by first | (simp; done) | (rintro ⟨q1, q2, q3⟩; simp_all; done) | (rintro ⟨q1, q2⟩; simp_all; done) | simp_all) (by first | (simp; done) | (rintro ⟨q1, q2, q3⟩; simp_all; done) | (rintro ⟨q1, q2⟩; simp_all; done) | simp_all) (by simp_all)])⟩
       | exact zH rfl ⟨rfl, (zbI hk2).trans (by rw [List.set_set, (zcp h0 (by first | (simp; done) | (rintro ⟨q1, q2, q3⟩; simp_all; done) | (rintro ⟨q1, q2⟩; simp_all; done) | simp_all) (by first | (simp; done) | (rintro ⟨q1, q2, q3⟩; simp_all; done) | (rintro ⟨q1, q2⟩; simp_all; done) | simp_all) (by first | (simp; done) | (rintro ⟨q1, q2, q3⟩; simp_all; done) | (rintro ⟨q1, q2⟩; simp_all; done) | simp_all) (by simp_all)).1 (by have q := h13; rw [zba] at q; exact q)])⟩
       | exact zH rfl ⟨rfl, by rw [(zcp h0 (by first | (simp; done) | (rintro ⟨q1, q2, q3⟩; simp_all; done) | (rintro ⟨q1, q2⟩; simp_all; done) | simp_all) (by first | (simp; done) | (rintro ⟨q1, q2, q3⟩; simp_all; done) | (rintro ⟨q1, q2⟩; simp_all; done) | simp_all) (by first | (simp; done) | (rintro ⟨q1, q2, q3⟩; simp_all; done) | (rintro ⟨q1, q2⟩; simp_all; done) | simp_all) (by simp_all)).2 (by have q := h14; rw [zba] at q; exact q)]⟩
       | exact zH rfl ⟨rfl, zeW hk0 (by first | (simp; done) | (rintro ⟨q1, q2, q3⟩; simp_all; done) | (rintro ⟨q1, q2⟩; simp_all; done) | simp_all) (by first | (simp; done) | (rintro ⟨q1, q2, q3⟩; simp_all; done) | (rintro ⟨q1, q2⟩; simp_all; done) | simp_all) (by first | (simp; done) | (rintro ⟨q1, q2, q3⟩; simp_all; done) | (rintro ⟨q1, q2⟩; simp_all; done) | simp_all) (by first | (simp; done) | (rintro ⟨q1, q2, q3⟩; simp_all; done) | (rintro ⟨q1, q2⟩; simp_all; done) | simp_all)⟩
      ·try simp at h14
       refine zo ?_
       refine zA ?_
       first
       | exact zaQ rfl ⟨rfl, zeT hk0 (by simpa using h1)⟩
       | exact zH rfl ⟨rfl, (zbI hk1).trans (by rw [List.set_set, (zcZ h0 (by simp_all)).1 (by have q := h5; rw [zba] at q; exact q)])⟩
       | exact zH rfl ⟨rfl, by rw [(zcZ h0 (by simp_all)).2 (by have q := h6; rw [zba] at q; exact q)]⟩
       | exact zH rfl ⟨rfl, (zbI hk0).trans (by rw [zgU h0 (by first | (simp; done) | (rintro ⟨q1, q2, q3⟩; simp_all; done) | (rintro ⟨q1, q2⟩; simp_all; done) | simp_all) (by simp_all)])⟩
       | exact zH rfl ⟨rfl, (zbI hk0).trans (by rw [ze3 h0 (by first | (simp; done) | (rintro ⟨q1, q2, q3⟩; simp_all; done) | (rintro ⟨q1, q2⟩; simp_all; done) | simp_all) (by first | (simp; done) | (rintro ⟨q1, q2, q3⟩; simp_all; done) | (rintro ⟨q1, q2⟩; simp_all; done) | simp_all) (by simp_all)])⟩
       | exact zH rfl ⟨rfl, (zbI hk2).trans (by rw [List.set_set, (zcp h0 (by first | (simp; done) | (rintro ⟨q1, q2, q3⟩; simp_all; done) | (rintro ⟨q1, q2⟩; simp_all; done) | simp_all) (by first | (simp; done) | (rintro ⟨q1, q2, q3⟩; simp_all; done) | (rintro ⟨q1, q2⟩; simp_all; done) | simp_all) (by first | (simp; done) | (rintro ⟨q1, q2, q3⟩; simp_all; done) | (rintro ⟨q1, q2⟩; simp_all; done) | simp_all) (by simp_all)).1 (by have q := h13; rw [zba] at q; exact q)])⟩
       | exact zH rfl ⟨rfl, by rw [(zcp h0 (by first | (simp; done) | (rintro ⟨q1, q2, q3⟩; simp_all; done) | (rintro ⟨q1, q2⟩; simp_all; done) | simp_all) (by first | (simp; done) | (rintro ⟨q1, q2, q3⟩; simp_all; done) | (rintro ⟨q1, q2⟩; simp_all; done) | simp_all) (by first | (simp; done) | (rintro ⟨q1, q2, q3⟩; simp_all; done) | (rintro ⟨q1, q2⟩; simp_all; done) | simp_all) (by simp_all)).2 (by have q := h14; rw [zba] at q; exact q)]⟩
       | exact zH rfl ⟨rfl, zeW hk0 (by first | (simp; done) | (rintro ⟨q1, q2, q3⟩; simp_all; done) | (rintro ⟨q1, q2⟩; simp_all; done) | simp_all) (by first | (simp; done) | (rintro ⟨q1, q2, q3⟩; simp_all; done) | (rintro ⟨q1, q2⟩; simp_all; done) | simp_all) (by first | (simp; done) | (rintro ⟨q1, q2, q3⟩; simp_all; done) | (rintro ⟨q1, q2⟩; simp_all; done) | simp_all) (by first | (simp; done) | (rintro ⟨q1, q2, q3⟩; simp_all; done) | (rintro ⟨q1, q2⟩; simp_all; done) | simp_all)⟩
     ·try simp at h12
      refine zo ?_
      refine zA ?_
      first
      | exact zaQ rfl ⟨rfl, zeT hk0 (by simpa using h1)⟩
      | exact zH rfl ⟨rfl, (zbI hk1).trans (by rw [List.set_set, (zcZ h0 (by simp_all)).1 (by have q := h5; rw [zba] at q; exact q)])⟩
      | exact zH rfl ⟨rfl, by rw [(zcZ h0 (by simp_all)).2 (by have q := h6; rw [zba] at q; exact q)]⟩
      | exact zH rfl ⟨rfl, (zbI hk0).trans (by rw [zgU h0 (by first | (simp; done) | (rintro ⟨q1, q2, q3⟩; simp_all; done) | (rintro ⟨q1, q2⟩; simp_all; done) | simp_all) (by simp_all)])⟩
      | exact zH rfl ⟨rfl, (zbI hk0).trans (by rw [ze3 h0 (by first | (simp; done) | (rintro ⟨q1, q2, q3⟩; simp_all; done) | (rintro ⟨q1, q2⟩; simp_all; done) | simp_all) (by first | (simp; done) | (rintro ⟨q1, q2, q3⟩; simp_all; done) | (rintro ⟨q1, q2⟩; simp_all; done) | simp_all) (by simp_all)])⟩
      | exact zH rfl ⟨rfl, (zbI hk2).trans (by rw [List.set_set, (zcp h0 (by first | (simp; done) | (rintro ⟨q1, q2, q3⟩; simp_all; done) | (rintro ⟨q1, q2⟩; simp_all; done) | simp_all) (by first | (simp; done) | (rintro ⟨q1, q2, q3⟩; simp_all; done) | (rintro ⟨q1, q2⟩; simp_all; done) | simp_all) (by first | (simp; done) | (rintro ⟨q1, q2, q3⟩; simp_all; done) | (rintro ⟨q1, q2⟩; simp_all; done) | simp_all) (by simp_all)).1 (by have q := h13; rw [zba] at q; exact q)])⟩
      | exact zH rfl ⟨rfl, by rw [(zcp h0 (by first | (simp; done) | (rintro ⟨q1, q2, q3⟩; simp_all; done) | (rintro ⟨q1, q2⟩; simp_all; done) | simp_all) (by first | (simp; done) | (rintro ⟨q1, q2, q3⟩; simp_all; done) | (rintro ⟨q1, q2⟩; simp_all; done) | simp_all) (by first | (simp; done) | (rintro ⟨q1, q2, q3⟩; simp_all; done) | (rintro ⟨q1, q2⟩; simp_all; done) | simp_all) (by simp_all)).2 (by have q := h14; rw [zba] at q; exact q)]⟩
      | exact zH rfl ⟨rfl, zeW hk0 (by first | (simp; done) | (rintro ⟨q1, q2, q3⟩; simp_all; done) | (rintro ⟨q1, q2⟩; simp_all; done) | simp_all) (by first | (simp; done) | (rintro ⟨q1, q2, q3⟩; simp_all; done) | (rintro ⟨q1, q2⟩; simp_all; done) | simp_all) (by first | (simp; done) | (rintro ⟨q1, q2, q3⟩; simp_all; done) | (rintro ⟨q1, q2⟩; simp_all; done) | simp_all) (by first | (simp; done) | (rintro ⟨q1, q2, q3⟩; simp_all; done) | (rintro ⟨q1, q2⟩; simp_all; done) | simp_all)⟩

/-- (*benchwarmer/trade.floor).answer -/
theorem znM [Tracks] {bf : Nat} {m : MarketS} {o : List OwnerS} {fn : HVal} {E : List DV} {S : List MObj} {a : ReplyS} (hE : E.length ≤ 1000000) (hno : ∀ z ∈ E, z.p.1.Id ≠ a.Offer) : Con Tryz.prog 90 [pAt bf, zbA a] (FL bf m o fn E ++ S) (fun x M' => x = .tup [] ∧ M' = (FL bf m o fn E ++ S)) := by
 refine Con.of_body Tryz.func90 rfl Tryz.ntmps90 rfl rfl ?_
 refine za ?_
 refine dq (zal rfl rfl) ?_
 refine dn ?_
 refine za ?_
 refine dmv rfl ?_
 refine dq ((by first | exact zd zS rfl ty9 (by decide) rfl | exact zb zS rfl ty9 (by decide) rfl)) ?_
 refine dq (zh ty9 rfl rfl rfl) ?_
 refine de rfl (EOp.mono ?_ (zbd zqn rfl (WeakL.refl _) (zp8 hE hno)))
 rintro _ _ ⟨rfl, rfl⟩
 refine das rfl ?_
 refine dn ?_
 refine zm ?_
 refine za ?_
 refine dmv rfl ?_
 refine dq (zkj zcM rfl rfl) ?_
 refine dmv rfl ?_
 refine dg rfl rfl (fun hc => ⟨_, OpenTo.refl _, zf rfl⟩) ?_
 refine dg (h := .raw (.pointer none)) rfl rfl (fun hc => absurd hc (by simp)) ?_
 refine dg (h := .raw (.pointer none)) rfl rfl (fun hc => absurd hc (by simp)) ?_
 refine dgl (h := .int .i64 0) rfl rfl (fun hc => absurd hc (by simp)) ?_
 refine dg rfl rfl (fun hc => ⟨_, OpenTo.upd (t := 16) rfl (by first | exact hc | simp_all) (OpenTo.refl _), zbq rfl rfl⟩) ?_
 refine dg rfl rfl (fun hc => ⟨_, OpenTo.upd (t := 17) rfl (by first | exact hc | simp_all) (OpenTo.refl _), zf rfl⟩) ?_
 refine dg rfl rfl (fun hc => ⟨_, OpenTo.refl _, zf rfl⟩) ?_
 refine dg (h := .raw (.pointer none)) rfl rfl (fun hc => absurd hc (by simp)) ?_
 refine dg (h := .raw (.pointer none)) rfl rfl (fun hc => absurd hc (by simp)) ?_
 refine dgl (h := .int .i64 0) rfl rfl (fun hc => absurd hc (by simp)) ?_
 refine dg rfl rfl (fun hc => ⟨_, OpenTo.upd (t := 22) rfl (by first | exact hc | simp_all) (OpenTo.refl _), zbq rfl rfl⟩) ?_
 refine dg rfl rfl (fun hc => ⟨_, OpenTo.upd (t := 18) rfl (by first | exact hc | simp_all) (OpenTo.refl _), zG rfl (.inr ⟨_, rfl, fun h => by simp_all⟩) (.inl rfl)⟩) ?_
 refine dq (zG rfl (.inl rfl) (.inr ⟨_, rfl, fun h => by simp_all⟩)) ?_
 refine dn ?_
 refine zl rfl (fun h1 => ?_) (fun h1 => ?_)
 ·try simp at h1
  refine zp ?_
  exact zaQ rfl ⟨rfl, rfl⟩
 ·exfalso
  try simp at h1
  done

/-- An answer is followed. -/
theorem zql [Tracks] {bf : Nat} {m : MarketS} {o : List OwnerS} {fn : HVal} {E : List DV} {S : List MObj} {a : ReplyS} (hE : E.length ≤ 1000000) (hG : ∀ d ∈ E, d.p.1.Gives.length ≤ 1000) : Con Tryz.prog 90 [pAt bf, zbA a] (FL bf m o fn E ++ S) (fun x M' => ∃ E', x = .tup [] ∧ M' = FL bf m o fn E' ++ S ∧ E'.map (·.p) = zcl m a (E.map (·.p))) := by
 rcases zqY E a.Offer with h | ⟨k, d, h1, h2, h3⟩
 ·exact (znM hE h).mono fun x M' ⟨hx, hM⟩ => ⟨E, hx, hM, (zlc h).symm⟩
 ·exact (zoj hE (hG d (List.mem_of_getElem? h1)) h1 h2 h3).mono fun x M' ⟨hx, hM⟩ => ⟨_, hx, hM, (znb h1 h2 h3).symm⟩
end
end Go.Proofs.YtpcaaekefgkhjaaGreatDoor
namespace Go.HL
section
section
variable {P : Program} {e : Env} {dst : Option Tmp} {ty : TypeId} {pos : String} {af : Array Edge} {g : Option (Nat × Bool)}
end
section
variable {P : Program} {n : Nat} {e e' : Env} {M M' : List MObj} {Q Q' : Exit → Env → List MObj → Prop} {c c' : Code}
def zph {α β γ δ : Type} (e : Env) (ks : List Nat) (W : α → β → γ → δ → List (Nat × HVal)) (MM : α → β → γ → δ → List MObj) (Iv : α → β → γ → δ → Prop) (μ : α → β → γ → δ → Nat) (x : α) (y : β) (u : γ) (v : δ) (Q : Exit → Env → List MObj → Prop) : Exit → Env → List MObj → Prop
 | .normal, e', M => ∃ j k l m, Iv j k l m ∧ μ j k l m < μ x y u v ∧ zdl e' (W j k l m) ∧ zel ks e e' ∧ M.Perm (MM j k l m)
 | z, e', M => Q z e' M
theorem zhw {α β γ δ : Type} {e0 : Env} {ks : List Nat} {W : α → β → γ → δ → List (Nat × HVal)} {MM : α → β → γ → δ → List MObj} {Iv : α → β → γ → δ → Prop} {μ : α → β → γ → δ → Nat} {x : α} {y : β} {u : γ} {v : δ} {id : Nat} (h : Q (.exit id) e M) :
 zph e0 ks W MM Iv μ x y u v Q (.exit id) e M := h
theorem zgS [Tracks] {α β γ δ : Type} (ks : List Nat) (W : α → β → γ → δ → List (Nat × HVal)) (MM : α → β → γ → δ → List MObj) (Iv : α → β → γ → δ → Prop) (μ : α → β → γ → δ → Nat) (x : α) (y : β) (u : γ) (v : δ) (h0 : Iv x y u v) (hW : zdl e (W x y u v)) (hM : M.Perm (MM x y u v))
 (hb : ∀ x y u v, Iv x y u v → HWp P n c (loopE e ks (W x y u v)) (MM x y u v) (zph e ks W MM Iv μ x y u v Q)) : HWp P n (.loop c) e M Q := by
 refine zaJ (ι := α × β × γ × δ) ks (fun p => W p.1 p.2.1 p.2.2.1 p.2.2.2) (fun p => MM p.1 p.2.1 p.2.2.1 p.2.2.2) (fun p => Iv p.1 p.2.1 p.2.2.1 p.2.2.2) (fun p => μ p.1 p.2.1 p.2.2.1 p.2.2.2) (x, y, u, v) h0 hW hM fun p hp => zga (hb p.1 p.2.1 p.2.2.1 p.2.2.2 hp) ?_
 intro z e1 M1 hq
 cases z with
 | normal => obtain ⟨j, k, l, m, h⟩ := hq; exact ⟨(j, k, l, m), h⟩
 | _ => exact hq
end
end
end Go.HL
section
namespace Go.HL
theorem zmJ [Tracks] {rs : List ResultVar} {e e' : Env} {M M' : List MObj} {h : HVal} {Q : HVal → List MObj → Prop} (hg : Ghost e M e' M') (hr : zfq e' rs = some h) (hh : Q h M') : zgr rs Q .normal e M :=
 ⟨e', M', hg, h, h, hr, Weak.refl _, hh⟩
structure PInv (m : MarketS) (t : Int) (o : List OwnerS) (E : List DV) (k : Nat) (o1 : List OwnerS) (D : List DV) (l1 : List (DealS × List OwnerS)) : Prop where
 eq : zaM m t o (E.map (·.p)) = ⟨(zaM m t o1 ((E.drop k).map (·.p))).o, (D.take k).map (·.p) ++ (zaM m t o1 ((E.drop k).map (·.p))).ds, l1 ++ (zaM m t o1 ((E.drop k).map (·.p))).log⟩
 rest : D.drop k = E.drop k
 pl : o1.map (·.Player) = o.map (·.Player)
 len : D.length = E.length
 ll : l1.length ≤ k
theorem PInv.start (m : MarketS) (t : Int) (o : List OwnerS) (E : List DV) : PInv m t o E 0 o E [] := ⟨by simp, rfl, rfl, rfl, Nat.le_refl _⟩
theorem zgy {m : MarketS} {t : Int} {o : List OwnerS} {p : DD} : (zaB m t o p).1.map (·.Player) = o.map (·.Player) := by
 unfold zaB
 split
 ·split
  ·rfl
  split
  ·rename_i hb; exact zic hb
  ·rfl
 split <;> rfl
theorem zpW (m : MarketS) (t : Int) (o : List OwnerS) (p : DD) : (zaB m t o p).2.2.length ≤ 1 := by
 unfold zaB
 split
 ·split
  ·simp
  split <;> simp
 split <;> simp
theorem PInv.get {m : MarketS} {t : Int} {o o1 : List OwnerS} {E D : List DV} {k : Nat} {l1 : List (DealS × List OwnerS)} {d : DV} (h : PInv m t o E k o1 D l1) (hd : E[k]? = some d) : D[k]? = some d := by
 have h1 : (D.drop k)[0]? = (E.drop k)[0]? := by rw [h.rest]
 rw [List.getElem?_drop, List.getElem?_drop, Nat.add_zero, hd] at h1
 exact h1
theorem PInv.step {m : MarketS} {t : Int} {o o1 : List OwnerS} {E D : List DV} {k : Nat} {l1 : List (DealS × List OwnerS)} {d : DV} (h : PInv m t o E k o1 D l1) (hd : E[k]? = some d) :
 PInv m t o E (k + 1) (zaB m t o1 d.p).1 (D.set k (dP d (zaB m t o1 d.p).2.1)) (l1 ++ (zaB m t o1 d.p).2.2) := by
 have hD := h.get hd
 have hk := zM hD
 refine ⟨?_, ?_, by rw [zgy, h.pl], by simpa using h.len, ?_⟩
 ·rw [h.eq, zU hd]
  show (⟨(zaM m t o1 (d.p :: (E.drop (k + 1)).map (·.p))).o, _ ++ (zaM m t o1 (d.p :: (E.drop (k + 1)).map (·.p))).ds, _ ++ (zaM m t o1 (d.p :: (E.drop (k + 1)).map (·.p))).log⟩ : FS) = _
  rw [zaM]
  have e : (D.set k (dP d (zaB m t o1 d.p).2.1)).take (k + 1) = D.take k ++ [dP d (zaB m t o1 d.p).2.1] := by
   rw [zaE (zk3 hD), List.take_set_of_le (Nat.le_refl _)]
  rw [e]
  simp [dP]
 ·rw [List.drop_set_of_lt (by omega)]
  have h1 := congrArg (List.drop 1) h.rest
  rw [List.drop_drop, List.drop_drop] at h1
  exact h1
 ·have := zpW m t o1 d.p
  have := h.ll
  rw [List.length_append]; omega
theorem PInv.fin {m : MarketS} {t : Int} {o o1 : List OwnerS} {E D : List DV} {l1 : List (DealS × List OwnerS)} (h : PInv m t o E E.length o1 D l1) : zaM m t o (E.map (·.p)) = ⟨o1, D.map (·.p), l1⟩ := by
 have e := h.eq
 have hl := h.len
 rw [List.drop_length, List.take_of_length_le (by omega)] at e
 rw [e]
 show (⟨o1, _ ++ [], _ ++ []⟩ : FS) = _
 simp
section
variable {m : MarketS} {t : Int} {o : List OwnerS} {d : DV} {E : List DV} {k : Nat}
theorem zf9 (h : d.p.2.how = 2 ∧ d.p.2.since + m.Wait ≤ t) (h2 : m.Deadline ≤ t) : zaB m t o d.p = (o, setH d.p 7 t, []) := by unfold zaB; rw [if_pos h, if_pos h2]
theorem zeU (h : d.p.2.how = 2 ∧ d.p.2.since + m.Wait ≤ t) (h2 : ¬ m.Deadline ≤ t) (h3 : zb1 m o d.p.1.Gives = false) : zaB m t o d.p = (o, setH d.p 8 t, []) := by unfold zaB; rw [if_pos h, if_neg h2, if_neg (by simp [h3])]
theorem zgc (h : d.p.2.how = 2 ∧ d.p.2.since + m.Wait ≤ t) (h2 : ¬ m.Deadline ≤ t) (h3 : zb1 m o d.p.1.Gives = true) : zaB m t o d.p = (zb8 o d.p.1.Gives, setH d.p 3 t, [(d.p.1, zb8 o d.p.1.Gives)]) := by unfold zaB; rw [if_pos h, if_neg h2, if_pos h3]
theorem zq4 (h : ¬ (d.p.2.how = 2 ∧ d.p.2.since + m.Wait ≤ t)) (h2 : d.p.2.how = 1 ∧ (d.p.1.To ≤ t ∨ m.Deadline ≤ t)) : zaB m t o d.p = (o, setH d.p 7 t, []) := by unfold zaB; rw [if_neg h, if_pos h2]
theorem zrp (h : ¬ (d.p.2.how = 2 ∧ d.p.2.since + m.Wait ≤ t)) (h2 : ¬ (d.p.2.how = 1 ∧ (d.p.1.To ≤ t ∨ m.Deadline ≤ t))) : zaB m t o d.p = (o, d.p, []) := by unfold zaB; rw [if_neg h, if_neg h2]
end
/-! from za7 to za7 -/
def ini (l : List DealS) : List DD := l.map fun x => (x, zdQ)
structure FI (m : MarketS) (o : List OwnerS) (l : List DealS) (a : List ReplyS) (u p : Int) (j : Nat) (ps : List DD) : Prop where
 lo : 0 ≤ p
 hi : p ≤ 345686400000
 ds : ps = (zV m o l a p.toNat).ds
 fin : u < p → zV m o l a p.toNat = zV m o l a (u + 1).toNat
 bef : ∀ r ∈ a.take j, r.At < p
 aft : ∀ r ∈ a.drop j, p ≤ r.At
def zkV (a : List ReplyS) : Prop := a.Pairwise fun x y => x.At ≤ y.At
theorem zkf {m : MarketS} {t : Int} {x : ReplyS} {r : List ReplyS} {ps : List DD} (h : t < x.At) : zcQ m t (x :: r) ps ≤ x.At := by
 have h1 := zhl m t ps (zcN m t (x :: r))
 have h2 := zf6 (out := zbk t 345686400000 m.Deadline) h
 unfold zcQ
 unfold zcN at h1 ⊢
 dsimp only at h1 ⊢
 omega
theorem zqa {m : MarketS} {o : List OwnerS} {l : List DealS} {a : List ReplyS} {u : Int} (hf : FOk m l) (ha : ∀ r ∈ a, 0 ≤ r.At) (hs : zkV a) (hu : 0 ≤ u) : FI m o l a u (zcQ m (-1) a (ini l)) 0 (ini l) ∧ zV m o l a (zcQ m (-1) a (ini l)).toNat = zl0 o l := by
 obtain ⟨h1, h2⟩ := zjC (m := m) (t := -1) (a := a) (ps := ini l) (by decide)
 have hq : ∀ t : Nat, 0 ≤ t → (t : Int) < zcQ m (-1) a (ini l) → zhn m a (zV m o l a 0).ds t := fun t _ ht =>
  zjo (t := -1) (a := a) (ps := ini l) (by omega) ht (fun r hr => .inr (by
   cases a with
   | nil => cases hr
   | cons x y =>
     refine ⟨x, rfl, by have := ha x (by simp); omega, ?_⟩
     rcases List.mem_cons.1 hr with rfl | hr
     ·exact Int.le_refl _
     ·exact (List.pairwise_cons.1 hs).1 r hr)) (fun p hp hh => by
   obtain ⟨x, _, rfl⟩ := List.mem_map.1 hp
   cases hh)
 have e0 : ∀ n : Nat, (n : Int) ≤ zcQ m (-1) a (ini l) → zV m o l a n = zV m o l a 0 := fun n hn => zjz hf (Nat.zero_le n) fun t h3 h4 => hq t h3 (by omega)
 refine ⟨⟨by omega, h2, ?_, fun h => ?_, fun r hr => by simp at hr, fun r hr => ?_⟩, e0 _ (by omega)⟩
 ·rw [e0 _ (by omega)]; rfl
 ·exact (e0 _ (by omega)).trans (e0 _ (by omega)).symm
 ·rw [List.drop_zero] at hr
  cases a with
  | nil => cases hr
  | cons x y =>
    have hx := ha x (by simp)
    have h3 := zkf (m := m) (t := -1) (r := y) (ps := ini l) (x := x) (by omega)
    rcases List.mem_cons.1 hr with rfl | hr
    ·exact h3
    ·exact Int.le_trans h3 ((List.pairwise_cons.1 hs).1 r hr)
theorem zq0 {m : MarketS} {o : List OwnerS} {l : List DealS} {a : List ReplyS} {u p : Int} {j : Nat} {ps : List DD} (hf : FOk m l) (hs : zkV a) (hp : 0 ≤ p) (hp2 : p < 345686400000) (hu : p ≤ u)
 (hb : ∀ r ∈ a.take j, r.At ≤ p) (ha : ∀ r ∈ a.drop j, p < r.At) (hd : ps = (zV m o l a (p.toNat + 1)).ds) : FI m o l a u (zcQ m p (a.drop j) ps) j ps ∧ zV m o l a (zcQ m p (a.drop j) ps).toNat = zV m o l a (p.toNat + 1) := by
 obtain ⟨h1, h2⟩ := zjC (m := m) (t := p) (a := a.drop j) (ps := ps) hp2
 have hsd : (a.drop j).Pairwise fun x y => x.At ≤ y.At := hs.sublist (List.drop_sublist j a)
 have hq : ∀ t : Nat, p.toNat + 1 ≤ t → (t : Int) < zcQ m p (a.drop j) ps → zhn m a (zV m o l a (p.toNat + 1)).ds t := fun t h3 ht => by
  rw [← hd]
  refine zjo (t := p) (a := a.drop j) (ps := ps) (by omega) ht (fun r hr => ?_) (fun q hq hh => ?_)
  ·rw [← List.take_append_drop j a] at hr
   rcases List.mem_append.1 hr with hr | hr
   ·exact .inl (hb r hr)
   ·refine .inr ?_
    cases hc : a.drop j with
    | nil => rw [hc] at hr; cases hr
    | cons x y =>
      rw [hc] at hr hsd
      refine ⟨x, rfl, ha x (by rw [hc]; simp), ?_⟩
      rcases List.mem_cons.1 hr with rfl | hr
      ·exact Int.le_refl _
      ·exact (List.pairwise_cons.1 hsd).1 r hr
  ·rw [hd] at hq
   have := ((zfy (o := o) (a := a) hf (p.toNat + 1) q hq).1.wt hh).1
   omega
 have e0 : ∀ n : Nat, p.toNat + 1 ≤ n → (n : Int) ≤ zcQ m p (a.drop j) ps → zV m o l a n = zV m o l a (p.toNat + 1) := fun n hn hn2 => zjz hf hn fun t h3 h4 => hq t h3 (by omega)
 refine ⟨⟨by omega, h2, ?_, fun h => ?_, fun r hr => by have := hb r hr; omega, fun r hr => ?_⟩, e0 _ (by omega) (by omega)⟩
 ·rw [e0 _ (by omega) (by omega)]; exact hd
 ·exact (e0 _ (by omega) (by omega)).trans (e0 _ (by omega) (by omega)).symm
 ·cases hc : a.drop j with
  | nil => rw [hc] at hr; cases hr
  | cons x y =>
    rw [hc] at hr hsd
    have h3 := zkf (m := m) (t := p) (r := y) (ps := ps) (ha x (by rw [hc]; simp))
    rcases List.mem_cons.1 hr with rfl | hr
    ·exact h3
    ·exact Int.le_trans h3 ((List.pairwise_cons.1 hsd).1 r hr)
/-! the answers of a za7 -/
structure AI (m : MarketS) (a : List ReplyS) (p : Int) (qs : List DD) (j : Nat) (ps : List DD) : Prop where
 eq : zcj m (atL a p) qs = zcj m (atL (a.drop j) p) ps
 bef : ∀ r ∈ a.take j, r.At ≤ p
 aft : ∀ r ∈ a.drop j, p ≤ r.At
 fst : ps.map (·.1) = qs.map (·.1)
theorem AI.start {m : MarketS} {a : List ReplyS} {p : Int} {qs : List DD} {j : Nat} (hb : ∀ r ∈ a.take j, r.At < p) (ha : ∀ r ∈ a.drop j, p ≤ r.At) : AI m a p qs j qs := by
 refine ⟨?_, fun r hr => Int.le_of_lt (hb r hr), ha, rfl⟩
 have e : atL a p = atL (a.drop j) p := by
  conv => lhs; rw [← List.take_append_drop j a]
  unfold atL
  rw [List.filter_append, List.filter_eq_nil_iff.2 (fun r hr => by have := hb r hr; simp; omega), List.nil_append]
 rw [e]
theorem AI.step {m : MarketS} {a : List ReplyS} {p : Int} {qs ps : List DD} {j : Nat} {x : ReplyS} (h : AI m a p qs j ps) (hx : a[j]? = some x) (hp : x.At = p) : AI m a p qs (j + 1) (zcl m x ps) := by
 refine ⟨?_, fun r hr => ?_, fun r hr => h.aft r (by rw [zU hx]; exact List.mem_cons_of_mem x hr), by rw [zjv, h.fst]⟩
 ·rw [h.eq, zU hx]
  unfold atL
  rw [List.filter_cons_of_pos (by simpa using hp)]; rfl
 ·rw [zaE hx] at hr
  rcases List.mem_append.1 hr with hr | hr
  ·exact h.bef r hr
  ·rw [List.mem_singleton.1 hr, hp]; exact Int.le_refl _
theorem AI.fin {m : MarketS} {a : List ReplyS} {p : Int} {qs ps : List DD} {j : Nat} (hs : zkV a) (h : AI m a p qs j ps) (hx : ∀ x, a[j]? = some x → x.At ≠ p) : zcj m (atL a p) qs = ps ∧ ∀ r ∈ a.drop j, p < r.At := by
 have hsd : (a.drop j).Pairwise fun x y => x.At ≤ y.At := hs.sublist (List.drop_sublist j a)
 have hl : ∀ r ∈ a.drop j, p < r.At := by
  cases hc : a.drop j with
  | nil => intro r hr; cases hr
  | cons x y =>
    have hj : a[j]? = some x := by
     have : (a.drop j)[0]? = some x := by rw [hc]; rfl
     rwa [List.getElem?_drop, Nat.add_zero] at this
    have h1 := hx x hj
    have h2 := h.aft x (by rw [hc]; simp)
    rw [hc] at hsd
    intro r hr
    rcases List.mem_cons.1 hr with rfl | hr
    ·omega
    ·have := (List.pairwise_cons.1 hsd).1 r hr; omega
 refine ⟨?_, hl⟩
 rw [h.eq]
 have e : atL (a.drop j) p = [] := List.filter_eq_nil_iff.2 fun r hr => by have := hl r hr; simp; omega
 rw [e]; rfl
theorem zrz {m : MarketS} {o : List OwnerS} {l : List DealS} {a rs : List ReplyS} {n : Nat} (h : FOk m l) (hr : ∀ r ∈ rs, r.At = n) : zd6 (fun p => DMid m n p ∧ p.1 ∈ l) (zcj m rs ((zV m o l a n).ds.map (zbB n))) := by
 refine zeK (fun r hr2 p hp => ⟨hp.1.ans (by omega) (hr r hr2) h.veto, by rw [zhO]; exact hp.2⟩) fun p hp => ?_
 obtain ⟨q, hq, rfl⟩ := List.mem_map.1 hp
 obtain ⟨i1, i2⟩ := zfy (o := o) (a := a) h n q hq
 exact ⟨i1.opn (by omega) (h.two _ i2), by rw [zhM]; exact i2⟩
theorem zg1 {m : MarketS} {o : List OwnerS} {l : List DealS} {a : List ReplyS} : ∀ n, (zV m o l a n).o.map (·.Player) = o.map (·.Player)
 | 0 => rfl
 | n + 1 => by
   have key : ∀ (ds : List DD) (o : List OwnerS), (zaM m n o ds).o.map (·.Player) = o.map (·.Player) := by
    intro ds
    induction ds with
    | nil => intro o; rfl
    | cons p r ih => intro o; rw [zaM]; dsimp only; rw [ih, zgy]
   rw [zV, stF]
   dsimp only
   rw [key, zg1 n]
theorem zgu {m : MarketS} {o : List OwnerS} {l : List DealS} {a : List ReplyS} (n : Nat) : (zV m o l a n).o.length = o.length := by
 have := congrArg List.length (zg1 (m := m) (o := o) (l := l) (a := a) n)
 simpa using this
end Go.HL
namespace Go.HL
theorem zsV {o o1 : List OwnerS} (h : o1.map (·.Player) = o.map (·.Player)) (h0 : 0 < o.length) (ho : o.length ≤ 1000000) (hs : SortedS (o.map (·.Player))) : 0 < o1.length ∧ o1.length ≤ 1000000 ∧ SortedS (o1.map (·.Player)) := by
 have := congrArg List.length h
 simp at this
 exact ⟨by omega, by omega, by rw [h]; exact hs⟩
theorem zro {m : MarketS} {t : Int} {a : List ReplyS} (h : 0 < a.length) : zbk t (zbk t 345686400000 m.Deadline) (a.getD 0 zbU).At = zcN m t a := by
 cases a with
 | nil => simp at h
 | cons x r => rfl
theorem zrh {m : MarketS} {t : Int} {a : List ReplyS} (h : a.length ≤ 0) : zbk t 345686400000 m.Deadline = zcN m t a := by
 cases a with
 | nil => rfl
 | cons x r => simp at h
end Go.HL
end
namespace Go.Proofs.YtpcaaekefgkhjaaGreatDoor
set_option maxRecDepth 100000
set_option linter.unusedVariables false
set_option linter.unusedSimpArgs false
section
open Go.HL
set_option maxHeartbeats 1000000 in
/-- (*benchwarmer/trade.floor).end -/
theorem zmZ [Tracks] {bf : Nat} {m : MarketS} {o : List OwnerS} {fid : FuncId} {caps : List HVal} {E : List DV} {σ : Type} {I : List (List OwnerS) → σ → Prop} {S : σ → List MObj} {st : σ} {lg : List (List OwnerS)} {t : Int} {k0 : Nat} {d0 : DV} (hca : Callable Tryz.prog fid) (hdone : ∀ (g : List (List OwnerS)) (s : σ) (x : List OwnerS), g.length ≤ 1000000 → x.length ≤ 1000000 → I g s → Con Tryz.prog fid ([zat x] ++ caps) (S s) fun r M' => ∃ s', r = .tup [] ∧ M' = S s' ∧ I (g ++ [x]) s') (hI : I lg st) (ht : m.Teams.length ≤ 1000000) (h0o : 0 < o.length) (ho : o.length ≤ 1000000) (hs : SortedS (o.map (·.Player))) (hG : d0.p.1.Gives.length ≤ 1000) (hk0 : E[k0]? = some d0) (hw : d0.p.2.how = 2 ∧ d0.p.2.since + m.Wait ≤ t) (hlg : lg.length ≤ 1000000) : Con Tryz.prog 136 [pAt bf, pD d0, .int .i64 t] (FL bf m o (.fn (.func fid) [] caps) E ++ S st) (fun x M' => ∃ s', x = .tup [] ∧ M' = (FL bf m (zaB m t o d0.p).1 (.fn (.func fid) [] caps) (E.set k0 (dP d0 (zaB m t o d0.p).2.1)) ++ S s') ∧ I (lg ++ (zaB m t o d0.p).2.2.map (·.2)) s') := by
 refine Con.of_body Tryz.func136 rfl Tryz.ntmps136 rfl rfl ?_
 refine zm ?_
 refine za ?_
 refine dmv rfl ?_
 refine dmv rfl ?_
 refine dq ((by first | exact zn rfl | exact zg rfl)) ?_
 refine dq (zb zcv rfl zdY (by decide) rfl) ?_
 refine de rfl (zy (i := 0) zdY rfl rfl (.inl ⟨rfl, rfl⟩) ?_)
 refine dq ((by first | exact zn rfl | exact zg rfl)) ?_
 refine dq ((by first | exact zd zN rfl ty3 (by decide) rfl | exact zb zN rfl ty3 (by decide) rfl)) ?_
 refine dq (zh ty3 rfl rfl rfl) ?_
 refine dq (zbG rfl rfl) ?_
 refine dn ?_
 refine zl rfl (fun h1 => ?_) (fun h2 => ?_)
 ·try simp at h1
  refine za ?_
  refine dmv rfl ?_
  refine dmv rfl ?_
  refine de rfl (zdp (i := 3 * k0 + 1) (m' := .cells d0.b (cD { d0 with p := setH d0.p 7 t })) zf3 rfl (WeakL.refl _) (zbx hk0) (zbD (d := d0)) ?_)
  refine dn ?_
  refine zp ?_
  first
  | exact zaQ rfl ⟨st, rfl, (zbI hk0).trans (by rw [zf9 hw (by omega)]; simp [dT, dP]), by rw [zf9 hw (by omega)]; simpa using hI⟩
  | exact zaQ rfl ⟨st, rfl, (zbI hk0).trans (by rw [zeU hw (by omega) (by simpa using h3)]; simp [dT, dP]), by rw [zeU hw (by omega) (by simpa using h3)]; simpa using hI⟩
  | (refine zmJ (Ghost.perm List.perm_append_comm) rfl ⟨st2, rfl, ?_, ?_⟩
     ·rw [zgc hw (by omega) (by simpa using h4)]
      simp [dT, dP]
     ·rw [zgc hw (by omega) (by simpa using h4)]
      exact hI2)
 ·try simp at h2
  refine zo ?_
  refine zk ?_
  refine zar (fun M => M = (FL bf m o (.fn (.func fid) [] caps) E ++ S st)) [3, 7, 11] mixed ?_
  refine ahp 0 rfl rfl (by kernel_rfl) (by kernel_rfl) (zf rfl) ?_
  refine ahp 1 rfl rfl (by kernel_rfl) (by kernel_rfl) ((by first | exact zn rfl | exact zg rfl)) ?_
  refine ahp 2 rfl rfl (by kernel_rfl) (by kernel_rfl) (zb zcv rfl zdY (by decide) rfl) ?_
  refine ahl 3 rfl rfl (by kernel_rfl) (by kernel_rfl) (by simp) rfl (fun M hM => by subst hM; exact zy (i := 0) zdY rfl rfl (.inl ⟨rfl, rfl⟩) ⟨rfl, rfl⟩) ?_
  refine ahp 4 rfl rfl (by kernel_rfl) (by kernel_rfl) (zf rfl) ?_
  refine ahp 5 rfl rfl (by kernel_rfl) (by kernel_rfl) ((by first | exact zn rfl | exact zg rfl)) ?_
  refine ahp 6 rfl rfl (by kernel_rfl) (by kernel_rfl) (zb zcv rfl zaD (by decide) rfl) ?_
  refine ahl 7 rfl rfl (by kernel_rfl) (by kernel_rfl) (by simp) rfl (fun M hM => by subst hM; exact zy (i := 0) zaD rfl rfl (.inl ⟨rfl, rfl⟩) ⟨rfl, rfl⟩) ?_
  refine ahp 8 rfl rfl (by kernel_rfl) (by kernel_rfl) (zf rfl) ?_
  refine ahp 9 rfl rfl (by kernel_rfl) (by kernel_rfl) ((by first | exact zn rfl | exact zg rfl)) ?_
  refine ahp 10 rfl rfl (by kernel_rfl) (by kernel_rfl) (zb zbm rfl zJ (by decide) rfl) ?_
  refine ahl 11 rfl rfl (by kernel_rfl) (by kernel_rfl) (by simp) rfl (fun M hM => by subst hM; exact zy (i := 3 * k0 + 1) zJ rfl (zbx hk0) (.inr ⟨rfl, Nat.le_of_ble_eq_true rfl, rfl⟩) ⟨rfl, rfl⟩) ?_
  refine ahp 12 rfl rfl (by kernel_rfl) (by kernel_rfl) (zw ca98 rfl (WeakL.refl _) (zjq (m := m) (o := o) (x := d0.p.1) ht h0o ho hs (by omega))) ?_
  refine ahp 13 rfl rfl (by kernel_rfl) (by kernel_rfl) (zf rfl) ?_
  refine ahp 14 rfl rfl (by kernel_rfl) (by kernel_rfl) (zaO rfl rfl) ?_
  refine ahp 15 rfl rfl (by kernel_rfl) (by kernel_rfl) (zaO rfl rfl) ?_
  refine ahp 16 rfl rfl (by kernel_rfl) (by kernel_rfl) (z8 rfl) ?_
  refine ahp 17 rfl rfl (by kernel_rfl) (by kernel_rfl) (z8 rfl) ?_
  refine ahz (by kernel_rfl) ?_
  refine zm ?_
  refine za ?_
  refine dmv rfl ?_
  refine dq (zam rfl) ?_
  refine dn ?_
  refine zl rfl (fun h3 => ?_) (fun h4 => ?_)
  ·try simp at h3
   refine za ?_
   refine dmv rfl ?_
   refine dmv rfl ?_
   refine de rfl (zdp (i := 3 * k0 + 1) (m' := .cells d0.b (cD { d0 with p := setH d0.p 8 t })) zf3 rfl (WeakL.refl _) (zbx hk0) (zbD (d := d0)) ?_)
   refine dn ?_
   refine zp ?_
   first
   | exact zaQ rfl ⟨st, rfl, (zbI hk0).trans (by rw [zf9 hw (by omega)]; simp [dT, dP]), by rw [zf9 hw (by omega)]; simpa using hI⟩
   | exact zaQ rfl ⟨st, rfl, (zbI hk0).trans (by rw [zeU hw (by omega) (by simpa using h3)]; simp [dT, dP]), by rw [zeU hw (by omega) (by simpa using h3)]; simpa using hI⟩
   | (refine zmJ (Ghost.perm List.perm_append_comm) rfl ⟨st2, rfl, ?_, ?_⟩
      ·rw [zgc hw (by omega) (by simpa using h4)]
       simp [dT, dP]
      ·rw [zgc hw (by omega) (by simpa using h4)]
       exact hI2)
  ·try simp at h4
   refine zo ?_
   refine zk ?_
   have hdl : (zb8 o d0.p.1.Gives).length ≤ 1000000 := by rw [zoQ (m := m) (by simpa using h4)]; exact ho
   refine za ?_
   refine dmv rfl ?_
   refine dmv rfl ?_
   refine dq ((by first | exact zn rfl | exact zg rfl)) ?_
   refine dq (zb zcv rfl zaD (by decide) rfl) ?_
   first
   | refine de0 (zz (i := 0) zaD rfl rfl rfl rfl rfl (Nat.le_of_ble_eq_true rfl) ?_)
   | refine de0 (zz (i := 1) zaD rfl rfl rfl rfl rfl (Nat.le_of_ble_eq_true rfl) ?_)
   | refine de0 (zz (i := 2) zaD rfl rfl rfl rfl rfl (Nat.le_of_ble_eq_true rfl) ?_)
   | refine de0 (zz (i := 3) zaD rfl rfl rfl rfl rfl (Nat.le_of_ble_eq_true rfl) ?_)
   refine dn ?_
   refine zP (Ghost.of_eq (show _ = (FL bf m (zb8 o d0.p.1.Gives) (.fn (.func fid) [] caps) E ++ S st) from rfl)) ?_
   refine za ?_
   refine dmv rfl ?_
   refine dmv rfl ?_
   refine de rfl (zdp (i := 3 * k0 + 1) (m' := .cells d0.b (cD { d0 with p := setH d0.p 3 t })) zf3 rfl (WeakL.refl _) (zbx hk0) (zbD (d := d0)) ?_)
   refine dn ?_
   refine zP (Ghost.of_eq (zbI hk0)) ?_
   refine zB ?_
   refine dmv rfl ?_
   refine dq ((by first | exact zn rfl | exact zg rfl)) ?_
   refine dq (zb zcv rfl zpF (by decide) rfl) ?_
   refine de rfl (zy (i := 0) zpF rfl rfl (.inl ⟨rfl, rfl⟩) ?_)
   refine dmv rfl ?_
   refine de rfl (EOp.perm (M := S st ++ (FL bf m (zb8 o d0.p.1.Gives) (.fn (.func fid) [] caps) (E.set k0 (dT d0 3 t)))) List.perm_append_comm (EOp.mono ?_ ((zdj hca rfl rfl (WeakL.refl _) (hdone lg st (zb8 o d0.p.1.Gives) hlg hdl hI)).frame (FL bf m (zb8 o d0.p.1.Gives) (.fn (.func fid) [] caps) (E.set k0 (dT d0 3 t))))))
   rintro _ _ ⟨N, rfl, st2, rfl, rfl, hI2⟩
   refine dn ?_
   first
   | exact zaQ rfl ⟨st, rfl, (zbI hk0).trans (by rw [zf9 hw (by omega)]; simp [dT, dP]), by rw [zf9 hw (by omega)]; simpa using hI⟩
   | exact zaQ rfl ⟨st, rfl, (zbI hk0).trans (by rw [zeU hw (by omega) (by simpa using h3)]; simp [dT, dP]), by rw [zeU hw (by omega) (by simpa using h3)]; simpa using hI⟩
   | (refine zmJ (Ghost.perm List.perm_append_comm) rfl ⟨st2, rfl, ?_, ?_⟩
      ·rw [zgc hw (by omega) (by simpa using h4)]
       simp [dT, dP]
      ·rw [zgc hw (by omega) (by simpa using h4)]
       exact hI2)

set_option maxHeartbeats 1000000 in
/-- (*benchwarmer/trade.floor).pass -/
theorem zis [Tracks] {bf : Nat} {m : MarketS} {o : List OwnerS} {fid : FuncId} {caps : List HVal} {E : List DV} {σ : Type} {I : List (List OwnerS) → σ → Prop} {S : σ → List MObj} {st : σ} {lg : List (List OwnerS)} {t : Int}  (hca : Callable Tryz.prog fid) (hdone : ∀ (g : List (List OwnerS)) (s : σ) (x : List OwnerS), g.length ≤ 1000000 → x.length ≤ 1000000 → I g s → Con Tryz.prog fid ([zat x] ++ caps) (S s) fun r M' => ∃ s', r = .tup [] ∧ M' = S s' ∧ I (g ++ [x]) s') (hI : I lg st) (ht : m.Teams.length ≤ 1000000) (h0o : E ≠ [] → 0 < o.length) (ho : o.length ≤ 1000000) (hs : SortedS (o.map (·.Player))) (hE : E.length ≤ 1000000) (hG : ∀ d ∈ E, d.p.1.Gives.length ≤ 1000) (hsb : ∀ d ∈ E, d.p.2.how = 2 → 0 ≤ d.p.2.since ∧ d.p.2.since ≤ 345686400000) (hwt : 0 ≤ m.Wait ∧ m.Wait ≤ 864000000) (hlg : lg.length + E.length ≤ 1000000) : Con Tryz.prog 91 [pAt bf, .int .i64 t] (FL bf m o (.fn (.func fid) [] caps) E ++ S st) (fun x M' => ∃ E' s', x = .tup [] ∧ M' = (FL bf m (zaM m t o (E.map (·.p))).o (.fn (.func fid) [] caps) E' ++ S s') ∧ E'.map (·.p) = (zaM m t o (E.map (·.p))).ds ∧ I (lg ++ (zaM m t o (E.map (·.p))).log.map (·.2)) s') := by
 refine Con.of_body Tryz.func91 rfl Tryz.ntmps91 rfl rfl ?_
 refine za ?_
 refine dmv rfl ?_
 refine dq ((by first | exact zn rfl | exact zg rfl)) ?_
 refine dq (zb zcv rfl zbL (by decide) rfl) ?_
 refine de rfl (zy (i := 0) zbL rfl rfl (.inl ⟨rfl, rfl⟩) ?_)
 refine dq (zR zbL rfl) ?_
 refine dmv rfl ?_
 refine dn ?_
 refine zu ?_
 refine zgS (5 :: 11 :: 12 :: 13 :: 14 :: 15 :: 16 :: 17 :: 18 :: 19 :: 20 :: 21 :: 22 :: 23 :: 24 :: 25 :: 26 :: 27 :: 28 :: 29 :: 30 :: 31 :: 32 :: 33 :: 34 :: 35 :: 36 :: 37 :: 38 :: 39 :: 40 :: 41 :: 42 :: 43 :: 44 :: 45 :: 46 :: 47 :: 48 :: 49 :: 50 :: 51 :: 52 :: 53 :: 54 :: 55 :: 56 :: 57 :: 58 :: 59 :: 60 :: 61 :: 62 :: 63 :: 64 :: 65 :: 66 :: 67 :: 68 :: 69 :: 70 :: 71 :: []) (fun (k : Nat) (o1 : List OwnerS) (q : List DV × σ) (l1 : List (DealS × List OwnerS)) => [(11, .int .i64 k)]) (fun (k : Nat) (o1 : List OwnerS) (q : List DV × σ) (l1 : List (DealS × List OwnerS)) => (FL bf m o1 (.fn (.func fid) [] caps) q.1 ++ S q.2)) (fun (k : Nat) (o1 : List OwnerS) (q : List DV × σ) (l1 : List (DealS × List OwnerS)) => k ≤ E.length ∧ (PInv m t o E k o1 q.1 l1 ∧ I (lg ++ l1.map (·.2)) q.2)) (fun (k : Nat) (o1 : List OwnerS) (q : List DV × σ) (l1 : List (DealS × List OwnerS)) => E.length - k) (0) (o) ((E, st)) ([]) ?_ ?_ ?_ ?_
 ·exact ⟨Nat.zero_le _, PInv.start m t o E, by simpa using hI⟩
 ·exact ⟨rfl, trivial⟩
 ·exact zO (by simp)
 ·intro k o1 q l1 hinv
  obtain ⟨hk, hp, hI1⟩ := hinv
  obtain ⟨D, s1⟩ := q
  dsimp only at hp hI1
  refine za ?_
  refine dq (zY rfl rfl) ?_
  refine dn ?_
  refine zm ?_
  refine zl rfl (fun h1 => ?_) (fun h2 => ?_)
  ·try simp at h1
   obtain ⟨d, hd⟩ : ∃ d, E[k]? = some d := ⟨_, List.getElem?_eq_getElem h1⟩
   have hdd := zU hd
   have hDk := hp.get hd
   obtain ⟨ho1, ho2, ho3⟩ := zsV hp.pl (h0o (fun q => by rw [q] at hd; simp at hd)) ho hs
   refine zo ?_
   refine zk ?_
   refine zm ?_
   refine zu ?_
   refine za ?_
   refine dq (zZ (j := k) (a := d) zbL zcM rfl rfl rfl hd) ?_
   refine dq (zh zcM rfl rfl rfl) ?_
   refine das rfl ?_
   refine dn ?_
   refine zu ?_
   refine zar (fun M => M = (FL bf m o1 (.fn (.func fid) [] caps) D ++ S s1)) [3, 10, 14] mixed ?_
   refine ahp 0 rfl rfl (by kernel_rfl) (by kernel_rfl) (zf rfl) ?_
   refine ahp 1 rfl rfl (by kernel_rfl) (by kernel_rfl) ((by first | exact zn rfl | exact zg rfl)) ?_
   refine ahp 2 rfl rfl (by kernel_rfl) (by kernel_rfl) (zb zbm rfl ty3 (by decide) rfl) ?_
   refine ahl 3 rfl rfl (by kernel_rfl) (by kernel_rfl) (by simp) rfl (fun M hM => by subst hM; exact zy (i := 3 * k + 1) ty3 rfl (zbx hDk) (.inl ⟨rfl, rfl⟩) ⟨rfl, rfl⟩) ?_
   refine ahp 4 rfl rfl (by kernel_rfl) (by kernel_rfl) (zaj rfl rfl) ?_
   refine ahp 5 rfl rfl (by kernel_rfl) (by kernel_rfl) (zf rfl) ?_
   refine ahg 6 rfl rfl (by kernel_rfl) (by kernel_rfl) rfl (fun hc => ⟨_, OpenTo.refl _, zf rfl⟩) ?_
   refine ahg 7 rfl rfl (by kernel_rfl) (by kernel_rfl) rfl (fun hc => ⟨_, OpenTo.refl _, zf rfl⟩) ?_
   refine ahg 8 rfl rfl (by kernel_rfl) (by kernel_rfl) rfl (fun hc => ⟨_, OpenTo.upd (t := 23) rfl (by first | exact hc | simp_all) (OpenTo.refl _), (by first | exact zn rfl | exact zg rfl)⟩) ?_
   refine ahg 9 rfl rfl (by kernel_rfl) (by kernel_rfl) rfl (fun hc => ⟨_, OpenTo.upd (t := 24) rfl (by first | exact hc | simp_all) (OpenTo.refl _), zb zbm rfl ty3 (by decide) rfl⟩) ?_
   refine zdt 10 rfl rfl (by kernel_rfl) (by kernel_rfl) (by simp) rfl rfl (fun hc => ⟨_, OpenTo.upd (t := 25) rfl (by first | exact hc | simp_all) (OpenTo.refl _), fun M hM => by
    subst hM; exact zy (i := 3 * k + 1) ty3 rfl (zbx hDk) (.inl ⟨rfl, rfl⟩) ⟨rfl, rfl⟩
    ⟩) ?_
   refine ahg 11 rfl rfl (by kernel_rfl) (by kernel_rfl) rfl (fun hc => ⟨_, OpenTo.refl _, zf rfl⟩) ?_
   refine ahg 12 rfl rfl (by kernel_rfl) (by kernel_rfl) rfl (fun hc => ⟨_, OpenTo.upd (t := 27) rfl (by first | exact hc | simp_all) (OpenTo.refl _), (by first | exact zn rfl | exact zg rfl)⟩) ?_
   refine ahg 13 rfl rfl (by kernel_rfl) (by kernel_rfl) rfl (fun hc => ⟨_, OpenTo.upd (t := 28) rfl (by first | exact hc | simp_all) (OpenTo.refl _), zb zcv rfl zdY (by decide) rfl⟩) ?_
   refine zdt 14 rfl rfl (by kernel_rfl) (by kernel_rfl) (by simp) rfl rfl (fun hc => ⟨_, OpenTo.upd (t := 29) rfl (by first | exact hc | simp_all) (OpenTo.refl _), fun M hM => by
    subst hM; exact zy (i := 0) zdY rfl rfl (.inl ⟨rfl, rfl⟩) ⟨rfl, rfl⟩
    ⟩) ?_
   refine ahg 15 rfl rfl (by kernel_rfl) (by kernel_rfl) rfl (fun hc => ⟨_, OpenTo.upd (t := 30) rfl (by first | exact hc | simp_all) (OpenTo.refl _), (by first | exact zn rfl | exact zg rfl)⟩) ?_
   refine ahg 16 rfl rfl (by kernel_rfl) (by kernel_rfl) rfl (fun hc => ⟨_, OpenTo.upd (t := 31) rfl (by first | exact hc | simp_all) (OpenTo.refl _), (by first | exact zd zN rfl ty3 (by decide) rfl | exact zb zN rfl ty3 (by decide) rfl)⟩) ?_
   refine ahg 17 rfl rfl (by kernel_rfl) (by kernel_rfl) rfl (fun hc => ⟨_, OpenTo.upd (t := 32) rfl (by first | exact hc | simp_all) (OpenTo.refl _), zh ty3 rfl rfl rfl⟩) ?_
   refine ahg 18 rfl rfl (by kernel_rfl) (by kernel_rfl) rfl (fun hc => by
    have hsb1 := hsb d (List.mem_of_getElem? hd) (by simpa using hc)
    exact ⟨_, OpenTo.upd (t := 33) rfl (by first | exact hc | simp_all) (OpenTo.upd (t := 26) rfl (by first | exact hc | simp_all) (OpenTo.refl _)), zC rfl rfl (by omega) (by omega)⟩) ?_
   refine ahg 19 rfl rfl (by kernel_rfl) (by kernel_rfl) rfl (fun hc => ⟨_, OpenTo.upd (t := 34) rfl (by first | exact hc | simp_all) (OpenTo.upd (t := 22) rfl (by first | exact hc | simp_all) (OpenTo.refl _)), zbG rfl rfl⟩) ?_
   refine ahp 20 rfl rfl (by kernel_rfl) (by kernel_rfl) (zG rfl (.inr ⟨_, rfl, fun h => by simp_all⟩) (.inl rfl)) ?_
   refine ahp 21 rfl rfl (by kernel_rfl) (by kernel_rfl) (z8 rfl) ?_
   refine ahz (by kernel_rfl) ?_
   refine zl rfl (fun h3 => ?_) (fun h4 => ?_)
   ·try simp at h3
    refine zB ?_
    refine dmv rfl ?_
    refine dmv rfl ?_
    refine dmv rfl ?_
    refine de rfl (EOp.mono ?_ (zbd zsO rfl (WeakL.refl _) (zmZ (d0 := d) (k0 := k) hca hdone hI1 ht ho1 ho2 ho3 (hG d (List.mem_of_getElem? hd)) hDk (by simpa using h3) (by have := hp.ll; simp; omega))))
    rintro _ _ ⟨st2, rfl, rfl, hI2⟩
    refine dn ?_
    refine zA ?_
    refine zA ?_
    refine zk ?_
    refine zB ?_
    refine dq (zC rfl rfl (by omega) (by omega)) ?_
    refine dmv rfl ?_
    refine dn ?_
    exact ⟨k + 1, (zaB m t o1 d.p).1, (D.set k (dP d (zaB m t o1 d.p).2.1), st2), l1 ++ (zaB m t o1 d.p).2.2, ⟨by omega, hp.step hd, by rw [List.map_append, ← List.append_assoc]; exact hI2⟩, by dsimp only; omega, ⟨rfl, trivial⟩, (by repeat (first | exact zq | refine zx rfl ?_ | refine zt rfl rfl ?_)), zO rfl⟩
   ·try simp at h4
    refine za ?_
    refine dmv rfl ?_
    refine dq ((by first | exact zn rfl | exact zg rfl)) ?_
    refine dq (zb zbm rfl ty3 (by decide) rfl) ?_
    refine de rfl (zy (i := 3 * k + 1) ty3 rfl (zbx hDk) (.inl ⟨rfl, rfl⟩) ?_)
    refine dq (zaj rfl rfl) ?_
    refine dmv rfl ?_
    refine dg rfl rfl (fun hc => ⟨_, OpenTo.refl _, zf rfl⟩) ?_
    refine dg rfl rfl (fun hc => ⟨_, OpenTo.refl _, zf rfl⟩) ?_
    refine dg rfl rfl (fun hc => ⟨_, OpenTo.upd (t := 49) rfl (by first | exact hc | simp_all) (OpenTo.refl _), (by first | exact zn rfl | exact zg rfl)⟩) ?_
    refine dg rfl rfl (fun hc => ⟨_, OpenTo.upd (t := 50) rfl (by first | exact hc | simp_all) (OpenTo.refl _), zb zbm rfl zJ (by decide) rfl⟩) ?_
    refine dg rfl rfl (fun hc => ⟨_, OpenTo.upd (t := 51) rfl (by first | exact hc | simp_all) (OpenTo.refl _), zb zJ rfl zbn (by decide) rfl⟩) ?_
    refine dg rfl rfl (fun hc => ⟨_, OpenTo.upd (t := 52) rfl (by first | exact hc | simp_all) (OpenTo.refl _), zb zbn rfl ty3 (by decide) rfl⟩) ?_
    refine dgl rfl rfl (fun hc => ⟨_, OpenTo.upd (t := 53) rfl (by first | exact hc | simp_all) (OpenTo.refl _), zy (i := 3 * k + 1) ty3 rfl (zbx hDk) (.inl ⟨rfl, rfl⟩) ⟨rfl, rfl⟩⟩) ?_
    refine dg rfl rfl (fun hc => ⟨_, OpenTo.upd (t := 54) rfl (by first | exact hc | simp_all) (OpenTo.upd (t := 48) rfl (by first | exact hc | simp_all) (OpenTo.refl _)), zbG rfl rfl⟩) ?_
    refine dg rfl rfl (fun hc => ⟨_, OpenTo.upd (t := 55) rfl (by first | exact hc | simp_all) (OpenTo.refl _), zf rfl⟩) ?_
    refine dg rfl rfl (fun hc => ⟨_, OpenTo.refl _, zf rfl⟩) ?_
    refine dg rfl rfl (fun hc => ⟨_, OpenTo.refl _, zf rfl⟩) ?_
    refine dg rfl rfl (fun hc => ⟨_, OpenTo.upd (t := 58) rfl (by first | exact hc | simp_all) (OpenTo.refl _), (by first | exact zn rfl | exact zg rfl)⟩) ?_
    refine dg rfl rfl (fun hc => ⟨_, OpenTo.upd (t := 59) rfl (by first | exact hc | simp_all) (OpenTo.refl _), zb zcv rfl zdY (by decide) rfl⟩) ?_
    refine dgl rfl rfl (fun hc => ⟨_, OpenTo.upd (t := 60) rfl (by first | exact hc | simp_all) (OpenTo.refl _), zy (i := 0) zdY rfl rfl (.inl ⟨rfl, rfl⟩) ⟨rfl, rfl⟩⟩) ?_
    refine dg rfl rfl (fun hc => ⟨_, OpenTo.upd (t := 61) rfl (by first | exact hc | simp_all) (OpenTo.refl _), (by first | exact zn rfl | exact zg rfl)⟩) ?_
    refine dg rfl rfl (fun hc => ⟨_, OpenTo.upd (t := 62) rfl (by first | exact hc | simp_all) (OpenTo.refl _), (by first | exact zd zN rfl ty3 (by decide) rfl | exact zb zN rfl ty3 (by decide) rfl)⟩) ?_
    refine dg rfl rfl (fun hc => ⟨_, OpenTo.upd (t := 63) rfl (by first | exact hc | simp_all) (OpenTo.refl _), zh ty3 rfl rfl rfl⟩) ?_
    refine dg rfl rfl (fun hc => ⟨_, OpenTo.upd (t := 64) rfl (by first | exact hc | simp_all) (OpenTo.upd (t := 57) rfl (by first | exact hc | simp_all) (OpenTo.refl _)), zbG rfl rfl⟩) ?_
    refine dg rfl rfl (fun hc => ⟨_, OpenTo.upd (t := 56) rfl (by first | exact hc | simp_all) (OpenTo.refl _), zG rfl (.inl rfl) (.inr ⟨_, rfl, fun h => by simp_all⟩)⟩) ?_
    refine dq (zG rfl (.inr ⟨_, rfl, fun h => by simp_all⟩) (.inl rfl)) ?_
    refine das rfl ?_
    refine dn ?_
    refine zl rfl (fun h5 => ?_) (fun h6 => ?_)
    ·try simp at h5
     refine zB ?_
     refine dmv rfl ?_
     refine dmv rfl ?_
     refine de rfl (zdp (i := 3 * k + 1) (m' := .cells d.b (cD { d with p := setH d.p 7 t })) zf3 rfl (WeakL.refl _) (zbx hDk) (zbD (d := d)) ?_)
     refine dn ?_
     refine zA ?_
     refine zA ?_
     refine zk ?_
     refine zB ?_
     refine dq (zC rfl rfl (by omega) (by omega)) ?_
     refine dmv rfl ?_
     refine dn ?_
     have hst := hp.step hd
     rw [zq4 (by simpa using h4) (by simpa using h5)] at hst
     exact ⟨k + 1, o1, (D.set k (dT d 7 t), s1), l1 ++ [], ⟨by omega, hst, by simpa using hI1⟩, by dsimp only; omega, ⟨rfl, trivial⟩, (by repeat (first | exact zq | refine zx rfl ?_ | refine zt rfl rfl ?_)), zO (zbI hDk)⟩
    ·try simp at h6
     refine zo ?_
     refine zA ?_
     refine zA ?_
     refine zk ?_
     refine zB ?_
     refine dq (zC rfl rfl (by omega) (by omega)) ?_
     refine dmv rfl ?_
     refine dn ?_
     have hst := hp.step hd
     rw [zrp (by simpa using h4) (by simpa using h6)] at hst
     rw [show D.set k (dP d (o1, d.p, ([] : List (DealS × List OwnerS))).2.1) = D from zmw hDk] at hst
     exact ⟨k + 1, o1, (D, s1), l1 ++ [], ⟨by omega, hst, by simpa using hI1⟩, by dsimp only; omega, ⟨rfl, trivial⟩, (by repeat (first | exact zq | refine zx rfl ?_ | refine zt rfl rfl ?_)), zO rfl⟩
  ·try simp at h2
   have hnk : E.length ≤ k := by omega
   obtain rfl : k = E.length := by omega
   have hfin := hp.fin
   refine z7 ?_
   refine zag ?_
   refine zhw ?_
   refine zT ?_
   exact zH rfl ⟨D, s1, rfl, by rw [hfin], by rw [hfin], by rw [hfin]; exact hI1⟩

/-- (*benchwarmer/trade.floor).next$1 -/
theorem zgj [Tracks] {t out x : Int} {b7 : Nat}  : Con Tryz.prog 133 [.int .i64 x, .vptr [.int .i64 t] 0, pAt b7] [.cells b7 [.int .i64 out]] (fun r M' => r = .tup [] ∧ M' = [.cells b7 [.int .i64 (zbk t out x)]]) := by
 refine Con.of_body Tryz.func133 rfl Tryz.ntmps133 rfl rfl ?_
 refine za ?_
 refine dmv rfl ?_
 refine dq (zh ty3 rfl rfl rfl) ?_
 refine dq (zaT rfl rfl) ?_
 refine dn ?_
 refine zl rfl (fun h1 => ?_) (fun h2 => ?_)
 ·try simp at h1
  refine zB ?_
  first
  | refine de rfl (zy (i := 0) ty3 rfl rfl (.inl ⟨rfl, rfl⟩) ?_)
  | refine de rfl (zy (i := 1) ty3 rfl rfl (.inl ⟨rfl, rfl⟩) ?_)
  | refine de rfl (zy (i := 2) ty3 rfl rfl (.inl ⟨rfl, rfl⟩) ?_)
  | refine de rfl (zy (i := 3) ty3 rfl rfl (.inl ⟨rfl, rfl⟩) ?_)
  refine dmv rfl ?_
  refine dq (zrx rfl rfl) ?_
  first
  | refine de0 (zz (i := 0) ty3 rfl rfl rfl rfl rfl (Nat.le_of_ble_eq_true rfl) ?_)
  | refine de0 (zz (i := 1) ty3 rfl rfl rfl rfl rfl (Nat.le_of_ble_eq_true rfl) ?_)
  | refine de0 (zz (i := 2) ty3 rfl rfl rfl rfl rfl (Nat.le_of_ble_eq_true rfl) ?_)
  | refine de0 (zz (i := 3) ty3 rfl rfl rfl rfl rfl (Nat.le_of_ble_eq_true rfl) ?_)
  refine dn ?_
  first
  | exact zH rfl ⟨rfl, by unfold zbk; rw [if_pos h1]; simp [zW, zj, Int.min_def]; split <;> split <;> omega⟩
  | exact zH rfl ⟨rfl, by unfold zbk; rw [if_neg (by omega)]⟩
 ·try simp at h2
  refine zo ?_
  first
  | exact zH rfl ⟨rfl, by unfold zbk; rw [if_pos h1]; simp [zW, zj, Int.min_def]; split <;> split <;> omega⟩
  | exact zH rfl ⟨rfl, by unfold zbk; rw [if_neg (by omega)]⟩

set_option maxHeartbeats 1000000 in
/-- (*benchwarmer/trade.floor).next -/
theorem zih [Tracks] {bf : Nat} {m : MarketS} {o : List OwnerS} {fn : HVal} {E : List DV} {S : List MObj} {a : List ReplyS} {t : Int} (hE : E.length ≤ 1000000) (ha : a.length ≤ 1000000) (hsb : ∀ d ∈ E, d.p.2.how = 2 → 0 ≤ d.p.2.since ∧ d.p.2.since ≤ 345686400000) (hwt : 0 ≤ m.Wait ∧ m.Wait ≤ 864000000) : Con Tryz.prog 88 [pAt bf, zbr a, .int .i64 t] (FL bf m o fn E ++ S) (fun x M' => x = .int .i64 (zcQ m t a (E.map (·.p))) ∧ M' = (FL bf m o fn E ++ S)) := by
 refine Con.of_body Tryz.func88 rfl Tryz.ntmps88 rfl rfl ?_
 refine za ?_
 refine dq (zal rfl rfl) ?_
 refine das rfl ?_
 refine dn ?_
 refine za ?_
 refine de rfl (zac ty3 rfl fun b7 => ?_)
 first
 | refine de0 (zz (i := 0) ty3 rfl rfl rfl rfl rfl (Nat.le_of_ble_eq_true rfl) ?_)
 | refine de0 (zz (i := 1) ty3 rfl rfl rfl rfl rfl (Nat.le_of_ble_eq_true rfl) ?_)
 | refine de0 (zz (i := 2) ty3 rfl rfl rfl rfl rfl (Nat.le_of_ble_eq_true rfl) ?_)
 | refine de0 (zz (i := 3) ty3 rfl rfl rfl rfl rfl (Nat.le_of_ble_eq_true rfl) ?_)
 refine dn ?_
 refine za ?_
 refine dq (zda rfl rfl) ?_
 refine das rfl ?_
 refine dn ?_
 refine za ?_
 refine dmv rfl ?_
 refine dmv rfl ?_
 refine dq ((by first | exact zn rfl | exact zg rfl)) ?_
 refine dq (zb zcv rfl zdY (by decide) rfl) ?_
 refine de rfl (zy (i := 1) zdY rfl rfl (.inl ⟨rfl, rfl⟩) ?_)
 refine dq ((by first | exact zn rfl | exact zg rfl)) ?_
 refine dq ((by first | exact zd zN rfl ty3 (by decide) rfl | exact zb zN rfl ty3 (by decide) rfl)) ?_
 refine dq (zh ty3 rfl rfl rfl) ?_
 refine de rfl (EOp.mono ?_ ((zdj (M := [.cells b7 [.int .i64 345686400000]]) zkr rfl rfl (WeakL.refl _) (zgj (t := t) (out := 345686400000) (x := m.Deadline))).frame (FL bf m o fn E ++ S)))
 rintro _ _ ⟨N, rfl, rfl, rfl⟩
 refine dn ?_
 refine zdi [21, 22, 23, 24, 25, 26, 27, 28, 29] (fun (q : Int) => []) (fun (q : Int) => (.cells b7 [.int .i64 q] :: (FL bf m o fn E ++ S))) (fun (q : Int) => q = zcN m t a) ?_ ?_
 ·skip
  refine za ?_
  refine dmv rfl ?_
  refine dq (zR zb5 rfl) ?_
  refine dq (zaT rfl rfl) ?_
  refine dn ?_
  refine zl rfl (fun h1 => ?_) (fun h2 => ?_)
  ·try simp at h1
   refine zB ?_
   refine dmv rfl ?_
   refine dmv rfl ?_
   refine dq (zZ (j := 0) (a := a.getD 0 zbU) zb5 zS rfl rfl rfl (getD_some (by omega))) ?_
   refine dq ((by first | exact zd zS rfl ty3 (by decide) rfl | exact zb zS rfl ty3 (by decide) rfl)) ?_
   refine dq (zh ty3 rfl rfl rfl) ?_
   refine de rfl (EOp.mono ?_ ((zdj (M := [.cells b7 [.int .i64 (zbk t 345686400000 m.Deadline)]]) zkr rfl rfl (WeakL.refl _) (zgj (t := t) (out := (zbk t 345686400000 m.Deadline)) (x := (a.getD 0 zbU).At))).frame (FL bf m o fn E ++ S)))
   rintro _ _ ⟨N, rfl, rfl, rfl⟩
   refine dn ?_
   exact ⟨_, zro (by omega), trivial, (by repeat (first | exact zq | refine zx rfl ?_ | refine zt rfl rfl ?_)), zO rfl⟩
  ·try simp at h2
   refine zo ?_
   exact ⟨_, zrh (by first | omega | simp [h2]), trivial, (by repeat (first | exact zq | refine zx rfl ?_ | refine zt rfl rfl ?_)), zO rfl⟩
 ·intro q hq
  subst hq
  refine zm ?_
  refine za ?_
  refine dmv rfl ?_
  refine dq ((by first | exact zn rfl | exact zg rfl)) ?_
  refine dq (zb zcv rfl zbL (by decide) rfl) ?_
  refine de rfl (zy (i := 1) zbL rfl rfl (.inl ⟨rfl, rfl⟩) ?_)
  refine dq (zR zbL rfl) ?_
  refine dmv rfl ?_
  refine dn ?_
  refine zu ?_
  refine zaJ [10, 35, 36, 37, 38, 39, 40, 41, 42, 43, 44, 45, 46, 47, 48, 49, 50, 51, 52, 53, 54, 55, 56, 57, 58, 59, 60, 61, 62, 63, 64, 65, 66, 67, 68, 69, 70, 71, 72, 73, 74] (fun (k : Nat) => [(35, .int .i64 k)]) (fun (k : Nat) => (.cells b7 [.int .i64 (((E.take k).map (·.p)).foldl (zbR m t) (zcN m t a))] :: (FL bf m o fn E ++ S))) (fun (k : Nat) => k ≤ E.length ∧ (True)) (fun (k : Nat) => E.length - k) (0) ?_ ?_ ?_ ?_
  ·exact ⟨Nat.zero_le _, trivial⟩
  ·exact ⟨rfl, trivial⟩
  ·exact zO rfl
  ·intro k hinv
   obtain ⟨hk, -⟩ := hinv
   refine za ?_
   refine dq (zY rfl rfl) ?_
   refine dn ?_
   refine zm ?_
   refine zl rfl (fun h3 => ?_) (fun h4 => ?_)
   ·try simp at h3
    obtain ⟨d, hd⟩ : ∃ d, E[k]? = some d := ⟨_, List.getElem?_eq_getElem h3⟩
    have hdd := zU hd
    refine zo ?_
    refine zk ?_
    refine zm ?_
    refine zu ?_
    refine za ?_
    refine dq (zZ (j := k) (a := d) zbL zcM rfl rfl rfl hd) ?_
    refine dq (zh zcM rfl rfl rfl) ?_
    refine das rfl ?_
    refine dn ?_
    refine za ?_
    refine dmv rfl ?_
    refine dmv rfl ?_
    refine dq ((by first | exact zn rfl | exact zg rfl)) ?_
    refine dq (zb zbm rfl zJ (by decide) rfl) ?_
    refine dq (zb zJ rfl zbn (by decide) rfl) ?_
    refine dq (zb zbn rfl ty3 (by decide) rfl) ?_
    refine de rfl (zy (i := 3 * k + 1 + 1) ty3 rfl (zbx (bf := bf) (m := m) (o := o) (fn := fn) (S := S) hd) (.inl ⟨rfl, rfl⟩) ?_)
    refine de rfl (EOp.mono ?_ ((zdj (M := [.cells b7 [.int .i64 (((E.take k).map (·.p)).foldl (zbR m t) (zcN m t a))]]) zkr rfl rfl (WeakL.refl _) (zgj (t := t) (out := (((E.take k).map (·.p)).foldl (zbR m t) (zcN m t a))) (x := d.p.1.From))).frame (FL bf m o fn E ++ S)))
    rintro _ _ ⟨N, rfl, rfl, rfl⟩
    refine dn ?_
    refine za ?_
    refine dmv rfl ?_
    refine dmv rfl ?_
    refine dq ((by first | exact zn rfl | exact zg rfl)) ?_
    refine dq (zb zbm rfl zJ (by decide) rfl) ?_
    refine dq (zb zJ rfl zbn (by decide) rfl) ?_
    refine dq (zb zbn rfl ty3 (by decide) rfl) ?_
    refine de rfl (zy (i := 3 * k + 1 + 1) ty3 rfl (zbx (bf := bf) (m := m) (o := o) (fn := fn) (S := S) hd) (.inl ⟨rfl, rfl⟩) ?_)
    refine de rfl (EOp.mono ?_ ((zdj (M := [.cells b7 [.int .i64 (zbk t (((E.take k).map (·.p)).foldl (zbR m t) (zcN m t a)) d.p.1.From)]]) zkr rfl rfl (WeakL.refl _) (zgj (t := t) (out := (zbk t (((E.take k).map (·.p)).foldl (zbR m t) (zcN m t a)) d.p.1.From)) (x := d.p.1.To))).frame (FL bf m o fn E ++ S)))
    rintro _ _ ⟨N, rfl, rfl, rfl⟩
    refine dn ?_
    refine za ?_
    refine dmv rfl ?_
    refine dq ((by first | exact zn rfl | exact zg rfl)) ?_
    refine dq (zb zbm rfl ty3 (by decide) rfl) ?_
    refine de rfl (zy (i := 3 * k + 1 + 1) ty3 rfl (zbx (bf := bf) (m := m) (o := o) (fn := fn) (S := S) hd) (.inl ⟨rfl, rfl⟩) ?_)
    refine dq (zaj rfl rfl) ?_
    refine dn ?_
    refine zl rfl (fun h5 => ?_) (fun h6 => ?_)
    ·try simp at h5
     refine zbZ (fun M => ∃ z : Int, M = (.cells b7 [.int .i64 z] :: (FL bf m o fn E ++ S))) [4, 8] mixed ?_
     refine ahp 0 rfl rfl (by kernel_rfl) (by kernel_rfl) (zf rfl) ?_
     refine ahp 1 rfl rfl (by kernel_rfl) (by kernel_rfl) (zf rfl) ?_
     refine ahp 2 rfl rfl (by kernel_rfl) (by kernel_rfl) ((by first | exact zn rfl | exact zg rfl)) ?_
     refine ahp 3 rfl rfl (by kernel_rfl) (by kernel_rfl) (zb zbm rfl ty3 (by decide) rfl) ?_
     refine ahl 4 rfl rfl (by kernel_rfl) (by kernel_rfl) (by simp) ⟨_, rfl⟩ (fun M hM => by obtain ⟨z, rfl⟩ := hM; exact zy (i := 3 * k + 1 + 1) ty3 rfl (zbx (bf := bf) (m := m) (o := o) (fn := fn) (S := S) hd) (.inl ⟨rfl, rfl⟩) ⟨rfl, rfl⟩) ?_
     refine ahp 5 rfl rfl (by kernel_rfl) (by kernel_rfl) (zf rfl) ?_
     refine ahp 6 rfl rfl (by kernel_rfl) (by kernel_rfl) ((by first | exact zn rfl | exact zg rfl)) ?_
     refine ahp 7 rfl rfl (by kernel_rfl) (by kernel_rfl) (zb zcv rfl zdY (by decide) rfl) ?_
     refine ahl 8 rfl rfl (by kernel_rfl) (by kernel_rfl) (by simp) ⟨_, rfl⟩ (fun M hM => by obtain ⟨z, rfl⟩ := hM; exact zy (i := 1) zdY rfl rfl (.inl ⟨rfl, rfl⟩) ⟨rfl, rfl⟩) ?_
     refine ahp 9 rfl rfl (by kernel_rfl) (by kernel_rfl) ((by first | exact zn rfl | exact zg rfl)) ?_
     refine ahp 10 rfl rfl (by kernel_rfl) (by kernel_rfl) ((by first | exact zd zN rfl ty3 (by decide) rfl | exact zb zN rfl ty3 (by decide) rfl)) ?_
     refine ahp 11 rfl rfl (by kernel_rfl) (by kernel_rfl) (zh ty3 rfl rfl rfl) ?_
     have hsb1 := hsb d (List.mem_of_getElem? hd) (by simpa using h5)
     refine ahp 12 rfl rfl (by kernel_rfl) (by kernel_rfl) (zC rfl rfl (by omega) (by omega)) ?_
     refine ahe 13 rfl (by kernel_rfl) ?_
     refine zv rfl (EOp.mono ?_ ((zdj (M := [.cells b7 [.int .i64 (zbk t (zbk t (((E.take k).map (·.p)).foldl (zbR m t) (zcN m t a)) d.p.1.From) d.p.1.To)]]) zkr rfl rfl (WeakL.refl _) (zgj (t := t) (out := (zbk t (zbk t (((E.take k).map (·.p)).foldl (zbR m t) (zcN m t a)) d.p.1.From) d.p.1.To)) (x := d.p.2.since + m.Wait))).frame (FL bf m o fn E ++ S)))
     rintro _ _ ⟨N, rfl, rfl, rfl⟩
     refine ⟨fun _ => .inl ⟨_, rfl⟩, ?_⟩
     refine ahz (by kernel_rfl) ?_
     refine zA ?_
     refine zk ?_
     refine zB ?_
     refine dq (zC rfl rfl (by omega) (by omega)) ?_
     refine dmv rfl ?_
     refine dn ?_
     exact ⟨k + 1, ⟨by omega, trivial⟩, by dsimp only; omega, ⟨rfl, trivial⟩, (by repeat (first | exact zq | refine zx rfl ?_ | refine zt rfl rfl ?_)), zO (by dsimp only; rw [zaE hd, List.map_append, List.foldl_append]; show _ = MObj.cells b7 [.int .i64 (zbR m t _ d.p)] :: _; unfold zbR; rw [if_pos (by simpa using h5)]; rfl)⟩
    ·try simp at h6
     refine zo ?_
     refine zA ?_
     refine zk ?_
     refine zB ?_
     refine dq (zC rfl rfl (by omega) (by omega)) ?_
     refine dmv rfl ?_
     refine dn ?_
     exact ⟨k + 1, ⟨by omega, trivial⟩, by dsimp only; omega, ⟨rfl, trivial⟩, (by repeat (first | exact zq | refine zx rfl ?_ | refine zt rfl rfl ?_)), zO (by dsimp only; rw [zaE hd, List.map_append, List.foldl_append]; show _ = MObj.cells b7 [.int .i64 (zbR m t _ d.p)] :: _; unfold zbR; rw [if_neg (by simpa using h6)]; rfl)⟩
   ·try simp at h4
    have hnk : E.length ≤ k := by omega
    obtain rfl : k = E.length := by omega
    rw [List.take_length]
    refine z7 ?_
    refine zag ?_
    refine zaY ?_
    refine zT ?_
    refine zk ?_
    refine za ?_
    first
    | refine de rfl (zy (i := 0) ty3 rfl rfl (.inl ⟨rfl, rfl⟩) ?_)
    | refine de rfl (zy (i := 1) ty3 rfl rfl (.inl ⟨rfl, rfl⟩) ?_)
    | refine de rfl (zy (i := 2) ty3 rfl rfl (.inl ⟨rfl, rfl⟩) ?_)
    | refine de rfl (zy (i := 3) ty3 rfl rfl (.inl ⟨rfl, rfl⟩) ?_)
    refine das rfl ?_
    refine dn ?_
    refine zp ?_
    exact zbO Ghost.drop rfl ⟨rfl, rfl⟩
end
end Go.Proofs.YtpcaaekefgkhjaaGreatDoor
namespace Go.HL
section
/-! how often owners change -/
def c3 (ds : List DD) : Nat := ds.countP fun p => p.2.how == 3
theorem zrW {f : DD → DD} (h : ∀ p, ((f p).2.how = 3 ↔ p.2.how = 3)) (ds : List DD) : c3 (ds.map f) = c3 ds := by
 unfold c3
 rw [List.countP_map]
 refine List.countP_congr fun p _ => ?_
 simp [h p]
theorem zsC (t : Int) (p : DD) : (zbB t p).2.how = 3 ↔ p.2.how = 3 := by
 unfold zbB; split
 ·rename_i h; constructor
  ·intro e; simp at e
  ·intro e; omega
 ·exact Iff.rfl
theorem zsn (m : MarketS) (a : ReplyS) (p : DD) : (zbe m a p).2.how = 3 ↔ p.2.how = 3 := by
 unfold zbe setH
 split
 ·exact Iff.rfl
 rename_i h
 have hn : p.2.how ≠ 3 := fun e => h ⟨by omega, by omega⟩
 split
 ·split
  ·simp [hn]
  ·simp [hn]
 split
 ·simp [hn]
 split
 ·simp [hn]
 split
 ·split <;> simp [hn]
 ·exact Iff.rfl
theorem zf8 (p : DD) (r : List DD) : c3 (p :: r) = c3 r + (if p.2.how = 3 then 1 else 0) := by
 unfold c3; rw [List.countP_cons]; simp
theorem zow (m : MarketS) (a : ReplyS) : ∀ ds, c3 (zcl m a ds) = c3 ds
 | [] => rfl
 | p :: r => by
   rw [zcl]; split
   ·rw [zf8, zf8]; simp only [zsn]
   ·rw [zf8, zf8, zow m a r]
theorem zo5 (m : MarketS) : ∀ (rs : List ReplyS) (ds : List DD), c3 (zcj m rs ds) = c3 ds
 | [], _ => rfl
 | a :: r, ds => by
   have := zo5 m r (zcl m a ds)
   unfold zcj at this ⊢
   rw [List.foldl_cons, this, zow]
theorem zse (m : MarketS) (t : Int) (o : List OwnerS) (p : DD) : (if (zaB m t o p).2.1.2.how = 3 then 1 else 0) = (if p.2.how = 3 then 1 else 0) + (zaB m t o p).2.2.length := by
 unfold zaB setH
 split
 ·rename_i h
  have hn : p.2.how ≠ 3 := by omega
  split
  ·simp [hn]
  split <;> simp [hn]
 split
 ·rename_i h
  have hn : p.2.how ≠ 3 := by omega
  simp [hn]
 ·simp
theorem zoR (m : MarketS) (t : Int) : ∀ (ds : List DD) (o : List OwnerS), c3 (zaM m t o ds).ds = c3 ds + (zaM m t o ds).log.length
 | [], _ => rfl
 | p :: r, o => by
   have h1 := zse m t o p
   have h2 := zoR m t r (zaB m t o p).1
   rw [zaM]; dsimp only
   rw [zf8, zf8, h2, h1, List.length_append]; omega
theorem zqB (m : MarketS) (o : List OwnerS) (l : List DealS) (a : List ReplyS) : ∀ n, c3 (zV m o l a n).ds = (zV m o l a n).log.length
 | 0 => by
   show c3 (l.map fun x => (x, zdQ)) = 0
   unfold c3
   rw [List.countP_eq_zero]
   intro p hp
   obtain ⟨x, _, rfl⟩ := List.mem_map.1 hp
   show ¬ ((0 : Int) == 3) = true
   decide
 | n + 1 => by
   have ih := zqB m o l a n
   rw [zV, stF]; dsimp only
   rw [zoR, zo5, zrW (zsC n), ih, List.length_append]
theorem zk1 (m : MarketS) (o : List OwnerS) (l : List DealS) (a : List ReplyS) (n : Nat) : (zV m o l a n).log.length ≤ l.length := by
 rw [← zqB]
 have h1 : (zV m o l a n).ds.length = l.length := by
  have := congrArg List.length (zbt m o l a n)
  simpa using this
 rw [← h1]
 exact List.countP_le_length
/-! one za7 -/
theorem zpz {m : MarketS} {o : List OwnerS} {l : List DealS} {a : List ReplyS} {p : Int} {qs ps : List DD} (hp : 0 ≤ p) (hq : qs = (zV m o l a p.toNat).ds.map (zbB p)) (ha : zcj m (atL a p) qs = ps) :
 zV m o l a (p.toNat + 1) = ⟨(zaM m p (zV m o l a p.toNat).o ps).o, (zaM m p (zV m o l a p.toNat).o ps).ds, (zV m o l a p.toNat).log ++ (zaM m p (zV m o l a p.toNat).o ps).log⟩ := by
 have e : ((p.toNat : Nat) : Int) = p := by omega
 rw [zV, stF, e, ← hq, ha]
theorem zmA {E : List DV} {t : Int} : (E.map (zfQ t)).map (·.p) = (E.map (·.p)).map (zbB t) := by
 rw [List.map_map, List.map_map]; rfl
section
variable {m : MarketS} {o : List OwnerS} {l : List DealS} {a : List ReplyS} {E : List DV}
theorem znm (l : List DealS) : (ini l).map (·.1) = l := by
 unfold ini
 rw [List.map_map]
 exact (List.map_congr_left (g := id) fun _ _ => rfl).trans (List.map_id l)
theorem zn4 (h : (E.map (·.p)).map (·.1) = l) : ∀ d ∈ E, d.p.1 ∈ l := fun d hd => by
 rw [← h]; exact List.mem_map_of_mem (List.mem_map_of_mem hd)
theorem zgQ (h : (E.map (·.p)).map (·.1) = l) : E.length = l.length := by
 rw [← h]; simp
theorem zsh (h : E.map (·.p) = ini l) : ∀ d ∈ E, d.p.2.how = 2 → 0 ≤ d.p.2.since ∧ d.p.2.since ≤ 345686400000 := fun d hd hh => by
 have : d.p ∈ ini l := by rw [← h]; exact List.mem_map_of_mem hd
 obtain ⟨x, _, hx⟩ := List.mem_map.1 this
 rw [← hx] at hh; cases hh
theorem zsU {n : Nat} (hf : FOk m l) (hn : (n : Int) ≤ 345686400001) (h : E.map (·.p) = (zV m o l a n).ds) : ∀ d ∈ E, d.p.2.how = 2 → 0 ≤ d.p.2.since ∧ d.p.2.since ≤ 345686400000 := fun d hd hh => by
 have h1 : d.p ∈ (zV m o l a n).ds := by rw [← h]; exact List.mem_map_of_mem hd
 have := (zfy hf n d.p h1).1.since (by omega)
 omega
theorem zsS {p : Int} {rs : List ReplyS} (hf : FOk m l) (hp : 0 ≤ p) (hn : p ≤ 345686400000) (hr : ∀ r ∈ rs, r.At = p) (h : E.map (·.p) = zcj m rs ((zV m o l a p.toNat).ds.map (zbB p))) : ∀ d ∈ E, d.p.2.how = 2 → 0 ≤ d.p.2.since ∧ d.p.2.since ≤ 345686400000 := fun d hd hh => by
 have e : ((p.toNat : Nat) : Int) = p := by omega
 have h0 := zrz (o := o) (a := a) (rs := rs) (n := p.toNat) hf (by rw [e]; exact hr)
 rw [e] at h0
 have h1 := (h0 d.p (by rw [← h]; exact List.mem_map_of_mem hd)).1.since (by omega)
 omega
end
theorem zr6 {a : List ReplyS} {p : Int} : ∀ r ∈ atL a p, r.At = p := fun r hr => by
 unfold atL at hr
 simpa using (List.mem_filter.1 hr).2
/-! a new record on the floor -/
theorem zra (E : List DV) (d : DV) : flD (E ++ [d]) = flD E ++ o3 d := by unfold flD; rw [List.flatMap_append]; simp
theorem zls {x y : MObj} {E : List DV} {d : DV} {S : List MObj} : (.cells d.b (cD d) :: .map d.mv (sk (zb6 d.p.2.veto)) :: .map d.my (sk (zb6 d.p.2.yes)) :: x :: y :: (flD E ++ S)).Perm (x :: y :: (flD (E ++ [d]) ++ S)) := by
 rw [zra, List.append_assoc]
 have h1 : (MObj.cells d.b (cD d) :: .map d.mv (sk (zb6 d.p.2.veto)) :: .map d.my (sk (zb6 d.p.2.yes)) :: x :: y :: (flD E ++ S)).Perm (o3 d ++ (x :: y :: (flD E ++ S))) := List.Perm.cons _ (List.Perm.swap _ _ _)
 refine h1.trans ?_
 have h2 : (o3 d ++ ((x :: y :: flD E) ++ S)).Perm ((x :: y :: flD E) ++ (o3 d ++ S)) := by
  rw [← List.append_assoc, ← List.append_assoc]
  exact (List.perm_append_comm).append_right S
 exact h2
theorem zoV {x y : MObj} {E : List DV} {d : DV} {S : List MObj} : (.cells d.b (cD d) :: .map d.my (sk (zb6 d.p.2.yes)) :: .map d.mv (sk (zb6 d.p.2.veto)) :: x :: y :: (flD E ++ S)).Perm (x :: y :: (flD (E ++ [d]) ++ S)) :=
 (List.Perm.cons _ (List.Perm.swap _ _ _)).trans zls
theorem zlw {a : List ReplyS} {i : Nat} {x : ReplyS} (h : a[i]? = some x) : (a.drop i).getD 0 zbU = x := by
 rw [List.getD_eq_getElem?_getD, List.getElem?_drop, Nat.add_zero, h]; rfl
end
end Go.HL
namespace Go.Proofs.YtpcaaekefgkhjaaGreatDoor
set_option maxRecDepth 100000
set_option linter.unusedVariables false
set_option linter.unusedSimpArgs false
section
open Go.HL
set_option maxHeartbeats 4000000 in
/-- benchwarmer/trade.follow -/
theorem zmH [Tracks] {m : MarketS} {o : List OwnerS} {l : List DealS} {a : List ReplyS} {u : Int} {fid : FuncId} {caps : List HVal} {σ : Type} {I : List (List OwnerS) → σ → Prop} {S : σ → List MObj} {st : σ} {lg : List (List OwnerS)}  (hca : Callable Tryz.prog fid) (hdone : ∀ (g : List (List OwnerS)) (s : σ) (x : List OwnerS), g.length ≤ 1000000 → x.length ≤ 1000000 → I g s → Con Tryz.prog fid ([zat x] ++ caps) (S s) fun r M' => ∃ s', r = .tup [] ∧ M' = S s' ∧ I (g ++ [x]) s') (hI : I lg st) (ht : m.Teams.length ≤ 1000000) (h0o : l ≠ [] → 0 < o.length) (ho : o.length ≤ 1000000) (hs : SortedS (o.map (·.Player))) (hl : l.length ≤ 1000) (hG : ∀ x ∈ l, x.Gives.length ≤ 1000) (hf : FOk m l) (hsa : zkV a) (ha : a.length ≤ 1000000) (ha0 : ∀ r ∈ a, 0 ≤ r.At) (hu : 0 ≤ u ∧ u < 345686400000) (hwt : 0 ≤ m.Wait ∧ m.Wait ≤ 864000000) (hlg : lg.length ≤ 1000) : Con Tryz.prog 54 [.vptr (zj (zaC m)) 0, zat o, zcA l, zbr a, .int .i64 u, (.fn (.func fid) [] caps)] (S st) (fun x M' => ∃ b22 E' s', x = pAt b22 ∧ M' = (FL b22 m (zV m o l a (u + 1).toNat).o (.fn (.func fid) [] caps) E' ++ S s') ∧ E'.map (·.p) = (zV m o l a (u + 1).toNat).ds ∧ I (lg ++ (zV m o l a (u + 1).toNat).log.map (·.2)) s') := by
 refine Con.of_body Tryz.func54 rfl Tryz.ntmps54 rfl rfl ?_
 refine za ?_
 refine das rfl ?_
 refine dn ?_
 refine za ?_
 refine dmv rfl ?_
 refine dmv rfl ?_
 refine de rfl (zef zn0 rfl (WeakL.refl _) (zbC (l := o) ho) fun v19 => ?_)
 refine dmv rfl ?_
 refine dq (zaG (cs := [_, _, _, _]) zcv zsl rfl) ?_
 refine de rfl (zdW rfl rfl fun b22 => ?_)
 refine das rfl ?_
 refine dn ?_
 refine zP (Ghost.fcell (i := 1) (k := 0) (j := 2) rfl rfl rfl) ?_
 refine zP (Ghost.of_eq (M' := .cells b22 [.vptr (zj (zaC m)) 0, .raw (.slice none 0 0), zat o, (.fn (.func fid) [] caps)] :: S st) rfl) ?_
 refine zP (Ghost.arr_nil 1) ?_
 refine zm ?_
 refine za ?_
 refine dmv rfl ?_
 refine dq (zR zbv rfl) ?_
 refine dmv rfl ?_
 refine dn ?_
 refine zu ?_
 refine ziS [15, 25, 26, 27, 28, 29, 30, 31, 32, 33, 34, 35, 36, 37, 38, 39, 40, 41, 42, 43, 44, 45] (fun (k : Nat) (v : Value) (E : List DV) => [(25, .int .i64 k)]) (fun (k : Nat) (v : Value) (E : List DV) => (.cells b22 [.vptr (zj (zaC m)) 0, .raw v, zat o, (.fn (.func fid) [] caps)] :: .arr v 1 (E.map pD) :: (flD E ++ S st))) (fun (k : Nat) (v : Value) (E : List DV) => k ≤ l.length ∧ (E.map (·.p) = ini (l.take k))) (fun (k : Nat) (v : Value) (E : List DV) => l.length - k) (0) (.slice none 0 0) ([]) ?_ ?_ ?_ ?_
 ·exact ⟨Nat.zero_le _, rfl⟩
 ·exact ⟨rfl, trivial⟩
 ·exact (List.Perm.swap _ _ _)
 ·intro k v E hinv
  obtain ⟨hk, hg⟩ := hinv
  refine za ?_
  refine dq (zY rfl rfl) ?_
  refine dn ?_
  refine zm ?_
  refine zl rfl (fun h1 => ?_) (fun h2 => ?_)
  ·try simp at h1
   obtain ⟨x, hx⟩ : ∃ x, l[k]? = some x := ⟨_, List.getElem?_eq_getElem h1⟩
   have hdx := zU hx
   have hg0 : (E.map (·.p)).map (·.1) = l.take k := by rw [hg, znm]
   refine zo ?_
   refine zk ?_
   refine zm ?_
   refine zu ?_
   refine za ?_
   refine dq (zZ zbv zJ rfl rfl rfl (by first | assumption | simp_all)) ?_
   refine dq (zD zJ rfl rfl rfl rfl) ?_
   refine de rfl (zac zJ rfl fun b15 => ?_)
   refine de0 (zax zJ rfl rfl rfl rfl rfl ?_)
   refine dn ?_
   refine zP (Ghost.fc0 15 rfl) ?_
   refine zbZ (fun M => ∃ i : Nat, M[i]? = some (.cells b22 [.vptr (zj (zaC m)) 0, .raw v, zat o, (.fn (.func fid) [] caps)])) [4] mixed ?_
   refine ahp 0 rfl rfl (by kernel_rfl) (by kernel_rfl) (zf rfl) ?_
   refine ahp 1 rfl rfl (by kernel_rfl) (by kernel_rfl) (zf rfl) ?_
   refine ahp 2 rfl rfl (by kernel_rfl) (by kernel_rfl) ((by first | exact zn rfl | exact zg rfl)) ?_
   refine ahp 3 rfl rfl (by kernel_rfl) (by kernel_rfl) (zb zcv rfl zbL (by decide) rfl) ?_
   refine ahl 4 rfl rfl (by kernel_rfl) (by kernel_rfl) (by simp) ⟨0, rfl⟩ (fun M hM => by obtain ⟨i, hi⟩ := hM; exact zy (i := i) zbL rfl hi (.inl ⟨rfl, rfl⟩) ⟨rfl, rfl⟩) ?_
   refine ahp 5 rfl rfl (by kernel_rfl) (by kernel_rfl) (zD zJ rfl rfl rfl rfl) ?_
   refine ahp 6 rfl rfl (by kernel_rfl) (by kernel_rfl) (zD zJ rfl rfl rfl rfl) ?_
   refine ahp 7 rfl rfl (by kernel_rfl) (by kernel_rfl) (zw ca87 rfl (WeakL.refl _) (zfW (x := x) (hG x (List.mem_of_getElem? hx)))) ?_
   refine zfw 8 9 rfl rfl (by kernel_rfl) ?_ ?_
   ·skip
    refine zv rfl (za9 fun m37 => ?_)
    refine ⟨fun _ => by first | exact .inl ⟨0, rfl⟩ | exact .inl ⟨1, rfl⟩ | exact .inl ⟨2, rfl⟩ | exact .inr (by simp [zaq, Region.binds]), ?_⟩
    refine ahe 9 rfl (by kernel_rfl) ?_
    refine zv rfl (za9 fun m38 => ?_)
    refine ⟨fun _ => by first | exact .inl ⟨0, rfl⟩ | exact .inl ⟨1, rfl⟩ | exact .inl ⟨2, rfl⟩ | exact .inr (by simp [zaq, Region.binds]), ?_⟩
    refine ahp 10 rfl rfl (by kernel_rfl) (by kernel_rfl) (zaG (cs := [_, _, _, _, _, _, _, _, _, _]) zbm zqJ rfl) ?_
    refine ahe 11 rfl (by kernel_rfl) ?_
    refine zv rfl (zdW rfl rfl fun b40 => ?_)
    refine ⟨fun _ => .inl ⟨3, rfl⟩, ?_⟩
    refine ahp 12 rfl rfl (by kernel_rfl) (by kernel_rfl) (zE (hs := [_]) zbL zcM rfl rfl (by decide) (by decide) rfl) ?_
    refine ahe 13 rfl (by kernel_rfl) ?_
    refine zv rfl (zay (i := 4) (v := v) (es := E.map pD) zbL zcM rfl rfl rfl rfl rfl (by simp [zbi, zj]) (by have := zgQ hg0; rw [List.length_take] at this; simp; omega) fun v42 => ?_)
    refine ⟨fun _ => .inl ⟨3, rfl⟩, ?_⟩
    refine ahp 14 rfl rfl (by kernel_rfl) (by kernel_rfl) ((by first | exact zn rfl | exact zg rfl)) ?_
    refine ahp 15 rfl rfl (by kernel_rfl) (by kernel_rfl) (zb zcv rfl zbL (by decide) rfl) ?_
    refine ahe 16 rfl (by kernel_rfl) ?_
    refine zae (zz (i := 3) zbL rfl rfl rfl rfl rfl (by simp) ?_)
    refine ⟨fun _ => .inr (by simp [zaq, Region.binds]), ?_⟩
    refine ahz (by kernel_rfl) ?_
    refine zA ?_
    refine zk ?_
    refine zB ?_
    refine dq (zC rfl rfl (by omega) (by omega)) ?_
    refine dmv rfl ?_
    refine dn ?_
    exact ⟨k + 1, v42, E ++ [⟨(x, zdQ), b40, m37, m38⟩], ⟨by omega, by rw [List.map_append, hg, zaE hx]; simp [ini]⟩, by dsimp only; omega, ⟨rfl, trivial⟩, (by repeat (first | exact zq | refine zx rfl ?_ | refine zt rfl rfl ?_)), (zls (d := ⟨(x, zdQ), b40, m37, m38⟩)).trans (zO (by dsimp only; rw [List.map_append]; rfl))⟩
   ·skip
    refine zv rfl (za9 fun m38 => ?_)
    refine ⟨fun _ => by first | exact .inl ⟨0, rfl⟩ | exact .inl ⟨1, rfl⟩ | exact .inl ⟨2, rfl⟩ | exact .inr (by simp [zaq, Region.binds]), ?_⟩
    refine ahe 8 rfl (by kernel_rfl) ?_
    refine zv rfl (za9 fun m37 => ?_)
    refine ⟨fun _ => by first | exact .inl ⟨0, rfl⟩ | exact .inl ⟨1, rfl⟩ | exact .inl ⟨2, rfl⟩ | exact .inr (by simp [zaq, Region.binds]), ?_⟩
    refine ahp 10 rfl rfl (by kernel_rfl) (by kernel_rfl) (zaG (cs := [_, _, _, _, _, _, _, _, _, _]) zbm zqJ rfl) ?_
    refine ahe 11 rfl (by kernel_rfl) ?_
    refine zv rfl (zdW rfl rfl fun b40 => ?_)
    refine ⟨fun _ => .inl ⟨3, rfl⟩, ?_⟩
    refine ahp 12 rfl rfl (by kernel_rfl) (by kernel_rfl) (zE (hs := [_]) zbL zcM rfl rfl (by decide) (by decide) rfl) ?_
    refine ahe 13 rfl (by kernel_rfl) ?_
    refine zv rfl (zay (i := 4) (v := v) (es := E.map pD) zbL zcM rfl rfl rfl rfl rfl (by simp [zbi, zj]) (by have := zgQ hg0; rw [List.length_take] at this; simp; omega) fun v42 => ?_)
    refine ⟨fun _ => .inl ⟨3, rfl⟩, ?_⟩
    refine ahp 14 rfl rfl (by kernel_rfl) (by kernel_rfl) ((by first | exact zn rfl | exact zg rfl)) ?_
    refine ahp 15 rfl rfl (by kernel_rfl) (by kernel_rfl) (zb zcv rfl zbL (by decide) rfl) ?_
    refine ahe 16 rfl (by kernel_rfl) ?_
    refine zae (zz (i := 3) zbL rfl rfl rfl rfl rfl (by simp) ?_)
    refine ⟨fun _ => .inr (by simp [zaq, Region.binds]), ?_⟩
    refine ahz (by kernel_rfl) ?_
    refine zA ?_
    refine zk ?_
    refine zB ?_
    refine dq (zC rfl rfl (by omega) (by omega)) ?_
    refine dmv rfl ?_
    refine dn ?_
    exact ⟨k + 1, v42, E ++ [⟨(x, zdQ), b40, m37, m38⟩], ⟨by omega, by rw [List.map_append, hg, zaE hx]; simp [ini]⟩, by dsimp only; omega, ⟨rfl, trivial⟩, (by repeat (first | exact zq | refine zx rfl ?_ | refine zt rfl rfl ?_)), (zoV (d := ⟨(x, zdQ), b40, m37, m38⟩)).trans (zO (by dsimp only; rw [List.map_append]; rfl))⟩
  ·try simp at h2
   have hnk : l.length ≤ k := by omega
   obtain rfl : k = l.length := by omega
   rw [List.take_length] at hg
   have hE1 := hg
   refine z7 ?_
   refine zag ?_
   refine zjL ?_
   refine zT ?_
   refine zk ?_
   refine zm ?_
   refine zP (Ghost.fcell (i := 1) (k := 0) (j := 1) rfl rfl rfl) ?_
   refine zP (Ghost.of_eq (M' := (FL b22 m o (.fn (.func fid) [] caps) E ++ S st)) rfl) ?_
   have hEf : (E.map (·.p)).map (·.1) = l := by rw [hE1, znm]
   have hEl := zgQ hEf
   refine za ?_
   refine dmv rfl ?_
   refine dmv rfl ?_
   refine de rfl (EOp.mono ?_ (zbd ca88 rfl (WeakL.refl _) (zih (t := -1) (a := a) (by omega) ha (zsh hE1) hwt)))
   rintro _ _ ⟨rfl, rfl⟩
   refine das rfl ?_
   refine dn ?_
   simp only [hE1]
   obtain ⟨hst1, hst2⟩ := zqa (o := o) (u := u) hf ha0 hsa hu.1
   refine zu ?_
   refine zgS [3, 16, 49, 50, 51, 52, 53, 54, 55, 56, 57, 58, 59, 60, 61, 62, 63, 64, 65, 66, 67, 68, 69, 70, 71, 72, 73, 74, 75, 76, 77, 78, 79, 80, 81, 82, 83] (fun (p : Int) (j : Nat) (E1 : List DV) (s1 : σ) => [(16, .int .i64 p), (3, zbr (a.drop j))]) (fun (p : Int) (j : Nat) (E1 : List DV) (s1 : σ) => (FL b22 m (zV m o l a p.toNat).o (.fn (.func fid) [] caps) E1 ++ S s1)) (fun (p : Int) (j : Nat) (E1 : List DV) (s1 : σ) => FI m o l a u p j (E1.map (·.p)) ∧ j ≤ a.length ∧ I (lg ++ (zV m o l a p.toNat).log.map (·.2)) s1) (fun (p : Int) (j : Nat) (E1 : List DV) (s1 : σ) => (345686400000 - p).toNat) (zcQ m (-1) a (ini l)) (0) (E) (st) ?_ ?_ ?_ ?_
   ·exact ⟨by rw [hE1]; exact hst1, Nat.zero_le _, by rw [hst2]; simpa [zl0] using hI⟩
   ·exact ⟨rfl, rfl, trivial⟩
   ·exact zO (by rw [hst2]; rfl)
   ·intro p j E1 s1 hinv
    obtain ⟨hfi, hjl, hI1⟩ := hinv
    have hE1f : (E1.map (·.p)).map (·.1) = l := by rw [hfi.ds, zbt]
    have hE1l := zgQ hE1f
    refine zm ?_
    refine za ?_
    refine dmv rfl ?_
    refine dmv rfl ?_
    refine dq (zeR rfl rfl) ?_
    refine dmv rfl ?_
    refine dg rfl rfl (fun hc => ⟨_, OpenTo.refl _, zf rfl⟩) ?_
    refine dg rfl rfl (fun hc => ⟨_, OpenTo.upd (t := 53) rfl (by first | exact hc | simp_all) (OpenTo.refl _), zY rfl rfl⟩) ?_
    refine dq (zG rfl (.inr ⟨_, rfl, fun h => by simp_all⟩) (.inl rfl)) ?_
    refine dn ?_
    refine zl rfl (fun h3 => ?_) (fun h4 => ?_)
    ·try simp at h3
     obtain ⟨hpu, hp2⟩ := h3
     refine zo ?_
     refine zk ?_
     refine zm ?_
     refine zu ?_
     refine za ?_
     refine dmv rfl ?_
     refine dmv rfl ?_
     refine de rfl (EOp.mono ?_ (zbd ca89 rfl (WeakL.refl _) (ziW (t := p) (by omega))))
     rintro _ _ ⟨rfl, rfl⟩
     refine dn ?_
     refine zm ?_
     refine zu ?_
     refine zaZ [3, 63, 64, 65, 66, 67, 68, 69, 70, 71, 72, 73, 74, 75, 76, 77, 78, 79, 80] (fun (i : Nat) (E3 : List DV) => [(3, zbr (a.drop i))]) (fun (i : Nat) (E3 : List DV) => (FL b22 m (zV m o l a p.toNat).o (.fn (.func fid) [] caps) E3 ++ S s1)) (fun (i : Nat) (E3 : List DV) => AI m a p ((E1.map (zfQ p)).map (·.p)) i (E3.map (·.p)) ∧ i ≤ a.length) (fun (i : Nat) (E3 : List DV) => a.length - i) (j) ((E1.map (zfQ p))) ?_ ?_ ?_ ?_
     ·exact ⟨AI.start hfi.bef hfi.aft, hjl⟩
     ·exact ⟨rfl, trivial⟩
     ·exact zO rfl
     ·intro i E3 hinv
      obtain ⟨hai, hil⟩ := hinv
      have hE3 : (E3.map (·.p)).map (·.1) = l := by rw [hai.fst, zmA, zkM]; exact hE1f
      have hE3l := zgQ hE3
      refine zm ?_
      refine za ?_
      refine dmv rfl ?_
      refine dq (zR zb5 rfl) ?_
      refine dq (zaT rfl rfl) ?_
      refine dmv rfl ?_
      refine dg rfl rfl (fun hc => ⟨_, OpenTo.refl _, zf rfl⟩) ?_
      refine dg rfl rfl (fun hc => by have hq := hc; (try simp at hq); exact ⟨_, OpenTo.upd (t := 67) rfl (by first | exact hc | simp_all) (OpenTo.refl _), zZ (j := 0) (a := (a.drop i).getD 0 zbU) zb5 zS rfl rfl rfl (getD_some (by rw [List.length_drop]; omega))⟩) ?_
      refine dg rfl rfl (fun hc => ⟨_, OpenTo.upd (t := 68) rfl (by first | exact hc | simp_all) (OpenTo.refl _), (by first | exact zd zS rfl ty3 (by decide) rfl | exact zb zS rfl ty3 (by decide) rfl)⟩) ?_
      refine dg rfl rfl (fun hc => ⟨_, OpenTo.upd (t := 69) rfl (by first | exact hc | simp_all) (OpenTo.refl _), zh ty3 rfl rfl rfl⟩) ?_
      refine dg rfl rfl (fun hc => ⟨_, OpenTo.refl _, zf rfl⟩) ?_
      refine dg rfl rfl (fun hc => ⟨_, OpenTo.upd (t := 71) rfl (by first | exact hc | simp_all) (OpenTo.upd (t := 70) rfl (by first | exact hc | simp_all) (OpenTo.refl _)), zaj rfl rfl⟩) ?_
      refine dq (zG rfl (.inr ⟨_, rfl, fun h => by simp_all⟩) (.inl rfl)) ?_
      refine dn ?_
      refine zl rfl (fun h5 => ?_) (fun h6 => ?_)
      ·try simp at h5
       have hil2 : i < a.length := by have q := h5.1; omega
       obtain ⟨x, hx⟩ : ∃ x, a[i]? = some x := ⟨_, List.getElem?_eq_getElem hil2⟩
       have hxp : x.At = p := by have q := h5.2; have q2 := zlw hx; rw [← q2]; simpa using q
       refine zo ?_
       refine zk ?_
       refine zu ?_
       refine za ?_
       refine dmv rfl ?_
       refine dmv rfl ?_
       refine dq (zZ (j := 0) (a := x) zb5 zS rfl rfl rfl (by rw [List.getElem?_drop]; exact hx)) ?_
       refine dq (zD zS rfl rfl rfl rfl) ?_
       refine de rfl (EOp.mono ?_ (zbd ca90 rfl (WeakL.refl _) (zql (by omega) (fun d hd => hG _ (zn4 hE3 d hd)))))
       rintro _ _ ⟨E4, rfl, rfl, hE4⟩
       refine dn ?_
       refine zB ?_
       refine dmv rfl ?_
       refine dq (zfO (zhv (l := 1) (h := (a.drop i).length) zb5 zS rfl ⟨_, _, rfl, rfl⟩ rfl (by rw [List.length_drop]; omega) (Nat.le_refl _)) (show _ = zbr (a.drop (i + 1)) by rw [List.take_length, List.drop_drop])) ?_
       refine das rfl ?_
       refine dn ?_
       refine zA ?_
       exact ⟨i + 1, E4, ⟨by rw [hE4]; exact hai.step hx hxp, by omega⟩, by dsimp only; omega, ⟨rfl, trivial⟩, (by repeat (first | exact zq | refine zx rfl ?_ | refine zt rfl rfl ?_)), zO rfl⟩
      ·try simp at h6
       have hxn : ∀ x, a[i]? = some x → x.At ≠ p := fun x hx q => by
        have h1 := zM hx
        have q2 := zlw hx
        have h2 := h6 (by omega)
        apply h2
        rw [← q, ← q2]; simp
       obtain ⟨hfin, haft⟩ := hai.fin hsa hxn
       obtain ⟨_, hrl, hrs⟩ : True ∧ (zV m o l a p.toNat).o.length ≤ 1000000 ∧ SortedS ((zV m o l a p.toNat).o.map (·.Player)) := ⟨trivial, by rw [zgu]; exact ho, by rw [zg1]; exact hs⟩
       have hr0 : E3 ≠ [] → 0 < (zV m o l a p.toNat).o.length := fun q => by rw [zgu]; refine h0o (fun q2 => q ?_); rw [q2] at hE3l; exact List.length_eq_zero_iff.1 hE3l
       have hmid := zsS (E := E3) (o := o) (a := a) hf hfi.lo hfi.hi zr6 (by rw [← hfin, zmA, hfi.ds])
       refine z7 ?_
       refine zag ?_
       refine zbc ?_
       refine zT ?_
       refine zk ?_
       refine zB ?_
       refine dmv rfl ?_
       refine dmv rfl ?_
       refine de rfl (EOp.mono ?_ (zbd ca91 rfl (WeakL.refl _) (zis (t := p) hca hdone hI1 ht hr0 hrl hrs (by omega) (fun d hd => hG _ (zn4 hE3 d hd)) hmid hwt (by have := zk1 m o l a p.toNat; simp; omega))))
       rintro _ _ ⟨E5, s2, rfl, rfl, hE5, hI2⟩
       refine dn ?_
       refine zA ?_
       refine zk ?_
       have hr := zpz (o := o) (l := l) (a := a) hfi.lo (zmA.trans (congrArg (List.map (zbB p)) hfi.ds)) hfin
       refine zP (Ghost.of_eq (M' := (FL b22 m (zV m o l a (p.toNat + 1)).o (.fn (.func fid) [] caps) E5 ++ S s2)) (by rw [hr])) ?_
       have hE6 : E5.map (·.p) = (zV m o l a (p.toNat + 1)).ds := by rw [hE5, hr]
       have hE5f : (E5.map (·.p)).map (·.1) = l := by rw [hE6, zbt]
       have hE5l := zgQ hE5f
       have hI3 : I (lg ++ (zV m o l a (p.toNat + 1)).log.map (·.2)) s2 := by rw [hr]; simpa using hI2
       refine zB ?_
       refine dmv rfl ?_
       refine dmv rfl ?_
       refine dmv rfl ?_
       refine de rfl (EOp.mono ?_ (zbd ca88 rfl (WeakL.refl _) (zih (t := p) (a := a.drop i) (by omega) (by rw [List.length_drop]; omega) (zsU hf (by omega) hE6) hwt)))
       rintro _ _ ⟨rfl, rfl⟩
       refine das rfl ?_
       refine dn ?_
       obtain ⟨q1, q2⟩ := zq0 hf hsa hfi.lo hp2 hpu hai.bef haft hE6
       have q3 := (zjC (m := m) (t := p) (a := a.drop i) (ps := E5.map (·.p)) hp2)
       exact ⟨zcQ m p (a.drop i) (E5.map (·.p)), i, E5, s2, ⟨q1, hil, by rw [q2]; exact hI3⟩, by dsimp only; omega, ⟨rfl, rfl, trivial⟩, (by repeat (first | exact zq | refine zx rfl ?_ | refine zt rfl rfl ?_)), zO (by dsimp only; rw [q2])⟩
    ·try simp at h4
     have hpu : u < p := by omega
     have hfin := hfi.fin hpu
     refine z7 ?_
     refine zag ?_
     refine zhw ?_
     refine zT ?_
     refine zk ?_
     refine za ?_
     refine dmv rfl ?_
     refine das rfl ?_
     refine dn ?_
     refine zp ?_
     exact zaQ rfl ⟨b22, E1, s1, rfl, by rw [← hfin], by rw [← hfin]; exact hfi.ds, by rw [← hfin]; exact hI1⟩
end
end Go.Proofs.YtpcaaekefgkhjaaGreatDoor
section
namespace Go.HL
structure StageS where
 Offer : Str
 How : Int
 Since : Int
abbrev zbz (x : StageS) : HVal := .agg [.str x.Offer, .int .i64 x.How, .int .i64 x.Since]
abbrev zfp (l : List StageS) : HVal := .slice 3 (l.map zbz)
def zjW (p : DD) : List StageS := if p.2.how = 0 then [] else [⟨p.1.Id, p.2.how, p.2.since⟩]
def zer (ds : List DD) : List StageS := ds.flatMap zjW
def zjI (s : Str) (p : DD) : List Str := if p.2.how = 1 ∧ (zaV p.1.Gives).contains s = true ∧ p.2.yes.contains s = false then [p.1.Id] else []
def zes (s : Str) (ds : List DD) : List Str := ds.flatMap (zjI s)
def zaP (o : List OwnerS) (s : Str) : Str := match o with | [] => [] | x :: r => if x.Player = s then x.Team else zaP r s
def zeG (s : Str) (acc : List Str) (nx : List OwnerS) : List Str := if acc.getLast? = some (zaP nx s) then acc else acc ++ [zaP nx s]
def zeM (s : Str) (first : Str) (lg : List (List OwnerS)) : List Str := lg.foldl (zeG s) [first]
theorem zgX {β : Type} {f : DD → List β} {E : List DV} {k : Nat} {d : DV} (h : E[k]? = some d) : ((E.take (k + 1)).map (·.p)).flatMap f = ((E.take k).map (·.p)).flatMap f ++ f d.p := by
 rw [zaE h, List.map_append, List.flatMap_append]; simp
theorem zeH {β : Type} {f : DD → List β} (hf : ∀ p, (f p).length ≤ 1) : ∀ ds : List DD, (ds.flatMap f).length ≤ ds.length
 | [] => by simp
 | p :: r => by
   have := zeH hf r
   have := hf p
   rw [List.flatMap_cons, List.length_append, List.length_cons]; omega
theorem zjx (p : DD) : (zjW p).length ≤ 1 := by unfold zjW; split <;> simp
theorem zjZ (s : Str) (p : DD) : (zjI s p).length ≤ 1 := by unfold zjI; split <;> simp
section
variable (m : MarketS) (o : List OwnerS) (l : List DealS) (a : List ReplyS) (u : Int) (s : Str)
abbrev zdZ : FS := zV m o l a (u + 1).toNat
def zdN : Int := if za0 m o l a = 0 ∧ za7 u = false then 1 else za0 m o l a
def zbF : Int := if za0 m o l a ≠ 0 then za0 m o l a else if m.Teams.contains s = false then 8 else if za7 u = false then 1 else 0
def zbl : Int := if za0 m o l a ≠ 0 then za0 m o l a else if zaP o s = [] then 8 else if za7 u = false then 1 else 0
def zeI : List StageS := if zdN m o l a u ≠ 0 then [] else zer (zdZ m o l a u).ds
def zeN : List OwnerS := if zdN m o l a u ≠ 0 then [] else (zdZ m o l a u).o
def zcE : List Str := if zbF m o l a u s ≠ 0 then [] else zes s (zdZ m o l a u).ds
def zch : List Str := if zbl m o l a u s ≠ 0 then [] else zeM s (zaP o s) ((zdZ m o l a u).log.map (·.2))
end
/-! what no fault gives -/
structure TOk (m : MarketS) (o : List OwnerS) (l : List DealS) (a : List ReplyS) : Prop where
 mok : zad m = 0
 hs : SortedS (o.map (·.Player))
 hl : l.length ≤ 500
 hG : ∀ x ∈ l, x.Gives.length ≤ 1000
 hf : FOk m l
 hsa : zkV a
 ha : a.length ≤ 2000
 ha0 : ∀ r ∈ a, 0 ≤ r.At
 hwt : 0 ≤ m.Wait ∧ m.Wait ≤ 864000000
theorem zrR {l : List Str} {x y : Str} (hx : x ∈ l) (hy : y ∈ l) (h : x ≠ y) : 2 ≤ l.length := by
 match l, hx, hy with
 | [], hx, _ => cases hx
 | [z], hx, hy => simp at hx hy; exact absurd (hx.trans hy.symm) h
 | _ :: _ :: r, _, _ => simp
theorem zqk {m : MarketS} {l : List GiveS} (h : zaR m l = 0) : 2 ≤ (zaV l).length := by
 obtain ⟨h1, _, h3, _⟩ := zdJ h
 match l, h1, h3 with
 | [], h1, _ => simp at h1
 | g :: r, _, h3 =>
   have hg := h3 g (by simp)
   unfold zaH at hg
   split at hg
   ·cases hg
   split at hg
   ·cases hg
   split at hg
   ·cases hg
   rename_i hne
   exact zrR (x := g.From) (y := g.To) (zlr.2 (by simp [zcX])) (zlr.2 (by simp [zcX])) hne
theorem zp1 {x y : ReplyS} (h : zcf x y < 0) : x.At ≤ y.At := by
 unfold zcf at h
 rw [zjw] at h
 by_cases hc : zdh x.At y.At = 0
 ·unfold zdh at hc
  split at hc
  ·cases hc
  split at hc
  ·cases hc
  ·omega
 ·rw [if_pos hc] at h
  unfold zdh at h
  split at h
  ·omega
  split at h
  ·omega
  ·omega
theorem zdV {m : MarketS} {o : List OwnerS} {l : List DealS} {a : List ReplyS} (h : za0 m o l a = 0) : TOk m o l a := by
 obtain ⟨h1, h2, h3⟩ := zkR h
 obtain ⟨hm, h4⟩ := zhs h1
 obtain ⟨_, h5⟩ := zfF h2
 obtain ⟨_, h6⟩ := zmv h3
 obtain ⟨_, _, o3, _⟩ := zhE h4
 obtain ⟨d1, d2, _⟩ := zfK h5
 obtain ⟨r1, r2, r3⟩ := zmO h6
 have hq : 1 ≤ m.Vetoes ∧ 0 ≤ m.Wait ∧ m.Wait ≤ 864000000 := by
  have hm' := hm
  unfold zad at hm'
  split at hm'
  ·cases hm'
  split at hm'
  ·cases hm'
  split at hm'
  ·rename_i h3; exact absurd hm' h3
  split at hm'
  ·cases hm'
  rename_i h4
  simp only [Bool.or_eq_true, not_or, Bool.not_eq_true] at h4
  have e1 := zej h4.1.1.1.1
  have e2 := zej h4.1.1.1.2
  omega
 refine ⟨hm, zkn o3, d1, fun x hx => ?_, ⟨hq.1, fun x hx => zqk (zgp (d2 x hx))⟩, r3.imp fun h => zp1 h, r1, fun r hr => ?_, hq.2⟩
 ·have := (zdJ (zgp (d2 x hx))).2.1; omega
 ·have := r2 r hr
  unfold zas at this
  split at this
  ·cases this
  split at this
  ·cases this
  split at this
  ·cases this
  rename_i hmo
  have : za7 r.At = true := by simpa using hmo
  unfold za7 at this
  have := zej (n := r.At) (lo := 0) (hi := 345686399999) (by simpa using this)
  omega
theorem zdH {u : Int} (h : za7 u = true) : 0 ≤ u ∧ u < 345686400000 := by
 unfold za7 at h
 have := zej (n := u) (lo := 0) (hi := 345686399999) (by simpa using h)
 omega
theorem zkL {m : MarketS} {o : List OwnerS} {l : List DealS} {a : List ReplyS} {u : Int} (h : zdN m o l a u = 0) : za0 m o l a = 0 ∧ za7 u = true := by
 unfold zdN at h
 split at h
 ·cases h
 ·rename_i hn
  refine ⟨h, ?_⟩
  cases hm : za7 u with
  | true => rfl
  | false => exact absurd ⟨h, hm⟩ hn
/-! the floor with one more object -/
theorem znE {bf : Nat} {m : MarketS} {o : List OwnerS} {fn : HVal} {E : List DV} {x : MObj} : (FL bf m o fn E ++ [x])[(flD E).length + 1]? = some x := by
 show (flD E ++ [x])[(flD E).length]? = some x
 rw [List.getElem?_append_right (Nat.le_refl _)]; simp
theorem zk9 {bf : Nat} {m : MarketS} {o : List OwnerS} {fn : HVal} {E : List DV} {x y : MObj} : (FL bf m o fn E ++ [x]).set ((flD E).length + 1) y = FL bf m o fn E ++ [y] := by
 show _ :: (flD E ++ [x]).set (flD E).length y = _ :: (flD E ++ [y])
 rw [List.set_append_right _ _ (Nat.le_refl _)]; simp
theorem Ghost.fal [Tracks] {e : Env} {X : List MObj} {v : Value} {sz : Nat} {es : List HVal} (t : Nat) (ht : e t = some (.raw v)) : Ghost e (X ++ [.arr v sz es]) (upd e t (.slice sz es)) [] :=
 (Ghost.perm (List.perm_append_comm (l₁ := X) (l₂ := [.arr v sz es]))).trans ((Ghost.fa0 t ht).trans Ghost.clear)
/-! where a player has been -/
def WS (b : Nat) (q : Value × List Str) : List MObj := [.cells b [.raw q.1], .arr q.1 1 (q.2.map .str)]
def WI (s first : Str) (g : List (List OwnerS)) (q : Value × List Str) : Prop := q.2 = zeM s first g ∧ q.2 ≠ [] ∧ q.2.length ≤ g.length + 1
theorem ziT (s first : Str) (g : List (List OwnerS)) (x : List OwnerS) : zeM s first (g ++ [x]) = zeG s (zeM s first g) x := by unfold zeM; rw [List.foldl_append]; rfl
theorem zoe {o : List OwnerS} {k : Nat} {x : OwnerS} {s : Str} (h : o[k]? = some x) : zaP (o.drop k) s = if x.Player = s then x.Team else zaP (o.drop (k + 1)) s := by rw [zU h]; rfl
end Go.HL
namespace Go.HL
theorem zlu {ws : List Str} (h : 0 < ws.length) : ws.getLast? = some (ws.getD (ws.length - 1) []) := by
 rw [List.getLast?_eq_getElem?, getD_some (by omega)]
theorem zna {s first : Str} {g : List (List OwnerS)} {x : List OwnerS} {ws : List Str} {v : Value} (h1 : ws = zeM s first g) (h3 : ws.length ≤ g.length + 1) (hl : 0 < ws.length) (h : ¬ zaP x s = ws.getD (ws.length - 1) []) : WI s first (g ++ [x]) (v, ws ++ [zaP x s]) := by
 refine ⟨?_, by simp, by simp; omega⟩
 rw [ziT, ← h1]
 unfold zeG
 rw [if_neg (by rw [zlu hl]; exact fun e => h (Option.some.inj e).symm)]
theorem zmK {s first : Str} {g : List (List OwnerS)} {x : List OwnerS} {ws : List Str} {v : Value} (h1 : ws = zeM s first g) (h3 : ws.length ≤ g.length + 1) (hl : 0 < ws.length) (h : zaP x s = ws.getD (ws.length - 1) []) : WI s first (g ++ [x]) (v, ws) := by
 refine ⟨?_, List.length_pos_iff.1 hl, by simp; omega⟩
 rw [ziT, ← h1]
 unfold zeG
 rw [if_pos (by rw [zlu hl, h])]
end Go.HL
end
namespace Go.HL
section
variable {P : Program}
theorem ze7 [Tracks] {e : Env} {dst : Option Tmp} {ty : TypeId} {pos : String} {af : Array Edge} {g : Option (Nat × Bool)} {M : List MObj} {K : HVal → List MObj → Prop} {t el : TypeId} {size bytes sz b2 n : Nat} {zero z2 : Value} {d : TD} {parts : Array (Nat × Operand)} {hs : List HVal}
 (hf : Fits P t (.slice el) size bytes zero) (hel : Fits P el d sz b2 z2) (hz : z2.cells.size = sz) (hn : parts.toList.length = n) (hsz : n * sz ≤ 16777216) (h0 : n * sz ≠ 0)
 (hr : zgf e sz 0 parts.toList = some hs) (hk : ∀ v, K (.raw v) (.arr v sz hs :: M)) : EOp P e M ⟨dst, .buildSlice t n parts, ty, pos, af, g⟩ K :=
 EOp.of_run fun I F a w ho hs' => by
  let zr : Array Value := (Array.range (n * sz)).map (z2.cells[· % z2.cells.size]!)
  obtain ⟨rc, h1, h2, h3, h4, h5, h6⟩ := zhF (I := I) (f := a.eval) parts.toList 0 hs zr hr (fun x hx h hh => ho.one (by simpa [Op.operands] using hx) hh) (by simp [zr, hn])
  have hl : hs.length = n := by omega
  have hpos : 0 < sz := by
   rcases Nat.eq_zero_or_pos sz with h | h
   ·rw [h] at h0; simp at h0
   ·exact h
  have hnle : n ≤ n * sz := Nat.le_mul_of_pos_right n hpos
  refine ⟨.slice (some ⟨w.heap.size, 0, none⟩) n n, .raw (.slice (some ⟨w.heap.size, 0, none⟩) n n), _, push w (.cells rc el (0, 0)), I, ?_, .refl I, hk _, .raw _ rfl, ?_⟩
  ·have hp : (parts.map fun x => (x.1, a.eval x.2)).toList = parts.toList.map fun p => (p.1, a.eval p.2) := by simp
   have hle : ¬ n * sz > 2 ^ 24 := by omega
   simp only [execOp, Instr.buildSlice, Sem.run_bind, run_underlying hf.slice, Result.andThen_ok, hel.run_sizeOf]
   rw [if_neg hle]
   simp only [Sem.run_pure, Result.andThen_ok]
   rw [if_neg h0]
   simp only [Sem.run_bind, hel.run_zero, Result.andThen_ok, Sem.run_pure, hp]
   have h1' : Instr.fill (fun i => some (i * sz, sz)) ((Array.range (n * sz)).map fun x => z2.cells[x % z2.cells.size]!) (parts.toList.map fun p => (p.1, a.eval p.2)) = some rc := h1
   rw [h1']
   simp [newRow]
  ·have hrc : rc.size = n * sz := by rw [h2]; simp [zr]
   exact hs'.new_own (.cells rc el (0, 0)) (.arr (.slice (some ⟨w.heap.size, 0, none⟩) n n) sz hs) rfl (.inr ⟨w.heap.size, 0, n, rc, el, (0, 0), by rw [hl], by simp [push], Free.zero _, h5, ⟨by omega, by omega⟩, by omega, fun i j x c v b1 b2 b3 => h6 i j x c v b1 b2 (by simpa using b3)⟩)
end
end Go.HL
namespace Go.Proofs.YtpcaaekefgkhjaaGreatDoor
set_option maxRecDepth 100000
set_option linter.unusedVariables false
set_option linter.unusedSimpArgs false
section
open Go.HL
/-- benchwarmer/trade.at$1 -/
theorem zrO [Tracks] {x : List OwnerS}  : Con Tryz.prog 80 [zat x] [] (fun r M' => r = .tup [] ∧ M' = []) := by
 refine Con.of_body Tryz.func80 rfl Tryz.ntmps80 rfl rfl ?_
 refine zo ?_
 exact zH rfl ⟨rfl, rfl⟩

/-- benchwarmer/trade.at -/
theorem zhS [Tracks] {m : MarketS} {o : List OwnerS} {l : List DealS} {a : List ReplyS} {u : Int}  (ht : m.Teams.length ≤ 1000000) (h0o : l ≠ [] → 0 < o.length) (ho : o.length ≤ 1000000) (hs : SortedS (o.map (·.Player))) (hl : l.length ≤ 1000) (hG : ∀ x ∈ l, x.Gives.length ≤ 1000) (hf : FOk m l) (hsa : zkV a) (ha : a.length ≤ 1000000) (ha0 : ∀ r ∈ a, 0 ≤ r.At) (hu : 0 ≤ u ∧ u < 345686400000) (hwt : 0 ≤ m.Wait ∧ m.Wait ≤ 864000000) : Con Tryz.prog 49 [.vptr (zj (zaC m)) 0, zat o, zcA l, zbr a, .int .i64 u] [] (fun x M' => ∃ b22 fn E', x = pAt b22 ∧ M' = FL b22 m (zdZ m o l a u).o fn E' ∧ E'.map (·.p) = (zdZ m o l a u).ds) := by
 refine Con.of_body Tryz.func49 rfl Tryz.ntmps49 rfl rfl ?_
 refine za ?_
 refine das rfl ?_
 refine dn ?_
 refine za ?_
 refine dmv rfl ?_
 refine dmv rfl ?_
 refine dmv rfl ?_
 refine dmv rfl ?_
 refine dmv rfl ?_
 refine de rfl (EOp.mono ?_ (zbd ca54 rfl (WeakL.refl _) (zmH (S := fun _ : Unit => []) (I := fun _ _ => True) (st := ()) (lg := []) (u := u) (a := a) (l := l) (o := o) (m := m) ca80 (fun g s x _ _ _ => (zrO).mono fun r M' ⟨h1, h2⟩ => ⟨(), h1, h2, trivial⟩) trivial ht h0o ho hs hl hG hf hsa ha ha0 hu hwt (by simp))))
 rintro _ _ ⟨b22, E', s', rfl, rfl, hE, _⟩
 refine das rfl ?_
 refine dn ?_
 refine zp ?_
 exact zaQ rfl ⟨b22, _, E', rfl, by rw [List.append_nil], hE⟩

/-- benchwarmer/trade.fault -/
theorem zfR [Tracks] {m : MarketS} {o : List OwnerS} {l : List DealS} {a : List ReplyS}  (ht : m.Teams.length ≤ 1000000) (ho : o.length ≤ 1000000) (hl : l.length ≤ 1000000) (hx0 : ∀ x ∈ l, x.Gives.length ≤ 1000000) (ha : a.length ≤ 1000000) : zah Tryz.prog 50 [zaC m, zat o, zcA l, zbr a] (.int .i64 (za0 m o l a)) := by
 refine Con.of_body Tryz.func50 rfl Tryz.ntmps50 rfl rfl ?_
 refine za ?_
 refine dq (zal rfl rfl) ?_
 refine das rfl ?_
 refine dn ?_
 refine zar (fun _ => True) [] mixed ?_
 refine ahp 0 rfl rfl (by kernel_rfl) (by kernel_rfl) (zD zN rfl rfl rfl rfl) ?_
 refine ahp 1 rfl rfl (by kernel_rfl) (by kernel_rfl) (zf rfl) ?_
 refine ahp 2 rfl rfl (by kernel_rfl) (by kernel_rfl) (zw ca31 rfl (WeakL.refl _) (zfl (m := m) (o := o) ht ho)) ?_
 refine ahp 3 rfl rfl (by kernel_rfl) (by kernel_rfl) (zD zN rfl rfl rfl rfl) ?_
 refine ahp 4 rfl rfl (by kernel_rfl) (by kernel_rfl) (zf rfl) ?_
 refine ahp 5 rfl rfl (by kernel_rfl) (by kernel_rfl) (zw ca82 rfl (WeakL.refl _) (zfk (m := m) (l := l) ht hl hx0)) ?_
 refine ahp 6 rfl rfl (by kernel_rfl) (by kernel_rfl) (zD zN rfl rfl rfl rfl) ?_
 refine ahp 7 rfl rfl (by kernel_rfl) (by kernel_rfl) (zf rfl) ?_
 refine ahp 8 rfl rfl (by kernel_rfl) (by kernel_rfl) (zw ca83 rfl (WeakL.refl _) (zhD (m := m) (l := a) ht ha)) ?_
 refine ahp 9 rfl rfl (by kernel_rfl) (by kernel_rfl) (zE (hs := [_, _, _]) zfA zgY rfl rfl (by decide) (by decide) rfl) ?_
 refine ahp 10 rfl rfl (by kernel_rfl) (by kernel_rfl) (zw ca81 rfl (WeakL.refl _) (ziZ (l := [_, _, _]) (by simp))) ?_
 refine ahp 11 rfl rfl (by kernel_rfl) (by kernel_rfl) (z8 rfl) ?_
 refine ahz (by kernel_rfl) ?_
 refine zp ?_
 refine zI rfl ?_
 rfl

/-- benchwarmer/trade.momentFault -/
theorem zfj [Tracks] {m : MarketS} {o : List OwnerS} {l : List DealS} {a : List ReplyS} {u : Int}  (ht : m.Teams.length ≤ 1000000) (ho : o.length ≤ 1000000) (hl : l.length ≤ 1000000) (hx0 : ∀ x ∈ l, x.Gives.length ≤ 1000000) (ha : a.length ≤ 1000000) : zah Tryz.prog 48 [zaC m, zat o, zcA l, zbr a, .int .i64 u] (.int .i64 (zdN m o l a u)) := by
 refine Con.of_body Tryz.func48 rfl Tryz.ntmps48 rfl rfl ?_
 refine za ?_
 refine dq (zal rfl rfl) ?_
 refine das rfl ?_
 refine dn ?_
 refine za ?_
 refine dq (zD zN rfl rfl rfl rfl) ?_
 refine dmv rfl ?_
 refine dmv rfl ?_
 refine dmv rfl ?_
 refine dq (zw zqb rfl (WeakL.refl _) (zfR ht ho hl hx0 ha)) ?_
 refine das rfl ?_
 refine dn ?_
 refine zm ?_
 refine za ?_
 refine dmv rfl ?_
 refine dq (zaj rfl rfl) ?_
 refine dmv rfl ?_
 refine dg rfl rfl (fun hc => ⟨_, OpenTo.refl _, zf rfl⟩) ?_
 refine dg rfl rfl (fun hc => ⟨_, OpenTo.upd (t := 20) rfl (by first | exact hc | simp_all) (OpenTo.refl _), zw znY rfl (WeakL.refl _) zeB⟩) ?_
 refine dg rfl rfl (fun hc => ⟨_, OpenTo.upd (t := 21) rfl (by first | exact hc | simp_all) (OpenTo.refl _), zam rfl⟩) ?_
 refine dq (zG rfl (.inr ⟨_, rfl, fun h => by simp_all⟩) (.inl rfl)) ?_
 refine dn ?_
 refine zl rfl (fun h1 => ?_) (fun h2 => ?_)
 ·try simp at h1
  refine zB ?_
  refine das rfl ?_
  refine dn ?_
  refine zk ?_
  refine za ?_
  refine dmv rfl ?_
  refine das rfl ?_
  refine dn ?_
  refine zp ?_
  refine zI rfl ?_
  show HVal.int .i64 _ = _
  unfold zdN
  simp_all
 ·try simp at h2
  refine zo ?_
  refine zk ?_
  refine za ?_
  refine dmv rfl ?_
  refine das rfl ?_
  refine dn ?_
  refine zp ?_
  refine zI rfl ?_
  show HVal.int .i64 _ = _
  unfold zdN
  simp_all

set_option maxHeartbeats 1000000 in
/-- benchwarmer/trade.Stages -/
theorem zkP [Tracks] {m : MarketS} {o : List OwnerS} {l : List DealS} {a : List ReplyS} {u : Int}  (ht : m.Teams.length ≤ 1000000) (h0o : l ≠ [] → 0 < o.length) (ho : o.length ≤ 1000000) (hl : l.length ≤ 1000000) (hx0 : ∀ x ∈ l, x.Gives.length ≤ 1000000) (ha : a.length ≤ 1000000) : zah Tryz.prog 13 [zaC m, zat o, zcA l, zbr a, .int .i64 u] (.tup [zfp (zeI m o l a u), .int .i64 (zdN m o l a u)]) := by
 refine Con.of_body Tryz.func13 rfl Tryz.ntmps13 rfl rfl ?_
 refine za ?_
 refine dq (zal rfl rfl) ?_
 refine das rfl ?_
 refine das rfl ?_
 refine dn ?_
 refine zm ?_
 refine za ?_
 refine dq (zD zN rfl rfl rfl rfl) ?_
 refine dmv rfl ?_
 refine dmv rfl ?_
 refine dmv rfl ?_
 refine dmv rfl ?_
 refine dq (zw ca48 rfl (WeakL.refl _) (zfj ht ho hl hx0 ha)) ?_
 refine das rfl ?_
 refine dn ?_
 refine za ?_
 refine dmv rfl ?_
 refine dq (zbq rfl rfl) ?_
 refine dn ?_
 refine zl rfl (fun h1 => ?_) (fun h2 => ?_)
 ·try simp at h1
  refine za ?_
  refine dmv rfl ?_
  refine das rfl ?_
  refine das rfl ?_
  refine dn ?_
  refine zp ?_
  first
  | exact zbo rfl (zan (by rw [zeI, if_pos (by simpa using h1)]; exact zak 3) (Weak.refl _))
  | (refine zbO (Ghost.fal 10 rfl) rfl ⟨?_, rfl⟩
     have hz : zdN m o l a u = 0 := by simpa using h2
     show HVal.tup _ = _
     rw [zeI, if_neg (by simp [hz]), hz]; rfl)
 ·try simp at h2
  refine zo ?_
  refine zk ?_
  obtain ⟨htz, hmo⟩ := zkL (m := m) (o := o) (l := l) (a := a) (u := u) (by simpa using h2)
  have tk := zdV htz
  have hub := zdH hmo
  refine za ?_
  refine das rfl ?_
  refine dn ?_
  refine zP (Ghost.arr_nil 3) ?_
  refine zm ?_
  refine za ?_
  refine dmv rfl ?_
  refine dmv rfl ?_
  refine dmv rfl ?_
  refine dmv rfl ?_
  refine de rfl (zb2 (M1 := []) (R := [.arr (.slice none 0 0) 3 []]) zp6 rfl (WeakL.refl _) (List.Perm.refl _) (zhS ht h0o ho tk.hs (by have := tk.hl; omega) tk.hG tk.hf tk.hsa ha tk.ha0 hub tk.hwt) ?_)
  rintro _ _ ⟨b29, fn, E, rfl, rfl, hE⟩
  refine dq ((by first | exact zn rfl | exact zg rfl)) ?_
  refine dq (zb zcv rfl zbL (by decide) rfl) ?_
  refine de rfl (zy (i := 0) zbL rfl rfl (.inl ⟨rfl, rfl⟩) ?_)
  refine dq (zR zbL rfl) ?_
  refine dmv rfl ?_
  refine dn ?_
  have hEl := zgQ (l := l) (E := E) (by rw [hE, zbt])
  have hl5 := tk.hl
  refine zu ?_
  refine zaZ [13, 15, 34, 35, 36, 37, 38, 39, 40, 41, 42, 43, 44, 45, 46, 47, 48, 49, 50, 51, 52, 53, 54, 55, 56, 57, 58, 59, 60] (fun (k : Nat) (v : Value) => [(34, .int .i64 k), (13, .raw v)]) (fun (k : Nat) (v : Value) => (FL b29 m (zdZ m o l a u).o fn E ++ [.arr v 3 (((zer ((E.take k).map (·.p)))).map zbz)])) (fun (k : Nat) (v : Value) => k ≤ E.length ∧ (True)) (fun (k : Nat) (v : Value) => E.length - k) (0) (.slice none 0 0) ?_ ?_ ?_ ?_
  ·exact ⟨Nat.zero_le _, trivial⟩
  ·exact ⟨rfl, rfl, trivial⟩
  ·exact zO rfl
  ·intro k v hinv
   obtain ⟨hk, -⟩ := hinv
   refine za ?_
   refine dq (zY rfl rfl) ?_
   refine dn ?_
   refine zm ?_
   refine zl rfl (fun h3 => ?_) (fun h4 => ?_)
   ·try simp at h3
    obtain ⟨d, hd⟩ : ∃ d, E[k]? = some d := ⟨_, List.getElem?_eq_getElem h3⟩
    have hdd := zU hd
    refine zo ?_
    refine zk ?_
    refine zm ?_
    refine zu ?_
    refine za ?_
    refine dq (zZ (j := k) (a := d) zbL zcM rfl rfl rfl hd) ?_
    refine dq (zh zcM rfl rfl rfl) ?_
    refine das rfl ?_
    refine dn ?_
    refine za ?_
    refine dmv rfl ?_
    refine dq ((by first | exact zn rfl | exact zg rfl)) ?_
    refine dq (zb zbm rfl ty3 (by decide) rfl) ?_
    refine de rfl (zy (i := 3 * k + 1) ty3 rfl (zbx hd) (.inl ⟨rfl, rfl⟩) ?_)
    refine dq (zbq rfl rfl) ?_
    refine dn ?_
    refine zl rfl (fun h5 => ?_) (fun h6 => ?_)
    ·try simp at h5
     refine zbZ (fun M => ∃ z : MObj, M = (FL b29 m (zdZ m o l a u).o fn E ++ [z])) [5, 9, 13] mixed ?_
     refine ahp 0 rfl rfl (by kernel_rfl) (by kernel_rfl) (zf rfl) ?_
     refine ahp 1 rfl rfl (by kernel_rfl) (by kernel_rfl) (zf rfl) ?_
     refine ahp 2 rfl rfl (by kernel_rfl) (by kernel_rfl) ((by first | exact zn rfl | exact zg rfl)) ?_
     refine ahp 3 rfl rfl (by kernel_rfl) (by kernel_rfl) (zb zbm rfl zJ (by decide) rfl) ?_
     refine ahp 4 rfl rfl (by kernel_rfl) (by kernel_rfl) (zb zJ rfl ty9 (by decide) rfl) ?_
     refine ahl 5 rfl rfl (by kernel_rfl) (by kernel_rfl) (by simp) ⟨_, rfl⟩ (fun M hM => by obtain ⟨z, rfl⟩ := hM; exact zy (i := 3 * k + 1) ty9 rfl (zbx hd) (.inl ⟨rfl, rfl⟩) ⟨rfl, rfl⟩) ?_
     refine ahp 6 rfl rfl (by kernel_rfl) (by kernel_rfl) (zf rfl) ?_
     refine ahp 7 rfl rfl (by kernel_rfl) (by kernel_rfl) ((by first | exact zn rfl | exact zg rfl)) ?_
     refine ahp 8 rfl rfl (by kernel_rfl) (by kernel_rfl) (zb zbm rfl ty3 (by decide) rfl) ?_
     refine ahl 9 rfl rfl (by kernel_rfl) (by kernel_rfl) (by simp) ⟨_, rfl⟩ (fun M hM => by obtain ⟨z, rfl⟩ := hM; exact zy (i := 3 * k + 1) ty3 rfl (zbx hd) (.inl ⟨rfl, rfl⟩) ⟨rfl, rfl⟩) ?_
     refine ahp 10 rfl rfl (by kernel_rfl) (by kernel_rfl) (zf rfl) ?_
     refine ahp 11 rfl rfl (by kernel_rfl) (by kernel_rfl) ((by first | exact zn rfl | exact zg rfl)) ?_
     refine ahp 12 rfl rfl (by kernel_rfl) (by kernel_rfl) (zb zbm rfl ty3 (by decide) rfl) ?_
     refine ahl 13 rfl rfl (by kernel_rfl) (by kernel_rfl) (by simp) ⟨_, rfl⟩ (fun M hM => by obtain ⟨z, rfl⟩ := hM; exact zy (i := 3 * k + 1) ty3 rfl (zbx hd) (.inl ⟨rfl, rfl⟩) ⟨rfl, rfl⟩) ?_
     refine ahp 14 rfl rfl (by kernel_rfl) (by kernel_rfl) (zaG (cs := [_, _, _]) zcg pl59 rfl) ?_
     refine ahp 15 rfl rfl (by kernel_rfl) (by kernel_rfl) (zE (hs := [_]) zhT zcg rfl rfl (by decide) (by decide) rfl) ?_
     refine ahe 16 rfl (by kernel_rfl) ?_
     refine zv rfl (zay (i := (flD E).length + 1) (v := v) zhT zcg rfl rfl rfl rfl znE (by simp [zbi, zj]) (by have := zeH zjx ((E.take k).map (·.p)); unfold zer; simp only [List.length_map, List.length_cons, List.length_nil, List.length_take] at *; omega) fun v59 => ?_)
     refine ⟨fun _ => .inl ⟨_, zk9⟩, ?_⟩
     refine ahp 17 rfl rfl (by kernel_rfl) (by kernel_rfl) (z8 rfl) ?_
     refine ahz (by kernel_rfl) ?_
     refine zA ?_
     refine zk ?_
     refine zB ?_
     refine dq (zC rfl rfl (by omega) (by omega)) ?_
     refine dmv rfl ?_
     refine dn ?_
     exact ⟨k + 1, v59, ⟨by omega, trivial⟩, by dsimp only; omega, ⟨rfl, rfl, trivial⟩, (by repeat (first | exact zq | refine zx rfl ?_ | refine zt rfl rfl ?_)), zO (by dsimp only; rw [zk9]; unfold zer; rw [zgX hd]; unfold zjW; rw [if_neg (by simpa using h5)]; simp)⟩
    ·try simp at h6
     refine zo ?_
     refine zA ?_
     refine zk ?_
     refine zB ?_
     refine dq (zC rfl rfl (by omega) (by omega)) ?_
     refine dmv rfl ?_
     refine dn ?_
     exact ⟨k + 1, v, ⟨by omega, trivial⟩, by dsimp only; omega, ⟨rfl, rfl, trivial⟩, (by repeat (first | exact zq | refine zx rfl ?_ | refine zt rfl rfl ?_)), zO (by dsimp only; unfold zer; rw [zgX hd]; unfold zjW; rw [if_pos (by simpa using h6)]; simp)⟩
   ·try simp at h4
    have hnk : E.length ≤ k := by omega
    obtain rfl : k = E.length := by omega
    rw [List.take_length, hE]
    refine z7 ?_
    refine zag ?_
    refine zbc ?_
    refine zT ?_
    refine zk ?_
    refine za ?_
    refine dmv rfl ?_
    refine das rfl ?_
    refine das rfl ?_
    refine dn ?_
    refine zp ?_
    first
    | exact zbo rfl (zan (by rw [zeI, if_pos (by simpa using h1)]; exact zak 3) (Weak.refl _))
    | (refine zbO (Ghost.fal 10 rfl) rfl ⟨?_, rfl⟩
       have hz : zdN m o l a u = 0 := by simpa using h2
       show HVal.tup _ = _
       rw [zeI, if_neg (by simp [hz]), hz]; rfl)

/-- benchwarmer/trade.Owners -/
theorem zkE [Tracks] {m : MarketS} {o : List OwnerS} {l : List DealS} {a : List ReplyS} {u : Int}  (ht : m.Teams.length ≤ 1000000) (h0o : l ≠ [] → 0 < o.length) (ho : o.length ≤ 1000000) (hl : l.length ≤ 1000000) (hx0 : ∀ x ∈ l, x.Gives.length ≤ 1000000) (ha : a.length ≤ 1000000) : zah Tryz.prog 14 [zaC m, zat o, zcA l, zbr a, .int .i64 u] (.tup [zat (zeN m o l a u), .int .i64 (zdN m o l a u)]) := by
 refine Con.of_body Tryz.func14 rfl Tryz.ntmps14 rfl rfl ?_
 refine za ?_
 refine dq (zal rfl rfl) ?_
 refine das rfl ?_
 refine das rfl ?_
 refine dn ?_
 refine zm ?_
 refine za ?_
 refine dq (zD zN rfl rfl rfl rfl) ?_
 refine dmv rfl ?_
 refine dmv rfl ?_
 refine dmv rfl ?_
 refine dmv rfl ?_
 refine dq (zw ca48 rfl (WeakL.refl _) (zfj ht ho hl hx0 ha)) ?_
 refine das rfl ?_
 refine dn ?_
 refine za ?_
 refine dmv rfl ?_
 refine dq (zbq rfl rfl) ?_
 refine dn ?_
 refine zl rfl (fun h1 => ?_) (fun h2 => ?_)
 ·try simp at h1
  refine za ?_
  refine dmv rfl ?_
  refine das rfl ?_
  refine das rfl ?_
  refine dn ?_
  refine zp ?_
  first
  | exact zbo rfl (zan (by rw [zeN, if_pos (by simpa using h1)]; exact zak 2) (Weak.refl _))
  | (refine zbO Ghost.clear rfl ⟨?_, rfl⟩
     have hz : zdN m o l a u = 0 := by simpa using h2
     show HVal.tup _ = _
     rw [zeN, if_neg (by simp [hz]), hz]; rfl)
 ·try simp at h2
  refine zo ?_
  refine zk ?_
  obtain ⟨htz, hmo⟩ := zkL (m := m) (o := o) (l := l) (a := a) (u := u) (by simpa using h2)
  have tk := zdV htz
  have hub := zdH hmo
  refine za ?_
  refine dmv rfl ?_
  refine dmv rfl ?_
  refine dmv rfl ?_
  refine dmv rfl ?_
  refine de rfl (zb2 (M1 := []) (R := []) zp6 rfl (WeakL.refl _) (List.Perm.refl _) (zhS ht h0o ho tk.hs (by have := tk.hl; omega) tk.hG tk.hf tk.hsa ha tk.ha0 hub tk.hwt) ?_)
  rintro _ _ ⟨b26, fn, E, rfl, rfl, hE⟩
  refine dq ((by first | exact zn rfl | exact zg rfl)) ?_
  refine dq (zb zcv rfl zaD (by decide) rfl) ?_
  refine de rfl (zy (i := 0) zaD rfl rfl (.inl ⟨rfl, rfl⟩) ?_)
  refine das rfl ?_
  refine das rfl ?_
  refine dn ?_
  refine zp ?_
  first
  | exact zbo rfl (zan (by rw [zeN, if_pos (by simpa using h1)]; exact zak 2) (Weak.refl _))
  | (refine zbO Ghost.clear rfl ⟨?_, rfl⟩
     have hz : zdN m o l a u = 0 := by simpa using h2
     show HVal.tup _ = _
     rw [zeN, if_neg (by simp [hz]), hz]; rfl)

set_option maxHeartbeats 2000000 in
/-- benchwarmer/trade.Waits -/
theorem zlR [Tracks] {m : MarketS} {o : List OwnerS} {l : List DealS} {a : List ReplyS} {u : Int} {s : Str}  (ht : m.Teams.length ≤ 1000000) (h0o : l ≠ [] → 0 < o.length) (ho : o.length ≤ 1000000) (hl : l.length ≤ 1000000) (hx0 : ∀ x ∈ l, x.Gives.length ≤ 1000000) (ha : a.length ≤ 1000000) : zah Tryz.prog 15 [zaC m, zat o, zcA l, zbr a, .str s, .int .i64 u] (.tup [eSs (zcE m o l a u s), .int .i64 (zbF m o l a u s)]) := by
 refine Con.of_body Tryz.func15 rfl Tryz.ntmps15 rfl rfl ?_
 refine za ?_
 refine dq (zal rfl rfl) ?_
 refine das rfl ?_
 refine das rfl ?_
 refine dn ?_
 refine zm ?_
 refine za ?_
 refine dq (zD zN rfl rfl rfl rfl) ?_
 refine dmv rfl ?_
 refine dmv rfl ?_
 refine dmv rfl ?_
 refine dq (zw zqb rfl (WeakL.refl _) (zfR ht ho hl hx0 ha)) ?_
 refine das rfl ?_
 refine dn ?_
 refine za ?_
 refine dmv rfl ?_
 refine dq (zbq rfl rfl) ?_
 refine dn ?_
 refine zl rfl (fun h1 => ?_) (fun h2 => ?_)
 ·try simp at h1
  refine za ?_
  refine dmv rfl ?_
  refine das rfl ?_
  refine das rfl ?_
  refine dn ?_
  refine zp ?_
  first
  | exact zbo rfl (zan (by rw [zcE, if_pos (by rw [zbF, if_pos (by simpa using h1)]; simpa using h1)]; exact zak 1) (by rw [zbF, if_pos (by simpa using h1)]; exact Weak.refl _))
  | (have hz : zbF m o l a u s = 8 := by rw [zbF, if_neg (by simp [htz]), if_pos (by simpa using h3)]
     exact zbo rfl (zan (by rw [zcE, hz]; exact zak 1) (by rw [hz]; exact Weak.refl _)))
  | (have hz : zbF m o l a u s = 1 := by rw [zbF, if_neg (by simp [htz]), if_neg (by simpa using h4), if_pos (by simpa using h5)]
     exact zbo rfl (zan (by rw [zcE, hz]; exact zak 1) (by rw [hz]; exact Weak.refl _)))
  | (refine zbO (Ghost.fal 12 rfl) rfl ⟨?_, rfl⟩
     have hz : zbF m o l a u s = 0 := by rw [zbF, if_neg (by simp [htz]), if_neg (by simpa using h4), if_neg (by simp [hmo])]
     show HVal.tup _ = _
     rw [zcE, hz]; rfl)
 ·try simp at h2
  refine zo ?_
  refine zk ?_
  refine zm ?_
  refine zu ?_
  have htz : za0 m o l a = 0 := by simpa using h2
  have tk := zdV htz
  refine za ?_
  refine dmv rfl ?_
  refine dq (zw zkH rfl (WeakL.refl _) (zc5 (m := m) (t := s) (zfc tk.mok))) ?_
  refine dq (zam rfl) ?_
  refine das rfl ?_
  refine dn ?_
  refine zl rfl (fun h3 => ?_) (fun h4 => ?_)
  ·try simp at h3
   refine za ?_
   refine das rfl ?_
   refine das rfl ?_
   refine dn ?_
   refine zp ?_
   first
   | exact zbo rfl (zan (by rw [zcE, if_pos (by rw [zbF, if_pos (by simpa using h1)]; simpa using h1)]; exact zak 1) (by rw [zbF, if_pos (by simpa using h1)]; exact Weak.refl _))
   | (have hz : zbF m o l a u s = 8 := by rw [zbF, if_neg (by simp [htz]), if_pos (by simpa using h3)]
      exact zbo rfl (zan (by rw [zcE, hz]; exact zak 1) (by rw [hz]; exact Weak.refl _)))
   | (have hz : zbF m o l a u s = 1 := by rw [zbF, if_neg (by simp [htz]), if_neg (by simpa using h4), if_pos (by simpa using h5)]
      exact zbo rfl (zan (by rw [zcE, hz]; exact zak 1) (by rw [hz]; exact Weak.refl _)))
   | (refine zbO (Ghost.fal 12 rfl) rfl ⟨?_, rfl⟩
      have hz : zbF m o l a u s = 0 := by rw [zbF, if_neg (by simp [htz]), if_neg (by simpa using h4), if_neg (by simp [hmo])]
      show HVal.tup _ = _
      rw [zcE, hz]; rfl)
  ·try simp at h4
   refine za ?_
   refine dmv rfl ?_
   refine dq (zw znY rfl (WeakL.refl _) zeB) ?_
   refine dq (zam rfl) ?_
   refine das rfl ?_
   refine dn ?_
   refine zl rfl (fun h5 => ?_) (fun h6 => ?_)
   ·try simp at h5
    refine za ?_
    refine das rfl ?_
    refine das rfl ?_
    refine dn ?_
    refine zp ?_
    first
    | exact zbo rfl (zan (by rw [zcE, if_pos (by rw [zbF, if_pos (by simpa using h1)]; simpa using h1)]; exact zak 1) (by rw [zbF, if_pos (by simpa using h1)]; exact Weak.refl _))
    | (have hz : zbF m o l a u s = 8 := by rw [zbF, if_neg (by simp [htz]), if_pos (by simpa using h3)]
       exact zbo rfl (zan (by rw [zcE, hz]; exact zak 1) (by rw [hz]; exact Weak.refl _)))
    | (have hz : zbF m o l a u s = 1 := by rw [zbF, if_neg (by simp [htz]), if_neg (by simpa using h4), if_pos (by simpa using h5)]
       exact zbo rfl (zan (by rw [zcE, hz]; exact zak 1) (by rw [hz]; exact Weak.refl _)))
    | (refine zbO (Ghost.fal 12 rfl) rfl ⟨?_, rfl⟩
       have hz : zbF m o l a u s = 0 := by rw [zbF, if_neg (by simp [htz]), if_neg (by simpa using h4), if_neg (by simp [hmo])]
       show HVal.tup _ = _
       rw [zcE, hz]; rfl)
   ·try simp at h6
    refine zo ?_
    refine zA ?_
    refine zk ?_
    have hmo : za7 u = true := by simpa using h6
    have hub := zdH hmo
    refine za ?_
    refine das rfl ?_
    refine dn ?_
    refine zP (Ghost.arr_nil 1) ?_
    refine zm ?_
    refine za ?_
    refine dmv rfl ?_
    refine dmv rfl ?_
    refine dmv rfl ?_
    refine dmv rfl ?_
    refine de rfl (zb2 (M1 := []) (R := [.arr (.slice none 0 0) 1 []]) zp6 rfl (WeakL.refl _) (List.Perm.refl _) (zhS ht h0o ho tk.hs (by have := tk.hl; omega) tk.hG tk.hf tk.hsa ha tk.ha0 hub tk.hwt) ?_)
    rintro _ _ ⟨b38, fn, E, rfl, rfl, hE⟩
    refine dq ((by first | exact zn rfl | exact zg rfl)) ?_
    refine dq (zb zcv rfl zbL (by decide) rfl) ?_
    refine de rfl (zy (i := 0) zbL rfl rfl (.inl ⟨rfl, rfl⟩) ?_)
    refine dq (zR zbL rfl) ?_
    refine dmv rfl ?_
    refine dn ?_
    have hEf : (E.map (·.p)).map (·.1) = l := by rw [hE, zbt]
    have hEl := zgQ hEf
    have hl5 := tk.hl
    refine zu ?_
    refine zaZ [15, 17, 43, 44, 45, 46, 47, 48, 49, 50, 51, 52, 53, 54, 55, 56, 57, 58, 59, 60, 61, 62, 63, 64, 65, 66, 67, 68, 69, 70, 71, 72, 73, 74, 75, 76, 77] (fun (k : Nat) (v : Value) => [(43, .int .i64 k), (15, .raw v)]) (fun (k : Nat) (v : Value) => (FL b38 m (zdZ m o l a u).o fn E ++ [.arr v 1 (((zes s ((E.take k).map (·.p)))).map .str)])) (fun (k : Nat) (v : Value) => k ≤ E.length ∧ (True)) (fun (k : Nat) (v : Value) => E.length - k) (0) (.slice none 0 0) ?_ ?_ ?_ ?_
    ·exact ⟨Nat.zero_le _, trivial⟩
    ·exact ⟨rfl, rfl, trivial⟩
    ·exact zO rfl
    ·intro k v hinv
     obtain ⟨hk, -⟩ := hinv
     refine za ?_
     refine dq (zY rfl rfl) ?_
     refine dn ?_
     refine zm ?_
     refine zl rfl (fun h7 => ?_) (fun h8 => ?_)
     ·try simp at h7
      obtain ⟨d, hd⟩ : ∃ d, E[k]? = some d := ⟨_, List.getElem?_eq_getElem h7⟩
      have hdd := zU hd
      refine zo ?_
      refine zk ?_
      refine zm ?_
      refine zu ?_
      refine za ?_
      refine dq (zZ (j := k) (a := d) zbL zcM rfl rfl rfl hd) ?_
      refine dq (zh zcM rfl rfl rfl) ?_
      refine das rfl ?_
      refine dn ?_
      have hGd := tk.hG _ (zn4 hEf d (List.mem_of_getElem? hd))
      refine za ?_
      refine dmv rfl ?_
      refine dq ((by first | exact zn rfl | exact zg rfl)) ?_
      refine dq (zb zbm rfl ty3 (by decide) rfl) ?_
      refine de rfl (zy (i := 3 * k + 1) ty3 rfl (zbx hd) (.inl ⟨rfl, rfl⟩) ?_)
      refine dq (zaj rfl rfl) ?_
      refine dmv rfl ?_
      refine dg rfl rfl (fun hc => ⟨_, OpenTo.refl _, zf rfl⟩) ?_
      refine dg rfl rfl (fun hc => ⟨_, OpenTo.upd (t := 53) rfl (by first | exact hc | simp_all) (OpenTo.refl _), (by first | exact zn rfl | exact zg rfl)⟩) ?_
      refine dg rfl rfl (fun hc => ⟨_, OpenTo.upd (t := 54) rfl (by first | exact hc | simp_all) (OpenTo.refl _), zb zbm rfl zQ (by decide) rfl⟩) ?_
      refine dgl rfl rfl (fun hc => ⟨_, OpenTo.upd (t := 55) rfl (by first | exact hc | simp_all) (OpenTo.refl _), zy (i := 3 * k + 1) zQ rfl (zbx hd) (.inl ⟨rfl, rfl⟩) ⟨rfl, rfl⟩⟩) ?_
      refine dg rfl rfl (fun hc => ⟨_, OpenTo.refl _, zf rfl⟩) ?_
      refine dg rfl rfl (fun hc => by
       have := zdn d.p.1.Gives
       exact ⟨_, OpenTo.upd (t := 57) rfl (by first | exact hc | simp_all) (OpenTo.upd (t := 56) rfl (by first | exact hc | simp_all) (OpenTo.refl _)), zw zgm rfl (WeakL.refl _) (zaw (l := zaV d.p.1.Gives) (s := s) (by have := zdn d.p.1.Gives; omega))⟩) ?_
      refine dq (zG rfl (.inr ⟨_, rfl, fun h => by simp_all⟩) (.inl rfl)) ?_
      refine dmv rfl ?_
      refine dg rfl rfl (fun hc => ⟨_, OpenTo.refl _, zf rfl⟩) ?_
      refine dg rfl rfl (fun hc => ⟨_, OpenTo.upd (t := 61) rfl (by first | exact hc | simp_all) (OpenTo.refl _), (by first | exact zn rfl | exact zg rfl)⟩) ?_
      refine dg rfl rfl (fun hc => ⟨_, OpenTo.upd (t := 62) rfl (by first | exact hc | simp_all) (OpenTo.refl _), zb zbm rfl zcP (by decide) rfl⟩) ?_
      refine dgl rfl rfl (fun hc => ⟨_, OpenTo.upd (t := 63) rfl (by first | exact hc | simp_all) (OpenTo.refl _), zy (i := 3 * k + 1) zcP rfl (zbx hd) (.inl ⟨rfl, rfl⟩) ⟨rfl, rfl⟩⟩) ?_
      refine dg rfl rfl (fun hc => ⟨_, OpenTo.refl _, zf rfl⟩) ?_
      refine dgl rfl rfl (fun hc => ⟨_, OpenTo.upd (t := 65) rfl (by first | exact hc | simp_all) (OpenTo.upd (t := 64) rfl (by first | exact hc | simp_all) (OpenTo.refl _)), zkW (i := 3 * k + 2) (l := d.p.2.yes) zcP ty9 ty4 rfl rfl (zoc hd) ⟨rfl, rfl⟩⟩) ?_
      refine dg rfl rfl (fun hc => ⟨_, OpenTo.upd (t := 66) rfl (by first | exact hc | simp_all) (OpenTo.refl _), zam rfl⟩) ?_
      refine dq (zG rfl (.inr ⟨_, rfl, fun h => by simp_all⟩) (.inl rfl)) ?_
      refine dn ?_
      refine zl rfl (fun h9 => ?_) (fun h10 => ?_)
      ·try simp at h9
       refine zB ?_
       refine dmv rfl ?_
       refine dmv rfl ?_
       refine dq ((by first | exact zn rfl | exact zg rfl)) ?_
       refine dq (zb zbm rfl zJ (by decide) rfl) ?_
       refine dq (zb zJ rfl ty9 (by decide) rfl) ?_
       refine de rfl (zy (i := 3 * k + 1) ty9 rfl (zbx hd) (.inl ⟨rfl, rfl⟩) ?_)
       refine dq (zE (hs := [_]) zQ ty9 rfl rfl (by decide) (by decide) rfl) ?_
       refine de rfl (zay (i := (flD E).length + 1) (v := v) zQ ty9 rfl rfl rfl rfl znE (by simp [zbi, zj]) (by have := zeH (zjZ s) ((E.take k).map (·.p)); unfold zes; simp only [List.length_map, List.length_cons, List.length_nil, List.length_take] at *; omega) fun v76 => ?_)
       refine das rfl ?_
       refine dn ?_
       refine zA ?_
       refine zk ?_
       refine zB ?_
       refine dq (zC rfl rfl (by omega) (by omega)) ?_
       refine dmv rfl ?_
       refine dn ?_
       exact ⟨k + 1, v76, ⟨by omega, trivial⟩, by dsimp only; omega, ⟨rfl, rfl, trivial⟩, (by repeat (first | exact zq | refine zx rfl ?_ | refine zt rfl rfl ?_)), zO (by dsimp only; rw [zk9]; unfold zes; rw [zgX hd]; unfold zjI; rw [if_pos (by simp_all)]; simp)⟩
      ·try simp at h10
       refine zo ?_
       refine zA ?_
       refine zk ?_
       refine zB ?_
       refine dq (zC rfl rfl (by omega) (by omega)) ?_
       refine dmv rfl ?_
       refine dn ?_
       exact ⟨k + 1, v, ⟨by omega, trivial⟩, by dsimp only; omega, ⟨rfl, rfl, trivial⟩, (by repeat (first | exact zq | refine zx rfl ?_ | refine zt rfl rfl ?_)), zO (by dsimp only; unfold zes; rw [zgX hd]; unfold zjI; rw [if_neg (by rintro ⟨q1, q2, q3⟩; simp_all)]; simp)⟩
     ·try simp at h8
      have hnk : E.length ≤ k := by omega
      obtain rfl : k = E.length := by omega
      rw [List.take_length, hE]
      refine z7 ?_
      refine zag ?_
      refine zbc ?_
      refine zT ?_
      refine zk ?_
      refine za ?_
      refine dmv rfl ?_
      refine das rfl ?_
      refine das rfl ?_
      refine dn ?_
      refine zp ?_
      first
      | exact zbo rfl (zan (by rw [zcE, if_pos (by rw [zbF, if_pos (by simpa using h1)]; simpa using h1)]; exact zak 1) (by rw [zbF, if_pos (by simpa using h1)]; exact Weak.refl _))
      | (have hz : zbF m o l a u s = 8 := by rw [zbF, if_neg (by simp [htz]), if_pos (by simpa using h3)]
         exact zbo rfl (zan (by rw [zcE, hz]; exact zak 1) (by rw [hz]; exact Weak.refl _)))
      | (have hz : zbF m o l a u s = 1 := by rw [zbF, if_neg (by simp [htz]), if_neg (by simpa using h4), if_pos (by simpa using h5)]
         exact zbo rfl (zan (by rw [zcE, hz]; exact zak 1) (by rw [hz]; exact Weak.refl _)))
      | (refine zbO (Ghost.fal 12 rfl) rfl ⟨?_, rfl⟩
         have hz : zbF m o l a u s = 0 := by rw [zbF, if_neg (by simp [htz]), if_neg (by simpa using h4), if_neg (by simp [hmo])]
         show HVal.tup _ = _
         rw [zcE, hz]; rfl)

/-- benchwarmer/trade.team -/
theorem zib [Tracks] {o : List OwnerS} {s : Str} (ho : o.length ≤ 1000000) : zah Tryz.prog 53 [zat o, .str s] (.str (zaP o s)) := by
 refine Con.of_body Tryz.func53 rfl Tryz.ntmps53 rfl rfl ?_
 refine za ?_
 refine das rfl ?_
 refine dn ?_
 refine zm ?_
 refine za ?_
 refine dmv rfl ?_
 refine dq (zR zaD rfl) ?_
 refine dmv rfl ?_
 refine dn ?_
 refine zu ?_
 refine zaJ [4, 6, 9, 10, 11, 12, 13, 14, 15, 16, 17, 18, 19] (fun (k : Nat) => [(9, .int .i64 k)]) (fun (k : Nat) => []) (fun (k : Nat) => k ≤ o.length ∧ (zaP o s = zaP (o.drop k) s)) (fun (k : Nat) => o.length - k) (0) ?_ ?_ ?_ ?_
 ·exact ⟨Nat.zero_le _, rfl⟩
 ·exact ⟨rfl, trivial⟩
 ·exact List.Perm.refl _
 ·intro k hinv
  obtain ⟨hk, hg⟩ := hinv
  refine za ?_
  refine dq (zY rfl rfl) ?_
  refine dn ?_
  refine zm ?_
  refine zl rfl (fun h1 => ?_) (fun h2 => ?_)
  ·try simp at h1
   obtain ⟨x, hx⟩ : ∃ x, o[k]? = some x := ⟨_, List.getElem?_eq_getElem h1⟩
   have hdx := zU hx
   rw [zoe hx] at hg
   refine zo ?_
   refine zk ?_
   refine zm ?_
   refine zu ?_
   refine za ?_
   refine dq (zZ zaD zaa rfl rfl rfl (by first | assumption | simp_all)) ?_
   refine dq (zD zaa rfl rfl rfl rfl) ?_
   refine de rfl (zac zaa rfl fun b6 => ?_)
   refine de0 (zax zaa rfl rfl rfl rfl rfl ?_)
   refine dn ?_
   refine zP (Ghost.fc0 6 rfl) ?_
   refine za ?_
   refine dq (zd zaa rfl ty9 (by decide) rfl) ?_
   refine dq (zh ty9 rfl rfl rfl) ?_
   refine dmv rfl ?_
   refine dq (zbs rfl rfl) ?_
   refine dn ?_
   refine zl rfl (fun h3 => ?_) (fun h4 => ?_)
   ·try simp at h3
    refine za ?_
    refine dq (zd zaa rfl ty9 (by decide) rfl) ?_
    refine dq (zh ty9 rfl rfl rfl) ?_
    refine das rfl ?_
    refine dn ?_
    refine zp ?_
    refine zI rfl ?_
    show HVal.str _ = _
    first
    | (rw [hg, if_pos (by simpa using h3)]; done)
    | (rw [hg]; rfl)
   ·try simp at h4
    refine zo ?_
    refine zA ?_
    refine zk ?_
    refine zB ?_
    refine dq (zC rfl rfl (by omega) (by omega)) ?_
    refine dmv rfl ?_
    refine dn ?_
    refine ⟨k + 1, ?_, ?_, ⟨rfl, trivial⟩, (by repeat (first | exact zq | refine zx rfl ?_ | refine zt rfl rfl ?_)), List.Perm.refl _⟩
    ·refine ⟨by omega, ?_⟩
     rw [hg, if_neg (by simpa using h4)]
    ·dsimp only; omega
  ·try simp at h2
   have hnk : o.length ≤ k := by omega
   obtain rfl : k = o.length := by omega
   rw [zaS (Nat.le_refl _)] at hg
   refine z7 ?_
   refine zag ?_
   refine zaY ?_
   refine zT ?_
   refine zk ?_
   refine za ?_
   refine das rfl ?_
   refine dn ?_
   refine zp ?_
   refine zI rfl ?_
   show HVal.str _ = _
   first
   | (rw [hg, if_pos (by simpa using h3)]; done)
   | (rw [hg]; rfl)

/-- benchwarmer/trade.Way$1 -/
theorem zrn [Tracks] {x : List OwnerS} {s first : Str} {b : Nat} {q : Value × List Str} {g : List (List OwnerS)} (hx : x.length ≤ 1000000) (hI : WI s first g q) (hg : g.length ≤ 1000000) : Con Tryz.prog 55 [zat x, .vptr [.str s] 0, pAt b] (WS b q) (fun r M' => ∃ q', r = .tup [] ∧ M' = WS b q' ∧ WI s first (g ++ [x]) q') := by
 obtain ⟨v, ws⟩ := q
 obtain ⟨hw1, hw2, hw3⟩ := hI
 dsimp only at hw1 hw2 hw3
 have hwl := List.length_pos_iff.2 hw2
 refine Con.of_body Tryz.func55 rfl Tryz.ntmps55 rfl rfl ?_
 refine za ?_
 refine dmv rfl ?_
 refine dq (zh ty9 rfl rfl rfl) ?_
 refine dq (zw ca53 rfl (WeakL.refl _) (zib (o := x) (s := s) hx)) ?_
 refine das rfl ?_
 refine dn ?_
 refine zP (Ghost.of_eq (M' := [.cells b [.raw v], .arr v 1 (ws.map .str)]) rfl) ?_
 refine zc6 (i := 1) rfl (fun h0 he => ?_) (fun ob off cap hv hcap => ?_)
 ·exfalso; have := congrArg List.length he; simp at this; subst this; simp at hwl
 subst hv
 refine za ?_
 refine dmv rfl ?_
 refine de rfl (zy (i := 0) zQ rfl rfl (.inl ⟨rfl, rfl⟩) ?_)
 refine de rfl (zy (i := 0) zQ rfl rfl (.inl ⟨rfl, rfl⟩) ?_)
 refine de rfl (zaA (i := 1) (es := ws) zQ rfl rfl ?_)
 refine dq (za5 rfl rfl (by omega) (by omega)) ?_
 refine dq (za1 (j := ws.length - 1) zQ ty9 rfl rfl (by omega) (by simp; omega)) ?_
 refine de rfl (za6 (i := 1) (j := ws.length - 1) (y := ws.getD (ws.length - 1) []) 0 ty9 rfl (by omega) rfl (getD_some (by omega)) rfl rfl ?_)
 refine dq (zeb rfl rfl) ?_
 refine dn ?_
 refine zl rfl (fun h1 => ?_) (fun h2 => ?_)
 ·try simp at h1
  refine zB ?_
  refine de rfl (zy (i := 0) zQ rfl rfl (.inl ⟨rfl, rfl⟩) ?_)
  refine dmv rfl ?_
  refine dq (zE (hs := [_]) zQ ty9 rfl rfl (by decide) (by decide) rfl) ?_
  refine de rfl (zay (i := 1) zQ ty9 rfl rfl rfl rfl rfl (by simp [zbi, zj]) (by simp; omega) fun v19 => ?_)
  refine de0 (zz (i := 0) zQ rfl rfl rfl rfl rfl (by simp) ?_)
  refine dn ?_
  first
  | exact zH rfl ⟨(v19, ws ++ [zaP x s]), rfl, by simp [WS, zW, zj], zna hw1 hw3 hwl (by simpa using h1)⟩
  | exact zH rfl ⟨(_, ws), rfl, rfl, zmK hw1 hw3 hwl (by simpa using h2)⟩
 ·try simp at h2
  refine zo ?_
  first
  | exact zH rfl ⟨(v19, ws ++ [zaP x s]), rfl, by simp [WS, zW, zj], zna hw1 hw3 hwl (by simpa using h1)⟩
  | exact zH rfl ⟨(_, ws), rfl, rfl, zmK hw1 hw3 hwl (by simpa using h2)⟩

set_option maxHeartbeats 2000000 in
/-- benchwarmer/trade.Way -/
theorem zm6 [Tracks] {m : MarketS} {o : List OwnerS} {l : List DealS} {a : List ReplyS} {u : Int} {s : Str}  (ht : m.Teams.length ≤ 1000000) (h0o : l ≠ [] → 0 < o.length) (ho : o.length ≤ 1000000) (hl : l.length ≤ 1000000) (hx0 : ∀ x ∈ l, x.Gives.length ≤ 1000000) (ha : a.length ≤ 1000000) : zah Tryz.prog 16 [zaC m, zcA l, .str s, zat o, zbr a, .int .i64 u] (.tup [eSs (zch m o l a u s), .int .i64 (zbl m o l a u s)]) := by
 refine Con.of_body Tryz.func16 rfl Tryz.ntmps16 rfl rfl ?_
 refine za ?_
 refine dq (zal rfl rfl) ?_
 refine dq (zal rfl rfl) ?_
 refine das rfl ?_
 refine das rfl ?_
 refine dn ?_
 refine zm ?_
 refine za ?_
 refine dq (zD zN rfl rfl rfl rfl) ?_
 refine dmv rfl ?_
 refine dmv rfl ?_
 refine dmv rfl ?_
 refine dq (zw zqb rfl (WeakL.refl _) (zfR ht ho hl hx0 ha)) ?_
 refine das rfl ?_
 refine dn ?_
 refine za ?_
 refine dmv rfl ?_
 refine dq (zbq rfl rfl) ?_
 refine dn ?_
 refine zl rfl (fun h1 => ?_) (fun h2 => ?_)
 ·try simp at h1
  refine za ?_
  refine dmv rfl ?_
  refine das rfl ?_
  refine das rfl ?_
  refine dn ?_
  refine zp ?_
  first
  | exact zbo rfl (zan (by rw [zch, if_pos (by rw [zbl, if_pos (by simpa using h1)]; simpa using h1)]; exact zak 1) (by rw [zbl, if_pos (by simpa using h1)]; exact Weak.refl _))
  | (have hz : zbl m o l a u s = 8 := by rw [zbl, if_neg (by simp [htz]), if_pos (by simpa using h3)]
     exact zbo rfl (zan (by rw [zch, hz]; exact zak 1) (by rw [hz]; exact Weak.refl _)))
  | (have hz : zbl m o l a u s = 1 := by rw [zbl, if_neg (by simp [htz]), if_neg (by simpa using h4), if_pos (by simpa using h5)]
     exact zbo rfl (zan (by rw [zch, hz]; exact zak 1) (by rw [hz]; exact Weak.refl _)))
  | (refine zbO ((Ghost.fa 12 (i := 1) rfl rfl).trans Ghost.clear) rfl ⟨?_, rfl⟩
     have hz : zbl m o l a u s = 0 := by rw [zbl, if_neg (by simp [htz]), if_neg (by simpa using h4), if_neg (by simp [hmo])]
     have hI1 : ws2 = zeM s (zaP o s) ((zdZ m o l a u).log.map (·.2)) := hI.1
     show HVal.tup _ = _
     rw [zch, hz, ← hI1]; rfl)
 ·try simp at h2
  refine zo ?_
  refine zk ?_
  refine za ?_
  refine dmv rfl ?_
  refine dq (zh ty9 rfl rfl rfl) ?_
  refine dq (zw ca53 rfl (WeakL.refl _) (zib (o := o) (s := s) ho)) ?_
  refine das rfl ?_
  refine dn ?_
  refine zm ?_
  refine zu ?_
  have htz : za0 m o l a = 0 := by simpa using h2
  have tk := zdV htz
  refine za ?_
  refine dmv rfl ?_
  refine dq (zbs rfl rfl) ?_
  refine das rfl ?_
  refine dn ?_
  refine zl rfl (fun h3 => ?_) (fun h4 => ?_)
  ·try simp at h3
   refine za ?_
   refine das rfl ?_
   refine das rfl ?_
   refine dn ?_
   refine zp ?_
   first
   | exact zbo rfl (zan (by rw [zch, if_pos (by rw [zbl, if_pos (by simpa using h1)]; simpa using h1)]; exact zak 1) (by rw [zbl, if_pos (by simpa using h1)]; exact Weak.refl _))
   | (have hz : zbl m o l a u s = 8 := by rw [zbl, if_neg (by simp [htz]), if_pos (by simpa using h3)]
      exact zbo rfl (zan (by rw [zch, hz]; exact zak 1) (by rw [hz]; exact Weak.refl _)))
   | (have hz : zbl m o l a u s = 1 := by rw [zbl, if_neg (by simp [htz]), if_neg (by simpa using h4), if_pos (by simpa using h5)]
      exact zbo rfl (zan (by rw [zch, hz]; exact zak 1) (by rw [hz]; exact Weak.refl _)))
   | (refine zbO ((Ghost.fa 12 (i := 1) rfl rfl).trans Ghost.clear) rfl ⟨?_, rfl⟩
      have hz : zbl m o l a u s = 0 := by rw [zbl, if_neg (by simp [htz]), if_neg (by simpa using h4), if_neg (by simp [hmo])]
      have hI1 : ws2 = zeM s (zaP o s) ((zdZ m o l a u).log.map (·.2)) := hI.1
      show HVal.tup _ = _
      rw [zch, hz, ← hI1]; rfl)
  ·try simp at h4
   refine za ?_
   refine dmv rfl ?_
   refine dq (zw znY rfl (WeakL.refl _) zeB) ?_
   refine dq (zam rfl) ?_
   refine das rfl ?_
   refine dn ?_
   refine zl rfl (fun h5 => ?_) (fun h6 => ?_)
   ·try simp at h5
    refine za ?_
    refine das rfl ?_
    refine das rfl ?_
    refine dn ?_
    refine zp ?_
    first
    | exact zbo rfl (zan (by rw [zch, if_pos (by rw [zbl, if_pos (by simpa using h1)]; simpa using h1)]; exact zak 1) (by rw [zbl, if_pos (by simpa using h1)]; exact Weak.refl _))
    | (have hz : zbl m o l a u s = 8 := by rw [zbl, if_neg (by simp [htz]), if_pos (by simpa using h3)]
       exact zbo rfl (zan (by rw [zch, hz]; exact zak 1) (by rw [hz]; exact Weak.refl _)))
    | (have hz : zbl m o l a u s = 1 := by rw [zbl, if_neg (by simp [htz]), if_neg (by simpa using h4), if_pos (by simpa using h5)]
       exact zbo rfl (zan (by rw [zch, hz]; exact zak 1) (by rw [hz]; exact Weak.refl _)))
    | (refine zbO ((Ghost.fa 12 (i := 1) rfl rfl).trans Ghost.clear) rfl ⟨?_, rfl⟩
       have hz : zbl m o l a u s = 0 := by rw [zbl, if_neg (by simp [htz]), if_neg (by simpa using h4), if_neg (by simp [hmo])]
       have hI1 : ws2 = zeM s (zaP o s) ((zdZ m o l a u).log.map (·.2)) := hI.1
       show HVal.tup _ = _
       rw [zch, hz, ← hI1]; rfl)
   ·try simp at h6
    refine zo ?_
    refine zA ?_
    refine zk ?_
    have hmo : za7 u = true := by simpa using h6
    have hub := zdH hmo
    have hlis : ∀ (b : Nat) (g : List (List OwnerS)) (q : Value × List Str) (x : List OwnerS), g.length ≤ 1000000 → x.length ≤ 1000000 → WI s (zaP o s) g q → Con Tryz.prog 55 ([zat x] ++ [.vptr [.str s] 0, pAt b]) (WS b q) fun r M' => ∃ q', r = .tup [] ∧ M' = WS b q' ∧ WI s (zaP o s) (g ++ [x]) q' := fun b g q x h1 h2 h3 => zrn h2 h3 h1
    refine za ?_
    refine dmv rfl ?_
    refine de rfl (ze7 (hs := [_]) zQ ty9 rfl rfl (by decide) (by decide) rfl fun v36 => ?_)
    refine de rfl (zac zQ rfl fun b16 => ?_)
    first
    | refine de0 (zz (i := 0) zQ rfl rfl rfl rfl rfl (Nat.le_of_ble_eq_true rfl) ?_)
    | refine de0 (zz (i := 1) zQ rfl rfl rfl rfl rfl (Nat.le_of_ble_eq_true rfl) ?_)
    | refine de0 (zz (i := 2) zQ rfl rfl rfl rfl rfl (Nat.le_of_ble_eq_true rfl) ?_)
    | refine de0 (zz (i := 3) zQ rfl rfl rfl rfl rfl (Nat.le_of_ble_eq_true rfl) ?_)
    refine dn ?_
    refine za ?_
    refine dmv rfl ?_
    refine dmv rfl ?_
    refine dmv rfl ?_
    refine dmv rfl ?_
    refine dq (zda rfl rfl) ?_
    refine de rfl (zb2 (M1 := WS b16 (v36, [zaP o s])) (R := []) ca54 rfl (WeakL.refl _) (zO rfl) (zmH (S := WS b16) (I := fun g q => WI s (zaP o s) g q) (st := (v36, [zaP o s])) (lg := []) (u := u) (a := a) (l := l) (o := o) (m := m) ca55 (hlis b16) ⟨rfl, by simp, by simp⟩ ht h0o ho tk.hs (by have := tk.hl; omega) tk.hG tk.hf tk.hsa ha tk.ha0 hub tk.hwt (by simp)) ?_)
    rintro _ _ ⟨b22, E', q2, rfl, rfl, hE, hI⟩
    refine dn ?_
    refine zP (Ghost.of_eq (List.append_nil _)) ?_
    refine zP (Ghost.perm List.perm_append_comm) ?_
    obtain ⟨v2, ws2⟩ := q2
    refine za ?_
    first
    | refine de rfl (zy (i := 0) zQ rfl rfl (.inl ⟨rfl, rfl⟩) ?_)
    | refine de rfl (zy (i := 1) zQ rfl rfl (.inl ⟨rfl, rfl⟩) ?_)
    | refine de rfl (zy (i := 2) zQ rfl rfl (.inl ⟨rfl, rfl⟩) ?_)
    | refine de rfl (zy (i := 3) zQ rfl rfl (.inl ⟨rfl, rfl⟩) ?_)
    refine das rfl ?_
    refine das rfl ?_
    refine dn ?_
    refine zp ?_
    first
    | exact zbo rfl (zan (by rw [zch, if_pos (by rw [zbl, if_pos (by simpa using h1)]; simpa using h1)]; exact zak 1) (by rw [zbl, if_pos (by simpa using h1)]; exact Weak.refl _))
    | (have hz : zbl m o l a u s = 8 := by rw [zbl, if_neg (by simp [htz]), if_pos (by simpa using h3)]
       exact zbo rfl (zan (by rw [zch, hz]; exact zak 1) (by rw [hz]; exact Weak.refl _)))
    | (have hz : zbl m o l a u s = 1 := by rw [zbl, if_neg (by simp [htz]), if_neg (by simpa using h4), if_pos (by simpa using h5)]
       exact zbo rfl (zan (by rw [zch, hz]; exact zak 1) (by rw [hz]; exact Weak.refl _)))
    | (refine zbO ((Ghost.fa 12 (i := 1) rfl rfl).trans Ghost.clear) rfl ⟨?_, rfl⟩
       have hz : zbl m o l a u s = 0 := by rw [zbl, if_neg (by simp [htz]), if_neg (by simpa using h4), if_neg (by simp [hmo])]
       have hI1 : ws2 = zeM s (zaP o s) ((zdZ m o l a u).log.map (·.2)) := hI.1
       show HVal.tup _ = _
       rw [zch, hz, ← hI1]; rfl)
end
end Go.Proofs.YtpcaaekefgkhjaaGreatDoor
section
namespace Go.HL
/-! owners stay right -/
structure OwnOk (m : MarketS) (o : List OwnerS) : Prop where
 f : ∀ x ∈ o, za8 m x = 0
 fit : zfd m o = true
theorem zqX {m : MarketS} {p q : List OwnerS} {g : GiveS} (hg : zaH m g = 0) (hp : ∀ x ∈ p, za8 m x = 0) (h : zdo p g = some q) : ∀ x ∈ q, za8 m x = 0 := by
 unfold zdo at h
 split at h
 ·rename_i y hy
  split at h
  ·cases h
   intro x hx
   rcases List.mem_or_eq_of_mem_set hx with hx | hx
   ·exact hp x hx
   ·subst hx
    have h1 := hp y (List.mem_of_getElem? hy)
    unfold za8 at h1 ⊢
    dsimp only
    split at h1
    ·cases h1
    ·rename_i hk
     rw [if_neg hk]
     unfold zaH at hg
     split at hg
     ·cases hg
     split at hg
     ·cases hg
     rename_i ht
     simp only [Bool.or_eq_true, not_or] at ht
     rw [if_neg ht.2]
  ·cases h
 ·cases h
theorem zoU {m : MarketS} : ∀ (l : List GiveS) (p d : List OwnerS), (∀ g ∈ l, zaH m g = 0) → (∀ x ∈ p, za8 m x = 0) → zbw p l = some d → ∀ x ∈ d, za8 m x = 0
 | [], p, d, _, hp, h => by rw [zbw] at h; cases h; exact hp
 | g :: r, p, d, hg, hp, h => by
   rw [zbw] at h
   cases hs : zdo p g with
   | none => rw [hs] at h; cases h
   | some q => rw [hs] at h; exact zoU r q d (fun x hx => hg x (List.mem_cons_of_mem g hx)) (zqX (hg g (by simp)) hp hs) h
theorem zry {m : MarketS} {o : List OwnerS} {x : DealS} (hx : zaR m x.Gives = 0) (ho : OwnOk m o) (h : zb1 m o x.Gives = true) : OwnOk m (zb8 o x.Gives) := by
 unfold zb1 at h
 cases hd : zbw o x.Gives with
 | none => rw [hd] at h; cases h
 | some d =>
   rw [hd] at h
   unfold zb8
   rw [hd]
   exact ⟨zoU _ _ _ (zdJ hx).2.2.1 ho.f hd, h⟩
theorem zq8 {m : MarketS} {t : Int} {o : List OwnerS} {p : DD} (hx : zaR m p.1.Gives = 0) (ho : OwnOk m o) : OwnOk m (zaB m t o p).1 := by
 unfold zaB
 split
 ·split
  ·exact ho
  split
  ·rename_i h; exact zry hx ho h
  ·exact ho
 split <;> exact ho
theorem zm8 {m : MarketS} {t : Int} : ∀ (ds : List DD) (o : List OwnerS), (∀ p ∈ ds, zaR m p.1.Gives = 0) → OwnOk m o → OwnOk m (zaM m t o ds).o
 | [], _, _, ho => ho
 | p :: r, o, h, ho => by
   rw [zaM]
   exact zm8 r _ (fun q hq => h q (List.mem_cons_of_mem p hq)) (zq8 (h p (by simp)) ho)
theorem zhc {ds : List DD} {l : List DealS} (h : ds.map (·.1) = l) : ∀ p ∈ ds, p.1 ∈ l := fun p hp => by rw [← h]; exact List.mem_map_of_mem hp
theorem zge (m : MarketS) (o : List OwnerS) (l : List DealS) (a : List ReplyS) (n : Nat) : (zcj m (atL a n) ((zV m o l a n).ds.map (zbB n))).map (·.1) = l := by
 rw [zjK, zkM, zbt]
theorem zrU {m : MarketS} {o : List OwnerS} {l : List DealS} {a : List ReplyS} (hl : ∀ x ∈ l, zaR m x.Gives = 0) (ho : OwnOk m o) : ∀ n, OwnOk m (zV m o l a n).o
 | 0 => ho
 | n + 1 => by
   rw [zV, stF]
   exact zm8 _ _ (fun p hp => hl _ (zhc (zge m o l a n) p hp)) (zrU hl ho n)
structure Mono (p q : DD) : Prop where
 fst : q.1 = p.1
 nz : p.2.how ≠ 0 → q.2.how ≠ 0
 fin : 2 < p.2.how → q.2.how = p.2.how ∧ q.2.since = p.2.since
theorem Mono.refl (p : DD) : Mono p p := ⟨rfl, id, fun _ => ⟨rfl, rfl⟩⟩
theorem Mono.trans {p q r : DD} (h1 : Mono p q) (h2 : Mono q r) : Mono p r :=
 ⟨h2.fst.trans h1.fst, fun h => h2.nz (h1.nz h), fun h => by
  obtain ⟨a1, a2⟩ := h1.fin h
  obtain ⟨b1, b2⟩ := h2.fin (by omega)
  exact ⟨b1.trans a1, b2.trans a2⟩⟩
def MonoL : List DD → List DD → Prop
 | [], [] => True
 | p :: r, q :: s => Mono p q ∧ MonoL r s
 | _, _ => False
theorem MonoL.refl : ∀ l, MonoL l l
 | [] => trivial
 | p :: r => ⟨Mono.refl p, MonoL.refl r⟩
theorem MonoL.trans : ∀ {a b c : List DD}, MonoL a b → MonoL b c → MonoL a c
 | [], [], [], _, _ => trivial
 | p :: r, q :: s, x :: t, h1, h2 => ⟨h1.1.trans h2.1, MonoL.trans h1.2 h2.2⟩
 | [], _ :: _, _, h, _ => h.elim
 | _ :: _, [], _, h, _ => h.elim
 | _, [], _ :: _, _, h => h.elim
 | _, _ :: _, [], _, h => h.elim
theorem zgP {p : DD} {k t : Int} (hk : k ≠ 0) (h : p.2.how ≤ 2) : Mono p (setH p k t) := ⟨rfl, fun _ => hk, fun e => by omega⟩
theorem zps (m : MarketS) (t : Int) (o : List OwnerS) (p : DD) : Mono p (zaB m t o p).2.1 := by
 unfold zaB
 split
 ·rename_i h
  split
  ·exact zgP (by decide) (by omega)
  split
  ·exact zgP (by decide) (by omega)
  ·exact zgP (by decide) (by omega)
 split
 ·exact zgP (by decide) (by omega)
 ·exact Mono.refl p
theorem zpb (m : MarketS) (t : Int) : ∀ (l : List DD) (o : List OwnerS), MonoL l (zaM m t o l).ds
 | [], _ => trivial
 | p :: r, o => by rw [zaM]; exact ⟨zps m t o p, zpb m t r _⟩
theorem zta (s first : Str) : ∀ (lg : List (List OwnerS)), (zeM s first lg).getLast? = some (match lg.getLast? with | none => first | some o => zaP o s) := by
 intro lg
 rcases List.eq_nil_or_concat lg with rfl | ⟨g, x, rfl⟩
 ·rfl
 ·rw [List.concat_eq_append, ziT, List.getLast?_concat]
  unfold zeG
  split
  ·rename_i h; exact h
  ·rw [List.getLast?_concat]
theorem zrL (m : MarketS) (t : Int) (o : List OwnerS) (p : DD) : (zaB m t o p).1 = (match ((zaB m t o p).2.2.map (·.2)).getLast? with | none => o | some q => q) := by
 unfold zaB
 split
 ·split
  ·rfl
  split <;> rfl
 split <;> rfl
def zgT (o : List OwnerS) (lg : List (List OwnerS)) : List OwnerS := match lg.getLast? with | none => o | some q => q
theorem zlJ (o : List OwnerS) (a b : List (List OwnerS)) : zgT o (a ++ b) = zgT (zgT o a) b := by
 unfold zgT
 rw [List.getLast?_append]
 cases b.getLast? <;> rfl
theorem zoE (m : MarketS) (t : Int) : ∀ (ds : List DD) (o : List OwnerS), (zaM m t o ds).o = zgT o ((zaM m t o ds).log.map (·.2))
 | [], _ => rfl
 | p :: r, o => by
   have h1 := zrL m t o p
   have h2 := zoE m t r (zaB m t o p).1
   rw [zaM]; dsimp only
   rw [List.map_append, zlJ, h2]
   have e : zgT o ((zaB m t o p).2.2.map (·.2)) = (zaB m t o p).1 := h1.symm
   rw [e]
theorem zqG (m : MarketS) (o : List OwnerS) (l : List DealS) (a : List ReplyS) : ∀ n, (zV m o l a n).o = zgT o ((zV m o l a n).log.map (·.2))
 | 0 => rfl
 | n + 1 => by
   have ih := zqG m o l a n
   rw [zV, stF]; dsimp only
   rw [List.map_append, zlJ, ← ih, zoE]
theorem zl4 : ∀ {o : List OwnerS} {s : Str}, s ∈ o.map (·.Player) → ∃ x ∈ o, x.Player = s ∧ zaP o s = x.Team
 | [], _, h => by cases h
 | x :: r, s, h => by
   by_cases e : x.Player = s
   ·exact ⟨x, by simp, e, by rw [zaP, if_pos e]⟩
   ·have h' : s ∈ r.map (·.Player) := by
     rcases List.mem_cons.1 h with h | h
     ·exact absurd h.symm e
     ·exact h
    obtain ⟨y, h1, h2, h3⟩ := zl4 h'
    exact ⟨y, List.mem_cons_of_mem x h1, h2, by rw [zaP, if_neg e, h3]⟩
end Go.HL
namespace Go.HL
theorem zrs {m : MarketS} {o : List OwnerS} {l : List DealS} {a : List ReplyS} (n : Nat) : (zer (zV m o l a n).ds).length ≤ l.length := by
 have h1 : (zer (zV m o l a n).ds).length ≤ (zV m o l a n).ds.length := zeH zjx _
 have h2 : (zV m o l a n).ds.length = l.length := by
  have := congrArg List.length (zbt m o l a n)
  simpa using this
 omega
theorem zmD (s : Str) : ∀ (lg : List (List OwnerS)) (acc : List Str), (lg.foldl (zeG s) acc).length ≤ acc.length + lg.length
 | [], acc => Nat.le_refl _
 | x :: r, acc => by
   have h1 := zmD s r (zeG s acc x)
   have h2 : (zeG s acc x).length ≤ acc.length + 1 := by unfold zeG; split <;> simp
   rw [List.foldl_cons, List.length_cons]; omega
theorem zpG (s first : Str) (lg : List (List OwnerS)) : (zeM s first lg).length ≤ lg.length + 1 := by
 have := zmD s lg [first]
 unfold zeM
 simp only [List.length_cons, List.length_nil] at this
 omega
theorem zru {m : MarketS} {o : List OwnerS} {l : List DealS} {a : List ReplyS} {u : Int} {s : Str} : (zch m o l a u s).length ≤ l.length + 1 := by
 unfold zch
 split
 ·simp
 ·have h1 := zpG s (zaP o s) ((zdZ m o l a u).log.map (·.2))
  have h2 : (zdZ m o l a u).log.length ≤ l.length := zk1 m o l a (u + 1).toNat
  rw [List.length_map] at h1
  omega
end Go.HL
end
section
namespace Go.HL
structure DR where
 p : DD
 vy : Value
 vv : Value
structure RS where
 bf : Nat
 ms : Nat
 my : Nat
 mv : Nat
 vd : Value
 LS : List (Str × Option (List HVal))
 LY : List (Str × Value)
 LV : List (Str × Value)
 o : List OwnerS
 dn : List Str
 D : List DR
def cR (m : MarketS) (l : List DealS) (s : RS) : List HVal := [eSs m.Teams, .int .i64 m.Vetoes, .int .i64 m.Wait, .int .i64 m.Deadline, .int .i64 m.Least, .int .i64 m.Most, zcA l, zat s.o, .raw (.map (some s.ms)), .raw (.map (some s.my)), .raw (.map (some s.mv)), .raw s.vd]
def o2 (d : DR) : List MObj := [.arr d.vy 1 (d.p.2.yes.map .str), .arr d.vv 1 (d.p.2.veto.map .str)]
def flR (D : List DR) : List MObj := D.flatMap o2
def FR (m : MarketS) (l : List DealS) (s : RS) : List MObj := .cells s.bf (cR m l s) :: .map s.ms (sk (em zgi s.LS)) :: .map s.my (sk (em HVal.raw s.LY)) :: .map s.mv (sk (em HVal.raw s.LV)) :: .arr s.vd 1 (s.dn.map .str) :: flR s.D
abbrev zbY : Value := .slice none 0 0
def stO (p : DD) : Option (List HVal) := if p.2.how = 0 then none else some (zj (zbz ⟨p.1.Id, p.2.how, p.2.since⟩))
theorem zkG : ∀ {D : List DR} {k j : Nat} {d : DR}, D[k]? = some d → j < 2 → (flR D)[2 * k + j]? = (o2 d)[j]?
 | [], k, j, d, h, _ => by simp at h
 | e :: r, 0, j, d, h, hj => by
   simp at h; subst h
   show (o2 e ++ flR r)[2 * 0 + j]? = _
   rw [show 2 * 0 + j = j by omega, List.getElem?_append_left (by show j < 2; exact hj)]
 | e :: r, k + 1, j, d, h, hj => by
   simp at h
   show (o2 e ++ flR r)[2 * (k + 1) + j]? = _
   rw [List.getElem?_append_right (by show 2 ≤ _; omega), show 2 * (k + 1) + j - (o2 e).length = 2 * k + j by show 2 * (k + 1) + j - 2 = _; omega]
   exact zkG h hj
theorem zk4 : ∀ {D : List DR} {k j : Nat} {d d' : DR} {x : MObj}, D[k]? = some d → j < 2 → (o2 d).set j x = o2 d' → (flR D).set (2 * k + j) x = flR (D.set k d')
 | [], k, j, d, d', x, h, _, _ => by simp at h
 | e :: r, 0, j, d, d', x, h, hj, hx => by
   simp at h; subst h
   show (o2 e ++ flR r).set (2 * 0 + j) x = o2 d' ++ flR r
   rw [show 2 * 0 + j = j by omega, List.set_append_left _ _ (by show j < 2; exact hj), hx]
 | e :: r, k + 1, j, d, d', x, h, hj, hx => by
   simp at h
   show (o2 e ++ flR r).set (2 * (k + 1) + j) x = o2 e ++ flR (r.set k d')
   rw [List.set_append_right _ _ (by show 2 ≤ _; omega), show 2 * (k + 1) + j - (o2 e).length = 2 * k + j by show 2 * (k + 1) + j - 2 = _; omega, zk4 h hj hx]
theorem zmF : ∀ {D : List DR} {k : Nat} {d d' : DR}, D[k]? = some d → o2 d' = o2 d → flR (D.set k d') = flR D
 | [], k, d, d', h, _ => by simp at h
 | e :: r, 0, d, d', h, hx => by
   simp at h; subst h
   show o2 d' ++ flR r = o2 e ++ flR r
   rw [hx]
 | e :: r, k + 1, d, d', h, hx => by
   simp at h
   show o2 e ++ flR (r.set k d') = o2 e ++ flR r
   rw [zmF h hx]
section
variable {m : MarketS} {l : List DealS} {s : RS} {k : Nat} {d : DR}
theorem ziO (h : s.D[k]? = some d) : (FR m l s)[2 * k + 5]? = some (.arr d.vy 1 (d.p.2.yes.map .str)) := zkG h (j := 0) (by omega)
theorem zkT (h : s.D[k]? = some d) : (FR m l s)[2 * k + 6]? = some (.arr d.vv 1 (d.p.2.veto.map .str)) := zkG h (j := 1) (by omega)
def rLS (s : RS) (L : List (Str × Option (List HVal))) : RS := { s with LS := L }
def rY (s : RS) (L : List (Str × Value)) (k : Nat) (d : DR) : RS := { s with LY := L, D := s.D.set k d }
def rV (s : RS) (L : List (Str × Value)) (k : Nat) (d : DR) : RS := { s with LV := L, D := s.D.set k d }
def rSt (s : RS) (L : List (Str × Option (List HVal))) (k : Nat) (d : DR) : RS := { s with LS := L, D := s.D.set k d }
def yD (d : DR) (v : Value) (w : List Str) : DR := ⟨(d.p.1, { d.p.2 with yes := w }), v, d.vv⟩
def vD (d : DR) (v : Value) (w : List Str) : DR := ⟨(d.p.1, { d.p.2 with veto := w }), d.vy, v⟩
def hD (d : DR) (how t : Int) : DR := ⟨setH d.p how t, d.vy, d.vv⟩
theorem zqp {v : Value} {w : List Str} {L : List (Str × Value)} (h : s.D[k]? = some d) : ((FR m l s).set (2 * k + 5) (.arr v 1 (w.map .str))).set 2 (.map s.my (sk (em HVal.raw L))) = FR m l (rY s L k (yD d v w)) := by
 have e : (flR s.D).set (2 * k + 0) (.arr v 1 (w.map .str)) = flR (s.D.set k (yD d v w)) := zk4 h (by omega) rfl
 show _ :: _ :: _ :: _ :: _ :: (flR s.D).set (2 * k) (.arr v 1 (w.map .str)) = _ :: _ :: _ :: _ :: _ :: flR (s.D.set k (yD d v w))
 rw [← e]; rfl
theorem zsZ {v : Value} {w : List Str} {L : List (Str × Value)} (h : s.D[k]? = some d) : ((FR m l s).set (2 * k + 6) (.arr v 1 (w.map .str))).set 3 (.map s.mv (sk (em HVal.raw L))) = FR m l (rV s L k (vD d v w)) := by
 have e : (flR s.D).set (2 * k + 1) (.arr v 1 (w.map .str)) = flR (s.D.set k (vD d v w)) := zk4 h (by omega) rfl
 show _ :: _ :: _ :: _ :: _ :: (flR s.D).set (2 * k + 1) (.arr v 1 (w.map .str)) = _ :: _ :: _ :: _ :: _ :: flR (s.D.set k (vD d v w))
 rw [← e]; rfl
/-- How an offer stands is said in the record alone. -/
theorem zaW {L : List (Str × Option (List HVal))} {how t : Int} (h : s.D[k]? = some d) : FR m l (rLS s L) = FR m l (rSt s L k (hD d how t)) := by
 have e : flR (s.D.set k (hD d how t)) = flR s.D := zmF h rfl
 show _ :: _ :: _ :: _ :: _ :: flR s.D = _ :: _ :: _ :: _ :: _ :: flR (s.D.set k (hD d how t))
 rw [e]; rfl
end
structure RI (l : List DealS) (s : RS) : Prop where
 fst : s.D.map (·.p.1) = l
 nd : (l.map (·.Id)).Nodup
 st : ∀ d ∈ s.D, (alk d.p.1.Id s.LS).getD none = stO d.p
 ye : ∀ d ∈ s.D, (alk d.p.1.Id s.LY).getD zbY = d.vy
 ve : ∀ d ∈ s.D, (alk d.p.1.Id s.LV).getD zbY = d.vv
 out : ∀ id : Str, (∀ x ∈ l, x.Id ≠ id) → (alk id s.LS).getD none = none
theorem RI.at' {l : List DealS} {s : RS} (h : RI l s) {k : Nat} {d : DR} (hd : s.D[k]? = some d) : l[k]? = some d.p.1 := by rw [← h.fst, List.getElem?_map, hd]; rfl
theorem RI.ne {l : List DealS} {s : RS} (h : RI l s) {k j : Nat} {d x : DR} (hd : s.D[k]? = some d) (hx : s.D[j]? = some x) (hj : k ≠ j) : x.p.1.Id ≠ d.p.1.Id := fun e => by
 have h1 : (l.map (·.Id))[k]? = some d.p.1.Id := by rw [List.getElem?_map, h.at' hd]; rfl
 have h2 : (l.map (·.Id))[j]? = some d.p.1.Id := by rw [List.getElem?_map, h.at' hx, ← e]; rfl
 exact hj (zpC h.nd h1 h2)
/-- One record changes, under its own key. -/
theorem RI.upd {l : List DealS} {s s' : RS} (h : RI l s) {k : Nat} {d d' : DR} (hd : s.D[k]? = some d) (hD : s'.D = s.D.set k d') (hf : d'.p.1 = d.p.1)
 (hS : ∀ id : Str, id ≠ d.p.1.Id → alk id s'.LS = alk id s.LS) (hY : ∀ id : Str, id ≠ d.p.1.Id → alk id s'.LY = alk id s.LY) (hV : ∀ id : Str, id ≠ d.p.1.Id → alk id s'.LV = alk id s.LV)
 (h1 : (alk d.p.1.Id s'.LS).getD none = stO d'.p) (h2 : (alk d.p.1.Id s'.LY).getD zbY = d'.vy) (h3 : (alk d.p.1.Id s'.LV).getD zbY = d'.vv) : RI l s' := by
 have key : ∀ x ∈ s'.D, x = d' ∨ (x ∈ s.D ∧ x.p.1.Id ≠ d.p.1.Id) := fun x hx => by
  rw [hD] at hx
  obtain ⟨j, hj⟩ := List.mem_iff_getElem?.1 hx
  by_cases e : k = j
  ·subst e
   rw [List.getElem?_set_self (zM hd)] at hj
   exact .inl (Option.some.inj hj).symm
  ·rw [List.getElem?_set_ne e] at hj
   exact .inr ⟨List.mem_of_getElem? hj, h.ne hd hj e⟩
 have hm : d.p.1 ∈ l := List.mem_of_getElem? (h.at' hd)
 refine ⟨?_, h.nd, fun x hx => ?_, fun x hx => ?_, fun x hx => ?_, fun id hid => ?_⟩
 ·rw [hD, List.map_set, hf]
  have := h.fst
  refine Eq.trans ?_ this
  refine List.ext_getElem? fun j => ?_
  by_cases e : k = j
  ·subst e; rw [List.getElem?_set_self (by simpa using zM hd), List.getElem?_map, hd]; rfl
  ·rw [List.getElem?_set_ne e]
 ·rcases key x hx with rfl | ⟨h4, h5⟩
  ·rw [hf]; exact h1
  ·rw [hS _ h5]; exact h.st x h4
 ·rcases key x hx with rfl | ⟨h4, h5⟩
  ·rw [hf]; exact h2
  ·rw [hY _ h5]; exact h.ye x h4
 ·rcases key x hx with rfl | ⟨h4, h5⟩
  ·rw [hf]; exact h3
  ·rw [hV _ h5]; exact h.ve x h4
 ·rw [hS id fun e => hid _ hm e.symm]; exact h.out id hid
theorem zhP {α : Type} {x y : Str} {v : α} {L : List (Str × α)} (h : y ≠ x) : alk y (zaz x v L) = alk y L := by rw [zhg, if_neg h]
theorem zfb {α : Type} {x : Str} {v : α} {L : List (Str × α)} : alk x (zaz x v L) = some v := by rw [zhg, if_pos rfl]
theorem RI.setSt {l : List DealS} {s : RS} (h : RI l s) {k : Nat} {d : DR} {how t : Int} (hd : s.D[k]? = some d) (hh : how ≠ 0) : RI l (rSt s (zaz d.p.1.Id (some (zj (zbz ⟨d.p.1.Id, how, t⟩))) s.LS) k (hD d how t)) := by
 have hm := List.mem_of_getElem? hd
 refine h.upd hd rfl rfl (fun id e => zhP e) (fun id e => rfl) (fun id e => rfl) ?_ (h.ye d hm) (h.ve d hm)
 show (alk d.p.1.Id (zaz d.p.1.Id _ s.LS)).getD none = _
 rw [zfb]
 unfold stO
 rw [if_neg (show ¬ (hD d how t).p.2.how = 0 from hh)]; rfl
theorem RI.setY {l : List DealS} {s : RS} (h : RI l s) {k : Nat} {d : DR} {v : Value} {w : List Str} (hd : s.D[k]? = some d) : RI l (rY s (zaz d.p.1.Id v s.LY) k (yD d v w)) := by
 have hm := List.mem_of_getElem? hd
 refine h.upd hd rfl rfl (fun id e => rfl) (fun id e => zhP e) (fun id e => rfl) (h.st d hm) ?_ (h.ve d hm)
 show (alk d.p.1.Id (zaz d.p.1.Id v s.LY)).getD zbY = v
 rw [zfb]; rfl
theorem RI.setV {l : List DealS} {s : RS} (h : RI l s) {k : Nat} {d : DR} {v : Value} {w : List Str} (hd : s.D[k]? = some d) : RI l (rV s (zaz d.p.1.Id v s.LV) k (vD d v w)) := by
 have hm := List.mem_of_getElem? hd
 refine h.upd hd rfl rfl (fun id e => rfl) (fun id e => rfl) (fun id e => zhP e) (h.st d hm) (h.ye d hm) ?_
 show (alk d.p.1.Id (zaz d.p.1.Id v s.LV)).getD zbY = v
 rw [zfb]; rfl
/-- A region in which three effects are ready. -/
theorem ahe3 [Tracks] {P : Program} {ops : Array Oper} {n : Nat} {S : List MObj → Prop} {ld : List Nat} {K : Env → List MObj → Prop} {fuel : Nat} {listed : Array Bool} {e : Env} {M : List MObj} (i i' i'' : Nat) {o o' o'' : Oper} (hi : ops[i]? = some o) (hi' : ops[i']? = some o') (hi'' : ops[i'']? = some o'') (hr : Region.ready .any ops listed = [i, i', i''])
 (k : HOp P ops n o e M fun e' M' => (S M → S M' ∨ zaq ld o) ∧ HAny P ops n S ld K fuel (listed.setIfInBounds i true) e' M')
 (k' : HOp P ops n o' e M fun e' M' => (S M → S M' ∨ zaq ld o') ∧ HAny P ops n S ld K fuel (listed.setIfInBounds i' true) e' M')
 (k'' : HOp P ops n o'' e M fun e' M' => (S M → S M' ∨ zaq ld o'') ∧ HAny P ops n S ld K fuel (listed.setIfInBounds i'' true) e' M') : HAny P ops n S ld K (fuel + 1) listed e M :=
 ⟨fun h => (by rw [hr] at h; cases h), fun j hj q hq => by
  rw [hr] at hj; simp at hj
  rcases hj with rfl | rfl | rfl
  ·rw [hi] at hq; cases hq; exact k
  ·rw [hi'] at hq; cases hq; exact k'
  ·rw [hi''] at hq; cases hq; exact k''⟩
theorem znn {α : Type} {p : α → Bool} : ∀ {l : List α} {k : Nat} {x : α} {b : Int}, l[k]? = some x → p x = true → (∀ (j : Nat) (z : α), j < k → l[j]? = some z → p z = false) → za4 p l b = b + k
 | [], k, x, b, h, _, _ => by simp at h
 | y :: r, 0, x, b, h, hp, _ => by
   simp at h; subst h
   rw [za4, if_pos hp]; simp
 | y :: r, k + 1, x, b, h, hp, hl => by
   simp at h
   rw [za4, if_neg (by rw [hl 0 y (by omega) rfl]; simp), znn (b := b + 1) h hp fun j z hj hz => hl (j + 1) z (by omega) (by simpa using hz)]
   omega
end Go.HL
namespace Go.HL
/-! what the reference's answer does to a record -/
section
variable {m : MarketS} {a : ReplyS} {p : DD}
theorem zfH (h : 2 < p.2.how) : zbe m a p = p := by unfold zbe; rw [if_pos ⟨by omega, by omega⟩]
theorem zi3 {s : Str} {w : List Str} (h : w.contains s = false) : zaX s w = w ++ [s] := by unfold zaX; rw [h]; rfl
theorem znG {s : Str} {w : List Str} (h : w.contains s = true) : zaX s w = w := by unfold zaX; rw [h]; rfl
theorem ze1 (h0 : ¬ (p.2.how ≠ 1 ∧ p.2.how ≠ 2)) (hy : p.2.how = 1 → p.2.yes.length ≠ (zaV p.1.Gives).length) (hv : p.2.how = 2 → (p.2.veto.length : Int) ≠ m.Vetoes)
 (h1 : ¬ (a.Kind = 1 ∧ (zaV p.1.Gives).contains a.Team = true ∧ p.2.how = 1 ∧ p.2.yes.contains a.Team = false)) (h2 : ¬ (a.Kind = 2 ∧ (zaV p.1.Gives).contains a.Team = true)) (h3 : ¬ (a.Kind = 4 ∧ a.Team = p.1.By))
 (h4 : ¬ (a.Kind = 3 ∧ (zaV p.1.Gives).contains a.Team = false ∧ p.2.how = 2 ∧ p.2.veto.contains a.Team = false)) : zbe m a p = p := by
 unfold zbe
 rw [if_neg h0]
 by_cases c1 : a.Kind = 1 ∧ (zaV p.1.Gives).contains a.Team = true ∧ p.2.how = 1
 ·have hc : p.2.yes.contains a.Team = true := by
   cases hq : p.2.yes.contains a.Team with
   | true => rfl
   | false => exact absurd ⟨c1.1, c1.2.1, c1.2.2, hq⟩ h1
  rw [if_pos c1, znG hc, if_neg (by have := hy c1.2.2; omega)]
 ·rw [if_neg c1, if_neg h2, if_neg h3]
  by_cases c4 : a.Kind = 3 ∧ (zaV p.1.Gives).contains a.Team = false ∧ p.2.how = 2
  ·have hc : p.2.veto.contains a.Team = true := by
    cases hq : p.2.veto.contains a.Team with
    | true => rfl
    | false => exact absurd ⟨c4.1, c4.2.1, c4.2.2, hq⟩ h4
   rw [if_pos c4, znG hc, if_neg (hv c4.2.2)]
  ·rw [if_neg c4]
theorem zcW (h0 : ¬ (p.2.how ≠ 1 ∧ p.2.how ≠ 2)) (h1 : a.Kind = 1 ∧ (zaV p.1.Gives).contains a.Team = true ∧ p.2.how = 1) (hc : p.2.yes.contains a.Team = false) :
 (((p.2.yes ++ [a.Team]).length : Int) = (zaV p.1.Gives).length → zbe m a p = (p.1, ⟨2, a.At, p.2.yes ++ [a.Team], p.2.veto⟩)) ∧ (¬ ((p.2.yes ++ [a.Team]).length : Int) = (zaV p.1.Gives).length → zbe m a p = (p.1, ⟨p.2.how, p.2.since, p.2.yes ++ [a.Team], p.2.veto⟩)) := by
 refine ⟨fun h => ?_, fun h => ?_⟩
 ·unfold zbe; rw [if_neg h0, if_pos h1, zi3 hc, if_pos h]
 ·unfold zbe; rw [if_neg h0, if_pos h1, zi3 hc, if_neg h]
theorem zgW (h0 : ¬ (p.2.how ≠ 1 ∧ p.2.how ≠ 2)) (h2 : a.Kind = 2 ∧ (zaV p.1.Gives).contains a.Team = true) : zbe m a p = setH p 4 a.At := by
 unfold zbe; rw [if_neg h0, if_neg (by omega), if_pos h2]
theorem zeS (h0 : ¬ (p.2.how ≠ 1 ∧ p.2.how ≠ 2)) (h3 : a.Kind = 4 ∧ a.Team = p.1.By) : zbe m a p = setH p 5 a.At := by
 unfold zbe; rw [if_neg h0, if_neg (by omega), if_neg (by omega), if_pos h3]
theorem zcq (h0 : ¬ (p.2.how ≠ 1 ∧ p.2.how ≠ 2)) (h4 : a.Kind = 3 ∧ (zaV p.1.Gives).contains a.Team = false ∧ p.2.how = 2) (hc : p.2.veto.contains a.Team = false) :
 (((p.2.veto ++ [a.Team]).length : Int) = m.Vetoes → zbe m a p = (p.1, ⟨6, a.At, p.2.yes, p.2.veto ++ [a.Team]⟩)) ∧ (¬ ((p.2.veto ++ [a.Team]).length : Int) = m.Vetoes → zbe m a p = (p.1, ⟨p.2.how, p.2.since, p.2.yes, p.2.veto ++ [a.Team]⟩)) := by
 refine ⟨fun h => ?_, fun h => ?_⟩
 ·unfold zbe; rw [if_neg h0, if_neg (by omega), if_neg (by omega), if_neg (by omega), if_pos h4, zi3 hc, if_pos h]
 ·unfold zbe; rw [if_neg h0, if_neg (by omega), if_neg (by omega), if_neg (by omega), if_pos h4, zi3 hc, if_neg h]
end
end Go.HL
namespace Go.HL
theorem zau {D : List DR} {k : Nat} {d d' : DR} {q : DD} (h : D[k]? = some d) (hq : q = d'.p) : (D.set k d').map (·.p) = (D.map (·.p)).set k q := by
 rw [List.map_set, hq]
theorem zbV {D : List DR} {k : Nat} {d d1 d' : DR} {q : DD} (h : D[k]? = some d) (hq : q = d'.p) : ((D.set k d1).set k d').map (·.p) = (D.map (·.p)).set k q := by
 rw [List.set_set]; exact zau h hq
theorem zbg {D : List DR} {k : Nat} {d : DR} {q : DD} (h : D[k]? = some d) (hq : q = d.p) : D.map (·.p) = (D.map (·.p)).set k q := by
 rw [hq]
 refine List.ext_getElem? fun j => ?_
 by_cases e : k = j
 ·subst e; rw [List.getElem?_set_self (by simpa using zM h), List.getElem?_map, h]; rfl
 ·rw [List.getElem?_set_ne e]
end Go.HL
end
namespace Go.Proofs.YtpcaaekefgkhjaaGreatDoor
set_option maxRecDepth 100000
set_option linter.unusedVariables false
set_option linter.unusedSimpArgs false
section
open Go.HL
/-- slices.IndexFunc[[]benchwarmer/api.Offer,benchwarmer/api.Offer] -/
theorem zd1 [Tracks] {l : List DealS} {fid : FuncId} {caps : List HVal} {p : DealS → Bool} (hca : Callable Tryz.prog fid) (hp : ∀ x, zah Tryz.prog fid ([zdr x] ++ caps) (.bool (p x))) (hl : l.length ≤ 1000000) : zah Tryz.prog 141 [.slice 5 (l.map zdr), .fn (.func fid) [] caps] (.int .i64 (za4 p l 0)) := by
 refine Con.of_body Tryz.func141 rfl Tryz.ntmps141 rfl rfl ?_
 refine za ?_
 refine das rfl ?_
 refine dn ?_
 refine zm ?_
 refine za ?_
 refine dmv rfl ?_
 refine dq (zR zbv rfl) ?_
 refine dmv rfl ?_
 refine dn ?_
 refine zu ?_
 refine zaJ [4, 5, 8, 9, 10, 11, 12, 13, 14, 15, 16, 17, 18] (fun (k : Nat) => [(8, .int .i64 k)]) (fun (k : Nat) => []) (fun (k : Nat) => k ≤ l.length ∧ (za4 p l 0 = za4 p (l.drop k) k)) (fun (k : Nat) => l.length - k) (0) ?_ ?_ ?_ ?_
 ·exact ⟨Nat.zero_le _, rfl⟩
 ·exact ⟨rfl, trivial⟩
 ·exact List.Perm.refl _
 ·intro k hinv
  obtain ⟨hk, hg⟩ := hinv
  refine za ?_
  refine dq (zY rfl rfl) ?_
  refine dn ?_
  refine zm ?_
  refine zl rfl (fun h1 => ?_) (fun h2 => ?_)
  ·try simp at h1
   obtain ⟨x, hx⟩ : ∃ x, l[k]? = some x := ⟨_, List.getElem?_eq_getElem h1⟩
   have hdx := zU hx
   rw [hdx] at hg
   refine zo ?_
   refine zk ?_
   refine zm ?_
   refine zu ?_
   refine za ?_
   refine dmv rfl ?_
   refine das rfl ?_
   refine dn ?_
   refine za ?_
   refine dmv rfl ?_
   refine dmv rfl ?_
   refine dmv rfl ?_
   refine dq (zZ zbv zJ rfl rfl rfl (by first | assumption | simp_all)) ?_
   refine dq (zD zJ rfl rfl rfl rfl) ?_
   refine dq (zdI hca rfl rfl (WeakL.refl _) (hp _)) ?_
   refine dn ?_
   refine zl rfl (fun h3 => ?_) (fun h4 => ?_)
   ·try simp at h3
    refine za ?_
    refine dmv rfl ?_
    refine das rfl ?_
    refine dn ?_
    refine zp ?_
    refine zI rfl ?_
    show HVal.int .i64 _ = _
    first | (rw [hg]; rfl) | (rw [hg]; simp_all [za4])
   ·try simp at h4
    refine zo ?_
    refine zA ?_
    refine zk ?_
    refine zB ?_
    refine dq (zC rfl rfl (by omega) (by omega)) ?_
    refine dmv rfl ?_
    refine dn ?_
    refine ⟨k + 1, ?_, ?_, ⟨rfl, trivial⟩, (by repeat (first | exact zq | refine zx rfl ?_ | refine zt rfl rfl ?_)), List.Perm.refl _⟩
    ·refine ⟨by omega, ?_⟩
     rw [hg, za4, if_neg (by simp_all)]; rfl
    ·dsimp only; omega
  ·try simp at h2
   have hnk : l.length ≤ k := by omega
   obtain rfl : k = l.length := by omega
   rw [zaS (Nat.le_refl _)] at hg
   refine z7 ?_
   refine zag ?_
   refine zaY ?_
   refine zT ?_
   refine zk ?_
   refine za ?_
   refine das rfl ?_
   refine dn ?_
   refine zp ?_
   refine zI rfl ?_
   show HVal.int .i64 _ = _
   first | (rw [hg]; rfl) | (rw [hg]; simp_all [za4])

/-- (*benchwarmer/benchref1.follow).set -/
theorem zdm [Tracks] {m : MarketS} {l : List DealS} {s : RS} {id : Str} {how t : Int}  : Con Tryz.prog 93 [pAt s.bf, .str id, .int .i64 how, .int .i64 t] (FR m l s) (fun x M' => x = .tup [] ∧ M' = FR m l (rLS s (zaz id (some (zj (zbz ⟨id, how, t⟩))) s.LS))) := by
 refine Con.of_body Tryz.func93 rfl Tryz.ntmps93 rfl rfl ?_
 refine zB ?_
 refine dmv rfl ?_
 refine dq ((by first | exact zn rfl | exact zg rfl)) ?_
 refine dq (zb zbj rfl zcx (by decide) rfl) ?_
 refine de rfl (zy (i := 0) zcx rfl rfl (.inl ⟨rfl, rfl⟩) ?_)
 refine dmv rfl ?_
 refine dmv rfl ?_
 refine dmv rfl ?_
 refine dmv rfl ?_
 refine dq (zaG (cs := [_, _, _]) zcg pl59 rfl) ?_
 refine dq (zal rfl rfl) ?_
 refine de0 (zfB (i := 1) (f := zgi) (L := s.LS) (v := some (zj (zbz ⟨id, how, t⟩))) zcx ty9 rfl rfl rfl rfl ?_)
 refine dn ?_
 exact zH rfl ⟨rfl, rfl⟩

/-- (*benchwarmer/benchref1.follow).answer$1 -/
theorem zkY [Tracks] {x : DealS} {a : ReplyS}  : zah Tryz.prog 142 [zdr x, .vptr (zj (zbA a)) 0] (.bool (x.Id == a.Offer)) := by
 refine Con.of_body Tryz.func142 rfl Tryz.ntmps142 rfl rfl ?_
 refine za ?_
 refine dq (zal rfl rfl) ?_
 refine das rfl ?_
 refine dn ?_
 refine za ?_
 refine dq (zd zJ rfl ty9 (by decide) rfl) ?_
 refine dq (zh ty9 rfl rfl rfl) ?_
 refine dq (zd zS rfl ty9 (by decide) rfl) ?_
 refine dq (zh ty9 rfl rfl rfl) ?_
 refine dq (zbs rfl rfl) ?_
 refine das rfl ?_
 refine dn ?_
 refine zp ?_
 refine zI rfl ?_
 rfl

/-- (*benchwarmer/benchref1.follow).answer -/
theorem zha [Tracks] {m : MarketS} {l : List DealS} {s : RS} {a : ReplyS} (hn : (alk a.Offer s.LS).getD none = none) : Con Tryz.prog 94 [pAt s.bf, zbA a] (FR m l s) (fun x M' => x = .tup [] ∧ M' = (FR m l s)) := by
 refine Con.of_body Tryz.func94 rfl Tryz.ntmps94 rfl rfl ?_
 refine za ?_
 refine dq (zal rfl rfl) ?_
 refine dn ?_
 refine zar (fun M => M = (FR m l s)) [3, 6] mixed ?_
 refine ahp 0 rfl rfl (by kernel_rfl) (by kernel_rfl) (zf rfl) ?_
 refine ahp 1 rfl rfl (by kernel_rfl) (by kernel_rfl) ((by first | exact zn rfl | exact zg rfl)) ?_
 refine ahp 2 rfl rfl (by kernel_rfl) (by kernel_rfl) (zb zbj rfl zcx (by decide) rfl) ?_
 refine ahl 3 rfl rfl (by kernel_rfl) (by kernel_rfl) (by simp) rfl (fun M hM => by subst hM; exact zy (i := 0) zcx rfl rfl (.inl ⟨rfl, rfl⟩) ⟨rfl, rfl⟩) ?_
 refine ahp 4 rfl rfl (by kernel_rfl) (by kernel_rfl) ((by first | exact zd zS rfl ty9 (by decide) rfl | exact zb zS rfl ty9 (by decide) rfl)) ?_
 refine ahp 5 rfl rfl (by kernel_rfl) (by kernel_rfl) (zh ty9 rfl rfl rfl) ?_
 refine ahl 6 rfl rfl (by kernel_rfl) (by kernel_rfl) (by simp) rfl (fun M hM => by subst hM; exact zbP (i := 1) (f := zgi) (L := s.LS) (z0 := none) zcx ty9 zeE rfl rfl rfl rfl ⟨(by rw [hn]), rfl⟩) ?_
 refine ahp 7 rfl rfl (by kernel_rfl) (by kernel_rfl) (z8 rfl) ?_
 refine ahz (by kernel_rfl) ?_
 refine zm ?_
 refine za ?_
 refine dmv rfl ?_
 refine dq (zf5 (o := none) zeE rfl rfl) ?_
 refine dmv rfl ?_
 refine dg rfl rfl (fun hc => ⟨_, OpenTo.refl _, zf rfl⟩) ?_
 refine dg (h := .raw (.pointer none)) rfl rfl (fun hc => absurd hc (by simp)) ?_
 refine dg (h := .raw (.pointer none)) rfl rfl (fun hc => absurd hc (by simp)) ?_
 refine dgl (h := .int .i64 0) rfl rfl (fun hc => absurd hc (by simp)) ?_
 refine dg rfl rfl (fun hc => ⟨_, OpenTo.upd (t := 20) rfl (by first | exact hc | simp_all) (OpenTo.refl _), zaT rfl rfl⟩) ?_
 refine dq (zG rfl (.inl rfl) (.inr ⟨_, rfl, fun h => by simp_all⟩)) ?_
 refine dn ?_
 refine zl rfl (fun h1 => ?_) (fun h1 => ?_)
 ·try simp at h1
  refine zp ?_
  exact zaQ rfl ⟨rfl, rfl⟩
 ·exfalso
  try simp at h1
  done

set_option maxHeartbeats 8000000 in
/-- (*benchwarmer/benchref1.follow).answer -/
theorem zk7 [Tracks] {m : MarketS} {l : List DealS} {s : RS} {a : ReplyS} {k0 : Nat} {d0 : DR} (hI : RI l s) (hk0 : s.D[k0]? = some d0) (hid : d0.p.1.Id = a.Offer) (hlt : ∀ (j : Nat) (z : DealS), j < k0 → l[j]? = some z → z.Id ≠ a.Offer) (hG : d0.p.1.Gives.length ≤ 1000) (hyl : d0.p.2.yes.length ≤ 1000000) (hvl : d0.p.2.veto.length ≤ 1000000) (hh : 1 ≤ d0.p.2.how) (hyn : d0.p.2.how = 1 → d0.p.2.yes.length ≠ (zaV d0.p.1.Gives).length) (hvn : d0.p.2.how = 2 → (d0.p.2.veto.length : Int) ≠ m.Vetoes) (hl : l.length ≤ 1000000) : Con Tryz.prog 94 [pAt s.bf, zbA a] (FR m l s) (fun x M' => ∃ s', x = .tup [] ∧ M' = FR m l s' ∧ RI l s' ∧ s'.D.map (·.p) = (s.D.map (·.p)).set k0 (zbe m a d0.p) ∧ s'.o = s.o ∧ s'.dn = s.dn ∧ s'.bf = s.bf) := by
 have hst : (alk a.Offer s.LS).getD none = some (zj (zbz ⟨d0.p.1.Id, d0.p.2.how, d0.p.2.since⟩)) := by rw [← hid, hI.st d0 (List.mem_of_getElem? hk0)]; unfold stO; rw [if_neg (by omega)]
 have hye : (alk d0.p.1.Id s.LY).getD zbY = d0.vy := hI.ye d0 (List.mem_of_getElem? hk0)
 have hve : (alk d0.p.1.Id s.LV).getD zbY = d0.vv := hI.ve d0 (List.mem_of_getElem? hk0)
 have hix : za4 (fun y : DealS => y.Id == a.Offer) l 0 = 0 + (k0 : Int) := znn (hI.at' hk0) (by simpa using hid) (fun j z hj hz => by simpa using hlt j z hj hz)
 rw [Int.zero_add] at hix
 have hcl := zdn d0.p.1.Gives
 refine Con.of_body Tryz.func94 rfl Tryz.ntmps94 rfl rfl ?_
 refine za ?_
 refine dq (zal rfl rfl) ?_
 refine dn ?_
 refine zar (fun M => M = (FR m l s)) [3, 6] mixed ?_
 refine ahp 0 rfl rfl (by kernel_rfl) (by kernel_rfl) (zf rfl) ?_
 refine ahp 1 rfl rfl (by kernel_rfl) (by kernel_rfl) ((by first | exact zn rfl | exact zg rfl)) ?_
 refine ahp 2 rfl rfl (by kernel_rfl) (by kernel_rfl) (zb zbj rfl zcx (by decide) rfl) ?_
 refine ahl 3 rfl rfl (by kernel_rfl) (by kernel_rfl) (by simp) rfl (fun M hM => by subst hM; exact zy (i := 0) zcx rfl rfl (.inl ⟨rfl, rfl⟩) ⟨rfl, rfl⟩) ?_
 refine ahp 4 rfl rfl (by kernel_rfl) (by kernel_rfl) ((by first | exact zd zS rfl ty9 (by decide) rfl | exact zb zS rfl ty9 (by decide) rfl)) ?_
 refine ahp 5 rfl rfl (by kernel_rfl) (by kernel_rfl) (zh ty9 rfl rfl rfl) ?_
 refine ahl 6 rfl rfl (by kernel_rfl) (by kernel_rfl) (by simp) rfl (fun M hM => by subst hM; exact zbP (i := 1) (f := zgi) (L := s.LS) (z0 := none) zcx ty9 zeE rfl rfl rfl rfl ⟨(by rw [hst]), rfl⟩) ?_
 refine ahp 7 rfl rfl (by kernel_rfl) (by kernel_rfl) (z8 rfl) ?_
 refine ahz (by kernel_rfl) ?_
 refine zm ?_
 refine za ?_
 refine dmv rfl ?_
 refine dq (zf5 (o := some (zj (zbz ⟨d0.p.1.Id, d0.p.2.how, d0.p.2.since⟩))) zeE rfl rfl) ?_
 refine dmv rfl ?_
 refine dg rfl rfl (fun hc => ⟨_, OpenTo.refl _, zf rfl⟩) ?_
 refine dg rfl rfl (fun hc => ⟨_, OpenTo.upd (t := 17) rfl (by first | exact hc | simp_all) (OpenTo.refl _), (by first | exact zn rfl | exact zg rfl)⟩) ?_
 refine dg rfl rfl (fun hc => ⟨_, OpenTo.upd (t := 18) rfl (by first | exact hc | simp_all) (OpenTo.refl _), (by first | exact zd zcg rfl ty3 (by decide) rfl | exact zb zcg rfl ty3 (by decide) rfl)⟩) ?_
 refine dg rfl rfl (fun hc => ⟨_, OpenTo.upd (t := 19) rfl (by first | exact hc | simp_all) (OpenTo.refl _), zh ty3 rfl rfl rfl⟩) ?_
 refine dg rfl rfl (fun hc => ⟨_, OpenTo.upd (t := 20) rfl (by first | exact hc | simp_all) (OpenTo.refl _), zaT rfl rfl⟩) ?_
 refine dq (zG rfl (.inl rfl) (.inr ⟨_, rfl, fun h => by simp_all⟩)) ?_
 refine dn ?_
 refine zl rfl (fun h1 => ?_) (fun h2 => ?_)
 ·try simp at h1
  refine zp ?_
  first
  | exact zaQ rfl ⟨s, rfl, rfl, hI, (zbg hk0 (zfH (by simpa using h1))), rfl, rfl, rfl⟩
  | exact zH rfl ⟨_, rfl, zaW (d := yD d0 v83 (d0.p.2.yes ++ [a.Team])) hk1, RI.setSt hI1 hk1 (by decide), zbV hk0 ((zcW h0 (by simp_all) (by simp_all)).1 (by simpa using h5)), rfl, rfl, rfl⟩
  | exact zH rfl ⟨_, rfl, rfl, hI1, zau hk0 ((zcW h0 (by simp_all) (by simp_all)).2 (by simpa using h6)), rfl, rfl, rfl⟩
  | exact zH rfl ⟨_, rfl, zaW hk0, RI.setSt hI hk0 (by decide), zau hk0 (zgW h0 (by simp_all)), rfl, rfl, rfl⟩
  | exact zH rfl ⟨_, rfl, zaW hk0, RI.setSt hI hk0 (by decide), zau hk0 (zeS h0 (by simp_all)), rfl, rfl, rfl⟩
  | exact zH rfl ⟨_, rfl, zaW (d := vD d0 v176 (d0.p.2.veto ++ [a.Team])) hk2, RI.setSt hI2 hk2 (by decide), zbV hk0 ((zcq h0 (by simp_all) (by simp_all)).1 (by simpa using h13)), rfl, rfl, rfl⟩
  | exact zH rfl ⟨_, rfl, rfl, hI2, zau hk0 ((zcq h0 (by simp_all) (by simp_all)).2 (by simpa using h14)), rfl, rfl, rfl⟩
  | exact zH rfl ⟨s, rfl, rfl, hI, (zbg hk0 (ze1 h0 hyn hvn (by first | omega | (simp; done) | (rintro ⟨q1, q2, q3, q4⟩; simp_all; done) | (rintro ⟨q1, q2, q3⟩; simp_all; done) | (rintro ⟨q1, q2⟩; simp_all; done) | simp_all) (by first | omega | (simp; done) | (rintro ⟨q1, q2, q3, q4⟩; simp_all; done) | (rintro ⟨q1, q2, q3⟩; simp_all; done) | (rintro ⟨q1, q2⟩; simp_all; done) | simp_all) (by first | omega | (simp; done) | (rintro ⟨q1, q2, q3, q4⟩; simp_all; done) | (rintro ⟨q1, q2, q3⟩; simp_all; done) | (rintro ⟨q1, q2⟩; simp_all; done) | simp_all) (by first | omega | (simp; done) | (rintro ⟨q1, q2, q3, q4⟩; simp_all; done) | (rintro ⟨q1, q2, q3⟩; simp_all; done) | (rintro ⟨q1, q2⟩; simp_all; done) | simp_all))), rfl, rfl, rfl⟩
 ·try simp at h2
  refine zo ?_
  refine zk ?_
  have h0 : ¬ (d0.p.2.how ≠ 1 ∧ d0.p.2.how ≠ 2) := by rintro ⟨q1, q2⟩; omega
  refine zar (fun M => ∃ i : Nat, M[i]? = some (.cells s.bf (cR m l s))) [3, 7] mixed ?_
  refine ahp 0 rfl rfl (by kernel_rfl) (by kernel_rfl) (zf rfl) ?_
  refine ahp 1 rfl rfl (by kernel_rfl) (by kernel_rfl) ((by first | exact zn rfl | exact zg rfl)) ?_
  refine ahp 2 rfl rfl (by kernel_rfl) (by kernel_rfl) (zb zbj rfl zbv (by decide) rfl) ?_
  refine ahl 3 rfl rfl (by kernel_rfl) (by kernel_rfl) (by simp) ⟨0, rfl⟩ (fun M hM => by obtain ⟨i, hi⟩ := hM; exact zy (i := i) zbv rfl hi (.inl ⟨rfl, rfl⟩) ⟨rfl, rfl⟩) ?_
  refine ahp 4 rfl rfl (by kernel_rfl) (by kernel_rfl) (zf rfl) ?_
  refine ahp 5 rfl rfl (by kernel_rfl) (by kernel_rfl) ((by first | exact zn rfl | exact zg rfl)) ?_
  refine ahp 6 rfl rfl (by kernel_rfl) (by kernel_rfl) (zb zbj rfl zbv (by decide) rfl) ?_
  refine ahl 7 rfl rfl (by kernel_rfl) (by kernel_rfl) (by simp) ⟨0, rfl⟩ (fun M hM => by obtain ⟨i, hi⟩ := hM; exact zy (i := i) zbv rfl hi (.inl ⟨rfl, rfl⟩) ⟨rfl, rfl⟩) ?_
  refine ahp 8 rfl rfl (by kernel_rfl) (by kernel_rfl) (zda rfl rfl) ?_
  refine ahp 9 rfl rfl (by kernel_rfl) (by kernel_rfl) (zw zsw rfl (WeakL.refl _) (zd1 (l := l) (p := fun y => y.Id == a.Offer) zsr (fun _ => zkY) (by omega))) ?_
  refine ahp 10 rfl rfl (by kernel_rfl) (by kernel_rfl) (zZ (j := k0) (a := d0.p.1) zbv zJ rfl rfl hix (hI.at' hk0)) ?_
  refine ahp 11 rfl rfl (by kernel_rfl) (by kernel_rfl) (zD zJ rfl rfl rfl rfl) ?_
  refine ahe 12 rfl (by kernel_rfl) ?_
  refine zv rfl (zac zJ rfl fun b5 => ?_)
  refine ⟨fun _ => by first | exact .inl ⟨0, rfl⟩ | exact .inl ⟨1, rfl⟩ | exact .inl ⟨2, rfl⟩ | exact .inr (by simp [zaq, Region.binds]), ?_⟩
  refine ahe 13 rfl (by kernel_rfl) ?_
  refine zae (zax zJ rfl rfl rfl rfl rfl ?_)
  refine ⟨fun _ => by first | exact .inl ⟨0, rfl⟩ | exact .inl ⟨1, rfl⟩ | exact .inl ⟨2, rfl⟩ | exact .inr (by simp [zaq, Region.binds]), ?_⟩
  refine ahz (by kernel_rfl) ?_
  refine zP (Ghost.fc0 5 rfl) ?_
  refine zar (fun _ => True) [] mixed ?_
  refine ahp 0 rfl rfl (by kernel_rfl) (by kernel_rfl) (zD zJ rfl rfl rfl rfl) ?_
  refine ahp 1 rfl rfl (by kernel_rfl) (by kernel_rfl) (zw zn1 rfl (WeakL.refl _) (zcR (x := d0.p.1) (by omega))) ?_
  refine ahp 2 rfl rfl (by kernel_rfl) (by kernel_rfl) ((by first | exact zd zS rfl ty9 (by decide) rfl | exact zb zS rfl ty9 (by decide) rfl)) ?_
  refine ahp 3 rfl rfl (by kernel_rfl) (by kernel_rfl) (zh ty9 rfl rfl rfl) ?_
  refine ahp 4 rfl rfl (by kernel_rfl) (by kernel_rfl) (zw zgm rfl (WeakL.refl _) (zaw (l := zaV d0.p.1.Gives) (s := a.Team) (by omega))) ?_
  refine ahp 5 rfl rfl (by kernel_rfl) (by kernel_rfl) (z8 rfl) ?_
  refine ahz (by kernel_rfl) ?_
  refine zu ?_
  refine zar (fun M => M = (FR m l s)) [17, 20, 23] mixed ?_
  refine ahp 0 rfl rfl (by kernel_rfl) (by kernel_rfl) ((by first | exact zd zS rfl ty3 (by decide) rfl | exact zb zS rfl ty3 (by decide) rfl)) ?_
  refine ahp 1 rfl rfl (by kernel_rfl) (by kernel_rfl) (zh ty3 rfl rfl rfl) ?_
  refine ahp 2 rfl rfl (by kernel_rfl) (by kernel_rfl) (zaj rfl rfl) ?_
  refine ahp 3 rfl rfl (by kernel_rfl) (by kernel_rfl) (zf rfl) ?_
  refine ahg 4 rfl rfl (by kernel_rfl) (by kernel_rfl) rfl (fun hc => ⟨_, OpenTo.refl _, zf rfl⟩) ?_
  refine ahp 5 rfl rfl (by kernel_rfl) (by kernel_rfl) (zG rfl (.inr ⟨_, rfl, fun h => by simp_all⟩) (.inl rfl)) ?_
  refine ahp 6 rfl rfl (by kernel_rfl) (by kernel_rfl) (zf rfl) ?_
  refine ahg 7 rfl rfl (by kernel_rfl) (by kernel_rfl) rfl (fun hc => ⟨_, OpenTo.refl _, zf rfl⟩) ?_
  refine ahg 8 rfl rfl (by kernel_rfl) (by kernel_rfl) rfl (fun hc => ⟨_, OpenTo.upd (t := 48) rfl (by first | exact hc | simp_all) (OpenTo.refl _), (by first | exact zn rfl | exact zg rfl)⟩) ?_
  refine ahg 9 rfl rfl (by kernel_rfl) (by kernel_rfl) rfl (fun hc => ⟨_, OpenTo.upd (t := 49) rfl (by first | exact hc | simp_all) (OpenTo.refl _), (by first | exact zd zcg rfl ty3 (by decide) rfl | exact zb zcg rfl ty3 (by decide) rfl)⟩) ?_
  refine ahg 10 rfl rfl (by kernel_rfl) (by kernel_rfl) rfl (fun hc => ⟨_, OpenTo.upd (t := 50) rfl (by first | exact hc | simp_all) (OpenTo.refl _), zh ty3 rfl rfl rfl⟩) ?_
  refine ahg 11 rfl rfl (by kernel_rfl) (by kernel_rfl) rfl (fun hc => ⟨_, OpenTo.upd (t := 51) rfl (by first | exact hc | simp_all) (OpenTo.refl _), zaj rfl rfl⟩) ?_
  refine ahp 12 rfl rfl (by kernel_rfl) (by kernel_rfl) (zG rfl (.inr ⟨_, rfl, fun h => by simp_all⟩) (.inl rfl)) ?_
  refine ahp 13 rfl rfl (by kernel_rfl) (by kernel_rfl) (zf rfl) ?_
  refine ahg 14 rfl rfl (by kernel_rfl) (by kernel_rfl) rfl (fun hc => ⟨_, OpenTo.refl _, zf rfl⟩) ?_
  refine ahg 15 rfl rfl (by kernel_rfl) (by kernel_rfl) rfl (fun hc => ⟨_, OpenTo.upd (t := 55) rfl (by first | exact hc | simp_all) (OpenTo.refl _), (by first | exact zn rfl | exact zg rfl)⟩) ?_
  refine ahg 16 rfl rfl (by kernel_rfl) (by kernel_rfl) rfl (fun hc => ⟨_, OpenTo.upd (t := 56) rfl (by first | exact hc | simp_all) (OpenTo.refl _), zb zbj rfl zbH (by decide) rfl⟩) ?_
  refine zdt 17 rfl rfl (by kernel_rfl) (by kernel_rfl) (by simp) rfl rfl (fun hc => ⟨_, OpenTo.upd (t := 57) rfl (by first | exact hc | simp_all) (OpenTo.refl _), fun M hM => by
   subst hM; exact zy (i := 0) zbH rfl rfl (.inl ⟨rfl, rfl⟩) ⟨rfl, rfl⟩
   ⟩) ?_
  refine ahg 18 rfl rfl (by kernel_rfl) (by kernel_rfl) rfl (fun hc => ⟨_, OpenTo.refl _, (by first | exact zd zJ rfl ty9 (by decide) rfl | exact zb zJ rfl ty9 (by decide) rfl)⟩) ?_
  refine ahg 19 rfl rfl (by kernel_rfl) (by kernel_rfl) rfl (fun hc => ⟨_, OpenTo.upd (t := 59) rfl (by first | exact hc | simp_all) (OpenTo.refl _), zh ty9 rfl rfl rfl⟩) ?_
  refine zdt 20 rfl rfl (by kernel_rfl) (by kernel_rfl) (by simp) rfl rfl (fun hc => ⟨_, OpenTo.upd (t := 60) rfl (by first | exact hc | simp_all) (OpenTo.upd (t := 58) rfl (by first | exact hc | simp_all) (OpenTo.refl _)), fun M hM => by
   subst hM; exact zbP (i := 2) (f := HVal.raw) (L := s.LY) (z0 := zbY) zbH ty9 zQ rfl rfl rfl rfl ⟨by rw [hye], rfl⟩
   ⟩) ?_
  refine ahg 21 rfl rfl (by kernel_rfl) (by kernel_rfl) rfl (fun hc => ⟨_, OpenTo.refl _, (by first | exact zd zS rfl ty9 (by decide) rfl | exact zb zS rfl ty9 (by decide) rfl)⟩) ?_
  refine ahg 22 rfl rfl (by kernel_rfl) (by kernel_rfl) rfl (fun hc => ⟨_, OpenTo.upd (t := 62) rfl (by first | exact hc | simp_all) (OpenTo.refl _), zh ty9 rfl rfl rfl⟩) ?_
  refine zdt 23 rfl rfl (by kernel_rfl) (by kernel_rfl) (by simp) rfl rfl (fun hc => ⟨_, OpenTo.upd (t := 63) rfl (by first | exact hc | simp_all) (OpenTo.upd (t := 61) rfl (by first | exact hc | simp_all) (OpenTo.refl _)), fun M hM => by
   subst hM; exact zeY (hs' := [eSs d0.p.2.yes, .str a.Team]) zgm rfl ⟨.arr (i := 2 * k0 + 5) (ziO hk0), .weak (Weak.refl _), trivial⟩ (zaw (l := d0.p.2.yes) (s := a.Team) (by omega)) rfl ⟨rfl, rfl⟩
   ⟩) ?_
  refine ahg 24 rfl rfl (by kernel_rfl) (by kernel_rfl) rfl (fun hc => ⟨_, OpenTo.upd (t := 64) rfl (by first | exact hc | simp_all) (OpenTo.refl _), zam rfl⟩) ?_
  refine ahp 25 rfl rfl (by kernel_rfl) (by kernel_rfl) (zG rfl (.inr ⟨_, rfl, fun h => by simp_all⟩) (.inl rfl)) ?_
  refine ahp 26 rfl rfl (by kernel_rfl) (by kernel_rfl) (z8 rfl) ?_
  refine ahz (by kernel_rfl) ?_
  refine zl rfl (fun h3 => ?_) (fun h4 => ?_)
  ·try simp at h3
   refine zar (fun M => ∃ x : MObj, M = (FR m l s).set (2 * k0 + 5) x) [3, 9, 12] mixed ?_
   refine ahp 0 rfl rfl (by kernel_rfl) (by kernel_rfl) (zf rfl) ?_
   refine ahp 1 rfl rfl (by kernel_rfl) (by kernel_rfl) ((by first | exact zn rfl | exact zg rfl)) ?_
   refine ahp 2 rfl rfl (by kernel_rfl) (by kernel_rfl) (zb zbj rfl zbH (by decide) rfl) ?_
   refine ahl 3 rfl rfl (by kernel_rfl) (by kernel_rfl) (by simp) ⟨_, (zee (ziO hk0)).symm⟩ (fun M hM => by obtain ⟨x, rfl⟩ := hM; exact zy (i := 0) zbH rfl rfl (.inl ⟨rfl, rfl⟩) ⟨rfl, rfl⟩) ?_
   refine ahp 4 rfl rfl (by kernel_rfl) (by kernel_rfl) ((by first | exact zd zJ rfl ty9 (by decide) rfl | exact zb zJ rfl ty9 (by decide) rfl)) ?_
   refine ahp 5 rfl rfl (by kernel_rfl) (by kernel_rfl) (zh ty9 rfl rfl rfl) ?_
   refine ahp 6 rfl rfl (by kernel_rfl) (by kernel_rfl) (zf rfl) ?_
   refine ahp 7 rfl rfl (by kernel_rfl) (by kernel_rfl) ((by first | exact zn rfl | exact zg rfl)) ?_
   refine ahp 8 rfl rfl (by kernel_rfl) (by kernel_rfl) (zb zbj rfl zbH (by decide) rfl) ?_
   refine ahl 9 rfl rfl (by kernel_rfl) (by kernel_rfl) (by simp) ⟨_, (zee (ziO hk0)).symm⟩ (fun M hM => by obtain ⟨x, rfl⟩ := hM; exact zy (i := 0) zbH rfl rfl (.inl ⟨rfl, rfl⟩) ⟨rfl, rfl⟩) ?_
   refine ahp 10 rfl rfl (by kernel_rfl) (by kernel_rfl) ((by first | exact zd zJ rfl ty9 (by decide) rfl | exact zb zJ rfl ty9 (by decide) rfl)) ?_
   refine ahp 11 rfl rfl (by kernel_rfl) (by kernel_rfl) (zh ty9 rfl rfl rfl) ?_
   refine ahl 12 rfl rfl (by kernel_rfl) (by kernel_rfl) (by simp) ⟨_, (zee (ziO hk0)).symm⟩ (fun M hM => by obtain ⟨x, rfl⟩ := hM; exact zbP (i := 2) (f := HVal.raw) (L := s.LY) (z0 := zbY) zbH ty9 zQ rfl rfl rfl rfl ⟨by rw [hye], rfl⟩) ?_
   refine ahp 13 rfl rfl (by kernel_rfl) (by kernel_rfl) ((by first | exact zd zS rfl ty9 (by decide) rfl | exact zb zS rfl ty9 (by decide) rfl)) ?_
   refine ahp 14 rfl rfl (by kernel_rfl) (by kernel_rfl) (zh ty9 rfl rfl rfl) ?_
   refine ahp 15 rfl rfl (by kernel_rfl) (by kernel_rfl) (zE (hs := [_]) zQ ty9 rfl rfl (by decide) (by decide) rfl) ?_
   refine ahe 16 rfl (by kernel_rfl) ?_
   refine zv rfl (zay (i := 2 * k0 + 5) zQ ty9 rfl rfl rfl rfl (ziO hk0) (by simp [zbi, zj]) (by simp; omega) fun v83 => ?_)
   refine ⟨fun _ => .inl ⟨_, rfl⟩, ?_⟩
   refine ahe 17 rfl (by kernel_rfl) ?_
   refine zae (zfB (i := 2) (f := HVal.raw) (L := s.LY) (v := v83) zbH ty9 rfl rfl rfl rfl ?_)
   refine ⟨fun _ => .inr (by simp [zaq, Region.binds]), ?_⟩
   refine ahz (by kernel_rfl) ?_
   refine zP (Ghost.of_eq (show _ = FR m l (rY s (zaz d0.p.1.Id v83 s.LY) k0 (yD d0 v83 (d0.p.2.yes ++ [a.Team]))) by rw [← zqp hk0, List.map_append]; rfl)) ?_
   have hk1 : (rY s (zaz d0.p.1.Id v83 s.LY) k0 (yD d0 v83 (d0.p.2.yes ++ [a.Team]))).D[k0]? = some (yD d0 v83 (d0.p.2.yes ++ [a.Team])) := List.getElem?_set_self (zM hk0)
   have hye1 : (alk d0.p.1.Id (rY s (zaz d0.p.1.Id v83 s.LY) k0 (yD d0 v83 (d0.p.2.yes ++ [a.Team]))).LY).getD zbY = v83 := by show (alk d0.p.1.Id (zaz d0.p.1.Id v83 s.LY)).getD zbY = v83; rw [zfb]; rfl
   have hI1 : RI l (rY s (zaz d0.p.1.Id v83 s.LY) k0 (yD d0 v83 (d0.p.2.yes ++ [a.Team]))) := hI.setY hk0
   refine zar (fun M => M = (FR m l (rY s (zaz d0.p.1.Id v83 s.LY) k0 (yD d0 v83 (d0.p.2.yes ++ [a.Team]))))) [3, 6, 7] mixed ?_
   refine ahp 0 rfl rfl (by kernel_rfl) (by kernel_rfl) (zf rfl) ?_
   refine ahp 1 rfl rfl (by kernel_rfl) (by kernel_rfl) ((by first | exact zn rfl | exact zg rfl)) ?_
   refine ahp 2 rfl rfl (by kernel_rfl) (by kernel_rfl) (zb zbj rfl zbH (by decide) rfl) ?_
   refine ahl 3 rfl rfl (by kernel_rfl) (by kernel_rfl) (by simp) rfl (fun M hM => by subst hM; exact zy (i := 0) zbH rfl rfl (.inl ⟨rfl, rfl⟩) ⟨rfl, rfl⟩) ?_
   refine ahp 4 rfl rfl (by kernel_rfl) (by kernel_rfl) ((by first | exact zd zJ rfl ty9 (by decide) rfl | exact zb zJ rfl ty9 (by decide) rfl)) ?_
   refine ahp 5 rfl rfl (by kernel_rfl) (by kernel_rfl) (zh ty9 rfl rfl rfl) ?_
   refine ahl 6 rfl rfl (by kernel_rfl) (by kernel_rfl) (by simp) rfl (fun M hM => by subst hM; exact zbP (i := 2) (f := HVal.raw) (L := (rY s (zaz d0.p.1.Id v83 s.LY) k0 (yD d0 v83 (d0.p.2.yes ++ [a.Team]))).LY) (z0 := zbY) zbH ty9 zQ rfl rfl rfl rfl ⟨(by rw [hye1]), rfl⟩) ?_
   refine ahl 7 rfl rfl (by kernel_rfl) (by kernel_rfl) (by simp) rfl (fun M hM => by subst hM; exact zaA (i := 2 * k0 + 5) (es := (d0.p.2.yes ++ [a.Team])) zQ rfl (ziO (d := yD d0 v83 (d0.p.2.yes ++ [a.Team])) hk1) ⟨rfl, rfl⟩) ?_
   refine ahp 8 rfl rfl (by kernel_rfl) (by kernel_rfl) (zD zJ rfl rfl rfl rfl) ?_
   refine ahp 9 rfl rfl (by kernel_rfl) (by kernel_rfl) (zw zn1 rfl (WeakL.refl _) (zcR (x := d0.p.1) (by omega))) ?_
   refine ahp 10 rfl rfl (by kernel_rfl) (by kernel_rfl) (zR zQ rfl) ?_
   refine ahp 11 rfl rfl (by kernel_rfl) (by kernel_rfl) (zaj rfl rfl) ?_
   refine ahz (by kernel_rfl) ?_
   refine zl rfl (fun h5 => ?_) (fun h6 => ?_)
   ·try simp at h5
    refine zB ?_
    refine dmv rfl ?_
    refine dq ((by first | exact zd zJ rfl ty9 (by decide) rfl | exact zb zJ rfl ty9 (by decide) rfl)) ?_
    refine dq (zh ty9 rfl rfl rfl) ?_
    refine dq ((by first | exact zd zS rfl ty3 (by decide) rfl | exact zb zS rfl ty3 (by decide) rfl)) ?_
    refine dq (zh ty3 rfl rfl rfl) ?_
    refine de rfl (EOp.mono ?_ (zbd zhG rfl (WeakL.refl _) (zdm (s := (rY s (zaz d0.p.1.Id v83 s.LY) k0 (yD d0 v83 (d0.p.2.yes ++ [a.Team])))) (id := d0.p.1.Id) (how := 2) (t := a.At))))
    rintro _ _ ⟨rfl, rfl⟩
    refine dn ?_
    refine zA ?_
    first
    | exact zaQ rfl ⟨s, rfl, rfl, hI, (zbg hk0 (zfH (by simpa using h1))), rfl, rfl, rfl⟩
    | exact zH rfl ⟨_, rfl, zaW (d := yD d0 v83 (d0.p.2.yes ++ [a.Team])) hk1, RI.setSt hI1 hk1 (by decide), zbV hk0 ((zcW h0 (by simp_all) (by simp_all)).1 (by simpa using h5)), rfl, rfl, rfl⟩
    | exact zH rfl ⟨_, rfl, rfl, hI1, zau hk0 ((zcW h0 (by simp_all) (by simp_all)).2 (by simpa using h6)), rfl, rfl, rfl⟩
    | exact zH rfl ⟨_, rfl, zaW hk0, RI.setSt hI hk0 (by decide), zau hk0 (zgW h0 (by simp_all)), rfl, rfl, rfl⟩
    | exact zH rfl ⟨_, rfl, zaW hk0, RI.setSt hI hk0 (by decide), zau hk0 (zeS h0 (by simp_all)), rfl, rfl, rfl⟩
    | exact zH rfl ⟨_, rfl, zaW (d := vD d0 v176 (d0.p.2.veto ++ [a.Team])) hk2, RI.setSt hI2 hk2 (by decide), zbV hk0 ((zcq h0 (by simp_all) (by simp_all)).1 (by simpa using h13)), rfl, rfl, rfl⟩
    | exact zH rfl ⟨_, rfl, rfl, hI2, zau hk0 ((zcq h0 (by simp_all) (by simp_all)).2 (by simpa using h14)), rfl, rfl, rfl⟩
    | exact zH rfl ⟨s, rfl, rfl, hI, (zbg hk0 (ze1 h0 hyn hvn (by first | omega | (simp; done) | (rintro ⟨q1, q2, q3, q4⟩; simp_all; done) | (rintro ⟨q1, q2, q3⟩; simp_all; done) | (rintro ⟨q1, q2⟩; simp_all; done) | simp_all) (by first | omega | (simp; done) | (rintro ⟨q1, q2, q3, q4⟩; simp_all; done) | (rintro ⟨q1, q2, q3⟩; simp_all; done) | (rintro ⟨q1, q2⟩; simp_all; done) | simp_all) (by first | omega | (simp; done) | (rintro ⟨q1, q2, q3, q4⟩; simp_all; done) | (rintro ⟨q1, q2, q3⟩; simp_all; done) | (rintro ⟨q1, q2⟩; simp_all; done) | simp_all) (by first | omega | (simp; done) | (rintro ⟨q1, q2, q3, q4⟩; simp_all; done) | (rintro ⟨q1, q2, q3⟩; simp_all; done) | (rintro ⟨q1, q2⟩; simp_all; done) | simp_all))), rfl, rfl, rfl⟩
   ·try simp at h6
    refine zo ?_
    refine zA ?_
    first
    | exact zaQ rfl ⟨s, rfl, rfl, hI, (zbg hk0 (zfH (by simpa using h1))), rfl, rfl, rfl⟩
    | exact zH rfl ⟨_, rfl, zaW (d := yD d0 v83 (d0.p.2.yes ++ [a.Team])) hk1, RI.setSt hI1 hk1 (by decide), zbV hk0 ((zcW h0 (by simp_all) (by simp_all)).1 (by simpa using h5)), rfl, rfl, rfl⟩
    | exact zH rfl ⟨_, rfl, rfl, hI1, zau hk0 ((zcW h0 (by simp_all) (by simp_all)).2 (by simpa using h6)), rfl, rfl, rfl⟩
    | exact zH rfl ⟨_, rfl, zaW hk0, RI.setSt hI hk0 (by decide), zau hk0 (zgW h0 (by simp_all)), rfl, rfl, rfl⟩
    | exact zH rfl ⟨_, rfl, zaW hk0, RI.setSt hI hk0 (by decide), zau hk0 (zeS h0 (by simp_all)), rfl, rfl, rfl⟩
    | exact zH rfl ⟨_, rfl, zaW (d := vD d0 v176 (d0.p.2.veto ++ [a.Team])) hk2, RI.setSt hI2 hk2 (by decide), zbV hk0 ((zcq h0 (by simp_all) (by simp_all)).1 (by simpa using h13)), rfl, rfl, rfl⟩
    | exact zH rfl ⟨_, rfl, rfl, hI2, zau hk0 ((zcq h0 (by simp_all) (by simp_all)).2 (by simpa using h14)), rfl, rfl, rfl⟩
    | exact zH rfl ⟨s, rfl, rfl, hI, (zbg hk0 (ze1 h0 hyn hvn (by first | omega | (simp; done) | (rintro ⟨q1, q2, q3, q4⟩; simp_all; done) | (rintro ⟨q1, q2, q3⟩; simp_all; done) | (rintro ⟨q1, q2⟩; simp_all; done) | simp_all) (by first | omega | (simp; done) | (rintro ⟨q1, q2, q3, q4⟩; simp_all; done) | (rintro ⟨q1, q2, q3⟩; simp_all; done) | (rintro ⟨q1, q2⟩; simp_all; done) | simp_all) (by first | omega | (simp; done) | (rintro ⟨q1, q2, q3, q4⟩; simp_all; done) | (rintro ⟨q1, q2, q3⟩; simp_all; done) | (rintro ⟨q1, q2⟩; simp_all; done) | simp_all) (by first | omega | (simp; done) | (rintro ⟨q1, q2, q3, q4⟩; simp_all; done) | (rintro ⟨q1, q2, q3⟩; simp_all; done) | (rintro ⟨q1, q2⟩; simp_all; done) | simp_all))), rfl, rfl, rfl⟩
  ·try simp at h4
   refine za ?_
   refine dq ((by first | exact zd zS rfl ty3 (by decide) rfl | exact zb zS rfl ty3 (by decide) rfl)) ?_
   refine dq (zh ty3 rfl rfl rfl) ?_
   refine dq (zaj rfl rfl) ?_
   refine dmv rfl ?_
   refine dg rfl rfl (fun hc => ⟨_, OpenTo.refl _, zf rfl⟩) ?_
   refine dq (zG rfl (.inr ⟨_, rfl, fun h => by simp_all⟩) (.inl rfl)) ?_
   refine das rfl ?_
   refine dn ?_
   refine zl rfl (fun h7 => ?_) (fun h8 => ?_)
   ·try simp at h7
    refine zB ?_
    refine dmv rfl ?_
    refine dq ((by first | exact zd zJ rfl ty9 (by decide) rfl | exact zb zJ rfl ty9 (by decide) rfl)) ?_
    refine dq (zh ty9 rfl rfl rfl) ?_
    refine dq ((by first | exact zd zS rfl ty3 (by decide) rfl | exact zb zS rfl ty3 (by decide) rfl)) ?_
    refine dq (zh ty3 rfl rfl rfl) ?_
    refine de rfl (EOp.mono ?_ (zbd zhG rfl (WeakL.refl _) (zdm (s := s) (id := d0.p.1.Id) (how := 4) (t := a.At))))
    rintro _ _ ⟨rfl, rfl⟩
    refine dn ?_
    refine zA ?_
    first
    | exact zaQ rfl ⟨s, rfl, rfl, hI, (zbg hk0 (zfH (by simpa using h1))), rfl, rfl, rfl⟩
    | exact zH rfl ⟨_, rfl, zaW (d := yD d0 v83 (d0.p.2.yes ++ [a.Team])) hk1, RI.setSt hI1 hk1 (by decide), zbV hk0 ((zcW h0 (by simp_all) (by simp_all)).1 (by simpa using h5)), rfl, rfl, rfl⟩
    | exact zH rfl ⟨_, rfl, rfl, hI1, zau hk0 ((zcW h0 (by simp_all) (by simp_all)).2 (by simpa using h6)), rfl, rfl, rfl⟩
    | exact zH rfl ⟨_, rfl, zaW hk0, RI.setSt hI hk0 (by decide), zau hk0 (zgW h0 (by simp_all)), rfl, rfl, rfl⟩
    | exact zH rfl ⟨_, rfl, zaW hk0, RI.setSt hI hk0 (by decide), zau hk0 (zeS h0 (by simp_all)), rfl, rfl, rfl⟩
    | exact zH rfl ⟨_, rfl, zaW (d := vD d0 v176 (d0.p.2.veto ++ [a.Team])) hk2, RI.setSt hI2 hk2 (by decide), zbV hk0 ((zcq h0 (by simp_all) (by simp_all)).1 (by simpa using h13)), rfl, rfl, rfl⟩
    | exact zH rfl ⟨_, rfl, rfl, hI2, zau hk0 ((zcq h0 (by simp_all) (by simp_all)).2 (by simpa using h14)), rfl, rfl, rfl⟩
    | exact zH rfl ⟨s, rfl, rfl, hI, (zbg hk0 (ze1 h0 hyn hvn (by first | omega | (simp; done) | (rintro ⟨q1, q2, q3, q4⟩; simp_all; done) | (rintro ⟨q1, q2, q3⟩; simp_all; done) | (rintro ⟨q1, q2⟩; simp_all; done) | simp_all) (by first | omega | (simp; done) | (rintro ⟨q1, q2, q3, q4⟩; simp_all; done) | (rintro ⟨q1, q2, q3⟩; simp_all; done) | (rintro ⟨q1, q2⟩; simp_all; done) | simp_all) (by first | omega | (simp; done) | (rintro ⟨q1, q2, q3, q4⟩; simp_all; done) | (rintro ⟨q1, q2, q3⟩; simp_all; done) | (rintro ⟨q1, q2⟩; simp_all; done) | simp_all) (by first | omega | (simp; done) | (rintro ⟨q1, q2, q3, q4⟩; simp_all; done) | (rintro ⟨q1, q2, q3⟩; simp_all; done) | (rintro ⟨q1, q2⟩; simp_all; done) | simp_all))), rfl, rfl, rfl⟩
   ·try simp at h8
    refine za ?_
    refine dq ((by first | exact zd zS rfl ty3 (by decide) rfl | exact zb zS rfl ty3 (by decide) rfl)) ?_
    refine dq (zh ty3 rfl rfl rfl) ?_
    refine dq (zaj rfl rfl) ?_
    refine dmv rfl ?_
    refine dg rfl rfl (fun hc => ⟨_, OpenTo.refl _, (by first | exact zd zS rfl ty9 (by decide) rfl | exact zb zS rfl ty9 (by decide) rfl)⟩) ?_
    refine dg rfl rfl (fun hc => ⟨_, OpenTo.upd (t := 120) rfl (by first | exact hc | simp_all) (OpenTo.refl _), zh ty9 rfl rfl rfl⟩) ?_
    refine dg rfl rfl (fun hc => ⟨_, OpenTo.refl _, (by first | exact zd zJ rfl ty9 (by decide) rfl | exact zb zJ rfl ty9 (by decide) rfl)⟩) ?_
    refine dg rfl rfl (fun hc => ⟨_, OpenTo.upd (t := 122) rfl (by first | exact hc | simp_all) (OpenTo.refl _), zh ty9 rfl rfl rfl⟩) ?_
    refine dg rfl rfl (fun hc => ⟨_, OpenTo.upd (t := 123) rfl (by first | exact hc | simp_all) (OpenTo.upd (t := 121) rfl (by first | exact hc | simp_all) (OpenTo.refl _)), zbs rfl rfl⟩) ?_
    refine dq (zG rfl (.inr ⟨_, rfl, fun h => by simp_all⟩) (.inl rfl)) ?_
    refine das rfl ?_
    refine dn ?_
    refine zl rfl (fun h9 => ?_) (fun h10 => ?_)
    ·try simp at h9
     refine zB ?_
     refine dmv rfl ?_
     refine dq ((by first | exact zd zJ rfl ty9 (by decide) rfl | exact zb zJ rfl ty9 (by decide) rfl)) ?_
     refine dq (zh ty9 rfl rfl rfl) ?_
     refine dq ((by first | exact zd zS rfl ty3 (by decide) rfl | exact zb zS rfl ty3 (by decide) rfl)) ?_
     refine dq (zh ty3 rfl rfl rfl) ?_
     refine de rfl (EOp.mono ?_ (zbd zhG rfl (WeakL.refl _) (zdm (s := s) (id := d0.p.1.Id) (how := 5) (t := a.At))))
     rintro _ _ ⟨rfl, rfl⟩
     refine dn ?_
     refine zA ?_
     first
     | exact zaQ rfl ⟨s, rfl, rfl, hI, (zbg hk0 (zfH (by simpa using h1))), rfl, rfl, rfl⟩
     | exact zH rfl ⟨_, rfl, zaW (d := yD d0 v83 (d0.p.2.yes ++ [a.Team])) hk1, RI.setSt hI1 hk1 (by decide), zbV hk0 ((zcW h0 (by simp_all) (by simp_all)).1 (by simpa using h5)), rfl, rfl, rfl⟩
     | exact zH rfl ⟨_, rfl, rfl, hI1, zau hk0 ((zcW h0 (by simp_all) (by simp_all)).2 (by simpa using h6)), rfl, rfl, rfl⟩
     | exact zH rfl ⟨_, rfl, zaW hk0, RI.setSt hI hk0 (by decide), zau hk0 (zgW h0 (by simp_all)), rfl, rfl, rfl⟩
     | exact zH rfl ⟨_, rfl, zaW hk0, RI.setSt hI hk0 (by decide), zau hk0 (zeS h0 (by simp_all)), rfl, rfl, rfl⟩
     | exact zH rfl ⟨_, rfl, zaW (d := vD d0 v176 (d0.p.2.veto ++ [a.Team])) hk2, RI.setSt hI2 hk2 (by decide), zbV hk0 ((zcq h0 (by simp_all) (by simp_all)).1 (by simpa using h13)), rfl, rfl, rfl⟩
     | exact zH rfl ⟨_, rfl, rfl, hI2, zau hk0 ((zcq h0 (by simp_all) (by simp_all)).2 (by simpa using h14)), rfl, rfl, rfl⟩
     | exact zH rfl ⟨s, rfl, rfl, hI, (zbg hk0 (ze1 h0 hyn hvn (by first | omega | (simp; done) | (rintro ⟨q1, q2, q3, q4⟩; simp_all; done) | (rintro ⟨q1, q2, q3⟩; simp_all; done) | (rintro ⟨q1, q2⟩; simp_all; done) | simp_all) (by first | omega | (simp; done) | (rintro ⟨q1, q2, q3, q4⟩; simp_all; done) | (rintro ⟨q1, q2, q3⟩; simp_all; done) | (rintro ⟨q1, q2⟩; simp_all; done) | simp_all) (by first | omega | (simp; done) | (rintro ⟨q1, q2, q3, q4⟩; simp_all; done) | (rintro ⟨q1, q2, q3⟩; simp_all; done) | (rintro ⟨q1, q2⟩; simp_all; done) | simp_all) (by first | omega | (simp; done) | (rintro ⟨q1, q2, q3, q4⟩; simp_all; done) | (rintro ⟨q1, q2, q3⟩; simp_all; done) | (rintro ⟨q1, q2⟩; simp_all; done) | simp_all))), rfl, rfl, rfl⟩
    ·try simp at h10
     refine zar (fun M => M = (FR m l s)) [18, 21, 24] mixed ?_
     refine ahp 0 rfl rfl (by kernel_rfl) (by kernel_rfl) ((by first | exact zd zS rfl ty3 (by decide) rfl | exact zb zS rfl ty3 (by decide) rfl)) ?_
     refine ahp 1 rfl rfl (by kernel_rfl) (by kernel_rfl) (zh ty3 rfl rfl rfl) ?_
     refine ahp 2 rfl rfl (by kernel_rfl) (by kernel_rfl) (zaj rfl rfl) ?_
     refine ahp 3 rfl rfl (by kernel_rfl) (by kernel_rfl) (zf rfl) ?_
     refine ahg 4 rfl rfl (by kernel_rfl) (by kernel_rfl) rfl (fun hc => ⟨_, OpenTo.refl _, zf rfl⟩) ?_
     refine ahg 5 rfl rfl (by kernel_rfl) (by kernel_rfl) rfl (fun hc => ⟨_, OpenTo.upd (t := 137) rfl (by first | exact hc | simp_all) (OpenTo.refl _), zam rfl⟩) ?_
     refine ahp 6 rfl rfl (by kernel_rfl) (by kernel_rfl) (zG rfl (.inr ⟨_, rfl, fun h => by simp_all⟩) (.inl rfl)) ?_
     refine ahp 7 rfl rfl (by kernel_rfl) (by kernel_rfl) (zf rfl) ?_
     refine ahg 8 rfl rfl (by kernel_rfl) (by kernel_rfl) rfl (fun hc => ⟨_, OpenTo.refl _, zf rfl⟩) ?_
     refine ahg 9 rfl rfl (by kernel_rfl) (by kernel_rfl) rfl (fun hc => ⟨_, OpenTo.upd (t := 141) rfl (by first | exact hc | simp_all) (OpenTo.refl _), (by first | exact zn rfl | exact zg rfl)⟩) ?_
     refine ahg 10 rfl rfl (by kernel_rfl) (by kernel_rfl) rfl (fun hc => ⟨_, OpenTo.upd (t := 142) rfl (by first | exact hc | simp_all) (OpenTo.refl _), (by first | exact zd zcg rfl ty3 (by decide) rfl | exact zb zcg rfl ty3 (by decide) rfl)⟩) ?_
     refine ahg 11 rfl rfl (by kernel_rfl) (by kernel_rfl) rfl (fun hc => ⟨_, OpenTo.upd (t := 143) rfl (by first | exact hc | simp_all) (OpenTo.refl _), zh ty3 rfl rfl rfl⟩) ?_
     refine ahg 12 rfl rfl (by kernel_rfl) (by kernel_rfl) rfl (fun hc => ⟨_, OpenTo.upd (t := 144) rfl (by first | exact hc | simp_all) (OpenTo.refl _), zaj rfl rfl⟩) ?_
     refine ahp 13 rfl rfl (by kernel_rfl) (by kernel_rfl) (zG rfl (.inr ⟨_, rfl, fun h => by simp_all⟩) (.inl rfl)) ?_
     refine ahp 14 rfl rfl (by kernel_rfl) (by kernel_rfl) (zf rfl) ?_
     refine ahg 15 rfl rfl (by kernel_rfl) (by kernel_rfl) rfl (fun hc => ⟨_, OpenTo.refl _, zf rfl⟩) ?_
     refine ahg 16 rfl rfl (by kernel_rfl) (by kernel_rfl) rfl (fun hc => ⟨_, OpenTo.upd (t := 148) rfl (by first | exact hc | simp_all) (OpenTo.refl _), (by first | exact zn rfl | exact zg rfl)⟩) ?_
     refine ahg 17 rfl rfl (by kernel_rfl) (by kernel_rfl) rfl (fun hc => ⟨_, OpenTo.upd (t := 149) rfl (by first | exact hc | simp_all) (OpenTo.refl _), zb zbj rfl zbH (by decide) rfl⟩) ?_
     refine zdt 18 rfl rfl (by kernel_rfl) (by kernel_rfl) (by simp) rfl rfl (fun hc => ⟨_, OpenTo.upd (t := 150) rfl (by first | exact hc | simp_all) (OpenTo.refl _), fun M hM => by
      subst hM; exact zy (i := 0) zbH rfl rfl (.inl ⟨rfl, rfl⟩) ⟨rfl, rfl⟩
      ⟩) ?_
     refine ahg 19 rfl rfl (by kernel_rfl) (by kernel_rfl) rfl (fun hc => ⟨_, OpenTo.refl _, (by first | exact zd zJ rfl ty9 (by decide) rfl | exact zb zJ rfl ty9 (by decide) rfl)⟩) ?_
     refine ahg 20 rfl rfl (by kernel_rfl) (by kernel_rfl) rfl (fun hc => ⟨_, OpenTo.upd (t := 152) rfl (by first | exact hc | simp_all) (OpenTo.refl _), zh ty9 rfl rfl rfl⟩) ?_
     refine zdt 21 rfl rfl (by kernel_rfl) (by kernel_rfl) (by simp) rfl rfl (fun hc => ⟨_, OpenTo.upd (t := 153) rfl (by first | exact hc | simp_all) (OpenTo.upd (t := 151) rfl (by first | exact hc | simp_all) (OpenTo.refl _)), fun M hM => by
      subst hM; exact zbP (i := 3) (f := HVal.raw) (L := s.LV) (z0 := zbY) zbH ty9 zQ rfl rfl rfl rfl ⟨by rw [hve], rfl⟩
      ⟩) ?_
     refine ahg 22 rfl rfl (by kernel_rfl) (by kernel_rfl) rfl (fun hc => ⟨_, OpenTo.refl _, (by first | exact zd zS rfl ty9 (by decide) rfl | exact zb zS rfl ty9 (by decide) rfl)⟩) ?_
     refine ahg 23 rfl rfl (by kernel_rfl) (by kernel_rfl) rfl (fun hc => ⟨_, OpenTo.upd (t := 155) rfl (by first | exact hc | simp_all) (OpenTo.refl _), zh ty9 rfl rfl rfl⟩) ?_
     refine zdt 24 rfl rfl (by kernel_rfl) (by kernel_rfl) (by simp) rfl rfl (fun hc => ⟨_, OpenTo.upd (t := 156) rfl (by first | exact hc | simp_all) (OpenTo.upd (t := 154) rfl (by first | exact hc | simp_all) (OpenTo.refl _)), fun M hM => by
      subst hM; exact zeY (hs' := [eSs d0.p.2.veto, .str a.Team]) zgm rfl ⟨.arr (i := 2 * k0 + 6) (zkT hk0), .weak (Weak.refl _), trivial⟩ (zaw (l := d0.p.2.veto) (s := a.Team) (by omega)) rfl ⟨rfl, rfl⟩
      ⟩) ?_
     refine ahg 25 rfl rfl (by kernel_rfl) (by kernel_rfl) rfl (fun hc => ⟨_, OpenTo.upd (t := 157) rfl (by first | exact hc | simp_all) (OpenTo.refl _), zam rfl⟩) ?_
     refine ahp 26 rfl rfl (by kernel_rfl) (by kernel_rfl) (zG rfl (.inr ⟨_, rfl, fun h => by simp_all⟩) (.inl rfl)) ?_
     refine ahp 27 rfl rfl (by kernel_rfl) (by kernel_rfl) (z8 rfl) ?_
     refine ahz (by kernel_rfl) ?_
     refine zl rfl (fun h11 => ?_) (fun h12 => ?_)
     ·try simp at h11
      refine zar (fun M => ∃ x : MObj, M = (FR m l s).set (2 * k0 + 6) x) [3, 9, 12] mixed ?_
      refine ahp 0 rfl rfl (by kernel_rfl) (by kernel_rfl) (zf rfl) ?_
      refine ahp 1 rfl rfl (by kernel_rfl) (by kernel_rfl) ((by first | exact zn rfl | exact zg rfl)) ?_
      refine ahp 2 rfl rfl (by kernel_rfl) (by kernel_rfl) (zb zbj rfl zbH (by decide) rfl) ?_
      refine ahl 3 rfl rfl (by kernel_rfl) (by kernel_rfl) (by simp) ⟨_, (zee (zkT hk0)).symm⟩ (fun M hM => by obtain ⟨x, rfl⟩ := hM; exact zy (i := 0) zbH rfl rfl (.inl ⟨rfl, rfl⟩) ⟨rfl, rfl⟩) ?_
      refine ahp 4 rfl rfl (by kernel_rfl) (by kernel_rfl) ((by first | exact zd zJ rfl ty9 (by decide) rfl | exact zb zJ rfl ty9 (by decide) rfl)) ?_
      refine ahp 5 rfl rfl (by kernel_rfl) (by kernel_rfl) (zh ty9 rfl rfl rfl) ?_
      refine ahp 6 rfl rfl (by kernel_rfl) (by kernel_rfl) (zf rfl) ?_
      refine ahp 7 rfl rfl (by kernel_rfl) (by kernel_rfl) ((by first | exact zn rfl | exact zg rfl)) ?_
      refine ahp 8 rfl rfl (by kernel_rfl) (by kernel_rfl) (zb zbj rfl zbH (by decide) rfl) ?_
      refine ahl 9 rfl rfl (by kernel_rfl) (by kernel_rfl) (by simp) ⟨_, (zee (zkT hk0)).symm⟩ (fun M hM => by obtain ⟨x, rfl⟩ := hM; exact zy (i := 0) zbH rfl rfl (.inl ⟨rfl, rfl⟩) ⟨rfl, rfl⟩) ?_
      refine ahp 10 rfl rfl (by kernel_rfl) (by kernel_rfl) ((by first | exact zd zJ rfl ty9 (by decide) rfl | exact zb zJ rfl ty9 (by decide) rfl)) ?_
      refine ahp 11 rfl rfl (by kernel_rfl) (by kernel_rfl) (zh ty9 rfl rfl rfl) ?_
      refine ahl 12 rfl rfl (by kernel_rfl) (by kernel_rfl) (by simp) ⟨_, (zee (zkT hk0)).symm⟩ (fun M hM => by obtain ⟨x, rfl⟩ := hM; exact zbP (i := 3) (f := HVal.raw) (L := s.LV) (z0 := zbY) zbH ty9 zQ rfl rfl rfl rfl ⟨by rw [hve], rfl⟩) ?_
      refine ahp 13 rfl rfl (by kernel_rfl) (by kernel_rfl) ((by first | exact zd zS rfl ty9 (by decide) rfl | exact zb zS rfl ty9 (by decide) rfl)) ?_
      refine ahp 14 rfl rfl (by kernel_rfl) (by kernel_rfl) (zh ty9 rfl rfl rfl) ?_
      refine ahp 15 rfl rfl (by kernel_rfl) (by kernel_rfl) (zE (hs := [_]) zQ ty9 rfl rfl (by decide) (by decide) rfl) ?_
      refine ahe 16 rfl (by kernel_rfl) ?_
      refine zv rfl (zay (i := 2 * k0 + 6) zQ ty9 rfl rfl rfl rfl (zkT hk0) (by simp [zbi, zj]) (by simp; omega) fun v176 => ?_)
      refine ⟨fun _ => .inl ⟨_, rfl⟩, ?_⟩
      refine ahe 17 rfl (by kernel_rfl) ?_
      refine zae (zfB (i := 3) (f := HVal.raw) (L := s.LV) (v := v176) zbH ty9 rfl rfl rfl rfl ?_)
      refine ⟨fun _ => .inr (by simp [zaq, Region.binds]), ?_⟩
      refine ahz (by kernel_rfl) ?_
      refine zP (Ghost.of_eq (show _ = FR m l (rV s (zaz d0.p.1.Id v176 s.LV) k0 (vD d0 v176 (d0.p.2.veto ++ [a.Team]))) by rw [← zsZ hk0, List.map_append]; rfl)) ?_
      have hk2 : (rV s (zaz d0.p.1.Id v176 s.LV) k0 (vD d0 v176 (d0.p.2.veto ++ [a.Team]))).D[k0]? = some (vD d0 v176 (d0.p.2.veto ++ [a.Team])) := List.getElem?_set_self (zM hk0)
      have hve1 : (alk d0.p.1.Id (rV s (zaz d0.p.1.Id v176 s.LV) k0 (vD d0 v176 (d0.p.2.veto ++ [a.Team]))).LV).getD zbY = v176 := by show (alk d0.p.1.Id (zaz d0.p.1.Id v176 s.LV)).getD zbY = v176; rw [zfb]; rfl
      have hI2 : RI l (rV s (zaz d0.p.1.Id v176 s.LV) k0 (vD d0 v176 (d0.p.2.veto ++ [a.Team]))) := hI.setV hk0
      refine zar (fun M => M = (FR m l (rV s (zaz d0.p.1.Id v176 s.LV) k0 (vD d0 v176 (d0.p.2.veto ++ [a.Team]))))) [3, 6, 7, 12] mixed ?_
      refine ahp 0 rfl rfl (by kernel_rfl) (by kernel_rfl) (zf rfl) ?_
      refine ahp 1 rfl rfl (by kernel_rfl) (by kernel_rfl) ((by first | exact zn rfl | exact zg rfl)) ?_
      refine ahp 2 rfl rfl (by kernel_rfl) (by kernel_rfl) (zb zbj rfl zbH (by decide) rfl) ?_
      refine ahl 3 rfl rfl (by kernel_rfl) (by kernel_rfl) (by simp) rfl (fun M hM => by subst hM; exact zy (i := 0) zbH rfl rfl (.inl ⟨rfl, rfl⟩) ⟨rfl, rfl⟩) ?_
      refine ahp 4 rfl rfl (by kernel_rfl) (by kernel_rfl) ((by first | exact zd zJ rfl ty9 (by decide) rfl | exact zb zJ rfl ty9 (by decide) rfl)) ?_
      refine ahp 5 rfl rfl (by kernel_rfl) (by kernel_rfl) (zh ty9 rfl rfl rfl) ?_
      refine ahl 6 rfl rfl (by kernel_rfl) (by kernel_rfl) (by simp) rfl (fun M hM => by subst hM; exact zbP (i := 3) (f := HVal.raw) (L := (rV s (zaz d0.p.1.Id v176 s.LV) k0 (vD d0 v176 (d0.p.2.veto ++ [a.Team]))).LV) (z0 := zbY) zbH ty9 zQ rfl rfl rfl rfl ⟨(by rw [hve1]), rfl⟩) ?_
      refine ahl 7 rfl rfl (by kernel_rfl) (by kernel_rfl) (by simp) rfl (fun M hM => by subst hM; exact zaA (i := 2 * k0 + 6) (es := (d0.p.2.veto ++ [a.Team])) zQ rfl (zkT (d := vD d0 v176 (d0.p.2.veto ++ [a.Team])) hk2) ⟨rfl, rfl⟩) ?_
      refine ahp 8 rfl rfl (by kernel_rfl) (by kernel_rfl) (zf rfl) ?_
      refine ahp 9 rfl rfl (by kernel_rfl) (by kernel_rfl) ((by first | exact zn rfl | exact zg rfl)) ?_
      refine ahp 10 rfl rfl (by kernel_rfl) (by kernel_rfl) (zb zbj rfl zN (by decide) rfl) ?_
      refine ahp 11 rfl rfl (by kernel_rfl) (by kernel_rfl) (zb zN rfl ty3 (by decide) rfl) ?_
      refine ahl 12 rfl rfl (by kernel_rfl) (by kernel_rfl) (by simp) rfl (fun M hM => by subst hM; exact zy (i := 0) ty3 rfl rfl (.inl ⟨rfl, rfl⟩) ⟨rfl, rfl⟩) ?_
      refine ahp 13 rfl rfl (by kernel_rfl) (by kernel_rfl) (zaj rfl rfl) ?_
      refine ahz (by kernel_rfl) ?_
      refine zl rfl (fun h13 => ?_) (fun h14 => ?_)
      ·try simp at h13
       refine zB ?_
       refine dmv rfl ?_
       refine dq ((by first | exact zd zJ rfl ty9 (by decide) rfl | exact zb zJ rfl ty9 (by decide) rfl)) ?_
       refine dq (zh ty9 rfl rfl rfl) ?_
       refine dq ((by first | exact zd zS rfl ty3 (by decide) rfl | exact zb zS rfl ty3 (by decide) rfl)) ?_
       refine dq (zh ty3 rfl rfl rfl) ?_
       refine de rfl (EOp.mono ?_ (zbd zhG rfl (WeakL.refl _) (zdm (s := (rV s (zaz d0.p.1.Id v176 s.LV) k0 (vD d0 v176 (d0.p.2.veto ++ [a.Team])))) (id := d0.p.1.Id) (how := 6) (t := a.At))))
       rintro _ _ ⟨rfl, rfl⟩
       refine dn ?_
       refine zA ?_
       first
       | exact zaQ rfl ⟨s, rfl, rfl, hI, (zbg hk0 (zfH (by simpa using h1))), rfl, rfl, rfl⟩
       | exact zH rfl ⟨_, rfl, zaW (d := yD d0 v83 (d0.p.2.yes ++ [a.Team])) hk1, RI.setSt hI1 hk1 (by decide), zbV hk0 ((zcW h0 (by simp_all) (by simp_all)).1 (by simpa using h5)), rfl, rfl, rfl⟩
       | exact zH rfl ⟨_, rfl, rfl, hI1, zau hk0 ((zcW h0 (by simp_all) (by simp_all)).2 (by simpa using h6)), rfl, rfl, rfl⟩
       | exact zH rfl ⟨_, rfl, zaW hk0, RI.setSt hI hk0 (by decide), zau hk0 (zgW h0 (by simp_all)), rfl, rfl, rfl⟩
       | exact zH rfl ⟨_, rfl, zaW hk0, RI.setSt hI hk0 (by decide), zau hk0 (zeS h0 (by simp_all)), rfl, rfl, rfl⟩
       | exact zH rfl ⟨_, rfl, zaW (d := vD d0 v176 (d0.p.2.veto ++ [a.Team])) hk2, RI.setSt hI2 hk2 (by decide), zbV hk0 ((zcq h0 (by simp_all) (by simp_all)).1 (by simpa using h13)), rfl, rfl, rfl⟩
       | exact zH rfl ⟨_, rfl, rfl, hI2, zau hk0 ((zcq h0 (by simp_all) (by simp_all)).2 (by simpa using h14)), rfl, rfl, rfl⟩
       | exact zH rfl ⟨s, rfl, rfl, hI, (zbg hk0 (ze1 h0 hyn hvn (by first | omega | (simp; done) | (rintro ⟨q1, q2, q3, q4⟩; simp_all; done) | (rintro ⟨q1, q2, q3⟩; simp_all; done) | (rintro ⟨q1, q2⟩; simp_all; done) | simp_all) (by first | omega | (simp; done) | (rintro ⟨q1, q2, q3, q4⟩; simp_all; done) | (rintro ⟨q1, q2, q3⟩; simp_all; done) | (rintro ⟨q1, q2⟩; simp_all; done) | simp_all) (by first | omega | (simp; done) | (rintro ⟨q1, q2, q3, q4⟩; simp_all; done) | (rintro ⟨q1, q2, q3⟩; simp_all; done) | (rintro ⟨q1, q2⟩; simp_all; done) | simp_all) (by first | omega | (simp; done) | (rintro ⟨q1, q2, q3, q4⟩; simp_all; done) | (rintro ⟨q1, q2, q3⟩; simp_all; done) | (rintro ⟨q1, q2⟩; simp_all; done) | simp_all))), rfl, rfl, rfl⟩
      ·try simp at h14
       refine zo ?_
       refine zA ?_
       first
       | exact zaQ rfl ⟨s, rfl, rfl, hI, (zbg hk0 (zfH (by simpa using h1))), rfl, rfl, rfl⟩
       | exact zH rfl ⟨_, rfl, zaW (d := yD d0 v83 (d0.p.2.yes ++ [a.Team])) hk1, RI.setSt hI1 hk1 (by decide), zbV hk0 ((zcW h0 (by simp_all) (by simp_all)).1 (by simpa using h5)), rfl, rfl, rfl⟩
       | exact zH rfl ⟨_, rfl, rfl, hI1, zau hk0 ((zcW h0 (by simp_all) (by simp_all)).2 (by simpa using h6)), rfl, rfl, rfl⟩
       | exact zH rfl ⟨_, rfl, zaW hk0, RI.setSt hI hk0 (by decide), zau hk0 (zgW h0 (by simp_all)), rfl, rfl, rfl⟩
       | exact zH rfl ⟨_, rfl, zaW hk0, RI.setSt hI hk0 (by decide), zau hk0 (zeS h0 (by simp_all)), rfl, rfl, rfl⟩
       | exact zH rfl ⟨_, rfl, zaW (d := vD d0 v176 (d0.p.2.veto ++ [a.Team])) hk2, RI.setSt hI2 hk2 (by decide), zbV hk0 ((zcq h0 (by simp_all) (by simp_all)).1 (by simpa using h13)), rfl, rfl, rfl⟩
       | exact zH rfl ⟨_, rfl, rfl, hI2, zau hk0 ((zcq h0 (by simp_all) (by simp_all)).2 (by simpa using h14)), rfl, rfl, rfl⟩
       | exact zH rfl ⟨s, rfl, rfl, hI, (zbg hk0 (ze1 h0 hyn hvn (by first | omega | (simp; done) | (rintro ⟨q1, q2, q3, q4⟩; simp_all; done) | (rintro ⟨q1, q2, q3⟩; simp_all; done) | (rintro ⟨q1, q2⟩; simp_all; done) | simp_all) (by first | omega | (simp; done) | (rintro ⟨q1, q2, q3, q4⟩; simp_all; done) | (rintro ⟨q1, q2, q3⟩; simp_all; done) | (rintro ⟨q1, q2⟩; simp_all; done) | simp_all) (by first | omega | (simp; done) | (rintro ⟨q1, q2, q3, q4⟩; simp_all; done) | (rintro ⟨q1, q2, q3⟩; simp_all; done) | (rintro ⟨q1, q2⟩; simp_all; done) | simp_all) (by first | omega | (simp; done) | (rintro ⟨q1, q2, q3, q4⟩; simp_all; done) | (rintro ⟨q1, q2, q3⟩; simp_all; done) | (rintro ⟨q1, q2⟩; simp_all; done) | simp_all))), rfl, rfl, rfl⟩
     ·try simp at h12
      refine zo ?_
      refine zA ?_
      first
      | exact zaQ rfl ⟨s, rfl, rfl, hI, (zbg hk0 (zfH (by simpa using h1))), rfl, rfl, rfl⟩
      | exact zH rfl ⟨_, rfl, zaW (d := yD d0 v83 (d0.p.2.yes ++ [a.Team])) hk1, RI.setSt hI1 hk1 (by decide), zbV hk0 ((zcW h0 (by simp_all) (by simp_all)).1 (by simpa using h5)), rfl, rfl, rfl⟩
      | exact zH rfl ⟨_, rfl, rfl, hI1, zau hk0 ((zcW h0 (by simp_all) (by simp_all)).2 (by simpa using h6)), rfl, rfl, rfl⟩
      | exact zH rfl ⟨_, rfl, zaW hk0, RI.setSt hI hk0 (by decide), zau hk0 (zgW h0 (by simp_all)), rfl, rfl, rfl⟩
      | exact zH rfl ⟨_, rfl, zaW hk0, RI.setSt hI hk0 (by decide), zau hk0 (zeS h0 (by simp_all)), rfl, rfl, rfl⟩
      | exact zH rfl ⟨_, rfl, zaW (d := vD d0 v176 (d0.p.2.veto ++ [a.Team])) hk2, RI.setSt hI2 hk2 (by decide), zbV hk0 ((zcq h0 (by simp_all) (by simp_all)).1 (by simpa using h13)), rfl, rfl, rfl⟩
      | exact zH rfl ⟨_, rfl, rfl, hI2, zau hk0 ((zcq h0 (by simp_all) (by simp_all)).2 (by simpa using h14)), rfl, rfl, rfl⟩
      | exact zH rfl ⟨s, rfl, rfl, hI, (zbg hk0 (ze1 h0 hyn hvn (by first | omega | (simp; done) | (rintro ⟨q1, q2, q3, q4⟩; simp_all; done) | (rintro ⟨q1, q2, q3⟩; simp_all; done) | (rintro ⟨q1, q2⟩; simp_all; done) | simp_all) (by first | omega | (simp; done) | (rintro ⟨q1, q2, q3, q4⟩; simp_all; done) | (rintro ⟨q1, q2, q3⟩; simp_all; done) | (rintro ⟨q1, q2⟩; simp_all; done) | simp_all) (by first | omega | (simp; done) | (rintro ⟨q1, q2, q3, q4⟩; simp_all; done) | (rintro ⟨q1, q2, q3⟩; simp_all; done) | (rintro ⟨q1, q2⟩; simp_all; done) | simp_all) (by first | omega | (simp; done) | (rintro ⟨q1, q2, q3, q4⟩; simp_all; done) | (rintro ⟨q1, q2, q3⟩; simp_all; done) | (rintro ⟨q1, q2⟩; simp_all; done) | simp_all))), rfl, rfl, rfl⟩
end
end Go.Proofs.YtpcaaekefgkhjaaGreatDoor
section
namespace Go.HL
theorem zo9 {m : MarketS} {a : ReplyS} : ∀ {ps : List DD} {k : Nat} {p : DD}, ps[k]? = some p → p.1.Id = a.Offer → (∀ (j : Nat) (z : DD), j < k → ps[j]? = some z → z.1.Id ≠ a.Offer) → zcl m a ps = ps.set k (zbe m a p)
 | [], k, p, h, _, _ => by simp at h
 | x :: r, 0, p, h, hi, _ => by
   simp at h; subst h
   rw [zcl, if_pos hi]; rfl
 | x :: r, k + 1, p, h, hi, hl => by
   simp at h
   rw [zcl, if_neg (hl 0 x (by omega) rfl), zo9 h hi fun j z hj hz => hl (j + 1) z (by omega) (by simpa using hz)]; rfl
theorem znL {m : MarketS} {a : ReplyS} : ∀ {ps : List DD}, (∀ z ∈ ps, z.1.Id ≠ a.Offer) → zcl m a ps = ps
 | [], _ => rfl
 | x :: r, h => by rw [zcl, if_neg (h x (by simp)), znL fun z hz => h z (List.mem_cons_of_mem x hz)]
/-! how zgn have said something -/
structure DB (m : MarketS) (p : DD) : Prop where
 yes : p.2.yes.length ≤ (zaV p.1.Gives).length
 veto : (p.2.veto.length : Int) ≤ m.Vetoes
 zero : p.2.how = 0 → p.2.yes = [] ∧ p.2.veto = []
 op : p.2.how = 1 → p.2.yes.length < (zaV p.1.Gives).length ∧ p.2.veto = []
 wt : p.2.how = 2 → (p.2.veto.length : Int) < m.Vetoes
 how : 0 ≤ p.2.how
theorem zmb (s : Str) (w : List Str) : (zaX s w).length ≤ w.length + 1 := by unfold zaX; split <;> simp
theorem DB.opn {m : MarketS} {t : Int} {p : DD} (h : DB m p) (h2 : 2 ≤ (zaV p.1.Gives).length) : DB m (zbB t p) := by
 unfold zbB
 split
 ·rename_i hc
  obtain ⟨hy, hv⟩ := h.zero hc.1
  have h1 : (zaX p.1.By p.2.yes).length = 1 := by rw [hy]; rfl
  refine ⟨by (dsimp only; omega), h.veto, fun e => by (simp at e), fun _ => ⟨by (dsimp only; omega), hv⟩, fun e => by (simp at e), by (dsimp only; omega)⟩
 ·exact h
theorem DB.setH {m : MarketS} {p : DD} {k t : Int} (h : DB m p) (hk : 3 ≤ k) : DB m (setH p k t) :=
 ⟨h.yes, h.veto, fun e => by (unfold Go.HL.setH at e; dsimp only at e; omega), fun e => by (unfold Go.HL.setH at e; dsimp only at e; omega), fun e => by (unfold Go.HL.setH at e; dsimp only at e; omega), by (unfold Go.HL.setH; dsimp only; omega)⟩
theorem DB.ans {m : MarketS} {a : ReplyS} {p : DD} (hv : 1 ≤ m.Vetoes) (h : DB m p) : DB m (zbe m a p) := by
 unfold zbe
 split
 ·exact h
 split
 ·rename_i hc
  obtain ⟨o1, o2⟩ := h.op hc.2.2
  have hs := zmb a.Team p.2.yes
  split
  ·exact ⟨by (dsimp only; omega), h.veto, fun e => by (simp at e), fun e => by (simp at e), fun _ => by (dsimp only; rw [o2]; simp; omega), by (dsimp only; omega)⟩
  ·rename_i hl
   exact ⟨by (dsimp only; omega), h.veto, fun e => by (dsimp only at e; omega), fun _ => ⟨by (dsimp only at hl ⊢; omega), o2⟩, fun e => by (dsimp only at e; omega), h.how⟩
 split
 ·exact h.setH (by omega)
 split
 ·exact h.setH (by omega)
 split
 ·rename_i hc
  have hw := h.wt hc.2.2
  have hs := zmb a.Team p.2.veto
  split
  ·exact ⟨h.yes, by (dsimp only; omega), fun e => by (simp at e), fun e => by (simp at e), fun e => by (simp at e), by (dsimp only; omega)⟩
  ·rename_i hl
   exact ⟨h.yes, by (dsimp only; omega), fun e => by (dsimp only at e; omega), fun e => by (dsimp only at e; omega), fun _ => by (dsimp only at hl ⊢; omega), h.how⟩
 ·exact h
theorem DB.pas {m : MarketS} {t : Int} {o : List OwnerS} {p : DD} (h : DB m p) : DB m (zaB m t o p).2.1 := by
 unfold zaB
 split
 ·split
  ·exact h.setH (by omega)
  split
  ·exact h.setH (by omega)
  ·exact h.setH (by omega)
 split
 ·exact h.setH (by omega)
 ·exact h
theorem zkA {m : MarketS} {o : List OwnerS} {l : List DealS} {a : List ReplyS} (h : FOk m l) : ∀ n, zd6 (DB m) (zV m o l a n).ds
 | 0 => fun p hp => by
   obtain ⟨x, _, rfl⟩ := List.mem_map.1 (show p ∈ l.map fun x => (x, zdQ) from hp)
   have := h.veto
   exact ⟨Nat.zero_le _, by (show ((0 : Nat) : Int) ≤ _; omega), fun _ => ⟨rfl, rfl⟩, fun e => by (simp [zdQ] at e), fun e => by (simp [zdQ] at e), by (show (0 : Int) ≤ 0; omega)⟩
 | n + 1 => by
   have ih := zkA (o := o) (a := a) h n
   rw [zV, stF]
   refine zhV (P := DB m) (fun o p hp => hp.pas) (zeK (fun r _ p hp => hp.ans h.veto) fun p hp => ?_)
   obtain ⟨q, hq, rfl⟩ := List.mem_map.1 hp
   exact (ih q hq).opn (h.two _ (zhc (zbt m o l a n) q hq))
theorem zrJ {m : MarketS} {o : List OwnerS} {l : List DealS} {a rs : List ReplyS} {n : Nat} {t : Int} (h : FOk m l) : zd6 (DB m) (zcj m rs ((zV m o l a n).ds.map (zbB t))) := by
 refine zeK (fun r _ p hp => hp.ans h.veto) fun p hp => ?_
 obtain ⟨q, hq, rfl⟩ := List.mem_map.1 hp
 exact (zkA h n q hq).opn (h.two _ (zhc (zbt m o l a n) q hq))
/-! since when one waits: since an answer -/
def DW (a : List ReplyS) (p : DD) : Prop := p.2.how = 2 → ∃ r ∈ a, r.At = p.2.since
theorem zoB {m : MarketS} {o : List OwnerS} {l : List DealS} {a : List ReplyS} : ∀ n, zd6 (DW a) (zV m o l a n).ds
 | 0 => fun p hp => by
   obtain ⟨x, _, rfl⟩ := List.mem_map.1 (show p ∈ l.map fun x => (x, zdQ) from hp)
   intro e; simp [zdQ] at e
 | n + 1 => by
   have ih := zoB (m := m) (o := o) (l := l) (a := a) n
   rw [zV, stF]
   refine zhV (P := DW a) (fun o p hp => ?_) (zeK (fun r hr p hp => ?_) fun p hp => ?_)
   ·unfold zaB setH DW
    split
    ·split
     ·intro e; simp at e
     split
     ·intro e; simp at e
     ·intro e; simp at e
    split
    ·intro e; simp at e
    ·exact hp
   ·have hra : r ∈ a := (List.mem_filter.1 (show r ∈ a.filter _ from hr)).1
    unfold zbe setH
    split
    ·exact hp
    split
    ·split
     ·exact fun _ => ⟨r, hra, rfl⟩
     ·exact hp
    split
    ·intro e; simp at e
    split
    ·intro e; simp at e
    split
    ·split
     ·intro e; simp at e
     ·exact hp
    ·exact hp
   ·obtain ⟨q, hq, rfl⟩ := List.mem_map.1 hp
    unfold zbB
    split
    ·intro e; simp at e
    ·exact ih q hq
/-! the reference's moments -/
def mo1 (l : List DealS) : List Int := l.flatMap fun x => [x.From, x.To]
def mo2 (m : MarketS) (a : List ReplyS) : List Int := a.flatMap fun r => [r.At, r.At + m.Wait]
def moA (m : MarketS) (l : List DealS) (a : List ReplyS) : List Int := [m.Deadline] ++ mo1 l ++ mo2 m a
def moL (m : MarketS) (l : List DealS) (a : List ReplyS) (u : Int) : List Int := (Lib.compact (zd4 (moA m l a))).filter fun n => !(decide (u < n))
theorem zpZ {l : List DealS} {k : Nat} {x : DealS} (h : l[k]? = some x) : mo1 (l.take (k + 1)) = mo1 (l.take k) ++ [x.From, x.To] := by unfold mo1; rw [zaE h, List.flatMap_append]; simp
theorem zqh {m : MarketS} {a : List ReplyS} {k : Nat} {x : ReplyS} (h : a[k]? = some x) : mo2 m (a.take (k + 1)) = mo2 m (a.take k) ++ [x.At, x.At + m.Wait] := by unfold mo2; rw [zaE h, List.flatMap_append]; simp
theorem zhb : ∀ l : List DealS, (mo1 l).length = 2 * l.length
 | [] => rfl
 | x :: r => by have := zhb r; unfold mo1 at this ⊢; rw [List.flatMap_cons, List.length_append, this]; simp; omega
theorem zi5 (m : MarketS) : ∀ a : List ReplyS, (mo2 m a).length = 2 * a.length
 | [] => rfl
 | x :: r => by have := zi5 m r; unfold mo2 at this ⊢; rw [List.flatMap_cons, List.length_append, this]; simp; omega
theorem zfn {m : MarketS} {l : List DealS} {a : List ReplyS} {u n : Int} : n ∈ moL m l a u ↔ n ∈ moA m l a ∧ n ≤ u := by
 unfold moL
 rw [List.mem_filter, zmd, zo7]
 simp
theorem zjO (m : MarketS) (l : List DealS) (a : List ReplyS) (u : Int) : (moL m l a u).Pairwise fun x y => x < y := (zlW _).sublist List.filter_sublist
theorem zre (m : MarketS) (l : List DealS) (a : List ReplyS) (u : Int) : (moL m l a u).length ≤ 1 + 2 * l.length + 2 * a.length := by
 have h1 := List.length_filter_le (fun n => !(decide (u < n))) (Lib.compact (zd4 (moA m l a)))
 have h2 := zg0 (zd4 (moA m l a))
 rw [zgV] at h2
 have h3 : (moA m l a).length = 1 + 2 * l.length + 2 * a.length := by unfold moA; rw [List.length_append, List.length_append, zhb, zi5]; rfl
 unfold moL; omega
theorem zpi {m : MarketS} {o : List OwnerS} {l : List DealS} {a : List ReplyS} {t : Int} {n : Nat} (h : t ∉ moA m l a) : zhn m a (zV m o l a n).ds t := by
 have h' : t ≠ m.Deadline ∧ t ∉ mo1 l ∧ t ∉ mo2 m a := by
  unfold moA at h
  simp only [List.mem_append, List.mem_singleton, not_or] at h
  exact ⟨h.1.1, h.1.2, h.2⟩
 obtain ⟨h1, h2, h3⟩ := h'
 refine ⟨h1, fun r hr e => h3 ?_, fun p hp => ?_⟩
 ·unfold mo2; exact List.mem_flatMap.2 ⟨r, hr, by simp [e]⟩
 ·have hm := zhc (zbt m o l a n) p hp
  refine ⟨fun e => h2 ?_, fun e => h2 ?_, fun hh e => h3 ?_⟩
  ·unfold mo1; exact List.mem_flatMap.2 ⟨p.1, hm, by simp [e]⟩
  ·unfold mo1; exact List.mem_flatMap.2 ⟨p.1, hm, by simp [e]⟩
  ·obtain ⟨r, hr, h4⟩ := zoB n p hp hh
   unfold mo2; exact List.mem_flatMap.2 ⟨r, hr, by rw [← e, ← h4]; simp⟩
/-- The za7 up to which all is done as the k-th of the reference's moments begins. -/
def nxN (L : List Int) (u : Int) (k : Nat) : Nat := match L[k]? with | some t => t.toNat | none => (u + 1).toNat
theorem zjr {m : MarketS} {o : List OwnerS} {l : List DealS} {a : List ReplyS} (hf : FOk m l) {q n : Nat} (hn : q ≤ n) (h : ∀ t : Nat, q ≤ t → t < n → (t : Int) ∉ moA m l a) : zV m o l a n = zV m o l a q :=
 zjz hf hn fun t h1 h2 => zpi (h t h1 h2)
theorem zmk {m : MarketS} {o : List OwnerS} {l : List DealS} {a : List ReplyS} {u : Int} (hf : FOk m l) : zV m o l a (nxN (moL m l a u) u 0) = zV m o l a 0 := by
 refine zjr hf (Nat.zero_le _) fun t _ ht hm => ?_
 unfold nxN at ht
 cases hL : moL m l a u with
 | nil =>
   rw [hL] at ht
   simp only [List.getElem?_nil] at ht
   have : (t : Int) ∈ moL m l a u := zfn.2 ⟨hm, by omega⟩
   rw [hL] at this; cases this
 | cons x r =>
   have hx : x ∈ moL m l a u := by rw [hL]; simp
   have hxu := (zfn.1 hx).2
   rw [hL] at ht
   simp only [List.getElem?_cons_zero] at ht
   have h3 : (t : Int) ∈ moL m l a u := zfn.2 ⟨hm, by omega⟩
   have hr := zjO m l a u
   rw [hL] at h3 hr
   rcases List.mem_cons.1 h3 with h3 | h3
   ·omega
   ·have := (List.pairwise_cons.1 hr).1 _ h3; omega
theorem zrG {m : MarketS} {o : List OwnerS} {l : List DealS} {a : List ReplyS} {u : Int} {k : Nat} {t : Int} (hf : FOk m l) (h0 : 0 ≤ t) (hk : (moL m l a u)[k]? = some t) : zV m o l a (nxN (moL m l a u) u (k + 1)) = zV m o l a (t.toNat + 1) := by
 have htu := (zfn.1 (List.mem_of_getElem? hk)).2
 have hd := zU hk
 have hr : (t :: (moL m l a u).drop (k + 1)).Pairwise fun x y => x < y := by rw [← hd]; exact (zjO m l a u).sublist (List.drop_sublist k _)
 have hle : t.toNat + 1 ≤ nxN (moL m l a u) u (k + 1) := by
  unfold nxN
  cases hn : (moL m l a u)[k + 1]? with
  | none => dsimp only; omega
  | some x =>
    have : x ∈ (moL m l a u).drop (k + 1) := by rw [zU hn]; simp
    have := (List.pairwise_cons.1 hr).1 x this
    dsimp only; omega
 refine zjr hf hle fun z h1 h2 hm => ?_
 have hzu : (z : Int) ≤ u := by
  unfold nxN at h2
  cases hn : (moL m l a u)[k + 1]? with
  | none => rw [hn] at h2; dsimp only at h2; omega
  | some x =>
    rw [hn] at h2; dsimp only at h2
    have := (zfn.1 (List.mem_of_getElem? hn)).2
    omega
 have hz : (z : Int) ∈ moL m l a u := zfn.2 ⟨hm, hzu⟩
 obtain ⟨j, hj⟩ := List.mem_iff_getElem?.1 hz
 have hpw := zjO m l a u
 rw [List.pairwise_iff_getElem] at hpw
 have hjl := zM hj
 have hkl := zM hk
 have ej : (moL m l a u)[j] = (z : Int) := by rw [List.getElem?_eq_getElem hjl] at hj; exact Option.some.inj hj
 have ek : (moL m l a u)[k] = t := by rw [List.getElem?_eq_getElem hkl] at hk; exact Option.some.inj hk
 rcases Nat.lt_or_ge k j with q | q
 ·-- behind the k-th
  unfold nxN at h2
  cases hn : (moL m l a u)[k + 1]? with
  | none =>
    have : (moL m l a u).length ≤ k + 1 := by simpa using hn
    omega
  | some x =>
    rw [hn] at h2; dsimp only at h2
    have hnl := zM hn
    have ex : (moL m l a u)[k + 1] = x := by rw [List.getElem?_eq_getElem hnl] at hn; exact Option.some.inj hn
    rcases Nat.lt_or_ge (k + 1) j with q2 | q2
    ·have := hpw (k + 1) j hnl hjl q2
     rw [ex, ej] at this; omega
    ·obtain rfl : j = k + 1 := by omega
     rw [ex] at ej; omega
 ·rcases Nat.lt_or_ge j k with q2 | q2
  ·have := hpw j k hjl hkl q2
   rw [ej, ek] at this; omega
  ·obtain rfl : j = k := by omega
   rw [ek] at ej; omega
theorem zr3 {L : List Int} {u t : Int} {k : Nat} (h : L[k]? = some t) : nxN L u k = t.toNat := by unfold nxN; rw [h]
theorem zrI {L : List Int} {u : Int} : nxN L u L.length = (u + 1).toNat := by unfold nxN; rw [List.getElem?_eq_none (Nat.le_refl _)]
end Go.HL
namespace Go.HL
section
variable {m : MarketS} {t : Int} {o : List OwnerS} {p : DD}
theorem zb7 (h1 : p.2.how = 1) (h2 : p.1.To ≤ t ∨ m.Deadline ≤ t) : zaB m t o p = (o, setH p 7 t, []) := by unfold zaB; rw [if_neg (by omega), if_pos ⟨h1, h2⟩]
theorem zb9 (h : p.2.how = 2 ∧ p.2.since + m.Wait ≤ t) (h2 : m.Deadline ≤ t) : zaB m t o p = (o, setH p 7 t, []) := by unfold zaB; rw [if_pos h, if_pos h2]
theorem zbJ (h : p.2.how = 2 ∧ p.2.since + m.Wait ≤ t) (h2 : ¬ m.Deadline ≤ t) (h3 : zb1 m o p.1.Gives = false) : zaB m t o p = (o, setH p 8 t, []) := by unfold zaB; rw [if_pos h, if_neg h2, if_neg (by simp [h3])]
theorem zca (h : p.2.how = 2 ∧ p.2.since + m.Wait ≤ t) (h2 : ¬ m.Deadline ≤ t) (h3 : zb1 m o p.1.Gives = true) : zaB m t o p = (zb8 o p.1.Gives, setH p 3 t, [(p.1, zb8 o p.1.Gives)]) := by unfold zaB; rw [if_pos h, if_neg h2, if_pos h3]
theorem za2 (h : ¬ (p.2.how = 2 ∧ p.2.since + m.Wait ≤ t)) (h2 : ¬ (p.2.how = 1 ∧ (p.1.To ≤ t ∨ m.Deadline ≤ t))) : zaB m t o p = (o, p, []) := by unfold zaB; rw [if_neg h, if_neg h2]
end
end Go.HL
end
