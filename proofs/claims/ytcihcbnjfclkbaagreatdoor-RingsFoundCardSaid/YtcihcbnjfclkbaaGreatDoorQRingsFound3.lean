/- Part 3 of the proof: a program logic, contracts of functions and plain facts; no conditions. -/
import Derived.Test.YtcihcbnjfclkbaaGreatDoorQRingsFound2
set_option linter.unusedVariables false
set_option linter.unusedSimpArgs false
namespace Go.Proofs.YtcihcbnjfclkbaaGreatDoor
set_option maxRecDepth 100000
set_option linter.unusedVariables false
set_option linter.unusedSimpArgs false
section
open Go.HL
/-- benchwarmer/benchref1.MarketFault -/
theorem zf2 [Tracks] {m : MarketS} (ht : m.Teams.length ≤ 1000000) (hs : ∀ s ∈ m.Teams, s.length ≤ 1000000) : zaa Tryz.prog 8 [zaS m] (.int .i64 (zae m)) := by
 refine Con.of_body Tryz.func8 rfl Tryz.ntmps8 rfl rfl ?_
 refine zb ?_
 refine dq (zaL rfl rfl) ?_
 refine das rfl ?_
 refine dn ?_
 refine zf ?_
 refine zm ?_
 refine zb ?_
 refine dq (zg zW rfl zF (by decide) rfl) ?_
 refine dq (zi zF rfl rfl rfl) ?_
 refine dq (zB zF rfl) ?_
 refine dq (zaJ rfl rfl) ?_
 refine das rfl ?_
 refine dn ?_
 refine zj rfl (fun h1 => ?_) (fun h2 => ?_)
 ·try simp at h1
  refine zb ?_
  refine das rfl ?_
  refine dn ?_
  refine zo ?_
  refine zC rfl ?_
  show HVal.int .i64 _ = _
  first
  | (rw [zae, if_pos (by simpa using h1)]; done)
  | (rw [zae, if_neg (by simpa using h2), if_pos (by omega)]; done)
  | (rw [zae, if_neg (by simpa using h2), if_neg (by omega), hg]; simp_all [zbt, leS]; done)
 ·try simp at h2
  refine zb ?_
  refine dq (zg zW rfl zF (by decide) rfl) ?_
  refine dq (zi zF rfl rfl rfl) ?_
  refine dq (zB zF rfl) ?_
  refine dq (zax rfl rfl) ?_
  refine das rfl ?_
  refine dn ?_
  refine zj rfl (fun h3 => ?_) (fun h4 => ?_)
  ·try simp at h3
   refine zb ?_
   refine das rfl ?_
   refine dn ?_
   refine zo ?_
   refine zC rfl ?_
   show HVal.int .i64 _ = _
   first
   | (rw [zae, if_pos (by simpa using h1)]; done)
   | (rw [zae, if_neg (by simpa using h2), if_pos (by omega)]; done)
   | (rw [zae, if_neg (by simpa using h2), if_neg (by omega), hg]; simp_all [zbt, leS]; done)
  ·try simp at h4
   refine zk ?_
   refine zz ?_
   refine ze ?_
   refine zf ?_
   refine zb ?_
   refine dq (zg zW rfl zF (by decide) rfl) ?_
   refine dq (zi zF rfl rfl rfl) ?_
   refine dq (zB zF rfl) ?_
   refine dmv rfl ?_
   refine dn ?_
   refine zm ?_
   refine z8 [2, 3, 4, 18, 19, 20, 21, 22, 23, 24, 25, 26, 27, 28, 29, 30, 31, 32, 33, 34, 35, 36, 37, 38, 39, 40] (fun (k : Nat) => [(18, .int .i64 k)]) (fun (k : Nat) => []) (fun (k : Nat) => k ≤ m.Teams.length ∧ (zeH m.Teams = zbt m.Teams k (m.Teams.drop k))) (fun (k : Nat) => m.Teams.length - k) (0) ?_ ?_ ?_ ?_
   ·exact ⟨Nat.zero_le _, rfl⟩
   ·exact ⟨rfl, trivial⟩
   ·exact List.Perm.refl _
   ·intro k hinv
    obtain ⟨hk, hg⟩ := hinv
    refine zb ?_
    refine dq (zJ rfl rfl) ?_
    refine dn ?_
    refine zf ?_
    refine zj rfl (fun h5 => ?_) (fun h6 => ?_)
    ·try simp at h5
     obtain ⟨x, hx⟩ : ∃ x, m.Teams[k]? = some x := ⟨_, List.getElem?_eq_getElem h5⟩
     have hdx := zK hx
     rw [hdx] at hg
     refine zk ?_
     refine ze ?_
     refine zf ?_
     refine zm ?_
     refine zb ?_
     refine dmv rfl ?_
     refine dq (zH zF ty9 rfl rfl rfl (by first | assumption | simp_all)) ?_
     refine dq (zi ty9 rfl rfl rfl) ?_
     refine das rfl ?_
     refine das rfl ?_
     refine dn ?_
     refine zm ?_
     refine zb ?_
     refine dmv rfl ?_
     refine dq (zw zpx rfl (WeakL.refl _) (zet (hs x (List.mem_of_getElem? hx)))) ?_
     refine dq (zaw rfl) ?_
     refine das rfl ?_
     refine dn ?_
     refine zj rfl (fun h7 => ?_) (fun h8 => ?_)
     ·try simp at h7
      refine zb ?_
      refine das rfl ?_
      refine dn ?_
      refine zo ?_
      refine zC rfl ?_
      show HVal.int .i64 _ = _
      first
      | (rw [zae, if_pos (by simpa using h1)]; done)
      | (rw [zae, if_neg (by simpa using h2), if_pos (by omega)]; done)
      | (rw [zae, if_neg (by simpa using h2), if_neg (by omega), hg]; simp_all [zbt, leS]; done)
     ·try simp at h8
      refine zb ?_
      refine dmv rfl ?_
      refine dq (zax rfl rfl) ?_
      refine dmv rfl ?_
      refine dg rfl rfl (fun hc => ⟨_, OpenTo.refl _, zd rfl⟩) ?_
      refine dg rfl rfl (fun hc => ⟨_, OpenTo.refl _, zg zW rfl zF (by decide) rfl⟩) ?_
      refine dg rfl rfl (fun hc => ⟨_, OpenTo.upd (t := 32) rfl (by first | exact hc | simp_all) (OpenTo.refl _), zi zF rfl rfl rfl⟩) ?_
      refine dg rfl rfl (fun hc => ⟨_, OpenTo.refl _, zd rfl⟩) ?_
      refine dg rfl rfl (fun hc => by have hq := hc; (try simp at hq); exact ⟨_, OpenTo.upd (t := 34) rfl (by first | exact hc | simp_all) (OpenTo.refl _), zay rfl rfl (by omega) (by omega)⟩) ?_
      refine dg rfl rfl (fun hc => by have hq := hc; (try simp at hq); exact ⟨_, OpenTo.upd (t := 35) rfl (by first | exact hc | simp_all) (OpenTo.upd (t := 33) rfl (by first | exact hc | simp_all) (OpenTo.refl _)), zH (j := k - 1) (a := m.Teams.getD (k - 1) []) zF ty9 rfl rfl (by omega) (getD_some (by omega))⟩) ?_
      refine dg rfl rfl (fun hc => ⟨_, OpenTo.upd (t := 36) rfl (by first | exact hc | simp_all) (OpenTo.refl _), zi ty9 rfl rfl rfl⟩) ?_
      refine dg rfl rfl (fun hc => ⟨_, OpenTo.upd (t := 37) rfl (by first | exact hc | simp_all) (OpenTo.upd (t := 31) rfl (by first | exact hc | simp_all) (OpenTo.refl _)), zdp rfl rfl⟩) ?_
      refine dq (zL rfl (.inr ⟨_, rfl, fun h => by simp_all⟩) (.inl rfl)) ?_
      refine das rfl ?_
      refine dn ?_
      refine zj rfl (fun h9 => ?_) (fun h10 => ?_)
      ·try simp at h9
       refine zb ?_
       refine das rfl ?_
       refine dn ?_
       refine zo ?_
       refine zC rfl ?_
       show HVal.int .i64 _ = _
       first
       | (rw [zae, if_pos (by simpa using h1)]; done)
       | (rw [zae, if_neg (by simpa using h2), if_pos (by omega)]; done)
       | (rw [zae, if_neg (by simpa using h2), if_neg (by omega), hg]; simp_all [zbt, leS]; done)
      ·try simp at h10
       refine zk ?_
       refine zz ?_
       refine zz ?_
       refine ze ?_
       refine zy ?_
       refine dq (zv rfl rfl (by omega) (by omega)) ?_
       refine dmv rfl ?_
       refine dn ?_
       refine ⟨k + 1, ?_, ?_, ⟨rfl, trivial⟩, (by repeat (first | exact zp | refine zu rfl ?_ | refine zq rfl rfl ?_)), List.Perm.refl _⟩
       ·refine ⟨by omega, ?_⟩
        rw [hg]; simp_all [zbt, leS]
       ·dsimp only; omega
    ·try simp at h6
     have hnk : m.Teams.length ≤ k := by omega
     obtain rfl : k = m.Teams.length := by omega
     rw [z6 (Nat.le_refl _)] at hg
     refine zN ?_
     refine zS ?_
     refine zag ?_
     refine zE ?_
     refine ze ?_
     refine zf ?_
     refine zb ?_
     refine dq (zg zW rfl ty3 (by decide) rfl) ?_
     refine dq (zi ty3 rfl rfl rfl) ?_
     refine dq (zw zka rfl (WeakL.refl _) zcp) ?_
     refine dq (zaw rfl) ?_
     refine dmv rfl ?_
     refine dg rfl rfl (fun hc => ⟨_, OpenTo.refl _, zg zW rfl ty3 (by decide) rfl⟩) ?_
     refine dg rfl rfl (fun hc => ⟨_, OpenTo.upd (t := 46) rfl (by first | exact hc | simp_all) (OpenTo.refl _), zi ty3 rfl rfl rfl⟩) ?_
     refine dg rfl rfl (fun hc => ⟨_, OpenTo.upd (t := 47) rfl (by first | exact hc | simp_all) (OpenTo.refl _), zw zka rfl (WeakL.refl _) zcp⟩) ?_
     refine dg rfl rfl (fun hc => ⟨_, OpenTo.upd (t := 48) rfl (by first | exact hc | simp_all) (OpenTo.refl _), zaw rfl⟩) ?_
     refine dq (zL rfl (.inl rfl) (.inr ⟨_, rfl, fun h => by simp_all⟩)) ?_
     refine dmv rfl ?_
     refine dg rfl rfl (fun hc => ⟨_, OpenTo.refl _, zg zW rfl ty3 (by decide) rfl⟩) ?_
     refine dg rfl rfl (fun hc => ⟨_, OpenTo.upd (t := 52) rfl (by first | exact hc | simp_all) (OpenTo.refl _), zi ty3 rfl rfl rfl⟩) ?_
     refine dg rfl rfl (fun hc => ⟨_, OpenTo.upd (t := 53) rfl (by first | exact hc | simp_all) (OpenTo.refl _), zw zka rfl (WeakL.refl _) zcp⟩) ?_
     refine dg rfl rfl (fun hc => ⟨_, OpenTo.upd (t := 54) rfl (by first | exact hc | simp_all) (OpenTo.refl _), zaw rfl⟩) ?_
     refine dq (zL rfl (.inl rfl) (.inr ⟨_, rfl, fun h => by simp_all⟩)) ?_
     refine dmv rfl ?_
     refine dg rfl rfl (fun hc => ⟨_, OpenTo.refl _, zg zW rfl ty3 (by decide) rfl⟩) ?_
     refine dg rfl rfl (fun hc => ⟨_, OpenTo.upd (t := 58) rfl (by first | exact hc | simp_all) (OpenTo.refl _), zi ty3 rfl rfl rfl⟩) ?_
     refine dg rfl rfl (fun hc => ⟨_, OpenTo.refl _, zg zW rfl ty3 (by decide) rfl⟩) ?_
     refine dg rfl rfl (fun hc => ⟨_, OpenTo.upd (t := 60) rfl (by first | exact hc | simp_all) (OpenTo.refl _), zi ty3 rfl rfl rfl⟩) ?_
     refine dg rfl rfl (fun hc => ⟨_, OpenTo.upd (t := 61) rfl (by first | exact hc | simp_all) (OpenTo.upd (t := 59) rfl (by first | exact hc | simp_all) (OpenTo.refl _)), zw zka rfl (WeakL.refl _) zcp⟩) ?_
     refine dg rfl rfl (fun hc => ⟨_, OpenTo.upd (t := 62) rfl (by first | exact hc | simp_all) (OpenTo.refl _), zaw rfl⟩) ?_
     refine dq (zL rfl (.inl rfl) (.inr ⟨_, rfl, fun h => by simp_all⟩)) ?_
     refine dmv rfl ?_
     refine dg rfl rfl (fun hc => ⟨_, OpenTo.refl _, zg zW rfl ty3 (by decide) rfl⟩) ?_
     refine dg rfl rfl (fun hc => ⟨_, OpenTo.upd (t := 66) rfl (by first | exact hc | simp_all) (OpenTo.refl _), zi ty3 rfl rfl rfl⟩) ?_
     refine dg rfl rfl (fun hc => ⟨_, OpenTo.upd (t := 67) rfl (by first | exact hc | simp_all) (OpenTo.refl _), zax rfl rfl⟩) ?_
     refine dq (zL rfl (.inl rfl) (.inr ⟨_, rfl, fun h => by simp_all⟩)) ?_
     refine dn ?_
     refine zj rfl (fun h11 => ?_) (fun h12 => ?_)
     ·try simp at h11
      refine zb ?_
      refine das rfl ?_
      refine dn ?_
      refine zo ?_
      refine zC rfl ?_
      show HVal.int .i64 _ = _
      first
      | (rw [zae, if_pos (by simpa using h1)]; done)
      | (rw [zae, if_neg (by simpa using h2), if_pos (by omega)]; done)
      | (rw [zae, if_neg (by simpa using h2), if_neg (by omega), hg]; simp_all [zbt, leS]; done)
     ·try simp at h12
      refine zk ?_
      refine ze ?_
      refine zb ?_
      refine das rfl ?_
      refine dn ?_
      refine zo ?_
      refine zC rfl ?_
      show HVal.int .i64 _ = _
      first
      | (rw [zae, if_pos (by simpa using h1)]; done)
      | (rw [zae, if_neg (by simpa using h2), if_pos (by omega)]; done)
      | (rw [zae, if_neg (by simpa using h2), if_neg (by omega), hg]; simp_all [zbt, leS]; done)

/-- benchwarmer/benchref1.hasTeam -/
theorem zhg [Tracks] {m : MarketS} {t : Str} (ht : m.Teams.length ≤ 1000000) : zaa Tryz.prog 43 [zaS m, .str t] (.bool (m.Teams.contains t)) := by
 refine Con.of_body Tryz.func43 rfl Tryz.ntmps43 rfl rfl ?_
 refine zb ?_
 refine dq (zaL rfl rfl) ?_
 refine das rfl ?_
 refine dn ?_
 refine zb ?_
 refine dq (zg zW rfl zF (by decide) rfl) ?_
 refine dq (zi zF rfl rfl rfl) ?_
 refine dmv rfl ?_
 refine dq (zw zl4 rfl (WeakL.refl _) (zaW (l := m.Teams) (s := t) (by omega))) ?_
 refine das rfl ?_
 refine dn ?_
 refine zo ?_
 refine zC rfl ?_
 rfl

/-- benchwarmer/benchref1.fits -/
theorem zi9 [Tracks] {m : MarketS} {o : List OwnerS} (ht : m.Teams.length ≤ 1000000) (ho : o.length ≤ 1000000) : zaa Tryz.prog 44 [zaS m, zbd o] (.bool (ze1 m o)) := by
 refine Con.of_body Tryz.func44 rfl Tryz.ntmps44 rfl rfl ?_
 refine zb ?_
 refine dq (zaL rfl rfl) ?_
 refine das rfl ?_
 refine dn ?_
 refine zf ?_
 refine zb ?_
 refine dq (zg zW rfl zF (by decide) rfl) ?_
 refine dq (zi zF rfl rfl rfl) ?_
 refine dq (zB zF rfl) ?_
 refine dmv rfl ?_
 refine dn ?_
 refine zm ?_
 refine z8 [4, 6, 7, 9, 13, 14, 15, 16, 17, 18, 19, 20, 21, 22, 23, 24, 25, 26, 27, 28, 29, 30, 31, 32, 33, 34, 35, 36, 37] (fun (k : Nat) => [(13, .int .i64 k)]) (fun (k : Nat) => []) (fun (k : Nat) => k ≤ m.Teams.length ∧ (ze1 m o = (m.Teams.drop k).all fun t => !(out (zcT o t) m.Least m.Most))) (fun (k : Nat) => m.Teams.length - k) (0) ?_ ?_ ?_ ?_
 ·exact ⟨Nat.zero_le _, rfl⟩
 ·exact ⟨rfl, trivial⟩
 ·exact List.Perm.refl _
 ·intro k hinv
  obtain ⟨hk, hg⟩ := hinv
  refine zb ?_
  refine dq (zJ rfl rfl) ?_
  refine dn ?_
  refine zf ?_
  refine zj rfl (fun h1 => ?_) (fun h2 => ?_)
  ·try simp at h1
   obtain ⟨x, hx⟩ : ∃ x, m.Teams[k]? = some x := ⟨_, List.getElem?_eq_getElem h1⟩
   have hdx := zK hx
   rw [hdx, List.all_cons] at hg
   refine zk ?_
   refine ze ?_
   refine zf ?_
   refine zm ?_
   refine zb ?_
   refine dq (zH zF ty9 rfl rfl rfl (by first | assumption | simp_all)) ?_
   refine dq (zi ty9 rfl rfl rfl) ?_
   refine das rfl ?_
   refine dn ?_
   refine zb ?_
   refine das rfl ?_
   refine dn ?_
   refine zf ?_
   refine zb ?_
   refine dmv rfl ?_
   refine dq (zB zat rfl) ?_
   refine dmv rfl ?_
   refine dn ?_
   refine zm ?_
   refine z8 [7, 9, 19, 20, 21, 22, 23, 24, 25, 26, 27, 28, 29] (fun (j : Nat) => [(19, .int .i64 j), (7, .int .i64 (zcT (o.take j) x))]) (fun (j : Nat) => []) (fun (j : Nat) => j ≤ o.length ∧ (True)) (fun (j : Nat) => o.length - j) (0) ?_ ?_ ?_ ?_
   ·exact ⟨Nat.zero_le _, trivial⟩
   ·exact ⟨rfl, rfl, trivial⟩
   ·exact List.Perm.refl _
   ·intro j hinv
    obtain ⟨hj, -⟩ := hinv
    refine zb ?_
    refine dq (zJ rfl rfl) ?_
    refine dn ?_
    refine zf ?_
    refine zj rfl (fun h3 => ?_) (fun h4 => ?_)
    ·try simp at h3
     obtain ⟨y, hy⟩ : ∃ y, o[j]? = some y := ⟨_, List.getElem?_eq_getElem h3⟩
     have hdy := zK hy
     refine zk ?_
     refine ze ?_
     refine zf ?_
     refine zm ?_
     refine zb ?_
     refine dq (zH zat zZ rfl rfl rfl (by first | assumption | simp_all)) ?_
     refine dq (zY zZ rfl rfl rfl rfl) ?_
     refine de rfl (zab zZ rfl fun b9 => ?_)
     refine de0 (zao zZ rfl rfl rfl rfl rfl ?_)
     refine dn ?_
     refine zO (Ghost.fc0 9 rfl) ?_
     refine zb ?_
     refine dq (zg zZ rfl ty9 (by decide) rfl) ?_
     refine dq (zi ty9 rfl rfl rfl) ?_
     refine dmv rfl ?_
     refine dq (zbb rfl rfl) ?_
     refine dn ?_
     refine zj rfl (fun h5 => ?_) (fun h6 => ?_)
     ·try simp at h5
      refine zy ?_
      refine dmv rfl ?_
      have hcb := zm4 (o.take j) x
      rw [List.length_take] at hcb
      refine dq (zv rfl rfl (by omega) (by omega)) ?_
      refine das rfl ?_
      refine dn ?_
      refine zz ?_
      refine ze ?_
      refine zy ?_
      refine dq (zv rfl rfl (by omega) (by omega)) ?_
      refine dmv rfl ?_
      refine dn ?_
      exact ⟨j + 1, ⟨by omega, trivial⟩, by dsimp only; omega, ⟨rfl, zbY (by rw [ziM o x j y hy, if_pos (by simp_all)]), trivial⟩, (by repeat (first | exact zp | refine zu rfl ?_ | refine zq rfl rfl ?_)), List.Perm.refl _⟩
     ·try simp at h6
      refine zk ?_
      refine zz ?_
      refine ze ?_
      refine zy ?_
      refine dq (zv rfl rfl (by omega) (by omega)) ?_
      refine dmv rfl ?_
      refine dn ?_
      exact ⟨j + 1, ⟨by omega, trivial⟩, by dsimp only; omega, ⟨rfl, zbY (by rw [ziM o x j y hy, if_neg (by simp_all), Int.add_zero]), trivial⟩, (by repeat (first | exact zp | refine zu rfl ?_ | refine zq rfl rfl ?_)), List.Perm.refl _⟩
    ·try simp at h4
     have hnj : o.length ≤ j := by omega
     obtain rfl : j = o.length := by omega
     rw [List.take_length]
     refine zN ?_
     refine zS ?_
     refine zag ?_
     refine zE ?_
     refine ze ?_
     refine zb ?_
     refine dmv rfl ?_
     refine dq (zg zW rfl ty3 (by decide) rfl) ?_
     refine dq (zi ty3 rfl rfl rfl) ?_
     refine dq (zg zW rfl ty3 (by decide) rfl) ?_
     refine dq (zi ty3 rfl rfl rfl) ?_
     refine dq (zw zka rfl (WeakL.refl _) zcp) ?_
     refine dq (zaw rfl) ?_
     refine dn ?_
     refine zj rfl (fun h7 => ?_) (fun h8 => ?_)
     ·try simp at h7
      refine zb ?_
      refine das rfl ?_
      refine dn ?_
      refine zo ?_
      refine zC rfl ?_
      show HVal.bool _ = _
      rw [hg]; simp_all
     ·try simp at h8
      refine zk ?_
      refine zz ?_
      refine ze ?_
      refine zy ?_
      refine dq (zv rfl rfl (by omega) (by omega)) ?_
      refine dmv rfl ?_
      refine dn ?_
      refine ⟨k + 1, ?_, ?_, ⟨rfl, trivial⟩, (by repeat (first | exact zp | refine zu rfl ?_ | refine zq rfl rfl ?_)), List.Perm.refl _⟩
      ·refine ⟨by omega, ?_⟩
       rw [hg]; simp_all
      ·dsimp only; omega
  ·try simp at h2
   have hnk : m.Teams.length ≤ k := by omega
   obtain rfl : k = m.Teams.length := by omega
   rw [z6 (Nat.le_refl _)] at hg
   refine zN ?_
   refine zS ?_
   refine zag ?_
   refine zE ?_
   refine ze ?_
   refine zb ?_
   refine das rfl ?_
   refine dn ?_
   refine zo ?_
   refine zC rfl ?_
   show HVal.bool _ = _
   rw [hg]; simp_all

/-- benchwarmer/benchref1.OwnersFault -/
theorem zf1 [Tracks] {m : MarketS} {o : List OwnerS} (ht : m.Teams.length ≤ 1000000) (ho : o.length ≤ 1000000) (hs : ∀ x ∈ o, x.Player.length ≤ 1000000) : zaa Tryz.prog 10 [zaS m, zbd o] (.int .i64 (zbT m o)) := by
 refine Con.of_body Tryz.func10 rfl Tryz.ntmps10 rfl rfl ?_
 refine zb ?_
 refine dq (zaL rfl rfl) ?_
 refine das rfl ?_
 refine dn ?_
 refine zf ?_
 refine zb ?_
 refine dmv rfl ?_
 refine dq (zB zat rfl) ?_
 refine dq (zax rfl rfl) ?_
 refine dn ?_
 refine zj rfl (fun h1 => ?_) (fun h2 => ?_)
 ·try simp at h1
  refine zb ?_
  refine das rfl ?_
  refine dn ?_
  refine zo ?_
  refine zC rfl ?_
  show HVal.int .i64 _ = _
  first
  | (exact congrArg _ (zcl (by omega)))
  | (rw [← zcq (by omega) hg]; simp_all; done)
  | (refine congrArg _ (zaT (e := 5) (by omega) hg (by decide) ?_)
     rw [zaI, if_pos]
     simp_all
     done)
  | (refine congrArg _ (zaT (e := 8) (by omega) hg (by decide) ?_)
     rw [zaI, if_neg, if_pos]
     all_goals simp_all
     done)
  | (refine congrArg _ (zco (by omega) hg ?_ ?_ ?_)
     ·rw [zaI, if_neg, if_neg] <;> simp_all
     ·simp_all
     ·simp_all)
 ·try simp at h2
  refine zk ?_
  refine ze ?_
  refine zf ?_
  refine zb ?_
  refine dmv rfl ?_
  refine dq (zB zat rfl) ?_
  refine dmv rfl ?_
  refine dn ?_
  refine zm ?_
  refine z8 [4, 5, 6, 12, 13, 14, 15, 16, 17, 18, 19, 20, 21, 22, 23, 24, 25, 26, 27, 28, 29, 30, 31, 32, 33, 34, 35, 36, 37, 38, 39, 40, 41, 42] (fun (k : Nat) => [(12, .int .i64 k)]) (fun (k : Nat) => []) (fun (k : Nat) => k ≤ o.length ∧ (zc4 m o = zaB (zaI m) zd8 zbF o k (o.drop k))) (fun (k : Nat) => o.length - k) (0) ?_ ?_ ?_ ?_
  ·exact ⟨Nat.zero_le _, rfl⟩
  ·exact ⟨rfl, trivial⟩
  ·exact List.Perm.refl _
  ·intro k hinv
   obtain ⟨hk, hg⟩ := hinv
   refine zb ?_
   refine dq (zJ rfl rfl) ?_
   refine dn ?_
   refine zf ?_
   refine zj rfl (fun h3 => ?_) (fun h4 => ?_)
   ·try simp at h3
    obtain ⟨x, hx⟩ : ∃ x, o[k]? = some x := ⟨_, List.getElem?_eq_getElem h3⟩
    have hdx := zK hx
    rw [hdx] at hg
    refine zk ?_
    refine ze ?_
    refine zf ?_
    refine zm ?_
    refine zb ?_
    refine dmv rfl ?_
    refine dq (zH zat zZ rfl rfl rfl (by first | assumption | simp_all)) ?_
    refine dq (zY zZ rfl rfl rfl rfl) ?_
    refine de rfl (zab zZ rfl fun b6 => ?_)
    refine das rfl ?_
    refine de0 (zao zZ rfl rfl rfl rfl rfl ?_)
    refine dn ?_
    refine zO (Ghost.fc0 6 rfl) ?_
    refine zm ?_
    refine zb ?_
    refine dq (zg zZ rfl ty9 (by decide) rfl) ?_
    refine dq (zi ty9 rfl rfl rfl) ?_
    refine dq (zw zpx rfl (WeakL.refl _) (zet (hs x (List.mem_of_getElem? hx)))) ?_
    refine dq (zaw rfl) ?_
    refine das rfl ?_
    refine dn ?_
    refine zj rfl (fun h5 => ?_) (fun h6 => ?_)
    ·try simp at h5
     refine zb ?_
     refine das rfl ?_
     refine dn ?_
     refine zo ?_
     refine zC rfl ?_
     show HVal.int .i64 _ = _
     first
     | (exact congrArg _ (zcl (by omega)))
     | (rw [← zcq (by omega) hg]; simp_all; done)
     | (refine congrArg _ (zaT (e := 5) (by omega) hg (by decide) ?_)
        rw [zaI, if_pos]
        simp_all
        done)
     | (refine congrArg _ (zaT (e := 8) (by omega) hg (by decide) ?_)
        rw [zaI, if_neg, if_pos]
        all_goals simp_all
        done)
     | (refine congrArg _ (zco (by omega) hg ?_ ?_ ?_)
        ·rw [zaI, if_neg, if_neg] <;> simp_all
        ·simp_all
        ·simp_all)
    ·try simp at h6
     refine zb ?_
     refine dq (zY zW rfl rfl rfl rfl) ?_
     refine dq (zg zZ rfl ty9 (by decide) rfl) ?_
     refine dq (zi ty9 rfl rfl rfl) ?_
     refine dq (zw ca43 rfl (WeakL.refl _) (zhg (by first | assumption | omega | (simp; omega) | simp_all))) ?_
     refine dq (zaw rfl) ?_
     refine das rfl ?_
     refine dn ?_
     refine zj rfl (fun h7 => ?_) (fun h8 => ?_)
     ·try simp at h7
      refine zb ?_
      refine das rfl ?_
      refine dn ?_
      refine zo ?_
      refine zC rfl ?_
      show HVal.int .i64 _ = _
      first
      | (exact congrArg _ (zcl (by omega)))
      | (rw [← zcq (by omega) hg]; simp_all; done)
      | (refine congrArg _ (zaT (e := 5) (by omega) hg (by decide) ?_)
         rw [zaI, if_pos]
         simp_all
         done)
      | (refine congrArg _ (zaT (e := 8) (by omega) hg (by decide) ?_)
         rw [zaI, if_neg, if_pos]
         all_goals simp_all
         done)
      | (refine congrArg _ (zco (by omega) hg ?_ ?_ ?_)
         ·rw [zaI, if_neg, if_neg] <;> simp_all
         ·simp_all
         ·simp_all)
     ·try simp at h8
      refine za7 (fun _ => True) [] mixed ?_
      refine ahp 0 rfl rfl (by kernel_rfl) (by kernel_rfl) (zd rfl) ?_
      refine ahp 1 rfl rfl (by kernel_rfl) (by kernel_rfl) (zax rfl rfl) ?_
      refine ahp 2 rfl rfl (by kernel_rfl) (by kernel_rfl) (zd rfl) ?_
      refine ahg 3 rfl rfl (by kernel_rfl) (by kernel_rfl) rfl (fun hc => ⟨_, OpenTo.refl _, zg zZ rfl ty9 (by decide) rfl⟩) ?_
      refine ahg 4 rfl rfl (by kernel_rfl) (by kernel_rfl) rfl (fun hc => ⟨_, OpenTo.upd (t := 32) rfl (by first | exact hc | simp_all) (OpenTo.refl _), zi ty9 rfl rfl rfl⟩) ?_
      refine ahg 5 rfl rfl (by kernel_rfl) (by kernel_rfl) rfl (fun hc => ⟨_, OpenTo.refl _, zd rfl⟩) ?_
      refine ahg 6 rfl rfl (by kernel_rfl) (by kernel_rfl) rfl (fun hc => ⟨_, OpenTo.refl _, zd rfl⟩) ?_
      refine ahg 7 rfl rfl (by kernel_rfl) (by kernel_rfl) rfl (fun hc => by have hq := hc; (try simp at hq); exact ⟨_, OpenTo.upd (t := 35) rfl (by first | exact hc | simp_all) (OpenTo.refl _), zay rfl rfl (by omega) (by omega)⟩) ?_
      refine ahg 8 rfl rfl (by kernel_rfl) (by kernel_rfl) rfl (fun hc => by have hq := hc; (try simp at hq); exact ⟨_, OpenTo.upd (t := 36) rfl (by first | exact hc | simp_all) (OpenTo.upd (t := 34) rfl (by first | exact hc | simp_all) (OpenTo.refl _)), zH (j := k - 1) (a := o.getD (k - 1) zbF) zat zZ rfl rfl (by omega) (getD_some (by omega))⟩) ?_
      refine ahg 9 rfl rfl (by kernel_rfl) (by kernel_rfl) rfl (fun hc => ⟨_, OpenTo.upd (t := 37) rfl (by first | exact hc | simp_all) (OpenTo.refl _), zg zZ rfl ty9 (by decide) rfl⟩) ?_
      refine ahg 10 rfl rfl (by kernel_rfl) (by kernel_rfl) rfl (fun hc => ⟨_, OpenTo.upd (t := 38) rfl (by first | exact hc | simp_all) (OpenTo.refl _), zi ty9 rfl rfl rfl⟩) ?_
      refine ahg 11 rfl rfl (by kernel_rfl) (by kernel_rfl) rfl (fun hc => ⟨_, OpenTo.upd (t := 39) rfl (by first | exact hc | simp_all) (OpenTo.upd (t := 33) rfl (by first | exact hc | simp_all) (OpenTo.refl _)), zdp rfl rfl⟩) ?_
      refine ahp 12 rfl rfl (by kernel_rfl) (by kernel_rfl) (zL rfl (.inr ⟨_, rfl, fun h => by simp_all⟩) (.inl rfl)) ?_
      refine ahp 13 rfl rfl (by kernel_rfl) (by kernel_rfl) (zaK rfl) ?_
      refine ahz (by kernel_rfl) ?_
      refine zj rfl (fun h9 => ?_) (fun h10 => ?_)
      ·try simp at h9
       refine zb ?_
       refine das rfl ?_
       refine dn ?_
       refine zo ?_
       refine zC rfl ?_
       show HVal.int .i64 _ = _
       first
       | (exact congrArg _ (zcl (by omega)))
       | (rw [← zcq (by omega) hg]; simp_all; done)
       | (refine congrArg _ (zaT (e := 5) (by omega) hg (by decide) ?_)
          rw [zaI, if_pos]
          simp_all
          done)
       | (refine congrArg _ (zaT (e := 8) (by omega) hg (by decide) ?_)
          rw [zaI, if_neg, if_pos]
          all_goals simp_all
          done)
       | (refine congrArg _ (zco (by omega) hg ?_ ?_ ?_)
          ·rw [zaI, if_neg, if_neg] <;> simp_all
          ·simp_all
          ·simp_all)
      ·try simp at h10
       refine zk ?_
       refine zz ?_
       refine zz ?_
       refine ze ?_
       refine zy ?_
       refine dq (zv rfl rfl (by omega) (by omega)) ?_
       refine dmv rfl ?_
       refine dn ?_
       refine ⟨k + 1, ?_, ?_, ⟨rfl, trivial⟩, (by repeat (first | exact zp | refine zu rfl ?_ | refine zq rfl rfl ?_)), List.Perm.refl _⟩
       ·refine ⟨by omega, ?_⟩
        rw [hg, zmP (by rw [zaI, if_neg (by simp_all), if_neg (by simp_all)]) (by intro hk0; simp_all)]
       ·dsimp only; omega
   ·try simp at h4
    have hnk : o.length ≤ k := by omega
    obtain rfl : k = o.length := by omega
    rw [z6 (Nat.le_refl _)] at hg
    refine zN ?_
    refine zS ?_
    refine zag ?_
    refine zE ?_
    refine ze ?_
    refine zf ?_
    refine zb ?_
    refine dq (zY zW rfl rfl rfl rfl) ?_
    refine dmv rfl ?_
    refine dq (zw ca44 rfl (WeakL.refl _) (zi9 (by first | assumption | omega | (simp; omega) | simp_all) (by first | assumption | omega | (simp; omega) | simp_all))) ?_
    refine dq (zaw rfl) ?_
    refine dn ?_
    refine zj rfl (fun h11 => ?_) (fun h12 => ?_)
    ·try simp at h11
     refine zb ?_
     refine das rfl ?_
     refine dn ?_
     refine zo ?_
     refine zC rfl ?_
     show HVal.int .i64 _ = _
     first
     | (exact congrArg _ (zcl (by omega)))
     | (rw [← zcq (by omega) hg]; simp_all; done)
     | (refine congrArg _ (zaT (e := 5) (by omega) hg (by decide) ?_)
        rw [zaI, if_pos]
        simp_all
        done)
     | (refine congrArg _ (zaT (e := 8) (by omega) hg (by decide) ?_)
        rw [zaI, if_neg, if_pos]
        all_goals simp_all
        done)
     | (refine congrArg _ (zco (by omega) hg ?_ ?_ ?_)
        ·rw [zaI, if_neg, if_neg] <;> simp_all
        ·simp_all
        ·simp_all)
    ·try simp at h12
     refine zk ?_
     refine ze ?_
     refine zb ?_
     refine das rfl ?_
     refine dn ?_
     refine zo ?_
     refine zC rfl ?_
     show HVal.int .i64 _ = _
     first
     | (exact congrArg _ (zcl (by omega)))
     | (rw [← zcq (by omega) hg]; simp_all; done)
     | (refine congrArg _ (zaT (e := 5) (by omega) hg (by decide) ?_)
        rw [zaI, if_pos]
        simp_all
        done)
     | (refine congrArg _ (zaT (e := 8) (by omega) hg (by decide) ?_)
        rw [zaI, if_neg, if_pos]
        all_goals simp_all
        done)
     | (refine congrArg _ (zco (by omega) hg ?_ ?_ ?_)
        ·rw [zaI, if_neg, if_neg] <;> simp_all
        ·simp_all
        ·simp_all)
end
section
open Go.HL
/-- slices.Clone[[]benchwarmer/api.Owner,benchwarmer/api.Owner] -/
theorem zdT [Tracks] {l : List OwnerS} (hl : l.length ≤ 1000000) : ziW Tryz.prog 143 [.slice 2 (l.map zas)] 2 (l.map zas) := by
 refine Con.of_body Tryz.func143 rfl Tryz.ntmps143 rfl rfl ?_
 refine zb ?_
 refine das rfl ?_
 refine dn ?_
 refine zf ?_
 refine zb ?_
 refine dmv rfl ?_
 refine de rfl (zhI zat rfl rfl fun b4 hb4 => ?_)
 refine dn ?_
 refine zj rfl (fun h1 => ?_) (fun h2 => ?_)
 ·try simp at h1
  refine zb ?_
  refine das rfl ?_
  refine dn ?_
  refine zo ?_
  first | exact zjm rfl rfl | exact zbO (Ghost.arr_nil 2) rfl ⟨_, rfl, by simp_all⟩
 ·try simp at h2
  refine zk ?_
  refine ze ?_
  refine zb ?_
  refine de rfl (zib zat zZ fun v5 => ?_)
  refine dmv rfl ?_
  refine de rfl (zah (i := 0) zat zZ rfl rfl rfl rfl rfl (by simp [zaD, zl]) (by first | omega | (simp; omega)) fun v7 => ?_)
  refine das rfl ?_
  refine dn ?_
  refine zo ?_
  first | exact zjm rfl rfl | exact zbO (Ghost.arr_nil 2) rfl ⟨_, rfl, by simp_all⟩

/-- slices.BinarySearchFunc[[]benchwarmer/api.Owner,benchwarmer/api.Owner,string] -/
theorem zer [Tracks] {l : List OwnerS} {s : Str} {fid : FuncId} (hca : Callable Tryz.prog fid) (hp : ∀ x : OwnerS, zaa Tryz.prog fid [zas x, .str s] (.int .i64 (za2 x.Player s))) (hl : l.length ≤ 1000000) (hs : SortedS (l.map (·.Player))) : zaa Tryz.prog 144 [zbd l, .str s, .fn (.func fid) [] []] (.tup [.int .i64 (zcw (l.map (·.Player)) s), .bool ((l.map (·.Player)).contains s)]) := by
 have hLl : (l.map (·.Player)).length = l.length := List.length_map _
 refine Con.of_body Tryz.func144 rfl Tryz.ntmps144 rfl rfl ?_
 refine zb ?_
 refine das rfl ?_
 refine das rfl ?_
 refine dn ?_
 refine zb ?_
 refine dmv rfl ?_
 refine dq (zB zat rfl) ?_
 refine das rfl ?_
 refine dn ?_
 refine zb ?_
 refine dmv rfl ?_
 refine das rfl ?_
 refine das rfl ?_
 refine dn ?_
 refine zf ?_
 refine zm ?_
 refine zbf [9, 10, 11, 15, 16, 17, 18, 19, 20, 21, 22, 23, 24, 25, 26, 27, 28, 29, 30, 31, 32, 33, 34] (fun (i : Nat) (j : Nat) => [(9, .int .i64 i), (10, .int .i64 j)]) (fun (i : Nat) (j : Nat) => []) (fun (i : Nat) (j : Nat) => i ≤ j ∧ j ≤ (l.map (·.Player)).length ∧ (∀ (k : Nat) (x : Str), k < i → (l.map (·.Player))[k]? = some x → Op.bytesLess x s = true) ∧ (∀ (k : Nat) (x : Str), j ≤ k → (l.map (·.Player))[k]? = some x → Op.bytesLess x s = false)) (fun (i : Nat) (j : Nat) => j - i) (0) (l.length) ?_ ?_ ?_ ?_
 ·exact ⟨Nat.zero_le _, by rw [hLl]; exact Nat.le_refl _, fun k x h => by omega, fun k x h1 h2 => by have := zD h2; omega⟩
 ·exact ⟨rfl, rfl, trivial⟩
 ·exact List.Perm.refl _
 ·intro i j hinv
  obtain ⟨hij, hjl, ha, hb⟩ := hinv
  rw [hLl] at hjl
  refine zf ?_
  refine zb ?_
  refine dmv rfl ?_
  refine dmv rfl ?_
  refine dq (zJ rfl rfl) ?_
  refine dn ?_
  refine zj rfl (fun h1 => ?_) (fun h2 => ?_)
  ·try simp at h1
   obtain ⟨x, hx⟩ : ∃ x, l[(i + j) / 2]? = some x := ⟨_, List.getElem?_eq_getElem (by omega)⟩
   have hxL : (l.map (·.Player))[(i + j) / 2]? = some x.Player := by rw [List.getElem?_map, hx]; rfl
   have hm : (i + j) / 2 < j ∧ i ≤ (i + j) / 2 := by omega
   refine zk ?_
   refine ze ?_
   refine zm ?_
   refine zb ?_
   refine dmv rfl ?_
   refine dmv rfl ?_
   refine dq (zv rfl rfl (by omega) (by omega)) ?_
   refine dq (zbK ty3 zeB rfl) ?_
   refine dq (zgz rfl rfl (by omega)) ?_
   refine dq (zcZ (zbK zeB ty3 rfl) (zmy (i := i) (j := j) (by omega))) ?_
   refine das rfl ?_
   refine dn ?_
   refine zb ?_
   refine dmv rfl ?_
   refine dmv rfl ?_
   refine dmv rfl ?_
   refine dq (zH (j := (i + j) / 2) (a := x) zat zZ rfl rfl rfl hx) ?_
   refine dq (zY zZ rfl rfl rfl rfl) ?_
   refine dmv rfl ?_
   refine dq (zci hca rfl rfl (WeakL.refl _) (hp _)) ?_
   refine dq (zJ rfl rfl) ?_
   refine dn ?_
   refine zj rfl (fun h3 => ?_) (fun h4 => ?_)
   ·try simp at h3
    refine zy ?_
    refine dmv rfl ?_
    refine dq (zv rfl rfl (by omega) (by omega)) ?_
    refine das rfl ?_
    refine dn ?_
    refine zz ?_
    exact ⟨(i + j) / 2 + 1, j, ⟨by omega, by rw [hLl]; exact hjl, zop hs hxL (zfy.1 h3), hb⟩, by dsimp only; omega, ⟨rfl, rfl, trivial⟩, (by repeat (first | exact zp | refine zu rfl ?_ | refine zq rfl rfl ?_)), List.Perm.refl _⟩
   ·try simp at h4
    refine zy ?_
    refine dmv rfl ?_
    refine das rfl ?_
    refine dn ?_
    refine zz ?_
    exact ⟨i, (i + j) / 2, ⟨by omega, by omega, ha, znG hs hxL (by have q := fun e => (show ¬ za2 x.Player s < 0 by omega) (zfy.2 e); simpa using q)⟩, by dsimp only; omega, ⟨rfl, rfl, trivial⟩, (by repeat (first | exact zp | refine zu rfl ?_ | refine zq rfl rfl ?_)), List.Perm.refl _⟩
  ·try simp at h2
   obtain rfl : i = j := by omega
   have hjl2 : i ≤ (l.map (·.Player)).length := by rw [hLl]; exact hjl
   refine zN ?_
   refine zS ?_
   refine zbr ?_
   refine zE ?_
   refine ze ?_
   refine zb ?_
   refine dmv rfl ?_
   refine dmv rfl ?_
   refine dmv rfl ?_
   refine dq (zJ rfl rfl) ?_
   refine dmv rfl ?_
   refine dg rfl rfl (fun hc => ⟨_, OpenTo.refl _, zd rfl⟩) ?_
   refine dg rfl rfl (fun hc => ⟨_, OpenTo.refl _, zd rfl⟩) ?_
   refine dg rfl rfl (fun hc => ⟨_, OpenTo.refl _, zd rfl⟩) ?_
   refine dg rfl rfl (fun hc => by have hq := hc; (try simp at hq); exact ⟨_, OpenTo.upd (t := 42) rfl (by first | exact hc | simp_all) (OpenTo.upd (t := 41) rfl (by first | exact hc | simp_all) (OpenTo.refl _)), zH (j := i) (a := l.getD i zbF) zat zZ rfl rfl rfl (getD_some (by omega))⟩) ?_
   refine dg rfl rfl (fun hc => ⟨_, OpenTo.upd (t := 43) rfl (by first | exact hc | simp_all) (OpenTo.refl _), zY zZ rfl rfl rfl rfl⟩) ?_
   refine dg rfl rfl (fun hc => ⟨_, OpenTo.refl _, zd rfl⟩) ?_
   refine dg rfl rfl (fun hc => ⟨_, OpenTo.upd (t := 45) rfl (by first | exact hc | simp_all) (OpenTo.upd (t := 44) rfl (by first | exact hc | simp_all) (OpenTo.upd (t := 40) rfl (by first | exact hc | simp_all) (OpenTo.refl _))), zci hca rfl rfl (WeakL.refl _) (hp _)⟩) ?_
   refine dg rfl rfl (fun hc => ⟨_, OpenTo.upd (t := 46) rfl (by first | exact hc | simp_all) (OpenTo.refl _), zaJ rfl rfl⟩) ?_
   refine dq (zL rfl (.inr ⟨_, rfl, fun h => by simp_all⟩) (.inl rfl)) ?_
   refine das rfl ?_
   refine das rfl ?_
   refine dn ?_
   refine zo ?_
   refine zC rfl ?_
   rw [zik hjl2 ha hb, ← zi0 hs hjl2 ha hb, ← zo5]

/-- benchwarmer/trade.did$1 -/
theorem zlE [Tracks] {x : OwnerS} {s : Str}  : zaa Tryz.prog 145 [zas x, .str s] (.int .i64 (za2 x.Player s)) := by
 refine Con.of_body Tryz.func145 rfl Tryz.ntmps145 rfl rfl ?_
 refine zb ?_
 refine dq (zaL rfl rfl) ?_
 refine das rfl ?_
 refine dn ?_
 refine zb ?_
 refine dq (zg zZ rfl ty9 (by decide) rfl) ?_
 refine dq (zi ty9 rfl rfl rfl) ?_
 refine dmv rfl ?_
 refine dq (zw znM rfl (WeakL.refl _) zcQ) ?_
 refine das rfl ?_
 refine dn ?_
 refine zo ?_
 refine zC rfl ?_
 rfl

set_option maxHeartbeats 1000000 in
/-- benchwarmer/trade.did -/
theorem zmT [Tracks] {m : MarketS} {o : List OwnerS} {x : DealS} (ht : m.Teams.length ≤ 1000000) (h0o : 0 < o.length) (ho : o.length ≤ 1000000) (hs : SortedS (o.map (·.Player))) (hx : x.Gives.length ≤ 1000000) : zaa Tryz.prog 90 [.vptr (zl (zaS m)) 0, zbd o, zim x] (.tup [zbd (ziZ o x.Gives), .bool (zgi m o x.Gives)]) := by
 refine Con.of_body Tryz.func90 rfl Tryz.ntmps90 rfl rfl ?_
 refine zb ?_
 refine dq (zaL rfl rfl) ?_
 refine das rfl ?_
 refine das rfl ?_
 refine dn ?_
 refine zb ?_
 refine dmv rfl ?_
 refine de rfl (zel zrI rfl (WeakL.refl _) (zdT (l := o) ho) fun v14 => ?_)
 refine das rfl ?_
 refine dn ?_
 refine zf ?_
 refine zc1 (i := 0) rfl (fun h0 he => ?_) (fun ob off cap hv hcap => ?_)
 ·exfalso; have := congrArg List.length he; simp at this; subst this; simp at h0o
 rw [List.length_map] at hv hcap
 subst hv
 refine zb ?_
 refine dq ((by first | exact zg zbI rfl zbg (by decide) rfl | exact zn zbI rfl zbg (by decide) rfl)) ?_
 refine dq (zi zbg rfl rfl rfl) ?_
 refine dq (zB zbg rfl) ?_
 refine dmv rfl ?_
 refine dn ?_
 refine zm ?_
 refine zbf [6, 7, 10, 11, 12, 18, 19, 20, 21, 22, 23, 24, 25, 26, 27, 28, 29, 30, 31, 32, 33, 34, 35, 36, 37, 38, 39, 40, 41, 42, 43, 44, 45, 46, 47] (fun (k : Nat) (D : List OwnerS) => [(18, .int .i64 k)]) (fun (k : Nat) (D : List OwnerS) => [.arr (.slice (some ⟨ob, off, none⟩) o.length cap) 2 (D.map zas)]) (fun (k : Nat) (D : List OwnerS) => k ≤ x.Gives.length ∧ (zcy o x.Gives = zcy D (x.Gives.drop k) ∧ D.map (·.Player) = o.map (·.Player))) (fun (k : Nat) (D : List OwnerS) => x.Gives.length - k) (0) (o) ?_ ?_ ?_ ?_
 ·exact ⟨Nat.zero_le _, rfl, rfl⟩
 ·exact ⟨rfl, trivial⟩
 ·exact zT rfl
 ·intro k D hinv
  obtain ⟨hk, hf, hD⟩ := hinv
  have hDs : SortedS (D.map (·.Player)) := by rw [hD]; exact hs
  have hDl : D.length = o.length := by have := congrArg List.length hD; simpa using this
  refine zb ?_
  refine dq (zJ rfl rfl) ?_
  refine dn ?_
  refine zf ?_
  refine zj rfl (fun h1 => ?_) (fun h2 => ?_)
  ·try simp at h1
   obtain ⟨g, hg⟩ : ∃ g, x.Gives[k]? = some g := ⟨_, List.getElem?_eq_getElem h1⟩
   have hdg := zK hg
   rw [hdg] at hf
   refine zk ?_
   refine ze ?_
   refine zf ?_
   refine zm ?_
   refine zb ?_
   refine dq (zH zbg zaz rfl rfl rfl (by first | assumption | simp_all)) ?_
   refine dq (zY zaz rfl rfl rfl rfl) ?_
   refine de rfl (zab zaz rfl fun b10 => ?_)
   refine de0 (zao zaz rfl rfl rfl rfl rfl ?_)
   refine dn ?_
   refine zO (Ghost.fc0 10 rfl) ?_
   refine zb ?_
   refine dmv rfl ?_
   refine dq ((by first | exact zg zaz rfl ty9 (by decide) rfl | exact zn zaz rfl ty9 (by decide) rfl)) ?_
   refine dq (zi ty9 rfl rfl rfl) ?_
   refine de rfl (zh0 (hs' := [zbd D, .str g.Player, .fn (.func 145) [] []]) zrE rfl ⟨.arr (i := 0) rfl, .weak (Weak.refl _), .weak (Weak.refl _), trivial⟩ (zer (l := D) (s := g.Player) zrG (fun _ => zlE) (by omega) hDs) rfl ?_)
   refine dmv rfl ?_
   refine dq (zan rfl rfl) ?_
   refine dq (zan rfl rfl) ?_
   refine das rfl ?_
   refine das rfl ?_
   refine dn ?_
   refine zf ?_
   refine za7 (fun M => M = [.arr (.slice (some ⟨ob, off, none⟩) o.length cap) 2 (D.map zas)]) [7] mixed ?_
   refine ahp 0 rfl rfl (by kernel_rfl) (by kernel_rfl) (zd rfl) ?_
   refine ahp 1 rfl rfl (by kernel_rfl) (by kernel_rfl) (zaw rfl) ?_
   refine ahp 2 rfl rfl (by kernel_rfl) (by kernel_rfl) (zd rfl) ?_
   refine ahg 3 rfl rfl (by kernel_rfl) (by kernel_rfl) rfl (fun hc => ⟨_, OpenTo.refl _, zd rfl⟩) ?_
   refine ahg 4 rfl rfl (by kernel_rfl) (by kernel_rfl) rfl (fun hc => ⟨_, OpenTo.refl _, zd rfl⟩) ?_
   refine ahg 5 rfl rfl (by kernel_rfl) (by kernel_rfl) rfl (fun hc => by
    obtain ⟨hql, hq1, hq2, hq3⟩ := zhG hDs (by simpa using hc)
    exact ⟨_, OpenTo.upd (t := 33) rfl (by first | exact hc | simp_all) (OpenTo.upd (t := 32) rfl (by first | exact hc | simp_all) (OpenTo.refl _)), zak (j := (zcw (D.map (·.Player)) g.Player)) zat zZ rfl rfl rfl (by omega)⟩) ?_
   refine ahg 6 rfl rfl (by kernel_rfl) (by kernel_rfl) rfl (fun hc => ⟨_, OpenTo.upd (t := 34) rfl (by first | exact hc | simp_all) (OpenTo.refl _), (by first | exact zg zZ rfl ty9 (by decide) rfl | exact zn zZ rfl ty9 (by decide) rfl)⟩) ?_
   refine zko 7 rfl rfl (by kernel_rfl) (by kernel_rfl) (by simp) rfl rfl (fun hc => ⟨_, OpenTo.upd (t := 35) rfl (by first | exact hc | simp_all) (OpenTo.refl _), fun M hM => by
    obtain ⟨hql, hq1, hq2, hq3⟩ := zhG hDs (by simpa using hc); subst hM; exact za5 (i := 0) (j := (zcw (D.map (·.Player)) g.Player)) 1 ty9 rfl (by omega) rfl hq1 rfl rfl ⟨rfl, rfl⟩
    ⟩) ?_
   refine ahg 8 rfl rfl (by kernel_rfl) (by kernel_rfl) rfl (fun hc => ⟨_, OpenTo.refl _, (by first | exact zg zaz rfl ty9 (by decide) rfl | exact zn zaz rfl ty9 (by decide) rfl)⟩) ?_
   refine ahg 9 rfl rfl (by kernel_rfl) (by kernel_rfl) rfl (fun hc => ⟨_, OpenTo.upd (t := 37) rfl (by first | exact hc | simp_all) (OpenTo.refl _), zi ty9 rfl rfl rfl⟩) ?_
   refine ahg 10 rfl rfl (by kernel_rfl) (by kernel_rfl) rfl (fun hc => ⟨_, OpenTo.upd (t := 38) rfl (by first | exact hc | simp_all) (OpenTo.upd (t := 36) rfl (by first | exact hc | simp_all) (OpenTo.refl _)), zeQ rfl rfl⟩) ?_
   refine ahp 11 rfl rfl (by kernel_rfl) (by kernel_rfl) (zL rfl (.inl rfl) (.inr ⟨_, rfl, fun h => by simp_all⟩)) ?_
   refine ahz (by kernel_rfl) ?_
   refine zj rfl (fun h3 => ?_) (fun h4 => ?_)
   ·try simp at h3
    refine zb ?_
    refine das rfl ?_
    refine das rfl ?_
    refine dn ?_
    refine zo ?_
    first
    | (refine zC rfl ?_
       rw [e1, e2])
    | (have hno : zcy o x.Gives = none := by
        by_cases hco : (D.map (·.Player)).contains g.Player = true
        ·obtain ⟨hql, hq1, hq2, hq3⟩ := zhG hDs hco
         exact zjB hf hq1 hq2 hq3 (by simpa using h3.resolve_left fun q => q _ (List.mem_of_getElem? hq1) hq2)
        ·exact zle hf (zoE (by simpa using hco))
       obtain ⟨e1, e2⟩ := zkZ (m := m) hno
       exact ⟨_, [], Ghost.clear, _, _, rfl, zbC (by rw [e2]; exact zbX 2) (by rw [e1]; exact Weak.refl _), rfl, rfl⟩)
   ·try simp at h4
    refine zk ?_
    refine ze ?_
    have hco : (D.map (·.Player)).contains g.Player = true := by simpa using h4.1
    obtain ⟨hql, hq1, hq2, hq3⟩ := zhG hDs hco
    refine zy ?_
    refine dmv rfl ?_
    refine dmv rfl ?_
    refine dq ((by first | exact zg zaz rfl ty9 (by decide) rfl | exact zn zaz rfl ty9 (by decide) rfl)) ?_
    refine dq (zi ty9 rfl rfl rfl) ?_
    refine dq (zak (j := (zcw (D.map (·.Player)) g.Player)) zat zZ rfl rfl rfl (by omega)) ?_
    refine dq ((by first | exact zg zZ rfl ty9 (by decide) rfl | exact zn zZ rfl ty9 (by decide) rfl)) ?_
    refine de0 (zaQ (i := 0) (j := (zcw (D.map (·.Player)) g.Player)) (f := 1) (y := zas (D.getD (zcw (D.map (·.Player)) g.Player) zbF)) (y' := zas ⟨(D.getD (zcw (D.map (·.Player)) g.Player) zbF).Player, g.To⟩) ty9 rfl (by omega) rfl rfl (zcn hq1) rfl rfl (by simp [zl]) rfl ?_)
    refine dn ?_
    refine zz ?_
    refine ze ?_
    refine zy ?_
    refine dq (zv rfl rfl (by omega) (by omega)) ?_
    refine dmv rfl ?_
    refine dn ?_
    exact ⟨k + 1, _, ⟨by omega, zpf hf hq1 hq2 hq3 (by simpa using h4.2), by rw [zoa hq1, hD]⟩, by dsimp only; omega, ⟨rfl, trivial⟩, (by repeat (first | exact zp | refine zu rfl ?_ | refine zq rfl rfl ?_)), zT (by dsimp only; rw [List.map_set]; rfl)⟩
  ·try simp at h2
   have hnk : x.Gives.length ≤ k := by omega
   obtain rfl : k = x.Gives.length := by omega
   rw [z6 (Nat.le_refl _), zcy] at hf
   refine zN ?_
   refine zS ?_
   refine zbr ?_
   refine zE ?_
   refine ze ?_
   refine zO (Ghost.fa 8 (i := 0) rfl rfl) ?_
   obtain ⟨e1, e2⟩ := zoL (m := m) hf
   refine zb ?_
   refine dmv rfl ?_
   refine dmv rfl ?_
   refine dmv rfl ?_
   refine dq (zw ca79 rfl (WeakL.refl _) (zgJ (by first | assumption | omega | (simp; omega) | simp_all) (by first | assumption | omega | (simp; omega) | simp_all))) ?_
   refine das rfl ?_
   refine das rfl ?_
   refine dn ?_
   refine zo ?_
   first
   | (refine zC rfl ?_
      rw [e1, e2])
   | (have hno : zcy o x.Gives = none := by
       by_cases hco : (D.map (·.Player)).contains g.Player = true
       ·obtain ⟨hql, hq1, hq2, hq3⟩ := zhG hDs hco
        exact zjB hf hq1 hq2 hq3 (by simpa using h3.resolve_left fun q => q _ (List.mem_of_getElem? hq1) hq2)
       ·exact zle hf (zoE (by simpa using hco))
      obtain ⟨e1, e2⟩ := zkZ (m := m) hno
      exact ⟨_, [], Ghost.clear, _, _, rfl, zbC (by rw [e2]; exact zbX 2) (by rw [e1]; exact Weak.refl _), rfl, rfl⟩)
end
section
open Go.HL
/-- benchwarmer/trade.tradeFault -/
theorem zhq [Tracks] {m : MarketS} {o : List OwnerS} {x : DealS} (ht : m.Teams.length ≤ 1000000) (ho : o.length ≤ 1000000) (hx : x.Gives.length ≤ 1000000) : zaa Tryz.prog 89 [zaS m, zbd o, zim x] (.int .i64 (zct m o x)) := by
 refine Con.of_body Tryz.func89 rfl Tryz.ntmps89 rfl rfl ?_
 refine zb ?_
 refine dq (zaL rfl rfl) ?_
 refine dq (zaL rfl rfl) ?_
 refine das rfl ?_
 refine dn ?_
 refine za7 (fun _ => True) [] mixed ?_
 refine ahp 0 rfl rfl (by kernel_rfl) (by kernel_rfl) (zY zW rfl rfl rfl rfl) ?_
 refine ahp 1 rfl rfl (by kernel_rfl) (by kernel_rfl) (zd rfl) ?_
 refine ahp 2 rfl rfl (by kernel_rfl) (by kernel_rfl) (zw ca46 rfl (WeakL.refl _) (zeG (by first | assumption | omega | (simp; omega) | simp_all) (by first | assumption | omega | (simp; omega) | simp_all))) ?_
 refine ahp 3 rfl rfl (by kernel_rfl) (by kernel_rfl) (zY zW rfl rfl rfl rfl) ?_
 refine ahp 4 rfl rfl (by kernel_rfl) (by kernel_rfl) (zY zbI rfl rfl rfl rfl) ?_
 refine ahp 5 rfl rfl (by kernel_rfl) (by kernel_rfl) (zM (hs := [_]) zjU zbI rfl rfl (by decide) (by decide) rfl) ?_
 refine ahp 6 rfl rfl (by kernel_rfl) (by kernel_rfl) (zw zr0 rfl (WeakL.refl _) (zhf (l := [x]) ht (by simp) (by simpa using hx))) ?_
 refine ahp 7 rfl rfl (by kernel_rfl) (by kernel_rfl) (zM (hs := [_, _]) zkI zkF rfl rfl (by decide) (by decide) rfl) ?_
 refine ahp 8 rfl rfl (by kernel_rfl) (by kernel_rfl) (zw ca93 rfl (WeakL.refl _) (zlO (l := [_, _]) (by simp))) ?_
 refine ahp 9 rfl rfl (by kernel_rfl) (by kernel_rfl) (zaK rfl) ?_
 refine ahz (by kernel_rfl) ?_
 refine zo ?_
 refine zC rfl ?_
 rfl

/-- benchwarmer/trade.Did -/
theorem zm3 [Tracks] {m : MarketS} {o : List OwnerS} {x : DealS} (ht : m.Teams.length ≤ 1000000) (h0o : 0 < o.length) (ho : o.length ≤ 1000000) (hx : x.Gives.length ≤ 1000000) : zaa Tryz.prog 56 [zaS m, zbd o, zim x] (.tup [zbd (zhZ m o x), .int .i64 (zho m o x)]) := by
 refine Con.of_body Tryz.func56 rfl Tryz.ntmps56 rfl rfl ?_
 refine zb ?_
 refine dq (zaL rfl rfl) ?_
 refine dq (zaL rfl rfl) ?_
 refine das rfl ?_
 refine das rfl ?_
 refine dn ?_
 refine zf ?_
 refine zb ?_
 refine dq (zY zW rfl rfl rfl rfl) ?_
 refine dmv rfl ?_
 refine dq (zY zbI rfl rfl rfl rfl) ?_
 refine dq (zw ca89 rfl (WeakL.refl _) (zhq (by first | assumption | omega | (simp; omega) | simp_all) (by first | assumption | omega | (simp; omega) | simp_all) (by first | assumption | omega | (simp; omega) | simp_all))) ?_
 refine das rfl ?_
 refine dn ?_
 refine zb ?_
 refine dmv rfl ?_
 refine dq (za6 rfl rfl) ?_
 refine dn ?_
 refine zj rfl (fun h1 => ?_) (fun h2 => ?_)
 ·try simp at h1
  refine zb ?_
  refine dmv rfl ?_
  refine das rfl ?_
  refine das rfl ?_
  refine dn ?_
  refine zo ?_
  first
  | (refine zh7 rfl ?_
     obtain ⟨e1, e2⟩ := zja (m := m) (o := o) (x := x) (by simpa using h1)
     rw [e1, e2]
     exact zbC (zbX 2) (Weak.refl _))
  | (refine zh7 rfl ?_
     obtain ⟨e1, e2⟩ := zkz hz (by simpa using h3)
     rw [e1, e2]
     exact zbC (zbX 2) (Weak.refl _))
  | (refine zC rfl ?_
     obtain ⟨e1, e2⟩ := zfG hz (by simpa using h4)
     rw [e1, e2]; rfl)
 ·try simp at h2
  refine zk ?_
  refine ze ?_
  have hz : zct m o x = 0 := by simpa using h2
  obtain ⟨hso, hx40⟩ := zpt hz
  refine zb ?_
  refine dmv rfl ?_
  refine dq (zY zbI rfl rfl rfl rfl) ?_
  refine dq (zw ca90 rfl (WeakL.refl _) (zmT (m := m) (o := o) (x := x) ht h0o ho hso hx)) ?_
  refine dmv rfl ?_
  refine dq (zan rfl rfl) ?_
  refine dq (zan rfl rfl) ?_
  refine das rfl ?_
  refine das rfl ?_
  refine dn ?_
  refine zf ?_
  refine zb ?_
  refine dmv rfl ?_
  refine dq (zaw rfl) ?_
  refine dn ?_
  refine zj rfl (fun h3 => ?_) (fun h4 => ?_)
  ·try simp at h3
   refine zb ?_
   refine das rfl ?_
   refine das rfl ?_
   refine dn ?_
   refine zo ?_
   first
   | (refine zh7 rfl ?_
      obtain ⟨e1, e2⟩ := zja (m := m) (o := o) (x := x) (by simpa using h1)
      rw [e1, e2]
      exact zbC (zbX 2) (Weak.refl _))
   | (refine zh7 rfl ?_
      obtain ⟨e1, e2⟩ := zkz hz (by simpa using h3)
      rw [e1, e2]
      exact zbC (zbX 2) (Weak.refl _))
   | (refine zC rfl ?_
      obtain ⟨e1, e2⟩ := zfG hz (by simpa using h4)
      rw [e1, e2]; rfl)
  ·try simp at h4
   refine zk ?_
   refine ze ?_
   refine zb ?_
   refine dmv rfl ?_
   refine das rfl ?_
   refine das rfl ?_
   refine dn ?_
   refine zo ?_
   first
   | (refine zh7 rfl ?_
      obtain ⟨e1, e2⟩ := zja (m := m) (o := o) (x := x) (by simpa using h1)
      rw [e1, e2]
      exact zbC (zbX 2) (Weak.refl _))
   | (refine zh7 rfl ?_
      obtain ⟨e1, e2⟩ := zkz hz (by simpa using h3)
      rw [e1, e2]
      exact zbC (zbX 2) (Weak.refl _))
   | (refine zC rfl ?_
      obtain ⟨e1, e2⟩ := zfG hz (by simpa using h4)
      rw [e1, e2]; rfl)
end
section
open Go.HL
set_option maxHeartbeats 2000000 in
/-- (*benchwarmer/benchmake.Stream).MarketOf -/
theorem zbE [Tracks] {b : Nat} {l : List Int} {a : Nat}  (ha : a ≤ 800000) : Con Tryz.prog 5 [pAt b] [St b l a] (fun x M' => ∃ m a', x = zaS m ∧ GoodM m ∧ a' ≤ a + 20 ∧ M' = [St b l a']) := by
 refine Con.of_bodyc Tryz.func5 rfl Tryz.ntmps5 rfl rfl ?_
 refine zb ?_
 refine de rfl (zab zW rfl fun b2 => ?_)
 refine dn ?_
 refine zfx [3, 4, 5, 6, 7, 8, 9, 10, 11, 12, 13, 14, 15, 16, 17, 18, 19, 20, 21, 22, 23] (fun (q : Nat × MarketS) => [(3, pAt q.1)]) (fun (q : Nat × MarketS) => [.cells q.1 (zl (zaS q.2)), .cells b2 [nilS, .int .i64 0, .int .i64 0, .int .i64 0, .int .i64 0, .int .i64 0], St b l (a + 6)]) (fun (q : Nat × MarketS) => (0 < q.2.Teams.length ∧ q.2.Teams.length ≤ 4) ∧ ∀ s ∈ q.2.Teams, s.length ≤ 10) ?_ ?_
 ·skip
  refine zb0 (fun _ => True) [] mixed ?_
  refine ahp 0 rfl rfl (by kernel_rfl) (by kernel_rfl) (zM (hs := [_, _, _, _]) zF ty9 rfl rfl (by decide) (by decide) rfl) ?_
  refine ahp 1 rfl rfl (by kernel_rfl) (by kernel_rfl) (zd rfl) ?_
  refine ahp 4 rfl rfl (by kernel_rfl) (by kernel_rfl) (zd rfl) ?_
  refine ahp 5 rfl rfl (by kernel_rfl) (by kernel_rfl) (zM (hs := [_, _, _]) zR ty3 rfl rfl (by decide) (by decide) rfl) ?_
  refine ahp 7 rfl rfl (by kernel_rfl) (by kernel_rfl) (zd rfl) ?_
  refine ahp 8 rfl rfl (by kernel_rfl) (by kernel_rfl) (zM (hs := [_, _, _]) zR ty3 rfl rfl (by decide) (by decide) rfl) ?_
  refine ahp 10 rfl rfl (by kernel_rfl) (by kernel_rfl) (zd rfl) ?_
  refine ahp 11 rfl rfl (by kernel_rfl) (by kernel_rfl) (zM (hs := [_, _, _]) zR ty3 rfl rfl (by decide) (by decide) rfl) ?_
  refine ahp 13 rfl rfl (by kernel_rfl) (by kernel_rfl) (zd rfl) ?_
  refine ahp 14 rfl rfl (by kernel_rfl) (by kernel_rfl) (zM (hs := [_, _, _]) zR ty3 rfl rfl (by decide) (by decide) rfl) ?_
  refine ahp 16 rfl rfl (by kernel_rfl) (by kernel_rfl) (zd rfl) ?_
  refine ahp 17 rfl rfl (by kernel_rfl) (by kernel_rfl) (zM (hs := [_, _, _]) zR ty3 rfl rfl (by decide) (by decide) rfl) ?_
  refine zku 2 20 rfl rfl (by kernel_rfl) ?_ ?_
  ·skip
   first
   | refine zA rfl (zh (i := 0) zeY rfl (WeakL.refl _) rfl (zai (by first | assumption | omega | (simp; omega) | simp_all) (by first | assumption | omega | (simp; omega) | simp_all) (by first | assumption | omega | (simp; omega) | simp_all) (by first | assumption | omega | (simp; omega) | simp_all)) ?_)
   | refine zA rfl (zh (i := 1) zeY rfl (WeakL.refl _) rfl (zai (by first | assumption | omega | (simp; omega) | simp_all) (by first | assumption | omega | (simp; omega) | simp_all) (by first | assumption | omega | (simp; omega) | simp_all) (by first | assumption | omega | (simp; omega) | simp_all)) ?_)
   | refine zA rfl (zh (i := 2) zeY rfl (WeakL.refl _) rfl (zai (by first | assumption | omega | (simp; omega) | simp_all) (by first | assumption | omega | (simp; omega) | simp_all) (by first | assumption | omega | (simp; omega) | simp_all) (by first | assumption | omega | (simp; omega) | simp_all)) ?_)
   | refine zA rfl (zh (i := 3) zeY rfl (WeakL.refl _) rfl (zai (by first | assumption | omega | (simp; omega) | simp_all) (by first | assumption | omega | (simp; omega) | simp_all) (by first | assumption | omega | (simp; omega) | simp_all) (by first | assumption | omega | (simp; omega) | simp_all)) ?_)
   rintro _ _ ⟨y6, rfl, hy6, rfl⟩
   refine ⟨fun _ => .inl trivial, ?_⟩
   refine ahp 3 rfl rfl (by kernel_rfl) (by kernel_rfl) (zfr (es := zbD) (f := HVal.str) (h := y6.toNat) zF ty9 rfl rfl ⟨_, _, rfl, by omega⟩ (by omega) (by simp [zbD]; omega)) ?_
   refine zku 6 20 rfl rfl (by kernel_rfl) ?_ ?_
   ·skip
    first
    | refine zA rfl (zh (i := 0) zac rfl (WeakL.refl _) rfl (zc (L := [_, _, _]) (by first | assumption | omega | (simp; omega) | simp_all) (by first | assumption | omega | (simp; omega) | simp_all) (by first | assumption | omega | (simp; omega) | simp_all)) ?_)
    | refine zA rfl (zh (i := 1) zac rfl (WeakL.refl _) rfl (zc (L := [_, _, _]) (by first | assumption | omega | (simp; omega) | simp_all) (by first | assumption | omega | (simp; omega) | simp_all) (by first | assumption | omega | (simp; omega) | simp_all)) ?_)
    | refine zA rfl (zh (i := 2) zac rfl (WeakL.refl _) rfl (zc (L := [_, _, _]) (by first | assumption | omega | (simp; omega) | simp_all) (by first | assumption | omega | (simp; omega) | simp_all) (by first | assumption | omega | (simp; omega) | simp_all)) ?_)
    | refine zA rfl (zh (i := 3) zac rfl (WeakL.refl _) rfl (zc (L := [_, _, _]) (by first | assumption | omega | (simp; omega) | simp_all) (by first | assumption | omega | (simp; omega) | simp_all) (by first | assumption | omega | (simp; omega) | simp_all)) ?_)
    rintro _ _ ⟨y10, rfl, hy10, rfl⟩
    refine ⟨fun _ => .inl trivial, ?_⟩
    refine zku 9 20 rfl rfl (by kernel_rfl) ?_ ?_
    ·skip
     first
     | refine zA rfl (zh (i := 0) zac rfl (WeakL.refl _) rfl (zc (L := [_, _, _]) (by first | assumption | omega | (simp; omega) | simp_all) (by first | assumption | omega | (simp; omega) | simp_all) (by first | assumption | omega | (simp; omega) | simp_all)) ?_)
     | refine zA rfl (zh (i := 1) zac rfl (WeakL.refl _) rfl (zc (L := [_, _, _]) (by first | assumption | omega | (simp; omega) | simp_all) (by first | assumption | omega | (simp; omega) | simp_all) (by first | assumption | omega | (simp; omega) | simp_all)) ?_)
     | refine zA rfl (zh (i := 2) zac rfl (WeakL.refl _) rfl (zc (L := [_, _, _]) (by first | assumption | omega | (simp; omega) | simp_all) (by first | assumption | omega | (simp; omega) | simp_all) (by first | assumption | omega | (simp; omega) | simp_all)) ?_)
     | refine zA rfl (zh (i := 3) zac rfl (WeakL.refl _) rfl (zc (L := [_, _, _]) (by first | assumption | omega | (simp; omega) | simp_all) (by first | assumption | omega | (simp; omega) | simp_all) (by first | assumption | omega | (simp; omega) | simp_all)) ?_)
     rintro _ _ ⟨y13, rfl, hy13, rfl⟩
     refine ⟨fun _ => .inl trivial, ?_⟩
     refine zku 12 20 rfl rfl (by kernel_rfl) ?_ ?_
     ·skip
      first
      | refine zA rfl (zh (i := 0) zac rfl (WeakL.refl _) rfl (zc (L := [_, _, _]) (by first | assumption | omega | (simp; omega) | simp_all) (by first | assumption | omega | (simp; omega) | simp_all) (by first | assumption | omega | (simp; omega) | simp_all)) ?_)
      | refine zA rfl (zh (i := 1) zac rfl (WeakL.refl _) rfl (zc (L := [_, _, _]) (by first | assumption | omega | (simp; omega) | simp_all) (by first | assumption | omega | (simp; omega) | simp_all) (by first | assumption | omega | (simp; omega) | simp_all)) ?_)
      | refine zA rfl (zh (i := 2) zac rfl (WeakL.refl _) rfl (zc (L := [_, _, _]) (by first | assumption | omega | (simp; omega) | simp_all) (by first | assumption | omega | (simp; omega) | simp_all) (by first | assumption | omega | (simp; omega) | simp_all)) ?_)
      | refine zA rfl (zh (i := 3) zac rfl (WeakL.refl _) rfl (zc (L := [_, _, _]) (by first | assumption | omega | (simp; omega) | simp_all) (by first | assumption | omega | (simp; omega) | simp_all) (by first | assumption | omega | (simp; omega) | simp_all)) ?_)
      rintro _ _ ⟨y16, rfl, hy16, rfl⟩
      refine ⟨fun _ => .inl trivial, ?_⟩
      refine zku 15 20 rfl rfl (by kernel_rfl) ?_ ?_
      ·skip
       first
       | refine zA rfl (zh (i := 0) zac rfl (WeakL.refl _) rfl (zc (L := [_, _, _]) (by first | assumption | omega | (simp; omega) | simp_all) (by first | assumption | omega | (simp; omega) | simp_all) (by first | assumption | omega | (simp; omega) | simp_all)) ?_)
       | refine zA rfl (zh (i := 1) zac rfl (WeakL.refl _) rfl (zc (L := [_, _, _]) (by first | assumption | omega | (simp; omega) | simp_all) (by first | assumption | omega | (simp; omega) | simp_all) (by first | assumption | omega | (simp; omega) | simp_all)) ?_)
       | refine zA rfl (zh (i := 2) zac rfl (WeakL.refl _) rfl (zc (L := [_, _, _]) (by first | assumption | omega | (simp; omega) | simp_all) (by first | assumption | omega | (simp; omega) | simp_all) (by first | assumption | omega | (simp; omega) | simp_all)) ?_)
       | refine zA rfl (zh (i := 3) zac rfl (WeakL.refl _) rfl (zc (L := [_, _, _]) (by first | assumption | omega | (simp; omega) | simp_all) (by first | assumption | omega | (simp; omega) | simp_all) (by first | assumption | omega | (simp; omega) | simp_all)) ?_)
       rintro _ _ ⟨y19, rfl, hy19, rfl⟩
       refine ⟨fun _ => .inl trivial, ?_⟩
       refine zku 18 20 rfl rfl (by kernel_rfl) ?_ ?_
       ·skip
        first
        | refine zA rfl (zh (i := 0) zac rfl (WeakL.refl _) rfl (zc (L := [_, _, _]) (by first | assumption | omega | (simp; omega) | simp_all) (by first | assumption | omega | (simp; omega) | simp_all) (by first | assumption | omega | (simp; omega) | simp_all)) ?_)
        | refine zA rfl (zh (i := 1) zac rfl (WeakL.refl _) rfl (zc (L := [_, _, _]) (by first | assumption | omega | (simp; omega) | simp_all) (by first | assumption | omega | (simp; omega) | simp_all) (by first | assumption | omega | (simp; omega) | simp_all)) ?_)
        | refine zA rfl (zh (i := 2) zac rfl (WeakL.refl _) rfl (zc (L := [_, _, _]) (by first | assumption | omega | (simp; omega) | simp_all) (by first | assumption | omega | (simp; omega) | simp_all) (by first | assumption | omega | (simp; omega) | simp_all)) ?_)
        | refine zA rfl (zh (i := 3) zac rfl (WeakL.refl _) rfl (zc (L := [_, _, _]) (by first | assumption | omega | (simp; omega) | simp_all) (by first | assumption | omega | (simp; omega) | simp_all) (by first | assumption | omega | (simp; omega) | simp_all)) ?_)
        rintro _ _ ⟨y22, rfl, hy22, rfl⟩
        refine ⟨fun _ => .inl trivial, ?_⟩
        refine ahp 19 rfl rfl (by kernel_rfl) (by kernel_rfl) (zaU (cs := [_, _, _, _, _, _]) zW zhn rfl) ?_
        refine ahe 20 rfl (by kernel_rfl) ?_
        refine zA rfl (zab zW rfl fun b3 => ?_)
        refine ⟨fun _ => .inl trivial, ?_⟩
        refine ahe 21 rfl (by kernel_rfl) ?_
        first
        | refine zav (zt (i := 0) zW rfl rfl rfl rfl rfl (Nat.le_of_ble_eq_true rfl) ?_)
        | refine zav (zt (i := 1) zW rfl rfl rfl rfl rfl (Nat.le_of_ble_eq_true rfl) ?_)
        | refine zav (zt (i := 2) zW rfl rfl rfl rfl rfl (Nat.le_of_ble_eq_true rfl) ?_)
        | refine zav (zt (i := 3) zW rfl rfl rfl rfl rfl (Nat.le_of_ble_eq_true rfl) ?_)
        refine ⟨fun _ => .inl trivial, ?_⟩
        refine ahz (by kernel_rfl) ?_
        refine ⟨(b3, ⟨(zbD.take y6.toNat).drop 0, y10, y13, y16, y19, y22⟩), ?_, ⟨rfl, trivial⟩, (by repeat (first | exact zp | refine zu rfl ?_ | refine zq rfl rfl ?_)), ?_⟩
        ·exact ⟨⟨by simp [zbD]; omega, by simp [zbD]; omega⟩, fun s hs => zdK s (List.mem_of_mem_take (by simpa using hs))⟩
        ·repeat (first | exact List.Perm.nil | refine zQ 0 rfl ?_ | refine zQ 1 rfl ?_ | refine zQ 2 rfl ?_ | refine zQ 3 rfl ?_ | (refine zI 0 rfl ?hq ?_; (case hq => simp [z7, zl]; done)) | (refine zI 1 rfl ?hq ?_; (case hq => simp [z7, zl]; done)) | (refine zI 2 rfl ?hq ?_; (case hq => simp [z7, zl]; done)) | (refine zI 3 rfl ?hq ?_; (case hq => simp [z7, zl]; done)) | fail)
       ·skip
        refine zA rfl (zab zW rfl fun b3 => ?_)
        refine ⟨fun _ => .inl trivial, ?_⟩
        refine ahe 18 rfl (by kernel_rfl) ?_
        first
        | refine zA rfl (zh (i := 0) zac rfl (WeakL.refl _) rfl (zc (L := [_, _, _]) (by first | assumption | omega | (simp; omega) | simp_all) (by first | assumption | omega | (simp; omega) | simp_all) (by first | assumption | omega | (simp; omega) | simp_all)) ?_)
        | refine zA rfl (zh (i := 1) zac rfl (WeakL.refl _) rfl (zc (L := [_, _, _]) (by first | assumption | omega | (simp; omega) | simp_all) (by first | assumption | omega | (simp; omega) | simp_all) (by first | assumption | omega | (simp; omega) | simp_all)) ?_)
        | refine zA rfl (zh (i := 2) zac rfl (WeakL.refl _) rfl (zc (L := [_, _, _]) (by first | assumption | omega | (simp; omega) | simp_all) (by first | assumption | omega | (simp; omega) | simp_all) (by first | assumption | omega | (simp; omega) | simp_all)) ?_)
        | refine zA rfl (zh (i := 3) zac rfl (WeakL.refl _) rfl (zc (L := [_, _, _]) (by first | assumption | omega | (simp; omega) | simp_all) (by first | assumption | omega | (simp; omega) | simp_all) (by first | assumption | omega | (simp; omega) | simp_all)) ?_)
        rintro _ _ ⟨y22, rfl, hy22, rfl⟩
        refine ⟨fun _ => .inl trivial, ?_⟩
        refine ahp 19 rfl rfl (by kernel_rfl) (by kernel_rfl) (zaU (cs := [_, _, _, _, _, _]) zW zhn rfl) ?_
        refine ahe 21 rfl (by kernel_rfl) ?_
        first
        | refine zav (zt (i := 0) zW rfl rfl rfl rfl rfl (Nat.le_of_ble_eq_true rfl) ?_)
        | refine zav (zt (i := 1) zW rfl rfl rfl rfl rfl (Nat.le_of_ble_eq_true rfl) ?_)
        | refine zav (zt (i := 2) zW rfl rfl rfl rfl rfl (Nat.le_of_ble_eq_true rfl) ?_)
        | refine zav (zt (i := 3) zW rfl rfl rfl rfl rfl (Nat.le_of_ble_eq_true rfl) ?_)
        refine ⟨fun _ => .inl trivial, ?_⟩
        refine ahz (by kernel_rfl) ?_
        refine ⟨(b3, ⟨(zbD.take y6.toNat).drop 0, y10, y13, y16, y19, y22⟩), ?_, ⟨rfl, trivial⟩, (by repeat (first | exact zp | refine zu rfl ?_ | refine zq rfl rfl ?_)), ?_⟩
        ·exact ⟨⟨by simp [zbD]; omega, by simp [zbD]; omega⟩, fun s hs => zdK s (List.mem_of_mem_take (by simpa using hs))⟩
        ·repeat (first | exact List.Perm.nil | refine zQ 0 rfl ?_ | refine zQ 1 rfl ?_ | refine zQ 2 rfl ?_ | refine zQ 3 rfl ?_ | (refine zI 0 rfl ?hq ?_; (case hq => simp [z7, zl]; done)) | (refine zI 1 rfl ?hq ?_; (case hq => simp [z7, zl]; done)) | (refine zI 2 rfl ?hq ?_; (case hq => simp [z7, zl]; done)) | (refine zI 3 rfl ?hq ?_; (case hq => simp [z7, zl]; done)) | fail)
      ·skip
       refine zA rfl (zab zW rfl fun b3 => ?_)
       refine ⟨fun _ => .inl trivial, ?_⟩
       refine ahe 15 rfl (by kernel_rfl) ?_
       first
       | refine zA rfl (zh (i := 0) zac rfl (WeakL.refl _) rfl (zc (L := [_, _, _]) (by first | assumption | omega | (simp; omega) | simp_all) (by first | assumption | omega | (simp; omega) | simp_all) (by first | assumption | omega | (simp; omega) | simp_all)) ?_)
       | refine zA rfl (zh (i := 1) zac rfl (WeakL.refl _) rfl (zc (L := [_, _, _]) (by first | assumption | omega | (simp; omega) | simp_all) (by first | assumption | omega | (simp; omega) | simp_all) (by first | assumption | omega | (simp; omega) | simp_all)) ?_)
       | refine zA rfl (zh (i := 2) zac rfl (WeakL.refl _) rfl (zc (L := [_, _, _]) (by first | assumption | omega | (simp; omega) | simp_all) (by first | assumption | omega | (simp; omega) | simp_all) (by first | assumption | omega | (simp; omega) | simp_all)) ?_)
       | refine zA rfl (zh (i := 3) zac rfl (WeakL.refl _) rfl (zc (L := [_, _, _]) (by first | assumption | omega | (simp; omega) | simp_all) (by first | assumption | omega | (simp; omega) | simp_all) (by first | assumption | omega | (simp; omega) | simp_all)) ?_)
       rintro _ _ ⟨y19, rfl, hy19, rfl⟩
       refine ⟨fun _ => .inl trivial, ?_⟩
       refine ahe 18 rfl (by kernel_rfl) ?_
       first
       | refine zA rfl (zh (i := 0) zac rfl (WeakL.refl _) rfl (zc (L := [_, _, _]) (by first | assumption | omega | (simp; omega) | simp_all) (by first | assumption | omega | (simp; omega) | simp_all) (by first | assumption | omega | (simp; omega) | simp_all)) ?_)
       | refine zA rfl (zh (i := 1) zac rfl (WeakL.refl _) rfl (zc (L := [_, _, _]) (by first | assumption | omega | (simp; omega) | simp_all) (by first | assumption | omega | (simp; omega) | simp_all) (by first | assumption | omega | (simp; omega) | simp_all)) ?_)
       | refine zA rfl (zh (i := 2) zac rfl (WeakL.refl _) rfl (zc (L := [_, _, _]) (by first | assumption | omega | (simp; omega) | simp_all) (by first | assumption | omega | (simp; omega) | simp_all) (by first | assumption | omega | (simp; omega) | simp_all)) ?_)
       | refine zA rfl (zh (i := 3) zac rfl (WeakL.refl _) rfl (zc (L := [_, _, _]) (by first | assumption | omega | (simp; omega) | simp_all) (by first | assumption | omega | (simp; omega) | simp_all) (by first | assumption | omega | (simp; omega) | simp_all)) ?_)
       rintro _ _ ⟨y22, rfl, hy22, rfl⟩
       refine ⟨fun _ => .inl trivial, ?_⟩
       refine ahp 19 rfl rfl (by kernel_rfl) (by kernel_rfl) (zaU (cs := [_, _, _, _, _, _]) zW zhn rfl) ?_
       refine ahe 21 rfl (by kernel_rfl) ?_
       first
       | refine zav (zt (i := 0) zW rfl rfl rfl rfl rfl (Nat.le_of_ble_eq_true rfl) ?_)
       | refine zav (zt (i := 1) zW rfl rfl rfl rfl rfl (Nat.le_of_ble_eq_true rfl) ?_)
       | refine zav (zt (i := 2) zW rfl rfl rfl rfl rfl (Nat.le_of_ble_eq_true rfl) ?_)
       | refine zav (zt (i := 3) zW rfl rfl rfl rfl rfl (Nat.le_of_ble_eq_true rfl) ?_)
       refine ⟨fun _ => .inl trivial, ?_⟩
       refine ahz (by kernel_rfl) ?_
       refine ⟨(b3, ⟨(zbD.take y6.toNat).drop 0, y10, y13, y16, y19, y22⟩), ?_, ⟨rfl, trivial⟩, (by repeat (first | exact zp | refine zu rfl ?_ | refine zq rfl rfl ?_)), ?_⟩
       ·exact ⟨⟨by simp [zbD]; omega, by simp [zbD]; omega⟩, fun s hs => zdK s (List.mem_of_mem_take (by simpa using hs))⟩
       ·repeat (first | exact List.Perm.nil | refine zQ 0 rfl ?_ | refine zQ 1 rfl ?_ | refine zQ 2 rfl ?_ | refine zQ 3 rfl ?_ | (refine zI 0 rfl ?hq ?_; (case hq => simp [z7, zl]; done)) | (refine zI 1 rfl ?hq ?_; (case hq => simp [z7, zl]; done)) | (refine zI 2 rfl ?hq ?_; (case hq => simp [z7, zl]; done)) | (refine zI 3 rfl ?hq ?_; (case hq => simp [z7, zl]; done)) | fail)
     ·skip
      refine zA rfl (zab zW rfl fun b3 => ?_)
      refine ⟨fun _ => .inl trivial, ?_⟩
      refine ahe 12 rfl (by kernel_rfl) ?_
      first
      | refine zA rfl (zh (i := 0) zac rfl (WeakL.refl _) rfl (zc (L := [_, _, _]) (by first | assumption | omega | (simp; omega) | simp_all) (by first | assumption | omega | (simp; omega) | simp_all) (by first | assumption | omega | (simp; omega) | simp_all)) ?_)
      | refine zA rfl (zh (i := 1) zac rfl (WeakL.refl _) rfl (zc (L := [_, _, _]) (by first | assumption | omega | (simp; omega) | simp_all) (by first | assumption | omega | (simp; omega) | simp_all) (by first | assumption | omega | (simp; omega) | simp_all)) ?_)
      | refine zA rfl (zh (i := 2) zac rfl (WeakL.refl _) rfl (zc (L := [_, _, _]) (by first | assumption | omega | (simp; omega) | simp_all) (by first | assumption | omega | (simp; omega) | simp_all) (by first | assumption | omega | (simp; omega) | simp_all)) ?_)
      | refine zA rfl (zh (i := 3) zac rfl (WeakL.refl _) rfl (zc (L := [_, _, _]) (by first | assumption | omega | (simp; omega) | simp_all) (by first | assumption | omega | (simp; omega) | simp_all) (by first | assumption | omega | (simp; omega) | simp_all)) ?_)
      rintro _ _ ⟨y16, rfl, hy16, rfl⟩
      refine ⟨fun _ => .inl trivial, ?_⟩
      refine ahe 15 rfl (by kernel_rfl) ?_
      first
      | refine zA rfl (zh (i := 0) zac rfl (WeakL.refl _) rfl (zc (L := [_, _, _]) (by first | assumption | omega | (simp; omega) | simp_all) (by first | assumption | omega | (simp; omega) | simp_all) (by first | assumption | omega | (simp; omega) | simp_all)) ?_)
      | refine zA rfl (zh (i := 1) zac rfl (WeakL.refl _) rfl (zc (L := [_, _, _]) (by first | assumption | omega | (simp; omega) | simp_all) (by first | assumption | omega | (simp; omega) | simp_all) (by first | assumption | omega | (simp; omega) | simp_all)) ?_)
      | refine zA rfl (zh (i := 2) zac rfl (WeakL.refl _) rfl (zc (L := [_, _, _]) (by first | assumption | omega | (simp; omega) | simp_all) (by first | assumption | omega | (simp; omega) | simp_all) (by first | assumption | omega | (simp; omega) | simp_all)) ?_)
      | refine zA rfl (zh (i := 3) zac rfl (WeakL.refl _) rfl (zc (L := [_, _, _]) (by first | assumption | omega | (simp; omega) | simp_all) (by first | assumption | omega | (simp; omega) | simp_all) (by first | assumption | omega | (simp; omega) | simp_all)) ?_)
      rintro _ _ ⟨y19, rfl, hy19, rfl⟩
      refine ⟨fun _ => .inl trivial, ?_⟩
      refine ahe 18 rfl (by kernel_rfl) ?_
      first
      | refine zA rfl (zh (i := 0) zac rfl (WeakL.refl _) rfl (zc (L := [_, _, _]) (by first | assumption | omega | (simp; omega) | simp_all) (by first | assumption | omega | (simp; omega) | simp_all) (by first | assumption | omega | (simp; omega) | simp_all)) ?_)
      | refine zA rfl (zh (i := 1) zac rfl (WeakL.refl _) rfl (zc (L := [_, _, _]) (by first | assumption | omega | (simp; omega) | simp_all) (by first | assumption | omega | (simp; omega) | simp_all) (by first | assumption | omega | (simp; omega) | simp_all)) ?_)
      | refine zA rfl (zh (i := 2) zac rfl (WeakL.refl _) rfl (zc (L := [_, _, _]) (by first | assumption | omega | (simp; omega) | simp_all) (by first | assumption | omega | (simp; omega) | simp_all) (by first | assumption | omega | (simp; omega) | simp_all)) ?_)
      | refine zA rfl (zh (i := 3) zac rfl (WeakL.refl _) rfl (zc (L := [_, _, _]) (by first | assumption | omega | (simp; omega) | simp_all) (by first | assumption | omega | (simp; omega) | simp_all) (by first | assumption | omega | (simp; omega) | simp_all)) ?_)
      rintro _ _ ⟨y22, rfl, hy22, rfl⟩
      refine ⟨fun _ => .inl trivial, ?_⟩
      refine ahp 19 rfl rfl (by kernel_rfl) (by kernel_rfl) (zaU (cs := [_, _, _, _, _, _]) zW zhn rfl) ?_
      refine ahe 21 rfl (by kernel_rfl) ?_
      first
      | refine zav (zt (i := 0) zW rfl rfl rfl rfl rfl (Nat.le_of_ble_eq_true rfl) ?_)
      | refine zav (zt (i := 1) zW rfl rfl rfl rfl rfl (Nat.le_of_ble_eq_true rfl) ?_)
      | refine zav (zt (i := 2) zW rfl rfl rfl rfl rfl (Nat.le_of_ble_eq_true rfl) ?_)
      | refine zav (zt (i := 3) zW rfl rfl rfl rfl rfl (Nat.le_of_ble_eq_true rfl) ?_)
      refine ⟨fun _ => .inl trivial, ?_⟩
      refine ahz (by kernel_rfl) ?_
      refine ⟨(b3, ⟨(zbD.take y6.toNat).drop 0, y10, y13, y16, y19, y22⟩), ?_, ⟨rfl, trivial⟩, (by repeat (first | exact zp | refine zu rfl ?_ | refine zq rfl rfl ?_)), ?_⟩
      ·exact ⟨⟨by simp [zbD]; omega, by simp [zbD]; omega⟩, fun s hs => zdK s (List.mem_of_mem_take (by simpa using hs))⟩
      ·repeat (first | exact List.Perm.nil | refine zQ 0 rfl ?_ | refine zQ 1 rfl ?_ | refine zQ 2 rfl ?_ | refine zQ 3 rfl ?_ | (refine zI 0 rfl ?hq ?_; (case hq => simp [z7, zl]; done)) | (refine zI 1 rfl ?hq ?_; (case hq => simp [z7, zl]; done)) | (refine zI 2 rfl ?hq ?_; (case hq => simp [z7, zl]; done)) | (refine zI 3 rfl ?hq ?_; (case hq => simp [z7, zl]; done)) | fail)
    ·skip
     refine zA rfl (zab zW rfl fun b3 => ?_)
     refine ⟨fun _ => .inl trivial, ?_⟩
     refine ahe 9 rfl (by kernel_rfl) ?_
     first
     | refine zA rfl (zh (i := 0) zac rfl (WeakL.refl _) rfl (zc (L := [_, _, _]) (by first | assumption | omega | (simp; omega) | simp_all) (by first | assumption | omega | (simp; omega) | simp_all) (by first | assumption | omega | (simp; omega) | simp_all)) ?_)
     | refine zA rfl (zh (i := 1) zac rfl (WeakL.refl _) rfl (zc (L := [_, _, _]) (by first | assumption | omega | (simp; omega) | simp_all) (by first | assumption | omega | (simp; omega) | simp_all) (by first | assumption | omega | (simp; omega) | simp_all)) ?_)
     | refine zA rfl (zh (i := 2) zac rfl (WeakL.refl _) rfl (zc (L := [_, _, _]) (by first | assumption | omega | (simp; omega) | simp_all) (by first | assumption | omega | (simp; omega) | simp_all) (by first | assumption | omega | (simp; omega) | simp_all)) ?_)
     | refine zA rfl (zh (i := 3) zac rfl (WeakL.refl _) rfl (zc (L := [_, _, _]) (by first | assumption | omega | (simp; omega) | simp_all) (by first | assumption | omega | (simp; omega) | simp_all) (by first | assumption | omega | (simp; omega) | simp_all)) ?_)
     rintro _ _ ⟨y13, rfl, hy13, rfl⟩
     refine ⟨fun _ => .inl trivial, ?_⟩
     refine ahe 12 rfl (by kernel_rfl) ?_
     first
     | refine zA rfl (zh (i := 0) zac rfl (WeakL.refl _) rfl (zc (L := [_, _, _]) (by first | assumption | omega | (simp; omega) | simp_all) (by first | assumption | omega | (simp; omega) | simp_all) (by first | assumption | omega | (simp; omega) | simp_all)) ?_)
     | refine zA rfl (zh (i := 1) zac rfl (WeakL.refl _) rfl (zc (L := [_, _, _]) (by first | assumption | omega | (simp; omega) | simp_all) (by first | assumption | omega | (simp; omega) | simp_all) (by first | assumption | omega | (simp; omega) | simp_all)) ?_)
     | refine zA rfl (zh (i := 2) zac rfl (WeakL.refl _) rfl (zc (L := [_, _, _]) (by first | assumption | omega | (simp; omega) | simp_all) (by first | assumption | omega | (simp; omega) | simp_all) (by first | assumption | omega | (simp; omega) | simp_all)) ?_)
     | refine zA rfl (zh (i := 3) zac rfl (WeakL.refl _) rfl (zc (L := [_, _, _]) (by first | assumption | omega | (simp; omega) | simp_all) (by first | assumption | omega | (simp; omega) | simp_all) (by first | assumption | omega | (simp; omega) | simp_all)) ?_)
     rintro _ _ ⟨y16, rfl, hy16, rfl⟩
     refine ⟨fun _ => .inl trivial, ?_⟩
     refine ahe 15 rfl (by kernel_rfl) ?_
     first
     | refine zA rfl (zh (i := 0) zac rfl (WeakL.refl _) rfl (zc (L := [_, _, _]) (by first | assumption | omega | (simp; omega) | simp_all) (by first | assumption | omega | (simp; omega) | simp_all) (by first | assumption | omega | (simp; omega) | simp_all)) ?_)
     | refine zA rfl (zh (i := 1) zac rfl (WeakL.refl _) rfl (zc (L := [_, _, _]) (by first | assumption | omega | (simp; omega) | simp_all) (by first | assumption | omega | (simp; omega) | simp_all) (by first | assumption | omega | (simp; omega) | simp_all)) ?_)
     | refine zA rfl (zh (i := 2) zac rfl (WeakL.refl _) rfl (zc (L := [_, _, _]) (by first | assumption | omega | (simp; omega) | simp_all) (by first | assumption | omega | (simp; omega) | simp_all) (by first | assumption | omega | (simp; omega) | simp_all)) ?_)
     | refine zA rfl (zh (i := 3) zac rfl (WeakL.refl _) rfl (zc (L := [_, _, _]) (by first | assumption | omega | (simp; omega) | simp_all) (by first | assumption | omega | (simp; omega) | simp_all) (by first | assumption | omega | (simp; omega) | simp_all)) ?_)
     rintro _ _ ⟨y19, rfl, hy19, rfl⟩
     refine ⟨fun _ => .inl trivial, ?_⟩
     refine ahe 18 rfl (by kernel_rfl) ?_
     first
     | refine zA rfl (zh (i := 0) zac rfl (WeakL.refl _) rfl (zc (L := [_, _, _]) (by first | assumption | omega | (simp; omega) | simp_all) (by first | assumption | omega | (simp; omega) | simp_all) (by first | assumption | omega | (simp; omega) | simp_all)) ?_)
     | refine zA rfl (zh (i := 1) zac rfl (WeakL.refl _) rfl (zc (L := [_, _, _]) (by first | assumption | omega | (simp; omega) | simp_all) (by first | assumption | omega | (simp; omega) | simp_all) (by first | assumption | omega | (simp; omega) | simp_all)) ?_)
     | refine zA rfl (zh (i := 2) zac rfl (WeakL.refl _) rfl (zc (L := [_, _, _]) (by first | assumption | omega | (simp; omega) | simp_all) (by first | assumption | omega | (simp; omega) | simp_all) (by first | assumption | omega | (simp; omega) | simp_all)) ?_)
     | refine zA rfl (zh (i := 3) zac rfl (WeakL.refl _) rfl (zc (L := [_, _, _]) (by first | assumption | omega | (simp; omega) | simp_all) (by first | assumption | omega | (simp; omega) | simp_all) (by first | assumption | omega | (simp; omega) | simp_all)) ?_)
     rintro _ _ ⟨y22, rfl, hy22, rfl⟩
     refine ⟨fun _ => .inl trivial, ?_⟩
     refine ahp 19 rfl rfl (by kernel_rfl) (by kernel_rfl) (zaU (cs := [_, _, _, _, _, _]) zW zhn rfl) ?_
     refine ahe 21 rfl (by kernel_rfl) ?_
     first
     | refine zav (zt (i := 0) zW rfl rfl rfl rfl rfl (Nat.le_of_ble_eq_true rfl) ?_)
     | refine zav (zt (i := 1) zW rfl rfl rfl rfl rfl (Nat.le_of_ble_eq_true rfl) ?_)
     | refine zav (zt (i := 2) zW rfl rfl rfl rfl rfl (Nat.le_of_ble_eq_true rfl) ?_)
     | refine zav (zt (i := 3) zW rfl rfl rfl rfl rfl (Nat.le_of_ble_eq_true rfl) ?_)
     refine ⟨fun _ => .inl trivial, ?_⟩
     refine ahz (by kernel_rfl) ?_
     refine ⟨(b3, ⟨(zbD.take y6.toNat).drop 0, y10, y13, y16, y19, y22⟩), ?_, ⟨rfl, trivial⟩, (by repeat (first | exact zp | refine zu rfl ?_ | refine zq rfl rfl ?_)), ?_⟩
     ·exact ⟨⟨by simp [zbD]; omega, by simp [zbD]; omega⟩, fun s hs => zdK s (List.mem_of_mem_take (by simpa using hs))⟩
     ·repeat (first | exact List.Perm.nil | refine zQ 0 rfl ?_ | refine zQ 1 rfl ?_ | refine zQ 2 rfl ?_ | refine zQ 3 rfl ?_ | (refine zI 0 rfl ?hq ?_; (case hq => simp [z7, zl]; done)) | (refine zI 1 rfl ?hq ?_; (case hq => simp [z7, zl]; done)) | (refine zI 2 rfl ?hq ?_; (case hq => simp [z7, zl]; done)) | (refine zI 3 rfl ?hq ?_; (case hq => simp [z7, zl]; done)) | fail)
   ·skip
    refine zA rfl (zab zW rfl fun b3 => ?_)
    refine ⟨fun _ => .inl trivial, ?_⟩
    refine ahe 6 rfl (by kernel_rfl) ?_
    first
    | refine zA rfl (zh (i := 0) zac rfl (WeakL.refl _) rfl (zc (L := [_, _, _]) (by first | assumption | omega | (simp; omega) | simp_all) (by first | assumption | omega | (simp; omega) | simp_all) (by first | assumption | omega | (simp; omega) | simp_all)) ?_)
    | refine zA rfl (zh (i := 1) zac rfl (WeakL.refl _) rfl (zc (L := [_, _, _]) (by first | assumption | omega | (simp; omega) | simp_all) (by first | assumption | omega | (simp; omega) | simp_all) (by first | assumption | omega | (simp; omega) | simp_all)) ?_)
    | refine zA rfl (zh (i := 2) zac rfl (WeakL.refl _) rfl (zc (L := [_, _, _]) (by first | assumption | omega | (simp; omega) | simp_all) (by first | assumption | omega | (simp; omega) | simp_all) (by first | assumption | omega | (simp; omega) | simp_all)) ?_)
    | refine zA rfl (zh (i := 3) zac rfl (WeakL.refl _) rfl (zc (L := [_, _, _]) (by first | assumption | omega | (simp; omega) | simp_all) (by first | assumption | omega | (simp; omega) | simp_all) (by first | assumption | omega | (simp; omega) | simp_all)) ?_)
    rintro _ _ ⟨y10, rfl, hy10, rfl⟩
    refine ⟨fun _ => .inl trivial, ?_⟩
    refine ahe 9 rfl (by kernel_rfl) ?_
    first
    | refine zA rfl (zh (i := 0) zac rfl (WeakL.refl _) rfl (zc (L := [_, _, _]) (by first | assumption | omega | (simp; omega) | simp_all) (by first | assumption | omega | (simp; omega) | simp_all) (by first | assumption | omega | (simp; omega) | simp_all)) ?_)
    | refine zA rfl (zh (i := 1) zac rfl (WeakL.refl _) rfl (zc (L := [_, _, _]) (by first | assumption | omega | (simp; omega) | simp_all) (by first | assumption | omega | (simp; omega) | simp_all) (by first | assumption | omega | (simp; omega) | simp_all)) ?_)
    | refine zA rfl (zh (i := 2) zac rfl (WeakL.refl _) rfl (zc (L := [_, _, _]) (by first | assumption | omega | (simp; omega) | simp_all) (by first | assumption | omega | (simp; omega) | simp_all) (by first | assumption | omega | (simp; omega) | simp_all)) ?_)
    | refine zA rfl (zh (i := 3) zac rfl (WeakL.refl _) rfl (zc (L := [_, _, _]) (by first | assumption | omega | (simp; omega) | simp_all) (by first | assumption | omega | (simp; omega) | simp_all) (by first | assumption | omega | (simp; omega) | simp_all)) ?_)
    rintro _ _ ⟨y13, rfl, hy13, rfl⟩
    refine ⟨fun _ => .inl trivial, ?_⟩
    refine ahe 12 rfl (by kernel_rfl) ?_
    first
    | refine zA rfl (zh (i := 0) zac rfl (WeakL.refl _) rfl (zc (L := [_, _, _]) (by first | assumption | omega | (simp; omega) | simp_all) (by first | assumption | omega | (simp; omega) | simp_all) (by first | assumption | omega | (simp; omega) | simp_all)) ?_)
    | refine zA rfl (zh (i := 1) zac rfl (WeakL.refl _) rfl (zc (L := [_, _, _]) (by first | assumption | omega | (simp; omega) | simp_all) (by first | assumption | omega | (simp; omega) | simp_all) (by first | assumption | omega | (simp; omega) | simp_all)) ?_)
    | refine zA rfl (zh (i := 2) zac rfl (WeakL.refl _) rfl (zc (L := [_, _, _]) (by first | assumption | omega | (simp; omega) | simp_all) (by first | assumption | omega | (simp; omega) | simp_all) (by first | assumption | omega | (simp; omega) | simp_all)) ?_)
    | refine zA rfl (zh (i := 3) zac rfl (WeakL.refl _) rfl (zc (L := [_, _, _]) (by first | assumption | omega | (simp; omega) | simp_all) (by first | assumption | omega | (simp; omega) | simp_all) (by first | assumption | omega | (simp; omega) | simp_all)) ?_)
    rintro _ _ ⟨y16, rfl, hy16, rfl⟩
    refine ⟨fun _ => .inl trivial, ?_⟩
    refine ahe 15 rfl (by kernel_rfl) ?_
    first
    | refine zA rfl (zh (i := 0) zac rfl (WeakL.refl _) rfl (zc (L := [_, _, _]) (by first | assumption | omega | (simp; omega) | simp_all) (by first | assumption | omega | (simp; omega) | simp_all) (by first | assumption | omega | (simp; omega) | simp_all)) ?_)
    | refine zA rfl (zh (i := 1) zac rfl (WeakL.refl _) rfl (zc (L := [_, _, _]) (by first | assumption | omega | (simp; omega) | simp_all) (by first | assumption | omega | (simp; omega) | simp_all) (by first | assumption | omega | (simp; omega) | simp_all)) ?_)
    | refine zA rfl (zh (i := 2) zac rfl (WeakL.refl _) rfl (zc (L := [_, _, _]) (by first | assumption | omega | (simp; omega) | simp_all) (by first | assumption | omega | (simp; omega) | simp_all) (by first | assumption | omega | (simp; omega) | simp_all)) ?_)
    | refine zA rfl (zh (i := 3) zac rfl (WeakL.refl _) rfl (zc (L := [_, _, _]) (by first | assumption | omega | (simp; omega) | simp_all) (by first | assumption | omega | (simp; omega) | simp_all) (by first | assumption | omega | (simp; omega) | simp_all)) ?_)
    rintro _ _ ⟨y19, rfl, hy19, rfl⟩
    refine ⟨fun _ => .inl trivial, ?_⟩
    refine ahe 18 rfl (by kernel_rfl) ?_
    first
    | refine zA rfl (zh (i := 0) zac rfl (WeakL.refl _) rfl (zc (L := [_, _, _]) (by first | assumption | omega | (simp; omega) | simp_all) (by first | assumption | omega | (simp; omega) | simp_all) (by first | assumption | omega | (simp; omega) | simp_all)) ?_)
    | refine zA rfl (zh (i := 1) zac rfl (WeakL.refl _) rfl (zc (L := [_, _, _]) (by first | assumption | omega | (simp; omega) | simp_all) (by first | assumption | omega | (simp; omega) | simp_all) (by first | assumption | omega | (simp; omega) | simp_all)) ?_)
    | refine zA rfl (zh (i := 2) zac rfl (WeakL.refl _) rfl (zc (L := [_, _, _]) (by first | assumption | omega | (simp; omega) | simp_all) (by first | assumption | omega | (simp; omega) | simp_all) (by first | assumption | omega | (simp; omega) | simp_all)) ?_)
    | refine zA rfl (zh (i := 3) zac rfl (WeakL.refl _) rfl (zc (L := [_, _, _]) (by first | assumption | omega | (simp; omega) | simp_all) (by first | assumption | omega | (simp; omega) | simp_all) (by first | assumption | omega | (simp; omega) | simp_all)) ?_)
    rintro _ _ ⟨y22, rfl, hy22, rfl⟩
    refine ⟨fun _ => .inl trivial, ?_⟩
    refine ahp 19 rfl rfl (by kernel_rfl) (by kernel_rfl) (zaU (cs := [_, _, _, _, _, _]) zW zhn rfl) ?_
    refine ahe 21 rfl (by kernel_rfl) ?_
    first
    | refine zav (zt (i := 0) zW rfl rfl rfl rfl rfl (Nat.le_of_ble_eq_true rfl) ?_)
    | refine zav (zt (i := 1) zW rfl rfl rfl rfl rfl (Nat.le_of_ble_eq_true rfl) ?_)
    | refine zav (zt (i := 2) zW rfl rfl rfl rfl rfl (Nat.le_of_ble_eq_true rfl) ?_)
    | refine zav (zt (i := 3) zW rfl rfl rfl rfl rfl (Nat.le_of_ble_eq_true rfl) ?_)
    refine ⟨fun _ => .inl trivial, ?_⟩
    refine ahz (by kernel_rfl) ?_
    refine ⟨(b3, ⟨(zbD.take y6.toNat).drop 0, y10, y13, y16, y19, y22⟩), ?_, ⟨rfl, trivial⟩, (by repeat (first | exact zp | refine zu rfl ?_ | refine zq rfl rfl ?_)), ?_⟩
    ·exact ⟨⟨by simp [zbD]; omega, by simp [zbD]; omega⟩, fun s hs => zdK s (List.mem_of_mem_take (by simpa using hs))⟩
    ·repeat (first | exact List.Perm.nil | refine zQ 0 rfl ?_ | refine zQ 1 rfl ?_ | refine zQ 2 rfl ?_ | refine zQ 3 rfl ?_ | (refine zI 0 rfl ?hq ?_; (case hq => simp [z7, zl]; done)) | (refine zI 1 rfl ?hq ?_; (case hq => simp [z7, zl]; done)) | (refine zI 2 rfl ?hq ?_; (case hq => simp [z7, zl]; done)) | (refine zI 3 rfl ?hq ?_; (case hq => simp [z7, zl]; done)) | fail)
  ·skip
   refine zA rfl (zab zW rfl fun b3 => ?_)
   refine ⟨fun _ => .inl trivial, ?_⟩
   refine ahe 2 rfl (by kernel_rfl) ?_
   first
   | refine zA rfl (zh (i := 0) zeY rfl (WeakL.refl _) rfl (zai (by first | assumption | omega | (simp; omega) | simp_all) (by first | assumption | omega | (simp; omega) | simp_all) (by first | assumption | omega | (simp; omega) | simp_all) (by first | assumption | omega | (simp; omega) | simp_all)) ?_)
   | refine zA rfl (zh (i := 1) zeY rfl (WeakL.refl _) rfl (zai (by first | assumption | omega | (simp; omega) | simp_all) (by first | assumption | omega | (simp; omega) | simp_all) (by first | assumption | omega | (simp; omega) | simp_all) (by first | assumption | omega | (simp; omega) | simp_all)) ?_)
   | refine zA rfl (zh (i := 2) zeY rfl (WeakL.refl _) rfl (zai (by first | assumption | omega | (simp; omega) | simp_all) (by first | assumption | omega | (simp; omega) | simp_all) (by first | assumption | omega | (simp; omega) | simp_all) (by first | assumption | omega | (simp; omega) | simp_all)) ?_)
   | refine zA rfl (zh (i := 3) zeY rfl (WeakL.refl _) rfl (zai (by first | assumption | omega | (simp; omega) | simp_all) (by first | assumption | omega | (simp; omega) | simp_all) (by first | assumption | omega | (simp; omega) | simp_all) (by first | assumption | omega | (simp; omega) | simp_all)) ?_)
   rintro _ _ ⟨y6, rfl, hy6, rfl⟩
   refine ⟨fun _ => .inl trivial, ?_⟩
   refine ahp 3 rfl rfl (by kernel_rfl) (by kernel_rfl) (zfr (es := zbD) (f := HVal.str) (h := y6.toNat) zF ty9 rfl rfl ⟨_, _, rfl, by omega⟩ (by omega) (by simp [zbD]; omega)) ?_
   refine ahe 6 rfl (by kernel_rfl) ?_
   first
   | refine zA rfl (zh (i := 0) zac rfl (WeakL.refl _) rfl (zc (L := [_, _, _]) (by first | assumption | omega | (simp; omega) | simp_all) (by first | assumption | omega | (simp; omega) | simp_all) (by first | assumption | omega | (simp; omega) | simp_all)) ?_)
   | refine zA rfl (zh (i := 1) zac rfl (WeakL.refl _) rfl (zc (L := [_, _, _]) (by first | assumption | omega | (simp; omega) | simp_all) (by first | assumption | omega | (simp; omega) | simp_all) (by first | assumption | omega | (simp; omega) | simp_all)) ?_)
   | refine zA rfl (zh (i := 2) zac rfl (WeakL.refl _) rfl (zc (L := [_, _, _]) (by first | assumption | omega | (simp; omega) | simp_all) (by first | assumption | omega | (simp; omega) | simp_all) (by first | assumption | omega | (simp; omega) | simp_all)) ?_)
   | refine zA rfl (zh (i := 3) zac rfl (WeakL.refl _) rfl (zc (L := [_, _, _]) (by first | assumption | omega | (simp; omega) | simp_all) (by first | assumption | omega | (simp; omega) | simp_all) (by first | assumption | omega | (simp; omega) | simp_all)) ?_)
   rintro _ _ ⟨y10, rfl, hy10, rfl⟩
   refine ⟨fun _ => .inl trivial, ?_⟩
   refine ahe 9 rfl (by kernel_rfl) ?_
   first
   | refine zA rfl (zh (i := 0) zac rfl (WeakL.refl _) rfl (zc (L := [_, _, _]) (by first | assumption | omega | (simp; omega) | simp_all) (by first | assumption | omega | (simp; omega) | simp_all) (by first | assumption | omega | (simp; omega) | simp_all)) ?_)
   | refine zA rfl (zh (i := 1) zac rfl (WeakL.refl _) rfl (zc (L := [_, _, _]) (by first | assumption | omega | (simp; omega) | simp_all) (by first | assumption | omega | (simp; omega) | simp_all) (by first | assumption | omega | (simp; omega) | simp_all)) ?_)
   | refine zA rfl (zh (i := 2) zac rfl (WeakL.refl _) rfl (zc (L := [_, _, _]) (by first | assumption | omega | (simp; omega) | simp_all) (by first | assumption | omega | (simp; omega) | simp_all) (by first | assumption | omega | (simp; omega) | simp_all)) ?_)
   | refine zA rfl (zh (i := 3) zac rfl (WeakL.refl _) rfl (zc (L := [_, _, _]) (by first | assumption | omega | (simp; omega) | simp_all) (by first | assumption | omega | (simp; omega) | simp_all) (by first | assumption | omega | (simp; omega) | simp_all)) ?_)
   rintro _ _ ⟨y13, rfl, hy13, rfl⟩
   refine ⟨fun _ => .inl trivial, ?_⟩
   refine ahe 12 rfl (by kernel_rfl) ?_
   first
   | refine zA rfl (zh (i := 0) zac rfl (WeakL.refl _) rfl (zc (L := [_, _, _]) (by first | assumption | omega | (simp; omega) | simp_all) (by first | assumption | omega | (simp; omega) | simp_all) (by first | assumption | omega | (simp; omega) | simp_all)) ?_)
   | refine zA rfl (zh (i := 1) zac rfl (WeakL.refl _) rfl (zc (L := [_, _, _]) (by first | assumption | omega | (simp; omega) | simp_all) (by first | assumption | omega | (simp; omega) | simp_all) (by first | assumption | omega | (simp; omega) | simp_all)) ?_)
   | refine zA rfl (zh (i := 2) zac rfl (WeakL.refl _) rfl (zc (L := [_, _, _]) (by first | assumption | omega | (simp; omega) | simp_all) (by first | assumption | omega | (simp; omega) | simp_all) (by first | assumption | omega | (simp; omega) | simp_all)) ?_)
   | refine zA rfl (zh (i := 3) zac rfl (WeakL.refl _) rfl (zc (L := [_, _, _]) (by first | assumption | omega | (simp; omega) | simp_all) (by first | assumption | omega | (simp; omega) | simp_all) (by first | assumption | omega | (simp; omega) | simp_all)) ?_)
   rintro _ _ ⟨y16, rfl, hy16, rfl⟩
   refine ⟨fun _ => .inl trivial, ?_⟩
   refine ahe 15 rfl (by kernel_rfl) ?_
   first
   | refine zA rfl (zh (i := 0) zac rfl (WeakL.refl _) rfl (zc (L := [_, _, _]) (by first | assumption | omega | (simp; omega) | simp_all) (by first | assumption | omega | (simp; omega) | simp_all) (by first | assumption | omega | (simp; omega) | simp_all)) ?_)
   | refine zA rfl (zh (i := 1) zac rfl (WeakL.refl _) rfl (zc (L := [_, _, _]) (by first | assumption | omega | (simp; omega) | simp_all) (by first | assumption | omega | (simp; omega) | simp_all) (by first | assumption | omega | (simp; omega) | simp_all)) ?_)
   | refine zA rfl (zh (i := 2) zac rfl (WeakL.refl _) rfl (zc (L := [_, _, _]) (by first | assumption | omega | (simp; omega) | simp_all) (by first | assumption | omega | (simp; omega) | simp_all) (by first | assumption | omega | (simp; omega) | simp_all)) ?_)
   | refine zA rfl (zh (i := 3) zac rfl (WeakL.refl _) rfl (zc (L := [_, _, _]) (by first | assumption | omega | (simp; omega) | simp_all) (by first | assumption | omega | (simp; omega) | simp_all) (by first | assumption | omega | (simp; omega) | simp_all)) ?_)
   rintro _ _ ⟨y19, rfl, hy19, rfl⟩
   refine ⟨fun _ => .inl trivial, ?_⟩
   refine ahe 18 rfl (by kernel_rfl) ?_
   first
   | refine zA rfl (zh (i := 0) zac rfl (WeakL.refl _) rfl (zc (L := [_, _, _]) (by first | assumption | omega | (simp; omega) | simp_all) (by first | assumption | omega | (simp; omega) | simp_all) (by first | assumption | omega | (simp; omega) | simp_all)) ?_)
   | refine zA rfl (zh (i := 1) zac rfl (WeakL.refl _) rfl (zc (L := [_, _, _]) (by first | assumption | omega | (simp; omega) | simp_all) (by first | assumption | omega | (simp; omega) | simp_all) (by first | assumption | omega | (simp; omega) | simp_all)) ?_)
   | refine zA rfl (zh (i := 2) zac rfl (WeakL.refl _) rfl (zc (L := [_, _, _]) (by first | assumption | omega | (simp; omega) | simp_all) (by first | assumption | omega | (simp; omega) | simp_all) (by first | assumption | omega | (simp; omega) | simp_all)) ?_)
   | refine zA rfl (zh (i := 3) zac rfl (WeakL.refl _) rfl (zc (L := [_, _, _]) (by first | assumption | omega | (simp; omega) | simp_all) (by first | assumption | omega | (simp; omega) | simp_all) (by first | assumption | omega | (simp; omega) | simp_all)) ?_)
   rintro _ _ ⟨y22, rfl, hy22, rfl⟩
   refine ⟨fun _ => .inl trivial, ?_⟩
   refine ahp 19 rfl rfl (by kernel_rfl) (by kernel_rfl) (zaU (cs := [_, _, _, _, _, _]) zW zhn rfl) ?_
   refine ahe 21 rfl (by kernel_rfl) ?_
   first
   | refine zav (zt (i := 0) zW rfl rfl rfl rfl rfl (Nat.le_of_ble_eq_true rfl) ?_)
   | refine zav (zt (i := 1) zW rfl rfl rfl rfl rfl (Nat.le_of_ble_eq_true rfl) ?_)
   | refine zav (zt (i := 2) zW rfl rfl rfl rfl rfl (Nat.le_of_ble_eq_true rfl) ?_)
   | refine zav (zt (i := 3) zW rfl rfl rfl rfl rfl (Nat.le_of_ble_eq_true rfl) ?_)
   refine ⟨fun _ => .inl trivial, ?_⟩
   refine ahz (by kernel_rfl) ?_
   refine ⟨(b3, ⟨(zbD.take y6.toNat).drop 0, y10, y13, y16, y19, y22⟩), ?_, ⟨rfl, trivial⟩, (by repeat (first | exact zp | refine zu rfl ?_ | refine zq rfl rfl ?_)), ?_⟩
   ·exact ⟨⟨by simp [zbD]; omega, by simp [zbD]; omega⟩, fun s hs => zdK s (List.mem_of_mem_take (by simpa using hs))⟩
   ·repeat (first | exact List.Perm.nil | refine zQ 0 rfl ?_ | refine zQ 1 rfl ?_ | refine zQ 2 rfl ?_ | refine zQ 3 rfl ?_ | (refine zI 0 rfl ?hq ?_; (case hq => simp [z7, zl]; done)) | (refine zI 1 rfl ?hq ?_; (case hq => simp [z7, zl]; done)) | (refine zI 2 rfl ?hq ?_; (case hq => simp [z7, zl]; done)) | (refine zI 3 rfl ?hq ?_; (case hq => simp [z7, zl]; done)) | fail)
 ·intro q hq
  obtain ⟨b3, ⟨T, Ve, Wa, Dl, Le, Mo⟩⟩ := q
  dsimp only at hq
  obtain ⟨⟨hT0, hT5⟩, hTs⟩ := hq
  refine zp7 [24, 25, 26, 27, 28, 29, 30, 31, 32, 33, 34, 35, 36, 37, 38, 39, 40, 41, 42, 43] (fun (q : MarketS × Nat) => []) (fun (q : MarketS × Nat) => [.cells b3 (zl (zaS q.1)), .cells b2 [nilS, .int .i64 0, .int .i64 0, .int .i64 0, .int .i64 0, .int .i64 0], St b l q.2]) (fun (q : MarketS × Nat) => GoodM q.1 ∧ q.2 ≤ a + 20) ?_ ?_
  ·skip
   refine zb ?_
   refine dmv rfl ?_
   first
   | refine de rfl (zh (i := 0) zgX rfl (WeakL.refl _) rfl (zaE (by first | assumption | omega | (simp; omega) | simp_all) (by first | assumption | omega | (simp; omega) | simp_all)) ?_)
   | refine de rfl (zh (i := 1) zgX rfl (WeakL.refl _) rfl (zaE (by first | assumption | omega | (simp; omega) | simp_all) (by first | assumption | omega | (simp; omega) | simp_all)) ?_)
   | refine de rfl (zh (i := 2) zgX rfl (WeakL.refl _) rfl (zaE (by first | assumption | omega | (simp; omega) | simp_all) (by first | assumption | omega | (simp; omega) | simp_all)) ?_)
   | refine de rfl (zh (i := 3) zgX rfl (WeakL.refl _) rfl (zaE (by first | assumption | omega | (simp; omega) | simp_all) (by first | assumption | omega | (simp; omega) | simp_all)) ?_)
   rintro _ _ ⟨y25, rfl, rfl⟩
   refine dn ?_
   refine zj rfl (fun h1 => ?_) (fun h2 => ?_)
   ·try simp at h1
    refine zy ?_
    refine dq (zn zW rfl zF (by decide) rfl) ?_
    first
    | refine de rfl (zG (i := 0) zF rfl rfl (.inl ⟨rfl, rfl⟩) ?_)
    | refine de rfl (zG (i := 1) zF rfl rfl (.inl ⟨rfl, rfl⟩) ?_)
    | refine de rfl (zG (i := 2) zF rfl rfl (.inl ⟨rfl, rfl⟩) ?_)
    | refine de rfl (zG (i := 3) zF rfl rfl (.inl ⟨rfl, rfl⟩) ?_)
    refine de rfl (zel ca28 rfl (WeakL.refl _) (zcS (by first | assumption | omega | (simp; omega) | simp_all)) fun v28 => ?_)
    refine dmv rfl ?_
    refine dq (zM (hs := [_, _, _]) zF ty9 rfl rfl (by decide) (by decide) rfl) ?_
    first
    | refine de rfl (zh (i := 0) zch rfl (WeakL.refl _) rfl (zP (L := [_, _, _]) (by first | assumption | omega | (simp; omega) | simp_all) (by first | assumption | omega | (simp; omega) | simp_all) (by first | assumption | omega | (simp; omega) | simp_all)) ?_)
    | refine de rfl (zh (i := 1) zch rfl (WeakL.refl _) rfl (zP (L := [_, _, _]) (by first | assumption | omega | (simp; omega) | simp_all) (by first | assumption | omega | (simp; omega) | simp_all) (by first | assumption | omega | (simp; omega) | simp_all)) ?_)
    | refine de rfl (zh (i := 2) zch rfl (WeakL.refl _) rfl (zP (L := [_, _, _]) (by first | assumption | omega | (simp; omega) | simp_all) (by first | assumption | omega | (simp; omega) | simp_all) (by first | assumption | omega | (simp; omega) | simp_all)) ?_)
    | refine de rfl (zh (i := 3) zch rfl (WeakL.refl _) rfl (zP (L := [_, _, _]) (by first | assumption | omega | (simp; omega) | simp_all) (by first | assumption | omega | (simp; omega) | simp_all) (by first | assumption | omega | (simp; omega) | simp_all)) ?_)
    rintro _ _ ⟨y31, rfl, hy31, rfl⟩
    refine dq (zM (hs := [_]) zF ty9 rfl rfl (by decide) (by decide) rfl) ?_
    first
    | refine de rfl (zah (i := 0) zF ty9 rfl rfl rfl rfl rfl (by simp [zaD, zl]) (by first | omega | (simp; omega)) fun v33 => ?_)
    | refine de rfl (zah (i := 1) zF ty9 rfl rfl rfl rfl rfl (by simp [zaD, zl]) (by first | omega | (simp; omega)) fun v33 => ?_)
    | refine de rfl (zah (i := 2) zF ty9 rfl rfl rfl rfl rfl (by simp [zaD, zl]) (by first | omega | (simp; omega)) fun v33 => ?_)
    | refine de rfl (zah (i := 3) zF ty9 rfl rfl rfl rfl rfl (by simp [zaD, zl]) (by first | omega | (simp; omega)) fun v33 => ?_)
    refine dmv rfl ?_
    first
    | refine de rfl (zh (i := 0) zff rfl (WeakL.refl _) rfl (zap (by first | assumption | omega | (simp; omega) | simp_all) (by first | assumption | omega | (simp; omega) | simp_all) (by first | assumption | omega | (simp; omega) | simp_all) (by first | assumption | omega | (simp; omega) | simp_all)) ?_)
    | refine de rfl (zh (i := 1) zff rfl (WeakL.refl _) rfl (zap (by first | assumption | omega | (simp; omega) | simp_all) (by first | assumption | omega | (simp; omega) | simp_all) (by first | assumption | omega | (simp; omega) | simp_all) (by first | assumption | omega | (simp; omega) | simp_all)) ?_)
    | refine de rfl (zh (i := 2) zff rfl (WeakL.refl _) rfl (zap (by first | assumption | omega | (simp; omega) | simp_all) (by first | assumption | omega | (simp; omega) | simp_all) (by first | assumption | omega | (simp; omega) | simp_all) (by first | assumption | omega | (simp; omega) | simp_all)) ?_)
    | refine de rfl (zh (i := 3) zff rfl (WeakL.refl _) rfl (zap (by first | assumption | omega | (simp; omega) | simp_all) (by first | assumption | omega | (simp; omega) | simp_all) (by first | assumption | omega | (simp; omega) | simp_all) (by first | assumption | omega | (simp; omega) | simp_all)) ?_)
    rintro _ _ ⟨y35, rfl, rfl⟩
    refine dmv rfl ?_
    first
    | refine de rfl (zh (i := 0) zff rfl (WeakL.refl _) rfl (zap (by first | assumption | omega | (simp; omega) | simp_all) (by first | assumption | omega | (simp; omega) | simp_all) (by first | assumption | omega | (simp; omega) | simp_all) (by first | assumption | omega | (simp; omega) | simp_all)) ?_)
    | refine de rfl (zh (i := 1) zff rfl (WeakL.refl _) rfl (zap (by first | assumption | omega | (simp; omega) | simp_all) (by first | assumption | omega | (simp; omega) | simp_all) (by first | assumption | omega | (simp; omega) | simp_all) (by first | assumption | omega | (simp; omega) | simp_all)) ?_)
    | refine de rfl (zh (i := 2) zff rfl (WeakL.refl _) rfl (zap (by first | assumption | omega | (simp; omega) | simp_all) (by first | assumption | omega | (simp; omega) | simp_all) (by first | assumption | omega | (simp; omega) | simp_all) (by first | assumption | omega | (simp; omega) | simp_all)) ?_)
    | refine de rfl (zh (i := 3) zff rfl (WeakL.refl _) rfl (zap (by first | assumption | omega | (simp; omega) | simp_all) (by first | assumption | omega | (simp; omega) | simp_all) (by first | assumption | omega | (simp; omega) | simp_all) (by first | assumption | omega | (simp; omega) | simp_all)) ?_)
    rintro _ _ ⟨y37, rfl, rfl⟩
    refine dmv rfl ?_
    first
    | refine de rfl (zh (i := 0) zff rfl (WeakL.refl _) rfl (zap (by first | assumption | omega | (simp; omega) | simp_all) (by first | assumption | omega | (simp; omega) | simp_all) (by first | assumption | omega | (simp; omega) | simp_all) (by first | assumption | omega | (simp; omega) | simp_all)) ?_)
    | refine de rfl (zh (i := 1) zff rfl (WeakL.refl _) rfl (zap (by first | assumption | omega | (simp; omega) | simp_all) (by first | assumption | omega | (simp; omega) | simp_all) (by first | assumption | omega | (simp; omega) | simp_all) (by first | assumption | omega | (simp; omega) | simp_all)) ?_)
    | refine de rfl (zh (i := 2) zff rfl (WeakL.refl _) rfl (zap (by first | assumption | omega | (simp; omega) | simp_all) (by first | assumption | omega | (simp; omega) | simp_all) (by first | assumption | omega | (simp; omega) | simp_all) (by first | assumption | omega | (simp; omega) | simp_all)) ?_)
    | refine de rfl (zh (i := 3) zff rfl (WeakL.refl _) rfl (zap (by first | assumption | omega | (simp; omega) | simp_all) (by first | assumption | omega | (simp; omega) | simp_all) (by first | assumption | omega | (simp; omega) | simp_all) (by first | assumption | omega | (simp; omega) | simp_all)) ?_)
    rintro _ _ ⟨y39, rfl, rfl⟩
    refine dq (zn zW rfl zF (by decide) rfl) ?_
    first
    | refine de0 (zt (i := 0) zF rfl rfl rfl rfl rfl (Nat.le_of_ble_eq_true rfl) ?_)
    | refine de0 (zt (i := 1) zF rfl rfl rfl rfl rfl (Nat.le_of_ble_eq_true rfl) ?_)
    | refine de0 (zt (i := 2) zF rfl rfl rfl rfl rfl (Nat.le_of_ble_eq_true rfl) ?_)
    | refine de0 (zt (i := 3) zF rfl rfl rfl rfl rfl (Nat.le_of_ble_eq_true rfl) ?_)
    refine dq (zn zW rfl ty3 (by decide) rfl) ?_
    first
    | refine de0 (zt (i := 0) ty3 rfl rfl rfl rfl rfl (Nat.le_of_ble_eq_true rfl) ?_)
    | refine de0 (zt (i := 1) ty3 rfl rfl rfl rfl rfl (Nat.le_of_ble_eq_true rfl) ?_)
    | refine de0 (zt (i := 2) ty3 rfl rfl rfl rfl rfl (Nat.le_of_ble_eq_true rfl) ?_)
    | refine de0 (zt (i := 3) ty3 rfl rfl rfl rfl rfl (Nat.le_of_ble_eq_true rfl) ?_)
    refine dq (zn zW rfl ty3 (by decide) rfl) ?_
    first
    | refine de0 (zt (i := 0) ty3 rfl rfl rfl rfl rfl (Nat.le_of_ble_eq_true rfl) ?_)
    | refine de0 (zt (i := 1) ty3 rfl rfl rfl rfl rfl (Nat.le_of_ble_eq_true rfl) ?_)
    | refine de0 (zt (i := 2) ty3 rfl rfl rfl rfl rfl (Nat.le_of_ble_eq_true rfl) ?_)
    | refine de0 (zt (i := 3) ty3 rfl rfl rfl rfl rfl (Nat.le_of_ble_eq_true rfl) ?_)
    refine dq (zn zW rfl ty3 (by decide) rfl) ?_
    first
    | refine de0 (zt (i := 0) ty3 rfl rfl rfl rfl rfl (Nat.le_of_ble_eq_true rfl) ?_)
    | refine de0 (zt (i := 1) ty3 rfl rfl rfl rfl rfl (Nat.le_of_ble_eq_true rfl) ?_)
    | refine de0 (zt (i := 2) ty3 rfl rfl rfl rfl rfl (Nat.le_of_ble_eq_true rfl) ?_)
    | refine de0 (zt (i := 3) ty3 rfl rfl rfl rfl rfl (Nat.le_of_ble_eq_true rfl) ?_)
    refine dn ?_
    (first | refine zbS (Ghost.fcell (i := 0) (k := 0) (j := 0) rfl rfl rfl) ?_ | refine zbS (Ghost.fcell (i := 0) (k := 1) (j := 0) rfl rfl rfl) ?_ | refine zbS (Ghost.fcell (i := 0) (k := 2) (j := 0) rfl rfl rfl) ?_ | refine zbS (Ghost.fcell (i := 0) (k := 3) (j := 0) rfl rfl rfl) ?_ | refine zbS (Ghost.fcell (i := 1) (k := 0) (j := 0) rfl rfl rfl) ?_ | refine zbS (Ghost.fcell (i := 1) (k := 1) (j := 0) rfl rfl rfl) ?_ | refine zbS (Ghost.fcell (i := 1) (k := 2) (j := 0) rfl rfl rfl) ?_ | refine zbS (Ghost.fcell (i := 1) (k := 3) (j := 0) rfl rfl rfl) ?_ | refine zbS (Ghost.fcell (i := 2) (k := 0) (j := 0) rfl rfl rfl) ?_ | refine zbS (Ghost.fcell (i := 2) (k := 1) (j := 0) rfl rfl rfl) ?_ | refine zbS (Ghost.fcell (i := 2) (k := 2) (j := 0) rfl rfl rfl) ?_ | refine zbS (Ghost.fcell (i := 2) (k := 3) (j := 0) rfl rfl rfl) ?_ | refine zbS (Ghost.fcell (i := 3) (k := 0) (j := 0) rfl rfl rfl) ?_ | refine zbS (Ghost.fcell (i := 3) (k := 1) (j := 0) rfl rfl rfl) ?_ | refine zbS (Ghost.fcell (i := 3) (k := 2) (j := 0) rfl rfl rfl) ?_ | refine zbS (Ghost.fcell (i := 3) (k := 3) (j := 0) rfl rfl rfl) ?_)
    refine znk (⟨T ++ [y31], y35, y37, Dl, y39, Mo⟩, a + 14) ⟨?_, by dsimp only; omega⟩ trivial (by repeat (first | exact zp | refine zu rfl ?_ | refine zq rfl rfl ?_)) ?_
    ·exact ⟨by simp, by simp; omega, fun s hs => by
      rcases List.mem_append.1 hs with hs | hs
      ·exact hTs s hs
      ·rw [List.mem_singleton.1 hs]; simp at hy31; rcases hy31 with rfl | rfl | rfl <;> decide⟩
    ·repeat (first | exact List.Perm.nil | refine zQ 0 rfl ?_ | refine zQ 1 rfl ?_ | refine zQ 2 rfl ?_ | refine zQ 3 rfl ?_ | (refine zI 0 rfl ?hq ?_; (case hq => simp [z7, zl]; done)) | (refine zI 1 rfl ?hq ?_; (case hq => simp [z7, zl]; done)) | (refine zI 2 rfl ?hq ?_; (case hq => simp [z7, zl]; done)) | (refine zI 3 rfl ?hq ?_; (case hq => simp [z7, zl]; done)) | fail)
   ·try simp at h2
    refine zk ?_
    refine znk (⟨T, Ve, Wa, Dl, Le, Mo⟩, a + 7) ⟨⟨hT0, Nat.le_succ_of_le hT5, hTs⟩, by dsimp only; omega⟩ trivial (by repeat (first | exact zp | refine zu rfl ?_ | refine zq rfl rfl ?_)) ?_
    ·repeat (first | exact List.Perm.nil | refine zQ 0 rfl ?_ | refine zQ 1 rfl ?_ | refine zQ 2 rfl ?_ | refine zQ 3 rfl ?_ | (refine zI 0 rfl ?hq ?_; (case hq => simp [z7, zl]; done)) | (refine zI 1 rfl ?hq ?_; (case hq => simp [z7, zl]; done)) | (refine zI 2 rfl ?hq ?_; (case hq => simp [z7, zl]; done)) | (refine zI 3 rfl ?hq ?_; (case hq => simp [z7, zl]; done)) | fail)
  ·intro q hq2
   obtain ⟨m, a2⟩ := q
   dsimp only at hq2
   refine zb ?_
   first
   | refine de rfl (zei (i := 0) zW rfl rfl rfl rfl rfl ?_)
   | refine de rfl (zei (i := 1) zW rfl rfl rfl rfl rfl ?_)
   | refine de rfl (zei (i := 2) zW rfl rfl rfl rfl rfl ?_)
   | refine de rfl (zei (i := 3) zW rfl rfl rfl rfl rfl ?_)
   first
   | refine de0 (zt (i := 0) zW rfl rfl rfl rfl rfl (Nat.le_of_ble_eq_true rfl) ?_)
   | refine de0 (zt (i := 1) zW rfl rfl rfl rfl rfl (Nat.le_of_ble_eq_true rfl) ?_)
   | refine de0 (zt (i := 2) zW rfl rfl rfl rfl rfl (Nat.le_of_ble_eq_true rfl) ?_)
   | refine de0 (zt (i := 3) zW rfl rfl rfl rfl rfl (Nat.le_of_ble_eq_true rfl) ?_)
   refine dn ?_
   refine zo ?_
   exact ⟨_, _, (Ghost.drop).trans (Ghost.fc0 2 rfl), [_], _, ⟨⟨_, _, _, _, _, rfl, zW, .inr ⟨rfl, rfl, rfl⟩⟩, trivial⟩, Weak.refl _, m, a2, rfl, hq2.1, hq2.2, rfl⟩
end
end Go.Proofs.YtcihcbnjfclkbaaGreatDoor
namespace Go.HL
section
section
variable {κ : Type}
/-- The zcA maps by the outer key: block and entries. -/
abbrev GrM (κ : Type) := List (Str × (Nat × List (κ × Int)))
end
end
section
section
variable {P : Program} {e : Env} {dst : Option Tmp} {ty : TypeId} {pos : String} {af : Array Edge} {g : Option (Nat × Bool)} {M : List MObj} {K : HVal → List MObj → Prop}
end
end
section
section
variable {P : Program} {e : Env} {dst : Option Tmp} {ty : TypeId} {pos : String} {af : Array Edge} {g : Option (Nat × Bool)}
end
section
variable {P : Program} {n : Nat} {e e' : Env} {M M' : List MObj} {Q Q' : Exit → Env → List MObj → Prop} {c c' : Code}
def zor {α β γ δ : Type} (e : Env) (ks : List Nat) (W : α → β → γ → δ → List (Nat × HVal)) (MM : α → β → γ → δ → List MObj) (Iv : α → β → γ → δ → Prop) (μ : α → β → γ → δ → Nat) (x : α) (y : β) (u : γ) (v : δ) (Q : Exit → Env → List MObj → Prop) : Exit → Env → List MObj → Prop
 | .normal, e', M => ∃ j k l m, Iv j k l m ∧ μ j k l m < μ x y u v ∧ zcL e' (W j k l m) ∧ zdM ks e e' ∧ M.Perm (MM j k l m)
 | z, e', M => Q z e' M
theorem zg2 {α β γ δ : Type} {e0 : Env} {ks : List Nat} {W : α → β → γ → δ → List (Nat × HVal)} {MM : α → β → γ → δ → List MObj} {Iv : α → β → γ → δ → Prop} {μ : α → β → γ → δ → Nat} {x : α} {y : β} {u : γ} {v : δ} {id : Nat} (h : Q (.exit id) e M) :
 zor e0 ks W MM Iv μ x y u v Q (.exit id) e M := h
theorem zf5 [Tracks] {α β γ δ : Type} (ks : List Nat) (W : α → β → γ → δ → List (Nat × HVal)) (MM : α → β → γ → δ → List MObj) (Iv : α → β → γ → δ → Prop) (μ : α → β → γ → δ → Nat) (x : α) (y : β) (u : γ) (v : δ) (h0 : Iv x y u v) (hW : zcL e (W x y u v)) (hM : M.Perm (MM x y u v))
 (hb : ∀ x y u v, Iv x y u v → HWp P n c (loopE e ks (W x y u v)) (MM x y u v) (zor e ks W MM Iv μ x y u v Q)) : HWp P n (.loop c) e M Q := by
 refine z8 (ι := α × β × γ × δ) ks (fun p => W p.1 p.2.1 p.2.2.1 p.2.2.2) (fun p => MM p.1 p.2.1 p.2.2.1 p.2.2.2) (fun p => Iv p.1 p.2.1 p.2.2.1 p.2.2.2) (fun p => μ p.1 p.2.1 p.2.2.1 p.2.2.2) (x, y, u, v) h0 hW hM fun p hp => zfC (hb p.1 p.2.1 p.2.2.1 p.2.2.2 hp) ?_
 intro z e1 M1 hq
 cases z with
 | normal => obtain ⟨j, k, l, m, h⟩ := hq; exact ⟨(j, k, l, m), h⟩
 | _ => exact hq
end
end
end Go.HL
namespace Go.Proofs.YtcihcbnjfclkbaaGreatDoor
set_option maxRecDepth 100000
set_option linter.unusedVariables false
set_option linter.unusedSimpArgs false
section
open Go.HL
/-- (*benchwarmer/benchmake.Stream).OwnerList$1 -/
theorem zeC [Tracks] {m : MarketS} {x : OwnerS} {t : Str} {bn n : Nat} (hn : n ≤ 1000000) : Con Tryz.prog 37 [zas x, .vptr [.str t] 0, pAt bn, .vptr (zl (zaS m)) 0] [.cells bn [.int .i64 (n : Int)]] (fun r M' => ∃ (y : Bool) (n' : Nat), r = .bool y ∧ n' ≤ n + 1 ∧ M' = [.cells bn [.int .i64 (n' : Int)]]) := by
 refine Con.of_body Tryz.func37 rfl Tryz.ntmps37 rfl rfl ?_
 refine zb ?_
 refine dq (zaL rfl rfl) ?_
 refine das rfl ?_
 refine dn ?_
 refine zfx [6, 7, 8, 9, 10, 11] (fun (n2 : Nat) => []) (fun (n2 : Nat) => [.cells bn [.int .i64 (n2 : Int)]]) (fun (n2 : Nat) => n2 ≤ n + 1) ?_ ?_
 ·skip
  refine zb ?_
  refine dq ((by first | exact zg zZ rfl ty9 (by decide) rfl | exact zn zZ rfl ty9 (by decide) rfl)) ?_
  refine dq (zi ty9 rfl rfl rfl) ?_
  refine dq (zi ty9 rfl rfl rfl) ?_
  refine dq (zbb rfl rfl) ?_
  refine dn ?_
  refine zj rfl (fun h1 => ?_) (fun h2 => ?_)
  ·try simp at h1
   refine zy ?_
   first
   | refine de rfl (zG (i := 0) ty3 rfl rfl (.inl ⟨rfl, rfl⟩) ?_)
   | refine de rfl (zG (i := 1) ty3 rfl rfl (.inl ⟨rfl, rfl⟩) ?_)
   | refine de rfl (zG (i := 2) ty3 rfl rfl (.inl ⟨rfl, rfl⟩) ?_)
   | refine de rfl (zG (i := 3) ty3 rfl rfl (.inl ⟨rfl, rfl⟩) ?_)
   refine dq (zv rfl rfl (by omega) (by omega)) ?_
   first
   | refine de0 (zt (i := 0) ty3 rfl rfl rfl rfl rfl (Nat.le_of_ble_eq_true rfl) ?_)
   | refine de0 (zt (i := 1) ty3 rfl rfl rfl rfl rfl (Nat.le_of_ble_eq_true rfl) ?_)
   | refine de0 (zt (i := 2) ty3 rfl rfl rfl rfl rfl (Nat.le_of_ble_eq_true rfl) ?_)
   | refine de0 (zt (i := 3) ty3 rfl rfl rfl rfl rfl (Nat.le_of_ble_eq_true rfl) ?_)
   refine dn ?_
   exact ⟨n + 1, Nat.le_refl _, trivial, (by repeat (first | exact zp | refine zu rfl ?_ | refine zq rfl rfl ?_)), zT rfl⟩
  ·try simp at h2
   refine zk ?_
   exact ⟨n, by omega, trivial, (by repeat (first | exact zp | refine zu rfl ?_ | refine zq rfl rfl ?_)), zT rfl⟩
 ·intro n2 hn2
  refine zb ?_
  refine dq ((by first | exact zg zZ rfl ty9 (by decide) rfl | exact zn zZ rfl ty9 (by decide) rfl)) ?_
  refine dq (zi ty9 rfl rfl rfl) ?_
  refine dq (zi ty9 rfl rfl rfl) ?_
  refine dq (zbb rfl rfl) ?_
  refine dmv rfl ?_
  refine dgl rfl rfl (fun hc => ⟨_, OpenTo.refl _, zG (i := 0) ty3 rfl rfl (.inl ⟨rfl, rfl⟩) ⟨rfl, rfl⟩⟩) ?_
  refine dg rfl rfl (fun hc => ⟨_, OpenTo.refl _, (by first | exact zg zW rfl ty3 (by decide) rfl | exact zn zW rfl ty3 (by decide) rfl)⟩) ?_
  refine dg rfl rfl (fun hc => ⟨_, OpenTo.upd (t := 18) rfl (by first | exact hc | simp_all) (OpenTo.refl _), zi ty3 rfl rfl rfl⟩) ?_
  refine dg rfl rfl (fun hc => ⟨_, OpenTo.upd (t := 19) rfl (by first | exact hc | simp_all) (OpenTo.upd (t := 17) rfl (by first | exact hc | simp_all) (OpenTo.refl _)), zax rfl rfl⟩) ?_
  refine dq (zL rfl (.inr ⟨_, rfl, fun h => by simp_all⟩) (.inl rfl)) ?_
  refine das rfl ?_
  refine dn ?_
  refine zo ?_
  exact zbG rfl ⟨_, n2, rfl, hn2, rfl⟩

/-- slices.IndexFunc[[]benchwarmer/api.Owner,benchwarmer/api.Owner] -/
theorem zgY [Tracks] {l : List OwnerS} {v : Value} {fid : FuncId} {caps : List HVal} {bn n : Nat} (hca : Callable Tryz.prog fid) (hp : ∀ (x : OwnerS) (n : Nat), n ≤ 1000000 → Con Tryz.prog fid ([zas x] ++ caps) [.cells bn [.int .i64 (n : Int)]] fun r M' => ∃ (y : Bool) (n' : Nat), r = .bool y ∧ n' ≤ n + 1 ∧ M' = [.cells bn [.int .i64 (n' : Int)]]) (hl : l.length ≤ 1000) (hn : n ≤ 1000) : Con Tryz.prog 72 [.raw v, .fn (.func fid) [] caps] [.arr v 2 (l.map zas), .cells bn [.int .i64 (n : Int)]] (fun r M' => ∃ (i : Int) (n' : Nat), r = .int .i64 i ∧ (-1 ≤ i ∧ i < l.length) ∧ n' ≤ n + l.length ∧ M' = [.arr v 2 (l.map zas), .cells bn [.int .i64 (n' : Int)]]) := by
 refine Con.of_body Tryz.func72 rfl Tryz.ntmps72 rfl rfl ?_
 refine zb ?_
 refine das rfl ?_
 refine dn ?_
 refine zf ?_
 refine zb ?_
 refine dmv rfl ?_
 refine de rfl (zaZ (i := 0) (es := l) zat rfl rfl ?_)
 refine dmv rfl ?_
 refine dn ?_
 refine zm ?_
 refine zbf [4, 5, 8, 9, 10, 11, 12, 13, 14, 15, 16, 17, 18] (fun (k : Nat) (n2 : Nat) => [(8, .int .i64 k)]) (fun (k : Nat) (n2 : Nat) => [.arr v 2 (l.map zas), .cells bn [.int .i64 (n2 : Int)]]) (fun (k : Nat) (n2 : Nat) => k ≤ l.length ∧ (n2 ≤ n + k)) (fun (k : Nat) (n2 : Nat) => l.length - k) (0) (n) ?_ ?_ ?_ ?_
 ·exact ⟨Nat.zero_le _, Nat.le_refl _⟩
 ·exact ⟨rfl, trivial⟩
 ·exact zT rfl
 ·intro k n2 hinv
  obtain ⟨hk, hn2⟩ := hinv
  refine zb ?_
  refine dq (zJ rfl rfl) ?_
  refine dn ?_
  refine zf ?_
  refine zj rfl (fun h1 => ?_) (fun h2 => ?_)
  ·try simp at h1
   obtain ⟨x, hx⟩ : ∃ x, l[k]? = some x := ⟨_, List.getElem?_eq_getElem h1⟩
   have hdx := zK hx
   refine zk ?_
   refine ze ?_
   refine zf ?_
   refine zm ?_
   refine zb ?_
   refine dmv rfl ?_
   refine das rfl ?_
   refine dn ?_
   refine zc1 (i := 0) rfl (fun h0 he => ?_) (fun ob off cap hv hcap => ?_)
   ·exfalso; have := congrArg List.length he; simp at this; subst this; simp at hx
   rw [List.length_map] at hv hcap
   subst hv
   refine zb ?_
   refine dmv rfl ?_
   refine dmv rfl ?_
   refine dmv rfl ?_
   refine dq (zak (j := k) zat zZ rfl rfl rfl (by omega)) ?_
   refine de rfl (zcV (i := 0) (j := k) (f := zas) (es := l) zZ rfl rfl rfl hx rfl rfl rfl ?_)
   refine de rfl (EOp.perm (M := [.cells bn [.int .i64 (n2 : Int)]] ++ [.arr (.slice (some ⟨ob, off, none⟩) l.length cap) 2 (l.map zas)]) (List.Perm.swap _ _ _) (EOp.mono ?_ ((zdI hca rfl rfl (WeakL.refl _) (hp _ n2 (by omega))).frame [.arr (.slice (some ⟨ob, off, none⟩) l.length cap) 2 (l.map zas)])))
   rintro _ _ ⟨N, rfl, y16, n16, rfl, hn16, rfl⟩
   refine dn ?_
   refine zj rfl (fun h3 => ?_) (fun h4 => ?_)
   ·try simp at h3
    refine zb ?_
    refine dmv rfl ?_
    refine das rfl ?_
    refine dn ?_
    refine zo ?_
    first
    | exact zbO (Ghost.perm (List.Perm.swap _ _ _)) rfl ⟨(k : Int), n16, rfl, ⟨by omega, by omega⟩, by omega, rfl⟩
    | exact zbG rfl ⟨-1, n2, rfl, ⟨by omega, by omega⟩, by omega, rfl⟩
   ·try simp at h4
    refine zk ?_
    refine zz ?_
    refine ze ?_
    refine zy ?_
    refine dq (zv rfl rfl (by omega) (by omega)) ?_
    refine dmv rfl ?_
    refine dn ?_
    exact ⟨k + 1, n16, ⟨by omega, by omega⟩, by dsimp only; omega, ⟨rfl, trivial⟩, (by repeat (first | exact zp | refine zu rfl ?_ | refine zq rfl rfl ?_)), List.Perm.swap _ _ _⟩
  ·try simp at h2
   have hnk : l.length ≤ k := by omega
   obtain rfl : k = l.length := by omega
   refine zN ?_
   refine zS ?_
   refine zbr ?_
   refine zE ?_
   refine ze ?_
   refine zb ?_
   refine das rfl ?_
   refine dn ?_
   refine zo ?_
   first
   | exact zbO (Ghost.perm (List.Perm.swap _ _ _)) rfl ⟨(k : Int), n16, rfl, ⟨by omega, by omega⟩, by omega, rfl⟩
   | exact zbG rfl ⟨-1, n2, rfl, ⟨by omega, by omega⟩, by omega, rfl⟩

set_option maxHeartbeats 2000000 in
/-- slices.DeleteFunc[[]benchwarmer/api.Owner,benchwarmer/api.Owner] -/
theorem zgG [Tracks] {l : List OwnerS} {v : Value} {fid : FuncId} {caps : List HVal} {bn n : Nat} (hca : Callable Tryz.prog fid) (hp : ∀ (x : OwnerS) (n : Nat), n ≤ 1000000 → Con Tryz.prog fid ([zas x] ++ caps) [.cells bn [.int .i64 (n : Int)]] fun r M' => ∃ (y : Bool) (n' : Nat), r = .bool y ∧ n' ≤ n + 1 ∧ M' = [.cells bn [.int .i64 (n' : Int)]]) (hl : l.length ≤ 1000) (hn : n ≤ 1000) : Con Tryz.prog 36 [.raw v, .fn (.func fid) [] caps] [.arr v 2 (l.map zas), .cells bn [.int .i64 (n : Int)]] (fun r M' => ∃ (u : Value) (l' : List OwnerS) (n' : Nat), r = .raw u ∧ LeftOf l l' ∧ n' ≤ n + 2 * l.length ∧ M' = [.arr u 2 (l'.map zas), .cells bn [.int .i64 (n' : Int)]]) := by
 refine Con.of_body Tryz.func36 rfl Tryz.ntmps36 rfl rfl ?_
 refine zb ?_
 refine das rfl ?_
 refine dn ?_
 refine zb ?_
 refine dmv rfl ?_
 refine dmv rfl ?_
 refine de rfl (zds (M1 := [.arr v 2 (l.map zas), .cells bn [.int .i64 (n : Int)]]) (R := []) ca72 rfl (WeakL.refl _) (List.Perm.refl _) (zgY hca hp hl hn) ?_)
 rintro _ _ ⟨i10, n10, rfl, hi10, hn10, rfl⟩
 refine das rfl ?_
 refine dn ?_
 refine zf ?_
 refine zb ?_
 refine dmv rfl ?_
 refine dq (zaJ rfl rfl) ?_
 refine dn ?_
 refine zj rfl (fun h1 => ?_) (fun h2 => ?_)
 ·try simp at h1
  refine zb ?_
  refine dmv rfl ?_
  refine das rfl ?_
  refine dn ?_
  refine zo ?_
  first
  | exact zbG rfl ⟨_, l, n10, rfl, LeftOf.refl l, by omega, rfl⟩
  | (refine zbG rfl ⟨_, D.take i, n2, rfl, LeftOf.take i hDl hDs, by omega, ?_⟩
     rw [List.map_take]; rfl)
 ·try simp at h2
  refine zk ?_
  refine ze ?_
  refine zf ?_
  obtain ⟨i0, rfl⟩ : ∃ i0 : Nat, i10 = (i0 : Int) := ⟨i10.toNat, by omega⟩
  have hl0 : 0 < l.length := by omega
  refine zc1 (i := 0) rfl (fun h0 he => ?_) (fun ob off cap hv hcap => ?_)
  ·exfalso; have := congrArg List.length he; simp at this; subst this; simp at hl0
  rw [List.length_map] at hv hcap
  subst hv
  refine zb ?_
  refine dmv rfl ?_
  refine dq (zv rfl rfl (by omega) (by omega)) ?_
  refine das rfl ?_
  refine dn ?_
  refine zm ?_
  refine zf5 [5, 6, 7, 16, 17, 18, 19, 20, 21, 22, 23, 24, 25, 26, 27, 28, 29, 30, 31, 32, 33, 34, 35] (fun (j : Nat) (i : Nat) (D : List OwnerS) (n2 : Nat) => [(6, .int .i64 (j : Int)), (5, .int .i64 (i : Int))]) (fun (j : Nat) (i : Nat) (D : List OwnerS) (n2 : Nat) => [.arr (.slice (some ⟨ob, off, none⟩) l.length cap) 2 (D.map zas), .cells bn [.int .i64 (n2 : Int)]]) (fun (j : Nat) (i : Nat) (D : List OwnerS) (n2 : Nat) => (i < j ∧ j ≤ l.length) ∧ D.length = l.length ∧ (∀ x ∈ D, x ∈ l) ∧ n2 ≤ n + l.length + j) (fun (j : Nat) (i : Nat) (D : List OwnerS) (n2 : Nat) => l.length - j) (i0 + 1) (i0) (l) (n10) ?_ ?_ ?_ ?_
  ·exact ⟨⟨by omega, by omega⟩, rfl, fun _ h => h, by omega⟩
  ·exact ⟨zbY (by omega), rfl, trivial⟩
  ·exact zT rfl
  ·intro j i D n2 hinv
   obtain ⟨⟨hij, hjl⟩, hDl, hDs, hn2⟩ := hinv
   refine zf ?_
   refine zb ?_
   refine dmv rfl ?_
   refine dmv rfl ?_
   refine de rfl (zaZ (i := 0) (es := D) zat rfl rfl ?_)
   refine dq (zJ rfl rfl) ?_
   refine dn ?_
   refine zj rfl (fun h3 => ?_) (fun h4 => ?_)
   ·try simp at h3
    obtain ⟨x, hx⟩ : ∃ x, D[j]? = some x := ⟨_, List.getElem?_eq_getElem (by omega)⟩
    refine zk ?_
    refine ze ?_
    refine zf ?_
    refine zm ?_
    refine zb ?_
    refine dmv rfl ?_
    refine dmv rfl ?_
    refine dq (zak (j := j) zat zZ rfl rfl rfl (by omega)) ?_
    refine de rfl (zcV (i := 0) (j := j) (f := zas) (es := D) zZ rfl rfl rfl hx rfl rfl rfl ?_)
    refine de rfl (zab zZ rfl fun b7 => ?_)
    refine de0 (zao zZ rfl rfl rfl rfl rfl ?_)
    refine dn ?_
    refine zO (Ghost.fc0 7 rfl) ?_
    refine zb ?_
    refine dmv rfl ?_
    refine dq (zY zZ rfl rfl rfl rfl) ?_
    refine de rfl (EOp.perm (M := [.cells bn [.int .i64 (n2 : Int)]] ++ [.arr (.slice (some ⟨ob, off, none⟩) l.length cap) 2 (D.map zas)]) (List.Perm.swap _ _ _) (EOp.mono ?_ ((zdI hca rfl rfl (WeakL.refl _) (hp _ n2 (by omega))).frame [.arr (.slice (some ⟨ob, off, none⟩) l.length cap) 2 (D.map zas)])))
    rintro _ _ ⟨N, rfl, y28, n28, rfl, hn28, rfl⟩
    refine dq (zaw rfl) ?_
    refine dn ?_
    refine zj rfl (fun h5 => ?_) (fun h6 => ?_)
    ·try simp at h5
     refine zb ?_
     refine dmv rfl ?_
     refine dmv rfl ?_
     refine dq (zY zZ rfl rfl rfl rfl) ?_
     refine dq (zak (j := i) zat zZ rfl rfl rfl (by omega)) ?_
     refine de0 (zdl (i := 1) (j := i) (y := D[i]'(by omega)) (y' := x) zZ rfl rfl rfl rfl (List.getElem?_eq_getElem _) rfl rfl rfl ?_)
     refine dn ?_
     refine zy ?_
     refine dmv rfl ?_
     refine dq (zv rfl rfl (by omega) (by omega)) ?_
     refine das rfl ?_
     refine dn ?_
     refine zz ?_
     refine ze ?_
     refine zy ?_
     refine dmv rfl ?_
     refine dq (zv rfl rfl (by omega) (by omega)) ?_
     refine das rfl ?_
     refine dn ?_
     exact ⟨j + 1, i + 1, D.set i x, n28, ⟨⟨by omega, by omega⟩, by simpa using hDl, zgK (P := fun x => x ∈ l) hDs (hDs x (List.mem_of_getElem? hx)), by omega⟩, by dsimp only; omega, ⟨rfl, rfl, trivial⟩, (by repeat (first | exact zp | refine zu rfl ?_ | refine zq rfl rfl ?_)), by dsimp only; rw [List.map_set]; exact List.Perm.swap _ _ _⟩
    ·try simp at h6
     refine zk ?_
     refine zz ?_
     refine ze ?_
     refine zy ?_
     refine dmv rfl ?_
     refine dq (zv rfl rfl (by omega) (by omega)) ?_
     refine das rfl ?_
     refine dn ?_
     exact ⟨j + 1, i, D, n28, ⟨⟨by omega, by omega⟩, hDl, hDs, by omega⟩, by dsimp only; omega, ⟨rfl, rfl, trivial⟩, (by repeat (first | exact zp | refine zu rfl ?_ | refine zq rfl rfl ?_)), List.Perm.swap _ _ _⟩
   ·try simp at h4
    refine zN ?_
    refine zS ?_
    refine zg2 ?_
    refine zE ?_
    refine ze ?_
    refine zb ?_
    refine dmv rfl ?_
    refine dmv rfl ?_
    refine dq (zoD (l := i) zat zZ rfl ⟨_, _, rfl, rfl⟩ rfl (by omega) (by omega) hcap) ?_
    refine de0 (zmo (i := 0) (m := i) i zat zZ rfl rfl rfl (zpK (by omega) hcap) rfl (by omega) (Nat.le_refl _) (by rw [List.length_map, hDl]; omega) ?_)
    refine dn ?_
    refine zb ?_
    refine dmv rfl ?_
    refine dmv rfl ?_
    refine dq (zjj (h := i) zat zZ rfl ⟨_, _, rfl, rfl⟩ (by omega)) ?_
    refine das rfl ?_
    refine dn ?_
    refine zo ?_
    first
    | exact zbG rfl ⟨_, l, n10, rfl, LeftOf.refl l, by omega, rfl⟩
    | (refine zbG rfl ⟨_, D.take i, n2, rfl, LeftOf.take i hDl hDs, by omega, ?_⟩
       rw [List.map_take]; rfl)

/-- benchwarmer/benchmake.Key -/
theorem zjt [Tracks] {s : Str} (hs : s.length ≤ 1000000) : zaa Tryz.prog 38 [.str s] (.bool (key s)) := by
 refine Con.of_body Tryz.func38 rfl Tryz.ntmps38 rfl rfl ?_
 refine zb ?_
 refine das rfl ?_
 refine dn ?_
 refine zb ?_
 refine dmv rfl ?_
 refine dq (zw zpx rfl (WeakL.refl _) (zet (by first | assumption | omega | (simp; omega) | simp_all))) ?_
 refine das rfl ?_
 refine dn ?_
 refine zo ?_
 refine zC rfl ?_
 rfl

set_option maxHeartbeats 4000000 in
/-- (*benchwarmer/benchmake.Stream).OwnerList -/
theorem zby [Tracks] {b : Nat} {l : List Int} {a : Nat} {m : MarketS} (ha : a ≤ 700000) (hm : GoodM m) : Con Tryz.prog 6 [pAt b, zaS m] [St b l a] (fun x M' => ∃ k a', x = zbd k ∧ GoodOw k ∧ a' ≤ a + 40 ∧ M' = [St b l a']) := by
 have hm0 := hm.pos
 have hm5 := hm.len
 refine Con.of_body Tryz.func6 rfl Tryz.ntmps6 rfl rfl ?_
 refine zb ?_
 refine dq (zaL rfl rfl) ?_
 refine das rfl ?_
 refine dn ?_
 refine zb ?_
 refine das rfl ?_
 refine dn ?_
 refine zf ?_
 refine zb ?_
 refine dmv rfl ?_
 first
 | refine de rfl (zh (i := 0) zeY rfl (WeakL.refl _) rfl (zai (by first | assumption | omega | (simp; omega) | simp_all) (by first | assumption | omega | (simp; omega) | simp_all) (by first | assumption | omega | (simp; omega) | simp_all) (by first | assumption | omega | (simp; omega) | simp_all)) ?_)
 | refine de rfl (zh (i := 1) zeY rfl (WeakL.refl _) rfl (zai (by first | assumption | omega | (simp; omega) | simp_all) (by first | assumption | omega | (simp; omega) | simp_all) (by first | assumption | omega | (simp; omega) | simp_all) (by first | assumption | omega | (simp; omega) | simp_all)) ?_)
 | refine de rfl (zh (i := 2) zeY rfl (WeakL.refl _) rfl (zai (by first | assumption | omega | (simp; omega) | simp_all) (by first | assumption | omega | (simp; omega) | simp_all) (by first | assumption | omega | (simp; omega) | simp_all) (by first | assumption | omega | (simp; omega) | simp_all)) ?_)
 | refine de rfl (zh (i := 3) zeY rfl (WeakL.refl _) rfl (zai (by first | assumption | omega | (simp; omega) | simp_all) (by first | assumption | omega | (simp; omega) | simp_all) (by first | assumption | omega | (simp; omega) | simp_all) (by first | assumption | omega | (simp; omega) | simp_all)) ?_)
 rintro _ _ ⟨y12, rfl, hy12, rfl⟩
 refine dmv rfl ?_
 refine dn ?_
 refine zO (Ghost.perm (M' := [St b l (a + 1)]) (List.Perm.refl _)) ?_
 refine zO (Ghost.arr_nil 2) ?_
 refine zm ?_
 refine zbf [5, 6, 13, 14, 15, 16, 17, 18, 19, 20, 21, 22, 23, 24, 25, 26, 27] (fun (k : Nat) (q : GL OwnerS) => [(13, .int .i64 (k : Int)), (5, .raw q.u)]) (fun (k : Nat) (q : GL OwnerS) => [St b l q.a, .arr q.u 2 (q.out.map zas)]) (fun (k : Nat) (q : GL OwnerS) => (k : Int) ≤ y12 ∧ GLok zic k (a + 1 + k) q) (fun (k : Nat) (q : GL OwnerS) => y12.toNat - k) (0) (⟨.slice none 0 0, [], a + 1⟩) ?_ ?_ ?_ ?_
 ·exact ⟨by omega, ⟨by simp, by simp, by dsimp only; omega⟩⟩
 ·exact ⟨rfl, rfl, trivial⟩
 ·repeat (first | exact List.Perm.nil | refine zQ 0 rfl ?_ | refine zQ 1 rfl ?_ | refine zQ 2 rfl ?_ | refine zQ 3 rfl ?_ | (refine zI 0 rfl ?hq ?_; (case hq => simp [z7, zl]; done)) | (refine zI 1 rfl ?hq ?_; (case hq => simp [z7, zl]; done)) | (refine zI 2 rfl ?hq ?_; (case hq => simp [z7, zl]; done)) | (refine zI 3 rfl ?hq ?_; (case hq => simp [z7, zl]; done)) | fail)
 ·intro k q hinv
  obtain ⟨hk, hq⟩ := hinv
  obtain ⟨u, out, a1⟩ := q
  obtain ⟨g1, g2, g3⟩ := id hq
  dsimp only at g1 g2 g3
  refine zb ?_
  refine dq (zJ rfl rfl) ?_
  refine dn ?_
  refine zf ?_
  refine zj rfl (fun h1 => ?_) (fun h2 => ?_)
  ·try simp at h1
   refine zk ?_
   refine ze ?_
   refine zf ?_
   refine zm ?_
   refine zb ?_
   refine dmv rfl ?_
   refine das rfl ?_
   refine dn ?_
   refine zb0 (fun _ => True) [] mixed ?_
   refine ahp 0 rfl rfl (by kernel_rfl) (by kernel_rfl) (zd rfl) ?_
   refine ahp 1 rfl rfl (by kernel_rfl) (by kernel_rfl) (zd rfl) ?_
   refine ahp 2 rfl rfl (by kernel_rfl) (by kernel_rfl) (zw ca35 rfl (WeakL.refl _) (zkf (i := k) (by omega))) ?_
   have hdl := zqP (i := k) (by omega)
   refine ahp 3 rfl rfl (by kernel_rfl) (by kernel_rfl) (zmL rfl rfl (by simp; omega)) ?_
   refine ahp 4 rfl rfl (by kernel_rfl) (by kernel_rfl) (zd rfl) ?_
   refine ahp 5 rfl rfl (by kernel_rfl) (by kernel_rfl) ((by first | exact zg zW rfl zF (by decide) rfl | exact zn zW rfl zF (by decide) rfl)) ?_
   refine ahp 6 rfl rfl (by kernel_rfl) (by kernel_rfl) (zi zF rfl rfl rfl) ?_
   refine ahe 7 rfl (by kernel_rfl) ?_
   first
   | refine zA rfl (zh (i := 0) zch rfl (WeakL.refl _) rfl (zP (by first | assumption | omega | (simp; omega) | simp_all) (by first | assumption | omega | (simp; omega) | simp_all) (by first | assumption | omega | (simp; omega) | simp_all)) ?_)
   | refine zA rfl (zh (i := 1) zch rfl (WeakL.refl _) rfl (zP (by first | assumption | omega | (simp; omega) | simp_all) (by first | assumption | omega | (simp; omega) | simp_all) (by first | assumption | omega | (simp; omega) | simp_all)) ?_)
   | refine zA rfl (zh (i := 2) zch rfl (WeakL.refl _) rfl (zP (by first | assumption | omega | (simp; omega) | simp_all) (by first | assumption | omega | (simp; omega) | simp_all) (by first | assumption | omega | (simp; omega) | simp_all)) ?_)
   | refine zA rfl (zh (i := 3) zch rfl (WeakL.refl _) rfl (zP (by first | assumption | omega | (simp; omega) | simp_all) (by first | assumption | omega | (simp; omega) | simp_all) (by first | assumption | omega | (simp; omega) | simp_all)) ?_)
   rintro _ _ ⟨y23, rfl, hy23, rfl⟩
   refine ⟨fun _ => .inl trivial, ?_⟩
   refine ahp 8 rfl rfl (by kernel_rfl) (by kernel_rfl) (zaU (cs := [_, _]) zZ znF rfl) ?_
   refine ahp 9 rfl rfl (by kernel_rfl) (by kernel_rfl) (zM (hs := [_]) zat zZ rfl rfl (by decide) (by decide) rfl) ?_
   refine ahe 10 rfl (by kernel_rfl) ?_
   first
   | refine zA rfl (zah (i := 0) zat zZ rfl rfl rfl rfl rfl (by simp [zaD, zl]) (by first | omega | (simp; omega)) fun v26 => ?_)
   | refine zA rfl (zah (i := 1) zat zZ rfl rfl rfl rfl rfl (by simp [zaD, zl]) (by first | omega | (simp; omega)) fun v26 => ?_)
   | refine zA rfl (zah (i := 2) zat zZ rfl rfl rfl rfl rfl (by simp [zaD, zl]) (by first | omega | (simp; omega)) fun v26 => ?_)
   | refine zA rfl (zah (i := 3) zat zZ rfl rfl rfl rfl rfl (by simp [zaD, zl]) (by first | omega | (simp; omega)) fun v26 => ?_)
   refine ⟨fun _ => .inl trivial, ?_⟩
   refine ahp 11 rfl rfl (by kernel_rfl) (by kernel_rfl) (zaK rfl) ?_
   refine ahz (by kernel_rfl) ?_
   refine zz ?_
   refine ze ?_
   refine zy ?_
   refine dq (zv rfl rfl (by omega) (by omega)) ?_
   refine dmv rfl ?_
   refine dn ?_
   exact ⟨k + 1, ⟨v26, out ++ [⟨112 :: Lib.decDigits k, y23⟩], a1 + 1⟩, ⟨by omega, hq.add (x := (⟨112 :: Lib.decDigits k, y23⟩ : OwnerS)) ⟨zlH (n := 11) (by simp; omega) (by decide), zlH (hm.sh y23 hy23) (by decide)⟩ (by omega)⟩, by dsimp only; omega, ⟨rfl, rfl, trivial⟩, (by repeat (first | exact zp | refine zu rfl ?_ | refine zq rfl rfl ?_)), by repeat (first | exact List.Perm.nil | refine zQ 0 rfl ?_ | refine zQ 1 rfl ?_ | refine zQ 2 rfl ?_ | refine zQ 3 rfl ?_ | (refine zI 0 rfl ?hq ?_; (case hq => simp [z7, zl]; done)) | (refine zI 1 rfl ?hq ?_; (case hq => simp [z7, zl]; done)) | (refine zI 2 rfl ?hq ?_; (case hq => simp [z7, zl]; done)) | (refine zI 3 rfl ?hq ?_; (case hq => simp [z7, zl]; done)) | fail)⟩
  ·try simp at h2
   refine zN ?_
   refine zS ?_
   refine zbr ?_
   refine zE ?_
   refine ze ?_
   refine zf ?_
   refine zb ?_
   refine dq ((by first | exact zg zW rfl zF (by decide) rfl | exact zn zW rfl zF (by decide) rfl)) ?_
   refine dq (zi zF rfl rfl rfl) ?_
   refine dq (zB zF rfl) ?_
   refine dmv rfl ?_
   refine dn ?_
   refine zm ?_
   refine zcI [5, 8, 9, 31, 32, 33, 34, 35, 36, 37, 38, 39, 40, 41, 42, 43, 44, 45, 46, 47, 48, 49, 50, 51, 52, 53, 54, 55, 56] (fun (k : Nat) (u : Value) (out : List OwnerS) => [(31, .int .i64 k), (5, .raw u)]) (fun (k : Nat) (u : Value) (out : List OwnerS) => [St b l a1, .arr u 2 (out.map zas)]) (fun (k : Nat) (u : Value) (out : List OwnerS) => k ≤ m.Teams.length ∧ (out.length ≤ 8 + k ∧ (∀ x ∈ out, zic x))) (fun (k : Nat) (u : Value) (out : List OwnerS) => m.Teams.length - k) (0) (u) (out) ?_ ?_ ?_ ?_
   ·exact ⟨Nat.zero_le _, by omega, g2⟩
   ·exact ⟨rfl, rfl, trivial⟩
   ·repeat (first | exact List.Perm.nil | refine zQ 0 rfl ?_ | refine zQ 1 rfl ?_ | refine zQ 2 rfl ?_ | refine zQ 3 rfl ?_ | (refine zI 0 rfl ?hq ?_; (case hq => simp [z7, zl]; done)) | (refine zI 1 rfl ?hq ?_; (case hq => simp [z7, zl]; done)) | (refine zI 2 rfl ?hq ?_; (case hq => simp [z7, zl]; done)) | (refine zI 3 rfl ?hq ?_; (case hq => simp [z7, zl]; done)) | fail)
   ·intro k u out hinv
    obtain ⟨hk, g1, g2⟩ := hinv
    refine zb ?_
    refine dq (zJ rfl rfl) ?_
    refine dn ?_
    refine zf ?_
    refine zj rfl (fun h3 => ?_) (fun h4 => ?_)
    ·try simp at h3
     obtain ⟨x, hx⟩ : ∃ x, m.Teams[k]? = some x := ⟨_, List.getElem?_eq_getElem h3⟩
     have hdx := zK hx
     refine zk ?_
     refine ze ?_
     refine zf ?_
     refine zm ?_
     refine zb ?_
     refine dq (zH zF ty9 rfl rfl rfl (by first | assumption | simp_all)) ?_
     refine dq (zi ty9 rfl rfl rfl) ?_
     refine de rfl (zab ty9 rfl fun b8 => ?_)
     refine de0 (zao ty9 rfl rfl rfl rfl rfl ?_)
     refine dn ?_
     refine zO (Ghost.fc0 8 rfl) ?_
     refine zb ?_
     refine de rfl (zab ty3 rfl fun b9 => ?_)
     first
     | refine de0 (zt (i := 0) ty3 rfl rfl rfl rfl rfl (Nat.le_of_ble_eq_true rfl) ?_)
     | refine de0 (zt (i := 1) ty3 rfl rfl rfl rfl rfl (Nat.le_of_ble_eq_true rfl) ?_)
     | refine de0 (zt (i := 2) ty3 rfl rfl rfl rfl rfl (Nat.le_of_ble_eq_true rfl) ?_)
     | refine de0 (zt (i := 3) ty3 rfl rfl rfl rfl rfl (Nat.le_of_ble_eq_true rfl) ?_)
     refine dn ?_
     refine zb ?_
     refine dmv rfl ?_
     refine dq (zcr rfl rfl) ?_
     refine de rfl (zds (M1 := [.arr u 2 (out.map zas), .cells b9 [.int .i64 ((0 : Nat) : Int)]]) (R := [St b l a1]) ca36 rfl (WeakL.refl _) (by repeat (first | exact List.Perm.nil | refine zQ 0 rfl ?_ | refine zQ 1 rfl ?_ | refine zQ 2 rfl ?_ | refine zQ 3 rfl ?_ | (refine zI 0 rfl ?hq ?_; (case hq => simp [z7, zl]; done)) | (refine zI 1 rfl ?hq ?_; (case hq => simp [z7, zl]; done)) | (refine zI 2 rfl ?hq ?_; (case hq => simp [z7, zl]; done)) | (refine zI 3 rfl ?hq ?_; (case hq => simp [z7, zl]; done)) | fail)) (zgG (l := out) (n := 0) (caps := [.vptr [.str x] 0, pAt b9, .vptr (zl (zaS m)) 0]) ca37 (fun x n hn => zeC hn) (by omega) (by omega)) ?_)
     rintro _ _ ⟨u37, out2, n2, rfl, hlo, hn2, rfl⟩
     have hol := hlo.len
     refine das rfl ?_
     refine dn ?_
     refine zO (Ghost.fc 9 (i := 1) rfl rfl) ?_
     refine zb ?_
     refine dq (zi ty3 rfl rfl rfl) ?_
     refine dq (zaJ rfl rfl) ?_
     refine dmv rfl ?_
     refine dg rfl rfl (fun hc => ⟨_, OpenTo.refl _, (by first | exact zg zW rfl ty3 (by decide) rfl | exact zn zW rfl ty3 (by decide) rfl)⟩) ?_
     refine dg rfl rfl (fun hc => ⟨_, OpenTo.upd (t := 41) rfl (by first | exact hc | simp_all) (OpenTo.refl _), zi ty3 rfl rfl rfl⟩) ?_
     refine dg rfl rfl (fun hc => ⟨_, OpenTo.upd (t := 42) rfl (by first | exact hc | simp_all) (OpenTo.refl _), zaJ rfl rfl⟩) ?_
     refine dq (zL rfl (.inr ⟨_, rfl, fun h => by simp_all⟩) (.inl rfl)) ?_
     refine dmv rfl ?_
     refine dg rfl rfl (fun hc => ⟨_, OpenTo.refl _, zi ty9 rfl rfl rfl⟩) ?_
     refine dg rfl rfl (fun hc => by have hq := hc; (try simp at hq); exact ⟨_, OpenTo.upd (t := 46) rfl (by first | exact hc | simp_all) (OpenTo.refl _), zw ca38 rfl (WeakL.refl _) (zjt (s := x) (by have := hm.sh x (List.mem_of_getElem? hx); omega))⟩) ?_
     refine dq (zL rfl (.inr ⟨_, rfl, fun h => by simp_all⟩) (.inl rfl)) ?_
     refine dn ?_
     refine zj rfl (fun h5 => ?_) (fun h6 => ?_)
     ·try simp at h5
      refine zy ?_
      refine dmv rfl ?_
      refine dq (zi ty9 rfl rfl rfl) ?_
      have hxl := hm.sh x (List.mem_of_getElem? hx)
      refine dq (zmL rfl rfl (by simp; omega)) ?_
      refine dq (zi ty9 rfl rfl rfl) ?_
      refine dq (zaU (cs := [_, _]) zZ znF rfl) ?_
      refine dq (zM (hs := [_]) zat zZ rfl rfl (by decide) (by decide) rfl) ?_
      first
      | refine de rfl (zah (i := 0) zat zZ rfl rfl rfl rfl rfl (by simp [zaD, zl]) (by first | omega | (simp; omega)) fun v55 => ?_)
      | refine de rfl (zah (i := 1) zat zZ rfl rfl rfl rfl rfl (by simp [zaD, zl]) (by first | omega | (simp; omega)) fun v55 => ?_)
      | refine de rfl (zah (i := 2) zat zZ rfl rfl rfl rfl rfl (by simp [zaD, zl]) (by first | omega | (simp; omega)) fun v55 => ?_)
      | refine de rfl (zah (i := 3) zat zZ rfl rfl rfl rfl rfl (by simp [zaD, zl]) (by first | omega | (simp; omega)) fun v55 => ?_)
      refine das rfl ?_
      refine dn ?_
      refine zz ?_
      refine ze ?_
      refine zy ?_
      refine dq (zv rfl rfl (by omega) (by omega)) ?_
      refine dmv rfl ?_
      refine dn ?_
      exact ⟨k + 1, v55, out2 ++ [⟨113 :: x, x⟩], ⟨by omega, by simp; have := hlo.len; omega, fun z hz => by
       rcases List.mem_append.1 hz with hz | hz
       ·exact g2 z (hlo.sub z hz)
       ·rw [List.mem_singleton.1 hz]; exact ⟨zlH (s := 113 :: x) (n := 11) (by simp; omega) (by decide), zlH hxl (by decide)⟩⟩, by dsimp only; omega, ⟨rfl, rfl, trivial⟩, (by repeat (first | exact zp | refine zu rfl ?_ | refine zq rfl rfl ?_)), by repeat (first | exact List.Perm.nil | refine zQ 0 rfl ?_ | refine zQ 1 rfl ?_ | refine zQ 2 rfl ?_ | refine zQ 3 rfl ?_ | (refine zI 0 rfl ?hq ?_; (case hq => simp [z7, zl]; done)) | (refine zI 1 rfl ?hq ?_; (case hq => simp [z7, zl]; done)) | (refine zI 2 rfl ?hq ?_; (case hq => simp [z7, zl]; done)) | (refine zI 3 rfl ?hq ?_; (case hq => simp [z7, zl]; done)) | fail)⟩
     ·try simp at h6
      refine zk ?_
      refine zz ?_
      refine ze ?_
      refine zy ?_
      refine dq (zv rfl rfl (by omega) (by omega)) ?_
      refine dmv rfl ?_
      refine dn ?_
      exact ⟨k + 1, u37, out2, ⟨by omega, by have := hlo.len; omega, fun z hz => g2 z (hlo.sub z hz)⟩, by dsimp only; omega, ⟨rfl, rfl, trivial⟩, (by repeat (first | exact zp | refine zu rfl ?_ | refine zq rfl rfl ?_)), by repeat (first | exact List.Perm.nil | refine zQ 0 rfl ?_ | refine zQ 1 rfl ?_ | refine zQ 2 rfl ?_ | refine zQ 3 rfl ?_ | (refine zI 0 rfl ?hq ?_; (case hq => simp [z7, zl]; done)) | (refine zI 1 rfl ?hq ?_; (case hq => simp [z7, zl]; done)) | (refine zI 2 rfl ?hq ?_; (case hq => simp [z7, zl]; done)) | (refine zI 3 rfl ?hq ?_; (case hq => simp [z7, zl]; done)) | fail)⟩
    ·try simp at h4
     have hnk : m.Teams.length ≤ k := by omega
     obtain rfl : k = m.Teams.length := by omega
     refine zN ?_
     refine zS ?_
     refine zdu ?_
     refine zE ?_
     refine ze ?_
     refine zfx [10, 57, 58, 59, 60, 61, 62, 63, 64, 65, 66, 67, 68, 69, 70, 71, 72, 73, 74, 75, 76, 77, 78, 79, 80, 81, 82, 83, 84, 85, 86, 87, 88, 89] (fun (q : List OwnerS × Nat) => []) (fun (q : List OwnerS × Nat) => [St b l q.2, .arr u 2 (q.1.map zas)]) (fun (q : List OwnerS × Nat) => q.1.length ≤ 13 ∧ (∀ x ∈ q.1, zic x) ∧ q.2 ≤ a + 40) ?_ ?_
     ·skip
      refine zb ?_
      refine dmv rfl ?_
      first
      | refine de rfl (zaZ (i := 0) zat rfl rfl ?_)
      | refine de rfl (zaZ (i := 1) zat rfl rfl ?_)
      | refine de rfl (zaZ (i := 2) zat rfl rfl ?_)
      | refine de rfl (zaZ (i := 3) zat rfl rfl ?_)
      refine dq (zax rfl rfl) ?_
      refine dmv rfl ?_
      refine dg rfl rfl (fun hc => ⟨_, OpenTo.refl _, zd rfl⟩) ?_
      refine dgx (fun x M' => ∃ (y : Bool) (a3 : Nat), x = .bool y ∧ a3 ≤ a1 + 1 ∧ M' = [St b l a3, .arr u 2 (out.map zas)]) rfl rfl (fun hc => ⟨_, false, a1, rfl, by omega, rfl⟩) (fun hc => ⟨_, OpenTo.upd (t := 61) rfl (by first | exact hc | simp_all) (OpenTo.refl _), zh (i := 0) zgX rfl (WeakL.refl _) rfl (zaE (a := a1) (by omega) (by omega)) (fun h M' hh => by
       obtain ⟨y, h1, h2⟩ := hh
       exact ⟨y, a1 + 1, h1, by omega, by rw [h2]; rfl⟩)⟩) ?_
      rintro _ _ ⟨y, a3, rfl, ha3, rfl⟩
      refine dq (zL rfl (.inr ⟨_, rfl, fun h => by simp_all⟩) (.inl rfl)) ?_
      refine dn ?_
      refine zj rfl (fun h7 => ?_) (fun h8 => ?_)
      ·try simp at h7
       have ho0 : 0 < out.length := by simp_all
       refine zc1 (i := 1) rfl (fun h0 he => ?_) (fun ob off cap hv hcap => ?_)
       ·exfalso; have := congrArg List.length he; simp at this; subst this; simp at ho0
       subst hv
       refine zb ?_
       refine dmv rfl ?_
       refine dmv rfl ?_
       refine dmv rfl ?_
       first
       | refine de rfl (zaZ (i := 0) zat rfl rfl ?_)
       | refine de rfl (zaZ (i := 1) zat rfl rfl ?_)
       | refine de rfl (zaZ (i := 2) zat rfl rfl ?_)
       | refine de rfl (zaZ (i := 3) zat rfl rfl ?_)
       first
       | refine de rfl (zh (i := 0) zeL rfl (WeakL.refl _) rfl (zal (by first | assumption | omega | (simp; omega) | simp_all) (by first | assumption | omega | (simp; omega) | simp_all)) ?_)
       | refine de rfl (zh (i := 1) zeL rfl (WeakL.refl _) rfl (zal (by first | assumption | omega | (simp; omega) | simp_all) (by first | assumption | omega | (simp; omega) | simp_all)) ?_)
       | refine de rfl (zh (i := 2) zeL rfl (WeakL.refl _) rfl (zal (by first | assumption | omega | (simp; omega) | simp_all) (by first | assumption | omega | (simp; omega) | simp_all)) ?_)
       | refine de rfl (zh (i := 3) zeL rfl (WeakL.refl _) rfl (zal (by first | assumption | omega | (simp; omega) | simp_all) (by first | assumption | omega | (simp; omega) | simp_all)) ?_)
       rintro _ _ ⟨y68, rfl, hy68, rfl⟩
       refine dq (zak (j := y68) zat zZ rfl rfl rfl (by simp; omega)) ?_
       refine das rfl ?_
       refine dn ?_
       obtain ⟨x, hx⟩ : ∃ x, out[y68]? = some x := ⟨_, List.getElem?_eq_getElem (by omega)⟩
       refine zb0 (fun M => ∃ i : Nat, M[i]? = some (.arr (.slice (some ⟨ob, off, none⟩) (out.map zas).length cap) 2 (out.map zas))) [6, 13] mixed ?_
       refine ahp 0 rfl rfl (by kernel_rfl) (by kernel_rfl) (zd rfl) ?_
       refine ahp 1 rfl rfl (by kernel_rfl) (by kernel_rfl) (zd rfl) ?_
       refine ahp 2 rfl rfl (by kernel_rfl) (by kernel_rfl) (zd rfl) ?_
       refine ahp 3 rfl rfl (by kernel_rfl) (by kernel_rfl) (zd rfl) ?_
       refine ahp 4 rfl rfl (by kernel_rfl) (by kernel_rfl) ((by first | exact zar rfl | exact zV rfl)) ?_
       refine ahp 5 rfl rfl (by kernel_rfl) (by kernel_rfl) ((by first | exact zg zZ rfl ty9 (by decide) rfl | exact zn zZ rfl ty9 (by decide) rfl)) ?_
       refine ahl 6 rfl rfl (by kernel_rfl) (by kernel_rfl) (by simp) ⟨1, rfl⟩ (fun M hM => by obtain ⟨i, hi⟩ := hM; exact za5 (i := i) (j := y68) 0 ty9 rfl (by omega) hi hx rfl rfl ⟨rfl, rfl⟩) ?_
       refine ahp 7 rfl rfl (by kernel_rfl) (by kernel_rfl) (zM (hs := [_, _, _]) zF ty9 rfl rfl (by decide) (by decide) rfl) ?_
       refine ahp 9 rfl rfl (by kernel_rfl) (by kernel_rfl) (zd rfl) ?_
       refine ahp 10 rfl rfl (by kernel_rfl) (by kernel_rfl) (zd rfl) ?_
       refine ahp 11 rfl rfl (by kernel_rfl) (by kernel_rfl) ((by first | exact zar rfl | exact zV rfl)) ?_
       refine ahp 12 rfl rfl (by kernel_rfl) (by kernel_rfl) ((by first | exact zg zZ rfl ty9 (by decide) rfl | exact zn zZ rfl ty9 (by decide) rfl)) ?_
       refine ahl 13 rfl rfl (by kernel_rfl) (by kernel_rfl) (by simp) ⟨1, rfl⟩ (fun M hM => by obtain ⟨i, hi⟩ := hM; exact za5 (i := i) (j := y68) 1 ty9 rfl (by omega) hi hx rfl rfl ⟨rfl, rfl⟩) ?_
       refine ahp 14 rfl rfl (by kernel_rfl) (by kernel_rfl) (zM (hs := [_, _]) zF ty9 rfl rfl (by decide) (by decide) rfl) ?_
       refine ahe 8 rfl (by kernel_rfl) ?_
       first
       | refine zA rfl (zh (i := 0) zch rfl (WeakL.refl _) rfl (zP (L := [_, _, _]) (by first | assumption | omega | (simp; omega) | simp_all) (by first | assumption | omega | (simp; omega) | simp_all) (by first | assumption | omega | (simp; omega) | simp_all)) ?_)
       | refine zA rfl (zh (i := 1) zch rfl (WeakL.refl _) rfl (zP (L := [_, _, _]) (by first | assumption | omega | (simp; omega) | simp_all) (by first | assumption | omega | (simp; omega) | simp_all) (by first | assumption | omega | (simp; omega) | simp_all)) ?_)
       | refine zA rfl (zh (i := 2) zch rfl (WeakL.refl _) rfl (zP (L := [_, _, _]) (by first | assumption | omega | (simp; omega) | simp_all) (by first | assumption | omega | (simp; omega) | simp_all) (by first | assumption | omega | (simp; omega) | simp_all)) ?_)
       | refine zA rfl (zh (i := 3) zch rfl (WeakL.refl _) rfl (zP (L := [_, _, _]) (by first | assumption | omega | (simp; omega) | simp_all) (by first | assumption | omega | (simp; omega) | simp_all) (by first | assumption | omega | (simp; omega) | simp_all)) ?_)
       rintro _ _ ⟨y78, rfl, hy78, rfl⟩
       refine ⟨fun _ => by first | exact .inl ⟨0, rfl⟩ | exact .inl ⟨1, rfl⟩ | exact .inl ⟨2, rfl⟩ | exact .inr (by simp [zbW, Region.binds]), ?_⟩
       refine ahe 15 rfl (by kernel_rfl) ?_
       first
       | refine zA rfl (zh (i := 0) zch rfl (WeakL.refl _) rfl (zP (L := [_, _]) (by first | assumption | omega | (simp; omega) | simp_all) (by first | assumption | omega | (simp; omega) | simp_all) (by first | assumption | omega | (simp; omega) | simp_all)) ?_)
       | refine zA rfl (zh (i := 1) zch rfl (WeakL.refl _) rfl (zP (L := [_, _]) (by first | assumption | omega | (simp; omega) | simp_all) (by first | assumption | omega | (simp; omega) | simp_all) (by first | assumption | omega | (simp; omega) | simp_all)) ?_)
       | refine zA rfl (zh (i := 2) zch rfl (WeakL.refl _) rfl (zP (L := [_, _]) (by first | assumption | omega | (simp; omega) | simp_all) (by first | assumption | omega | (simp; omega) | simp_all) (by first | assumption | omega | (simp; omega) | simp_all)) ?_)
       | refine zA rfl (zh (i := 3) zch rfl (WeakL.refl _) rfl (zP (L := [_, _]) (by first | assumption | omega | (simp; omega) | simp_all) (by first | assumption | omega | (simp; omega) | simp_all) (by first | assumption | omega | (simp; omega) | simp_all)) ?_)
       rintro _ _ ⟨y85, rfl, hy85, rfl⟩
       refine ⟨fun _ => by first | exact .inl ⟨0, rfl⟩ | exact .inl ⟨1, rfl⟩ | exact .inl ⟨2, rfl⟩ | exact .inr (by simp [zbW, Region.binds]), ?_⟩
       refine ahp 16 rfl rfl (by kernel_rfl) (by kernel_rfl) ((by first | exact zar rfl | exact zV rfl)) ?_
       refine ahp 17 rfl rfl (by kernel_rfl) (by kernel_rfl) ((by first | exact zg zZ rfl ty9 (by decide) rfl | exact zn zZ rfl ty9 (by decide) rfl)) ?_
       refine ahe 18 rfl (by kernel_rfl) ?_
       refine zav (zaQ (i := 1) (j := y68) (f := 0) (y := zas x) (y' := zas ⟨y78, x.Team⟩) ty9 rfl (by omega) rfl rfl (zcn hx) rfl rfl (by simp [zl]) rfl ?_)
       refine ⟨fun _ => .inr (by simp [zbW, Region.binds]), ?_⟩
       refine ahp 19 rfl rfl (by kernel_rfl) (by kernel_rfl) ((by first | exact zar rfl | exact zV rfl)) ?_
       refine ahp 20 rfl rfl (by kernel_rfl) (by kernel_rfl) ((by first | exact zg zZ rfl ty9 (by decide) rfl | exact zn zZ rfl ty9 (by decide) rfl)) ?_
       refine ahe 21 rfl (by kernel_rfl) ?_
       refine zav (zaQ (i := 1) (j := y68) (f := 1) (y := zas ⟨y78, x.Team⟩) (y' := zas ⟨y78, y85⟩) ty9 rfl (by omega) rfl rfl (zmk (zcn hx)) rfl rfl (by simp [zl]) rfl ?_)
       refine ⟨fun _ => .inr (by simp [zbW, Region.binds]), ?_⟩
       refine ahz (by kernel_rfl) ?_
       exact ⟨(out.set y68 ⟨y78, y85⟩, a3 + 3), ⟨by simp; omega, zgK (P := zic) g2 ⟨by simp at hy78; rcases hy78 with rfl | rfl | rfl; exact (g2 x (List.mem_of_getElem? hx)).1; exact zri; (unfold Sh; simp), by simp at hy85; rcases hy85 with rfl | rfl; exact (g2 x (List.mem_of_getElem? hx)).2; (unfold Sh; simp)⟩, by dsimp only; omega⟩, trivial, (by repeat (first | exact zp | refine zu rfl ?_ | refine zq rfl rfl ?_)), by repeat (first | exact List.Perm.nil | refine zQ 0 rfl ?_ | refine zQ 1 rfl ?_ | refine zQ 2 rfl ?_ | refine zQ 3 rfl ?_ | (refine zI 0 rfl ?hq ?_; (case hq => simp [z7, zl]; done)) | (refine zI 1 rfl ?hq ?_; (case hq => simp [z7, zl]; done)) | (refine zI 2 rfl ?hq ?_; (case hq => simp [z7, zl]; done)) | (refine zI 3 rfl ?hq ?_; (case hq => simp [z7, zl]; done)) | fail)⟩
      ·try simp at h8
       refine zk ?_
       exact ⟨(out, a3), ⟨by dsimp only; omega, g2, by dsimp only; omega⟩, trivial, (by repeat (first | exact zp | refine zu rfl ?_ | refine zq rfl rfl ?_)), by repeat (first | exact List.Perm.nil | refine zQ 0 rfl ?_ | refine zQ 1 rfl ?_ | refine zQ 2 rfl ?_ | refine zQ 3 rfl ?_ | (refine zI 0 rfl ?hq ?_; (case hq => simp [z7, zl]; done)) | (refine zI 1 rfl ?hq ?_; (case hq => simp [z7, zl]; done)) | (refine zI 2 rfl ?hq ?_; (case hq => simp [z7, zl]; done)) | (refine zI 3 rfl ?hq ?_; (case hq => simp [z7, zl]; done)) | fail)⟩
     ·intro q hq3
      obtain ⟨k1, a4⟩ := q
      dsimp only at hq3
      obtain ⟨q1, q2, q3⟩ := hq3
      refine zb ?_
      refine dmv rfl ?_
      refine das rfl ?_
      refine dn ?_
      refine zo ?_
      refine zbO (Ghost.fa 4 (i := 1) rfl rfl) rfl ⟨k1, a4, rfl, ⟨q1, q2⟩, by omega, rfl⟩
end
section
open Go.HL

end
section
open Go.HL

end
section
open Go.HL

end
end Go.Proofs.YtcihcbnjfclkbaaGreatDoor
namespace Go.HL
section
open Op (bytesLess)
theorem zpn {α : Type} {R : α → α → Prop} : ∀ {l : List α}, l.Pairwise R → ∀ x ∈ l, ∀ y ∈ l, x = y ∨ R x y ∨ R y x
 | [], _, x, hx, _, _ => by simp at hx
 | a :: l, h, x, hx, y, hy => by
   obtain ⟨h1, h2⟩ := List.pairwise_cons.1 h
   rcases List.mem_cons.1 hx with e | hx' <;> rcases List.mem_cons.1 hy with e' | hy'
   ·exact .inl (e.trans e'.symm)
   ·exact .inr (.inl (e ▸ h1 y hy'))
   ·exact .inr (.inr (e' ▸ h1 x hx'))
   ·exact zpn h2 x hx' y hy'
/-! keeps that are right -/
def kLt (a b : Keep) : Prop := bytesLess a.Team b.Team = true ∨ (a.Team = b.Team ∧ a.Round < b.Round)
structure KeepsOk (r : Room) (k : List Keep) : Prop where
 all : ∀ x ∈ k, x.Team ∈ r.Teams ∧ x.Player ∈ r.Players ∧ 1 ≤ x.Round ∧ x.Round ≤ r.Rounds
 lt : k.Pairwise kLt
def fits (t : Turn) (x : Keep) : Bool := decide (x.Team = t.of ∧ x.Round = t.round)
theorem KeepsOk.one {r : Room} {k : List Keep} (h : KeepsOk r k) {t : Turn} {x y : Keep} (hx : x ∈ k) (hy : y ∈ k) (fx : fits t x = true) (fy : fits t y = true) : y = x := by
 simp [fits] at fx fy
 rcases zpn h.lt x hx y hy with e | e | e
 ·exact e.symm
 ·exfalso
  rcases e with e | ⟨e1, e2⟩
  ·rw [fx.1, fy.1, zau] at e; cases e
  ·omega
 ·exfalso
  rcases e with e | ⟨e1, e2⟩
  ·rw [fx.1, fy.1, zau] at e; cases e
  ·omega
def zlK (k : List Keep) (l : List Pick) (s : Str) : Bool := k.any (fun x => x.Player == s) || l.any (fun p => p.Player == s)
end
section
section
variable {r : Room} {k : List Keep} {fr l : List Pick} {p : Pick}
end
structure Wish where
 Team : Str
 Players : List Str
theorem zn7 (k : List Keep) (l : List Pick) (p : Pick) (s : Str) : zlK k (l ++ [p]) s = (zlK k l s || p.Player == s) := by
 simp [zlK, Bool.or_assoc]
/-! what a run holds -/
structure RunOk (r : Room) (k : List Keep) (s : List Swap) (l : List Pick) (S : List Str) : Prop where
 gone : ∀ x ∈ r.Players, S.contains x = zlK k l x
theorem RunOk.add {r : Room} {k : List Keep} {s : List Swap} {l : List Pick} {S : List Str} (ok : RunOk r k s l S) (p : Pick) : RunOk r k s (l ++ [p]) (zc9 p.Player S) :=
 ⟨fun x hx => by rw [zn7, zhb, ok.gone x hx]⟩
end
section
section
variable {r : Room} {w : List Wish} {k : Nat} {x : Wish} {t : List Wish}
end
end
end Go.HL
namespace Go.Proofs.YtcihcbnjfclkbaaGreatDoor
set_option maxRecDepth 100000
set_option linter.unusedVariables false
set_option linter.unusedSimpArgs false
section
open Go.HL
set_option linter.unusedSimpArgs false
end
section
open Go.HL

end
section
open Go.HL
set_option linter.unusedSimpArgs false
end
section
open Go.HL

end
section
open Go.HL

end
section
open Go.HL

end
end Go.Proofs.YtcihcbnjfclkbaaGreatDoor
namespace Go.HL
section
variable {P : Program}
theorem EOp.fzi [Tracks] {e : Env} {M N : List MObj} {o : Oper} {K : HVal → List MObj → Prop} {sz : Nat} {es : List HVal} (i : Nat) (h : EOp P e M o fun x M' => ∃ v, x = .raw v ∧ M'[i]? = some (.arr v sz es) ∧ M'.eraseIdx i = N) (hk : K (.slice sz es) N) : EOp P e M o K := fun I F a w ho hs =>
 Oper.wp_noQ (fun _ _ ⟨v, x, M', J, h1, h2, ⟨u, h3, h4, h5⟩, h6, h7⟩ => by
  subst h3 h5
  obtain ⟨J', g1, g2, g3⟩ := (h7.pull h4).freeze_arr
  exact ⟨v, _, _, J', h1, h2.trans g1, hk, by rw [h6.raw_inv]; exact g3, g2⟩) (h I F a w ho hs)
end
end Go.HL
namespace Go.Proofs.YtcihcbnjfclkbaaGreatDoor
set_option maxRecDepth 100000
set_option linter.unusedVariables false
set_option linter.unusedSimpArgs false
section
open Go.HL
set_option maxHeartbeats 2000000 in
/-- (*benchwarmer/benchmake.Stream).Order -/
theorem zfK [Tracks] {b : Nat} {l : List Int} {a : Nat} {n : Nat} (ha : a ≤ 800000) (hn1 : 1 ≤ n) (hn2 : n ≤ 1000) : Con Tryz.prog 40 [pAt b, .int .i64 (n : Int)] [St b l a] (fun x M' => ∃ (L : List Int) (a' : Nat), x = .slice 1 (L.map (.int .i64)) ∧ (L.length = n ∧ ∀ i ∈ L, (0 : Int) ≤ i ∧ i < n) ∧ a' ≤ a + n ∧ M' = [St b l a']) := by
 refine Con.of_body Tryz.func40 rfl Tryz.ntmps40 rfl rfl ?_
 refine zb ?_
 refine das rfl ?_
 refine dn ?_
 refine zb ?_
 refine das rfl ?_
 refine dn ?_
 refine zO (Ghost.arr_nil 1) ?_
 refine zf ?_
 refine zb ?_
 refine dmv rfl ?_
 refine dmv rfl ?_
 refine dn ?_
 refine zm ?_
 refine zcI [5, 6, 10, 11, 12, 13, 14, 15, 16, 17] (fun (k : Nat) (u : Value) (L : List Int) => [(10, .int .i64 (k : Int)), (5, .raw u)]) (fun (k : Nat) (u : Value) (L : List Int) => [.arr u 1 (L.map (HVal.int .i64)), St b l a]) (fun (k : Nat) (u : Value) (L : List Int) => k ≤ n ∧ L.length = k ∧ ∀ i ∈ L, (0 : Int) ≤ i ∧ i < n) (fun (k : Nat) (u : Value) (L : List Int) => n - k) (0) (.slice none 0 0) ([]) ?_ ?_ ?_ ?_
 ·exact ⟨by omega, rfl, by simp⟩
 ·exact ⟨rfl, rfl, trivial⟩
 ·exact zT rfl
 ·intro k u L hinv
  obtain ⟨hk, hL, hLb⟩ := hinv
  refine zb ?_
  refine dq (zJ rfl rfl) ?_
  refine dn ?_
  refine zf ?_
  refine zj rfl (fun h1 => ?_) (fun h2 => ?_)
  ·try simp at h1
   have hkn : k < n := by omega
   refine zk ?_
   refine ze ?_
   refine zf ?_
   refine zm ?_
   refine zb ?_
   refine dmv rfl ?_
   refine das rfl ?_
   refine dn ?_
   refine zy ?_
   refine dmv rfl ?_
   refine dmv rfl ?_
   refine dq (zM (hs := [_]) zR ty3 rfl rfl (by decide) (by decide) rfl) ?_
   refine de rfl (zah (i := 0) zR ty3 rfl rfl rfl rfl rfl (by simp [zaD, zl]) (by simp; omega) fun v16 => ?_)
   refine das rfl ?_
   refine dn ?_
   refine zz ?_
   refine ze ?_
   refine zy ?_
   refine dq (zv rfl rfl (by omega) (by omega)) ?_
   refine dmv rfl ?_
   refine dn ?_
   exact ⟨k + 1, v16, L ++ [(k : Int)], ⟨by omega, by simp [hL], fun i hi => by rcases List.mem_append.1 hi with h | h; exact hLb i h; (simp at h; omega)⟩, by dsimp only; omega, ⟨rfl, rfl, trivial⟩, (by repeat (first | exact zp | refine zu rfl ?_ | refine zq rfl rfl ?_)), zT (by simp)⟩
  ·try simp at h2
   obtain rfl : n = k := by omega
   refine zN ?_
   refine zS ?_
   refine zdu ?_
   refine zE ?_
   refine ze ?_
   refine zf ?_
   refine zO (Ghost.perm (M' := [St b l a, .arr u 1 (L.map (.int .i64))]) (by repeat (first | exact List.Perm.nil | refine zQ 0 rfl ?_ | refine zQ 1 rfl ?_ | refine zQ 2 rfl ?_ | refine zQ 3 rfl ?_ | (refine zI 0 rfl ?hq ?_; (case hq => simp [z7, zl]; done)) | (refine zI 1 rfl ?hq ?_; (case hq => simp [z7, zl]; done)) | (refine zI 2 rfl ?hq ?_; (case hq => simp [z7, zl]; done)) | (refine zI 3 rfl ?hq ?_; (case hq => simp [z7, zl]; done)) | fail))) ?_
   refine zc1 (i := 1) rfl (fun h0 he => ?_) (fun ob off cap hv hcap => ?_)
   ·exfalso; have := congrArg List.length he; simp at this; subst this; simp at hL; omega
   rw [List.length_map, hL] at hv hcap
   subst hv
   refine zb ?_
   refine dmv rfl ?_
   refine dq (zay rfl rfl (by omega) (by omega)) ?_
   refine das rfl ?_
   refine dn ?_
   refine zm ?_
   refine zcI [7, 8, 20, 21, 22, 23, 24, 25, 26, 27, 28, 29, 30, 31, 32, 33, 34, 35, 36, 37, 38, 39, 40, 41] (fun (m : Nat) (L : List Int) (a2 : Nat) => [(7, .int .i64 (m : Int))]) (fun (m : Nat) (L : List Int) (a2 : Nat) => [St b l a2, .arr (.slice (some ⟨ob, off, none⟩) n cap) 1 (L.map (HVal.int .i64))]) (fun (m : Nat) (L : List Int) (a2 : Nat) => m < n ∧ (L.length = n ∧ ∀ i ∈ L, (0 : Int) ≤ i ∧ i < n) ∧ a2 + m ≤ a + n) (fun (m : Nat) (L : List Int) (a2 : Nat) => m) (n - 1) (L) (a) ?_ ?_ ?_ ?_
   ·exact ⟨by omega, ⟨hL, hLb⟩, by omega⟩
   ·exact ⟨zbY (by omega), trivial⟩
   ·exact List.Perm.refl _
   ·intro m L a2 hinv
    obtain ⟨hm, ⟨hL, hLb⟩, ha2⟩ := hinv
    refine zf ?_
    refine zb ?_
    refine dmv rfl ?_
    refine dq (zax rfl rfl) ?_
    refine dn ?_
    refine zj rfl (fun h3 => ?_) (fun h4 => ?_)
    ·try simp at h3
     have hm0 : 0 < m := by omega
     refine zk ?_
     refine ze ?_
     refine zf ?_
     refine zm ?_
     refine zb ?_
     refine dmv rfl ?_
     refine dmv rfl ?_
     refine dq (zv rfl rfl (by omega) (by omega)) ?_
     refine de rfl (zh (i := 0) zeL rfl (WeakL.refl _) rfl (zal (by omega) (by omega)) ?_)
     rintro _ _ ⟨y27, rfl, hy27, rfl⟩
     refine das rfl ?_
     refine dn ?_
     obtain ⟨z1, hz1⟩ : ∃ z, L[y27]? = some z := ⟨_, List.getElem?_eq_getElem (by omega)⟩
     obtain ⟨z2, hz2⟩ : ∃ z, L[m]? = some z := ⟨_, List.getElem?_eq_getElem (by omega)⟩
     obtain ⟨z3, hz3⟩ : ∃ z, (L.set m z1)[y27]? = some z := ⟨_, List.getElem?_eq_getElem (by simp; omega)⟩
     refine zb0 (fun M => ∃ i : Nat, M[i]? = some (.arr (.slice (some ⟨ob, off, none⟩) n cap) 1 (L.map (HVal.int .i64)))) [7, 11] mixed ?_
     refine ahp 0 rfl rfl (by kernel_rfl) (by kernel_rfl) (zd rfl) ?_
     refine ahp 1 rfl rfl (by kernel_rfl) (by kernel_rfl) (zd rfl) ?_
     refine ahp 2 rfl rfl (by kernel_rfl) (by kernel_rfl) (zd rfl) ?_
     refine ahp 3 rfl rfl (by kernel_rfl) (by kernel_rfl) (zd rfl) ?_
     refine ahp 4 rfl rfl (by kernel_rfl) (by kernel_rfl) (zd rfl) ?_
     refine ahp 5 rfl rfl (by kernel_rfl) (by kernel_rfl) (zd rfl) ?_
     refine ahp 6 rfl rfl (by kernel_rfl) (by kernel_rfl) (zak (j := y27) zR ty3 rfl rfl rfl (by omega)) ?_
     refine ahl 7 rfl rfl (by kernel_rfl) (by kernel_rfl) (by simp) (⟨1, rfl⟩) (fun M hM => by obtain ⟨i, hi⟩ := hM; exact za5 (i := i) (j := y27) 0 ty3 rfl (by omega) hi hz1 rfl rfl ⟨rfl, rfl⟩) ?_
     refine ahp 8 rfl rfl (by kernel_rfl) (by kernel_rfl) (zd rfl) ?_
     refine ahp 9 rfl rfl (by kernel_rfl) (by kernel_rfl) (zd rfl) ?_
     refine ahp 10 rfl rfl (by kernel_rfl) (by kernel_rfl) (zak (j := m) zR ty3 rfl rfl rfl (by omega)) ?_
     refine ahl 11 rfl rfl (by kernel_rfl) (by kernel_rfl) (by simp) (⟨1, rfl⟩) (fun M hM => by obtain ⟨i, hi⟩ := hM; exact za5 (i := i) (j := m) 0 ty3 rfl (by omega) hi hz2 rfl rfl ⟨rfl, rfl⟩) ?_
     refine ahp 12 rfl rfl (by kernel_rfl) (by kernel_rfl) (zak (j := m) zR ty3 rfl rfl rfl (by omega)) ?_
     refine ahe 13 rfl (by kernel_rfl) ?_
     refine zav (zdl (i := 1) (f := HVal.int .i64) (es := L) (j := m) (y := z2) (y' := z1) ty3 rfl rfl rfl rfl hz2 rfl rfl rfl ?_)
     refine ⟨fun _ => .inr (by simp [zbW, Region.binds]), ?_⟩
     refine ahp 14 rfl rfl (by kernel_rfl) (by kernel_rfl) (zak (j := y27) zR ty3 rfl rfl rfl (by omega)) ?_
     refine ahe 15 rfl (by kernel_rfl) ?_
     refine zav (zdl (i := 1) (f := HVal.int .i64) (es := L.set m z1) (j := y27) (y := z3) (y' := z2) ty3 rfl rfl rfl rfl hz3 rfl rfl rfl ?_)
     refine ⟨fun _ => .inr (by simp [zbW, Region.binds]), ?_⟩
     refine ahz (by kernel_rfl) ?_
     refine zz ?_
     refine ze ?_
     refine zy ?_
     refine dmv rfl ?_
     refine dq (zay rfl rfl (by omega) (by omega)) ?_
     refine das rfl ?_
     refine dn ?_
     exact ⟨m - 1, (L.set m z1).set y27 z2, a2 + 1, ⟨by omega, ⟨by simp [hL], zgK (P := fun i : Int => 0 ≤ i ∧ i < n) (zgK (P := fun i : Int => 0 ≤ i ∧ i < n) hLb (hLb z1 (List.mem_of_getElem? hz1))) (hLb z2 (List.mem_of_getElem? hz2))⟩, by omega⟩, by dsimp only; omega, ⟨zbY (by omega), trivial⟩, (by repeat (first | exact zp | refine zu rfl ?_ | refine zq rfl rfl ?_)), zT (by simp [List.map_set])⟩
    ·try simp at h4
     refine zN ?_
     refine zS ?_
     refine zdu ?_
     refine zE ?_
     refine ze ?_
     refine zb ?_
     refine dmv rfl ?_
     refine das rfl ?_
     refine dn ?_
     refine zo ?_
     refine zbO (Ghost.fa 4 (i := 1) rfl rfl) rfl ⟨L, a2, rfl, ⟨hL, hLb⟩, by omega, rfl⟩
end
end Go.Proofs.YtcihcbnjfclkbaaGreatDoor
namespace Go.HL
section
open Op
structure WantS where
 Player : Str
 For : List Str
abbrev zb7 (w : WantS) : HVal := .agg [.str w.Player, eSs w.For]
abbrev za1 (l : List WantS) : HVal := .slice 2 (l.map zb7)
def zbQ : WantS := ⟨[], []⟩
/-- Who has a player; empty: nobody. -/
def zaA : List OwnerS → Str → Str
 | [], _ => []
 | x :: t, s => if x.Player = s then x.Team else zaA t s
/-- What is wrong with whom a team would take. -/
def zaY (o : List OwnerS) (w : WantS) : Nat → List Str → Int
 | _, [] => 0
 | k, s :: t => if zaA o s = [] then 8 else if (w.For.take k).contains s = true then 6 else if zaA o s = zaA o w.Player then 16 else zaY o w (k + 1) t
def zaH (o : List OwnerS) (w : WantS) : Int := if 20 < w.For.length then 2 else zaY o w 0 w.For
def zad (o : List OwnerS) (w : List WantS) : Nat → List WantS → Int
 | _, [] => 0
 | k, x :: t => if zaA o x.Player = [] then 8 else if 0 < k ∧ (bytesLess x.Player (w.getD (k - 1) zbQ).Player = true ∨ x.Player = (w.getD (k - 1) zbQ).Player) then 7 else if zaH o x ≠ 0 then zaH o x else zad o w (k + 1) t
def zX (o : List OwnerS) (w : List WantS) : Int := if 500 < w.length then 2 else zad o w 0 w
def zaj (m : MarketS) (o : List OwnerS) (w : List WantS) : Int := if zbm m o ≠ 0 then zbm m o else zX o w
theorem zjQ {o : List OwnerS} {w : WantS} {k : Nat} {s : Str} {t : List Str} (h1 : zaA o s ≠ []) (h2 : (w.For.take k).contains s = false) (h3 : zaA o s ≠ zaA o w.Player) : zaY o w k (s :: t) = zaY o w (k + 1) t := by
 rw [zaY, if_neg h1, if_neg (by rw [h2]; simp), if_neg h3]
/-- What right wants are. -/
structure WantsOk (o : List OwnerS) (w : List WantS) : Prop where
 len : w.length ≤ 500
 srt : SortedS (w.map (·.Player))
 tm : ∀ x ∈ w, zaA o x.Player ≠ []
 few : ∀ x ∈ w, x.For.length ≤ 20
 nd : ∀ x ∈ w, x.For.Nodup
 ftm : ∀ x ∈ w, ∀ s ∈ x.For, zaA o s ≠ [] ∧ zaA o s ≠ zaA o x.Player
theorem zlT {o : List OwnerS} {w : WantS} : ∀ {t : List Str} {k : Nat}, w.For.drop k = t → (w.For.take k).Nodup → zaY o w k t = 0 → w.For.Nodup ∧ ∀ s ∈ t, zaA o s ≠ [] ∧ zaA o s ≠ zaA o w.Player
 | [], k, hd, hn, _ => by
   have : w.For.length ≤ k := by simpa using hd
   rw [List.take_of_length_le this] at hn
   exact ⟨hn, by simp⟩
 | s :: t, k, hd, hn, h => by
   rw [zaY] at h
   split at h
   ·omega
   split at h
   ·omega
   split at h
   ·omega
   rename_i h1 h2 h3
   have hk : w.For[k]? = some s := by have := congrArg (fun q : List Str => q[0]?) hd; simpa using this
   have e : w.For.take (k + 1) = w.For.take k ++ [s] := by rw [List.take_add_one, hk]; rfl
   obtain ⟨g1, g2⟩ := zlT (t := t) (k := k + 1) (by rw [← List.drop_drop (i := 1), hd]; rfl) (by
    rw [e]
    refine List.nodup_append.2 ⟨hn, by simp, fun a ha b hb => ?_⟩
    rw [List.mem_singleton.1 hb]
    exact fun q => h2 (by rw [← q]; simpa using ha)) h
   refine ⟨g1, fun z hz => ?_⟩
   rcases List.mem_cons.1 hz with rfl | hz
   ·exact ⟨h1, h3⟩
   ·exact g2 z hz
theorem zp0 (a b : Str) : bytesLess a b = true ∨ a = b ∨ bytesLess b a = true := by
 rcases Int.lt_trichotomy (za2 a b) 0 with h | h | h
 ·exact .inl (zfy.1 h)
 ·exact .inr (.inl (zdA.1 h))
 ·exact .inr (.inr (zfy.1 (by have := zdB a b; omega)))
theorem zjL {o : List OwnerS} {w : List WantS} : ∀ {t : List WantS} {k : Nat}, w.drop k = t → zad o w k t = 0 →
 (∀ x ∈ t, zaA o x.Player ≠ [] ∧ zaH o x = 0) ∧ ∀ j x y, k ≤ j → 0 < j → w[j]? = some x → w[j - 1]? = some y → bytesLess y.Player x.Player = true
 | [], k, hd, _ => ⟨by simp, fun j x y hj h0 hx hy => by
   have : w.length ≤ k := by simpa using hd
   rw [List.getElem?_eq_none (by omega)] at hx; cases hx⟩
 | z :: t, k, hd, h => by
   rw [zad] at h
   split at h
   ·omega
   split at h
   ·omega
   split at h
   ·contradiction
   rename_i h1 h2 h3
   have hk : w[k]? = some z := by have := congrArg (fun q : List WantS => q[0]?) hd; simpa using this
   obtain ⟨g1, g2⟩ := zjL (t := t) (k := k + 1) (by rw [← List.drop_drop (i := 1), hd]; rfl) h
   refine ⟨fun x hx => ?_, fun j x y hj h0 hx hy => ?_⟩
   ·rcases List.mem_cons.1 hx with rfl | hx
    ·exact ⟨h1, Classical.not_not.1 h3⟩
    ·exact g1 x hx
   ·rcases Nat.lt_or_ge k j with q | q
    ·exact g2 j x y q h0 hx hy
    ·obtain rfl : j = k := by omega
     rw [hk] at hx; cases hx
     have e : w.getD (j - 1) zbQ = y := by rw [List.getD_eq_getElem?_getD, hy]; rfl
     rw [e] at h2
     refine Classical.byContradiction fun hb => h2 ⟨h0, ?_⟩
     rcases zp0 z.Player y.Player with q | q | q
     ·exact .inl q
     ·exact .inr q
     ·exact absurd q hb
theorem zkG {l : List Str} (h : ∀ (j : Nat) (x y : Str), l[j]? = some x → l[j + 1]? = some y → bytesLess x y = true) : SortedS l := by
 have key : ∀ (d i : Nat) (a b : Str), l[i]? = some a → l[i + d + 1]? = some b → bytesLess a b = true := by
  intro d
  induction d with
  | zero => intro i a b ha hb; exact h i a b ha hb
  | succ d ih =>
    intro i a b ha hb
    have hl := zD hb
    obtain ⟨c, hc⟩ : ∃ c, l[i + d + 1]? = some c := ⟨_, List.getElem?_eq_getElem (by omega)⟩
    exact zda (ih i a c ha hc) (h (i + d + 1) c b hc (by rw [← hb]; congr 1))
 refine List.pairwise_iff_getElem.2 fun i j hi hj hij => ?_
 exact key (j - i - 1) i _ _ (List.getElem?_eq_getElem hi) (by rw [show i + (j - i - 1) + 1 = j by omega]; exact List.getElem?_eq_getElem hj)
theorem zpO {o : List OwnerS} {w : List WantS} (h : zX o w = 0) : WantsOk o w := by
 unfold zX at h
 split at h
 ·omega
 obtain ⟨h1, h2⟩ := zjL (t := w) (k := 0) rfl h
 have hf : ∀ x ∈ w, x.For.length ≤ 20 ∧ x.For.Nodup ∧ ∀ s ∈ x.For, zaA o s ≠ [] ∧ zaA o s ≠ zaA o x.Player := fun x hx => by
  have := (h1 x hx).2
  unfold zaH at this
  split at this
  ·omega
  ·obtain ⟨a, b⟩ := zlT (t := x.For) (k := 0) rfl (by simp) this
   exact ⟨by omega, a, b⟩
 refine ⟨by omega, ?_, fun x hx => (h1 x hx).1, fun x hx => (hf x hx).1, fun x hx => (hf x hx).2.1, fun x hx => (hf x hx).2.2⟩
 refine zkG fun j x y hx hy => ?_
 rw [List.getElem?_map] at hx hy
 cases ha : w[j]? with
 | none => rw [ha] at hx; cases hx
 | some a =>
   cases hb : w[j + 1]? with
   | none => rw [hb] at hy; cases hy
   | some b =>
     rw [ha] at hx; rw [hb] at hy
     simp at hx hy
     subst hx hy
     exact h2 (j + 1) b a (by omega) (by omega) hb (by simpa using ha)
theorem zep {m : MarketS} {o : List OwnerS} {w : List WantS} (h : zaj m o w = 0) : zbm m o = 0 ∧ WantsOk o w := by
 unfold zaj at h
 split at h
 ·contradiction
 ·rename_i h1; exact ⟨Classical.not_not.1 h1, zpO h⟩
/-- Where a player of wants stands, or -1. -/
def zba (w : List WantS) (s : Str) : Int := if (w.map (·.Player)).contains s = true then ((zcw (w.map (·.Player)) s : Nat) : Int) else -1
theorem zcG {w : List WantS} (hs : SortedS (w.map (·.Player))) {s : Str} {k : Nat} : zba w s = (k : Int) ↔ ∃ x, w[k]? = some x ∧ x.Player = s := by
 unfold zba
 constructor
 ·intro h
  split at h
  ·rename_i hc
   obtain ⟨h1, _⟩ := zin hs hc
   have e : zcw (w.map (·.Player)) s = k := by omega
   rw [e, List.getElem?_map] at h1
   cases hx : w[k]? with
   | none => rw [hx] at h1; cases h1
   | some x => rw [hx] at h1; simp at h1; exact ⟨x, rfl, h1⟩
  ·omega
 ·rintro ⟨x, hx, rfl⟩
  have hm : (w.map (·.Player))[k]? = some x.Player := by rw [List.getElem?_map, hx]; rfl
  have hc : (w.map (·.Player)).contains x.Player = true := by
   rw [List.contains_iff_mem]; exact List.mem_of_getElem? hm
  rw [if_pos hc]
  obtain ⟨h1, h2⟩ := zin hs hc
  congr 1
  rcases Nat.lt_trichotomy (zcw (w.map (·.Player)) x.Player) k with q | q | q
  ·have := hs.get q h1 hm
   rw [zau] at this; cases this
  ·exact q
  ·exact absurd rfl (h2 k _ q hm)
theorem zmi {w : List WantS} (hs : SortedS (w.map (·.Player))) {s : Str} : -1 ≤ zba w s ∧ zba w s < w.length := by
 unfold zba
 split
 ·rename_i hc
  obtain ⟨h1, _⟩ := zin hs hc
  have := zD h1
  rw [List.length_map] at this
  omega
 ·omega
theorem znR {w : List WantS} {s : Str} : zba w s < 0 ↔ s ∉ w.map (·.Player) := by
 unfold zba
 split
 ·rename_i hc
  rw [List.contains_iff_mem] at hc
  constructor
  ·intro h; omega
  ·exact fun h => absurd hc h
 ·rename_i hc
  rw [List.contains_iff_mem] at hc
  exact ⟨fun _ => hc, fun _ => by omega⟩
theorem zpq {l : List WantS} {s : Str} {i : Nat} : (bif decide ((i : Int) < (l.length : Int)) then za2 (l.getD i zbQ).Player s == 0 else false) = ((l.map (·.Player))[i]? == some s) := by
 by_cases h : i < l.length
 ·obtain ⟨x, hx⟩ : ∃ x, l[i]? = some x := ⟨_, List.getElem?_eq_getElem h⟩
  have e : l.getD i zbQ = x := by rw [List.getD_eq_getElem?_getD, hx]; rfl
  rw [List.getElem?_map, hx, e]
  have h2 : (i : Int) < (l.length : Int) := by omega
  simp only [h2, decide_true, cond_true, Option.map_some]
  rw [Bool.eq_iff_iff]
  simp [zdA]
 ·have h2 : ¬ (i : Int) < (l.length : Int) := by omega
  rw [List.getElem?_eq_none (by simpa using Nat.le_of_not_lt h)]
  simp [h2]
theorem zbo {o : List OwnerS} {w : List WantS} {k : Nat} {x : WantS} {t : List WantS} {e : Int} (h4 : w.length ≤ 500) (hg : zad o w 0 w = zad o w k (x :: t)) (h6 : zaA o x.Player ≠ [])
 (h8 : ¬ (0 < k ∧ (bytesLess x.Player (w.getD (k - 1) zbQ).Player = true ∨ x.Player = (w.getD (k - 1) zbQ).Player))) (hE : zaH o x = e) (he : e ≠ 0) : zX o w = e := by
 rw [zX, if_neg (by omega), hg, zad, if_neg h6, if_neg h8, if_pos (by rw [hE]; exact he), hE]
theorem zh4 {o : List OwnerS} {x : WantS} {j : Nat} {y : Str} {t : List Str} (h : x.For.length ≤ 20) (hj : zaY o x 0 x.For = zaY o x j (y :: t)) (h1 : zaA o y = []) : zaH o x = 8 := by
 rw [zaH, if_neg (by omega), hj, zaY, if_pos h1]
theorem zhK {o : List OwnerS} {x : WantS} {j : Nat} {y : Str} {t : List Str} (h : x.For.length ≤ 20) (hj : zaY o x 0 x.For = zaY o x j (y :: t)) (h1 : zaA o y ≠ []) (h2 : (x.For.take j).contains y = true) : zaH o x = 6 := by
 rw [zaH, if_neg (by omega), hj, zaY, if_neg h1, if_pos h2]
theorem zf9 {o : List OwnerS} {x : WantS} {j : Nat} {y : Str} {t : List Str} (h : x.For.length ≤ 20) (hj : zaY o x 0 x.For = zaY o x j (y :: t)) (h1 : zaA o y ≠ []) (h2 : ¬ (x.For.take j).contains y = true) (h3 : zaA o y = zaA o x.Player) : zaH o x = 16 := by
 rw [zaH, if_neg (by omega), hj, zaY, if_neg h1, if_neg h2, if_pos h3]
end
section
def zjw (x : WantS) : Prop := Sh x.Player ∧ x.For.length ≤ 4 ∧ ∀ s ∈ x.For, Sh s
def GoodW0 (x : WantS) : Prop := Sh x.Player ∧ x.For.length ≤ 3 ∧ ∀ s ∈ x.For, Sh s
theorem GoodW0.up {x : WantS} (h : GoodW0 x) : zjw x := ⟨h.1, Nat.le_succ_of_le h.2.1, h.2.2⟩
structure GoodWs (l : List WantS) : Prop where
 len : l.length ≤ 5
 all : ∀ x ∈ l, zjw x
theorem znu {l : List Str} {s : Str} (h : ∀ x ∈ l, Sh x) (hs : Sh s) : ∀ x ∈ l ++ [s], Sh x := fun x hx => by
 rcases List.mem_append.1 hx with h1 | h1
 ·exact h x h1
 ·rw [List.mem_singleton.1 h1]; exact hs
end
section
open Go
section
variable {P : Program} {e : Env} {ty : TypeId} {pos : String} {af : Array Edge} {M : List MObj}
theorem zrl [Tracks] {ops : Array Oper} {n d j : Nat} {op : Op} {want c : Bool} {rest : Env → List MObj → Prop} (Q : HVal → List MObj → Prop) (hd : Nat.blt d n = true) (hg : zdE ops e j want = some c) (hn : c = false → ∃ x, Q x M)
 (hp : c = true → ∃ e2, OpenTo e e2 ∧ EOp P e2 M ⟨some d, op, ty, pos, af, some (j, want)⟩ Q) (k : ∀ x M', Q x M' → rest (upd e d (.opt c x)) M') : HOp P ops n ⟨some d, op, ty, pos, af, some (j, want)⟩ e M rest :=
 ⟨fun t ht => by simp at ht; subst ht; exact zdC hd, c, hg, fun hc => by
  obtain ⟨e2, h1, h2⟩ := hp hc
  intro I F a w ho hs
  exact Oper.wp_noQ (fun _ _ ⟨v, x, M', J, h3, h4, h5, h7, h8⟩ => ⟨v, .opt c x, M', J, h3, h4, k x M' h5, .opt (fun _ => h7) (fun hf => by rw [hc] at hf; cases hf), h8⟩) (h2 I F a w (ho.open h1) hs),
  fun hc => by
   obtain ⟨x, hx⟩ := hn hc
   exact ⟨x, by subst hc; exact k x M hx⟩⟩
end
end
section
open Go
section
variable {P : Program} {e : Env} {dst : Option Tmp} {ty : TypeId} {pos : String} {af : Array Edge} {g : Option (Nat × Bool)} {M : List MObj} {K : HVal → List MObj → Prop}
theorem ziN {n : Nat} (h : n < 9223372036854775808) : IntKind.i64.wrap (n : Int) = (n : Int) := zhX (by omega) (by omega)
theorem zlZ [Tracks] {x y : Operand} {t t' : TypeId} {s k : Nat} {k' : IntKind} (hx : zx e x = some (.int .i64 (s : Int))) (hy : zx e y = some (.int k' (k : Int))) (hk : k ≤ 62) :
 POp P e ⟨dst, .binOp .shr t x y t', ty, pos, af, g⟩ (.int .i64 ((s / 2 ^ k : Nat) : Int)) := by
 have := zgz (P := P) (dst := dst) (ty := ty) (pos := pos) (af := af) (g := g) (t := t) (t' := t') hx hy (by omega)
 have e1 : min (k : Int).toNat IntKind.i64.bits = k := by show min k 64 = k; omega
 rw [e1] at this
 have e2 : (s : Int).fdiv (2 ^ k) = ((s / 2 ^ k : Nat) : Int) := by
  rw [Int.fdiv_eq_ediv_of_nonneg _ (by exact_mod_cast Nat.zero_le (2 ^ k)), Int.natCast_ediv]; simp
 rwa [e2] at this
theorem zk2 [Tracks] {x y : Operand} {t t' : TypeId} {s : Nat} (hx : zx e x = some (.int .i64 (s : Int))) (hy : zx e y = some (.int .i64 1)) :
 POp P e ⟨dst, .binOp .and t x y t', ty, pos, af, g⟩ (.int .i64 ((s % 2 : Nat) : Int)) :=
 POp.of_val fun I a w ho => ⟨.int .i64 ((s % 2 : Nat) : Int), by
  have g1 := (ho.one (x := x) (by simp [Op.operands]) hx).int_inv
  have g2 := (ho.one (x := y) (by simp [Op.operands]) hy).int_inv
  have g3 : (BitVec.ofInt IntKind.i64.bits (s : Int) &&& BitVec.ofInt IntKind.i64.bits 1).toNat = s % 2 := by
   show (BitVec.ofInt 64 (s : Int) &&& BitVec.ofInt 64 1).toNat = s % 2
   rw [BitVec.toNat_and]
   have h1 : (BitVec.ofInt 64 (1 : Int)).toNat = 1 := by decide
   have h2 : (BitVec.ofInt 64 (s : Int)).toNat = s % 2 ^ 64 := by
    rw [BitVec.toNat_ofInt]; exact Int.toNat_natCast (s % 2 ^ 64)
   rw [h1, h2, Nat.and_one_is_mod]; omega
  have g4 := ziN (n := s % 2) (by omega)
  simp only [execOp, g1, g2, eqGuard, binOp, Op.intBits, g3, g4]
  rfl, .int _ _⟩
theorem zfE [Tracks] {x y : Operand} {t t' : TypeId} {k : Nat} {k' : IntKind} (hx : zx e x = some (.int .i64 1)) (hy : zx e y = some (.int k' (k : Int))) (hk : k ≤ 62) :
 POp P e ⟨dst, .binOp .shl t x y t', ty, pos, af, g⟩ (.int .i64 ((2 ^ k : Nat) : Int)) :=
 POp.of_val fun I a w ho => ⟨.int .i64 ((2 ^ k : Nat) : Int), by
  have h1 := (ho.one (x := x) (by simp [Op.operands]) hx).int_inv
  have h2 := (ho.one (x := y) (by simp [Op.operands]) hy).int_inv
  have h3 : ¬ (k : Int) < 0 := by omega
  have e1 : min (k : Int).toNat IntKind.i64.bits = k := by show min k 64 = k; omega
  have e2 : IntKind.i64.wrap (1 * 2 ^ k) = ((2 ^ k : Nat) : Int) := by
   have : (1 : Int) * 2 ^ k = ((2 ^ k : Nat) : Int) := by rw [Int.one_mul]; simp
   rw [this]
   exact ziN (Nat.lt_of_le_of_lt (Nat.pow_le_pow_right (by omega) hk) (by decide))
  simp only [execOp, h1, h2, eqGuard, binOp, Op.shift, h3, if_false, e1, e2]
  rfl, .int _ _⟩
theorem zie [Tracks] {x y : Operand} {t t' : TypeId} {s u : Nat} (hx : zx e x = some (.int .i64 (s : Int))) (hy : zx e y = some (.int .i64 (u : Int))) (hs : s < 2 ^ 62) (hu : u < 2 ^ 62) :
 POp P e ⟨dst, .binOp .or t x y t', ty, pos, af, g⟩ (.int .i64 ((s ||| u : Nat) : Int)) :=
 POp.of_val fun I a w ho => ⟨.int .i64 ((s ||| u : Nat) : Int), by
  have g1 := (ho.one (x := x) (by simp [Op.operands]) hx).int_inv
  have g2 := (ho.one (x := y) (by simp [Op.operands]) hy).int_inv
  have g3 : (BitVec.ofInt IntKind.i64.bits (s : Int) ||| BitVec.ofInt IntKind.i64.bits (u : Int)).toNat = s ||| u := by
   show (BitVec.ofInt 64 (s : Int) ||| BitVec.ofInt 64 (u : Int)).toNat = s ||| u
   rw [BitVec.toNat_or]
   have h2 : ∀ z : Nat, z < 2 ^ 62 → (BitVec.ofInt 64 (z : Int)).toNat = z := fun z hz => by
    rw [BitVec.toNat_ofInt]
    have : ((z : Int) % ((2 ^ 64 : Nat) : Int)) = (z : Int) := Int.emod_eq_of_lt (by omega) (by omega)
    rw [this]; rfl
   rw [h2 s hs, h2 u hu]
  have g4 := ziN (n := s ||| u) (Nat.lt_of_lt_of_le (Nat.or_lt_two_pow hs hu) (by decide))
  simp only [execOp, g1, g2, eqGuard, binOp, Op.intBits, g3, g4]
  rfl, .int _ _⟩
theorem zrp {s k : Nat} : decide (((s / 2 ^ k % 2 : Nat) : Int) = 0) = !s.testBit k := by
 rw [Nat.testBit_eq_decide_div_mod_eq]
 have : s / 2 ^ k % 2 = 0 ∨ s / 2 ^ k % 2 = 1 := by omega
 rcases this with h | h <;> simp [h]
/-! delete at maps whose keys are strings -/
def zca {α : Type} (x : Str) : List (Str × α) → List (Str × α)
 | [] => []
 | p :: r => if x = p.1 then r else p :: zca x r
theorem zk5 {s : Str} : ∀ {l : List (Str × HVal)}, (∀ j h, zaf s l = some (j, h) → zca s l = l.eraseIdx j) ∧ (zaf s l = none → zca s l = l)
 | [] => ⟨fun j h hh => by simp [zaf] at hh, fun _ => rfl⟩
 | (k, x) :: r => by
   obtain ⟨h1, h2⟩ := zk5 (s := s) (l := r)
   by_cases hk : s = k
   ·refine ⟨fun j h hh => ?_, fun hh => ?_⟩
    ·simp [zaf, hk] at hh; rw [← hh.1]; simp [zca, hk]
    ·simp [zaf, hk] at hh
   ·refine ⟨fun j h hh => ?_, fun hh => ?_⟩
    ·simp only [zaf, if_neg hk] at hh
     cases hr : zaf s r with
     | none => rw [hr] at hh; simp at hh
     | some p =>
       rw [hr] at hh
       simp at hh
       rw [← hh.1, zca, if_neg hk, h1 p.1 p.2 hr]; rfl
    ·simp only [zaf, if_neg hk] at hh
     cases hr : zaf s r with
     | none => rw [zca, if_neg hk, h2 hr]
     | some p => rw [hr] at hh; simp at hh
theorem zni {α : Type} {f : α → HVal} {s : Str} : ∀ L : List (Str × α), zca s (em f L) = em f (zca s L)
 | [] => rfl
 | p :: r => by
   have ih := zni (f := f) (s := s) r
   simp only [List.map_cons, zca] at ih ⊢
   by_cases h : s = p.1
   ·rw [if_pos h, if_pos h]
   ·rw [if_neg h, if_neg h, ih]; rfl
theorem BornOk.erase {es : Array MapEntry} {clk : Nat} (h : BornOk es clk) {k : Nat} (hk : k < es.size) : BornOk (es.eraseIdx k hk) clk := by
 have key : ∀ i m, (es.eraseIdx k hk)[i]? = some m → es[if i < k then i else i + 1]? = some m := fun i m hm => by
  rw [Array.getElem?_eraseIdx] at hm; split at hm <;> rename_i hi <;> simp [hi, hm]
 refine ⟨fun i m hm => h.1 _ m (key i m hm), fun i j m n hm hn he => ?_⟩
 have := h.2 _ _ m n (key i m hm) (key j n hn) he
 split at this <;> split at this <;> omega
theorem zjI {at' : Array TypeId} {xs : Array Operand} {ρ : Operand → Value} (w : World) :
 (execOp ρ ⟨dst, .call ⟨.builtin .delete, xs, at'⟩, ty, pos, af, g⟩).run P w = ((Builtin.delete_ at' ty (xs.map ρ)).run P w).andThen (fun v w => .ok (.value v) w) := by
 simp [execOp, resolve, invoke, builtin]
theorem zjx [Tracks] {α : Type} {x y : Operand} {t kt et : TypeId} {size bytes s2 b2 : Nat} {zero z2 : Value} {i b : Nat} {f : α → HVal} {L : List (Str × α)} {s : Str}
 (hf : Fits P t (.map kt et) size bytes zero) (hkt : Fits P kt .str s2 b2 z2) (hx : zx e x = some (.raw (.map (some b)))) (hy : zx e y = some (.str s)) (hm : M[i]? = some (.map b (sk (em f L))))
 (hk : K (.tup []) (M.set i (.map b (sk (em f (zca s L)))))) : EOp P e M ⟨dst, .call ⟨.builtin .delete, #[x, y], #[t, kt]⟩, ty, pos, af, g⟩ K :=
 EOp.of_run fun I F a w ho hs => by
  have h1 := (ho.one (x := x) (by simp [Op.operands, Call.operands]) hx).raw_inv
  have h2 := (ho.one (x := y) (by simp [Op.operands, Call.operands]) hy).str_inv
  have hp := hs.pull hm
  obtain ⟨es, clk, h3, h4, h5⟩ := hp.obj _ List.mem_cons_self
  obtain ⟨h6, h7⟩ := zcW h4.1 h5
  obtain ⟨n1, n2⟩ := zdw (I := I) (s := s) es.toList (em f L) 0 h6 h7
  obtain ⟨d1, d2⟩ := zk5 (s := s) (l := em f L)
  rw [zni] at d1 d2
  have hlt : b < w.heap.size := (Array.getElem?_eq_some_iff.1 h3).1
  have fin : ∀ (es' : Array MapEntry), es'.size = (sk (em f (zca s L))).length ∧ BornOk es' clk →
   (∀ (i : Nat) (p : HVal × HVal) (m : MapEntry), (sk (em f (zca s L)))[i]? = some p → es'[i]? = some m → V I p.1 m.key ∧ V I p.2 m.val) →
   Sat P I (M.set i (.map b (sk (em f (zca s L)))) ++ F) { w with heap := w.heap.setIfInBounds b (.map es' clk) } := fun es' e1 e2 => by
   refine Sat.unpull hm (hp.change (m' := .map b (sk (em f (zca s L)))) (fun k hk hnk => ?_) (fun k hk => .inl hk) (by simp [MObj.blocks]) ⟨es', clk, by simp [hlt], e1, e2⟩ rfl rfl rfl)
   have : k ≠ b := by simpa [MObj.blocks] using hnk
   simp [Array.getElem?_setIfInBounds_ne (Ne.symm this)]
  cases hq : zaf s (em f L) with
  | none =>
    rw [d2 hq] at fin
    refine ⟨.tuple #[], .tup [], _, { w with heap := w.heap.setIfInBounds b (.map es clk) }, I, ?_, .refl I, hk, .tup rfl (fun j c v h _ => by simp at h), ?_⟩
    ·rw [zjI]
     simp only [List.map_toArray, List.map_cons, List.map_nil, h1, h2, Builtin.delete_, List.getElem?_toArray, List.getElem?_cons_zero, List.getElem?_cons_succ, Sem.run_bind, run_underlying hf.mapD, Result.andThen_ok, zbH h3, za0 hkt.strD, Instr.findKey, run_underlying hkt.strD, n1 hq, Sem.run_pure, zft h3]
    ·rw [d2 hq]
     exact fin es h4 h5
  | some q =>
    obtain ⟨j0, h'⟩ := q
    obtain ⟨v, g1, g2⟩ := n2 j0 h' hq
    have hj0 := zi5 hq
    have hjl := zD hj0
    have hsz : es.size = (em f L).length := by simpa [sk] using h4.1
    have hjs : j0 < es.size := by omega
    have hes : es.eraseIdxIfInBounds j0 = es.eraseIdx j0 hjs := by unfold Array.eraseIdxIfInBounds; rw [dif_pos hjs]
    have hd : sk (em f (zca s L)) = (sk (em f L)).eraseIdx j0 := by
     rw [d1 j0 h' hq]
     have e1 : ∀ (l : List (Str × HVal)) (j : Nat), sk (l.eraseIdx j) = (sk l).eraseIdx j := fun l => by
      induction l with
      | nil => intro j; rfl
      | cons p r ih =>
        intro j
        cases j with
        | zero => rfl
        | succ j => simp only [List.eraseIdx_cons_succ, sk, List.map_cons] at ih ⊢; rw [ih]
     exact e1 _ _
    refine ⟨.tuple #[], .tup [], _, { w with heap := w.heap.setIfInBounds b (.map (es.eraseIdx j0 hjs) clk) }, I, ?_, .refl I, hk, .tup rfl (fun j c v h _ => by simp at h), fin (es.eraseIdx j0 hjs) ⟨?_, h4.2.erase hjs⟩ fun p q m a1 a2 => ?_⟩
    ·rw [zjI]
     simp only [List.map_toArray, List.map_cons, List.map_nil, h1, h2, Builtin.delete_, List.getElem?_toArray, List.getElem?_cons_zero, List.getElem?_cons_succ, Sem.run_bind, run_underlying hf.mapD, Result.andThen_ok, zbH h3, za0 hkt.strD, Instr.findKey, run_underlying hkt.strD, g1, Sem.run_pure, Nat.zero_add, hes, zft h3]
    ·rw [hd, Array.size_eraseIdx, List.length_eraseIdx]
     have : (sk (em f L)).length = es.size := h4.1.symm
     rw [this, if_pos hjs]
    ·rw [hd, List.getElem?_eraseIdx] at a1
     rw [Array.getElem?_eraseIdx] at a2
     split at a1
     ·rename_i hp1; rw [if_pos hp1] at a2; exact h5 _ _ _ a1 a2
     ·rename_i hp1; rw [if_neg hp1] at a2; exact h5 _ _ _ a1 a2
end
end
section
open Go
section
variable {P : Program} {e : Env} {dst : Option Tmp} {ty : TypeId} {pos : String} {af : Array Edge} {g : Option (Nat × Bool)} {M : List MObj} {K : HVal → List MObj → Prop}
/-- Single cells are stored into a part of an owned slice. -/
theorem zn5 [Tracks] {I : Imm} {F : List MObj} {w : World} {k b off n cap d : Nat} {es ys : List HVal} {vs : List Value} (hs : Sat P I (M ++ F) w) (hm : M[k]? = some (.arr (.slice (some ⟨b, off, none⟩) n cap) 1 es))
 (hn : n = es.length) (hv : VL I ys vs) (hone : ∀ v ∈ vs, v.oneCell' = true) (hc : ∀ y ∈ ys, zl y = [y]) (hd : d + ys.length ≤ es.length) :
 ∃ w', (storeCells ⟨b, off + d, none⟩ vs).run P w = .ok () w' ∧ Sat P I (M.set k (.arr (.slice (some ⟨b, off, none⟩) n cap) 1 (es.take d ++ ys ++ es.drop (d + ys.length))) ++ F) w' := by
 have hp := hs.pull hm
 subst hn
 obtain ⟨_, rc, el', fr, h2, h3, h4, h5, h6, h7⟩ := zeJ hp
 obtain ⟨w', rc', g1, g2, g3, g4, g5, g6, g7, g8, g9⟩ := zck (P := P) b el' fr (off + d) vs 0 w rc h2 h3 hone (by rw [hv.1]; omega)
 refine ⟨w', g1, Sat.unpull hm (hp.change (m' := .arr (.slice (some ⟨b, off, none⟩) es.length cap) 1 (es.take d ++ ys ++ es.drop (d + ys.length))) (fun k hk hnk => g5 k (by simpa [MObj.blocks] using hnk)) (fun k hk => .inl hk) (by simp [MObj.blocks]) ?_ g7 g8 g9.1 (fun _ => Nat.le_of_eq g9.2.symm))⟩
 have hl : (es.take d ++ ys ++ es.drop (d + ys.length)).length = es.length := by simp; omega
 refine .inr ⟨b, off, cap, rc', el', fr, by rw [hl], g2, by rw [g3]; exact h3, fun e he => ?_, by rw [hl]; exact h5, by rw [g3]; exact h6, fun p q y c v a1 a2 a3 => ?_⟩
 ·rcases List.mem_append.1 he with h | h
  ·rcases List.mem_append.1 h with h | h
   ·exact h4 e (List.mem_of_mem_take h)
   ·rw [hc e h]; rfl
  ·exact h4 e (List.mem_of_mem_drop h)
 ·have hq : q = 0 := by
   have h1 := zD a2
   have h8 : (zl y).length = 1 := by
    have hm := List.mem_of_getElem? a1
    rcases List.mem_append.1 hm with h | h
    ·rcases List.mem_append.1 h with h | h
     ·exact h4 y (List.mem_of_mem_take h)
     ·rw [hc y h]; rfl
    ·exact h4 y (List.mem_of_mem_drop h)
   omega
  subst hq
  rw [g4, hv.1] at a3
  have htd : (es.take d).length = d := by simp; omega
  by_cases hpd : p < d
  ·rw [List.getElem?_append_left (by simp; omega), List.getElem?_append_left (by omega), List.getElem?_take_of_lt hpd] at a1
   rw [if_neg (by omega)] at a3
   exact h7 p 0 y c v a1 a2 a3
  ·by_cases hpm : p < d + ys.length
   ·rw [List.getElem?_append_left (by simp; omega), List.getElem?_append_right (by omega), htd] at a1
    rw [if_pos (by omega)] at a3
    rw [hc y (List.mem_of_getElem? a1)] at a2
    simp at a2
    subst a2
    refine hv.2 (p - d) y v a1 ?_
    rw [show off + p * 1 + 0 - (off + d) - 0 = p - d by omega] at a3
    exact a3
   ·rw [List.getElem?_append_right (by simp; omega)] at a1
    rw [if_neg (by omega)] at a3
    rw [List.getElem?_drop] at a1
    have e1 : d + ys.length + (p - (es.take d ++ ys).length) = p := by simp; omega
    rw [e1] at a1
    exact h7 p 0 y c v a1 a2 a3
theorem zp5 {at' : Array TypeId} {xs : Array Operand} {ρ : Operand → Value} (w : World) :
 (execOp ρ ⟨dst, .call ⟨.builtin .copy, xs, at'⟩, ty, pos, af, g⟩).run P w = ((Builtin.copy_ at' ty (xs.map ρ)).run P w).andThen (fun v w => .ok (.value v) w) := by
 simp [execOp, resolve, invoke, builtin]
/-- copy(dst, src): src is immutable, or a part of dst's own row. -/
theorem zll [Tracks] {x y : Operand} {t t' el : TypeId} {size bytes b2 : Nat} {zero z2 : Value} {td : TD} {k b off n cap d n1 c1 sl : Nat} {es ys : List HVal}
 (hf : Fits P t (.slice el) size bytes zero) (hel : Fits P el td 1 b2 z2) (hx : zx e x = some (.raw (.slice (some ⟨b, off + d, none⟩) n1 c1))) (hm : M[k]? = some (.arr (.slice (some ⟨b, off, none⟩) n cap) 1 es)) (hn : n = es.length)
 (hy : ∀ I F a w, Opds I e a ⟨dst, .call ⟨.builtin .copy, #[x, y], #[t, t']⟩, ty, pos, af, g⟩ → Sat P I (M ++ F) w → ∃ vs : List Value, VL I ys vs ∧ (∀ v ∈ vs, v.oneCell' = true) ∧ (Builtin.lenOf (a.eval y)).run P w = .ok sl w ∧ (Builtin.firstCells 1 ys.length (a.eval y)).run P w = .ok vs.toArray w)
 (hm' : ys.length = Nat.min sl n1) (hc : ∀ y ∈ ys, zl y = [y]) (hd : d + ys.length ≤ es.length)
 (hk : K (.int .i64 (ys.length : Int)) (M.set k (.arr (.slice (some ⟨b, off, none⟩) n cap) 1 (es.take d ++ ys ++ es.drop (d + ys.length))))) :
 EOp P e M ⟨dst, .call ⟨.builtin .copy, #[x, y], #[t, t']⟩, ty, pos, af, g⟩ K :=
 EOp.of_run fun I F a w ho hs => by
  have h1 := (ho.one (x := x) (by simp [Op.operands, Call.operands]) hx).raw_inv
  obtain ⟨vs, v1, v2, v3, v4⟩ := hy I F a w ho hs
  obtain ⟨w', s1, s2⟩ := zn5 hs hm hn v1 v2 hc hd
  refine ⟨.int .i64 (ys.length : Int), _, _, w', I, ?_, .refl I, hk, .int _ _, s2⟩
  rw [zp5]
  simp only [List.map_toArray, List.map_cons, List.map_nil, h1, Builtin.copy_, List.getElem?_toArray, List.getElem?_cons_zero, List.getElem?_cons_succ, Sem.run_bind, run_underlying hf.slice, Result.andThen_ok, hel.run_sizeOf, Sem.run_pure, v3, ← hm', v4, s1]
  rfl
theorem zoh [Tracks] {x y : Operand} {t t' el : TypeId} {size bytes b2 : Nat} {zero z2 : Value} {td : TD} {k b off n cap : Nat} {es ys : List HVal}
 (hf : Fits P t (.slice el) size bytes zero) (hel : Fits P el td 1 b2 z2) (hx : zx e x = some (.raw (.slice (some ⟨b, off, none⟩) n cap))) (hy : zx e y = some (.slice 1 ys)) (hm : M[k]? = some (.arr (.slice (some ⟨b, off, none⟩) n cap) 1 es)) (hn : n = es.length)
 (hc : ∀ y ∈ ys, zl y = [y]) (hfl : zaD ys = true)
 (hk : K (.int .i64 ((Nat.min ys.length es.length : Nat) : Int)) (M.set k (.arr (.slice (some ⟨b, off, none⟩) n cap) 1 (ys.take (Nat.min ys.length es.length) ++ es.drop (Nat.min ys.length es.length))))) :
 EOp P e M ⟨dst, .call ⟨.builtin .copy, #[x, y], #[t, t']⟩, ty, pos, af, g⟩ K := by
 have hmn : Nat.min ys.length es.length ≤ ys.length := Nat.min_le_left _ _
 have hme : Nat.min ys.length es.length ≤ es.length := Nat.min_le_right _ _
 have hml : (ys.take (Nat.min ys.length es.length)).length = Nat.min ys.length es.length := by rw [List.length_take]; exact Nat.min_eq_left hmn
 refine zll (d := 0) (sl := ys.length) (ys := ys.take (Nat.min ys.length es.length)) hf hel hx hm hn (fun I F a w ho hs => ?_) (by rw [hml, hn]) (fun z hz => hc z (List.mem_of_mem_take hz)) (by rw [hml]; omega) (by rw [hml]; simpa using hk)
 rw [hml]
 generalize Nat.min ys.length es.length = m at hmn hme hml
 have hyv := ho.one (x := y) (by simp [Op.operands, Call.operands]) hy
 rcases hyv.slice_inv with ⟨rfl, a', cap', h2⟩ | ⟨b, off, cap', rc, el', fr, h2, h3, h4, h5, h6, h7⟩
 ·have : m = 0 := by simpa using hmn
  subst this
  refine ⟨[], by simpa using VL.nil, by simp, by rw [h2]; simp [Builtin.lenOf], ?_⟩
  rw [h2]
  cases a' with
  | none => simp [Builtin.firstCells]
  | some a' => simp [Builtin.firstCells, loadCells, loadCellsFrom]
 ·have hl : ((rc.toList.drop off).take m).length = m := by
   rw [List.length_take, List.length_drop, Array.length_toList]
   exact Nat.min_eq_left (by omega)
  have hV : VL I (ys.take m) ((rc.toList.drop off).take m) := ⟨by rw [hl, hml], fun j c u a1 a2 => by
   have hj := zD a1
   rw [hml] at hj
   rw [List.getElem?_take_of_lt hj] at a1 a2
   rw [List.getElem?_drop] at a2
   exact h7 j 0 c c u a1 (by rw [hc c (List.mem_of_getElem? a1)]; rfl) (by simpa using a2)⟩
  have h1v : ∀ v ∈ (rc.toList.drop off).take m, v.oneCell' = true := fun v hv => by
   obtain ⟨j, hj⟩ := List.getElem?_of_mem hv
   have hjl := zD hj
   rw [hl] at hjl
   have hz := List.getElem?_eq_getElem (l := ys) (i := j) (by omega)
   refine zfP (VL.cons (hV.2 j _ v (by rw [List.getElem?_take_of_lt hjl]; exact hz) hj) VL.nil) (ziI hfl hz) v (by simp)
  refine ⟨_, hV, h1v, by rw [h2]; simp [Builtin.lenOf], ?_⟩
  have h3' : w.heap[b]? = some (.cells rc el' fr) := hs.imm _ _ h3
  have := run_loadCells_list (P := P) w ⟨b, off, none⟩ ((rc.toList.drop off).take m) fun j u hj => by
   rw [zbZ, zeo h3']
   have hlt := zD hj
   rw [hl] at hlt
   rw [List.getElem?_take_of_lt hlt, List.getElem?_drop] at hj
   simpa using hj
  rw [hl] at this
  rw [h2]
  simp only [Builtin.firstCells, Nat.mul_one]
  exact this
theorem zmQ [Tracks] {x y : Operand} {t t' el : TypeId} {size bytes b2 : Nat} {zero z2 : Value} {td : TD} {k b off n cap d n1 c1 s c2 o1 : Nat} {es : List HVal}
 (hf : Fits P t (.slice el) size bytes zero) (hel : Fits P el td 1 b2 z2) (hx : zx e x = some (.raw (.slice (some ⟨b, o1, none⟩) n1 c1))) (ho1 : o1 = off + d) (hy : zx e y = some (.raw (.slice (some ⟨b, off, none⟩) s c2))) (hm : M[k]? = some (.arr (.slice (some ⟨b, off, none⟩) n cap) 1 es)) (hn : n = es.length)
 (hc : ∀ y ∈ es, zl y = [y]) (hfl : zaD es = true) (hs0 : s ≤ es.length) (hd : d + Nat.min s n1 ≤ es.length)
 (hk : K (.int .i64 ((Nat.min s n1 : Nat) : Int)) (M.set k (.arr (.slice (some ⟨b, off, none⟩) n cap) 1 (es.take d ++ es.take (Nat.min s n1) ++ es.drop (d + Nat.min s n1))))) :
 EOp P e M ⟨dst, .call ⟨.builtin .copy, #[x, y], #[t, t']⟩, ty, pos, af, g⟩ K := by
 subst ho1
 have hml : (es.take (Nat.min s n1)).length = Nat.min s n1 := by
  rw [List.length_take]; have : Nat.min s n1 ≤ s := Nat.min_le_left _ _; omega
 refine zll (d := d) (sl := s) (ys := es.take (Nat.min s n1)) hf hel hx hm hn (fun I F a w ho hs => ?_) hml (fun z hz => hc z (List.mem_of_mem_take hz)) (by rw [hml]; exact hd) (by rw [hml]; exact hk)
 have h1y := (ho.one (x := y) (by simp [Op.operands, Call.operands]) hy).raw_inv
 have hp := hs.pull hm
 subst hn
 obtain ⟨_, rc, el', fr, h2, h3, h4, h5, h6, h7⟩ := zeJ hp
 have hmn : Nat.min s n1 ≤ s := Nat.min_le_left _ _
 have hl : ((rc.toList.drop off).take (Nat.min s n1)).length = Nat.min s n1 := by
  rw [List.length_take, List.length_drop, Array.length_toList]
  exact Nat.min_eq_left (by omega)
 have hV : VL I (es.take (Nat.min s n1)) ((rc.toList.drop off).take (Nat.min s n1)) := ⟨by rw [hl, hml], fun j c u a1 a2 => by
  have hj := zD a1
  rw [hml] at hj
  rw [List.getElem?_take_of_lt hj] at a1 a2
  rw [List.getElem?_drop] at a2
  exact h7 j 0 c c u a1 (by rw [hc c (List.mem_of_getElem? a1)]; rfl) (by simpa using a2)⟩
 have h1v : ∀ v ∈ (rc.toList.drop off).take (Nat.min s n1), v.oneCell' = true := fun v hv => by
  obtain ⟨j, hj⟩ := List.getElem?_of_mem hv
  have hjl := zD hj
  rw [hl] at hjl
  have hz := List.getElem?_eq_getElem (l := es) (i := j) (by omega)
  refine zfP (VL.cons (hV.2 j _ v (by rw [List.getElem?_take_of_lt hjl]; exact hz) hj) VL.nil) (ziI hfl hz) v (by simp)
 refine ⟨_, hV, h1v, by rw [h1y]; simp [Builtin.lenOf], ?_⟩
 have := run_loadCells_list (P := P) w ⟨b, off, none⟩ ((rc.toList.drop off).take (Nat.min s n1)) fun j u hj => by
  rw [zbZ, zeo h2]
  have hlt := zD hj
  rw [hl] at hlt
  rw [List.getElem?_take_of_lt hlt, List.getElem?_drop] at hj
  simpa using hj
 rw [hl] at this
 rw [h1y, hml]
 simp only [Builtin.firstCells, Nat.mul_one]
 exact this
end
/-! a row that fills up -/
theorem zkN : ∀ l : List Int, zaD (l.map (HVal.int .i64)) = true
 | [] => rfl
 | _ :: r => by rw [List.map_cons]; exact zkN r
def zbs (v : Int) (n j : Nat) : List Int := List.replicate j v ++ List.replicate (n - j) 0
theorem zfM {v : Int} {n j : Nat} (h : j ≤ n) : (zbs v n j).length = n := by unfold zbs; simp; omega
theorem zee {v : Int} {n j p : Nat} (h : j ≤ n) : (zbs v n j)[p]? = if p < j then some v else if p < n then some 0 else none := by
 unfold zbs
 by_cases h1 : p < j
 ·rw [List.getElem?_append_left (by simpa using h1), if_pos h1, List.getElem?_replicate, if_pos h1]
 ·rw [List.getElem?_append_right (by simpa using Nat.le_of_not_lt h1), if_neg h1, List.length_replicate, List.getElem?_replicate]
  by_cases h2 : p < n
  ·rw [if_pos (by omega), if_pos h2]
  ·rw [if_neg (by omega), if_neg h2]
theorem zoH {v : Int} {n j m : Nat} (h : m ≤ j) (h2 : j + m ≤ n) : (zbs v n j).take j ++ (zbs v n j).take m ++ (zbs v n j).drop (j + m) = zbs v n (j + m) := by
 have hl := zfM (v := v) (n := n) (j := j) (by omega)
 refine List.ext_getElem? fun p => ?_
 rw [zee (by omega)]
 have l1 : ((zbs v n j).take j).length = j := by rw [List.length_take]; omega
 have l2 : ((zbs v n j).take m).length = m := by rw [List.length_take]; omega
 by_cases h1 : p < j
 ·rw [List.getElem?_append_left (by rw [List.length_append]; omega), List.getElem?_append_left (by omega), List.getElem?_take_of_lt h1, zee (by omega), if_pos h1, if_pos (by omega)]
 ·by_cases h3 : p < j + m
  ·rw [List.getElem?_append_left (by rw [List.length_append]; omega), List.getElem?_append_right (by omega), l1, List.getElem?_take_of_lt (by omega), zee (by omega), if_pos (by omega), if_pos h3]
  ·rw [List.getElem?_append_right (by rw [List.length_append]; omega), List.length_append, l1, l2, List.getElem?_drop, zee (by omega), if_neg (by omega), if_neg h3]
   rw [show j + m + (p - (j + m)) = p by omega]
theorem zn3 {v : Int} {n : Nat} : [v].take (Nat.min 1 n) ++ (List.replicate n 0).drop (Nat.min 1 n) = zbs v n (Nat.min 1 n) := by
 cases n with
 | zero => rfl
 | succ n =>
   have : Nat.min 1 (n + 1) = 1 := Nat.min_eq_left (by omega)
   rw [this]; unfold zbs; simp
theorem zmx {v : Int} {n : Nat} : zbs v n n = List.replicate n v := by unfold zbs; simp
theorem zoZ {v : Int} {n : Nat} : zbs v n 0 = List.replicate n 0 := by unfold zbs; simp
theorem zpy {v : Int} {n q : Nat} (h : q < n) : (zbs v n q).set q v = zbs v n (q + 1) := by
 refine List.ext_getElem? fun p => ?_
 rw [List.getElem?_set, zfM (by omega), zee (by omega), zee (by omega)]
 by_cases e : q = p
 ·subst e; rw [if_pos rfl, if_pos h, if_pos (by omega)]
 ·rw [if_neg e]
  by_cases h1 : p < q
  ·rw [if_pos h1, if_pos (by omega)]
  ·rw [if_neg h1, if_neg (show ¬ p < q + 1 by omega)]
end
section
open Go
section
variable {P : Program}
theorem zfv [Tracks] {e : Env} {dst : Option Tmp} {ty : TypeId} {pos : String} {af : Array Edge} {g : Option (Nat × Bool)} {M : List MObj} {K : HVal → List MObj → Prop} {x : Operand} {f : FuncId} {fst cap : List HVal} {args : Array Operand} {ats : Array TypeId} {hs hs' : List HVal} {h : HVal} (hc : Callable P f)
 (hx : zx e x = some (.fn (.func f) fst cap)) (ha : zcD e args.toList = some hs) (hb : BowL M (fst ++ hs ++ cap) hs') (hp : zaa P f hs' h)
 (hg : zdY h = true) (hk : K h M) : EOp P e M ⟨dst, .call ⟨.value x, args, ats⟩, ty, pos, af, g⟩ K := fun I F a w ho hsat => by
 obtain ⟨v1, v2, h1, h2, h3⟩ := (ho.one (x := x) (by simp [Op.operands, Call.operands]) hx).fn_inv
 have hrun : (execOp a.eval ⟨dst, .call ⟨.value x, args, ats⟩, ty, pos, af, g⟩).run P w = .ok (.enter f (v1.toList ++ args.toList.map a.eval ++ v2.toList).toArray) w := by
  have : (v1.toList ++ args.toList.map a.eval ++ v2.toList).toArray = v1 ++ args.map a.eval ++ v2 := by apply Array.ext'; simp
  rw [this]
  simp [execOp, resolve, h1, Deferred.ofValue, invoke, zcU hc]
 have hv := zdO (I := I) (f := a.eval) _ _ ha fun x hx h hh => ho.one (by simp only [Op.operands, Call.operands]; exact Array.mem_append_right _ (by simpa using hx)) hh
 simp only [Oper.wp, hrun, Oper.upon]
 refine (hp (zbV w) [] w _ (hb.vl hsat ((h2.append hv).append h3)) (by simpa using zih hsat)).mono ?_
 rintro x w' ⟨v, y, M', J, rfl, h1, ⟨rfl, rfl⟩, h3, h4⟩
 exact ⟨v, _, M, I, rfl, .refl I, hk, zg6 h3 hg, hsat.back h1 h4⟩
theorem Ghost.rm [Tracks] {e : Env} {M : List MObj} {m : MObj} (i : Nat) (hm : M[i]? = some m) : Ghost e M e (M.eraseIdx i) := (Ghost.perm (zeu hm)).trans Ghost.drop
end
abbrev eNs (l : List Nat) : HVal := .slice 1 (l.map fun k => HVal.int .i64 ((k : Nat) : Int))
abbrev zjd (l : List (List Nat)) : HVal := .slice 1 (l.map eNs)
theorem zn9 {n : Nat} (h : n ≤ 14) : 1 ≤ 2 ^ n ∧ 2 ^ n ≤ 16384 := ⟨Nat.one_le_two_pow, Nat.le_trans (Nat.pow_le_pow_right (by omega) h) (by decide)⟩
theorem zpU {x y : Int} : (if y > x then y else x) = max x y := by split <;> omega
theorem zqm {s k : Nat} : HVal.bool (decide (((s / 2 ^ k % 2 : Nat) : Int) = 0)) = HVal.bool (!s.testBit k) := congrArg HVal.bool zrp
end
end Go.HL
namespace Go.Proofs.YtcihcbnjfclkbaaGreatDoor
set_option maxRecDepth 100000
set_option linter.unusedVariables false
set_option linter.unusedSimpArgs false
section
open Go.HL
set_option maxHeartbeats 4000000 in
/-- (*benchwarmer/benchmake.Stream).WantList -/
theorem zbB [Tracks] {b : Nat} {l : List Int} {a : Nat} {o : List OwnerS} (ha : a ≤ 700000) (ho : GoodOw o) : Con Tryz.prog 7 [pAt b, zbd o] [St b l a] (fun x M' => ∃ k a', x = za1 k ∧ GoodWs k ∧ a' ≤ a + 400 ∧ M' = [St b l a']) := by
 have hol := ho.len
 refine Con.of_body Tryz.func7 rfl Tryz.ntmps7 rfl rfl ?_
 refine zb ?_
 refine das rfl ?_
 refine dn ?_
 refine zb ?_
 refine das rfl ?_
 refine dn ?_
 refine zf ?_
 refine zb ?_
 refine dmv rfl ?_
 refine dq (zB zat rfl) ?_
 refine dmv rfl ?_
 refine dn ?_
 refine zO (Ghost.perm (M' := [St b l a]) (List.Perm.refl _)) ?_
 refine zO (Ghost.arr_nil 2) ?_
 refine zm ?_
 refine zbf (5 :: 7 :: 8 :: 10 :: 14 :: 15 :: 16 :: 17 :: 18 :: 19 :: 20 :: 21 :: 22 :: 23 :: 24 :: 25 :: 26 :: 27 :: 28 :: 29 :: 30 :: 31 :: 32 :: 33 :: 34 :: 35 :: 36 :: 37 :: 38 :: 39 :: 40 :: 41 :: 42 :: 43 :: 44 :: 45 :: 46 :: 47 :: 48 :: 49 :: 50 :: 51 :: 52 :: 53 :: 54 :: 55 :: 56 :: 57 :: 58 :: 59 :: 60 :: 61 :: 62 :: 63 :: 64 :: 65 :: 66 :: 67 :: 68 :: 69 :: 70 :: 71 :: []) (fun (k : Nat) (q : GL WantS) => [(14, .int .i64 k), (5, .raw q.u)]) (fun (k : Nat) (q : GL WantS) => [St b l q.a, .arr q.u 2 (q.out.map zb7)]) (fun (k : Nat) (q : GL WantS) => k ≤ o.length ∧ (q.out.length ≤ 5 ∧ GLok GoodW0 k (a + 27 * k) q)) (fun (k : Nat) (q : GL WantS) => o.length - k) (0) (⟨.slice none 0 0, [], a⟩) ?_ ?_ ?_ ?_
 ·exact ⟨Nat.zero_le _, Nat.zero_le _, by simp, by simp, by dsimp only; omega⟩
 ·exact ⟨rfl, rfl, trivial⟩
 ·repeat (first | exact List.Perm.nil | refine zQ 0 rfl ?_ | refine zQ 1 rfl ?_ | refine zQ 2 rfl ?_ | refine zQ 3 rfl ?_ | (refine zI 0 rfl ?hq ?_; (case hq => simp [z7, zl]; done)) | (refine zI 1 rfl ?hq ?_; (case hq => simp [z7, zl]; done)) | (refine zI 2 rfl ?hq ?_; (case hq => simp [z7, zl]; done)) | (refine zI 3 rfl ?hq ?_; (case hq => simp [z7, zl]; done)) | fail)
 ·intro k q hinv
  obtain ⟨hk, ho5, hq⟩ := hinv
  obtain ⟨u, out, a2⟩ := q
  obtain ⟨g1, g2, g3⟩ := id hq
  dsimp only at g1 g2 g3 ho5
  refine zb ?_
  refine dq (zJ rfl rfl) ?_
  refine dn ?_
  refine zf ?_
  refine zj rfl (fun h1 => ?_) (fun h2 => ?_)
  ·try simp at h1
   obtain ⟨x, hx⟩ : ∃ x, o[k]? = some x := ⟨_, List.getElem?_eq_getElem h1⟩
   have hdx := zK hx
   have hox := ho.all x (List.mem_of_getElem? hx)
   refine zk ?_
   refine ze ?_
   refine zf ?_
   refine zm ?_
   refine zb ?_
   refine dq (zH zat zZ rfl rfl rfl (by first | assumption | simp_all)) ?_
   refine dq (zY zZ rfl rfl rfl rfl) ?_
   refine de rfl (zab zZ rfl fun b7 => ?_)
   refine de0 (zao zZ rfl rfl rfl rfl rfl ?_)
   refine dn ?_
   refine zO (Ghost.fc0 7 rfl) ?_
   refine zf ?_
   refine zb ?_
   refine dmv rfl ?_
   refine de rfl (zaZ (i := 1) (es := out) zaP rfl rfl ?_)
   refine dq (zaJ rfl rfl) ?_
   refine dmv rfl ?_
   refine dg rfl rfl (fun hc => ⟨_, OpenTo.refl _, zd rfl⟩) ?_
   refine dgx (fun x M' => ∃ (y : Bool) (a3 : Nat), x = .bool y ∧ a3 ≤ a2 + 1 ∧ M' = [St b l a3, .arr u 2 (out.map zb7)]) rfl rfl (fun hc => ⟨_, false, a2, rfl, by omega, rfl⟩) (fun hc => ⟨_, OpenTo.upd (t := 22) rfl (by first | exact hc | simp_all) (OpenTo.refl _), zh (i := 0) zgX rfl (WeakL.refl _) rfl (zaE (a := a2) (by omega) (by omega)) (fun h M' hh => by
    obtain ⟨y, h1, h2⟩ := hh
    exact ⟨y, a2 + 1, h1, by omega, by rw [h2]; rfl⟩)⟩) ?_
   rintro _ _ ⟨y, a3, rfl, ha3, rfl⟩
   refine dq (zL rfl (.inl rfl) (.inr ⟨_, rfl, fun h => by simp_all⟩)) ?_
   refine dn ?_
   refine zj rfl (fun h3 => ?_) (fun h4 => ?_)
   ·try simp at h3
    refine zN ?_
    refine zS ?_
    refine zE ?_
    refine ze ?_
    try refine zO (Ghost.rm 1 (m := .cells b8 [.str x.Player, .slice 1 (F.map .str)]) rfl) ?_
    refine zy ?_
    refine dq (zv rfl rfl (by omega) (by omega)) ?_
    refine dmv rfl ?_
    refine dn ?_
    exact ⟨k + 1, ⟨u, out, a3⟩, ⟨by omega, ho5, hq.same (by omega)⟩, by dsimp only; omega, ⟨rfl, rfl, trivial⟩, (by repeat (first | exact zp | refine zu rfl ?_ | refine zq rfl rfl ?_)), by repeat (first | exact List.Perm.nil | refine zQ 0 rfl ?_ | refine zQ 1 rfl ?_ | refine zQ 2 rfl ?_ | refine zQ 3 rfl ?_ | (refine zI 0 rfl ?hq ?_; (case hq => simp [z7, zl]; done)) | (refine zI 1 rfl ?hq ?_; (case hq => simp [z7, zl]; done)) | (refine zI 2 rfl ?hq ?_; (case hq => simp [z7, zl]; done)) | (refine zI 3 rfl ?hq ?_; (case hq => simp [z7, zl]; done)) | fail)⟩
   ·try simp at h4
    refine zk ?_
    refine ze ?_
    refine zb ?_
    refine dq ((by first | exact zg zZ rfl ty9 (by decide) rfl | exact zn zZ rfl ty9 (by decide) rfl)) ?_
    refine dq (zi ty9 rfl rfl rfl) ?_
    refine dq (zaU (cs := [_, _]) zU pl57 rfl) ?_
    refine de rfl (zab zU rfl fun b8 => ?_)
    first
    | refine de0 (zt (i := 0) zU rfl rfl rfl rfl rfl (Nat.le_of_ble_eq_true rfl) ?_)
    | refine de0 (zt (i := 1) zU rfl rfl rfl rfl rfl (Nat.le_of_ble_eq_true rfl) ?_)
    | refine de0 (zt (i := 2) zU rfl rfl rfl rfl rfl (Nat.le_of_ble_eq_true rfl) ?_)
    | refine de0 (zt (i := 3) zU rfl rfl rfl rfl rfl (Nat.le_of_ble_eq_true rfl) ?_)
    refine dn ?_
    refine zO (Ghost.arr_nil 1) ?_
    refine zf ?_
    refine zb ?_
    refine dmv rfl ?_
    refine dmv rfl ?_
    refine dq (zB zat rfl) ?_
    refine de rfl (zh (i := 2) ca40 rfl (WeakL.refl _) rfl (zfK (a := a3) (n := o.length) (by omega) (by omega) (by omega)) ?_)
    rintro _ _ ⟨L31, a31, rfl, hL31, ha31, rfl⟩
    refine dq (zB (f := HVal.int .i64) (l := L31) zR rfl) ?_
    refine dmv rfl ?_
    refine dn ?_
    refine zm ?_
    refine zf5 [10, 33, 34, 35, 36, 37, 38, 39, 40, 41, 42, 43, 44, 45, 46, 47, 48, 49, 50, 51, 52, 53, 54, 55, 56, 57, 58, 59, 60, 61, 62, 63, 64, 65, 66] (fun (j : Nat) (v : Value) (F : List Str) (a4 : Nat) => [(33, .int .i64 j)]) (fun (j : Nat) (v : Value) (F : List Str) (a4 : Nat) => [St b l a4, .arr v 1 (F.map .str), .cells b8 [.str x.Player, .raw v], .arr u 2 (out.map zb7)]) (fun (j : Nat) (v : Value) (F : List Str) (a4 : Nat) => j ≤ L31.length ∧ (F.length ≤ 3 ∧ (∀ s ∈ F, Sh s) ∧ a4 ≤ a31 + j)) (fun (j : Nat) (v : Value) (F : List Str) (a4 : Nat) => L31.length - j) (0) (.slice none 0 0) ([]) (a31) ?_ ?_ ?_ ?_
    ·exact ⟨Nat.zero_le _, Nat.zero_le _, by simp, Nat.le_refl _⟩
    ·exact ⟨rfl, trivial⟩
    ·exact zT rfl
    ·intro j v F a4 hinv
     obtain ⟨hj, hF3, hFs, ha4⟩ := hinv
     refine zb ?_
     refine dq (zJ rfl rfl) ?_
     refine dn ?_
     refine zf ?_
     refine zj rfl (fun h5 => ?_) (fun h6 => ?_)
     ·try simp at h5
      obtain ⟨z, hz⟩ : ∃ z, L31[j]? = some z := ⟨_, List.getElem?_eq_getElem h5⟩
      have hdz := zK hz
      have hzb := hL31.2 z (List.mem_of_getElem? hz)
      obtain ⟨ow, how⟩ : ∃ x, o[z.toNat]? = some x := ⟨_, List.getElem?_eq_getElem (by omega)⟩
      have hL9 := hL31.1
      refine zk ?_
      refine ze ?_
      refine zf ?_
      refine zm ?_
      refine zb ?_
      refine dq (zH zR ty3 rfl rfl rfl (by first | assumption | simp_all)) ?_
      refine dq (zi ty3 rfl rfl rfl) ?_
      refine das rfl ?_
      refine dn ?_
      refine za7 (fun M => (∃ i : Nat, M[i]? = some (.cells b8 [.str x.Player, .raw v])) ∧ ∃ i : Nat, M[i]? = some (.arr v 1 (F.map .str))) [10, 11] mixed ?_
      refine ahp 0 rfl rfl (by kernel_rfl) (by kernel_rfl) (zd rfl) ?_
      refine ahp 1 rfl rfl (by kernel_rfl) (by kernel_rfl) (zd rfl) ?_
      refine ahp 2 rfl rfl (by kernel_rfl) (by kernel_rfl) (zH (j := z.toNat) (a := ow) zat zZ rfl rfl (by omega) how) ?_
      refine ahp 3 rfl rfl (by kernel_rfl) (by kernel_rfl) ((by first | exact zg zZ rfl ty9 (by decide) rfl | exact zn zZ rfl ty9 (by decide) rfl)) ?_
      refine ahp 4 rfl rfl (by kernel_rfl) (by kernel_rfl) (zi ty9 rfl rfl rfl) ?_
      refine ahp 5 rfl rfl (by kernel_rfl) (by kernel_rfl) ((by first | exact zg zZ rfl ty9 (by decide) rfl | exact zn zZ rfl ty9 (by decide) rfl)) ?_
      refine ahp 6 rfl rfl (by kernel_rfl) (by kernel_rfl) (zi ty9 rfl rfl rfl) ?_
      refine ahp 7 rfl rfl (by kernel_rfl) (by kernel_rfl) (zeQ rfl rfl) ?_
      refine ahp 8 rfl rfl (by kernel_rfl) (by kernel_rfl) (zd rfl) ?_
      refine ahg 9 rfl rfl (by kernel_rfl) (by kernel_rfl) rfl (fun hc => ⟨_, OpenTo.refl _, zn zU rfl zF (by decide) rfl⟩) ?_
      refine zko 10 rfl rfl (by kernel_rfl) (by kernel_rfl) (by simp) ⟨⟨2, rfl⟩, ⟨1, rfl⟩⟩ rfl (fun hc => ⟨_, OpenTo.upd (t := 46) rfl (by first | exact hc | simp_all) (OpenTo.refl _), fun M hM => by
       obtain ⟨⟨i, hi⟩, _⟩ := hM; exact zG (i := i) zF rfl hi (.inl ⟨rfl, rfl⟩) ⟨rfl, rfl⟩
       ⟩) ?_
      refine zko 11 rfl rfl (by kernel_rfl) (by kernel_rfl) (by simp) ⟨⟨2, rfl⟩, ⟨1, rfl⟩⟩ rfl (fun hc => ⟨_, OpenTo.upd (t := 47) rfl (by first | exact hc | simp_all) (OpenTo.refl _), fun M hM => by
       obtain ⟨_, ⟨i, hi⟩⟩ := hM; exact zaZ (i := i) (es := F) zF rfl hi ⟨rfl, rfl⟩
       ⟩) ?_
      refine ahg 12 rfl rfl (by kernel_rfl) (by kernel_rfl) rfl (fun hc => ⟨_, OpenTo.upd (t := 48) rfl (by first | exact hc | simp_all) (OpenTo.refl _), zJ rfl rfl⟩) ?_
      refine ahp 13 rfl rfl (by kernel_rfl) (by kernel_rfl) (zL rfl (.inr ⟨_, rfl, fun h => by simp_all⟩) (.inl rfl)) ?_
      refine ahp 14 rfl rfl (by kernel_rfl) (by kernel_rfl) (zd rfl) ?_
      refine ahg 15 rfl rfl (by kernel_rfl) (by kernel_rfl) rfl (fun hc => ⟨_, OpenTo.refl _, zd rfl⟩) ?_
      refine ahe 16 rfl (by kernel_rfl) ?_
      refine zrl (fun q M' => ∃ (y : Bool) (a5 : Nat), q = .bool y ∧ a5 ≤ a4 + 1 ∧ M' = [St b l a5, .arr v 1 (F.map .str), .cells b8 [.str x.Player, .raw v], .arr u 2 (out.map zb7)]) rfl rfl (fun hc => ⟨_, false, a4, rfl, by omega, rfl⟩) (fun hc => ⟨_, OpenTo.upd (t := 52) rfl (by first | exact hc | simp_all) (OpenTo.refl _), zh (i := 0) zgX rfl (WeakL.refl _) rfl (zaE (a := a4) (by omega) (by omega)) (fun h M' hh => by
       obtain ⟨y, h1, h2⟩ := hh
       exact ⟨y, a4 + 1, h1, by omega, by rw [h2]; rfl⟩)⟩) ?_
      rintro _ _ ⟨y53, a5, rfl, ha5, rfl⟩
      refine ⟨fun _ => .inl ⟨⟨2, rfl⟩, ⟨1, rfl⟩⟩, ?_⟩
      refine ahg 17 rfl rfl (by kernel_rfl) (by kernel_rfl) rfl (fun hc => ⟨_, OpenTo.upd (t := 53) rfl (by first | exact hc | simp_all) (OpenTo.refl _), zaw rfl⟩) ?_
      refine ahp 18 rfl rfl (by kernel_rfl) (by kernel_rfl) (zL rfl (.inr ⟨_, rfl, fun h => by simp_all⟩) (.inl rfl)) ?_
      refine ahz (by kernel_rfl) ?_
      refine zj rfl (fun h7 => ?_) (fun h8 => ?_)
      ·try simp at h7
       refine zb0 (fun _ => True) [] mixed ?_
       refine ahp 0 rfl rfl (by kernel_rfl) (by kernel_rfl) (zn zU rfl zF (by decide) rfl) ?_
       refine ahp 2 rfl rfl (by kernel_rfl) (by kernel_rfl) (zd rfl) ?_
       refine ahp 3 rfl rfl (by kernel_rfl) (by kernel_rfl) (zd rfl) ?_
       refine ahp 4 rfl rfl (by kernel_rfl) (by kernel_rfl) (zH (j := z.toNat) (a := ow) zat zZ rfl rfl (by omega) how) ?_
       refine ahp 5 rfl rfl (by kernel_rfl) (by kernel_rfl) ((by first | exact zg zZ rfl ty9 (by decide) rfl | exact zn zZ rfl ty9 (by decide) rfl)) ?_
       refine ahp 6 rfl rfl (by kernel_rfl) (by kernel_rfl) (zi ty9 rfl rfl rfl) ?_
       refine ahp 7 rfl rfl (by kernel_rfl) (by kernel_rfl) (zM (hs := [_]) zF ty9 rfl rfl (by decide) (by decide) rfl) ?_
       refine ahe 1 rfl (by kernel_rfl) ?_
       first
       | refine zA rfl (zG (i := 0) zF rfl rfl (.inl ⟨rfl, rfl⟩) ?_)
       | refine zA rfl (zG (i := 1) zF rfl rfl (.inl ⟨rfl, rfl⟩) ?_)
       | refine zA rfl (zG (i := 2) zF rfl rfl (.inl ⟨rfl, rfl⟩) ?_)
       | refine zA rfl (zG (i := 3) zF rfl rfl (.inl ⟨rfl, rfl⟩) ?_)
       refine ⟨fun _ => .inl trivial, ?_⟩
       refine ahe 8 rfl (by kernel_rfl) ?_
       refine zA rfl (zah (i := 1) (v := v) (es := F.map .str) zF ty9 rfl rfl rfl rfl rfl (by simp [zaD, zl]) (by simp; omega) fun v64 => ?_)
       refine ⟨fun _ => .inl trivial, ?_⟩
       refine ahp 9 rfl rfl (by kernel_rfl) (by kernel_rfl) (zn zU rfl zF (by decide) rfl) ?_
       refine ahe 10 rfl (by kernel_rfl) ?_
       first
       | refine zav (zt (i := 0) zF rfl rfl rfl rfl rfl (Nat.le_of_ble_eq_true rfl) ?_)
       | refine zav (zt (i := 1) zF rfl rfl rfl rfl rfl (Nat.le_of_ble_eq_true rfl) ?_)
       | refine zav (zt (i := 2) zF rfl rfl rfl rfl rfl (Nat.le_of_ble_eq_true rfl) ?_)
       | refine zav (zt (i := 3) zF rfl rfl rfl rfl rfl (Nat.le_of_ble_eq_true rfl) ?_)
       refine ⟨fun _ => .inl trivial, ?_⟩
       refine ahz (by kernel_rfl) ?_
       refine zz ?_
       refine ze ?_
       refine zy ?_
       refine dq (zv rfl rfl (by omega) (by omega)) ?_
       refine dmv rfl ?_
       refine dn ?_
       exact ⟨j + 1, v64, F ++ [ow.Player], a5, ⟨by omega, by rw [List.length_append, List.length_singleton]; first | omega | (simp_all; omega), znu hFs (ho.all ow (List.mem_of_getElem? how)).1, by omega⟩, by dsimp only; omega, ⟨rfl, trivial⟩, (by repeat (first | exact zp | refine zu rfl ?_ | refine zq rfl rfl ?_)), zT (by dsimp only; rw [List.map_append]; rfl)⟩
      ·try simp at h8
       refine zk ?_
       refine zz ?_
       refine ze ?_
       refine zy ?_
       refine dq (zv rfl rfl (by omega) (by omega)) ?_
       refine dmv rfl ?_
       refine dn ?_
       exact ⟨j + 1, v, F, a5, ⟨by omega, hF3, hFs, by omega⟩, by dsimp only; omega, ⟨rfl, trivial⟩, (by repeat (first | exact zp | refine zu rfl ?_ | refine zq rfl rfl ?_)), zT rfl⟩
     ·try simp at h6
      have hnj : L31.length ≤ j := by omega
      obtain rfl : j = L31.length := by omega
      refine zN ?_
      refine zS ?_
      refine zg2 ?_
      refine zE ?_
      refine ze ?_
      refine zO (Ghost.fcell (i := 1) (k := 1) (j := 1) rfl rfl rfl) ?_
      refine zy ?_
      refine dmv rfl ?_
      refine de rfl (zei (i := 1) (h := zb7 ⟨x.Player, F⟩) zU rfl rfl rfl rfl rfl ?_)
      refine dq (zM (hs := [_]) zaP zU rfl rfl (by decide) (by decide) rfl) ?_
      refine de rfl (zah (i := 2) (v := u) (es := out.map zb7) zaP zU rfl rfl rfl rfl rfl (by simp [zaD, zl]) (by simp; omega) fun v70 => ?_)
      refine das rfl ?_
      refine dn ?_
      refine zz ?_
      refine ze ?_
      try refine zO (Ghost.rm 1 (m := .cells b8 [.str x.Player, .slice 1 (F.map .str)]) rfl) ?_
      refine zy ?_
      refine dq (zv rfl rfl (by omega) (by omega)) ?_
      refine dmv rfl ?_
      refine dn ?_
      exact ⟨k + 1, ⟨v70, out ++ [⟨x.Player, F⟩], a4⟩, ⟨by omega, by simp; omega, hq.add (x := (⟨x.Player, F⟩ : WantS)) ⟨hox.1, by dsimp only; omega, hFs⟩ (by omega)⟩, by dsimp only; omega, ⟨rfl, rfl, trivial⟩, (by repeat (first | exact zp | refine zu rfl ?_ | refine zq rfl rfl ?_)), by repeat (first | exact List.Perm.nil | refine zQ 0 rfl ?_ | refine zQ 1 rfl ?_ | refine zQ 2 rfl ?_ | refine zQ 3 rfl ?_ | (refine zI 0 rfl ?hq ?_; (case hq => simp [z7, zl]; done)) | (refine zI 1 rfl ?hq ?_; (case hq => simp [z7, zl]; done)) | (refine zI 2 rfl ?hq ?_; (case hq => simp [z7, zl]; done)) | (refine zI 3 rfl ?hq ?_; (case hq => simp [z7, zl]; done)) | fail)⟩
  ·try simp at h2
   have hnk : o.length ≤ k := by omega
   obtain rfl : k = o.length := by omega
   refine zN ?_
   refine zS ?_
   refine zbr ?_
   refine zE ?_
   refine ze ?_
   refine zfx [11, 72, 73, 74, 75, 76, 77, 78, 79, 80, 81, 82, 83, 84, 85, 86, 87, 88, 89, 90, 91, 92, 93, 94, 95, 96, 97, 98, 99, 100, 101, 102, 103, 104, 105, 106, 107, 108, 109, 110, 111, 112, 113, 114, 115] (fun (q : List WantS × Nat) => []) (fun (q : List WantS × Nat) => [St b l q.2, .arr u 2 (q.1.map zb7)]) (fun (q : List WantS × Nat) => q.1.length ≤ 5 ∧ (∀ x ∈ q.1, zjw x) ∧ q.2 ≤ a + 400) ?_ ?_
   ·skip
    refine zb ?_
    refine dmv rfl ?_
    refine de rfl (zaZ (i := 1) (es := out) zaP rfl rfl ?_)
    refine dq (zax rfl rfl) ?_
    refine dmv rfl ?_
    refine dg rfl rfl (fun hc => ⟨_, OpenTo.refl _, zd rfl⟩) ?_
    refine dgx (fun x M' => ∃ (y : Bool) (a3 : Nat), x = .bool y ∧ a3 ≤ a2 + 1 ∧ M' = [St b l a3, .arr u 2 (out.map zb7)]) rfl rfl (fun hc => ⟨_, false, a2, rfl, by omega, rfl⟩) (fun hc => ⟨_, OpenTo.upd (t := 76) rfl (by first | exact hc | simp_all) (OpenTo.refl _), zh (i := 0) zgX rfl (WeakL.refl _) rfl (zaE (a := a2) (by omega) (by omega)) (fun h M' hh => by
     obtain ⟨y, h1, h2⟩ := hh
     exact ⟨y, a2 + 1, h1, by omega, by rw [h2]; rfl⟩)⟩) ?_
    rintro _ _ ⟨y, a3, rfl, ha3, rfl⟩
    refine dq (zL rfl (.inr ⟨_, rfl, fun h => by simp_all⟩) (.inl rfl)) ?_
    refine dn ?_
    refine zj rfl (fun h9 => ?_) (fun h10 => ?_)
    ·try simp at h9
     have ho0 : 0 < out.length := by simp_all
     refine zc1 (i := 1) rfl (fun h0 he => ?_) (fun ob off cap hv hcap => ?_)
     ·exfalso; have := congrArg List.length he; simp at this; subst this; simp at ho0
     subst hv
     refine zb ?_
     refine dmv rfl ?_
     refine dmv rfl ?_
     refine dmv rfl ?_
     refine de rfl (zaZ (i := 1) (es := out) zaP rfl rfl ?_)
     first
     | refine de rfl (zh (i := 0) zeL rfl (WeakL.refl _) rfl (zal (by first | assumption | omega | (simp; omega) | simp_all) (by first | assumption | omega | (simp; omega) | simp_all)) ?_)
     | refine de rfl (zh (i := 1) zeL rfl (WeakL.refl _) rfl (zal (by first | assumption | omega | (simp; omega) | simp_all) (by first | assumption | omega | (simp; omega) | simp_all)) ?_)
     | refine de rfl (zh (i := 2) zeL rfl (WeakL.refl _) rfl (zal (by first | assumption | omega | (simp; omega) | simp_all) (by first | assumption | omega | (simp; omega) | simp_all)) ?_)
     | refine de rfl (zh (i := 3) zeL rfl (WeakL.refl _) rfl (zal (by first | assumption | omega | (simp; omega) | simp_all) (by first | assumption | omega | (simp; omega) | simp_all)) ?_)
     rintro _ _ ⟨y83, rfl, hy83, rfl⟩
     refine dq (zak (j := y83) zaP zU rfl rfl rfl (by simp; omega)) ?_
     refine das rfl ?_
     refine dn ?_
     obtain ⟨x, hx⟩ : ∃ x, out[y83]? = some x := ⟨_, List.getElem?_eq_getElem (by omega)⟩
     obtain ⟨x0, hx0⟩ : ∃ x, out[0]? = some x := ⟨_, List.getElem?_eq_getElem (by omega)⟩
     refine zb0 (fun M => ∃ i : Nat, M[i]? = some (.arr (.slice (some ⟨ob, off, none⟩) (out.map zb7).length cap) 2 (out.map zb7))) [6, 10, 16, 22] mixed ?_
     refine ahp 0 rfl rfl (by kernel_rfl) (by kernel_rfl) (zd rfl) ?_
     refine ahp 1 rfl rfl (by kernel_rfl) (by kernel_rfl) (zd rfl) ?_
     refine ahp 2 rfl rfl (by kernel_rfl) (by kernel_rfl) (zd rfl) ?_
     refine ahp 3 rfl rfl (by kernel_rfl) (by kernel_rfl) (zd rfl) ?_
     refine ahp 4 rfl rfl (by kernel_rfl) (by kernel_rfl) ((by first | exact zar rfl | exact zV rfl)) ?_
     refine ahp 5 rfl rfl (by kernel_rfl) (by kernel_rfl) ((by first | exact zg zU rfl ty9 (by decide) rfl | exact zn zU rfl ty9 (by decide) rfl)) ?_
     refine ahl 6 rfl rfl (by kernel_rfl) (by kernel_rfl) (by simp) ⟨1, rfl⟩ (fun M hM => by obtain ⟨i, hi⟩ := hM; exact za5 (i := i) (j := y83) 0 ty9 rfl (by omega) hi hx rfl rfl ⟨rfl, rfl⟩) ?_
     refine ahp 7 rfl rfl (by kernel_rfl) (by kernel_rfl) (zd rfl) ?_
     refine ahp 8 rfl rfl (by kernel_rfl) (by kernel_rfl) (zak (j := 0) zaP zU rfl rfl rfl (by simp; omega)) ?_
     refine ahp 9 rfl rfl (by kernel_rfl) (by kernel_rfl) ((by first | exact zg zU rfl ty9 (by decide) rfl | exact zn zU rfl ty9 (by decide) rfl)) ?_
     refine ahl 10 rfl rfl (by kernel_rfl) (by kernel_rfl) (by simp) ⟨1, rfl⟩ (fun M hM => by obtain ⟨i, hi⟩ := hM; exact za5 (i := i) (j := 0) 0 ty9 rfl (by omega) hi hx0 rfl rfl ⟨rfl, rfl⟩) ?_
     refine ahp 11 rfl rfl (by kernel_rfl) (by kernel_rfl) (zM (hs := [_, _, _]) zF ty9 rfl rfl (by decide) (by decide) rfl) ?_
     refine ahp 13 rfl rfl (by kernel_rfl) (by kernel_rfl) (zd rfl) ?_
     refine ahp 14 rfl rfl (by kernel_rfl) (by kernel_rfl) ((by first | exact zar rfl | exact zV rfl)) ?_
     refine ahp 15 rfl rfl (by kernel_rfl) (by kernel_rfl) ((by first | exact zg zU rfl zF (by decide) rfl | exact zn zU rfl zF (by decide) rfl)) ?_
     refine ahl 16 rfl rfl (by kernel_rfl) (by kernel_rfl) (by simp) ⟨1, rfl⟩ (fun M hM => by obtain ⟨i, hi⟩ := hM; exact za5 (i := i) (j := y83) 1 zF rfl (by omega) hi hx rfl rfl ⟨rfl, rfl⟩) ?_
     refine ahp 18 rfl rfl (by kernel_rfl) (by kernel_rfl) (zd rfl) ?_
     refine ahp 19 rfl rfl (by kernel_rfl) (by kernel_rfl) (zd rfl) ?_
     refine ahp 20 rfl rfl (by kernel_rfl) (by kernel_rfl) ((by first | exact zar rfl | exact zV rfl)) ?_
     refine ahp 21 rfl rfl (by kernel_rfl) (by kernel_rfl) ((by first | exact zg zU rfl ty9 (by decide) rfl | exact zn zU rfl ty9 (by decide) rfl)) ?_
     refine ahl 22 rfl rfl (by kernel_rfl) (by kernel_rfl) (by simp) ⟨1, rfl⟩ (fun M hM => by obtain ⟨i, hi⟩ := hM; exact za5 (i := i) (j := y83) 0 ty9 rfl (by omega) hi hx rfl rfl ⟨rfl, rfl⟩) ?_
     refine ahp 23 rfl rfl (by kernel_rfl) (by kernel_rfl) (zM (hs := [_, _, _]) zF ty9 rfl rfl (by decide) (by decide) rfl) ?_
     refine ahe 12 rfl (by kernel_rfl) ?_
     first
     | refine zA rfl (zh (i := 0) zch rfl (WeakL.refl _) rfl (zP (L := [_, _, _]) (by first | assumption | omega | (simp; omega) | simp_all) (by first | assumption | omega | (simp; omega) | simp_all) (by first | assumption | omega | (simp; omega) | simp_all)) ?_)
     | refine zA rfl (zh (i := 1) zch rfl (WeakL.refl _) rfl (zP (L := [_, _, _]) (by first | assumption | omega | (simp; omega) | simp_all) (by first | assumption | omega | (simp; omega) | simp_all) (by first | assumption | omega | (simp; omega) | simp_all)) ?_)
     | refine zA rfl (zh (i := 2) zch rfl (WeakL.refl _) rfl (zP (L := [_, _, _]) (by first | assumption | omega | (simp; omega) | simp_all) (by first | assumption | omega | (simp; omega) | simp_all) (by first | assumption | omega | (simp; omega) | simp_all)) ?_)
     | refine zA rfl (zh (i := 3) zch rfl (WeakL.refl _) rfl (zP (L := [_, _, _]) (by first | assumption | omega | (simp; omega) | simp_all) (by first | assumption | omega | (simp; omega) | simp_all) (by first | assumption | omega | (simp; omega) | simp_all)) ?_)
     rintro _ _ ⟨y97, rfl, hy97, rfl⟩
     refine ⟨fun _ => by first | exact .inl ⟨0, rfl⟩ | exact .inl ⟨1, rfl⟩ | exact .inl ⟨2, rfl⟩ | exact .inr (by simp [zbW, Region.binds]), ?_⟩
     refine ahe 17 rfl (by kernel_rfl) ?_
     refine zA rfl (zel ca28 rfl (WeakL.refl _) (zcS (l := x.For) (by have := (g2 x (List.mem_of_getElem? hx)).2.1; omega)) fun v102 => ?_)
     refine ⟨fun _ => .inl ⟨2, rfl⟩, ?_⟩
     refine ahe 24 rfl (by kernel_rfl) ?_
     first
     | refine zA rfl (zh (i := 0) zch rfl (WeakL.refl _) rfl (zP (L := [_, _, _]) (by first | assumption | omega | (simp; omega) | simp_all) (by first | assumption | omega | (simp; omega) | simp_all) (by first | assumption | omega | (simp; omega) | simp_all)) ?_)
     | refine zA rfl (zh (i := 1) zch rfl (WeakL.refl _) rfl (zP (L := [_, _, _]) (by first | assumption | omega | (simp; omega) | simp_all) (by first | assumption | omega | (simp; omega) | simp_all) (by first | assumption | omega | (simp; omega) | simp_all)) ?_)
     | refine zA rfl (zh (i := 2) zch rfl (WeakL.refl _) rfl (zP (L := [_, _, _]) (by first | assumption | omega | (simp; omega) | simp_all) (by first | assumption | omega | (simp; omega) | simp_all) (by first | assumption | omega | (simp; omega) | simp_all)) ?_)
     | refine zA rfl (zh (i := 3) zch rfl (WeakL.refl _) rfl (zP (L := [_, _, _]) (by first | assumption | omega | (simp; omega) | simp_all) (by first | assumption | omega | (simp; omega) | simp_all) (by first | assumption | omega | (simp; omega) | simp_all)) ?_)
     rintro _ _ ⟨y109, rfl, hy109, rfl⟩
     refine ⟨fun _ => by first | exact .inl ⟨0, rfl⟩ | exact .inl ⟨1, rfl⟩ | exact .inl ⟨2, rfl⟩ | exact .inr (by simp [zbW, Region.binds]), ?_⟩
     refine ahp 25 rfl rfl (by kernel_rfl) (by kernel_rfl) (zM (hs := [_]) zF ty9 rfl rfl (by decide) (by decide) rfl) ?_
     refine ahe 26 rfl (by kernel_rfl) ?_
     refine zA rfl (EOp.fzi (N := [St b l (a3 + 1 + 1 + 1), .arr (.slice (some ⟨ob, off, none⟩) (out.map zb7).length cap) 2 (out.map zb7)]) (sz := 1) (es := (x.For ++ [y109]).map .str) 1 (zah (i := 1) (es := x.For.map .str) (ys := [.str y109]) zF ty9 rfl rfl rfl rfl rfl (by simp [zaD, zl]) (by have := (g2 x (List.mem_of_getElem? hx)).2.1; simp; omega) fun v111 => ⟨v111, rfl, by simp, rfl⟩) ?_)
     refine ⟨fun _ => .inl ⟨1, rfl⟩, ?_⟩
     refine ahp 27 rfl rfl (by kernel_rfl) (by kernel_rfl) ((by first | exact zar rfl | exact zV rfl)) ?_
     refine ahp 28 rfl rfl (by kernel_rfl) (by kernel_rfl) ((by first | exact zg zU rfl ty9 (by decide) rfl | exact zn zU rfl ty9 (by decide) rfl)) ?_
     refine ahe 29 rfl (by kernel_rfl) ?_
     refine zav (zaQ (i := 1) (j := y83) (f := 0) (y := zb7 x) (y' := zb7 ⟨y97, x.For⟩) ty9 rfl (by omega) rfl rfl (zcn hx) rfl rfl (by simp [zl]) rfl ?_)
     refine ⟨fun _ => .inr (by simp [zbW, Region.binds]), ?_⟩
     refine ahp 30 rfl rfl (by kernel_rfl) (by kernel_rfl) ((by first | exact zar rfl | exact zV rfl)) ?_
     refine ahp 31 rfl rfl (by kernel_rfl) (by kernel_rfl) ((by first | exact zg zU rfl zF (by decide) rfl | exact zn zU rfl zF (by decide) rfl)) ?_
     refine ahe 32 rfl (by kernel_rfl) ?_
     refine zav (zaQ (i := 1) (j := y83) (f := 1) (y := zb7 ⟨y97, x.For⟩) (y' := zb7 ⟨y97, x.For ++ [y109]⟩) zF rfl (by omega) rfl rfl (zmk (zcn hx)) rfl rfl (by simp [zl]) rfl ?_)
     refine ⟨fun _ => .inr (by simp [zbW, Region.binds]), ?_⟩
     refine ahz (by kernel_rfl) ?_
     exact ⟨(out.set y83 ⟨y97, x.For ++ [y109]⟩, a3 + 3), ⟨by simp; omega, zgK (P := zjw) (fun z hz => (g2 z hz).up) ⟨by simp at hy97; rcases hy97 with rfl | rfl | rfl; exact (g2 x (List.mem_of_getElem? hx)).1; (unfold Sh; simp); exact (g2 x0 (List.mem_of_getElem? hx0)).1, by have := (g2 x (List.mem_of_getElem? hx)).2.1; simp; omega, znu (g2 x (List.mem_of_getElem? hx)).2.2 (by simp at hy109; rcases hy109 with rfl | rfl | rfl; (unfold Sh; simp); (unfold Sh; simp); exact (g2 x (List.mem_of_getElem? hx)).1)⟩, by dsimp only; omega⟩, trivial, (by repeat (first | exact zp | refine zu rfl ?_ | refine zq rfl rfl ?_)), by repeat (first | exact List.Perm.nil | refine zQ 0 rfl ?_ | refine zQ 1 rfl ?_ | refine zQ 2 rfl ?_ | refine zQ 3 rfl ?_ | (refine zI 0 rfl ?hq ?_; (case hq => simp [z7, zl]; done)) | (refine zI 1 rfl ?hq ?_; (case hq => simp [z7, zl]; done)) | (refine zI 2 rfl ?hq ?_; (case hq => simp [z7, zl]; done)) | (refine zI 3 rfl ?hq ?_; (case hq => simp [z7, zl]; done)) | fail)⟩
    ·try simp at h10
     refine zk ?_
     exact ⟨(out, a3), ⟨by dsimp only; omega, fun z hz => (g2 z hz).up, by dsimp only; omega⟩, trivial, (by repeat (first | exact zp | refine zu rfl ?_ | refine zq rfl rfl ?_)), by repeat (first | exact List.Perm.nil | refine zQ 0 rfl ?_ | refine zQ 1 rfl ?_ | refine zQ 2 rfl ?_ | refine zQ 3 rfl ?_ | (refine zI 0 rfl ?hq ?_; (case hq => simp [z7, zl]; done)) | (refine zI 1 rfl ?hq ?_; (case hq => simp [z7, zl]; done)) | (refine zI 2 rfl ?hq ?_; (case hq => simp [z7, zl]; done)) | (refine zI 3 rfl ?hq ?_; (case hq => simp [z7, zl]; done)) | fail)⟩
   ·intro q hq3
    obtain ⟨k1, a4⟩ := q
    dsimp only at hq3
    obtain ⟨q1, q2, q3⟩ := hq3
    refine zb ?_
    refine dmv rfl ?_
    refine das rfl ?_
    refine dn ?_
    refine zo ?_
    refine zbO (Ghost.fa 4 (i := 1) rfl rfl) rfl ⟨k1, a4, rfl, ⟨q1, q2⟩, by omega, rfl⟩
end
end Go.Proofs.YtcihcbnjfclkbaaGreatDoor
