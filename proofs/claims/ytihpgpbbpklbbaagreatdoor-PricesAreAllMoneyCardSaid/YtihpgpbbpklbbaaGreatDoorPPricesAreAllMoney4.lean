/- The statement is proved: the card of the law, out of its function's contract; no conditions. -/
import Derived.Test.YtihpgpbbpklbbaaGreatDoorPPricesAreAllMoney3
import Derived.KernelRfl
import Derived.LaidMore
import Derived.Lay
import Derived.Lib.AtoiBound
import Derived.Lib.ItoaMem
import Derived.OpenShut
import Derived.ProofKit
import Derived.SevenTiedAt
import Derived.Stop.Joined
import Derived.Test.YtihpgpbbpklbbaaGreatDoorCards
import Derived.Test.YtihpgpbbpklbbaaGreatDoorTie
set_option linter.unusedVariables false
set_option linter.unusedSimpArgs false
section
namespace Go.Proofs.YtihpgpbbpklbbaaGreatDoor
open Go.HL
set_option maxRecDepth 100000
set_option linter.unusedVariables false
set_option linter.unusedSimpArgs false
/-- benchwarmer/value.assetFault -/
theorem c_value_assetFault [Tracks] {x : Asset}  : ConP Tryz.prog 100 [eAsset x] (.int .i64 (assetFault x)) := by
 refine Con.of_body Tryz.func100 rfl Tryz.ntmps100 rfl rfl ?_
 refine hw_reg ?_
 refine dp rfl (pop_box rfl rfl) ?_
 refine dp rfl (pop_assign rfl) ?_
 refine dn ?_
 refine hw_seq ?_
 refine hw_block ?_
 refine hw_reg ?_
 refine dp rfl (pop_fieldAddr ty83 rfl ty9 (by decide) rfl) ?_
 refine dp rfl (pop_load ty9 rfl rfl rfl) ?_
 refine dp rfl (pop_call ca59 rfl (WeakL.refl _) c_base_Key) ?_
 refine dp rfl (pop_not rfl) ?_
 refine dp rfl (pop_move rfl) ?_
 refine dg rfl rfl (fun hc => ⟨_, OpenTo.refl _, pop_fieldAddr ty83 rfl ty9 (by decide) rfl⟩) ?_
 refine dg rfl rfl (fun hc => ⟨_, OpenTo.upd (t := 9) rfl (hc) (OpenTo.refl _), pop_load ty9 rfl rfl rfl⟩) ?_
 refine dg rfl rfl (fun hc => ⟨_, OpenTo.upd (t := 10) rfl (hc) (OpenTo.refl _), pop_call ca59 rfl (WeakL.refl _) c_base_Key⟩) ?_
 refine dg rfl rfl (fun hc => ⟨_, OpenTo.upd (t := 11) rfl (hc) (OpenTo.refl _), pop_not rfl⟩) ?_
 refine dp rfl (pop_picko rfl (.inl rfl) (.inr ⟨_, rfl, fun h => by simp_all⟩)) ?_
 refine dp rfl (pop_assign rfl) ?_
 refine dn ?_
 refine hw_cond rfl (fun h1 => ?_) (fun h2 => ?_)
 ·try simp at h1
  refine hw_reg ?_
  refine dp rfl (pop_assign rfl) ?_
  refine dn ?_
  refine hw_ret ?_
  refine ret_p rfl ?_
  show HVal.int .i64 _ = _
  simp_all [assetFault]
 ·try simp at h2
  refine hw_reg ?_
  refine dp rfl (pop_fieldAddr ty83 rfl ty3 (by decide) rfl) ?_
  refine dp rfl (pop_load ty3 rfl rfl rfl) ?_
  refine dp rfl (pop_call ca92 rfl (WeakL.refl _) c_base_Out) ?_
  refine dp rfl (pop_assign rfl) ?_
  refine dn ?_
  refine hw_cond rfl (fun h3 => ?_) (fun h4 => ?_)
  ·try simp at h3
   refine hw_reg ?_
   refine dp rfl (pop_assign rfl) ?_
   refine dn ?_
   refine hw_ret ?_
   refine ret_p rfl ?_
   show HVal.int .i64 _ = _
   simp_all [assetFault]
  ·try simp at h4
   refine hw_skip ?_
   refine blockQ_n ?_
   refine seqQ_n ?_
   refine hw_reg ?_
   refine dp rfl (pop_assign rfl) ?_
   refine dn ?_
   refine hw_ret ?_
   refine ret_p rfl ?_
   show HVal.int .i64 _ = _
   simp_all [assetFault]

/-- benchwarmer/value.CheckAssets -/
theorem c_value_CheckAssets [Tracks] {l : List Asset} (hl : l.length ≤ 1000000) : ConP Tryz.prog 97 [eAssets l] (.int .i64 (checkAssets l)) := by
 refine Con.of_body Tryz.func97 rfl Tryz.ntmps97 rfl rfl ?_
 refine hw_reg ?_
 refine dp rfl (pop_assign rfl) ?_
 refine dn ?_
 refine hw_seq ?_
 refine hw_reg ?_
 refine dp rfl (pop_move rfl) ?_
 refine dp rfl (pop_lenm ty63 rfl) ?_
 refine dp rfl (pop_gtr rfl rfl) ?_
 refine dn ?_
 refine hw_cond rfl (fun h1 => ?_) (fun h2 => ?_)
 ·try simp at h1
  refine hw_reg ?_
  refine dp rfl (pop_assign rfl) ?_
  refine dn ?_
  refine hw_ret ?_
  refine ret_p rfl ?_
  show HVal.int .i64 _ = _
  (rw [checkAssets, if_pos (by omega)]; done)
 ·try simp at h2
  refine hw_skip ?_
  refine seqQ_n ?_
  refine hw_seq ?_
  refine hw_reg ?_
  refine dp rfl (pop_move rfl) ?_
  refine dp rfl (pop_lenm ty63 rfl) ?_
  refine dp rfl (pop_move rfl) ?_
  refine dn ?_
  refine hw_block ?_
  refine hw_loopw [2, 3, 4, 5, 11, 12, 13, 14, 15, 16, 17, 18, 19, 20, 21, 22, 23, 24, 25, 26, 27, 28, 29, 30, 31, 32, 33, 34] (fun (k : Nat) => [(11, .int .i64 k)]) (fun (k : Nat) => []) (fun (k : Nat) => k ≤ l.length ∧ (checkAssets l = assetsGo l k (l.drop k))) (fun (k : Nat) => l.length - k) (0) ?_ ?_ ?_ ?_
  ·refine ⟨Nat.zero_le _, ?_⟩
   rw [checkAssets, if_neg (by omega)]; rfl
  ·exact ⟨rfl, trivial⟩
  ·exact List.Perm.refl _
  ·intro k hinv
   obtain ⟨hk, hg⟩ := hinv
   refine hw_reg ?_
   refine dp rfl (pop_lss rfl rfl) ?_
   refine dn ?_
   refine hw_seq ?_
   refine hw_cond rfl (fun h3 => ?_) (fun h4 => ?_)
   ·try simp at h3
    obtain ⟨x, hx⟩ : ∃ x, l[k]? = some x := ⟨_, List.getElem?_eq_getElem h3⟩
    have hdx := drop_cons hx
    rw [hdx] at hg
    refine hw_skip ?_
    refine seqQ_n ?_
    refine hw_seq ?_
    refine hw_block ?_
    refine hw_reg ?_
    refine dp rfl (pop_move rfl) ?_
    refine dp rfl (pop_idx ty63 ty83 rfl rfl rfl (by assumption)) ?_
    refine dp rfl (pop_loadw ty83 rfl rfl rfl rfl) ?_
    refine de rfl (eop_alloc ty83 rfl fun b4 => ?_)
    refine dp rfl (pop_assign rfl) ?_
    refine de0 (eop_storew ty83 rfl rfl rfl rfl rfl ?_)
    refine dn ?_
    refine hw_ghost (Ghost.fc0 4 rfl) ?_
    refine hw_seq ?_
    refine hw_reg ?_
    refine dp rfl (pop_loadw ty83 rfl rfl rfl rfl) ?_
    refine dp rfl (pop_call ca100 rfl (WeakL.refl _) c_value_assetFault) ?_
    refine dp rfl (pop_assign rfl) ?_
    refine dn ?_
    refine hw_reg ?_
    refine dp rfl (pop_move rfl) ?_
    refine dp rfl (pop_neq rfl rfl) ?_
    refine dn ?_
    refine hw_cond rfl (fun h5 => ?_) (fun h6 => ?_)
    ·try simp at h5
     refine hw_reg ?_
     refine dp rfl (pop_move rfl) ?_
     refine dp rfl (pop_assign rfl) ?_
     refine dn ?_
     refine hw_ret ?_
     refine ret_p rfl ?_
     show HVal.int .i64 _ = _
     (rw [hg]; simp_all [assetsGo, leS]; done)
    ·try simp at h6
     refine hw_skip ?_
     refine seqQ_n ?_
     refine hw_draw (fun _ => True) [] mixed ?_
     refine ahp 0 rfl rfl (by kernel_rfl) (by kernel_rfl) (pop_move rfl) ?_
     refine ahp 1 rfl rfl (by kernel_rfl) (by kernel_rfl) (pop_gtr rfl rfl) ?_
     refine ahp 2 rfl rfl (by kernel_rfl) (by kernel_rfl) (pop_move rfl) ?_
     refine ahg 3 rfl rfl (by kernel_rfl) (by kernel_rfl) rfl (fun hc => ⟨_, OpenTo.refl _, pop_fieldAddr ty83 rfl ty9 (by decide) rfl⟩) ?_
     refine ahg 4 rfl rfl (by kernel_rfl) (by kernel_rfl) rfl (fun hc => ⟨_, OpenTo.upd (t := 24) rfl (hc) (OpenTo.refl _), pop_load ty9 rfl rfl rfl⟩) ?_
     refine ahg 5 rfl rfl (by kernel_rfl) (by kernel_rfl) rfl (fun hc => ⟨_, OpenTo.refl _, pop_move rfl⟩) ?_
     refine ahg 6 rfl rfl (by kernel_rfl) (by kernel_rfl) rfl (fun hc => ⟨_, OpenTo.refl _, pop_move rfl⟩) ?_
     refine ahg 7 rfl rfl (by kernel_rfl) (by kernel_rfl) rfl (fun hc => by have hq := hc; (try simp at hq); exact ⟨_, OpenTo.upd (t := 27) rfl (hc) (OpenTo.refl _), pop_sub64 rfl rfl (by omega) (by omega)⟩) ?_
     refine ahg 8 rfl rfl (by kernel_rfl) (by kernel_rfl) rfl (fun hc => by have hq := hc; (try simp at hq); exact ⟨_, OpenTo.upd (t := 28) rfl (hc) (OpenTo.upd (t := 26) rfl (hc) (OpenTo.refl _)), pop_idx (j := k - 1) (a := l.getD (k - 1) asset0) ty63 ty83 rfl rfl (by omega) (getD_some (by omega))⟩) ?_
     refine ahg 9 rfl rfl (by kernel_rfl) (by kernel_rfl) rfl (fun hc => ⟨_, OpenTo.upd (t := 29) rfl (hc) (OpenTo.refl _), pop_fieldAddr ty83 rfl ty9 (by decide) rfl⟩) ?_
     refine ahg 10 rfl rfl (by kernel_rfl) (by kernel_rfl) rfl (fun hc => ⟨_, OpenTo.upd (t := 30) rfl (hc) (OpenTo.refl _), pop_load ty9 rfl rfl rfl⟩) ?_
     refine ahg 11 rfl rfl (by kernel_rfl) (by kernel_rfl) rfl (fun hc => ⟨_, OpenTo.upd (t := 31) rfl (hc) (OpenTo.upd (t := 25) rfl (hc) (OpenTo.refl _)), pop_leqs rfl rfl⟩) ?_
     refine ahp 12 rfl rfl (by kernel_rfl) (by kernel_rfl) (pop_picko rfl (.inr ⟨_, rfl, fun h => by simp_all⟩) (.inl rfl)) ?_
     refine ahz (by kernel_rfl) ?_
     refine hw_cond rfl (fun h7 => ?_) (fun h8 => ?_)
     ·try simp at h7
      refine hw_reg ?_
      refine dp rfl (pop_assign rfl) ?_
      refine dn ?_
      refine hw_ret ?_
      refine ret_p rfl ?_
      show HVal.int .i64 _ = _
      (rw [hg]; simp_all [assetsGo, leS]; done)
     ·try simp at h8
      refine hw_skip ?_
      refine blockQ_n ?_
      refine seqQ_n ?_
      refine hw_reg1 ?_
      refine dp rfl (pop_add64 rfl rfl (by omega) (by omega)) ?_
      refine dp rfl (pop_move rfl) ?_
      refine dn ?_
      refine ⟨k + 1, ?_, ?_, ⟨rfl, trivial⟩, (by repeat (first | exact keeps_refl | refine keeps_upd rfl ?_ | refine keeps_loop rfl rfl ?_)), List.Perm.refl _⟩
      ·refine ⟨by omega, ?_⟩
       rw [hg]; simp_all [assetsGo, leS]
      ·dsimp only; omega
   ·try simp at h4
    have hnk : l.length ≤ k := by omega
    obtain rfl : k = l.length := by omega
    rw [drop_all (Nat.le_refl _)] at hg
    refine hw_exit ?_
    refine seqQ_x ?_
    refine loopQ_x ?_
    refine blockQ_eq ?_
    refine seqQ_n ?_
    refine hw_reg ?_
    refine dp rfl (pop_assign rfl) ?_
    refine dn ?_
    refine hw_ret ?_
    refine ret_p rfl ?_
    show HVal.int .i64 _ = _
    (rw [hg]; simp_all [assetsGo, leS]; done)

/-- benchwarmer/value.CheckPlaces -/
theorem c_value_CheckPlaces [Tracks] {l : List HL.Place} (hl : l.length ≤ 1000000) : ConP Tryz.prog 98 [ePlaces l] (.int .i64 (checkPlaces l)) := by
 refine Con.of_body Tryz.func98 rfl Tryz.ntmps98 rfl rfl ?_
 refine hw_reg ?_
 refine dp rfl (pop_assign rfl) ?_
 refine dn ?_
 refine hw_seq ?_
 refine hw_reg ?_
 refine dp rfl (pop_move rfl) ?_
 refine dp rfl (pop_lenm ty65 rfl) ?_
 refine dp rfl (pop_gtr rfl rfl) ?_
 refine dn ?_
 refine hw_cond rfl (fun h1 => ?_) (fun h2 => ?_)
 ·try simp at h1
  refine hw_reg ?_
  refine dp rfl (pop_assign rfl) ?_
  refine dn ?_
  refine hw_ret ?_
  refine ret_p rfl ?_
  show HVal.int .i64 _ = _
  (rw [checkPlaces, if_pos (by omega)]; done)
 ·try simp at h2
  refine hw_skip ?_
  refine seqQ_n ?_
  refine hw_seq ?_
  refine hw_reg ?_
  refine dp rfl (pop_move rfl) ?_
  refine dp rfl (pop_lenm ty65 rfl) ?_
  refine dp rfl (pop_move rfl) ?_
  refine dn ?_
  refine hw_block ?_
  refine hw_loopw [2, 3, 4, 10, 11, 12, 13, 14, 15, 16, 17, 18, 19, 20, 21, 22, 23, 24, 25, 26, 27, 28, 29, 30, 31, 32, 33, 34, 35, 36, 37, 38] (fun (k : Nat) => [(10, .int .i64 k)]) (fun (k : Nat) => []) (fun (k : Nat) => k ≤ l.length ∧ (checkPlaces l = placesGo l k (l.drop k))) (fun (k : Nat) => l.length - k) (0) ?_ ?_ ?_ ?_
  ·refine ⟨Nat.zero_le _, ?_⟩
   rw [checkPlaces, if_neg (by omega)]; rfl
  ·exact ⟨rfl, trivial⟩
  ·exact List.Perm.refl _
  ·intro k hinv
   obtain ⟨hk, hg⟩ := hinv
   refine hw_reg ?_
   refine dp rfl (pop_lss rfl rfl) ?_
   refine dn ?_
   refine hw_seq ?_
   refine hw_cond rfl (fun h3 => ?_) (fun h4 => ?_)
   ·try simp at h3
    obtain ⟨x, hx⟩ : ∃ x, l[k]? = some x := ⟨_, List.getElem?_eq_getElem h3⟩
    have hdx := drop_cons hx
    rw [hdx] at hg
    refine hw_skip ?_
    refine seqQ_n ?_
    refine hw_seq ?_
    refine hw_block ?_
    refine hw_reg ?_
    refine dp rfl (pop_move rfl) ?_
    refine dp rfl (pop_idx ty65 ty148 rfl rfl rfl (by assumption)) ?_
    refine dp rfl (pop_loadw ty148 rfl rfl rfl rfl) ?_
    refine de rfl (eop_alloc ty148 rfl fun b4 => ?_)
    refine dp rfl (pop_assign rfl) ?_
    refine de0 (eop_storew ty148 rfl rfl rfl rfl rfl ?_)
    refine dn ?_
    refine hw_ghost (Ghost.fc0 4 rfl) ?_
    refine hw_block ?_
    refine hw_reg ?_
    refine dp rfl (pop_fieldAddr ty148 rfl ty9 (by decide) rfl) ?_
    refine dp rfl (pop_load ty9 rfl rfl rfl) ?_
    refine dp rfl (pop_call ca59 rfl (WeakL.refl _) c_base_Key) ?_
    refine dp rfl (pop_not rfl) ?_
    refine dp rfl (pop_assign rfl) ?_
    refine dn ?_
    refine hw_cond rfl (fun h5 => ?_) (fun h6 => ?_)
    ·try simp at h5
     refine hw_reg ?_
     refine dp rfl (pop_assign rfl) ?_
     refine dn ?_
     refine hw_ret ?_
     refine ret_p rfl ?_
     show HVal.int .i64 _ = _
     (rw [hg]; simp_all [placesGo, leS]; done)
    ·try simp at h6
     refine hw_reg ?_
     refine dp rfl (pop_fieldAddr ty148 rfl ty3 (by decide) rfl) ?_
     refine dp rfl (pop_load ty3 rfl rfl rfl) ?_
     refine dp rfl (pop_call ca92 rfl (WeakL.refl _) c_base_Out) ?_
     refine dp rfl (pop_assign rfl) ?_
     refine dn ?_
     refine hw_cond rfl (fun h7 => ?_) (fun h8 => ?_)
     ·try simp at h7
      refine hw_reg ?_
      refine dp rfl (pop_assign rfl) ?_
      refine dn ?_
      refine hw_ret ?_
      refine ret_p rfl ?_
      show HVal.int .i64 _ = _
      (rw [hg]; simp_all [placesGo, leS]; done)
     ·try simp at h8
      refine hw_draw (fun _ => True) [] mixed ?_
      refine ahp 0 rfl rfl (by kernel_rfl) (by kernel_rfl) (pop_move rfl) ?_
      refine ahp 1 rfl rfl (by kernel_rfl) (by kernel_rfl) (pop_gtr rfl rfl) ?_
      refine ahp 2 rfl rfl (by kernel_rfl) (by kernel_rfl) (pop_move rfl) ?_
      refine ahg 3 rfl rfl (by kernel_rfl) (by kernel_rfl) rfl (fun hc => ⟨_, OpenTo.refl _, pop_fieldAddr ty148 rfl ty9 (by decide) rfl⟩) ?_
      refine ahg 4 rfl rfl (by kernel_rfl) (by kernel_rfl) rfl (fun hc => ⟨_, OpenTo.upd (t := 28) rfl (hc) (OpenTo.refl _), pop_load ty9 rfl rfl rfl⟩) ?_
      refine ahg 5 rfl rfl (by kernel_rfl) (by kernel_rfl) rfl (fun hc => ⟨_, OpenTo.refl _, pop_move rfl⟩) ?_
      refine ahg 6 rfl rfl (by kernel_rfl) (by kernel_rfl) rfl (fun hc => ⟨_, OpenTo.refl _, pop_move rfl⟩) ?_
      refine ahg 7 rfl rfl (by kernel_rfl) (by kernel_rfl) rfl (fun hc => by have hq := hc; (try simp at hq); exact ⟨_, OpenTo.upd (t := 31) rfl (hc) (OpenTo.refl _), pop_sub64 rfl rfl (by omega) (by omega)⟩) ?_
      refine ahg 8 rfl rfl (by kernel_rfl) (by kernel_rfl) rfl (fun hc => by have hq := hc; (try simp at hq); exact ⟨_, OpenTo.upd (t := 32) rfl (hc) (OpenTo.upd (t := 30) rfl (hc) (OpenTo.refl _)), pop_idx (j := k - 1) (a := l.getD (k - 1) place0) ty65 ty148 rfl rfl (by omega) (getD_some (by omega))⟩) ?_
      refine ahg 9 rfl rfl (by kernel_rfl) (by kernel_rfl) rfl (fun hc => ⟨_, OpenTo.upd (t := 33) rfl (hc) (OpenTo.refl _), pop_fieldAddr ty148 rfl ty9 (by decide) rfl⟩) ?_
      refine ahg 10 rfl rfl (by kernel_rfl) (by kernel_rfl) rfl (fun hc => ⟨_, OpenTo.upd (t := 34) rfl (hc) (OpenTo.refl _), pop_load ty9 rfl rfl rfl⟩) ?_
      refine ahg 11 rfl rfl (by kernel_rfl) (by kernel_rfl) rfl (fun hc => ⟨_, OpenTo.upd (t := 35) rfl (hc) (OpenTo.upd (t := 29) rfl (hc) (OpenTo.refl _)), pop_leqs rfl rfl⟩) ?_
      refine ahp 12 rfl rfl (by kernel_rfl) (by kernel_rfl) (pop_picko rfl (.inr ⟨_, rfl, fun h => by simp_all⟩) (.inl rfl)) ?_
      refine ahp 13 rfl rfl (by kernel_rfl) (by kernel_rfl) (pop_assign rfl) ?_
      refine ahz (by kernel_rfl) ?_
      refine hw_cond rfl (fun h9 => ?_) (fun h10 => ?_)
      ·try simp at h9
       refine hw_reg ?_
       refine dp rfl (pop_assign rfl) ?_
       refine dn ?_
       refine hw_ret ?_
       refine ret_p rfl ?_
       show HVal.int .i64 _ = _
       (rw [hg]; simp_all [placesGo, leS]; done)
      ·try simp at h10
       refine hw_skip ?_
       refine blockQ_n ?_
       refine blockQ_n ?_
       refine seqQ_n ?_
       refine hw_reg1 ?_
       refine dp rfl (pop_add64 rfl rfl (by omega) (by omega)) ?_
       refine dp rfl (pop_move rfl) ?_
       refine dn ?_
       refine ⟨k + 1, ?_, ?_, ⟨rfl, trivial⟩, (by repeat (first | exact keeps_refl | refine keeps_upd rfl ?_ | refine keeps_loop rfl rfl ?_)), List.Perm.refl _⟩
       ·refine ⟨by omega, ?_⟩
        rw [hg]; simp_all [placesGo, leS]
       ·dsimp only; omega
   ·try simp at h4
    have hnk : l.length ≤ k := by omega
    obtain rfl : k = l.length := by omega
    rw [drop_all (Nat.le_refl _)] at hg
    refine hw_exit ?_
    refine seqQ_x ?_
    refine loopQ_x ?_
    refine blockQ_eq ?_
    refine seqQ_n ?_
    refine hw_reg ?_
    refine dp rfl (pop_assign rfl) ?_
    refine dn ?_
    refine hw_ret ?_
    refine ret_p rfl ?_
    show HVal.int .i64 _ = _
    (rw [hg]; simp_all [placesGo, leS]; done)

/-- benchwarmer/value.byValue -/
theorem c_value_byValue [Tracks] {x y : Asset}  : ConP Tryz.prog 185 [eAsset x, eAsset y] (.int .i64 (byValue x y)) := by
 refine Con.of_body Tryz.func185 rfl Tryz.ntmps185 rfl rfl ?_
 refine hw_reg ?_
 refine dp rfl (pop_box rfl rfl) ?_
 refine dp rfl (pop_box rfl rfl) ?_
 refine dp rfl (pop_assign rfl) ?_
 refine dn ?_
 refine hw_draw (fun _ => True) [] mixed ?_
 refine ahp 0 rfl rfl (by kernel_rfl) (by kernel_rfl) (pop_fieldAddr ty83 rfl ty3 (by decide) rfl) ?_
 refine ahp 1 rfl rfl (by kernel_rfl) (by kernel_rfl) (pop_load ty3 rfl rfl rfl) ?_
 refine ahp 2 rfl rfl (by kernel_rfl) (by kernel_rfl) (pop_fieldAddr ty83 rfl ty3 (by decide) rfl) ?_
 refine ahp 3 rfl rfl (by kernel_rfl) (by kernel_rfl) (pop_load ty3 rfl rfl rfl) ?_
 refine ahp 4 rfl rfl (by kernel_rfl) (by kernel_rfl) (pop_call ca108 rfl (WeakL.refl _) c_cmp_Compare_int) ?_
 refine ahp 5 rfl rfl (by kernel_rfl) (by kernel_rfl) (pop_fieldAddr ty83 rfl ty9 (by decide) rfl) ?_
 refine ahp 6 rfl rfl (by kernel_rfl) (by kernel_rfl) (pop_load ty9 rfl rfl rfl) ?_
 refine ahp 7 rfl rfl (by kernel_rfl) (by kernel_rfl) (pop_fieldAddr ty83 rfl ty9 (by decide) rfl) ?_
 refine ahp 8 rfl rfl (by kernel_rfl) (by kernel_rfl) (pop_load ty9 rfl rfl rfl) ?_
 refine ahp 9 rfl rfl (by kernel_rfl) (by kernel_rfl) (pop_call ca81 rfl (WeakL.refl _) c_strings_Compare) ?_
 refine ahp 10 rfl rfl (by kernel_rfl) (by kernel_rfl) (pop_buildSlice (hs := [_, _]) ty22 ty3 rfl rfl (by decide) (by decide) rfl) ?_
 refine ahp 11 rfl rfl (by kernel_rfl) (by kernel_rfl) (pop_call ca80 rfl (WeakL.refl _) (c_cmp_Or_int (l := [_, _]) (by simp))) ?_
 refine ahp 12 rfl rfl (by kernel_rfl) (by kernel_rfl) (pop_assign rfl) ?_
 refine ahz (by kernel_rfl) ?_
 refine hw_ret ?_
 refine ret_p rfl ?_
 rfl

/-- benchwarmer/value.of -/
theorem c_value_of [Tracks] {l : List Asset} {pos : Str} (hl : l.length ≤ 12) : ConP Tryz.prog 139 [eAssets l, .str pos] (eAssets (ofP l pos)) := by
 refine Con.of_body Tryz.func139 rfl Tryz.ntmps139 rfl rfl ?_
 refine hw_reg ?_
 refine dp rfl (pop_assign rfl) ?_
 refine dn ?_
 refine hw_reg ?_
 refine dp rfl (pop_assign rfl) ?_
 refine dn ?_
 refine hw_ghost (Ghost.arr_nil 3) ?_
 refine hw_seq ?_
 refine hw_reg ?_
 refine dp rfl (pop_move rfl) ?_
 refine dp rfl (pop_lenm ty63 rfl) ?_
 refine dp rfl (pop_move rfl) ?_
 refine dn ?_
 refine hw_block ?_
 refine hw_loopw2 [5, 7, 10, 11, 12, 13, 14, 15, 16, 17, 18, 19, 20, 21, 22] (fun (k : Nat) (u : Value) => [(10, .int .i64 k), (5, .raw u)]) (fun (k : Nat) (u : Value) => [.arr u 3 ((atPos (l.take k) pos).map eAsset)]) (fun (k : Nat) (u : Value) => k ≤ l.length ∧ (True)) (fun (k : Nat) (u : Value) => l.length - k) (0) (.slice none 0 0) ?_ ?_ ?_ ?_
 ·exact ⟨Nat.zero_le _, by simp_all⟩
 ·exact ⟨rfl, rfl, trivial⟩
 ·exact perm_eq (by simp [atPos])
 ·intro k u hinv
  obtain ⟨hk, -⟩ := hinv
  refine hw_reg ?_
  refine dp rfl (pop_lss rfl rfl) ?_
  refine dn ?_
  refine hw_seq ?_
  refine hw_cond rfl (fun h1 => ?_) (fun h2 => ?_)
  ·try simp at h1
   obtain ⟨x, hx⟩ : ∃ x, l[k]? = some x := ⟨_, List.getElem?_eq_getElem h1⟩
   have hdx := drop_cons hx
   refine hw_skip ?_
   refine seqQ_n ?_
   refine hw_seq ?_
   refine hw_block ?_
   refine hw_reg ?_
   refine dp rfl (pop_idx ty63 ty83 rfl rfl rfl (by assumption)) ?_
   refine dp rfl (pop_loadw ty83 rfl rfl rfl rfl) ?_
   refine de rfl (eop_alloc ty83 rfl fun b7 => ?_)
   refine de0 (eop_storew ty83 rfl rfl rfl rfl rfl ?_)
   refine dn ?_
   refine hw_ghost (Ghost.fc0 7 rfl) ?_
   refine hw_reg ?_
   refine dp rfl (pop_fieldAddr ty83 rfl ty9 (by decide) rfl) ?_
   refine dp rfl (pop_load ty9 rfl rfl rfl) ?_
   refine dp rfl (pop_move rfl) ?_
   refine dp rfl (pop_eqls rfl rfl) ?_
   refine dn ?_
   refine hw_cond rfl (fun h3 => ?_) (fun h4 => ?_)
   ·try simp at h3
    refine hw_reg1 ?_
    refine dp rfl (pop_move rfl) ?_
    refine dp rfl (pop_loadw ty83 rfl rfl rfl rfl) ?_
    refine dp rfl (pop_buildSlice (hs := [_]) ty63 ty83 rfl rfl (by decide) (by decide) rfl) ?_
    have hal : (atPos (l.take k) pos).length ≤ 12 := Nat.le_trans (atPos_le _ _) (by simp; omega)
    refine de rfl (eop_append (i := 0) ty63 ty83 rfl rfl rfl rfl rfl (by simp [flat, hcells]) (by simp; omega) fun v21 => ?_)
    refine dp rfl (pop_assign rfl) ?_
    refine dn ?_
    refine blockQ_n ?_
    refine seqQ_n ?_
    refine hw_reg1 ?_
    refine dp rfl (pop_add64 rfl rfl (by omega) (by omega)) ?_
    refine dp rfl (pop_move rfl) ?_
    refine dn ?_
    exact ⟨k + 1, _, ⟨by omega, trivial⟩, by dsimp only; omega, ⟨rfl, rfl, trivial⟩, (by repeat (first | exact keeps_refl | refine keeps_upd rfl ?_ | refine keeps_loop rfl rfl ?_)), perm_eq (by dsimp only; rw [atPos_snoc hx, if_pos (by simp_all)]; simp)⟩
   ·try simp at h4
    refine hw_skip ?_
    refine blockQ_n ?_
    refine seqQ_n ?_
    refine hw_reg1 ?_
    refine dp rfl (pop_add64 rfl rfl (by omega) (by omega)) ?_
    refine dp rfl (pop_move rfl) ?_
    refine dn ?_
    exact ⟨k + 1, _, ⟨by omega, trivial⟩, by dsimp only; omega, ⟨rfl, rfl, trivial⟩, (by repeat (first | exact keeps_refl | refine keeps_upd rfl ?_ | refine keeps_loop rfl rfl ?_)), perm_eq (by dsimp only; rw [atPos_snoc hx, if_neg (by simp_all)]; simp)⟩
  ·try simp at h2
   have hnk : l.length ≤ k := by omega
   obtain rfl : k = l.length := by omega
   rw [List.take_length]
   refine hw_exit ?_
   refine seqQ_x ?_
   refine loopQ2_x ?_
   refine blockQ_eq ?_
   refine seqQ_n ?_
   have hal := atPos_le l pos
   refine hw_reg ?_
   refine dp rfl (pop_move rfl) ?_
   refine de rfl (eop_callx (i := 0) ca184 rfl (WeakL.refl _) rfl (c_slices_SortFunc_api_Asset_api_Asset (l := atPos l pos) (c := byValue) (caps := []) ca185 (fun x y => c_value_byValue) (by omega)) ?_)
   rintro _ _ ⟨rfl, rfl⟩
   refine dn ?_
   refine hw_reg ?_
   refine dp rfl (pop_move rfl) ?_
   refine dp rfl (pop_assign rfl) ?_
   refine dn ?_
   refine hw_ret ?_
   exact ret_fa (M := []) 4 rfl rfl rfl

set_option maxHeartbeats 1000000 in
/-- benchwarmer/value.fielded -/
theorem c_value_fielded [Tracks] {l : List Asset} {p : List HL.Place} (hl : l.length ≤ 12) (hp : p.length ≤ 10) (hm : ∀ x ∈ p, 0 ≤ x.Many) (hv : ∀ x ∈ l, -1000000 ≤ x.Value ∧ x.Value ≤ 1000000) : ConP Tryz.prog 99 [eAssets l, ePlaces p] (.tup [.int .i64 (sumV (fieldedL (ofP l) p)), eSs (namesV (fieldedL (ofP l) p))]) := by
 have hon : ∀ s, (ofP l s).length ≤ 12 := fun s => Nat.le_trans (ofP_len l s) hl
 refine Con.of_body Tryz.func99 rfl Tryz.ntmps99 rfl rfl ?_
 refine hw_reg ?_
 refine dp rfl (pop_assign rfl) ?_
 refine dp rfl (pop_assign rfl) ?_
 refine dn ?_
 refine hw_reg ?_
 refine dp rfl (pop_assign rfl) ?_
 refine dn ?_
 refine hw_reg ?_
 refine dp rfl (pop_assign rfl) ?_
 refine dn ?_
 refine hw_ghost (Ghost.arr_nil 1) ?_
 refine hw_seq ?_
 refine hw_reg ?_
 refine dp rfl (pop_move rfl) ?_
 refine dp rfl (pop_lenm ty65 rfl) ?_
 refine dp rfl (pop_move rfl) ?_
 refine dn ?_
 refine hw_block ?_
 refine hw_loopw2 [6, 7, 9, 10, 12, 15, 16, 17, 18, 19, 20, 21, 22, 23, 24, 25, 26, 27, 28, 29, 30, 31, 32, 33, 34, 35, 36, 37, 38, 39, 40, 41, 42, 43, 44, 45, 46, 47, 48] (fun (i : Nat) (u : Value) => [(15, .int .i64 i), (6, .int .i64 (sumV (fieldedL (ofP l) (p.take i)))), (7, .raw u)]) (fun (i : Nat) (u : Value) => [.arr u 1 (((fieldedL (ofP l) (p.take i)).map (·.Player)).map .str)]) (fun (i : Nat) (u : Value) => i ≤ p.length ∧ (True)) (fun (i : Nat) (u : Value) => p.length - i) (0) (.slice none 0 0) ?_ ?_ ?_ ?_
 ·exact ⟨Nat.zero_le _, by simp_all⟩
 ·exact ⟨rfl, some_int (by simp [fieldedL, sumV]), rfl, trivial⟩
 ·exact perm_eq (by simp [fieldedL])
 ·intro i u hinv
  obtain ⟨hi, -⟩ := hinv
  refine hw_reg ?_
  refine dp rfl (pop_lss rfl rfl) ?_
  refine dn ?_
  refine hw_seq ?_
  refine hw_cond rfl (fun h1 => ?_) (fun h2 => ?_)
  ·try simp at h1
   obtain ⟨x, hx⟩ : ∃ x, p[i]? = some x := ⟨_, List.getElem?_eq_getElem h1⟩
   have hdx := drop_cons hx
   refine hw_skip ?_
   refine seqQ_n ?_
   refine hw_seq ?_
   refine hw_block ?_
   refine hw_reg ?_
   refine dp rfl (pop_idx ty65 ty148 rfl rfl rfl (by assumption)) ?_
   refine dp rfl (pop_loadw ty148 rfl rfl rfl rfl) ?_
   refine de rfl (eop_alloc ty148 rfl fun b9 => ?_)
   refine de0 (eop_storew ty148 rfl rfl rfl rfl rfl ?_)
   refine dn ?_
   refine hw_ghost (Ghost.fc0 9 rfl) ?_
   refine hw_reg ?_
   refine dp rfl (pop_move rfl) ?_
   refine dp rfl (pop_fieldAddr ty148 rfl ty9 (by decide) rfl) ?_
   refine dp rfl (pop_load ty9 rfl rfl rfl) ?_
   refine dp rfl (pop_call ca139 rfl (WeakL.refl _) (c_value_of (by assumption))) ?_
   refine dp rfl (pop_assign rfl) ?_
   refine dn ?_
   have hx0 := hm x (List.mem_of_getElem? hx)
   have hon1 := hon x.Position
   obtain ⟨N, hN⟩ : ∃ N : Nat, (if ((ofP l x.Position).length : Int) < x.Many then ((ofP l x.Position).length : Int) else x.Many) = (N : Int) := ⟨_, (Int.toNat_of_nonneg (by split <;> omega)).symm⟩
   have hNle : N ≤ (ofP l x.Position).length := by split at hN <;> omega
   refine hw_reg ?_
   refine dp rfl (pop_move rfl) ?_
   refine dp rfl (pop_fieldAddr ty148 rfl ty3 (by decide) rfl) ?_
   refine dp rfl (pop_load ty3 rfl rfl rfl) ?_
   refine dp rfl (pop_move rfl) ?_
   refine dp rfl (pop_lenm ty63 rfl) ?_
   refine dp rfl (pop_eq (pop_min rfl rfl) (congrArg _ hN)) ?_
   refine dp rfl (pop_slicem (h := N) ty63 ty83 rfl rfl ⟨_, _, rfl, rfl⟩ (by omega) hNle) ?_
   refine dp rfl (pop_lenm ty63 rfl) ?_
   refine dp rfl (pop_move rfl) ?_
   refine dn ?_
   have hCl : ((List.drop 0 (List.take N (ofP l x.Position)))).length ≤ 12 := by simp; omega
   have hCm : ∀ y ∈ (List.drop 0 (List.take N (ofP l x.Position))), y ∈ l := fun y hy => by
    have := List.mem_of_mem_take (List.mem_of_mem_drop hy)
    unfold ofP atPos at this
    exact (List.mem_filter.1 ((isort_mem _).1 this)).1
   generalize hCd : List.drop 0 (List.take N (ofP l x.Position)) = C at *
   refine hw_block ?_
   refine hw_loopw2 [6, 7, 12, 31, 32, 33, 34, 35, 36, 37, 38, 39, 40, 41, 42, 43, 44, 45, 46, 47] (fun (k : Nat) (w : Value) => [(31, .int .i64 k), (6, .int .i64 (sumV ((fieldedL (ofP l) (p.take i)) ++ ((C.take k).filter (fun y => decide (0 < y.Value)))))), (7, .raw w)]) (fun (k : Nat) (w : Value) => [.arr w 1 ((((fieldedL (ofP l) (p.take i)) ++ ((C.take k).filter (fun y => decide (0 < y.Value)))).map (·.Player)).map .str)]) (fun (k : Nat) (w : Value) => k ≤ C.length ∧ (True)) (fun (k : Nat) (w : Value) => C.length - k) (0) (u) ?_ ?_ ?_ ?_
   ·exact ⟨Nat.zero_le _, by simp_all⟩
   ·exact ⟨rfl, some_int (by simp), rfl, trivial⟩
   ·exact perm_eq (by simp)
   ·intro k w hinv
    obtain ⟨hk, -⟩ := hinv
    refine hw_reg ?_
    refine dp rfl (pop_lss rfl rfl) ?_
    refine dn ?_
    refine hw_seq ?_
    refine hw_cond rfl (fun h3 => ?_) (fun h4 => ?_)
    ·try simp at h3
     obtain ⟨y, hy⟩ : ∃ y, C[k]? = some y := ⟨_, List.getElem?_eq_getElem h3⟩
     have hdy := drop_cons hy
     refine hw_skip ?_
     refine seqQ_n ?_
     refine hw_seq ?_
     refine hw_block ?_
     refine hw_reg ?_
     refine dp rfl (pop_idx ty63 ty83 rfl rfl rfl (by assumption)) ?_
     refine dp rfl (pop_loadw ty83 rfl rfl rfl rfl) ?_
     refine de rfl (eop_alloc ty83 rfl fun b12 => ?_)
     refine de0 (eop_storew ty83 rfl rfl rfl rfl rfl ?_)
     refine dn ?_
     refine hw_ghost (Ghost.fc0 12 rfl) ?_
     refine hw_reg ?_
     refine dp rfl (pop_fieldAddr ty83 rfl ty3 (by decide) rfl) ?_
     refine dp rfl (pop_load ty3 rfl rfl rfl) ?_
     refine dp rfl (pop_gtr rfl rfl) ?_
     refine dn ?_
     refine hw_cond rfl (fun h5 => ?_) (fun h6 => ?_)
     ·try simp at h5
      refine hw_reg ?_
      refine dp rfl (pop_move rfl) ?_
      refine dp rfl (pop_fieldAddr ty83 rfl ty3 (by decide) rfl) ?_
      refine dp rfl (pop_load ty3 rfl rfl rfl) ?_
      have hb1 := field_bd (f := ofP l) (p := p) (i := i) (fun s m y => mem_chosen) hon hp hv
      have hb2 := pos_bd (k := k) hCm hCl hv
      have hb3 := hv y (hCm y (List.mem_of_getElem? hy))
      have hb4 := sumV_app (fieldedL (ofP l) (p.take i)) ((C.take k).filter (fun y => decide (0 < y.Value)))
      refine dp rfl (pop_add64 rfl rfl (by omega) (by omega)) ?_
      refine dp rfl (pop_assign rfl) ?_
      refine dn ?_
      refine hw_reg1 ?_
      refine dp rfl (pop_move rfl) ?_
      refine dp rfl (pop_fieldAddr ty83 rfl ty9 (by decide) rfl) ?_
      refine dp rfl (pop_load ty9 rfl rfl rfl) ?_
      refine dp rfl (pop_buildSlice (hs := [_]) ty28 ty9 rfl rfl (by decide) (by decide) rfl) ?_
      refine de rfl (eop_append (i := 0) ty28 ty9 rfl rfl rfl rfl rfl (by simp [flat, hcells]) (by simp only [List.length_map, List.length_append, List.length_cons, List.length_nil]; omega) fun v46 => ?_)
      refine dp rfl (pop_assign rfl) ?_
      refine dn ?_
      refine blockQ_n ?_
      refine seqQ_n ?_
      refine hw_reg1 ?_
      refine dp rfl (pop_add64 rfl rfl (by omega) (by omega)) ?_
      refine dp rfl (pop_move rfl) ?_
      refine dn ?_
      exact ⟨k + 1, _, ⟨by omega, trivial⟩, by dsimp only; omega, ⟨rfl, some_int (by rw [pos_snoc hy, if_pos (by simp_all), ← List.append_assoc, sumV_app _ [y]]; simp [sumV]), rfl, trivial⟩, (by repeat (first | exact keeps_refl | refine keeps_upd rfl ?_ | refine keeps_loop rfl rfl ?_)), perm_eq (by dsimp only; rw [pos_snoc hy, if_pos (by simp_all)]; simp)⟩
     ·try simp at h6
      refine hw_skip ?_
      refine blockQ_n ?_
      refine seqQ_n ?_
      refine hw_reg1 ?_
      refine dp rfl (pop_add64 rfl rfl (by omega) (by omega)) ?_
      refine dp rfl (pop_move rfl) ?_
      refine dn ?_
      exact ⟨k + 1, _, ⟨by omega, trivial⟩, by dsimp only; omega, ⟨rfl, some_int (by rw [pos_snoc hy, if_neg (by omega)]; simp), rfl, trivial⟩, (by repeat (first | exact keeps_refl | refine keeps_upd rfl ?_ | refine keeps_loop rfl rfl ?_)), perm_eq (by dsimp only; rw [pos_snoc hy, if_neg (by omega)]; simp)⟩
    ·try simp at h4
     have hnk : C.length ≤ k := by omega
     obtain rfl : k = C.length := by omega
     refine hw_exit ?_
     refine seqQ_x ?_
     refine loopQ2_x ?_
     refine blockQ_eq ?_
     refine blockQ_n ?_
     refine seqQ_n ?_
     refine hw_reg1 ?_
     refine dp rfl (pop_add64 rfl rfl (by omega) (by omega)) ?_
     refine dp rfl (pop_move rfl) ?_
     refine dn ?_
     exact ⟨i + 1, _, ⟨by omega, trivial⟩, by dsimp only; omega, ⟨rfl, some_int (by rw [fieldedL_snoc _ hx, chosen_eq hN, hCd, List.take_length]), rfl, trivial⟩, (by repeat (first | exact keeps_refl | refine keeps_upd rfl ?_ | refine keeps_loop rfl rfl ?_)), perm_eq (by dsimp only; rw [fieldedL_snoc _ hx, chosen_eq hN, hCd, List.take_length])⟩
  ·try simp at h2
   have hni : p.length ≤ i := by omega
   obtain rfl : i = p.length := by omega
   refine hw_exit ?_
   refine seqQ_x ?_
   refine loopQ2_x ?_
   refine blockQ_eq ?_
   refine seqQ_n ?_
   rw [List.take_length]
   refine hw_reg ?_
   refine dp rfl (pop_move rfl) ?_
   refine de rfl (eop_callx (i := 0) ca114 rfl (WeakL.refl _) rfl (c_slices_Sort (l := (fieldedL (ofP l) p).map (·.Player)) (by have hb1 := field_bd (f := ofP l) (p := p) (i := p.length) (fun s m y => mem_chosen) hon hp hv; rw [List.take_length] at hb1; simp; omega)) ?_)
   rintro _ _ ⟨rfl, rfl⟩
   refine dn ?_
   refine hw_reg ?_
   refine dp rfl (pop_move rfl) ?_
   refine dp rfl (pop_move rfl) ?_
   refine dp rfl (pop_assign rfl) ?_
   refine dp rfl (pop_assign rfl) ?_
   refine dn ?_
   refine hw_ret ?_
   exact ret_fa (M := []) 5 rfl rfl rfl
end Go.Proofs.YtihpgpbbpklbbaaGreatDoor
end
section
namespace Go.Proofs.YtihpgpbbpklbbaaGreatDoor
open Go.HL
set_option maxRecDepth 100000
set_option linter.unusedVariables false
set_option linter.unusedSimpArgs false
/-- benchwarmer/value.Fielded -/
theorem c_value_Fielded [Tracks] {l : List Asset} {p : List HL.Place} (hl : l.length ≤ 11) (hp : p.length ≤ 1000000) : ConP Tryz.prog 39 [eAssets l, ePlaces p] (.tup [.int .i64 (if okAP l p != 0 then 0 else sumF l p), eSs (if okAP l p != 0 then [] else namesV (fieldedL (ofP l) p)), .int .i64 (okAP l p)]) := by
 refine Con.of_body Tryz.func39 rfl Tryz.ntmps39 rfl rfl ?_
 refine hw_reg ?_
 refine dp rfl (pop_assign rfl) ?_
 refine dp rfl (pop_assign rfl) ?_
 refine dp rfl (pop_assign rfl) ?_
 refine dn ?_
 refine hw_seq ?_
 refine hw_reg ?_
 refine dp rfl (pop_move rfl) ?_
 refine dp rfl (pop_call ca97 rfl (WeakL.refl _) (c_value_CheckAssets (by omega))) ?_
 refine dp rfl (pop_move rfl) ?_
 refine dp rfl (pop_call ca98 rfl (WeakL.refl _) (c_value_CheckPlaces (by assumption))) ?_
 refine dp rfl (pop_buildSlice (hs := [_, _]) ty124 ty33 rfl rfl (by decide) (by decide) rfl) ?_
 refine dp rfl (pop_call ca60 rfl (WeakL.refl _) (c_base_First (l := [_, _]) (by simp))) ?_
 refine dp rfl (pop_assign rfl) ?_
 refine dn ?_
 refine hw_reg ?_
 refine dp rfl (pop_move rfl) ?_
 refine dp rfl (pop_neq rfl rfl) ?_
 refine dn ?_
 refine hw_cond rfl (fun h1 => ?_) (fun h2 => ?_)
 ·try simp at h1
  refine hw_reg ?_
  refine dp rfl (pop_move rfl) ?_
  refine dp rfl (pop_assign rfl) ?_
  refine dp rfl (pop_assign rfl) ?_
  refine dp rfl (pop_assign rfl) ?_
  refine dn ?_
  refine hw_ret ?_
  (refine ret_w rfl (weak_tup3 ?_ ?_ (Weak.refl _))
   ·rw [if_pos (by simpa [okAP] using h1)]; exact Weak.refl _
   ·rw [if_pos (by simpa [okAP] using h1)]; exact weak_nil 1)
 ·try simp at h2
  refine hw_skip ?_
  refine seqQ_n ?_
  obtain ⟨hca0, hcp0⟩ := okAP_ok (l := l) (p := p) (by simpa [okAP] using h2)
  obtain ⟨hsr, haf⟩ := checkAssets_ok hca0
  obtain ⟨hmm, hp10⟩ := checkPlaces_ok hcp0
  have hvv : ∀ x ∈ l, -1000000 ≤ x.Value ∧ x.Value ≤ 1000000 := fun x hx => (assetFault_ok (haf x hx)).2.2
  refine hw_reg ?_
  refine dp rfl (pop_move rfl) ?_
  refine dp rfl (pop_move rfl) ?_
  refine dp rfl (pop_call ca99 rfl (WeakL.refl _) (c_value_fielded (by omega) (by assumption) (by simp_all) (by assumption))) ?_
  refine dp rfl (pop_move rfl) ?_
  refine dp rfl (pop_extract rfl rfl) ?_
  refine dp rfl (pop_extract rfl rfl) ?_
  refine dp rfl (pop_assign rfl) ?_
  refine dp rfl (pop_assign rfl) ?_
  refine dn ?_
  refine hw_reg ?_
  refine dp rfl (pop_move rfl) ?_
  refine dp rfl (pop_move rfl) ?_
  refine dp rfl (pop_assign rfl) ?_
  refine dp rfl (pop_assign rfl) ?_
  refine dp rfl (pop_assign rfl) ?_
  refine dn ?_
  refine hw_ret ?_
  (refine ret_p rfl ?_
   have h0 : okAP l p = 0 := by simpa [okAP] using h2
   simp [h0, sumF, ofVal, ofVal1])

/-- benchwarmer/benchref1.AssetsFault -/
theorem c_benchref1_AssetsFault [Tracks] {l : List Asset} (hl : l.length ≤ 1000000) (hs : ∀ x ∈ l, Sh x.Player ∧ Sh x.Position) : ConP Tryz.prog 33 [eAssets l] (.int .i64 (checkAssets l)) := by
 refine Con.of_body Tryz.func33 rfl Tryz.ntmps33 rfl rfl ?_
 refine hw_reg ?_
 refine dp rfl (pop_assign rfl) ?_
 refine dn ?_
 refine hw_seq ?_
 refine hw_reg ?_
 refine dp rfl (pop_move rfl) ?_
 refine dp rfl (pop_lenm ty63 rfl) ?_
 refine dp rfl (pop_gtr rfl rfl) ?_
 refine dn ?_
 refine hw_cond rfl (fun h1 => ?_) (fun h2 => ?_)
 ·try simp at h1
  refine hw_reg ?_
  refine dp rfl (pop_assign rfl) ?_
  refine dn ?_
  refine hw_ret ?_
  refine ret_p rfl ?_
  show HVal.int .i64 _ = _
  (rw [checkAssets, if_pos (by omega)]; done)
 ·try simp at h2
  refine hw_skip ?_
  refine seqQ_n ?_
  refine hw_seq ?_
  refine hw_reg ?_
  refine dp rfl (pop_move rfl) ?_
  refine dp rfl (pop_lenm ty63 rfl) ?_
  refine dp rfl (pop_move rfl) ?_
  refine dn ?_
  refine hw_block ?_
  refine hw_loopw [2, 3, 4, 10, 11, 12, 13, 14, 15, 16, 17, 18, 19, 20, 21, 22, 23, 24, 25, 26, 27, 28, 29, 30, 31, 32, 33, 34, 35, 36, 37, 38, 39, 40, 41, 42, 43, 44, 45] (fun (k : Nat) => [(10, .int .i64 k)]) (fun (k : Nat) => []) (fun (k : Nat) => k ≤ l.length ∧ (checkAssets l = assetsGo l k (l.drop k))) (fun (k : Nat) => l.length - k) (0) ?_ ?_ ?_ ?_
  ·refine ⟨Nat.zero_le _, ?_⟩
   rw [checkAssets, if_neg (by omega)]; rfl
  ·exact ⟨rfl, trivial⟩
  ·exact List.Perm.refl _
  ·intro k hinv
   obtain ⟨hk, hg⟩ := hinv
   refine hw_reg ?_
   refine dp rfl (pop_lss rfl rfl) ?_
   refine dn ?_
   refine hw_seq ?_
   refine hw_cond rfl (fun h3 => ?_) (fun h4 => ?_)
   ·try simp at h3
    obtain ⟨x, hx⟩ : ∃ x, l[k]? = some x := ⟨_, List.getElem?_eq_getElem h3⟩
    have hdx := drop_cons hx
    rw [hdx] at hg
    refine hw_skip ?_
    refine seqQ_n ?_
    refine hw_seq ?_
    refine hw_block ?_
    refine hw_reg ?_
    refine dp rfl (pop_move rfl) ?_
    refine dp rfl (pop_idx ty63 ty83 rfl rfl rfl (by assumption)) ?_
    refine dp rfl (pop_loadw ty83 rfl rfl rfl rfl) ?_
    refine de rfl (eop_alloc ty83 rfl fun b4 => ?_)
    refine dp rfl (pop_assign rfl) ?_
    refine de0 (eop_storew ty83 rfl rfl rfl rfl rfl ?_)
    refine dn ?_
    refine hw_ghost (Ghost.fc0 4 rfl) ?_
    refine hw_block ?_
    refine hw_reg ?_
    refine dp rfl (pop_fieldAddr ty83 rfl ty9 (by decide) rfl) ?_
    refine dp rfl (pop_load ty9 rfl rfl rfl) ?_
    refine dp rfl (pop_call ca57 rfl (WeakL.refl _) (c_benchref1_Key ((hs x (List.mem_of_getElem? hx)).1))) ?_
    refine dp rfl (pop_not rfl) ?_
    refine dp rfl (pop_move rfl) ?_
    refine dg rfl rfl (fun hc => ⟨_, OpenTo.refl _, pop_fieldAddr ty83 rfl ty9 (by decide) rfl⟩) ?_
    refine dg rfl rfl (fun hc => ⟨_, OpenTo.upd (t := 21) rfl (hc) (OpenTo.refl _), pop_load ty9 rfl rfl rfl⟩) ?_
    refine dg rfl rfl (fun hc => ⟨_, OpenTo.upd (t := 22) rfl (hc) (OpenTo.refl _), pop_call ca57 rfl (WeakL.refl _) (c_benchref1_Key ((hs x (List.mem_of_getElem? hx)).2))⟩) ?_
    refine dg rfl rfl (fun hc => ⟨_, OpenTo.upd (t := 23) rfl (hc) (OpenTo.refl _), pop_not rfl⟩) ?_
    refine dp rfl (pop_picko rfl (.inl rfl) (.inr ⟨_, rfl, fun h => by simp_all⟩)) ?_
    refine dp rfl (pop_assign rfl) ?_
    refine dn ?_
    refine hw_cond rfl (fun h5 => ?_) (fun h6 => ?_)
    ·try simp at h5
     refine hw_reg ?_
     refine dp rfl (pop_assign rfl) ?_
     refine dn ?_
     refine hw_ret ?_
     refine ret_p rfl ?_
     show HVal.int .i64 _ = _
     (rw [hg]; simp_all [assetsGo, leS, assetFault]; done)
    ·try simp at h6
     refine hw_reg ?_
     refine dp rfl (pop_fieldAddr ty83 rfl ty3 (by decide) rfl) ?_
     refine dp rfl (pop_load ty3 rfl rfl rfl) ?_
     refine dp rfl (pop_call ca87 rfl (WeakL.refl _) c_benchref1_in) ?_
     refine dp rfl (pop_not rfl) ?_
     refine dp rfl (pop_assign rfl) ?_
     refine dn ?_
     refine hw_cond rfl (fun h7 => ?_) (fun h8 => ?_)
     ·try simp at h7
      refine hw_reg ?_
      refine dp rfl (pop_assign rfl) ?_
      refine dn ?_
      refine hw_ret ?_
      refine ret_p rfl ?_
      show HVal.int .i64 _ = _
      (rw [hg]; simp_all [assetsGo, leS, assetFault]; done)
     ·try simp at h8
      refine hw_draw (fun _ => True) [] mixed ?_
      refine ahp 0 rfl rfl (by kernel_rfl) (by kernel_rfl) (pop_move rfl) ?_
      refine ahp 1 rfl rfl (by kernel_rfl) (by kernel_rfl) (pop_gtr rfl rfl) ?_
      refine ahp 2 rfl rfl (by kernel_rfl) (by kernel_rfl) (pop_move rfl) ?_
      refine ahg 3 rfl rfl (by kernel_rfl) (by kernel_rfl) rfl (fun hc => ⟨_, OpenTo.refl _, pop_fieldAddr ty83 rfl ty9 (by decide) rfl⟩) ?_
      refine ahg 4 rfl rfl (by kernel_rfl) (by kernel_rfl) rfl (fun hc => ⟨_, OpenTo.upd (t := 35) rfl (hc) (OpenTo.refl _), pop_load ty9 rfl rfl rfl⟩) ?_
      refine ahg 5 rfl rfl (by kernel_rfl) (by kernel_rfl) rfl (fun hc => ⟨_, OpenTo.refl _, pop_move rfl⟩) ?_
      refine ahg 6 rfl rfl (by kernel_rfl) (by kernel_rfl) rfl (fun hc => ⟨_, OpenTo.refl _, pop_move rfl⟩) ?_
      refine ahg 7 rfl rfl (by kernel_rfl) (by kernel_rfl) rfl (fun hc => by have hq := hc; (try simp at hq); exact ⟨_, OpenTo.upd (t := 38) rfl (hc) (OpenTo.refl _), pop_sub64 rfl rfl (by omega) (by omega)⟩) ?_
      refine ahg 8 rfl rfl (by kernel_rfl) (by kernel_rfl) rfl (fun hc => by have hq := hc; (try simp at hq); exact ⟨_, OpenTo.upd (t := 39) rfl (hc) (OpenTo.upd (t := 37) rfl (hc) (OpenTo.refl _)), pop_idx (j := k - 1) (a := l.getD (k - 1) asset0) ty63 ty83 rfl rfl (by omega) (getD_some (by omega))⟩) ?_
      refine ahg 9 rfl rfl (by kernel_rfl) (by kernel_rfl) rfl (fun hc => ⟨_, OpenTo.upd (t := 40) rfl (hc) (OpenTo.refl _), pop_fieldAddr ty83 rfl ty9 (by decide) rfl⟩) ?_
      refine ahg 10 rfl rfl (by kernel_rfl) (by kernel_rfl) rfl (fun hc => ⟨_, OpenTo.upd (t := 41) rfl (hc) (OpenTo.refl _), pop_load ty9 rfl rfl rfl⟩) ?_
      refine ahg 11 rfl rfl (by kernel_rfl) (by kernel_rfl) rfl (fun hc => ⟨_, OpenTo.upd (t := 42) rfl (hc) (OpenTo.upd (t := 36) rfl (hc) (OpenTo.refl _)), pop_leqs rfl rfl⟩) ?_
      refine ahp 12 rfl rfl (by kernel_rfl) (by kernel_rfl) (pop_picko rfl (.inr ⟨_, rfl, fun h => by simp_all⟩) (.inl rfl)) ?_
      refine ahp 13 rfl rfl (by kernel_rfl) (by kernel_rfl) (pop_assign rfl) ?_
      refine ahz (by kernel_rfl) ?_
      refine hw_cond rfl (fun h9 => ?_) (fun h10 => ?_)
      ·try simp at h9
       refine hw_reg ?_
       refine dp rfl (pop_assign rfl) ?_
       refine dn ?_
       refine hw_ret ?_
       refine ret_p rfl ?_
       show HVal.int .i64 _ = _
       (rw [hg]; simp_all [assetsGo, leS, assetFault]; done)
      ·try simp at h10
       refine hw_skip ?_
       refine blockQ_n ?_
       refine blockQ_n ?_
       refine seqQ_n ?_
       refine hw_reg1 ?_
       refine dp rfl (pop_add64 rfl rfl (by omega) (by omega)) ?_
       refine dp rfl (pop_move rfl) ?_
       refine dn ?_
       refine ⟨k + 1, ?_, ?_, ⟨rfl, trivial⟩, (by repeat (first | exact keeps_refl | refine keeps_upd rfl ?_ | refine keeps_loop rfl rfl ?_)), List.Perm.refl _⟩
       ·refine ⟨by omega, ?_⟩
        rw [hg]; simp_all [assetsGo, leS, assetFault]
       ·dsimp only; omega
   ·try simp at h4
    have hnk : l.length ≤ k := by omega
    obtain rfl : k = l.length := by omega
    rw [drop_all (Nat.le_refl _)] at hg
    refine hw_exit ?_
    refine seqQ_x ?_
    refine loopQ_x ?_
    refine blockQ_eq ?_
    refine seqQ_n ?_
    refine hw_reg ?_
    refine dp rfl (pop_assign rfl) ?_
    refine dn ?_
    refine hw_ret ?_
    refine ret_p rfl ?_
    show HVal.int .i64 _ = _
    (rw [hg]; simp_all [assetsGo, leS, assetFault]; done)

/-- benchwarmer/benchref1.PlacesFault -/
theorem c_benchref1_PlacesFault [Tracks] {l : List HL.Place} (hl : l.length ≤ 1000000) (hs : ∀ x ∈ l, Sh x.Position) : ConP Tryz.prog 34 [ePlaces l] (.int .i64 (checkPlaces l)) := by
 refine Con.of_body Tryz.func34 rfl Tryz.ntmps34 rfl rfl ?_
 refine hw_reg ?_
 refine dp rfl (pop_assign rfl) ?_
 refine dn ?_
 refine hw_seq ?_
 refine hw_reg ?_
 refine dp rfl (pop_move rfl) ?_
 refine dp rfl (pop_lenm ty65 rfl) ?_
 refine dp rfl (pop_gtr rfl rfl) ?_
 refine dn ?_
 refine hw_cond rfl (fun h1 => ?_) (fun h2 => ?_)
 ·try simp at h1
  refine hw_reg ?_
  refine dp rfl (pop_assign rfl) ?_
  refine dn ?_
  refine hw_ret ?_
  refine ret_p rfl ?_
  show HVal.int .i64 _ = _
  (rw [checkPlaces, if_pos (by omega)]; done)
 ·try simp at h2
  refine hw_skip ?_
  refine seqQ_n ?_
  refine hw_seq ?_
  refine hw_reg ?_
  refine dp rfl (pop_move rfl) ?_
  refine dp rfl (pop_lenm ty65 rfl) ?_
  refine dp rfl (pop_move rfl) ?_
  refine dn ?_
  refine hw_block ?_
  refine hw_loopw [2, 3, 4, 10, 11, 12, 13, 14, 15, 16, 17, 18, 19, 20, 21, 22, 23, 24, 25, 26, 27, 28, 29, 30, 31, 32, 33, 34, 35, 36, 37, 38, 39] (fun (k : Nat) => [(10, .int .i64 k)]) (fun (k : Nat) => []) (fun (k : Nat) => k ≤ l.length ∧ (checkPlaces l = placesGo l k (l.drop k))) (fun (k : Nat) => l.length - k) (0) ?_ ?_ ?_ ?_
  ·refine ⟨Nat.zero_le _, ?_⟩
   rw [checkPlaces, if_neg (by omega)]; rfl
  ·exact ⟨rfl, trivial⟩
  ·exact List.Perm.refl _
  ·intro k hinv
   obtain ⟨hk, hg⟩ := hinv
   refine hw_reg ?_
   refine dp rfl (pop_lss rfl rfl) ?_
   refine dn ?_
   refine hw_seq ?_
   refine hw_cond rfl (fun h3 => ?_) (fun h4 => ?_)
   ·try simp at h3
    obtain ⟨x, hx⟩ : ∃ x, l[k]? = some x := ⟨_, List.getElem?_eq_getElem h3⟩
    have hdx := drop_cons hx
    rw [hdx] at hg
    refine hw_skip ?_
    refine seqQ_n ?_
    refine hw_seq ?_
    refine hw_block ?_
    refine hw_reg ?_
    refine dp rfl (pop_move rfl) ?_
    refine dp rfl (pop_idx ty65 ty148 rfl rfl rfl (by assumption)) ?_
    refine dp rfl (pop_loadw ty148 rfl rfl rfl rfl) ?_
    refine de rfl (eop_alloc ty148 rfl fun b4 => ?_)
    refine dp rfl (pop_assign rfl) ?_
    refine de0 (eop_storew ty148 rfl rfl rfl rfl rfl ?_)
    refine dn ?_
    refine hw_ghost (Ghost.fc0 4 rfl) ?_
    refine hw_block ?_
    refine hw_reg ?_
    refine dp rfl (pop_fieldAddr ty148 rfl ty9 (by decide) rfl) ?_
    refine dp rfl (pop_load ty9 rfl rfl rfl) ?_
    refine dp rfl (pop_call ca57 rfl (WeakL.refl _) (c_benchref1_Key (hs x (List.mem_of_getElem? hx)))) ?_
    refine dp rfl (pop_not rfl) ?_
    refine dp rfl (pop_assign rfl) ?_
    refine dn ?_
    refine hw_cond rfl (fun h5 => ?_) (fun h6 => ?_)
    ·try simp at h5
     refine hw_reg ?_
     refine dp rfl (pop_assign rfl) ?_
     refine dn ?_
     refine hw_ret ?_
     refine ret_p rfl ?_
     show HVal.int .i64 _ = _
     (rw [hg]; simp_all [placesGo, leS]; done)
    ·try simp at h6
     refine hw_reg ?_
     refine dp rfl (pop_fieldAddr ty148 rfl ty3 (by decide) rfl) ?_
     refine dp rfl (pop_load ty3 rfl rfl rfl) ?_
     refine dp rfl (pop_call ca87 rfl (WeakL.refl _) c_benchref1_in) ?_
     refine dp rfl (pop_not rfl) ?_
     refine dp rfl (pop_assign rfl) ?_
     refine dn ?_
     refine hw_cond rfl (fun h7 => ?_) (fun h8 => ?_)
     ·try simp at h7
      refine hw_reg ?_
      refine dp rfl (pop_assign rfl) ?_
      refine dn ?_
      refine hw_ret ?_
      refine ret_p rfl ?_
      show HVal.int .i64 _ = _
      (rw [hg]; simp_all [placesGo, leS]; done)
     ·try simp at h8
      refine hw_draw (fun _ => True) [] mixed ?_
      refine ahp 0 rfl rfl (by kernel_rfl) (by kernel_rfl) (pop_move rfl) ?_
      refine ahp 1 rfl rfl (by kernel_rfl) (by kernel_rfl) (pop_gtr rfl rfl) ?_
      refine ahp 2 rfl rfl (by kernel_rfl) (by kernel_rfl) (pop_move rfl) ?_
      refine ahg 3 rfl rfl (by kernel_rfl) (by kernel_rfl) rfl (fun hc => ⟨_, OpenTo.refl _, pop_fieldAddr ty148 rfl ty9 (by decide) rfl⟩) ?_
      refine ahg 4 rfl rfl (by kernel_rfl) (by kernel_rfl) rfl (fun hc => ⟨_, OpenTo.upd (t := 29) rfl (hc) (OpenTo.refl _), pop_load ty9 rfl rfl rfl⟩) ?_
      refine ahg 5 rfl rfl (by kernel_rfl) (by kernel_rfl) rfl (fun hc => ⟨_, OpenTo.refl _, pop_move rfl⟩) ?_
      refine ahg 6 rfl rfl (by kernel_rfl) (by kernel_rfl) rfl (fun hc => ⟨_, OpenTo.refl _, pop_move rfl⟩) ?_
      refine ahg 7 rfl rfl (by kernel_rfl) (by kernel_rfl) rfl (fun hc => by have hq := hc; (try simp at hq); exact ⟨_, OpenTo.upd (t := 32) rfl (hc) (OpenTo.refl _), pop_sub64 rfl rfl (by omega) (by omega)⟩) ?_
      refine ahg 8 rfl rfl (by kernel_rfl) (by kernel_rfl) rfl (fun hc => by have hq := hc; (try simp at hq); exact ⟨_, OpenTo.upd (t := 33) rfl (hc) (OpenTo.upd (t := 31) rfl (hc) (OpenTo.refl _)), pop_idx (j := k - 1) (a := l.getD (k - 1) place0) ty65 ty148 rfl rfl (by omega) (getD_some (by omega))⟩) ?_
      refine ahg 9 rfl rfl (by kernel_rfl) (by kernel_rfl) rfl (fun hc => ⟨_, OpenTo.upd (t := 34) rfl (hc) (OpenTo.refl _), pop_fieldAddr ty148 rfl ty9 (by decide) rfl⟩) ?_
      refine ahg 10 rfl rfl (by kernel_rfl) (by kernel_rfl) rfl (fun hc => ⟨_, OpenTo.upd (t := 35) rfl (hc) (OpenTo.refl _), pop_load ty9 rfl rfl rfl⟩) ?_
      refine ahg 11 rfl rfl (by kernel_rfl) (by kernel_rfl) rfl (fun hc => ⟨_, OpenTo.upd (t := 36) rfl (hc) (OpenTo.upd (t := 30) rfl (hc) (OpenTo.refl _)), pop_leqs rfl rfl⟩) ?_
      refine ahp 12 rfl rfl (by kernel_rfl) (by kernel_rfl) (pop_picko rfl (.inr ⟨_, rfl, fun h => by simp_all⟩) (.inl rfl)) ?_
      refine ahp 13 rfl rfl (by kernel_rfl) (by kernel_rfl) (pop_assign rfl) ?_
      refine ahz (by kernel_rfl) ?_
      refine hw_cond rfl (fun h9 => ?_) (fun h10 => ?_)
      ·try simp at h9
       refine hw_reg ?_
       refine dp rfl (pop_assign rfl) ?_
       refine dn ?_
       refine hw_ret ?_
       refine ret_p rfl ?_
       show HVal.int .i64 _ = _
       (rw [hg]; simp_all [placesGo, leS]; done)
      ·try simp at h10
       refine hw_skip ?_
       refine blockQ_n ?_
       refine blockQ_n ?_
       refine seqQ_n ?_
       refine hw_reg1 ?_
       refine dp rfl (pop_add64 rfl rfl (by omega) (by omega)) ?_
       refine dp rfl (pop_move rfl) ?_
       refine dn ?_
       refine ⟨k + 1, ?_, ?_, ⟨rfl, trivial⟩, (by repeat (first | exact keeps_refl | refine keeps_upd rfl ?_ | refine keeps_loop rfl rfl ?_)), List.Perm.refl _⟩
       ·refine ⟨by omega, ?_⟩
        rw [hg]; simp_all [placesGo, leS]
       ·dsimp only; omega
   ·try simp at h4
    have hnk : l.length ≤ k := by omega
    obtain rfl : k = l.length := by omega
    rw [drop_all (Nat.le_refl _)] at hg
    refine hw_exit ?_
    refine seqQ_x ?_
    refine loopQ_x ?_
    refine blockQ_eq ?_
    refine seqQ_n ?_
    refine hw_reg ?_
    refine dp rfl (pop_assign rfl) ?_
    refine dn ?_
    refine hw_ret ?_
    refine ret_p rfl ?_
    show HVal.int .i64 _ = _
    (rw [hg]; simp_all [placesGo, leS]; done)
end Go.Proofs.YtihpgpbbpklbbaaGreatDoor
end
section
namespace Go.Proofs.YtihpgpbbpklbbaaGreatDoor
open Go.HL
set_option maxRecDepth 100000
set_option linter.unusedVariables false
set_option linter.unusedSimpArgs false

end Go.Proofs.YtihpgpbbpklbbaaGreatDoor
end
section
namespace Go.Proofs.YtihpgpbbpklbbaaGreatDoor
open Go.HL
set_option maxRecDepth 100000
set_option linter.unusedVariables false
set_option linter.unusedSimpArgs false

end Go.Proofs.YtihpgpbbpklbbaaGreatDoor
end
section
namespace Go.Proofs.YtihpgpbbpklbbaaGreatDoor
open Go.HL
set_option maxRecDepth 100000
set_option linter.unusedVariables false
set_option linter.unusedSimpArgs false

end Go.Proofs.YtihpgpbbpklbbaaGreatDoor
end
section
namespace Go.HL
def room1 : Room := ⟨[[97], [98]], 2, 2, [[112], [113], [114], [115]], 1000, 0⟩
theorem room1_ok : checkSwaps room1 [] = 0 := by kernel_rfl
theorem room1_turns : turnTeams room1 [] = [[97], [98], [98], [97]] := by kernel_rfl
end Go.HL
end
section
namespace Go.HL
open Op (bytesLess)
abbrev pick0 : Pick := ⟨0, [], [], 0, false⟩
theorem adj_pairwise {α : Type} {R : α → α → Prop} (tr : ∀ a b c, R a b → R b c → R a c) {l : List α} (h : ∀ (i : Nat) (a b : α), l[i]? = some a → l[i + 1]? = some b → R a b) : l.Pairwise R := by
 have key : ∀ (d i : Nat) (a b : α), l[i]? = some a → l[i + d + 1]? = some b → R a b := by
  intro d
  induction d with
  | zero => intro i a b ha hb; exact h i a b ha hb
  | succ d ih =>
    intro i a b ha hb
    have hlt := lt_of_get hb
    have hc := List.getElem?_eq_getElem (l := l) (i := i + d + 1) (by omega)
    exact tr _ _ _ (ih i a _ ha hc) (h (i + d + 1) _ b hc (by rw [show i + d + 1 + 1 = i + (d + 1) + 1 by omega]; exact hb))
 refine List.pairwise_iff_getElem.2 fun i j hi hj hij => ?_
 refine key (j - i - 1) i _ _ (List.getElem?_eq_getElem hi) ?_
 rw [show i + (j - i - 1) + 1 = j by omega]; exact List.getElem?_eq_getElem hj
theorem nodup_sub {α : Type} [DecidableEq α] : ∀ {l m : List α}, l.Nodup → (∀ x ∈ l, x ∈ m) → l.length ≤ m.length
 | [], _, _, _ => Nat.zero_le _
 | a :: l, m, h, hs => by
   have ha := hs a List.mem_cons_self
   obtain ⟨h1, h2⟩ := List.nodup_cons.1 h
   have h3 := nodup_sub (m := m.erase a) h2 fun x hx => (List.mem_erase_of_ne (fun e : x = a => h1 (by rw [← e]; exact hx))).2 (hs x (List.mem_cons_of_mem _ hx))
   rw [List.length_erase_of_mem ha] at h3
   have := List.length_pos_of_mem ha
   simp; omega
theorem pw_tri {α : Type} {R : α → α → Prop} : ∀ {l : List α}, l.Pairwise R → ∀ x ∈ l, ∀ y ∈ l, x = y ∨ R x y ∨ R y x
 | [], _, x, hx, _, _ => by simp at hx
 | a :: l, h, x, hx, y, hy => by
   obtain ⟨h1, h2⟩ := List.pairwise_cons.1 h
   rcases List.mem_cons.1 hx with e | hx' <;> rcases List.mem_cons.1 hy with e' | hy'
   ·exact .inl (e.trans e'.symm)
   ·exact .inr (.inl (e ▸ h1 y hy'))
   ·exact .inr (.inr (e' ▸ h1 x hx'))
   ·exact pw_tri h2 x hx' y hy'
/-! keeps that are right -/
def kLt (a b : Keep) : Prop := bytesLess a.Team b.Team = true ∨ (a.Team = b.Team ∧ a.Round < b.Round)
theorem kLt_trans (a b c : Keep) (h1 : kLt a b) (h2 : kLt b c) : kLt a c := by
 rcases h1 with h1 | ⟨e1, h1⟩ <;> rcases h2 with h2 | ⟨e2, h2⟩
 ·exact .inl (less_trans h1 h2)
 ·exact .inl (e2 ▸ h1)
 ·exact .inl (e1 ▸ h2)
 ·exact .inr ⟨e1.trans e2, by omega⟩
theorem kLt_of {a b : Keep} (h : ¬ orI [cmpS b.Team a.Team, cmpI b.Round a.Round] ≤ 0) : kLt a b := by
 rw [cmpS_eq] at h
 rcases less_total a.Team b.Team with h1 | h1 | h1
 ·exact .inl h1
 ·refine .inr ⟨h1, ?_⟩
  rw [h1] at h
  simp [less_irrefl, orI, cmpI] at h
  split at h
  ·omega
  ·split at h <;> omega
 ·rw [h1] at h; simp [orI] at h
structure KeepsOk (r : Room) (k : List Keep) : Prop where
 all : ∀ x ∈ k, x.Team ∈ r.Teams ∧ x.Player ∈ r.Players ∧ 1 ≤ x.Round ∧ x.Round ≤ r.Rounds
 lt : k.Pairwise kLt
theorem keepsGo_ok {r : Room} {l : List Keep} : ∀ (t : List Keep) (k : Nat) (kept : List Str) (tw : Bool), l.drop k = t → keepsGo r l k kept tw t = 0 →
 (∀ x ∈ t, x.Team ∈ r.Teams ∧ x.Player ∈ r.Players ∧ 1 ≤ x.Round ∧ x.Round ≤ r.Rounds) ∧ ∀ (i : Nat) (a b : Keep), k ≤ i + 1 → l[i]? = some a → l[i + 1]? = some b → kLt a b
 | [], k, kept, tw, hd, h => ⟨by simp, fun i a b hi ha hb => by
    have := lt_of_get hb
    have h2 : l.length ≤ k := by rw [← List.drop_eq_nil_iff]; exact hd
    omega⟩
 | x :: t, k, kept, tw, hd, h => by
   have hk : l[k]? = some x := by
    have := congrArg (fun q => q[0]?) hd
    simpa using this
   have hd' : l.drop (k + 1) = t := by
    have := drop_cons hk
    rw [hd] at this; simp at this; exact this.symm
   simp only [keepsGo] at h
   split at h
   ·omega
   ·rename_i h1
    split at h
    ·omega
    ·rename_i h2
     split at h
     ·omega
     ·rename_i h3
      obtain ⟨h4, h5⟩ := keepsGo_ok t (k + 1) _ _ hd' h
      have h2' := out_f (by simpa using h2)
      refine ⟨fun y hy => ?_, fun i a b hi ha hb => ?_⟩
      ·rcases List.mem_cons.1 hy with rfl | hy
       ·simp at h1; exact ⟨h1.1, h1.2, h2'⟩
       ·exact h4 y hy
      ·by_cases e : k = i + 1
       ·subst e
        rw [hk] at hb; cases hb
        refine kLt_of fun hc => h3 ?_
        simp [List.getD, ha]; exact hc
       ·exact h5 i a b (by omega) ha hb
theorem checkKeeps_good {r : Room} {k : List Keep} (h : checkKeeps r k = 0) : KeepsOk r k := by
 unfold checkKeeps at h
 split at h
 ·rename_i hc; simp [h] at hc
 ·split at h
  ·omega
  ·obtain ⟨h1, h2⟩ := keepsGo_ok k 0 [] false rfl h
   exact ⟨h1, adj_pairwise kLt_trans fun i a b => h2 i a b (by omega)⟩
theorem risingGo_key {l : List Str} : ∀ (r : List Str) (k : Nat), risingGo l k r = 0 → ∀ s ∈ r, key s = true
 | [], _, _, s, hs => by simp at hs
 | x :: r, k, h, s, hs => by
   simp only [risingGo] at h
   split at h
   ·omega
   ·rename_i h1
    split at h
    ·omega
    ·rcases List.mem_cons.1 hs with rfl | hs
     ·simpa using h1
     ·exact risingGo_key r (k + 1) h s hs
structure RoomOk (r : Room) : Prop where
 sorted : SortedS r.Players
 t20 : r.Teams.length ≤ 20
 t0 : 0 < r.Teams.length
 r1 : 1 ≤ r.Rounds
 r30 : r.Rounds ≤ 30
 p500 : r.Players.length ≤ 500
 ne : ∀ s ∈ r.Players, s ≠ []
 many : (r.Teams.length : Int) * r.Rounds ≤ r.Players.length
 clock : 1000 ≤ r.Clock ∧ r.Clock ≤ 86400000
 start : moment r.Start = true
theorem room_ok {r : Room} (h : checkRoom r = 0) : RoomOk r := by
 obtain ⟨a1, a2, a3, a4, a5, a6⟩ := checkRoom_ok h
 unfold checkRoom at h
 split at h
 ·rename_i hc; simp [h] at hc
 ·split at h
  ·omega
  ·split at h
   ·omega
   ·split at h
    ·rename_i hc; simp [h] at hc
    ·rename_i hp
     split at h
     ·omega
     ·rename_i hcl
      split at h
      ·omega
      ·rename_i hm
       simp at hcl hp
       refine ⟨a1, a2, a3, a4, a5, a6, fun s hs e => ?_, by omega, out_f hcl.1, hcl.2⟩
       unfold playersFault at hp
       split at hp
       ·omega
       ·have := risingGo_key _ 0 hp s hs
        subst e; simp [key, keyHd] at this
theorem sorted_nodup {l : List Str} (h : SortedS l) : l.Nodup :=
 List.Pairwise.imp (fun {a b} hab e => by subst e; rw [less_irrefl] at hab; cases hab) h
/-! turns -/
theorem mem_turnsFrom {r : Room} {s : List Swap} {t : Str} (ht : t ∈ r.Teams) : ∀ (n : Nat) (rd : Int), 1 ≤ rd → rd ≤ n → ∃ x ∈ turnsFrom r s n, x.of = t ∧ x.round = rd
 | 0, rd, h1, h2 => by omega
 | n + 1, rd, h1, h2 => by
   by_cases e : rd = (n : Int) + 1
   ·refine ⟨⟨rd, t, owner rd t s⟩, ?_, rfl, rfl⟩
    simp only [turnsFrom, List.mem_append]
    right
    subst e
    unfold roundTurns
    refine List.mem_map.2 ⟨t, ?_, rfl⟩
    split
    ·exact List.mem_reverse.2 ht
    ·exact ht
   ·obtain ⟨x, hx, h3⟩ := mem_turnsFrom ht n rd h1 (by omega)
    exact ⟨x, by simp only [turnsFrom, List.mem_append]; exact .inl hx, h3⟩
def fits (t : Turn) (x : Keep) : Bool := decide (x.Team = t.of ∧ x.Round = t.round)
theorem keepIn_fix (r : Room) (t : Turn) : ∀ (k : List Keep) (p : Pick), (keepIn r t p k).No = p.No ∧ (keepIn r t p k).Team = p.Team
 | [], p => ⟨rfl, rfl⟩
 | x :: k, p => by
   obtain ⟨h1, h2⟩ := keepIn_fix r t k (if x.Team = t.of ∧ x.Round = t.round then { p with Player := x.Player, At := r.Start } else p)
   simp only [keepIn]; rw [h1, h2]
   split <;> exact ⟨rfl, rfl⟩
theorem keepIn_mem (r : Room) (t : Turn) : ∀ (k : List Keep) (p : Pick), (keepIn r t p k).Player = p.Player ∨ ∃ x ∈ k, fits t x = true ∧ (keepIn r t p k).Player = x.Player
 | [], p => .inl rfl
 | x :: k, p => by
   simp only [keepIn]
   rcases keepIn_mem r t k (if x.Team = t.of ∧ x.Round = t.round then { p with Player := x.Player, At := r.Start } else p) with h | ⟨y, hy, h1, h2⟩
   ·by_cases e : x.Team = t.of ∧ x.Round = t.round
    ·rw [if_pos e] at h ⊢
     exact .inr ⟨x, List.mem_cons_self, by simp [fits, e], h⟩
    ·rw [if_neg e] at h ⊢
     exact .inl h
   ·exact .inr ⟨y, List.mem_cons_of_mem _ hy, h1, h2⟩
theorem keepIn_none (r : Room) (t : Turn) : ∀ (k : List Keep) (p : Pick), k.any (fits t) = false → keepIn r t p k = p
 | [], p, _ => rfl
 | x :: k, p, h => by
   simp only [List.any_cons, Bool.or_eq_false_iff] at h
   have e : ¬ (x.Team = t.of ∧ x.Round = t.round) := by simpa [fits] using h.1
   simp only [keepIn]; rw [if_neg e]; exact keepIn_none r t k p h.2
theorem keepIn_one (r : Room) (t : Turn) {x : Keep} : ∀ (k : List Keep) (p : Pick), x ∈ k → fits t x = true → (∀ y ∈ k, fits t y = true → y.Player = x.Player) → (keepIn r t p k).Player = x.Player
 | [], p, hx, _, _ => by simp at hx
 | y :: k, p, hx, hf, hu => by
   simp only [keepIn]
   by_cases e : y.Team = t.of ∧ y.Round = t.round
   ·have hy := hu y List.mem_cons_self (by simp [fits, e])
    rw [if_pos e]
    rcases keepIn_mem r t k { p with Player := y.Player, At := r.Start } with h | ⟨z, hz, h1, h2⟩
    ·rw [h]; exact hy
    ·rw [h2]; exact hu z (List.mem_cons_of_mem _ hz) h1
   ·rw [if_neg e]
    rcases List.mem_cons.1 hx with rfl | hx
    ·exact absurd (by simpa [fits] using hf) e
    ·exact keepIn_one r t k p hx hf fun z hz => hu z (List.mem_cons_of_mem _ hz)
theorem KeepsOk.one {r : Room} {k : List Keep} (h : KeepsOk r k) {t : Turn} {x y : Keep} (hx : x ∈ k) (hy : y ∈ k) (fx : fits t x = true) (fy : fits t y = true) : y = x := by
 simp [fits] at fx fy
 rcases pw_tri h.lt x hx y hy with e | e | e
 ·exact e.symm
 ·exfalso
  rcases e with e | ⟨e1, e2⟩
  ·rw [fx.1, fy.1, less_irrefl] at e; cases e
  ·omega
 ·exfalso
  rcases e with e | ⟨e1, e2⟩
  ·rw [fx.1, fy.1, less_irrefl] at e; cases e
  ·omega
theorem keepIn_free {r : Room} {k : List Keep} (h : KeepsOk r k) (hne : ∀ s ∈ r.Players, s ≠ []) (t : Turn) (p : Pick) (hp : p.Player = []) : ((keepIn r t p k).Player == []) = !(k.any (fits t)) := by
 cases hq : k.any (fits t) with
 | false => rw [keepIn_none r t k p hq, hp]; rfl
 | true =>
   obtain ⟨x, hx, hf⟩ := List.any_eq_true.1 hq
   rw [keepIn_one r t k p hx hf fun y hy hfy => by rw [h.one hx hy hf hfy]]
   have := hne _ (h.all x hx).2.1
   simpa using this
def freeP (r : Room) (k : List Keep) (s : List Swap) : List Pick := (open1 r k s).filter fun p => p.Player == []
theorem openFrom_free {r : Room} {k : List Keep} (h : KeepsOk r k) (hne : ∀ s ∈ r.Players, s ≠ []) : ∀ (l : List Turn) (i : Nat), ((openFrom r k i l).filter fun p => p.Player == []).length + (l.filter fun t => k.any (fits t)).length = l.length
 | [], i => rfl
 | t :: l, i => by
   have ih := openFrom_free h hne l (i + 1)
   simp only [openFrom, List.filter_cons, keepIn_free h hne t ⟨i, t.team, [], 0, false⟩ rfl, List.length_cons]
   cases k.any (fits t) <;> simp only [Bool.not_true, Bool.not_false, Bool.false_eq_true, if_true, if_false, List.length_cons] <;> omega
theorem free_len {r : Room} {k : List Keep} {s : List Swap} (h : openFault r k s = 0) : (freeP r k s).length + k.length ≤ (turns r s).length := by
 obtain ⟨h1, _, h3⟩ := openFault_ok h
 have hk := checkKeeps_good h3
 have hr := room_ok h1
 have e := openFrom_free hk hr.ne (turns r s) 0
 have hs : (k.map fun x => (x.Team, x.Round)).length ≤ (((turns r s).filter fun t => k.any (fits t)).map fun t => (t.of, t.round)).length := by
  refine nodup_sub ?_ fun q hq => ?_
  ·refine List.pairwise_map.2 (hk.lt.imp fun {a b} hab e => ?_)
   injection e with e1 e2
   rcases hab with hab | ⟨_, hab⟩
   ·rw [e1, less_irrefl] at hab; cases hab
   ·omega
  ·obtain ⟨x, hx, rfl⟩ := List.mem_map.1 hq
   obtain ⟨a1, _, a3, a4⟩ := hk.all x hx
   obtain ⟨t, ht, b1, b2⟩ := mem_turnsFrom (s := s) a1 r.Rounds.toNat x.Round a3 (by omega)
   refine List.mem_map.2 ⟨t, List.mem_filter.2 ⟨ht, List.any_eq_true.2 ⟨x, hx, by simp [fits, b1, b2]⟩⟩, by rw [b1, b2]⟩
 simp only [List.length_map] at hs
 unfold freeP open1
 omega
/-! who is left -/
def goneB (k : List Keep) (l : List Pick) (s : Str) : Bool := k.any (fun x => x.Player == s) || l.any (fun p => p.Player == s)
def leftL (r : Room) (k : List Keep) (l : List Pick) : List Str := r.Players.filter fun s => !(goneB k l s)
theorem left_len {r : Room} {k : List Keep} {l : List Pick} (hs : SortedS r.Players) : r.Players.length ≤ (leftL r k l).length + k.length + l.length := by
 have h1 : (r.Players.filter (goneB k l)).length ≤ (k.map (·.Player) ++ l.map (·.Player)).length := by
  refine nodup_sub ((sorted_nodup hs).sublist List.filter_sublist) fun s h => ?_
  have := (List.mem_filter.1 h).2
  simp only [goneB, Bool.or_eq_true, List.any_eq_true, beq_iff_eq] at this
  rcases this with ⟨x, hx, e⟩ | ⟨x, hx, e⟩
  ·exact List.mem_append_left _ (List.mem_map.2 ⟨x, hx, e⟩)
  ·exact List.mem_append_right _ (List.mem_map.2 ⟨x, hx, e⟩)
 have h2 : ∀ (p : Str → Bool) (q : List Str), (q.filter fun s => !(p s)).length + (q.filter p).length = q.length := fun p q => by
  induction q with
  | nil => rfl
  | cons a q ih => simp only [List.filter_cons]; cases p a <;> simp <;> omega
 have := h2 (goneB k l) r.Players
 rw [List.length_append, List.length_map, List.length_map] at h1
 unfold leftL
 omega
theorem turns_many {r : Room} {s : List Swap} (h : RoomOk r) : (turns r s).length ≤ r.Players.length := by
 unfold turns; rw [turnsFrom_len]
 have := h.many
 have e : ((r.Rounds.toNat * r.Teams.length : Nat) : Int) = (r.Teams.length : Int) * r.Rounds := by
  rw [Int.natCast_mul, Int.toNat_of_nonneg (by have := h.r1; omega), Int.mul_comm]
 omega
theorem left_ne {r : Room} {k : List Keep} {s : List Swap} {l : List Pick} (h : openFault r k s = 0) (hl : l.length < (freeP r k s).length) : 0 < (leftL r k l).length := by
 have hr := room_ok (openFault_ok h).1
 have h1 := free_len h
 have h2 := left_len (k := k) (l := l) hr.sorted
 have h3 := turns_many (s := s) hr
 omega
end Go.HL
end
section
namespace Go.HL
def lastAt (r : Room) (l : List Pick) : Int := match l.getLast? with | some p => p.At | none => r.Start
def pkF (r : Room) (k : List Keep) (fr l : List Pick) (p : Pick) : Int :=
 if !(moment p.At) then 1 else if !(p.No == (fr.getD l.length pick0).No) then 7 else if !(p.Team == (fr.getD l.length pick0).Team) then 13
 else if !(r.Players.contains p.Player) then 8 else if goneB k l p.Player then 6 else if p.At < lastAt r l then 11 else 0
def pksGo (r : Room) (k : List Keep) (fr l : List Pick) : Nat → List Pick → Int
 | _, [] => 0
 | i, p :: t => if pkF r k fr (l.take i) p != 0 then pkF r k fr (l.take i) p else pksGo r k fr l (i + 1) t
def pksR (r : Room) (k : List Keep) (s : List Swap) (l : List Pick) : Int := if (freeP r k s).length < l.length then 2 else pksGo r k (freeP r k s) l 0 l
def picksE (r : Room) (k : List Keep) (s : List Swap) (l : List Pick) : Int := if openFault r k s != 0 then openFault r k s else pksR r k s l
theorem pgo_ne {r : Room} {k : List Keep} {fr l : List Pick} {i : Nat} {p : Pick} {t : List Pick} (h : pkF r k fr (l.take i) p ≠ 0) : pksGo r k fr l i (p :: t) = pkF r k fr (l.take i) p := by
 rw [pksGo, if_pos (by simpa using h)]
theorem pgo_z {r : Room} {k : List Keep} {fr l : List Pick} {i : Nat} {p : Pick} {t : List Pick} (h : pkF r k fr (l.take i) p = 0) : pksGo r k fr l i (p :: t) = pksGo r k fr l (i + 1) t := by
 rw [pksGo, if_neg (by simp [h])]
section
variable {r : Room} {k : List Keep} {fr l : List Pick} {p : Pick}
theorem pf0 (h1 : moment p.At = true) (h2 : p.No = (fr.getD l.length pick0).No) (h3 : p.Team = (fr.getD l.length pick0).Team) (h4 : p.Player ∈ r.Players) (h5 : goneB k l p.Player = false) (h6 : ¬ p.At < lastAt r l) : pkF r k fr l p = 0 := by
 unfold pkF; rw [if_neg (by simp [h1]), if_neg (by simpa using h2), if_neg (by simpa using h3), if_neg (by simpa using h4), if_neg (by simp [h5]), if_neg h6]
theorem pkF_ok (h : pkF r k fr l p = 0) : moment p.At = true ∧ p.No = (fr.getD l.length pick0).No ∧ p.Team = (fr.getD l.length pick0).Team ∧ p.Player ∈ r.Players ∧ goneB k l p.Player = false := by
 unfold pkF at h
 split at h
 ·omega
 ·rename_i h1
  split at h
  ·omega
  ·rename_i h2
   split at h
   ·omega
   ·rename_i h3
    split at h
    ·omega
    ·rename_i h4
     split at h
     ·omega
     ·rename_i h5
      simp at h1 h2 h3 h4 h5
      exact ⟨h1, h2, h3, h4, h5⟩
end
theorem picksE_ok {r : Room} {k : List Keep} {s : List Swap} {l : List Pick} (h : picksE r k s l = 0) : openFault r k s = 0 ∧ l.length ≤ (freeP r k s).length ∧ pksGo r k (freeP r k s) l 0 l = 0 := by
 unfold picksE at h
 split at h
 ·rename_i hc; simp [h] at hc
 ·rename_i hc
  unfold pksR at h
  split at h
  ·omega
  ·exact ⟨by simpa using hc, by omega, h⟩
theorem pksGo_at {r : Room} {k : List Keep} {fr l : List Pick} : ∀ (t : List Pick) (i : Nat), l.drop i = t → pksGo r k fr l i t = 0 → ∀ (j : Nat) (p : Pick), i ≤ j → l[j]? = some p → pkF r k fr (l.take j) p = 0
 | [], i, hd, _, j, p, hj, hp => by
   have := lt_of_get hp
   have h2 : l.length ≤ i := by rw [← List.drop_eq_nil_iff]; exact hd
   omega
 | x :: t, i, hd, h, j, p, hj, hp => by
   have hk : l[i]? = some x := by
    have := congrArg (fun q => q[0]?) hd
    simpa using this
   have hd' : l.drop (i + 1) = t := by
    have := drop_cons hk
    rw [hd] at this; simp at this; exact this.symm
   by_cases e : pkF r k fr (l.take i) x = 0
   ·rw [pgo_z e] at h
    by_cases hij : i = j
    ·subst hij; rw [hk] at hp; cases hp; exact e
    ·exact pksGo_at t (i + 1) hd' h j p (by omega) hp
   ·rw [pgo_ne e] at h; exact absurd h e
structure Wish where
 Team : Str
 Players : List Str
/-- whom a team would pick of those who are not gone -/
def wishGo (g : Str → Bool) (team : Str) : List Wish → Option Str
 | [] => none
 | y :: r => if y.Team = team then (match y.Players.find? (fun s => !(g s)) with | some s => some s | none => wishGo g team r) else wishGo g team r
def wishOf (r : Room) (g : Str → Bool) (w : List Wish) (team : Str) : Str := match wishGo g team w with | some s => s | none => (r.Players.find? (fun s => !(g s))).getD []
theorem find_mem {p : Str → Bool} {l : List Str} {s : Str} (h : l.find? p = some s) : s ∈ l ∧ p s = true := ⟨List.mem_of_find?_eq_some h, List.find?_some h⟩
/-! picks by lists -/
def autoP (r : Room) (k : List Keep) (fr : List Pick) (w : List Wish) (l : List Pick) (at' : Int) : Pick :=
 ⟨(fr.getD l.length pick0).No, (fr.getD l.length pick0).Team, wishOf r (goneB k l) w (fr.getD l.length pick0).Team, at', true⟩
def dueB (r : Room) (l : List Pick) (at' : Int) : Bool := moment (lastAt r l + r.Clock) && decide (lastAt r l + r.Clock ≤ at')
theorem goneB_snoc (k : List Keep) (l : List Pick) (p : Pick) (s : Str) : goneB k (l ++ [p]) s = (goneB k l s || p.Player == s) := by
 simp [goneB, Bool.or_assoc]
/-! what a run holds -/
structure RunOk (r : Room) (k : List Keep) (s : List Swap) (l : List Pick) (S : List Str) : Prop where
 gone : ∀ x ∈ r.Players, S.contains x = goneB k l x
theorem RunOk.add {r : Room} {k : List Keep} {s : List Swap} {l : List Pick} {S : List Str} (ok : RunOk r k s l S) (p : Pick) : RunOk r k s (l ++ [p]) (sadd p.Player S) :=
 ⟨fun x hx => by rw [goneB_snoc, sadd_contains, ok.gone x hx]⟩
end Go.HL
end
section
namespace Go.HL
section
variable {r : Room} {w : List Wish} {k : Nat} {x : Wish} {t : List Wish}
end
end Go.HL
end
section
namespace Go.Proofs.YtihpgpbbpklbbaaGreatDoor
open Go.HL
set_option maxRecDepth 100000
set_option linter.unusedVariables false
set_option linter.unusedSimpArgs false

end Go.Proofs.YtihpgpbbpklbbaaGreatDoor
end
section
namespace Go.Proofs.YtihpgpbbpklbbaaGreatDoor
open Go.HL
set_option maxRecDepth 100000
set_option linter.unusedVariables false
set_option linter.unusedSimpArgs false

end Go.Proofs.YtihpgpbbpklbbaaGreatDoor
end
section
namespace Go.Proofs.YtihpgpbbpklbbaaGreatDoor
open Go.HL
set_option maxRecDepth 100000
set_option linter.unusedVariables false
set_option linter.unusedSimpArgs false
/-- strconv.Itoa of any number -/
theorem c_Itoa [Tracks] {n : Int} (h0 : -9223372036854775808 ≤ n) (h1 : n ≤ 9223372036854775807) : ConP Tryz.prog 85 [.int .i64 n] (.str (Lib.itoa n)) :=
 conp_itoa (by kernel_rfl) fun w ht => Any.strconv_Itoa Tryz.laysm171 n h0 h1 w ht
end Go.Proofs.YtihpgpbbpklbbaaGreatDoor
end
section
namespace Go.Proofs.YtihpgpbbpklbbaaGreatDoor
open Go.HL
set_option maxRecDepth 100000
set_option linter.unusedVariables false
set_option linter.unusedSimpArgs false

end Go.Proofs.YtihpgpbbpklbbaaGreatDoor
end
section
namespace Go.Proofs.YtihpgpbbpklbbaaGreatDoor
open Go.HL
set_option maxRecDepth 100000
set_option linter.unusedVariables false
set_option linter.unusedSimpArgs false

end Go.Proofs.YtihpgpbbpklbbaaGreatDoor
end
section
namespace Go.Proofs.YtihpgpbbpklbbaaGreatDoor
open Go.HL
set_option maxRecDepth 100000
set_option linter.unusedVariables false
set_option linter.unusedSimpArgs false

end Go.Proofs.YtihpgpbbpklbbaaGreatDoor
end
section
namespace Go.Proofs.YtihpgpbbpklbbaaGreatDoor
open Go.HL
set_option maxRecDepth 100000
set_option linter.unusedVariables false
set_option linter.unusedSimpArgs false
end Go.Proofs.YtihpgpbbpklbbaaGreatDoor
end
section
namespace Go.Proofs.YtihpgpbbpklbbaaGreatDoor
open Go.HL
set_option maxRecDepth 100000
set_option linter.unusedVariables false
set_option linter.unusedSimpArgs false

end Go.Proofs.YtihpgpbbpklbbaaGreatDoor
end
section
namespace Go.HL
section
variable {r : Room} {k : List Keep} {s : List Swap} {l : List Pick} {w : List Wish} {n : Int}
end
end Go.HL
end
section
namespace Go.HL
section
variable {r : Room} {k : List Keep} {s : List Swap} {l : List Pick}
def putNo (A : List Pick) (p : Pick) : List Pick := A.set p.No.toNat p
def NoInc (A : List Pick) : Prop := ∀ (i : Nat) (p : Pick), A[i]? = some p → p.No = (i : Int)
theorem openFrom_no : ∀ (t : List Turn) (i j : Nat) (p : Pick), (openFrom r k i t)[j]? = some p → p.No = ((i + j : Nat) : Int)
 | [], i, j, p, h => by simp [openFrom] at h
 | x :: t, i, 0, p, h => by
   simp only [openFrom, List.getElem?_cons_zero, Option.some.injEq] at h
   subst h; rw [(keepIn_fix r x k _).1]; rfl
 | x :: t, i, j + 1, p, h => by
   simp only [openFrom, List.getElem?_cons_succ] at h
   rw [openFrom_no t (i + 1) j p h]; congr 1; omega
theorem open_no : NoInc (open1 r k s) := fun i p h => by
 have := openFrom_no _ 0 i p h
 rw [this]; congr 1; omega
theorem NoInc.pw {A : List Pick} (h : NoInc A) : A.Pairwise fun a b => a.No < b.No :=
 List.pairwise_iff_getElem.2 fun i j hi hj hij => by
  rw [h i _ (List.getElem?_eq_getElem hi), h j _ (List.getElem?_eq_getElem hj)]; omega
theorem NoInc.put {A : List Pick} (h : NoInc A) {p : Pick} (hp : 0 ≤ p.No) : NoInc (putNo A p) := fun i x hx => by
 unfold putNo at hx
 by_cases e : p.No.toNat = i
 ·subst e
  have hlt := lt_of_get hx
  rw [List.length_set] at hlt
  rw [List.getElem?_set_self hlt] at hx; cases hx; omega
 ·rw [List.getElem?_set_ne e] at hx; exact h i x hx
theorem filter_set {α : Type} (q : α → Bool) {x y : α} (hx : q x = true) (hy : q y = false) : ∀ {A : List α} {j : Nat}, A[j]? = some y → ((A.set j x).filter q).Perm (A.filter q ++ [x])
 | [], j, h => by simp at h
 | a :: A, 0, h => by
   simp at h; subst h
   simp only [List.set_cons_zero, List.filter_cons, hx, hy, if_true, Bool.false_eq_true, if_false]
   exact (List.perm_append_comm (l₁ := [x]))
 | a :: A, j + 1, h => by
   simp only [List.getElem?_cons_succ] at h
   have := filter_set q hx hy h
   simp only [List.set_cons_succ, List.filter_cons]
   split
   ·exact this.cons a
   ·exact this
def isP (p : Pick) : Bool := !(p.Player == [])
structure AllOk (r : Room) (k : List Keep) (s : List Swap) (l : List Pick) (i : Nat) (A : List Pick) : Prop where
 inc : NoInc A
 len : A.length = (open1 r k s).length
 free : ∀ (j : Nat) (p : Pick), i ≤ j → (freeP r k s)[j]? = some p → A[p.No.toNat]? = some p
 perm : (A.filter isP).Perm ((open1 r k s).filter isP ++ l.take i)
theorem free_mem {j : Nat} {p : Pick} (h : (freeP r k s)[j]? = some p) : p ∈ open1 r k s ∧ p.Player = [] := by
 have := List.mem_filter.1 (List.mem_of_getElem? h)
 exact ⟨this.1, by simpa using this.2⟩
theorem free_at {j : Nat} {p : Pick} (h : (freeP r k s)[j]? = some p) : 0 ≤ p.No ∧ (open1 r k s)[p.No.toNat]? = some p := by
 obtain ⟨m, hm⟩ := List.getElem?_of_mem (free_mem h).1
 have := open_no m p hm
 exact ⟨by omega, by rw [this]; simpa using hm⟩
theorem pick_at (h : picksE r k s l = 0) {i : Nat} {x : Pick} (hx : l[i]? = some x) : ∃ p, (freeP r k s)[i]? = some p ∧ x.No = p.No ∧ x.Player ≠ [] := by
 obtain ⟨h1, h2, h3⟩ := picksE_ok h
 have hi := lt_of_get hx
 obtain ⟨_, a2, _, a4, _⟩ := pkF_ok (pksGo_at l 0 rfl h3 i x (Nat.zero_le _) hx)
 have hg := getD_some (d := pick0) (show i < (freeP r k s).length by omega)
 refine ⟨_, hg, ?_, (room_ok (openFault_ok h1).1).ne _ a4⟩
 rw [a2]; congr 2; simp; omega
theorem AllOk.step (h : picksE r k s l = 0) {i : Nat} {x : Pick} (hx : l[i]? = some x) {A : List Pick} (ok : AllOk r k s l i A) : AllOk r k s l (i + 1) (putNo A x) ∧ 0 ≤ x.No ∧ x.No.toNat < A.length ∧ ∃ y, A[x.No.toNat]? = some y := by
 obtain ⟨p, hp, hn, hpl⟩ := pick_at h hx
 obtain ⟨n0, _⟩ := free_at hp
 have hA := ok.free i p (Nat.le_refl _) hp
 have hlt := lt_of_get hA
 refine ⟨⟨ok.inc.put (by omega), by unfold putNo; rw [List.length_set]; exact ok.len, fun j q hj hq => ?_, ?_⟩, by omega, by rw [hn]; exact hlt, p, by rw [hn]; exact hA⟩
 ·have hq1 := ok.free j q (by omega) hq
  have hne : p.No < q.No := by
   have hpw : (freeP r k s).Pairwise fun a b => a.No < b.No := (open_no (r := r) (k := k) (s := s)).pw.sublist List.filter_sublist
   obtain ⟨hi', e1⟩ := List.getElem?_eq_some_iff.1 hp
   obtain ⟨hj', e2⟩ := List.getElem?_eq_some_iff.1 hq
   have := List.pairwise_iff_getElem.1 hpw i j hi' hj' (by omega)
   rw [e1, e2] at this; exact this
  unfold putNo
  rw [List.getElem?_set_ne (by omega)]; exact hq1
 ·have hf := filter_set isP (x := x) (y := p) (by unfold isP; simpa using hpl) (by unfold isP; simp [(free_mem hp).2]) hA
  unfold putNo
  rw [hn, take_snoc' hx, ← List.append_assoc]
  exact hf.trans (ok.perm.append_right _)
end
end Go.HL
end
section
namespace Go.HL
section
variable {P : Program} {e : Env} {dst : Option Tmp} {ty : TypeId} {pos : String} {af : Array Edge} {g : Option (Nat × Bool)} {M : List MObj} {K : HVal → List MObj → Prop}
end
end Go.HL
end
section
namespace Go.Proofs.YtihpgpbbpklbbaaGreatDoor
open Go.HL
set_option maxRecDepth 100000
set_option linter.unusedVariables false
set_option linter.unusedSimpArgs false

end Go.Proofs.YtihpgpbbpklbbaaGreatDoor
end
section
namespace Go.HL
def goalS : Str := [103, 111, 97, 108]
def play1 : Play := ⟨[115], 1, 0, 1, [109], [112], goalS, 2, 0⟩
def line1 : LineS := ⟨[112], 1, [⟨goalS, 2⟩]⟩
theorem ready_ln : lnGo [play1] [[115]] 1 5 [play1] = ⟨[[112]], [(([112], goalS), 2)]⟩ := by kernel_rfl
theorem ready_or : orI [playsE [play1], trustE [[115]]] = 0 := by kernel_rfl
theorem ready_full : fullB [(([112], goalS), 2)] [[112]] = false := by kernel_rfl
theorem ready_stats : statsOf [(([112], goalS), 2)] [112] = [⟨goalS, 2⟩] := by kernel_rfl
theorem ready_E : LinesE [play1] [[115]] 1 5 = 0 := by
 rw [LinesE, ready_or, if_neg (by decide), if_neg (by decide), linesE, ready_ln, clinesE, ready_full]; rfl
theorem ready_L : LinesL [play1] [[115]] 1 5 = [line1] := by
 rw [LinesL, ready_or, if_neg (by decide), if_neg (by decide), linesL, ready_ln, clinesL, ready_full, if_neg (by decide)]
 simp [sortS, ready_stats, line1]
end Go.HL
end
section
namespace Go.Proofs.YtihpgpbbpklbbaaGreatDoor
open Go.HL
set_option maxRecDepth 100000
set_option linter.unusedVariables false
set_option linter.unusedSimpArgs false
/-- benchwarmer/benchkeep1.ready -/
theorem c_benchkeep1_ready [Tracks]  (hT : Tracks.on = false) : ConP Tryz.prog 35 [] (.bool true) := by
 refine Con.of_body Tryz.func35 rfl Tryz.ntmps35 rfl rfl ?_
 refine hw_reg ?_
 refine dp rfl (pop_assign rfl) ?_
 refine dn ?_
 refine hw_reg ?_
 refine dp rfl (pop_build (cs := [_, _, _, _, _, _, _, _, _]) ty93 pl93 rfl) ?_
 refine dp rfl (pop_buildSlice (hs := [_]) ty26 ty93 rfl rfl (by decide) (by decide) rfl) ?_
 refine dp rfl (pop_buildSlice (hs := [_]) ty28 ty9 rfl rfl (by decide) (by decide) rfl) ?_
 refine dp rfl (pop_call (hs' := [ePlays [play1], eSs [[115]], .int .i64 1, .int .i64 5]) ca16 rfl (WeakL.refl _) (c_play_Lines hT (by decide) (by decide))) ?_
 refine dp rfl (pop_move rfl) ?_
 refine dp rfl (pop_extract rfl rfl) ?_
 refine dp rfl (pop_extract rfl rfl) ?_
 refine dp rfl (pop_assign rfl) ?_
 refine dp rfl (pop_assign rfl) ?_
 refine dn ?_
 simp only [ready_E, ready_L]
 refine hw_reg ?_
 refine dp rfl (pop_buildSlice (hs := [_, _]) ty28 ty9 rfl rfl (by decide) (by decide) rfl) ?_
 refine dp rfl (pop_buildSlice (hs := [_, _, _, _]) ty28 ty9 rfl rfl (by decide) (by decide) rfl) ?_
 refine dp rfl (pop_build (cs := [_, _, _, _, _, _]) ty152 pl152 rfl) ?_
 refine de rfl (eop_alloc ty152 rfl fun b3 => ?_)
 refine de0 (eop_storew ty152 rfl rfl rfl rfl rfl ?_)
 refine dn ?_
 refine hw_ghost (Ghost.fc0 3 rfl) ?_
 refine hw_reg ?_
 refine dp rfl (pop_loadw ty152 rfl rfl rfl rfl) ?_
 refine dp rfl (pop_call (hs' := [eRoom room1, eSwaps []]) ca88 rfl ⟨Weak.refl _, weak_nil 3, trivial⟩ (c_draft_Turns (r := room1) (s := []) (by decide) (by decide) (by decide))) ?_
 refine dp rfl (pop_move rfl) ?_
 refine dp rfl (pop_extract rfl rfl) ?_
 refine dp rfl (pop_extract rfl rfl) ?_
 refine dp rfl (pop_assign rfl) ?_
 refine dp rfl (pop_assign rfl) ?_
 refine dn ?_
 simp only [room1_turns, room1_ok]
 refine hw_reg ?_
 refine dp rfl (pop_build (cs := [_, _, _]) ty83 pl83 rfl) ?_
 refine dp rfl (pop_buildSlice (hs := [_]) ty63 ty83 rfl rfl (by decide) (by decide) rfl) ?_
 refine dp rfl (pop_build (cs := [_, _]) ty148 pl148 rfl) ?_
 refine dp rfl (pop_buildSlice (hs := [_]) ty65 ty148 rfl rfl (by decide) (by decide) rfl) ?_
 refine dp rfl (pop_call (hs' := [eAssets [asset1], ePlaces [place1]]) ca39 rfl (WeakL.refl _) (c_value_Fielded (l := [asset1]) (p := [place1]) (by decide) (by decide))) ?_
 refine dp rfl (pop_move rfl) ?_
 refine dp rfl (pop_extract rfl rfl) ?_
 refine dp rfl (pop_extract rfl rfl) ?_
 refine dp rfl (pop_extract rfl rfl) ?_
 refine dp rfl (pop_assign rfl) ?_
 refine dp rfl (pop_assign rfl) ?_
 refine dp rfl (pop_assign rfl) ?_
 refine dn ?_
 simp only [one_ok, one_sum, one_names]
 refine hw_reg ?_
 refine dp rfl (pop_move rfl) ?_
 refine dp rfl (pop_eql rfl rfl) ?_
 refine dp rfl (pop_move rfl) ?_
 refine dg rfl rfl (fun hc => ⟨_, OpenTo.refl _, pop_move rfl⟩) ?_
 refine dg rfl rfl (fun hc => ⟨_, OpenTo.upd (t := 36) rfl (hc) (OpenTo.refl _), pop_lenm ty39 rfl⟩) ?_
 refine dg rfl rfl (fun hc => ⟨_, OpenTo.upd (t := 37) rfl (hc) (OpenTo.refl _), pop_eql rfl rfl⟩) ?_
 refine dp rfl (pop_picko rfl (.inr ⟨_, rfl, fun h => by simp_all⟩) (.inl rfl)) ?_
 refine dp rfl (pop_move rfl) ?_
 refine dg rfl rfl (fun hc => ⟨_, OpenTo.refl _, pop_move rfl⟩) ?_
 refine dg rfl rfl (fun hc => ⟨_, OpenTo.upd (t := 41) rfl (hc) (OpenTo.refl _), pop_idx (j := 0) (a := line1) ty39 ty56 rfl rfl rfl rfl⟩) ?_
 refine dg rfl rfl (fun hc => ⟨_, OpenTo.upd (t := 42) rfl (hc) (OpenTo.refl _), pop_fieldAddr ty56 rfl ty54 (by decide) rfl⟩) ?_
 refine dg rfl rfl (fun hc => ⟨_, OpenTo.upd (t := 43) rfl (hc) (OpenTo.refl _), pop_load ty54 rfl rfl rfl⟩) ?_
 refine dg rfl rfl (fun hc => ⟨_, OpenTo.upd (t := 44) rfl (hc) (OpenTo.refl _), pop_lenm ty54 rfl⟩) ?_
 refine dg rfl rfl (fun hc => ⟨_, OpenTo.upd (t := 45) rfl (hc) (OpenTo.refl _), pop_eql rfl rfl⟩) ?_
 refine dp rfl (pop_picko rfl (.inr ⟨_, rfl, fun h => by simp_all⟩) (.inl rfl)) ?_
 refine dp rfl (pop_move rfl) ?_
 refine dg rfl rfl (fun hc => ⟨_, OpenTo.refl _, pop_move rfl⟩) ?_
 refine dg rfl rfl (fun hc => ⟨_, OpenTo.upd (t := 49) rfl (hc) (OpenTo.refl _), pop_eql rfl rfl⟩) ?_
 refine dp rfl (pop_picko rfl (.inr ⟨_, rfl, fun h => by simp_all⟩) (.inl rfl)) ?_
 refine dp rfl (pop_move rfl) ?_
 refine dg rfl rfl (fun hc => ⟨_, OpenTo.refl _, pop_move rfl⟩) ?_
 refine dg rfl rfl (fun hc => ⟨_, OpenTo.refl _, pop_buildSlice (hs := [_, _, _, _]) ty28 ty9 rfl rfl (by decide) (by decide) rfl⟩) ?_
 refine dg rfl rfl (fun hc => ⟨_, OpenTo.upd (t := 54) rfl (hc) (OpenTo.upd (t := 53) rfl (hc) (OpenTo.refl _)), pop_call ca89 rfl (WeakL.refl _) (c_slices_Equal_string_string (l := [[97], [98], [98], [97]]) (m := [[97], [98], [98], [97]]) (by decide))⟩) ?_
 refine dp rfl (pop_picko rfl (.inr ⟨_, rfl, fun h => by simp_all⟩) (.inl rfl)) ?_
 refine dp rfl (pop_move rfl) ?_
 refine dg rfl rfl (fun hc => ⟨_, OpenTo.refl _, pop_move rfl⟩) ?_
 refine dg rfl rfl (fun hc => ⟨_, OpenTo.upd (t := 58) rfl (hc) (OpenTo.refl _), pop_eql rfl rfl⟩) ?_
 refine dp rfl (pop_picko rfl (.inr ⟨_, rfl, fun h => by simp_all⟩) (.inl rfl)) ?_
 refine dp rfl (pop_move rfl) ?_
 refine dg rfl rfl (fun hc => ⟨_, OpenTo.refl _, pop_move rfl⟩) ?_
 refine dg rfl rfl (fun hc => ⟨_, OpenTo.upd (t := 62) rfl (hc) (OpenTo.refl _), pop_eql rfl rfl⟩) ?_
 refine dp rfl (pop_picko rfl (.inr ⟨_, rfl, fun h => by simp_all⟩) (.inl rfl)) ?_
 refine dp rfl (pop_assign rfl) ?_
 refine dn ?_
 refine hw_ret ?_
 refine ret_p rfl ?_
 rfl
end Go.Proofs.YtihpgpbbpklbbaaGreatDoor
end
section
namespace Go.HL
theorem pksGo_of {r : Room} {k : List Keep} {fr l : List Pick} : ∀ (t : List Pick) (i : Nat), l.drop i = t → (∀ (j : Nat) (p : Pick), i ≤ j → l[j]? = some p → pkF r k fr (l.take j) p = 0) → pksGo r k fr l i t = 0
 | [], _, _, _ => rfl
 | x :: t, i, hd, h => by
   have hx : l[i]? = some x := by
    have := congrArg (fun q => q[0]?) hd
    simpa [List.getElem?_drop] using this
   have hd' : l.drop (i + 1) = t := by
    have := drop_cons hx
    rw [hd] at this
    exact (List.cons.inj this).2.symm
   rw [pgo_z (h i x (Nat.le_refl _) hx)]
   exact pksGo_of t (i + 1) hd' fun j p hj hp => h j p (by omega) hp
section
variable {r : Room} {k : List Keep} {s : List Swap} {l : List Pick} {w : List Wish}
theorem picks_snoc (h : picksE r k s l = 0) (hl : l.length < (freeP r k s).length) {p : Pick} (hp : pkF r k (freeP r k s) l p = 0) : picksE r k s (l ++ [p]) = 0 := by
 obtain ⟨h1, h2, h3⟩ := picksE_ok h
 unfold picksE pksR
 rw [if_neg (by simp [h1]), if_neg (by simp; omega)]
 refine pksGo_of _ 0 rfl fun j q _ hq => ?_
 rcases Nat.lt_or_ge j l.length with hj | hj
 ·rw [List.getElem?_append_left hj] at hq
  rw [List.take_append_of_le_length (Nat.le_of_lt hj)]
  exact pksGo_at l 0 rfl h3 j q (Nat.zero_le _) hq
 ·have hlt := lt_of_get hq
  rw [List.length_append, List.length_singleton] at hlt
  have e : j = l.length := by omega
  subst e
  simp only [List.getElem?_concat_length, Option.some.injEq] at hq
  rw [List.take_left' rfl, ← hq]; exact hp
theorem wishGo_in {g : Str → Bool} {t : Str} : ∀ {w : List Wish} {x : Str}, wishGo g t w = some x → (∃ y ∈ w, x ∈ y.Players) ∧ g x = false
 | [], x, h => by simp [wishGo] at h
 | y :: w, x, h => by
   unfold wishGo at h
   by_cases e : y.Team = t
   ·rw [if_pos e] at h
    cases hf : y.Players.find? (fun s => !(g s)) with
    | some z =>
      rw [hf] at h
      simp only [Option.some.injEq] at h
      subst h
      obtain ⟨a, b⟩ := find_mem hf
      exact ⟨⟨y, List.mem_cons_self, a⟩, by simpa using b⟩
    | none =>
      rw [hf] at h
      obtain ⟨⟨y', a, b⟩, c⟩ := wishGo_in h
      exact ⟨⟨y', List.mem_cons_of_mem _ a, b⟩, c⟩
   ·rw [if_neg e] at h
    obtain ⟨⟨y', a, b⟩, c⟩ := wishGo_in h
    exact ⟨⟨y', List.mem_cons_of_mem _ a, b⟩, c⟩
theorem wish_in (h : openFault r k s = 0) (hl : l.length < (freeP r k s).length) (hw : ∀ y ∈ w, ∀ x ∈ y.Players, x ∈ r.Players) (t : Str) : wishOf r (goneB k l) w t ∈ r.Players ∧ goneB k l (wishOf r (goneB k l) w t) = false := by
 unfold wishOf
 cases hg : wishGo (goneB k l) t w with
 | some x =>
   obtain ⟨⟨y, a, b⟩, c⟩ := wishGo_in hg
   exact ⟨hw y a x b, c⟩
 | none =>
   have h0 := left_ne h hl
   obtain ⟨x, hx⟩ := List.exists_mem_of_length_pos h0
   obtain ⟨h1, h2⟩ := List.mem_filter.1 hx
   cases hf : r.Players.find? (fun s => !(goneB k l s)) with
   | none => exact absurd h2 (by simpa using List.find?_eq_none.1 hf x h1)
   | some z =>
     obtain ⟨a, b⟩ := find_mem hf
     exact ⟨a, by simpa using b⟩
theorem auto_pick (h : picksE r k s l = 0) (hl : l.length < (freeP r k s).length) (hw : ∀ y ∈ w, ∀ x ∈ y.Players, x ∈ r.Players) {n : Int} (hm : moment n = true) (hn : lastAt r l ≤ n) : picksE r k s (l ++ [autoP r k (freeP r k s) w l n]) = 0 := by
 obtain ⟨a, b⟩ := wish_in (t := ((freeP r k s).getD l.length pick0).Team) (picksE_ok h).1 hl hw
 exact picks_snoc h hl (pf0 hm rfl rfl a b (by show ¬ n < lastAt r l; omega))
/-- What picks by lists have been so far. -/
structure AutOk (r : Room) (k : List Keep) (s : List Swap) (w : List Wish) (at' : Int) (l : List Pick) : Prop where
 ok : picksE r k s l = 0
 auto : ∀ p ∈ l, p.Auto = true ∧ p.At ≤ at'
 reg : ∀ (j : Nat) (p : Pick), l[j]? = some p → p.Player = wishOf r (goneB k (l.take j)) w p.Team
theorem AutOk.step {at' : Int} (h : AutOk r k s w at' l) (hl : l.length < (freeP r k s).length) (hw : ∀ y ∈ w, ∀ x ∈ y.Players, x ∈ r.Players) (hc : 0 ≤ r.Clock) (hd : dueB r l at' = true) : AutOk r k s w at' (l ++ [autoP r k (freeP r k s) w l (lastAt r l + r.Clock)]) := by
 simp only [dueB, Bool.and_eq_true, decide_eq_true_eq] at hd
 refine ⟨auto_pick h.ok hl hw hd.1 (by omega), fun p hp => ?_, fun j p hp => ?_⟩
 ·rcases List.mem_append.1 hp with hp | hp
  ·exact h.auto p hp
  ·rw [List.mem_singleton.1 hp]; exact ⟨rfl, hd.2⟩
 ·rcases Nat.lt_or_ge j l.length with hj | hj
  ·rw [List.getElem?_append_left hj] at hp
   rw [List.take_append_of_le_length (Nat.le_of_lt hj)]
   exact h.reg j p hp
  ·have hlt := lt_of_get hp
   rw [List.length_append, List.length_singleton] at hlt
   have e : j = l.length := by omega
   subst e
   simp only [List.getElem?_concat_length, Option.some.injEq] at hp
   rw [List.take_left' rfl, ← hp]; rfl
end
end Go.HL
end
section
namespace Go.Proofs.YtihpgpbbpklbbaaGreatDoor
open Go.HL
set_option maxRecDepth 100000
set_option linter.unusedVariables false
set_option linter.unusedSimpArgs false

end Go.Proofs.YtihpgpbbpklbbaaGreatDoor
end
section
namespace Go.Proofs.YtihpgpbbpklbbaaGreatDoor
open Go.HL
set_option maxRecDepth 100000
set_option linter.unusedVariables false
set_option linter.unusedSimpArgs false
theorem VL_two [Tracks] {I : Imm} {c d : HVal} {vs : List Value} (h : VL I [c, d] vs) : ∃ u v, vs = [u, v] ∧ V I c u ∧ V I d v := by
 have h1 := h.1
 rcases vs with _ | ⟨u, _ | ⟨v, _ | ⟨w, r⟩⟩⟩
 ·simp at h1
 ·simp at h1
 ·exact ⟨u, v, rfl, h.head, h.tail.head⟩
 ·simp at h1
theorem trimMinus [Tracks] (s : Str) : Lib.trimPrefix s [45] = cutMinus s := by
 unfold Lib.trimPrefix Lib.hasPrefix
 cases s with
 | nil => rfl
 | cons c r =>
   by_cases h : c = 45
   ·subst h; simp [cutMinus]
   ·have h' : ¬ (45 : UInt8) = c := fun e => h e.symm
    simp only [List.isPrefixOf, beq_iff_eq, h', Bool.and_eq_true, false_and, if_false]
    unfold cutMinus
    split
    ·rename_i heq; simp at heq; exact absurd heq.1 h
    ·rfl
/-- strings.TrimPrefix of a minus -/
theorem c_strings_TrimPrefix [Tracks] {s : Str} : ConP Tryz.prog 94 [.str s, .str [45]] (.str (cutMinus s)) :=
 conp_of_calls fun I w args ha => by
  obtain ⟨u, v, rfl, hu, hv⟩ := VL_two ha
  obtain rfl := hu.str_inv
  obtain rfl := hv.str_inv
  refine ⟨_, .str _, ?_⟩
  have := Any.strings_TrimPrefix Tryz.lays101 ⟨s.toArray⟩ ⟨[45].toArray⟩ w
  rw [show (⟨s.toArray⟩ : ByteArray).data.toList = s by simp, show (⟨[45].toArray⟩ : ByteArray).data.toList = [45] by simp, trimMinus] at this
  exact this
/-- strconv.Atoi of a short numeral -/
theorem c_strconv_Atoi [Tracks] {s : Str} (hl : s.length ≤ 18) (h : (Lib.atoi s).isSome = true) : ConP Tryz.prog 96 [.str s] (.tup [.int .i64 (numV s), .raw .nilIface]) :=
 conp_atoi fun w => Any.strconv_Atoi Tryz.lays172 ⟨s.toArray⟩ (numV s) (by simpa [ByteArray.size] using hl) (by
  obtain ⟨n, hn⟩ := Option.isSome_iff_exists.1 h
  simp [numV, hn]) w

end Go.Proofs.YtihpgpbbpklbbaaGreatDoor
end
section
namespace Go.Proofs.YtihpgpbbpklbbaaGreatDoor
open Go.HL
set_option maxRecDepth 100000
set_option linter.unusedVariables false
set_option linter.unusedSimpArgs false

end Go.Proofs.YtihpgpbbpklbbaaGreatDoor
end
section
namespace Go.Proofs.YtihpgpbbpklbbaaGreatDoor
open Go.HL
set_option maxRecDepth 100000
set_option linter.unusedVariables false
set_option linter.unusedSimpArgs false

end Go.Proofs.YtihpgpbbpklbbaaGreatDoor
end
section
namespace Go.Proofs.YtihpgpbbpklbbaaGreatDoor
open Go.HL
set_option maxRecDepth 100000
set_option linter.unusedVariables false
set_option linter.unusedSimpArgs false

end Go.Proofs.YtihpgpbbpklbbaaGreatDoor
end
section
namespace Go.HL
end Go.HL
end
section
namespace Go.Proofs.YtihpgpbbpklbbaaGreatDoor
open Go.HL
set_option maxRecDepth 100000
set_option linter.unusedVariables false
set_option linter.unusedSimpArgs false
end Go.Proofs.YtihpgpbbpklbbaaGreatDoor
end
section
namespace Go.HL
end Go.HL
end
section
namespace Go.HL
theorem decFrom_app : ∀ (l m : List UInt8) (acc : Nat), Lib.decFrom acc (l ++ m) = (Lib.decFrom acc l).bind fun a => Lib.decFrom a m
 | [], m, acc => rfl
 | b :: l, m, acc => by
   simp only [List.cons_append, Lib.decFrom]
   cases Lib.digitVal b with
   | none => rfl
   | some d => exact decFrom_app l m _
theorem digit_ok : ∀ d, d < 10 → Lib.digitVal (UInt8.ofNat (48 + d)) = some d ∧ dig (UInt8.ofNat (48 + d)) = true ∧ dig10.contains (UInt8.ofNat (48 + d)) = true := by decide
theorem digits_read : ∀ u : Nat, Lib.decFrom 0 (Lib.decDigits u) = some u := fun u => by
 induction u using Nat.strongRecOn with
 | ind u ih =>
   rw [Lib.decDigits]
   by_cases h : u < 10
   ·rw [dif_pos h]
    simp only [Lib.decFrom, (digit_ok u h).1]; simp
   ·rw [dif_neg h, decFrom_app, ih (u / 10) (by omega)]
    simp only [Option.bind_some, Lib.decFrom, (digit_ok (u % 10) (by omega)).1]
    congr 1; omega
theorem digits_mem : ∀ (u : Nat) (c : UInt8), c ∈ Lib.decDigits u → ∃ d, d < 10 ∧ c = UInt8.ofNat (48 + d) := fun u => by
 induction u using Nat.strongRecOn with
 | ind u ih =>
   intro c hc
   rw [Lib.decDigits] at hc
   by_cases h : u < 10
   ·rw [dif_pos h] at hc
    exact ⟨u, h, by simpa using hc⟩
   ·rw [dif_neg h] at hc
    rcases List.mem_append.1 hc with hc | hc
    ·exact ih (u / 10) (by omega) c hc
    ·exact ⟨u % 10, by omega, by simpa using hc⟩
theorem digits_ne (u : Nat) : Lib.decDigits u ≠ [] := by
 rw [Lib.decDigits]; split <;> simp
theorem digits_cons (u : Nat) : ∃ d r, d < 10 ∧ Lib.decDigits u = UInt8.ofNat (48 + d) :: r := by
 cases h : Lib.decDigits u with
 | nil => exact absurd h (digits_ne u)
 | cons c r =>
   obtain ⟨d, hd, e⟩ := digits_mem u c (by rw [h]; exact List.mem_cons_self)
   exact ⟨d, r, hd, by rw [e]⟩
theorem digit_head : ∀ d, d < 10 → (UInt8.ofNat (48 + d) == 45) = false ∧ (UInt8.ofNat (48 + d) == 43) = false ∧ UInt8.ofNat (48 + d) ≠ 45 := by decide
theorem atoi_nat (u : Nat) : Lib.atoi (Lib.decDigits u) = some (u : Int) := by
 obtain ⟨d, r, hd, e⟩ := digits_cons u
 have h := digits_read u
 rw [e] at h ⊢
 simp only [Lib.atoi, (digit_head d hd).1, (digit_head d hd).2.1, Lib.decNat, h]; simp
theorem atoi_itoa (n : Int) : Lib.atoi (Lib.itoa n) = some n := by
 rcases Int.lt_or_le n 0 with h | h
 ·obtain ⟨u, rfl⟩ : ∃ u : Nat, n = -(u : Int) := ⟨n.natAbs, by omega⟩
  rw [Lib.itoa_neg u (by omega)]
  have h2 := digits_read u
  have h3 : (Lib.decDigits u).isEmpty = false := by simpa using digits_ne u
  simp [Lib.atoi, Lib.decNat, h2, h3]
 ·obtain ⟨u, rfl⟩ : ∃ u : Nat, n = (u : Int) := ⟨n.toNat, by omega⟩
  rw [Lib.itoa_nonneg]; exact atoi_nat u
theorem numV_itoa (n : Int) : numV (Lib.itoa n) = n := by unfold numV; rw [atoi_itoa]; rfl
theorem nDigits_le : ∀ (k u : Nat), u < 10 ^ (k + 1) → Lib.nDigits u ≤ k + 1
 | 0, u, h => by rw [Lib.nDigits_small (by simpa using h)]; omega
 | k + 1, u, h => by
   by_cases h1 : u < 10
   ·rw [Lib.nDigits_small h1]; omega
   ·rw [Lib.nDigits_big h1]
    have := nDigits_le k (u / 10) (by rw [Nat.pow_succ] at h; omega)
    omega
theorem digits_le {u : Nat} (h : u < 1000000000) : (Lib.decDigits u).length ≤ 9 := by
 rw [Lib.decDigits_length]; exact nDigits_le 8 u (by simpa using h)
theorem dropW_all {p : UInt8 → Bool} : ∀ {s : Str}, (∀ c ∈ s, p c = true) → s.dropWhile p = []
 | [], _ => rfl
 | c :: s, h => by
   rw [List.dropWhile_cons, if_pos (h c List.mem_cons_self)]
   exact dropW_all fun x hx => h x (List.mem_cons_of_mem _ hx)
theorem trim10_digits (u : Nat) : trim10 (Lib.decDigits u) = [] := by
 have h : ∀ c ∈ Lib.decDigits u, dig10.contains c = true := fun c hc => by
  obtain ⟨d, hd, rfl⟩ := digits_mem u c hc
  exact (digit_ok d hd).2.2
 unfold trim10 rtrim
 rw [dropW_all (s := (Lib.decDigits u).reverse) fun c hc => h c (List.mem_reverse.1 hc)]
 rfl
theorem cut_digits (u : Nat) : cutMinus (Lib.decDigits u) = Lib.decDigits u := by
 obtain ⟨d, r, hd, e⟩ := digits_cons u
 rw [e]
 unfold cutMinus
 split
 ·rename_i heq
  exact absurd (List.cons.inj heq).1 (digit_head d hd).2.2
 ·rfl
/-- A number from 0 on with at most nine digits is read as it was written. -/
theorem int_itoa {n : Int} (h0 : 0 ≤ n) (h9 : n < 1000000000) : intC (Lib.itoa n) 9 = false ∧ intR (Lib.itoa n) 9 = n ∧ intB (Lib.itoa n) 9 = true := by
 obtain ⟨u, rfl⟩ : ∃ u : Nat, n = (u : Int) := ⟨n.toNat, by omega⟩
 have hl := digits_le (u := u) (by omega)
 have hp : 0 < (Lib.decDigits u).length := List.length_pos_iff.2 (digits_ne u)
 have hc : intC (Lib.itoa (u : Int)) 9 = false := by
  unfold intC
  rw [Lib.itoa_nonneg, cut_digits, trim10_digits, Bool.or_eq_false_iff]
  refine ⟨?_, by simp⟩
  simp only [out, Bool.or_eq_false_iff, decide_eq_false_iff_not]; omega
 refine ⟨hc, ?_, ?_⟩
 ·unfold intR; rw [if_neg (by simp [hc]), numV_itoa]
 ·unfold intB; rw [hc, numV_itoa]; simp
theorem dropW_nil {p : UInt8 → Bool} : ∀ {s : Str}, s.dropWhile p = [] → ∀ c ∈ s, p c = true
 | [], _, c, hc => by cases hc
 | x :: s, h, c, hc => by
   rw [List.dropWhile_cons] at h
   split at h
   ·rcases List.mem_cons.1 hc with rfl | hc
    ·assumption
    ·exact dropW_nil h c hc
   ·cases h
theorem dropW_sub {p : UInt8 → Bool} : ∀ {s : Str} (c : UInt8), c ∈ s → p c = true ∨ c ∈ s.dropWhile p
 | x :: s, c, hc => by
   rw [List.dropWhile_cons]
   split
   ·rename_i hx
    rcases List.mem_cons.1 hc with rfl | hc
    ·exact .inl hx
    ·exact dropW_sub c hc
   ·exact .inr hc
theorem trim10_nil {s : Str} (h : trim10 s = []) : ∀ c ∈ s, dig10.contains c = true := fun c hc => by
 unfold trim10 at h
 have h1 := dropW_nil h
 rcases dropW_sub (p := (dig10.contains ·)) (s := s.reverse) c (List.mem_reverse.2 hc) with h2 | h2
 ·exact h2
 ·exact h1 c (by unfold rtrim; exact List.mem_reverse.2 h2)
theorem dig10_val : ∀ c : UInt8, dig10.contains c = true → ∃ d, Lib.digitVal c = some d := fun c h => by
 have : c.toNat < 256 := c.toNat_lt
 simp only [dig10, List.contains_cons, List.contains_nil, Bool.or_false, Bool.or_eq_true, beq_iff_eq] at h
 rcases h with rfl | rfl | rfl | rfl | rfl | rfl | rfl | rfl | rfl | rfl <;> exact ⟨_, rfl⟩
theorem decFrom_some : ∀ (l : List UInt8) (acc : Nat), (∀ c ∈ l, dig10.contains c = true) → ∃ n, Lib.decFrom acc l = some n
 | [], acc, _ => ⟨acc, rfl⟩
 | c :: l, acc, h => by
   obtain ⟨d, hd⟩ := dig10_val c (h c List.mem_cons_self)
   obtain ⟨n, hn⟩ := decFrom_some l (acc * 10 + d) fun x hx => h x (List.mem_cons_of_mem _ hx)
   exact ⟨n, by simp only [Lib.decFrom, hd, hn]⟩
theorem dig10_head : dig10.contains 45 = false ∧ dig10.contains 43 = false := by decide
/-- What the reference takes for a number is read. -/
theorem int_read {s : Str} (h : intC s 9 = false) : (Lib.atoi s).isSome = true ∧ s.length ≤ 18 ∧ -1000000000000000000 < numV s ∧ numV s < 1000000000000000000 := by
 unfold intC at h
 rw [Bool.or_eq_false_iff] at h
 obtain ⟨h1, h2⟩ := h
 have h1 := out_f h1
 have h3 := trim10_nil (by simpa using h2)
 have hs : (Lib.atoi s).isSome = true := by
  cases s with
  | nil => simp [cutMinus] at h1
  | cons b r =>
    by_cases hb : b = 45
    ·subst hb
     have e : cutMinus (45 :: r) = r := rfl
     rw [e] at h1 h3
     obtain ⟨n, hn⟩ := decFrom_some r 0 h3
     have hr : r.isEmpty = false := by cases r with
      | nil => simp at h1
      | cons a b => rfl
     simp [Lib.atoi, Lib.decNat, hn, hr]
    ·have e : cutMinus (b :: r) = b :: r := by
      unfold cutMinus; split
      ·rename_i heq; exact absurd (List.cons.inj heq).1 hb
      ·rfl
     rw [e] at h3
     obtain ⟨n, hn⟩ := decFrom_some (b :: r) 0 h3
     have hc := h3 b List.mem_cons_self
     have e1 : (b == 45) = false := by simpa using hb
     have e2 : (b == 43) = false := by
      rw [beq_eq_false_iff_ne]; intro e; subst e; rw [dig10_head.2] at hc; cases hc
     simp [Lib.atoi, Lib.decNat, hn, e1, e2]
 have hl : s.length ≤ 18 := by
  have : s.length ≤ (cutMinus s).length + 1 := by
   unfold cutMinus; split <;> simp
  omega
 refine ⟨hs, hl, ?_⟩
 obtain ⟨n, hn⟩ := Option.isSome_iff_exists.1 hs
 have := Lib.atoi_bound hn hl
 unfold numV; rw [hn]; exact this
end Go.HL
end
section
namespace Go.HL
end Go.HL
end
section
namespace Go.Proofs.YtihpgpbbpklbbaaGreatDoor
open Go.HL
set_option maxRecDepth 100000
set_option linter.unusedVariables false
set_option linter.unusedSimpArgs false
/-- benchwarmer/benchref1.Int -/
theorem c_benchref1_Int_g [Tracks] {s : Str} (hs : s.length ≤ 1000000) : ConP Tryz.prog 38 [.str s, .int .i64 9] (.tup [.int .i64 (intR s 9), .bool (intB s 9)]) := by
 have hcl := cutMinus_len s
 refine Con.of_body Tryz.func38 rfl Tryz.ntmps38 rfl rfl ?_
 refine hw_reg ?_
 refine dp rfl (pop_assign rfl) ?_
 refine dp rfl (pop_assign rfl) ?_
 refine dn ?_
 refine hw_reg ?_
 refine dp rfl (pop_move rfl) ?_
 refine dp rfl (pop_call ca94 rfl (WeakL.refl _) c_strings_TrimPrefix) ?_
 refine dp rfl (pop_assign rfl) ?_
 refine dn ?_
 refine hw_seq ?_
 refine hw_reg ?_
 refine dp rfl (pop_move rfl) ?_
 refine dp rfl (pop_lens ty9 rfl) ?_
 refine dp rfl (pop_move rfl) ?_
 refine dp rfl (pop_call ca87 rfl (WeakL.refl _) c_benchref1_in) ?_
 refine dp rfl (pop_not rfl) ?_
 refine dp rfl (pop_move rfl) ?_
 refine dg rfl rfl (fun hc => ⟨_, OpenTo.refl _, pop_move rfl⟩) ?_
 refine dg rfl rfl (fun hc => by have hq := hc; (try simp at hq); exact ⟨_, OpenTo.upd (t := 17) rfl (hc) (OpenTo.refl _), pop_call ca95 rfl (WeakL.refl _) (c_strings_Trim (l := dig10) (by omega) (by decide) (by decide) (by decide))⟩) ?_
 refine dg rfl rfl (fun hc => ⟨_, OpenTo.upd (t := 18) rfl (hc) (OpenTo.refl _), pop_neqs rfl rfl⟩) ?_
 refine dp rfl (pop_picko rfl (.inl rfl) (.inr ⟨_, rfl, fun h => by simp_all⟩)) ?_
 refine dn ?_
 refine hw_cond rfl (fun h1 => ?_) (fun h2 => ?_)
 ·try simp at h1
  refine hw_reg ?_
  refine dp rfl (pop_assign rfl) ?_
  refine dp rfl (pop_assign rfl) ?_
  refine dn ?_
  refine hw_ret ?_
  refine ret_p rfl ?_
  show HVal.tup _ = _
  (have hic : intC s 9 = true := (by simpa [intC, trim10] using h1); simp [intR, intB, hic, ofVal, ofVal1]; done)
 ·try simp at h2
  refine hw_skip ?_
  refine seqQ_n ?_
  refine hw_reg ?_
  refine dp rfl (pop_move rfl) ?_
  have hic : intC s 9 = false := by simpa [intC, trim10] using h2
  obtain ⟨hvat, hv18, hvb1, hvb2⟩ := int_read hic
  refine dp rfl (pop_call ca96 rfl (WeakL.refl _) (c_strconv_Atoi hv18 hvat)) ?_
  refine dp rfl (pop_move rfl) ?_
  refine dp rfl (pop_extract rfl rfl) ?_
  refine dp rfl (pop_extract rfl rfl) ?_
  refine dp rfl (pop_assign rfl) ?_
  refine dp rfl (pop_assign rfl) ?_
  refine dn ?_
  refine hw_reg ?_
  refine dp rfl (pop_move rfl) ?_
  refine dp rfl (pop_move rfl) ?_
  refine dp rfl (pop_eqnilI Tryz.underlying161 rfl) ?_
  refine dp rfl (pop_move rfl) ?_
  refine dg rfl rfl (fun hc => ⟨_, OpenTo.refl _, pop_move rfl⟩) ?_
  refine dg rfl rfl (fun hc => by have hq := hc; (try simp at hq); exact ⟨_, OpenTo.upd (t := 30) rfl (hc) (OpenTo.refl _), pop_call ca85 rfl (WeakL.refl _) (c_Itoa (n := numV s) (by omega) (by omega))⟩) ?_
  refine dg rfl rfl (fun hc => ⟨_, OpenTo.refl _, pop_move rfl⟩) ?_
  refine dg rfl rfl (fun hc => ⟨_, OpenTo.upd (t := 32) rfl (hc) (OpenTo.upd (t := 31) rfl (hc) (OpenTo.refl _)), pop_eqls rfl rfl⟩) ?_
  refine dp rfl (pop_picko rfl (.inr ⟨_, rfl, fun h => by simp_all⟩) (.inl rfl)) ?_
  refine dp rfl (pop_assign rfl) ?_
  refine dp rfl (pop_assign rfl) ?_
  refine dn ?_
  refine hw_ret ?_
  refine ret_p rfl ?_
  show HVal.tup _ = _
  (simp [intR, intB, hic]; done)
end Go.Proofs.YtihpgpbbpklbbaaGreatDoor
end
section
namespace Go.Proofs.YtihpgpbbpklbbaaGreatDoor
open Go.HL
set_option maxRecDepth 100000
set_option linter.unusedVariables false
set_option linter.unusedSimpArgs false
set_option maxHeartbeats 2000000 in
/-- (*benchwarmer/benchmake.Stream).AssetList -/
theorem c_benchmake_Stream_AssetList [Tracks] {b : Nat} {l : List Int} {a : Nat} {fs : Str} (ha : a ≤ 800000) (hfs : fs.length ≤ 100) : Con Tryz.prog 30 [pAt b, .str fs] [St b l a] (fun x M' => ∃ k a', x = eAssets k ∧ GoodAs k ∧ a' ≤ a + 40 ∧ M' = [St b l a']) := by
 refine Con.of_body Tryz.func30 rfl Tryz.ntmps30 rfl rfl ?_
 refine hw_reg ?_
 refine dp rfl (pop_assign rfl) ?_
 refine dn ?_
 refine hw_reg ?_
 refine dp rfl (pop_assign rfl) ?_
 refine dn ?_
 refine hw_seq ?_
 refine hw_reg ?_
 refine dp rfl (pop_move rfl) ?_
 first
 | refine de rfl (eop_callx (i := 0) ca32 rfl (WeakL.refl _) rfl (c_benchmake_Stream_Range (by first | assumption | omega | (simp; omega) | simp_all) (by first | assumption | omega | (simp; omega) | simp_all) (by first | assumption | omega | (simp; omega) | simp_all) (by first | assumption | omega | (simp; omega) | simp_all)) ?_)
 | refine de rfl (eop_callx (i := 1) ca32 rfl (WeakL.refl _) rfl (c_benchmake_Stream_Range (by first | assumption | omega | (simp; omega) | simp_all) (by first | assumption | omega | (simp; omega) | simp_all) (by first | assumption | omega | (simp; omega) | simp_all) (by first | assumption | omega | (simp; omega) | simp_all)) ?_)
 | refine de rfl (eop_callx (i := 2) ca32 rfl (WeakL.refl _) rfl (c_benchmake_Stream_Range (by first | assumption | omega | (simp; omega) | simp_all) (by first | assumption | omega | (simp; omega) | simp_all) (by first | assumption | omega | (simp; omega) | simp_all) (by first | assumption | omega | (simp; omega) | simp_all)) ?_)
 | refine de rfl (eop_callx (i := 3) ca32 rfl (WeakL.refl _) rfl (c_benchmake_Stream_Range (by first | assumption | omega | (simp; omega) | simp_all) (by first | assumption | omega | (simp; omega) | simp_all) (by first | assumption | omega | (simp; omega) | simp_all) (by first | assumption | omega | (simp; omega) | simp_all)) ?_)
 rintro _ _ ⟨y9, rfl, hy9, rfl⟩
 refine dp rfl (pop_move rfl) ?_
 refine dn ?_
 refine hw_ghost (Ghost.perm (M' := [St b l (a + 1)]) (List.Perm.refl _)) ?_
 refine hw_ghost (Ghost.arr_nil 3) ?_
 refine hw_block ?_
 refine hw_loopw2 [5, 6, 10, 11, 12, 13, 14, 15, 16, 17, 18, 19, 20, 21, 22, 23, 24, 25, 26, 27] (fun (k : Nat) (q : GL Asset) => [(10, .int .i64 (k : Int)), (5, .raw q.u)]) (fun (k : Nat) (q : GL Asset) => [St b l q.a, .arr q.u 3 (q.out.map eAsset)]) (fun (k : Nat) (q : GL Asset) => k ≤ 7 ∧ GLok GoodA k (a + 1 + 2 * k) q) (fun (k : Nat) (q : GL Asset) => 7 - k) (0) (⟨.slice none 0 0, [], a + 1⟩) ?_ ?_ ?_ ?_
 ·exact ⟨by omega, ⟨by simp, by simp, by dsimp only; omega⟩⟩
 ·exact ⟨rfl, rfl, trivial⟩
 ·repeat (first | exact List.Perm.nil | refine permTo 0 rfl ?_ | refine permTo 1 rfl ?_ | refine permTo 2 rfl ?_ | refine permTo 3 rfl ?_ | (refine permToE 0 rfl ?hq ?_; (case hq => simp [setL, hcells]; done)) | (refine permToE 1 rfl ?hq ?_; (case hq => simp [setL, hcells]; done)) | (refine permToE 2 rfl ?hq ?_; (case hq => simp [setL, hcells]; done)) | (refine permToE 3 rfl ?hq ?_; (case hq => simp [setL, hcells]; done)) | fail)
 ·intro k q hinv
  obtain ⟨hk, hq⟩ := hinv
  obtain ⟨u, out, a2⟩ := q
  obtain ⟨g1, g2, g3⟩ := id hq
  dsimp only at g1 g2 g3
  refine hw_reg ?_
  refine dp rfl (pop_lss rfl rfl) ?_
  refine dn ?_
  refine hw_seq ?_
  refine hw_cond rfl (fun h1 => ?_) (fun h2 => ?_)
  ·try simp at h1
   have hk7 : k < 7 := by omega
   refine hw_skip ?_
   refine seqQ_n ?_
   refine hw_seq ?_
   refine hw_block ?_
   refine hw_reg ?_
   refine dp rfl (pop_move rfl) ?_
   refine dp rfl (pop_assign rfl) ?_
   refine dn ?_
   refine hw_reg1 ?_
   refine dp rfl (pop_move rfl) ?_
   refine dp rfl (pop_move rfl) ?_
   refine dp rfl (pop_move rfl) ?_
   refine dp rfl (pop_call ca85 rfl (WeakL.refl _) (c_strconv_Itoa (i := k) (by omega))) ?_
   have hdl := dec_len (i := k) (by omega)
   refine dp rfl (pop_adds rfl rfl (by omega)) ?_
   refine dp rfl (pop_move rfl) ?_
   refine dp rfl (pop_buildSlice (hs := [_, _, _, _]) ty28 ty9 rfl rfl (by decide) (by decide) rfl) ?_
   first
   | refine de rfl (eop_callx (i := 0) ca11 rfl (WeakL.refl _) rfl (c_benchmake_Stream_Some (L := [_, _, _, _]) (by first | assumption | omega | (simp; omega) | simp_all) (by first | assumption | omega | (simp; omega) | simp_all) (by first | assumption | omega | (simp; omega) | simp_all)) ?_)
   | refine de rfl (eop_callx (i := 1) ca11 rfl (WeakL.refl _) rfl (c_benchmake_Stream_Some (L := [_, _, _, _]) (by first | assumption | omega | (simp; omega) | simp_all) (by first | assumption | omega | (simp; omega) | simp_all) (by first | assumption | omega | (simp; omega) | simp_all)) ?_)
   | refine de rfl (eop_callx (i := 2) ca11 rfl (WeakL.refl _) rfl (c_benchmake_Stream_Some (L := [_, _, _, _]) (by first | assumption | omega | (simp; omega) | simp_all) (by first | assumption | omega | (simp; omega) | simp_all) (by first | assumption | omega | (simp; omega) | simp_all)) ?_)
   | refine de rfl (eop_callx (i := 3) ca11 rfl (WeakL.refl _) rfl (c_benchmake_Stream_Some (L := [_, _, _, _]) (by first | assumption | omega | (simp; omega) | simp_all) (by first | assumption | omega | (simp; omega) | simp_all) (by first | assumption | omega | (simp; omega) | simp_all)) ?_)
   rintro _ _ ⟨y20, rfl, hy20, rfl⟩
   refine dp rfl (pop_move rfl) ?_
   refine dp rfl (pop_buildSlice (hs := [_, _, _, _, _, _, _, _]) ty22 ty3 rfl rfl (by decide) (by decide) rfl) ?_
   first
   | refine de rfl (eop_callx (i := 0) ca9 rfl (WeakL.refl _) rfl (c_benchmake_Stream_Pick (L := [_, _, _, _, _, _, _, _]) (by first | assumption | omega | (simp; omega) | simp_all) (by first | assumption | omega | (simp; omega) | simp_all) (by first | assumption | omega | (simp; omega) | simp_all)) ?_)
   | refine de rfl (eop_callx (i := 1) ca9 rfl (WeakL.refl _) rfl (c_benchmake_Stream_Pick (L := [_, _, _, _, _, _, _, _]) (by first | assumption | omega | (simp; omega) | simp_all) (by first | assumption | omega | (simp; omega) | simp_all) (by first | assumption | omega | (simp; omega) | simp_all)) ?_)
   | refine de rfl (eop_callx (i := 2) ca9 rfl (WeakL.refl _) rfl (c_benchmake_Stream_Pick (L := [_, _, _, _, _, _, _, _]) (by first | assumption | omega | (simp; omega) | simp_all) (by first | assumption | omega | (simp; omega) | simp_all) (by first | assumption | omega | (simp; omega) | simp_all)) ?_)
   | refine de rfl (eop_callx (i := 3) ca9 rfl (WeakL.refl _) rfl (c_benchmake_Stream_Pick (L := [_, _, _, _, _, _, _, _]) (by first | assumption | omega | (simp; omega) | simp_all) (by first | assumption | omega | (simp; omega) | simp_all) (by first | assumption | omega | (simp; omega) | simp_all)) ?_)
   rintro _ _ ⟨y23, rfl, hy23, rfl⟩
   refine dp rfl (pop_build (cs := [_, _, _]) ty83 pl83 rfl) ?_
   refine dp rfl (pop_buildSlice (hs := [_]) ty63 ty83 rfl rfl (by decide) (by decide) rfl) ?_
   first
   | refine de rfl (eop_append (i := 0) ty63 ty83 rfl rfl rfl rfl rfl (by simp [flat, hcells]) (by first | omega | (simp; omega)) fun v26 => ?_)
   | refine de rfl (eop_append (i := 1) ty63 ty83 rfl rfl rfl rfl rfl (by simp [flat, hcells]) (by first | omega | (simp; omega)) fun v26 => ?_)
   | refine de rfl (eop_append (i := 2) ty63 ty83 rfl rfl rfl rfl rfl (by simp [flat, hcells]) (by first | omega | (simp; omega)) fun v26 => ?_)
   | refine de rfl (eop_append (i := 3) ty63 ty83 rfl rfl rfl rfl rfl (by simp [flat, hcells]) (by first | omega | (simp; omega)) fun v26 => ?_)
   refine dp rfl (pop_assign rfl) ?_
   refine dn ?_
   refine blockQ_n ?_
   refine seqQ_n ?_
   refine hw_reg1 ?_
   refine dp rfl (pop_add64 rfl rfl (by omega) (by omega)) ?_
   refine dp rfl (pop_move rfl) ?_
   refine dn ?_
   exact ⟨k + 1, ⟨v26, out ++ [⟨fs ++ Lib.decDigits k, y20, y23⟩], a2 + 2⟩, ⟨by omega, hq.add ⟨by unfold Sh; simp; omega, by unfold Sh; simp at hy20; rcases hy20 with rfl | rfl | rfl <;> simp⟩ (by omega)⟩, by dsimp only; omega, ⟨rfl, rfl, trivial⟩, (by repeat (first | exact keeps_refl | refine keeps_upd rfl ?_ | refine keeps_loop rfl rfl ?_)), by repeat (first | exact List.Perm.nil | refine permTo 0 rfl ?_ | refine permTo 1 rfl ?_ | refine permTo 2 rfl ?_ | refine permTo 3 rfl ?_ | (refine permToE 0 rfl ?hq ?_; (case hq => simp [setL, hcells]; done)) | (refine permToE 1 rfl ?hq ?_; (case hq => simp [setL, hcells]; done)) | (refine permToE 2 rfl ?hq ?_; (case hq => simp [setL, hcells]; done)) | (refine permToE 3 rfl ?hq ?_; (case hq => simp [setL, hcells]; done)) | fail)⟩
  ·try simp at h2
   refine hw_exit ?_
   refine seqQ_x ?_
   refine loopQ2_x ?_
   refine blockQ_eq ?_
   refine seqQ_n ?_
   refine hw_join [7, 28, 29, 30, 31, 32, 33, 34, 35, 36, 37, 38, 39, 40, 41, 42, 43, 44, 45, 46, 47, 48, 49, 50, 51, 52, 53, 54, 55, 56, 57, 58, 59, 60, 61, 62, 63, 64, 65, 66, 67] (fun (q : List Asset × Nat) => []) (fun (q : List Asset × Nat) => [St b l q.2, .arr u 3 (q.1.map eAsset)]) (fun (q : List Asset × Nat) => q.1.length ≤ 7 ∧ (∀ x ∈ q.1, Sh x.Player ∧ Sh x.Position) ∧ q.2 ≤ a + 40) ?_ ?_
   ·skip
    refine hw_reg ?_
    refine dp rfl (pop_move rfl) ?_
    first
    | refine de rfl (eop_lenm (i := 0) ty63 rfl rfl ?_)
    | refine de rfl (eop_lenm (i := 1) ty63 rfl rfl ?_)
    | refine de rfl (eop_lenm (i := 2) ty63 rfl rfl ?_)
    | refine de rfl (eop_lenm (i := 3) ty63 rfl rfl ?_)
    refine dp rfl (pop_gtr rfl rfl) ?_
    refine dp rfl (pop_move rfl) ?_
    refine dg rfl rfl (fun hc => ⟨_, OpenTo.refl _, pop_move rfl⟩) ?_
    refine dgx (fun x M' => ∃ (y : Bool) (a3 : Nat), x = .bool y ∧ a3 ≤ a2 + 1 ∧ M' = [St b l a3, .arr u 3 (out.map eAsset)]) rfl rfl (fun hc => ⟨_, false, a2, rfl, by omega, rfl⟩) (fun hc => ⟨_, OpenTo.upd (t := 32) rfl (by first | exact hc | simp_all) (OpenTo.refl _), eop_callx (i := 0) ca53 rfl (WeakL.refl _) rfl (c_benchmake_Stream_Flip (a := a2) (by omega) (by omega)) (fun h M' hh => by
     obtain ⟨y, h1, h2⟩ := hh
     exact ⟨y, a2 + 1, h1, by omega, by rw [h2]; rfl⟩)⟩) ?_
    rintro _ _ ⟨y, a3, rfl, ha3, rfl⟩
    refine dp rfl (pop_picko rfl (.inr ⟨_, rfl, fun h => by simp_all⟩) (.inl rfl)) ?_
    refine dn ?_
    refine hw_cond rfl (fun h3 => ?_) (fun h4 => ?_)
    ·try simp at h3
     have ho0 : 0 < out.length := by simp_all
     refine hw_arrc (i := 1) rfl (fun h0 he => ?_) (fun ob off cap hv hcap => ?_)
     ·exfalso; have := congrArg List.length he; simp at this; subst this; simp at ho0
     subst hv
     refine hw_reg ?_
     refine dp rfl (pop_move rfl) ?_
     refine dp rfl (pop_move rfl) ?_
     refine dp rfl (pop_move rfl) ?_
     first
     | refine de rfl (eop_lenm (i := 0) ty63 rfl rfl ?_)
     | refine de rfl (eop_lenm (i := 1) ty63 rfl rfl ?_)
     | refine de rfl (eop_lenm (i := 2) ty63 rfl rfl ?_)
     | refine de rfl (eop_lenm (i := 3) ty63 rfl rfl ?_)
     first
     | refine de rfl (eop_callx (i := 0) ca52 rfl (WeakL.refl _) rfl (c_benchmake_Stream_Next (by first | assumption | omega | (simp; omega) | simp_all) (by first | assumption | omega | (simp; omega) | simp_all)) ?_)
     | refine de rfl (eop_callx (i := 1) ca52 rfl (WeakL.refl _) rfl (c_benchmake_Stream_Next (by first | assumption | omega | (simp; omega) | simp_all) (by first | assumption | omega | (simp; omega) | simp_all)) ?_)
     | refine de rfl (eop_callx (i := 2) ca52 rfl (WeakL.refl _) rfl (c_benchmake_Stream_Next (by first | assumption | omega | (simp; omega) | simp_all) (by first | assumption | omega | (simp; omega) | simp_all)) ?_)
     | refine de rfl (eop_callx (i := 3) ca52 rfl (WeakL.refl _) rfl (c_benchmake_Stream_Next (by first | assumption | omega | (simp; omega) | simp_all) (by first | assumption | omega | (simp; omega) | simp_all)) ?_)
     rintro _ _ ⟨y39, rfl, hy39, rfl⟩
     refine dp rfl (pop_idxraw (j := y39) ty63 ty83 rfl rfl rfl (by simp; omega)) ?_
     refine dp rfl (pop_assign rfl) ?_
     refine dn ?_
     obtain ⟨x, hx⟩ : ∃ x, out[y39]? = some x := ⟨_, List.getElem?_eq_getElem (by omega)⟩
     refine hw_draw1 (fun M => ∃ i : Nat, M[i]? = some (.arr (.slice (some ⟨ob, off, none⟩) (out.map eAsset).length cap) 3 (out.map eAsset))) [7, 16] mixed ?_
     refine ahp 0 rfl rfl (by kernel_rfl) (by kernel_rfl) (pop_move rfl) ?_
     refine ahp 1 rfl rfl (by kernel_rfl) (by kernel_rfl) (pop_move rfl) ?_
     refine ahp 2 rfl rfl (by kernel_rfl) (by kernel_rfl) (pop_move rfl) ?_
     refine ahp 3 rfl rfl (by kernel_rfl) (by kernel_rfl) (pop_move rfl) ?_
     refine ahp 4 rfl rfl (by kernel_rfl) (by kernel_rfl) (pop_move rfl) ?_
     refine ahp 5 rfl rfl (by kernel_rfl) (by kernel_rfl) ((by first | exact pop_nilCheck rfl | exact pop_nilCheck_raw rfl)) ?_
     refine ahp 6 rfl rfl (by kernel_rfl) (by kernel_rfl) ((by first | exact pop_fieldAddr ty83 rfl ty9 (by decide) rfl | exact pop_fieldAddr_raw ty83 rfl ty9 (by decide) rfl)) ?_
     refine ahl 7 rfl rfl (by kernel_rfl) (by kernel_rfl) (by simp) ⟨1, rfl⟩ (fun M hM => by obtain ⟨i, hi⟩ := hM; exact eop_load_el (i := i) (j := y39) 0 ty9 rfl (by omega) hi hx rfl rfl ⟨rfl, rfl⟩) ?_
     refine ahp 8 rfl rfl (by kernel_rfl) (by kernel_rfl) (pop_move rfl) ?_
     refine ahp 9 rfl rfl (by kernel_rfl) (by kernel_rfl) (pop_adds rfl rfl (by simp; omega)) ?_
     refine ahp 10 rfl rfl (by kernel_rfl) (by kernel_rfl) (pop_buildSlice (hs := [_, _, _]) ty28 ty9 rfl rfl (by decide) (by decide) rfl) ?_
     refine ahp 12 rfl rfl (by kernel_rfl) (by kernel_rfl) (pop_move rfl) ?_
     refine ahp 13 rfl rfl (by kernel_rfl) (by kernel_rfl) (pop_move rfl) ?_
     refine ahp 14 rfl rfl (by kernel_rfl) (by kernel_rfl) ((by first | exact pop_nilCheck rfl | exact pop_nilCheck_raw rfl)) ?_
     refine ahp 15 rfl rfl (by kernel_rfl) (by kernel_rfl) ((by first | exact pop_fieldAddr ty83 rfl ty9 (by decide) rfl | exact pop_fieldAddr_raw ty83 rfl ty9 (by decide) rfl)) ?_
     refine ahl 16 rfl rfl (by kernel_rfl) (by kernel_rfl) (by simp) ⟨1, rfl⟩ (fun M hM => by obtain ⟨i, hi⟩ := hM; exact eop_load_el (i := i) (j := y39) 1 ty9 rfl (by omega) hi hx rfl rfl ⟨rfl, rfl⟩) ?_
     refine ahp 17 rfl rfl (by kernel_rfl) (by kernel_rfl) (pop_buildSlice (hs := [_, _]) ty28 ty9 rfl rfl (by decide) (by decide) rfl) ?_
     refine ahp 19 rfl rfl (by kernel_rfl) (by kernel_rfl) (pop_move rfl) ?_
     refine ahe 11 rfl (by kernel_rfl) ?_
     first
     | refine hop_e rfl (eop_callx (i := 0) ca11 rfl (WeakL.refl _) rfl (c_benchmake_Stream_Some (L := [_, _, _]) (by first | assumption | omega | (simp; omega) | simp_all) (by first | assumption | omega | (simp; omega) | simp_all) (by first | assumption | omega | (simp; omega) | simp_all)) ?_)
     | refine hop_e rfl (eop_callx (i := 1) ca11 rfl (WeakL.refl _) rfl (c_benchmake_Stream_Some (L := [_, _, _]) (by first | assumption | omega | (simp; omega) | simp_all) (by first | assumption | omega | (simp; omega) | simp_all) (by first | assumption | omega | (simp; omega) | simp_all)) ?_)
     | refine hop_e rfl (eop_callx (i := 2) ca11 rfl (WeakL.refl _) rfl (c_benchmake_Stream_Some (L := [_, _, _]) (by first | assumption | omega | (simp; omega) | simp_all) (by first | assumption | omega | (simp; omega) | simp_all) (by first | assumption | omega | (simp; omega) | simp_all)) ?_)
     | refine hop_e rfl (eop_callx (i := 3) ca11 rfl (WeakL.refl _) rfl (c_benchmake_Stream_Some (L := [_, _, _]) (by first | assumption | omega | (simp; omega) | simp_all) (by first | assumption | omega | (simp; omega) | simp_all) (by first | assumption | omega | (simp; omega) | simp_all)) ?_)
     rintro _ _ ⟨y52, rfl, hy52, rfl⟩
     refine ⟨fun _ => by first | exact .inl ⟨0, rfl⟩ | exact .inl ⟨1, rfl⟩ | exact .inl ⟨2, rfl⟩ | exact .inr (by simp [Before, Region.binds]), ?_⟩
     refine ahe 18 rfl (by kernel_rfl) ?_
     first
     | refine hop_e rfl (eop_callx (i := 0) ca11 rfl (WeakL.refl _) rfl (c_benchmake_Stream_Some (L := [_, _]) (by first | assumption | omega | (simp; omega) | simp_all) (by first | assumption | omega | (simp; omega) | simp_all) (by first | assumption | omega | (simp; omega) | simp_all)) ?_)
     | refine hop_e rfl (eop_callx (i := 1) ca11 rfl (WeakL.refl _) rfl (c_benchmake_Stream_Some (L := [_, _]) (by first | assumption | omega | (simp; omega) | simp_all) (by first | assumption | omega | (simp; omega) | simp_all) (by first | assumption | omega | (simp; omega) | simp_all)) ?_)
     | refine hop_e rfl (eop_callx (i := 2) ca11 rfl (WeakL.refl _) rfl (c_benchmake_Stream_Some (L := [_, _]) (by first | assumption | omega | (simp; omega) | simp_all) (by first | assumption | omega | (simp; omega) | simp_all) (by first | assumption | omega | (simp; omega) | simp_all)) ?_)
     | refine hop_e rfl (eop_callx (i := 3) ca11 rfl (WeakL.refl _) rfl (c_benchmake_Stream_Some (L := [_, _]) (by first | assumption | omega | (simp; omega) | simp_all) (by first | assumption | omega | (simp; omega) | simp_all) (by first | assumption | omega | (simp; omega) | simp_all)) ?_)
     rintro _ _ ⟨y59, rfl, hy59, rfl⟩
     refine ⟨fun _ => by first | exact .inl ⟨0, rfl⟩ | exact .inl ⟨1, rfl⟩ | exact .inl ⟨2, rfl⟩ | exact .inr (by simp [Before, Region.binds]), ?_⟩
     refine ahe 20 rfl (by kernel_rfl) ?_
     first
     | refine hop_e rfl (eop_callx (i := 0) ca86 rfl (WeakL.refl _) rfl (c_benchmake_Stream_Odd (by first | assumption | omega | (simp; omega) | simp_all) (by first | assumption | omega | (simp; omega) | simp_all) (by first | assumption | omega | (simp; omega) | simp_all) (by first | assumption | omega | (simp; omega) | simp_all)) ?_)
     | refine hop_e rfl (eop_callx (i := 1) ca86 rfl (WeakL.refl _) rfl (c_benchmake_Stream_Odd (by first | assumption | omega | (simp; omega) | simp_all) (by first | assumption | omega | (simp; omega) | simp_all) (by first | assumption | omega | (simp; omega) | simp_all) (by first | assumption | omega | (simp; omega) | simp_all)) ?_)
     | refine hop_e rfl (eop_callx (i := 2) ca86 rfl (WeakL.refl _) rfl (c_benchmake_Stream_Odd (by first | assumption | omega | (simp; omega) | simp_all) (by first | assumption | omega | (simp; omega) | simp_all) (by first | assumption | omega | (simp; omega) | simp_all) (by first | assumption | omega | (simp; omega) | simp_all)) ?_)
     | refine hop_e rfl (eop_callx (i := 3) ca86 rfl (WeakL.refl _) rfl (c_benchmake_Stream_Odd (by first | assumption | omega | (simp; omega) | simp_all) (by first | assumption | omega | (simp; omega) | simp_all) (by first | assumption | omega | (simp; omega) | simp_all) (by first | assumption | omega | (simp; omega) | simp_all)) ?_)
     rintro _ _ ⟨y61, rfl, rfl⟩
     refine ⟨fun _ => by first | exact .inl ⟨0, rfl⟩ | exact .inl ⟨1, rfl⟩ | exact .inl ⟨2, rfl⟩ | exact .inr (by simp [Before, Region.binds]), ?_⟩
     refine ahp 21 rfl rfl (by kernel_rfl) (by kernel_rfl) ((by first | exact pop_nilCheck rfl | exact pop_nilCheck_raw rfl)) ?_
     refine ahp 22 rfl rfl (by kernel_rfl) (by kernel_rfl) ((by first | exact pop_fieldAddr ty83 rfl ty9 (by decide) rfl | exact pop_fieldAddr_raw ty83 rfl ty9 (by decide) rfl)) ?_
     refine ahe 23 rfl (by kernel_rfl) ?_
     refine hop_e0 (eop_store_arr (i := 1) (j := y39) (f := 0) (y := eAsset x) (y' := eAsset ⟨y52, x.Position, x.Value⟩) ty9 rfl (by omega) rfl rfl (map_get hx) rfl rfl (by simp [hcells]) rfl ?_)
     refine ⟨fun _ => .inr (by simp [Before, Region.binds]), ?_⟩
     refine ahp 24 rfl rfl (by kernel_rfl) (by kernel_rfl) ((by first | exact pop_nilCheck rfl | exact pop_nilCheck_raw rfl)) ?_
     refine ahp 25 rfl rfl (by kernel_rfl) (by kernel_rfl) ((by first | exact pop_fieldAddr ty83 rfl ty9 (by decide) rfl | exact pop_fieldAddr_raw ty83 rfl ty9 (by decide) rfl)) ?_
     refine ahe 26 rfl (by kernel_rfl) ?_
     refine hop_e0 (eop_store_arr (i := 1) (j := y39) (f := 1) (y := eAsset ⟨y52, x.Position, x.Value⟩) (y' := eAsset ⟨y52, y59, x.Value⟩) ty9 rfl (by omega) rfl rfl (set_self (map_get hx)) rfl rfl (by simp [hcells]) rfl ?_)
     refine ⟨fun _ => .inr (by simp [Before, Region.binds]), ?_⟩
     refine ahp 27 rfl rfl (by kernel_rfl) (by kernel_rfl) ((by first | exact pop_nilCheck rfl | exact pop_nilCheck_raw rfl)) ?_
     refine ahp 28 rfl rfl (by kernel_rfl) (by kernel_rfl) ((by first | exact pop_fieldAddr ty83 rfl ty3 (by decide) rfl | exact pop_fieldAddr_raw ty83 rfl ty3 (by decide) rfl)) ?_
     refine ahe 29 rfl (by kernel_rfl) ?_
     refine hop_e0 (eop_store_arr (i := 1) (j := y39) (f := 2) (y := eAsset ⟨y52, y59, x.Value⟩) (y' := eAsset ⟨y52, y59, y61⟩) ty3 rfl (by omega) rfl rfl (set_self (set_self (map_get hx))) rfl rfl (by simp [hcells]) rfl ?_)
     refine ⟨fun _ => .inr (by simp [Before, Region.binds]), ?_⟩
     refine ahz (by kernel_rfl) ?_
     exact ⟨(out.set y39 ⟨y52, y59, y61⟩, a3 + 5), ⟨by simp; omega, all_set (P := GoodA) g2 ⟨by simp at hy52; rcases hy52 with rfl | rfl | rfl; exact (g2 x (List.mem_of_getElem? hx)).1; exact nil_sh; (unfold Sh; simp; omega), by simp at hy59; rcases hy59 with rfl | rfl; exact (g2 x (List.mem_of_getElem? hx)).2; exact nil_sh⟩, by dsimp only; omega⟩, trivial, (by repeat (first | exact keeps_refl | refine keeps_upd rfl ?_ | refine keeps_loop rfl rfl ?_)), by repeat (first | exact List.Perm.nil | refine permTo 0 rfl ?_ | refine permTo 1 rfl ?_ | refine permTo 2 rfl ?_ | refine permTo 3 rfl ?_ | (refine permToE 0 rfl ?hq ?_; (case hq => simp [setL, hcells]; done)) | (refine permToE 1 rfl ?hq ?_; (case hq => simp [setL, hcells]; done)) | (refine permToE 2 rfl ?hq ?_; (case hq => simp [setL, hcells]; done)) | (refine permToE 3 rfl ?hq ?_; (case hq => simp [setL, hcells]; done)) | fail)⟩
    ·try simp at h4
     refine hw_skip ?_
     exact ⟨(out, a3), ⟨by dsimp only; omega, g2, by dsimp only; omega⟩, trivial, (by repeat (first | exact keeps_refl | refine keeps_upd rfl ?_ | refine keeps_loop rfl rfl ?_)), by repeat (first | exact List.Perm.nil | refine permTo 0 rfl ?_ | refine permTo 1 rfl ?_ | refine permTo 2 rfl ?_ | refine permTo 3 rfl ?_ | (refine permToE 0 rfl ?hq ?_; (case hq => simp [setL, hcells]; done)) | (refine permToE 1 rfl ?hq ?_; (case hq => simp [setL, hcells]; done)) | (refine permToE 2 rfl ?hq ?_; (case hq => simp [setL, hcells]; done)) | (refine permToE 3 rfl ?hq ?_; (case hq => simp [setL, hcells]; done)) | fail)⟩
   ·intro q hq3
    obtain ⟨k1, a4⟩ := q
    dsimp only at hq3
    obtain ⟨q1, q2, q3⟩ := hq3
    refine hw_reg ?_
    refine dp rfl (pop_move rfl) ?_
    refine dp rfl (pop_assign rfl) ?_
    refine dn ?_
    refine hw_ret ?_
    refine ret_g (Ghost.fa 4 (i := 1) rfl rfl) rfl ⟨k1, a4, rfl, ⟨by omega, q2⟩, by omega, rfl⟩

set_option maxHeartbeats 2000000 in
/-- (*benchwarmer/benchmake.Stream).PlaceList -/
theorem c_benchmake_Stream_PlaceList [Tracks] {b : Nat} {l : List Int} {a : Nat}  (ha : a ≤ 800000) : Con Tryz.prog 31 [pAt b] [St b l a] (fun x M' => ∃ k a', x = ePlaces k ∧ GoodPs k ∧ a' ≤ a + 40 ∧ M' = [St b l a']) := by
 refine Con.of_body Tryz.func31 rfl Tryz.ntmps31 rfl rfl ?_
 refine hw_reg ?_
 refine dp rfl (pop_assign rfl) ?_
 refine dn ?_
 refine hw_reg ?_
 refine dp rfl (pop_assign rfl) ?_
 refine dn ?_
 refine hw_seq ?_
 refine hw_reg ?_
 refine dp rfl (pop_buildSlice (hs := [_, _, _, _]) ty28 ty9 rfl rfl (by decide) (by decide) rfl) ?_
 refine dp rfl (pop_lenm (f := HVal.str) (l := place4) ty28 rfl) ?_
 refine dp rfl (pop_move rfl) ?_
 refine dn ?_
 refine hw_ghost (Ghost.arr_nil 2) ?_
 refine hw_block ?_
 refine hw_loopw2 [3, 5, 9, 10, 11, 12, 13, 14, 15, 16, 17, 18, 19, 20, 21, 22, 23, 24] (fun (k : Nat) (q : GL HL.Place) => [(9, .int .i64 k), (3, .raw q.u)]) (fun (k : Nat) (q : GL HL.Place) => [St b l q.a, .arr q.u 2 (q.out.map ePlace)]) (fun (k : Nat) (q : GL HL.Place) => k ≤ place4.length ∧ (GLok GoodP k (a + 2 * k) q)) (fun (k : Nat) (q : GL HL.Place) => place4.length - k) (0) (⟨.slice none 0 0, [], a⟩) ?_ ?_ ?_ ?_
 ·exact ⟨by decide, ⟨by simp, by simp, by dsimp only; omega⟩⟩
 ·exact ⟨rfl, rfl, trivial⟩
 ·repeat (first | exact List.Perm.nil | refine permTo 0 rfl ?_ | refine permTo 1 rfl ?_ | refine permTo 2 rfl ?_ | refine permTo 3 rfl ?_ | (refine permToE 0 rfl ?hq ?_; (case hq => simp [setL, hcells]; done)) | (refine permToE 1 rfl ?hq ?_; (case hq => simp [setL, hcells]; done)) | (refine permToE 2 rfl ?hq ?_; (case hq => simp [setL, hcells]; done)) | (refine permToE 3 rfl ?hq ?_; (case hq => simp [setL, hcells]; done)) | fail)
 ·intro k q hinv
  obtain ⟨hk, hq⟩ := hinv
  obtain ⟨u, out, a2⟩ := q
  obtain ⟨g1, g2, g3⟩ := id hq
  dsimp only at g1 g2 g3
  have h4 : place4.length = 4 := rfl
  refine hw_reg ?_
  refine dp rfl (pop_lss rfl rfl) ?_
  refine dn ?_
  refine hw_seq ?_
  refine hw_cond rfl (fun h1 => ?_) (fun h2 => ?_)
  ·try simp at h1
   obtain ⟨x, hx⟩ : ∃ x, place4[k]? = some x := ⟨_, List.getElem?_eq_getElem h1⟩
   have hdx := drop_cons hx
   refine hw_skip ?_
   refine seqQ_n ?_
   refine hw_seq ?_
   refine hw_block ?_
   refine hw_reg ?_
   refine dp rfl (pop_idx (f := HVal.str) (l := place4) (j := k) (a := x) ty28 ty9 rfl rfl rfl hx) ?_
   refine dp rfl (pop_load ty9 rfl rfl rfl) ?_
   refine dp rfl (pop_assign rfl) ?_
   refine dn ?_
   refine hw_reg ?_
   refine dp rfl (pop_move rfl) ?_
   first
   | refine de rfl (eop_callx (i := 0) ca53 rfl (WeakL.refl _) rfl (c_benchmake_Stream_Flip (by first | assumption | omega | (simp; omega) | simp_all) (by first | assumption | omega | (simp; omega) | simp_all)) ?_)
   | refine de rfl (eop_callx (i := 1) ca53 rfl (WeakL.refl _) rfl (c_benchmake_Stream_Flip (by first | assumption | omega | (simp; omega) | simp_all) (by first | assumption | omega | (simp; omega) | simp_all)) ?_)
   | refine de rfl (eop_callx (i := 2) ca53 rfl (WeakL.refl _) rfl (c_benchmake_Stream_Flip (by first | assumption | omega | (simp; omega) | simp_all) (by first | assumption | omega | (simp; omega) | simp_all)) ?_)
   | refine de rfl (eop_callx (i := 3) ca53 rfl (WeakL.refl _) rfl (c_benchmake_Stream_Flip (by first | assumption | omega | (simp; omega) | simp_all) (by first | assumption | omega | (simp; omega) | simp_all)) ?_)
   rintro _ _ ⟨y14, rfl, rfl⟩
   refine dp rfl (pop_not rfl) ?_
   refine dn ?_
   refine hw_cond rfl (fun h3 => ?_) (fun h4 => ?_)
   ·try simp at h3
    refine hw_reg1 ?_
    refine dp rfl (pop_move rfl) ?_
    refine dp rfl (pop_move rfl) ?_
    refine dp rfl (pop_move rfl) ?_
    refine dp rfl (pop_buildSlice (hs := [_, _, _, _, _]) ty22 ty3 rfl rfl (by decide) (by decide) rfl) ?_
    first
    | refine de rfl (eop_callx (i := 0) ca9 rfl (WeakL.refl _) rfl (c_benchmake_Stream_Pick (L := [_, _, _, _, _]) (by first | assumption | omega | (simp; omega) | simp_all) (by first | assumption | omega | (simp; omega) | simp_all) (by first | assumption | omega | (simp; omega) | simp_all)) ?_)
    | refine de rfl (eop_callx (i := 1) ca9 rfl (WeakL.refl _) rfl (c_benchmake_Stream_Pick (L := [_, _, _, _, _]) (by first | assumption | omega | (simp; omega) | simp_all) (by first | assumption | omega | (simp; omega) | simp_all) (by first | assumption | omega | (simp; omega) | simp_all)) ?_)
    | refine de rfl (eop_callx (i := 2) ca9 rfl (WeakL.refl _) rfl (c_benchmake_Stream_Pick (L := [_, _, _, _, _]) (by first | assumption | omega | (simp; omega) | simp_all) (by first | assumption | omega | (simp; omega) | simp_all) (by first | assumption | omega | (simp; omega) | simp_all)) ?_)
    | refine de rfl (eop_callx (i := 3) ca9 rfl (WeakL.refl _) rfl (c_benchmake_Stream_Pick (L := [_, _, _, _, _]) (by first | assumption | omega | (simp; omega) | simp_all) (by first | assumption | omega | (simp; omega) | simp_all) (by first | assumption | omega | (simp; omega) | simp_all)) ?_)
    rintro _ _ ⟨y20, rfl, hy20, rfl⟩
    refine dp rfl (pop_build (cs := [_, _]) ty148 pl148 rfl) ?_
    refine dp rfl (pop_buildSlice (hs := [_]) ty65 ty148 rfl rfl (by decide) (by decide) rfl) ?_
    first
    | refine de rfl (eop_append (i := 0) ty65 ty148 rfl rfl rfl rfl rfl (by simp [flat, hcells]) (by first | omega | (simp; omega)) fun v23 => ?_)
    | refine de rfl (eop_append (i := 1) ty65 ty148 rfl rfl rfl rfl rfl (by simp [flat, hcells]) (by first | omega | (simp; omega)) fun v23 => ?_)
    | refine de rfl (eop_append (i := 2) ty65 ty148 rfl rfl rfl rfl rfl (by simp [flat, hcells]) (by first | omega | (simp; omega)) fun v23 => ?_)
    | refine de rfl (eop_append (i := 3) ty65 ty148 rfl rfl rfl rfl rfl (by simp [flat, hcells]) (by first | omega | (simp; omega)) fun v23 => ?_)
    refine dp rfl (pop_assign rfl) ?_
    refine dn ?_
    refine blockQ_n ?_
    refine seqQ_n ?_
    refine hw_reg1 ?_
    refine dp rfl (pop_add64 rfl rfl (by omega) (by omega)) ?_
    refine dp rfl (pop_move rfl) ?_
    refine dn ?_
    exact ⟨k + 1, ⟨v23, out ++ [⟨x, y20⟩], a2 + 2⟩, ⟨by omega, hq.add (x := (⟨x, y20⟩ : HL.Place)) (place4_sh x (List.mem_of_getElem? hx)) (by omega)⟩, by dsimp only; omega, ⟨rfl, rfl, trivial⟩, (by repeat (first | exact keeps_refl | refine keeps_upd rfl ?_ | refine keeps_loop rfl rfl ?_)), by repeat (first | exact List.Perm.nil | refine permTo 0 rfl ?_ | refine permTo 1 rfl ?_ | refine permTo 2 rfl ?_ | refine permTo 3 rfl ?_ | (refine permToE 0 rfl ?hq ?_; (case hq => simp [setL, hcells]; done)) | (refine permToE 1 rfl ?hq ?_; (case hq => simp [setL, hcells]; done)) | (refine permToE 2 rfl ?hq ?_; (case hq => simp [setL, hcells]; done)) | (refine permToE 3 rfl ?hq ?_; (case hq => simp [setL, hcells]; done)) | fail)⟩
   ·try simp at h4
    refine hw_skip ?_
    refine blockQ_n ?_
    refine seqQ_n ?_
    refine hw_reg1 ?_
    refine dp rfl (pop_add64 rfl rfl (by omega) (by omega)) ?_
    refine dp rfl (pop_move rfl) ?_
    refine dn ?_
    exact ⟨k + 1, ⟨u, out, a2 + 1⟩, ⟨by omega, hq.same (by omega)⟩, by dsimp only; omega, ⟨rfl, rfl, trivial⟩, (by repeat (first | exact keeps_refl | refine keeps_upd rfl ?_ | refine keeps_loop rfl rfl ?_)), by repeat (first | exact List.Perm.nil | refine permTo 0 rfl ?_ | refine permTo 1 rfl ?_ | refine permTo 2 rfl ?_ | refine permTo 3 rfl ?_ | (refine permToE 0 rfl ?hq ?_; (case hq => simp [setL, hcells]; done)) | (refine permToE 1 rfl ?hq ?_; (case hq => simp [setL, hcells]; done)) | (refine permToE 2 rfl ?hq ?_; (case hq => simp [setL, hcells]; done)) | (refine permToE 3 rfl ?hq ?_; (case hq => simp [setL, hcells]; done)) | fail)⟩
  ·try simp at h2
   have hnk : place4.length ≤ k := by omega
   obtain rfl : k = place4.length := by omega
   refine hw_exit ?_
   refine seqQ_x ?_
   refine loopQ2_x ?_
   refine blockQ_eq ?_
   refine seqQ_n ?_
   refine hw_join [6, 25, 26, 27, 28, 29, 30, 31, 32, 33, 34, 35, 36, 37, 38, 39, 40, 41, 42, 43, 44, 45, 46, 47, 48, 49, 50, 51, 52] (fun (q : List HL.Place × Nat) => []) (fun (q : List HL.Place × Nat) => [St b l q.2, .arr u 2 (q.1.map ePlace)]) (fun (q : List HL.Place × Nat) => q.1.length ≤ 4 ∧ (∀ x ∈ q.1, Sh x.Position) ∧ q.2 ≤ a + 40) ?_ ?_
   ·skip
    refine hw_reg ?_
    refine dp rfl (pop_move rfl) ?_
    first
    | refine de rfl (eop_lenm (i := 0) ty65 rfl rfl ?_)
    | refine de rfl (eop_lenm (i := 1) ty65 rfl rfl ?_)
    | refine de rfl (eop_lenm (i := 2) ty65 rfl rfl ?_)
    | refine de rfl (eop_lenm (i := 3) ty65 rfl rfl ?_)
    refine dp rfl (pop_gtr rfl rfl) ?_
    refine dp rfl (pop_move rfl) ?_
    refine dg rfl rfl (fun hc => ⟨_, OpenTo.refl _, pop_move rfl⟩) ?_
    refine dgx (fun x M' => ∃ (y : Bool) (a3 : Nat), x = .bool y ∧ a3 ≤ a2 + 1 ∧ M' = [St b l a3, .arr u 2 (out.map ePlace)]) rfl rfl (fun hc => ⟨_, false, a2, rfl, by omega, rfl⟩) (fun hc => ⟨_, OpenTo.upd (t := 29) rfl (by first | exact hc | simp_all) (OpenTo.refl _), eop_callx (i := 0) ca53 rfl (WeakL.refl _) rfl (c_benchmake_Stream_Flip (a := a2) (by omega) (by omega)) (fun h M' hh => by
     obtain ⟨y, h1, h2⟩ := hh
     exact ⟨y, a2 + 1, h1, by omega, by rw [h2]; rfl⟩)⟩) ?_
    rintro _ _ ⟨y, a3, rfl, ha3, rfl⟩
    refine dp rfl (pop_picko rfl (.inr ⟨_, rfl, fun h => by simp_all⟩) (.inl rfl)) ?_
    refine dn ?_
    refine hw_cond rfl (fun h5 => ?_) (fun h6 => ?_)
    ·try simp at h5
     have ho0 : 0 < out.length := by simp_all
     refine hw_arrc (i := 1) rfl (fun h0 he => ?_) (fun ob off cap hv hcap => ?_)
     ·exfalso; have := congrArg List.length he; simp at this; subst this; simp at ho0
     subst hv
     refine hw_reg ?_
     refine dp rfl (pop_move rfl) ?_
     refine dp rfl (pop_move rfl) ?_
     refine dp rfl (pop_move rfl) ?_
     first
     | refine de rfl (eop_lenm (i := 0) ty65 rfl rfl ?_)
     | refine de rfl (eop_lenm (i := 1) ty65 rfl rfl ?_)
     | refine de rfl (eop_lenm (i := 2) ty65 rfl rfl ?_)
     | refine de rfl (eop_lenm (i := 3) ty65 rfl rfl ?_)
     first
     | refine de rfl (eop_callx (i := 0) ca52 rfl (WeakL.refl _) rfl (c_benchmake_Stream_Next (by first | assumption | omega | (simp; omega) | simp_all) (by first | assumption | omega | (simp; omega) | simp_all)) ?_)
     | refine de rfl (eop_callx (i := 1) ca52 rfl (WeakL.refl _) rfl (c_benchmake_Stream_Next (by first | assumption | omega | (simp; omega) | simp_all) (by first | assumption | omega | (simp; omega) | simp_all)) ?_)
     | refine de rfl (eop_callx (i := 2) ca52 rfl (WeakL.refl _) rfl (c_benchmake_Stream_Next (by first | assumption | omega | (simp; omega) | simp_all) (by first | assumption | omega | (simp; omega) | simp_all)) ?_)
     | refine de rfl (eop_callx (i := 3) ca52 rfl (WeakL.refl _) rfl (c_benchmake_Stream_Next (by first | assumption | omega | (simp; omega) | simp_all) (by first | assumption | omega | (simp; omega) | simp_all)) ?_)
     rintro _ _ ⟨y36, rfl, hy36, rfl⟩
     refine dp rfl (pop_idxraw (j := y36) ty65 ty148 rfl rfl rfl (by simp; omega)) ?_
     refine dp rfl (pop_assign rfl) ?_
     refine dn ?_
     obtain ⟨x, hx⟩ : ∃ x, out[y36]? = some x := ⟨_, List.getElem?_eq_getElem (by omega)⟩
     refine hw_reg1 ?_
     refine dp rfl (pop_move rfl) ?_
     refine dp rfl (pop_move rfl) ?_
     refine dp rfl (pop_move rfl) ?_
     refine dp rfl (pop_move rfl) ?_
     refine dp rfl ((by first | exact pop_nilCheck rfl | exact pop_nilCheck_raw rfl)) ?_
     refine dp rfl ((by first | exact pop_fieldAddr ty148 rfl ty9 (by decide) rfl | exact pop_fieldAddr_raw ty148 rfl ty9 (by decide) rfl)) ?_
     refine de rfl (eop_load_el (i := 1) (j := y36) 0 ty9 rfl (by omega) rfl hx rfl rfl ?_)
     refine dp rfl (pop_buildSlice (hs := [_, _, _]) ty28 ty9 rfl rfl (by decide) (by decide) rfl) ?_
     first
     | refine de rfl (eop_callx (i := 0) ca11 rfl (WeakL.refl _) rfl (c_benchmake_Stream_Some (L := [_, _, _]) (by first | assumption | omega | (simp; omega) | simp_all) (by first | assumption | omega | (simp; omega) | simp_all) (by first | assumption | omega | (simp; omega) | simp_all)) ?_)
     | refine de rfl (eop_callx (i := 1) ca11 rfl (WeakL.refl _) rfl (c_benchmake_Stream_Some (L := [_, _, _]) (by first | assumption | omega | (simp; omega) | simp_all) (by first | assumption | omega | (simp; omega) | simp_all) (by first | assumption | omega | (simp; omega) | simp_all)) ?_)
     | refine de rfl (eop_callx (i := 2) ca11 rfl (WeakL.refl _) rfl (c_benchmake_Stream_Some (L := [_, _, _]) (by first | assumption | omega | (simp; omega) | simp_all) (by first | assumption | omega | (simp; omega) | simp_all) (by first | assumption | omega | (simp; omega) | simp_all)) ?_)
     | refine de rfl (eop_callx (i := 3) ca11 rfl (WeakL.refl _) rfl (c_benchmake_Stream_Some (L := [_, _, _]) (by first | assumption | omega | (simp; omega) | simp_all) (by first | assumption | omega | (simp; omega) | simp_all) (by first | assumption | omega | (simp; omega) | simp_all)) ?_)
     rintro _ _ ⟨y46, rfl, hy46, rfl⟩
     refine dp rfl (pop_move rfl) ?_
     first
     | refine de rfl (eop_callx (i := 0) ca86 rfl (WeakL.refl _) rfl (c_benchmake_Stream_Odd (by first | assumption | omega | (simp; omega) | simp_all) (by first | assumption | omega | (simp; omega) | simp_all) (by first | assumption | omega | (simp; omega) | simp_all) (by first | assumption | omega | (simp; omega) | simp_all)) ?_)
     | refine de rfl (eop_callx (i := 1) ca86 rfl (WeakL.refl _) rfl (c_benchmake_Stream_Odd (by first | assumption | omega | (simp; omega) | simp_all) (by first | assumption | omega | (simp; omega) | simp_all) (by first | assumption | omega | (simp; omega) | simp_all) (by first | assumption | omega | (simp; omega) | simp_all)) ?_)
     | refine de rfl (eop_callx (i := 2) ca86 rfl (WeakL.refl _) rfl (c_benchmake_Stream_Odd (by first | assumption | omega | (simp; omega) | simp_all) (by first | assumption | omega | (simp; omega) | simp_all) (by first | assumption | omega | (simp; omega) | simp_all) (by first | assumption | omega | (simp; omega) | simp_all)) ?_)
     | refine de rfl (eop_callx (i := 3) ca86 rfl (WeakL.refl _) rfl (c_benchmake_Stream_Odd (by first | assumption | omega | (simp; omega) | simp_all) (by first | assumption | omega | (simp; omega) | simp_all) (by first | assumption | omega | (simp; omega) | simp_all) (by first | assumption | omega | (simp; omega) | simp_all)) ?_)
     rintro _ _ ⟨y48, rfl, rfl⟩
     refine dp rfl ((by first | exact pop_nilCheck rfl | exact pop_nilCheck_raw rfl)) ?_
     refine dp rfl ((by first | exact pop_fieldAddr ty148 rfl ty9 (by decide) rfl | exact pop_fieldAddr_raw ty148 rfl ty9 (by decide) rfl)) ?_
     refine de0 (eop_store_arr (i := 1) (j := y36) (f := 0) (y := ePlace x) (y' := ePlace ⟨y46, x.Many⟩) ty9 rfl (by omega) rfl rfl (map_get hx) rfl rfl (by simp [hcells]) rfl ?_)
     refine dp rfl ((by first | exact pop_nilCheck rfl | exact pop_nilCheck_raw rfl)) ?_
     refine dp rfl ((by first | exact pop_fieldAddr ty148 rfl ty3 (by decide) rfl | exact pop_fieldAddr_raw ty148 rfl ty3 (by decide) rfl)) ?_
     refine de0 (eop_store_arr (i := 1) (j := y36) (f := 1) (y := ePlace ⟨y46, x.Many⟩) (y' := ePlace ⟨y46, y48⟩) ty3 rfl (by omega) rfl rfl (set_self (map_get hx)) rfl rfl (by simp [hcells]) rfl ?_)
     refine dn ?_
     exact ⟨(out.set y36 ⟨y46, y48⟩, a3 + 4), ⟨by simp; omega, all_set (P := GoodP) g2 (by simp at hy46; rcases hy46 with rfl | rfl | rfl; exact g2 x (List.mem_of_getElem? hx); exact nil_sh; (unfold GoodP Sh; simp)), by dsimp only; omega⟩, trivial, (by repeat (first | exact keeps_refl | refine keeps_upd rfl ?_ | refine keeps_loop rfl rfl ?_)), by repeat (first | exact List.Perm.nil | refine permTo 0 rfl ?_ | refine permTo 1 rfl ?_ | refine permTo 2 rfl ?_ | refine permTo 3 rfl ?_ | (refine permToE 0 rfl ?hq ?_; (case hq => simp [setL, hcells]; done)) | (refine permToE 1 rfl ?hq ?_; (case hq => simp [setL, hcells]; done)) | (refine permToE 2 rfl ?hq ?_; (case hq => simp [setL, hcells]; done)) | (refine permToE 3 rfl ?hq ?_; (case hq => simp [setL, hcells]; done)) | fail)⟩
    ·try simp at h6
     refine hw_skip ?_
     exact ⟨(out, a3), ⟨by dsimp only; omega, g2, by dsimp only; omega⟩, trivial, (by repeat (first | exact keeps_refl | refine keeps_upd rfl ?_ | refine keeps_loop rfl rfl ?_)), by repeat (first | exact List.Perm.nil | refine permTo 0 rfl ?_ | refine permTo 1 rfl ?_ | refine permTo 2 rfl ?_ | refine permTo 3 rfl ?_ | (refine permToE 0 rfl ?hq ?_; (case hq => simp [setL, hcells]; done)) | (refine permToE 1 rfl ?hq ?_; (case hq => simp [setL, hcells]; done)) | (refine permToE 2 rfl ?hq ?_; (case hq => simp [setL, hcells]; done)) | (refine permToE 3 rfl ?hq ?_; (case hq => simp [setL, hcells]; done)) | fail)⟩
   ·intro q hq3
    obtain ⟨k1, a4⟩ := q
    dsimp only at hq3
    obtain ⟨q1, q2, q3⟩ := hq3
    refine hw_reg ?_
    refine dp rfl (pop_move rfl) ?_
    refine dp rfl (pop_assign rfl) ?_
    refine dn ?_
    refine hw_ret ?_
    refine ret_g (Ghost.fa 2 (i := 1) rfl rfl) rfl ⟨k1, a4, rfl, ⟨by omega, q2⟩, by omega, rfl⟩
end Go.Proofs.YtihpgpbbpklbbaaGreatDoor
end
section
namespace Go.Proofs.YtihpgpbbpklbbaaGreatDoor
open Go.HL
set_option maxRecDepth 100000
set_option linter.unusedVariables false
set_option linter.unusedSimpArgs false
/-- benchwarmer/value.level -/
theorem c_value_level [Tracks] {l : List Asset} {p : HL.Place} {teams : Int} (hl : l.length ≤ 12) (hm : 0 ≤ p.Many ∧ p.Many ≤ 12) (ht : 1 ≤ teams ∧ teams ≤ 20) : ConP Tryz.prog 138 [eAssets l, ePlace p, .int .i64 teams] (.int .i64 (levelP l p teams)) := by
 have hmt := mul_bd (a := p.Many) (b := teams) (A := 12) (B := 20) hm.1 hm.2 (by omega) ht.2
 have hol := ofP_len l p.Position
 refine Con.of_body Tryz.func138 rfl Tryz.ntmps138 rfl rfl ?_
 refine hw_reg ?_
 refine dp rfl (pop_box rfl rfl) ?_
 refine dp rfl (pop_assign rfl) ?_
 refine dn ?_
 refine hw_reg ?_
 refine dp rfl (pop_move rfl) ?_
 refine dp rfl (pop_fieldAddr ty148 rfl ty9 (by decide) rfl) ?_
 refine dp rfl (pop_load ty9 rfl rfl rfl) ?_
 refine dp rfl (pop_call ca139 rfl (WeakL.refl _) (c_value_of (by first | assumption | omega | (simp; omega) | simp_all))) ?_
 refine dp rfl (pop_assign rfl) ?_
 refine dn ?_
 refine hw_seq ?_
 refine hw_reg ?_
 refine dp rfl (pop_move rfl) ?_
 refine dp rfl (pop_lenm ty63 rfl) ?_
 refine dp rfl (pop_eql rfl rfl) ?_
 refine dn ?_
 refine hw_cond rfl (fun h1 => ?_) (fun h2 => ?_)
 ·try simp at h1
  refine hw_reg ?_
  refine dp rfl (pop_assign rfl) ?_
  refine dn ?_
  refine hw_ret ?_
  refine ret_p rfl ?_
  show HVal.int .i64 _ = _
  first | (rw [levelP, levelOf, if_pos (by simp_all)]; done) | (rw [levelP, levelOf, if_neg hne]; done)
 ·try simp at h2
  refine hw_skip ?_
  refine seqQ_n ?_
  have hne : (ofP l p.Position).length ≠ 0 := by intro e; apply h2; simpa using e
  refine hw_reg ?_
  refine dp rfl (pop_move rfl) ?_
  refine dp rfl (pop_fieldAddr ty148 rfl ty3 (by decide) rfl) ?_
  refine dp rfl (pop_load ty3 rfl rfl rfl) ?_
  refine dp rfl (pop_move rfl) ?_
  refine dp rfl (pop_mul64 rfl rfl (by omega) (by omega)) ?_
  refine dp rfl (pop_move rfl) ?_
  refine dp rfl (pop_lenm ty63 rfl) ?_
  refine dp rfl (pop_sub64 rfl rfl (by omega) (by omega)) ?_
  refine dp rfl (pop_min rfl rfl) ?_
  refine dp rfl (pop_idx (j := (min (p.Many * teams) (((ofP l p.Position).length : Int) - 1)).toNat) (a := (ofP l p.Position).getD (min (p.Many * teams) (((ofP l p.Position).length : Int) - 1)).toNat asset0) ty63 ty83 rfl rfl (by split <;> omega) (getD_some (by omega))) ?_
  refine dp rfl (pop_fieldAddr ty83 rfl ty3 (by decide) rfl) ?_
  refine dp rfl (pop_load ty3 rfl rfl rfl) ?_
  refine dp rfl (pop_assign rfl) ?_
  refine dn ?_
  refine hw_ret ?_
  refine ret_p rfl ?_
  show HVal.int .i64 _ = _
  first | (rw [levelP, levelOf, if_pos (by simp_all)]; done) | (rw [levelP, levelOf, if_neg hne]; done)

/-- benchwarmer/value.levelsFault -/
theorem c_value_levelsFault [Tracks] {l : List Asset} {p : List HL.Place} {teams : Int} (hl : l.length ≤ 1000000) (hp : p.length ≤ 1000000) : ConP Tryz.prog 90 [eAssets l, ePlaces p, .int .i64 teams] (.int .i64 (lfault l p teams)) := by
 refine Con.of_body Tryz.func90 rfl Tryz.ntmps90 rfl rfl ?_
 refine hw_reg ?_
 refine dp rfl (pop_assign rfl) ?_
 refine dn ?_
 refine hw_reg ?_
 refine dp rfl (pop_move rfl) ?_
 refine dp rfl (pop_call ca97 rfl (WeakL.refl _) (c_value_CheckAssets (by first | assumption | omega | (simp; omega) | simp_all))) ?_
 refine dp rfl (pop_move rfl) ?_
 refine dp rfl (pop_call ca98 rfl (WeakL.refl _) (c_value_CheckPlaces (by first | assumption | omega | (simp; omega) | simp_all))) ?_
 refine dp rfl (pop_buildSlice (hs := [_, _]) ty124 ty33 rfl rfl (by decide) (by decide) rfl) ?_
 refine dp rfl (pop_call ca60 rfl (WeakL.refl _) (c_base_First (l := [_, _]) (by simp))) ?_
 refine dp rfl (pop_assign rfl) ?_
 refine dn ?_
 refine hw_seq ?_
 refine hw_reg ?_
 refine dp rfl (pop_move rfl) ?_
 refine dp rfl (pop_eql rfl rfl) ?_
 refine dp rfl (pop_move rfl) ?_
 refine dg rfl rfl (fun hc => ⟨_, OpenTo.refl _, pop_move rfl⟩) ?_
 refine dg rfl rfl (fun hc => ⟨_, OpenTo.upd (t := 17) rfl (by first | exact hc | simp_all) (OpenTo.refl _), pop_call ca92 rfl (WeakL.refl _) c_base_Out⟩) ?_
 refine dp rfl (pop_picko rfl (.inr ⟨_, rfl, fun h => by simp_all⟩) (.inl rfl)) ?_
 refine dn ?_
 refine hw_cond rfl (fun h1 => ?_) (fun h2 => ?_)
 ·try simp at h1
  refine hw_reg1 ?_
  refine dp rfl (pop_assign rfl) ?_
  refine dn ?_
  refine seqQ_n ?_
  refine hw_reg ?_
  refine dp rfl (pop_move rfl) ?_
  refine dp rfl (pop_assign rfl) ?_
  refine dn ?_
  refine hw_ret ?_
  refine ret_p rfl ?_
  show HVal.int .i64 _ = _
  simp_all [lfault, okAP]
 ·try simp at h2
  refine hw_skip ?_
  refine seqQ_n ?_
  refine hw_reg ?_
  refine dp rfl (pop_move rfl) ?_
  refine dp rfl (pop_assign rfl) ?_
  refine dn ?_
  refine hw_ret ?_
  refine ret_p rfl ?_
  show HVal.int .i64 _ = _
  simp_all [lfault, okAP]

/-- benchwarmer/value.worths$1 -/
theorem c_value_worths_1 [Tracks] {x y : Over}  : ConP Tryz.prog 141 [eOver x, eOver y] (.int .i64 (byWorth x y)) := by
 refine Con.of_body Tryz.func141 rfl Tryz.ntmps141 rfl rfl ?_
 refine hw_reg ?_
 refine dp rfl (pop_box rfl rfl) ?_
 refine dp rfl (pop_box rfl rfl) ?_
 refine dp rfl (pop_assign rfl) ?_
 refine dn ?_
 refine hw_draw (fun _ => True) [] mixed ?_
 refine ahp 0 rfl rfl (by kernel_rfl) (by kernel_rfl) (pop_fieldAddr ty77 rfl ty3 (by decide) rfl) ?_
 refine ahp 1 rfl rfl (by kernel_rfl) (by kernel_rfl) (pop_load ty3 rfl rfl rfl) ?_
 refine ahp 2 rfl rfl (by kernel_rfl) (by kernel_rfl) (pop_fieldAddr ty77 rfl ty3 (by decide) rfl) ?_
 refine ahp 3 rfl rfl (by kernel_rfl) (by kernel_rfl) (pop_load ty3 rfl rfl rfl) ?_
 refine ahp 4 rfl rfl (by kernel_rfl) (by kernel_rfl) (pop_call ca108 rfl (WeakL.refl _) c_cmp_Compare_int) ?_
 refine ahp 5 rfl rfl (by kernel_rfl) (by kernel_rfl) (pop_fieldAddr ty77 rfl ty9 (by decide) rfl) ?_
 refine ahp 6 rfl rfl (by kernel_rfl) (by kernel_rfl) (pop_load ty9 rfl rfl rfl) ?_
 refine ahp 7 rfl rfl (by kernel_rfl) (by kernel_rfl) (pop_fieldAddr ty77 rfl ty9 (by decide) rfl) ?_
 refine ahp 8 rfl rfl (by kernel_rfl) (by kernel_rfl) (pop_load ty9 rfl rfl rfl) ?_
 refine ahp 9 rfl rfl (by kernel_rfl) (by kernel_rfl) (pop_call ca81 rfl (WeakL.refl _) c_strings_Compare) ?_
 refine ahp 10 rfl rfl (by kernel_rfl) (by kernel_rfl) (pop_buildSlice (hs := [_, _]) ty22 ty3 rfl rfl (by decide) (by decide) rfl) ?_
 refine ahp 11 rfl rfl (by kernel_rfl) (by kernel_rfl) (pop_call ca80 rfl (WeakL.refl _) (c_cmp_Or_int (l := [_, _]) (by simp))) ?_
 refine ahp 12 rfl rfl (by kernel_rfl) (by kernel_rfl) (pop_assign rfl) ?_
 refine ahz (by kernel_rfl) ?_
 refine hw_ret ?_
 refine ret_p rfl ?_
 rfl

set_option maxHeartbeats 2000000 in
/-- benchwarmer/value.worths -/
theorem c_value_worths [Tracks] {l : List Asset} {p : List HL.Place} {teams : Int} (hl : l.length ≤ 12) (hp : p.length ≤ 10) (hm : ∀ x ∈ p, 0 ≤ x.Many ∧ x.Many ≤ 12) (ht : 1 ≤ teams ∧ teams ≤ 20) (hv : ∀ x ∈ l, -1000000 ≤ x.Value ∧ x.Value ≤ 1000000) (ho : (overP l p teams).length ≤ 12) : ConP Tryz.prog 91 [eAssets l, ePlaces p, .int .i64 teams] (eOvers (ranked (isort byWorth (overP l p teams)))) := by
 refine Con.of_body Tryz.func91 rfl Tryz.ntmps91 rfl rfl ?_
 refine hw_reg ?_
 refine dp rfl (pop_assign rfl) ?_
 refine dn ?_
 refine hw_reg ?_
 refine dp rfl (pop_assign rfl) ?_
 refine dn ?_
 refine hw_ghost (Ghost.arr_nil 3) ?_
 refine hw_seq ?_
 refine hw_reg ?_
 refine dp rfl (pop_move rfl) ?_
 refine dp rfl (pop_lenm ty65 rfl) ?_
 refine dp rfl (pop_move rfl) ?_
 refine dn ?_
 refine hw_block ?_
 refine hw_loopw2 [7, 9, 10, 12, 16, 17, 18, 19, 20, 21, 22, 23, 24, 25, 26, 27, 28, 29, 30, 31, 32, 33, 34, 35, 36, 37, 38, 39, 40, 41, 42, 43, 44] (fun (i : Nat) (u : Value) => [(16, .int .i64 i), (7, .raw u)]) (fun (i : Nat) (u : Value) => [.arr u 3 ((overP l (p.take i) teams).map eOver)]) (fun (i : Nat) (u : Value) => i ≤ p.length ∧ (True)) (fun (i : Nat) (u : Value) => p.length - i) (0) (.slice none 0 0) ?_ ?_ ?_ ?_
 ·exact ⟨Nat.zero_le _, by simp_all⟩
 ·exact ⟨rfl, rfl, trivial⟩
 ·exact perm_eq (by simp [overP])
 ·intro i u hinv
  obtain ⟨hi, -⟩ := hinv
  refine hw_reg ?_
  refine dp rfl (pop_lss rfl rfl) ?_
  refine dn ?_
  refine hw_seq ?_
  refine hw_cond rfl (fun h1 => ?_) (fun h2 => ?_)
  ·try simp at h1
   obtain ⟨x, hx⟩ : ∃ x, p[i]? = some x := ⟨_, List.getElem?_eq_getElem h1⟩
   have hdx := drop_cons hx
   refine hw_skip ?_
   refine seqQ_n ?_
   refine hw_seq ?_
   refine hw_block ?_
   refine hw_reg ?_
   refine dp rfl (pop_idx ty65 ty148 rfl rfl rfl (by first | assumption | simp_all)) ?_
   refine dp rfl (pop_loadw ty148 rfl rfl rfl rfl) ?_
   refine de rfl (eop_alloc ty148 rfl fun b9 => ?_)
   refine de0 (eop_storew ty148 rfl rfl rfl rfl rfl ?_)
   refine dn ?_
   refine hw_ghost (Ghost.fc0 9 rfl) ?_
   refine hw_reg ?_
   refine dp rfl (pop_move rfl) ?_
   refine dp rfl (pop_loadw ty148 rfl rfl rfl rfl) ?_
   refine dp rfl (pop_move rfl) ?_
   refine dp rfl (pop_call ca138 rfl (WeakL.refl _) (c_value_level (l := l) (p := x) (teams := teams) hl (hm x (List.mem_of_getElem? hx)) ht)) ?_
   refine dp rfl (pop_assign rfl) ?_
   refine dn ?_
   refine hw_reg ?_
   refine dp rfl (pop_move rfl) ?_
   refine dp rfl ((by first | exact pop_fieldAddr ty148 rfl ty9 (by decide) rfl | exact pop_fieldAddr_raw ty148 rfl ty9 (by decide) rfl)) ?_
   refine dp rfl (pop_load ty9 rfl rfl rfl) ?_
   refine dp rfl (pop_call ca139 rfl (WeakL.refl _) (c_value_of (by first | assumption | omega | (simp; omega) | simp_all))) ?_
   refine dp rfl (pop_lenm ty63 rfl) ?_
   refine dp rfl (pop_move rfl) ?_
   refine dn ?_
   refine hw_block ?_
   refine hw_loopw2 [7, 12, 29, 30, 31, 32, 33, 34, 35, 36, 37, 38, 39, 40, 41, 42, 43] (fun (k : Nat) (w : Value) => [(29, .int .i64 k), (7, .raw w)]) (fun (k : Nat) (w : Value) => [.arr w 3 (((overP l (p.take i) teams) ++ (((ofP l x.Position).take k).map fun y => (⟨y.Player, y.Value - levelP l x teams, 0⟩ : Over))).map eOver)]) (fun (k : Nat) (w : Value) => k ≤ (ofP l x.Position).length ∧ (True)) (fun (k : Nat) (w : Value) => (ofP l x.Position).length - k) (0) (u) ?_ ?_ ?_ ?_
   ·exact ⟨Nat.zero_le _, by simp_all⟩
   ·exact ⟨rfl, rfl, trivial⟩
   ·exact perm_eq (by simp)
   ·intro k w hinv
    obtain ⟨hk, -⟩ := hinv
    refine hw_reg ?_
    refine dp rfl (pop_lss rfl rfl) ?_
    refine dn ?_
    refine hw_seq ?_
    refine hw_cond rfl (fun h3 => ?_) (fun h4 => ?_)
    ·try simp at h3
     obtain ⟨y, hy⟩ : ∃ y, (ofP l x.Position)[k]? = some y := ⟨_, List.getElem?_eq_getElem h3⟩
     have hdy := drop_cons hy
     refine hw_skip ?_
     refine seqQ_n ?_
     refine hw_seq ?_
     refine hw_block ?_
     refine hw_reg ?_
     refine dp rfl (pop_idx ty63 ty83 rfl rfl rfl (by first | assumption | simp_all)) ?_
     refine dp rfl (pop_loadw ty83 rfl rfl rfl rfl) ?_
     refine de rfl (eop_alloc ty83 rfl fun b12 => ?_)
     refine de0 (eop_storew ty83 rfl rfl rfl rfl rfl ?_)
     refine dn ?_
     refine hw_ghost (Ghost.fc0 12 rfl) ?_
     refine hw_reg1 ?_
     refine dp rfl (pop_move rfl) ?_
     refine dp rfl ((by first | exact pop_fieldAddr ty83 rfl ty9 (by decide) rfl | exact pop_fieldAddr_raw ty83 rfl ty9 (by decide) rfl)) ?_
     refine dp rfl (pop_load ty9 rfl rfl rfl) ?_
     refine dp rfl ((by first | exact pop_fieldAddr ty83 rfl ty3 (by decide) rfl | exact pop_fieldAddr_raw ty83 rfl ty3 (by decide) rfl)) ?_
     refine dp rfl (pop_load ty3 rfl rfl rfl) ?_
     refine dp rfl (pop_move rfl) ?_
     have hlb := levelOf_bd (o := ofP l x.Position) (fun y hy => ofP_mem hy) hv x.Many teams
     have hvy := hv y (ofP_mem (List.mem_of_getElem? hy))
     have hol := ofP_len l x.Position
     have hfl := overP_len hl teams (p.take i)
     have hpi : (p.take i).length ≤ 10 := by simp; omega
     refine dp rfl (pop_sub64 rfl rfl (by unfold levelP; omega) (by unfold levelP; omega)) ?_
     refine dp rfl (pop_build (cs := [_, _, _]) ty77 pl77 rfl) ?_
     refine dp rfl (pop_buildSlice (hs := [_]) ty70 ty77 rfl rfl (by decide) (by decide) rfl) ?_
     refine de rfl (eop_append (i := 0) ty70 ty77 rfl rfl rfl rfl rfl (by simp [flat, hcells, ofVal, ofVal1]) (by simp only [List.length_map, List.length_append, List.length_take, List.length_cons, List.length_nil]; omega) fun v42 => ?_)
     refine dp rfl (pop_assign rfl) ?_
     refine dn ?_
     refine blockQ_n ?_
     refine seqQ_n ?_
     refine hw_reg1 ?_
     refine dp rfl (pop_add64 rfl rfl (by omega) (by omega)) ?_
     refine dp rfl (pop_move rfl) ?_
     refine dn ?_
     refine ⟨k + 1, _, ?_, ?_, ⟨rfl, rfl, trivial⟩, (by repeat (first | exact keeps_refl | refine keeps_upd rfl ?_ | refine keeps_loop rfl rfl ?_)), perm_eq (by simp [List.take_add_one, hy, ofVal, ofVal1])⟩
     ·exact ⟨by omega, trivial⟩
     ·dsimp only; omega
    ·try simp at h4
     have hnk : (ofP l x.Position).length ≤ k := by omega
     obtain rfl : k = (ofP l x.Position).length := by omega
     refine hw_exit ?_
     refine seqQ_x ?_
     refine loopQ2_x ?_
     refine blockQ_eq ?_
     refine blockQ_n ?_
     refine seqQ_n ?_
     refine hw_reg1 ?_
     refine dp rfl (pop_add64 rfl rfl (by omega) (by omega)) ?_
     refine dp rfl (pop_move rfl) ?_
     refine dn ?_
     exact ⟨i + 1, _, ⟨by omega, trivial⟩, by dsimp only; omega, ⟨rfl, rfl, trivial⟩, (by repeat (first | exact keeps_refl | refine keeps_upd rfl ?_ | refine keeps_loop rfl rfl ?_)), perm_eq (by dsimp only; rw [overP_snoc l teams hx, List.take_length])⟩
  ·try simp at h2
   have hni : p.length ≤ i := by omega
   obtain rfl : i = p.length := by omega
   refine hw_exit ?_
   refine seqQ_x ?_
   refine loopQ2_x ?_
   refine blockQ_eq ?_
   refine seqQ_n ?_
   rw [List.take_length]
   refine hw_reg ?_
   refine dp rfl (pop_move rfl) ?_
   first
   | refine de rfl (eop_callx (i := 0) ca140 rfl (WeakL.refl _) rfl (c_slices_SortFunc_api_Over_api_Over (l := overP l p teams) (c := byWorth) (caps := []) ca141 (fun x y => c_value_worths_1) ho) ?_)
   | refine de rfl (eop_callx (i := 1) ca140 rfl (WeakL.refl _) rfl (c_slices_SortFunc_api_Over_api_Over (l := overP l p teams) (c := byWorth) (caps := []) ca141 (fun x y => c_value_worths_1) ho) ?_)
   | refine de rfl (eop_callx (i := 2) ca140 rfl (WeakL.refl _) rfl (c_slices_SortFunc_api_Over_api_Over (l := overP l p teams) (c := byWorth) (caps := []) ca141 (fun x y => c_value_worths_1) ho) ?_)
   | refine de rfl (eop_callx (i := 3) ca140 rfl (WeakL.refl _) rfl (c_slices_SortFunc_api_Over_api_Over (l := overP l p teams) (c := byWorth) (caps := []) ca141 (fun x y => c_value_worths_1) ho) ?_)
   rintro _ _ ⟨rfl, rfl⟩
   refine dn ?_
   generalize hW : isort byWorth (overP l p teams) = W
   have hWl : W.length ≤ 12 := by rw [← hW, isort_len]; exact ho
   refine hw_seq ?_
   refine hw_reg ?_
   refine dp rfl (pop_move rfl) ?_
   first
   | refine de rfl (eop_lenm (i := 0) ty70 rfl rfl ?_)
   | refine de rfl (eop_lenm (i := 1) ty70 rfl rfl ?_)
   | refine de rfl (eop_lenm (i := 2) ty70 rfl rfl ?_)
   | refine de rfl (eop_lenm (i := 3) ty70 rfl rfl ?_)
   refine dp rfl (pop_move rfl) ?_
   refine dn ?_
   refine hw_block ?_
   refine hw_loopw [13, 49, 50, 51, 52, 53, 54, 55, 56, 57, 58, 59, 60, 61, 62, 63, 64, 65, 66, 67, 68, 69, 70, 71, 72, 73, 74, 75, 76, 77, 78, 79, 80, 81, 82, 83, 84] (fun (k : Nat) => [(49, .int .i64 k)]) (fun (k : Nat) => [.arr u 3 ((rankTo W k).map eOver)]) (fun (k : Nat) => k ≤ W.length ∧ (True)) (fun (k : Nat) => W.length - k) (0) ?_ ?_ ?_ ?_
   ·exact ⟨Nat.zero_le _, by simp_all⟩
   ·exact ⟨rfl, trivial⟩
   ·exact perm_eq (by rw [rankTo_zero]; rfl)
   ·intro k hinv
    obtain ⟨hk, -⟩ := hinv
    refine hw_reg ?_
    refine dp rfl (pop_lss rfl rfl) ?_
    refine dn ?_
    refine hw_seq ?_
    refine hw_cond rfl (fun h5 => ?_) (fun h6 => ?_)
    ·try simp at h5
     obtain ⟨x, hx⟩ : ∃ x, W[k]? = some x := ⟨_, List.getElem?_eq_getElem h5⟩
     have hdx := drop_cons hx
     refine hw_arrc (i := 0) rfl (fun h0 he => ?_) (fun b off cap hv hcap => ?_)
     ·exfalso
      have h9 : (rankTo W k).length = 0 := by simpa using congrArg List.length he
      rw [rankTo_len] at h9
      omega
     rw [List.length_map, rankTo_len] at hv hcap
     subst hv
     refine hw_skip ?_
     refine seqQ_n ?_
     refine hw_seq ?_
     refine hw_block ?_
     refine hw_reg ?_
     refine dp rfl (pop_move rfl) ?_
     refine dp rfl (pop_assign rfl) ?_
     refine dn ?_
     refine hw_reg ?_
     refine dp rfl (pop_move rfl) ?_
     refine dp rfl (pop_move rfl) ?_
     refine dp rfl (pop_move rfl) ?_
     refine dp rfl (pop_add64 rfl rfl (by omega) (by omega)) ?_
     refine dp rfl (pop_idxraw (j := k) ty70 ty77 rfl rfl rfl (by omega)) ?_
     refine dp rfl ((by first | exact pop_fieldAddr ty77 rfl ty3 (by decide) rfl | exact pop_fieldAddr_raw ty77 rfl ty3 (by decide) rfl)) ?_
     refine de0 (eop_store_arr (i := 0) (j := k) (f := 2) (y := eOver x) (y' := eOver ⟨x.Player, x.Worth, (k : Int) + 1⟩) ty3 rfl (by omega) rfl rfl (map_get ((rankTo_get hx).trans (by simp))) rfl rfl (by simp [hcells]) rfl ?_)
     refine dn ?_
     refine hw_draw (fun M => ∃ i : Nat, M[i]? = some (.arr (.slice (some ⟨b, off, none⟩) W.length cap) 3 (((rankTo W k).map eOver).set k (eOver ⟨x.Player, x.Worth, (k : Int) + 1⟩)))) [7, 13] mixed ?_
     refine ahp 0 rfl rfl (by kernel_rfl) (by kernel_rfl) (pop_move rfl) ?_
     refine ahp 1 rfl rfl (by kernel_rfl) (by kernel_rfl) (pop_gtr rfl rfl) ?_
     refine ahp 2 rfl rfl (by kernel_rfl) (by kernel_rfl) (pop_move rfl) ?_
     refine ahg 3 rfl rfl (by kernel_rfl) (by kernel_rfl) rfl (fun hc => ⟨_, OpenTo.refl _, pop_move rfl⟩) ?_
     refine ahg 4 rfl rfl (by kernel_rfl) (by kernel_rfl) rfl (fun hc => ⟨_, OpenTo.refl _, pop_move rfl⟩) ?_
     refine ahg 5 rfl rfl (by kernel_rfl) (by kernel_rfl) rfl (fun hc => by have hq := hc; (try simp at hq); exact ⟨_, OpenTo.upd (t := 62) rfl (by first | exact hc | simp_all) (OpenTo.upd (t := 61) rfl (by first | exact hc | simp_all) (OpenTo.refl _)), pop_idxraw (j := k) ty70 ty77 rfl rfl rfl (by omega)⟩) ?_
     refine ahg 6 rfl rfl (by kernel_rfl) (by kernel_rfl) rfl (fun hc => ⟨_, OpenTo.upd (t := 63) rfl (by first | exact hc | simp_all) (OpenTo.refl _), (by first | exact pop_fieldAddr ty77 rfl ty3 (by decide) rfl | exact pop_fieldAddr_raw ty77 rfl ty3 (by decide) rfl)⟩) ?_
     refine ahgl 7 rfl rfl (by kernel_rfl) (by kernel_rfl) (by simp) ⟨0, rfl⟩ rfl (fun hc => ⟨_, OpenTo.upd (t := 64) rfl (by first | exact hc | simp_all) (OpenTo.refl _), fun M hM => by
      obtain ⟨i, hi⟩ := hM; exact eop_load_arr (i := i) (j := k) (f := 1) (y := eOver ⟨x.Player, x.Worth, (k : Int) + 1⟩) ty3 rfl (by omega) hi (set_self (map_get (rankTo_get hx))) (.inl ⟨rfl, rfl⟩) ⟨rfl, rfl⟩
      ⟩) ?_
     refine ahg 8 rfl rfl (by kernel_rfl) (by kernel_rfl) rfl (fun hc => ⟨_, OpenTo.refl _, pop_move rfl⟩) ?_
     refine ahg 9 rfl rfl (by kernel_rfl) (by kernel_rfl) rfl (fun hc => ⟨_, OpenTo.refl _, pop_move rfl⟩) ?_
     refine ahg 10 rfl rfl (by kernel_rfl) (by kernel_rfl) rfl (fun hc => by
      have hq : 0 < k := by simpa using hc
      exact ⟨_, OpenTo.upd (t := 67) rfl (by first | exact hc | simp_all) (OpenTo.refl _), pop_sub64 rfl rfl (by omega) (by omega)⟩) ?_
     refine ahg 11 rfl rfl (by kernel_rfl) (by kernel_rfl) rfl (fun hc => by
      have hq : 0 < k := by simpa using hc
      exact ⟨_, OpenTo.upd (t := 68) rfl (by first | exact hc | simp_all) (OpenTo.upd (t := 66) rfl (by first | exact hc | simp_all) (OpenTo.refl _)), pop_idxraw (j := k - 1) ty70 ty77 rfl rfl (by omega) (by omega)⟩) ?_
     refine ahg 12 rfl rfl (by kernel_rfl) (by kernel_rfl) rfl (fun hc => ⟨_, OpenTo.upd (t := 69) rfl (by first | exact hc | simp_all) (OpenTo.refl _), (by first | exact pop_fieldAddr ty77 rfl ty3 (by decide) rfl | exact pop_fieldAddr_raw ty77 rfl ty3 (by decide) rfl)⟩) ?_
     refine ahgl 13 rfl rfl (by kernel_rfl) (by kernel_rfl) (by simp) ⟨0, rfl⟩ rfl (fun hc => ⟨_, OpenTo.upd (t := 70) rfl (by first | exact hc | simp_all) (OpenTo.refl _), fun M hM => by
      have hq : 0 < k := by simpa using hc
      obtain ⟨i, hi⟩ := hM
      have hg1 : W[k - 1]? = some (W.getD (k - 1) over0) := getD_some (by omega)
      exact eop_load_arr (i := i) (j := k - 1) (f := 1) (y := eOver { W.getD (k - 1) over0 with Rank := rankAt W (k - 1) }) ty3 rfl (by omega) hi (by rw [List.getElem?_set_ne (by omega)]; exact map_get ((rankTo_get hg1).trans (by rw [if_pos (by omega)]))) (.inl ⟨rfl, rfl⟩) ⟨rfl, rfl⟩
      ⟩) ?_
     refine ahg 14 rfl rfl (by kernel_rfl) (by kernel_rfl) rfl (fun hc => ⟨_, OpenTo.upd (t := 71) rfl (by first | exact hc | simp_all) (OpenTo.upd (t := 65) rfl (by first | exact hc | simp_all) (OpenTo.refl _)), pop_eql rfl rfl⟩) ?_
     refine ahp 15 rfl rfl (by kernel_rfl) (by kernel_rfl) (pop_picko rfl (.inr ⟨_, rfl, fun h => by simp_all⟩) (.inl rfl)) ?_
     refine ahz (by kernel_rfl) ?_
     refine hw_cond rfl (fun h7 => ?_) (fun h8 => ?_)
     ·try simp at h7
      refine hw_reg1 ?_
      refine dp rfl (pop_move rfl) ?_
      refine dp rfl (pop_move rfl) ?_
      refine dp rfl (pop_move rfl) ?_
      refine dp rfl (pop_move rfl) ?_
      refine dp rfl (pop_sub64 rfl rfl (by omega) (by omega)) ?_
      refine dp rfl (pop_idxraw (j := k - 1) ty70 ty77 rfl rfl (by omega) (by omega)) ?_
      refine dp rfl ((by first | exact pop_fieldAddr ty77 rfl ty3 (by decide) rfl | exact pop_fieldAddr_raw ty77 rfl ty3 (by decide) rfl)) ?_
      obtain ⟨hk0, hke⟩ := h7
      have hg1 : W[k - 1]? = some (W.getD (k - 1) over0) := getD_some (by omega)
      refine de rfl (eop_load_arr (i := 0) (j := k - 1) (f := 2) (y := eOver { W.getD (k - 1) over0 with Rank := rankAt W (k - 1) }) ty3 rfl (by omega) rfl (by rw [List.getElem?_set_ne (by omega)]; exact map_get ((rankTo_get hg1).trans (by rw [if_pos (by omega)]))) (.inl ⟨rfl, rfl⟩) ?_)
      refine dp rfl (pop_idxraw (j := k) ty70 ty77 rfl rfl rfl (by omega)) ?_
      refine dp rfl ((by first | exact pop_fieldAddr ty77 rfl ty3 (by decide) rfl | exact pop_fieldAddr_raw ty77 rfl ty3 (by decide) rfl)) ?_
      refine de0 (eop_store_arr (i := 0) (j := k) (f := 2) (y := eOver ⟨x.Player, x.Worth, (k : Int) + 1⟩) (y' := eOver ⟨x.Player, x.Worth, rankAt W (k - 1)⟩) ty3 rfl (by omega) rfl rfl (set_self (map_get (rankTo_get hx))) rfl rfl (by simp [hcells]) rfl ?_)
      refine dn ?_
      refine blockQ_n ?_
      refine seqQ_n ?_
      refine hw_reg1 ?_
      refine dp rfl (pop_add64 rfl rfl (by omega) (by omega)) ?_
      refine dp rfl (pop_move rfl) ?_
      refine dn ?_
      exact ⟨k + 1, ⟨by omega, trivial⟩, by dsimp only; omega, ⟨rfl, trivial⟩, (by repeat (first | exact keeps_refl | refine keeps_upd rfl ?_ | refine keeps_loop rfl rfl ?_)), perm_eq (by dsimp only; rw [rankTo_succ hx, rankAt_old hx hk0 (by simpa [List.getD] using hke), List.map_set]; simp)⟩
     ·try simp at h8
      refine hw_skip ?_
      refine blockQ_n ?_
      refine seqQ_n ?_
      refine hw_reg1 ?_
      refine dp rfl (pop_add64 rfl rfl (by omega) (by omega)) ?_
      refine dp rfl (pop_move rfl) ?_
      refine dn ?_
      exact ⟨k + 1, ⟨by omega, trivial⟩, by dsimp only; omega, ⟨rfl, trivial⟩, (by repeat (first | exact keeps_refl | refine keeps_upd rfl ?_ | refine keeps_loop rfl rfl ?_)), perm_eq (by dsimp only; rw [rankTo_succ hx, rankAt_new hx (by simpa [List.getD] using h8), List.map_set]; simp)⟩
    ·try simp at h6
     have hnk : W.length ≤ k := by omega
     obtain rfl : k = W.length := by omega
     refine hw_exit ?_
     refine seqQ_x ?_
     refine loopQ_x ?_
     refine blockQ_eq ?_
     refine seqQ_n ?_
     refine hw_reg ?_
     refine dp rfl (pop_move rfl) ?_
     refine dp rfl (pop_assign rfl) ?_
     refine dn ?_
     refine hw_ret ?_
     refine ret_fa (M := []) 6 rfl rfl ?_
     rw [rankTo_all]

/-- benchwarmer/value.Worths -/
theorem c_value_Worths [Tracks] {l : List Asset} {p : List HL.Place} {teams : Int} (hl : l.length ≤ 12) (hp : p.length ≤ 1000000) : ConP Tryz.prog 36 [eAssets l, ePlaces p, .int .i64 teams] (.tup [eOvers (if lfault l p teams != 0 then [] else ranked (isort byWorth (overP l p teams))), .int .i64 (lfault l p teams)]) := by
 refine Con.of_body Tryz.func36 rfl Tryz.ntmps36 rfl rfl ?_
 refine hw_reg ?_
 refine dp rfl (pop_assign rfl) ?_
 refine dp rfl (pop_assign rfl) ?_
 refine dn ?_
 refine hw_seq ?_
 refine hw_reg ?_
 refine dp rfl (pop_move rfl) ?_
 refine dp rfl (pop_move rfl) ?_
 refine dp rfl (pop_move rfl) ?_
 refine dp rfl (pop_call ca90 rfl (WeakL.refl _) (c_value_levelsFault (by first | assumption | omega | (simp; omega) | simp_all) (by first | assumption | omega | (simp; omega) | simp_all))) ?_
 refine dp rfl (pop_assign rfl) ?_
 refine dn ?_
 refine hw_reg ?_
 refine dp rfl (pop_move rfl) ?_
 refine dp rfl (pop_neq rfl rfl) ?_
 refine dn ?_
 refine hw_cond rfl (fun h1 => ?_) (fun h2 => ?_)
 ·try simp at h1
  refine hw_reg ?_
  refine dp rfl (pop_move rfl) ?_
  refine dp rfl (pop_assign rfl) ?_
  refine dp rfl (pop_assign rfl) ?_
  refine dn ?_
  refine hw_ret ?_
  first
  | (refine ret_w rfl (weak_tup2 ?_ (Weak.refl _))
     rw [if_pos (by simpa using h1)]; exact weak_nil 3)
  | (refine ret_p rfl ?_
     rw [h2]; rfl)
 ·try simp at h2
  refine hw_skip ?_
  refine seqQ_n ?_
  obtain ⟨hok, htm⟩ := lfault_ok h2
  obtain ⟨f1, f2, f3, f4, f5⟩ := okAP_facts hok
  have f6 := okAP_many hok
  have f7 := overP_small (l := l) (checkPlaces_sorted (okAP_ok hok).2) teams
  refine hw_reg ?_
  refine dp rfl (pop_move rfl) ?_
  refine dp rfl (pop_move rfl) ?_
  refine dp rfl (pop_move rfl) ?_
  refine dp rfl (pop_call ca91 rfl (WeakL.refl _) (c_value_worths (l := l) (p := p) (teams := teams) hl f5 f6 htm f2 (by omega))) ?_
  refine dp rfl (pop_assign rfl) ?_
  refine dp rfl (pop_assign rfl) ?_
  refine dn ?_
  refine hw_ret ?_
  first
  | (refine ret_w rfl (weak_tup2 ?_ (Weak.refl _))
     rw [if_pos (by simpa using h1)]; exact weak_nil 3)
  | (refine ret_p rfl ?_
     rw [h2]; rfl)
end Go.Proofs.YtihpgpbbpklbbaaGreatDoor
end
section
namespace Go.Proofs.YtihpgpbbpklbbaaGreatDoor
open Go.HL
set_option maxRecDepth 100000
set_option linter.unusedVariables false
set_option linter.unusedSimpArgs false

end Go.Proofs.YtihpgpbbpklbbaaGreatDoor
end
section
namespace Go.Proofs.YtihpgpbbpklbbaaGreatDoor
open Go.HL
set_option maxRecDepth 100000
set_option linter.unusedVariables false
set_option linter.unusedSimpArgs false
/-- benchwarmer/value.shared$1 -/
theorem c_value_shared_1 [Tracks] {n s : Int} {ws : List Int} {a b : Fin ws.length} (hn : 0 ≤ n ∧ n ≤ 20000000) (hw : ∀ w ∈ ws, 1 ≤ w ∧ w ≤ 2000000) (hs : 0 < s) : ConP Tryz.prog 143 [eIx a, eIx b, .vptr [.int .i64 n] 0, .vptr [.slice 1 (ws.map (HVal.int .i64))] 0, .vptr [.int .i64 s] 0] (.int .i64 (cmpR n s ws a b)) := by
 have hm : ∀ i : Fin ws.length, 0 ≤ n * ws.getD i.1 0 ∧ n * ws.getD i.1 0 ≤ 20000000 * 2000000 := fun i => by
  have h := hw _ (List.mem_of_getElem? (getD_some (d := 0) i.2))
  exact mul_bd hn.1 hn.2 (by omega) h.2
 have hma := hm a
 have hmb := hm b
 refine Con.of_body Tryz.func143 rfl Tryz.ntmps143 rfl rfl ?_
 refine hw_reg ?_
 refine dp rfl (pop_assign rfl) ?_
 refine dn ?_
 refine hw_draw (fun _ => True) [] mixed ?_
 refine ahp 0 rfl rfl (by kernel_rfl) (by kernel_rfl) (pop_load ty3 rfl rfl rfl) ?_
 refine ahp 1 rfl rfl (by kernel_rfl) (by kernel_rfl) (pop_load ty22 rfl rfl rfl) ?_
 refine ahp 2 rfl rfl (by kernel_rfl) (by kernel_rfl) (pop_move rfl) ?_
 refine ahp 3 rfl rfl (by kernel_rfl) (by kernel_rfl) (pop_idx (j := b.1) (a := ws.getD b.1 0) ty22 ty3 rfl rfl rfl (getD_some b.2)) ?_
 refine ahp 4 rfl rfl (by kernel_rfl) (by kernel_rfl) (pop_load ty3 rfl rfl rfl) ?_
 refine ahp 5 rfl rfl (by kernel_rfl) (by kernel_rfl) (pop_mul64 rfl rfl (by omega) (by omega)) ?_
 refine ahp 6 rfl rfl (by kernel_rfl) (by kernel_rfl) (pop_load ty3 rfl rfl rfl) ?_
 refine ahp 7 rfl rfl (by kernel_rfl) (by kernel_rfl) (pop_rem rfl rfl (by omega)) ?_
 refine ahp 8 rfl rfl (by kernel_rfl) (by kernel_rfl) (pop_load ty3 rfl rfl rfl) ?_
 refine ahp 9 rfl rfl (by kernel_rfl) (by kernel_rfl) (pop_load ty22 rfl rfl rfl) ?_
 refine ahp 10 rfl rfl (by kernel_rfl) (by kernel_rfl) (pop_move rfl) ?_
 refine ahp 11 rfl rfl (by kernel_rfl) (by kernel_rfl) (pop_idx (j := a.1) (a := ws.getD a.1 0) ty22 ty3 rfl rfl rfl (getD_some a.2)) ?_
 refine ahp 12 rfl rfl (by kernel_rfl) (by kernel_rfl) (pop_load ty3 rfl rfl rfl) ?_
 refine ahp 13 rfl rfl (by kernel_rfl) (by kernel_rfl) (pop_mul64 rfl rfl (by omega) (by omega)) ?_
 refine ahp 14 rfl rfl (by kernel_rfl) (by kernel_rfl) (pop_load ty3 rfl rfl rfl) ?_
 refine ahp 15 rfl rfl (by kernel_rfl) (by kernel_rfl) (pop_rem rfl rfl (by omega)) ?_
 refine ahp 16 rfl rfl (by kernel_rfl) (by kernel_rfl) (pop_call ca108 rfl (WeakL.refl _) c_cmp_Compare_int) ?_
 refine ahp 17 rfl rfl (by kernel_rfl) (by kernel_rfl) (pop_assign rfl) ?_
 refine ahz (by kernel_rfl) ?_
 refine hw_ret ?_
 refine ret_p rfl ?_
 rfl

set_option maxHeartbeats 2000000 in
/-- benchwarmer/value.shared -/
theorem c_value_shared [Tracks] {n : Int} {ws : List Int} (hn : 0 ≤ n ∧ n ≤ 20000000) (hw : ∀ w ∈ ws, 1 ≤ w ∧ w ≤ 2000000) (hl : 1 ≤ ws.length ∧ ws.length ≤ 12) : ConP Tryz.prog 93 [.int .i64 n, .slice 1 (ws.map (HVal.int .i64))] (.slice 1 ((sharedL n ws).map (HVal.int .i64))) := by
 have hs0 : (ws.length : Int) ≤ ws.sum := sum_pos fun w hq => (hw w hq).1
 have hsp : 0 < ws.sum := by omega
 have hsb : ∀ k, 0 ≤ (ws.take k).sum ∧ (ws.take k).sum ≤ 2000000 * ((ws.take k).length : Int) := fun k => sum_bd fun w hq => by have := hw w (List.mem_of_mem_take hq); omega
 have hpb : ∀ y ∈ ws.map (partS n ws.sum), 0 ≤ y ∧ y ≤ 40000000000000 := fun y hy => by
  obtain ⟨w, hq, rfl⟩ := List.mem_map.1 hy
  have h1 := hw w hq
  have h2 := part_bd (n := n) (s := ws.sum) (w := w) hn.1 hsp (by omega)
  have h3 := mul_bd (a := n) (b := w) (A := 20000000) (B := 2000000) hn.1 hn.2 (by omega) (by omega)
  omega
 have hps : ∀ k, 0 ≤ ((ws.take k).map (partS n ws.sum)).sum ∧ ((ws.take k).map (partS n ws.sum)).sum ≤ 40000000000000 * (((ws.take k).map (partS n ws.sum)).length : Int) := fun k => sum_bd fun y hy => hpb y (by rw [List.map_take] at hy; exact List.mem_of_mem_take hy)
 have hov := overS_bd (n := n) (ws := ws) hn.1 hl.1 (fun w hq => (hw w hq).1)
 have hoe : overS n ws = n - (ws.map (partS n ws.sum)).sum := rfl
 refine Con.of_body Tryz.func93 rfl Tryz.ntmps93 rfl rfl ?_
 refine hw_reg ?_
 refine dp rfl (pop_box rfl rfl) ?_
 refine dp rfl (pop_box rfl rfl) ?_
 refine dp rfl (pop_assign rfl) ?_
 refine dn ?_
 refine hw_reg ?_
 refine de rfl (eop_alloc ty3 rfl fun b5 => ?_)
 first
 | refine de0 (eop_store (i := 0) ty3 rfl rfl rfl rfl rfl (Nat.le_of_ble_eq_true rfl) ?_)
 | refine de0 (eop_store (i := 1) ty3 rfl rfl rfl rfl rfl (Nat.le_of_ble_eq_true rfl) ?_)
 | refine de0 (eop_store (i := 2) ty3 rfl rfl rfl rfl rfl (Nat.le_of_ble_eq_true rfl) ?_)
 | refine de0 (eop_store (i := 3) ty3 rfl rfl rfl rfl rfl (Nat.le_of_ble_eq_true rfl) ?_)
 refine dn ?_
 refine hw_seq ?_
 refine hw_reg ?_
 refine dp rfl (pop_load ty22 rfl rfl rfl) ?_
 refine dp rfl (pop_lenm ty22 rfl) ?_
 refine dp rfl (pop_move rfl) ?_
 refine dn ?_
 refine hw_block ?_
 refine hw_loopw [7, 17, 18, 19, 20, 21, 22, 23, 24] (fun (k : Nat) => [(17, .int .i64 k)]) (fun (k : Nat) => [.cells b5 [.int .i64 (ws.take k).sum]]) (fun (k : Nat) => k ≤ ws.length ∧ (True)) (fun (k : Nat) => ws.length - k) (0) ?_ ?_ ?_ ?_
 ·exact ⟨Nat.zero_le _, by simp_all⟩
 ·exact ⟨rfl, trivial⟩
 ·exact perm_eq rfl
 ·intro k hinv
  obtain ⟨hk, -⟩ := hinv
  refine hw_reg ?_
  refine dp rfl (pop_lss rfl rfl) ?_
  refine dn ?_
  refine hw_seq ?_
  refine hw_cond rfl (fun h1 => ?_) (fun h2 => ?_)
  ·try simp at h1
   obtain ⟨x, hx⟩ : ∃ x, ws[k]? = some x := ⟨_, List.getElem?_eq_getElem h1⟩
   have hdx := drop_cons hx
   refine hw_skip ?_
   refine seqQ_n ?_
   refine hw_seq ?_
   refine hw_block ?_
   refine hw_reg ?_
   refine dp rfl (pop_idx ty22 ty3 rfl rfl rfl (by first | assumption | simp_all)) ?_
   refine dp rfl (pop_load ty3 rfl rfl rfl) ?_
   refine dp rfl (pop_assign rfl) ?_
   refine dn ?_
   refine hw_reg1 ?_
   first
   | refine de rfl (eop_load (i := 0) ty3 rfl rfl (.inl ⟨rfl, rfl⟩) ?_)
   | refine de rfl (eop_load (i := 1) ty3 rfl rfl (.inl ⟨rfl, rfl⟩) ?_)
   | refine de rfl (eop_load (i := 2) ty3 rfl rfl (.inl ⟨rfl, rfl⟩) ?_)
   | refine de rfl (eop_load (i := 3) ty3 rfl rfl (.inl ⟨rfl, rfl⟩) ?_)
   refine dp rfl (pop_move rfl) ?_
   have hs1 := hsb k
   have hs2 : (ws.take k).length ≤ 12 := by simp; omega
   have hwx := hw x (List.mem_of_getElem? hx)
   refine dp rfl (pop_add64 rfl rfl (by omega) (by omega)) ?_
   first
   | refine de0 (eop_store (i := 0) ty3 rfl rfl rfl rfl rfl (Nat.le_of_ble_eq_true rfl) ?_)
   | refine de0 (eop_store (i := 1) ty3 rfl rfl rfl rfl rfl (Nat.le_of_ble_eq_true rfl) ?_)
   | refine de0 (eop_store (i := 2) ty3 rfl rfl rfl rfl rfl (Nat.le_of_ble_eq_true rfl) ?_)
   | refine de0 (eop_store (i := 3) ty3 rfl rfl rfl rfl rfl (Nat.le_of_ble_eq_true rfl) ?_)
   refine dn ?_
   refine blockQ_n ?_
   refine seqQ_n ?_
   refine hw_reg1 ?_
   refine dp rfl (pop_add64 rfl rfl (by omega) (by omega)) ?_
   refine dp rfl (pop_move rfl) ?_
   refine dn ?_
   refine ⟨k + 1, ?_, ?_, ⟨rfl, trivial⟩, (by repeat (first | exact keeps_refl | refine keeps_upd rfl ?_ | refine keeps_loop rfl rfl ?_)), perm_eq (by show [MObj.cells b5 [HVal.int .i64 ((ws.take k).sum + x)]] = _; dsimp only; rw [take_snoc' hx, List.sum_append]; simp)⟩
   ·exact ⟨by omega, trivial⟩
   ·dsimp only; omega
  ·try simp at h2
   have hnk : ws.length ≤ k := by omega
   obtain rfl : k = ws.length := by omega
   refine hw_ghost (Ghost.fc0 5 rfl) ?_
   rw [List.take_length]
   refine hw_exit ?_
   refine seqQ_x ?_
   refine loopQ_x ?_
   refine blockQ_eq ?_
   refine seqQ_n ?_
   refine hw_join [8, 9, 25, 26, 27, 28, 29, 30] (fun (q : Nat × Nat) => [(8, .raw (.slice (some ⟨q.1, 0, none⟩) ws.length ws.length)), (9, .raw (.slice (some ⟨q.2, 0, none⟩) ws.length ws.length))]) (fun (q : Nat × Nat) => [.arr (.slice (some ⟨q.1, 0, none⟩) ws.length ws.length) 1 (List.replicate ws.length (ofVal (.int .i64 0))), .arr (.slice (some ⟨q.2, 0, none⟩) ws.length ws.length) 1 (List.replicate ws.length (ofVal (.int .i64 0)))]) (fun (q : Nat × Nat) => True) ?_ ?_
   ·skip
    refine hw_draw1 (fun _ => True) [] mixed ?_
    refine ahp 0 rfl rfl (by kernel_rfl) (by kernel_rfl) (pop_load ty22 rfl rfl rfl) ?_
    refine ahp 1 rfl rfl (by kernel_rfl) (by kernel_rfl) (pop_lenm ty22 rfl) ?_
    refine ahp 3 rfl rfl (by kernel_rfl) (by kernel_rfl) (pop_load ty22 rfl rfl rfl) ?_
    refine ahp 4 rfl rfl (by kernel_rfl) (by kernel_rfl) (pop_lenm ty22 rfl) ?_
    refine ahe2 2 5 rfl rfl (by kernel_rfl) ?_ ?_
    ·skip
     refine hop_e rfl (eop_make (n := ws.length) ty22 ty3 rfl rfl rfl rfl rfl (by omega) fun b27 => ?_)
     refine ⟨fun _ => .inl trivial, ?_⟩
     refine ahp 6 rfl rfl (by kernel_rfl) (by kernel_rfl) (pop_assign rfl) ?_
     refine ahe 5 rfl (by kernel_rfl) ?_
     refine hop_e rfl (eop_make (n := ws.length) ty22 ty3 rfl rfl rfl rfl rfl (by omega) fun b30 => ?_)
     refine ⟨fun _ => .inl trivial, ?_⟩
     refine ahp 7 rfl rfl (by kernel_rfl) (by kernel_rfl) (pop_assign rfl) ?_
     refine ahz (by kernel_rfl) ?_
     refine ⟨(b27, b30), ?_, ⟨rfl, rfl, trivial⟩, (by repeat (first | exact keeps_refl | refine keeps_upd rfl ?_ | refine keeps_loop rfl rfl ?_)), ?_⟩
     ·trivial
     ·repeat (first | exact List.Perm.nil | refine permTo 0 rfl ?_ | refine permTo 1 rfl ?_ | refine permTo 2 rfl ?_ | refine permTo 3 rfl ?_ | (refine permToE 0 rfl ?hq ?_; (case hq => simp [setL, hcells]; done)) | (refine permToE 1 rfl ?hq ?_; (case hq => simp [setL, hcells]; done)) | (refine permToE 2 rfl ?hq ?_; (case hq => simp [setL, hcells]; done)) | (refine permToE 3 rfl ?hq ?_; (case hq => simp [setL, hcells]; done)) | fail)
    ·skip
     refine hop_e rfl (eop_make (n := ws.length) ty22 ty3 rfl rfl rfl rfl rfl (by omega) fun b30 => ?_)
     refine ⟨fun _ => .inl trivial, ?_⟩
     refine ahe 2 rfl (by kernel_rfl) ?_
     refine hop_e rfl (eop_make (n := ws.length) ty22 ty3 rfl rfl rfl rfl rfl (by omega) fun b27 => ?_)
     refine ⟨fun _ => .inl trivial, ?_⟩
     refine ahp 6 rfl rfl (by kernel_rfl) (by kernel_rfl) (pop_assign rfl) ?_
     refine ahp 7 rfl rfl (by kernel_rfl) (by kernel_rfl) (pop_assign rfl) ?_
     refine ahz (by kernel_rfl) ?_
     refine ⟨(b27, b30), ?_, ⟨rfl, rfl, trivial⟩, (by repeat (first | exact keeps_refl | refine keeps_upd rfl ?_ | refine keeps_loop rfl rfl ?_)), ?_⟩
     ·trivial
     ·repeat (first | exact List.Perm.nil | refine permTo 0 rfl ?_ | refine permTo 1 rfl ?_ | refine permTo 2 rfl ?_ | refine permTo 3 rfl ?_ | (refine permToE 0 rfl ?hq ?_; (case hq => simp [setL, hcells]; done)) | (refine permToE 1 rfl ?hq ?_; (case hq => simp [setL, hcells]; done)) | (refine permToE 2 rfl ?hq ?_; (case hq => simp [setL, hcells]; done)) | (refine permToE 3 rfl ?hq ?_; (case hq => simp [setL, hcells]; done)) | fail)
   ·intro q hinv
    obtain - := hinv
    obtain ⟨b8, b9⟩ := q
    refine hw_reg ?_
    refine dp rfl (pop_load ty3 rfl rfl rfl) ?_
    refine dp rfl (pop_assign rfl) ?_
    refine dn ?_
    refine hw_seq ?_
    refine hw_reg ?_
    refine dp rfl (pop_load ty22 rfl rfl rfl) ?_
    refine dp rfl (pop_lenm ty22 rfl) ?_
    refine dp rfl (pop_move rfl) ?_
    refine dn ?_
    refine hw_block ?_
    refine hw_loopw [10, 11, 12, 34, 35, 36, 37, 38, 39, 40, 41, 42, 43, 44, 45, 46, 47, 48, 49, 50, 51, 52, 53, 54, 55, 56, 57] (fun (k : Nat) => [(34, .int .i64 k), (10, .int .i64 (n - ((ws.take k).map (partS n ws.sum)).sum))]) (fun (k : Nat) => [.arr (.slice (some ⟨b8, 0, none⟩) ws.length ws.length) 1 ((toldTo (ws.map (partS n ws.sum)) k).map (HVal.int .i64)), .arr (.slice (some ⟨b9, 0, none⟩) ws.length ws.length) 1 ((toldTo (idxL ws.length) k).map (HVal.int .i64))]) (fun (k : Nat) => k ≤ ws.length ∧ (True)) (fun (k : Nat) => ws.length - k) (0) ?_ ?_ ?_ ?_
    ·exact ⟨Nat.zero_le _, by simp_all⟩
    ·exact ⟨rfl, some_int (by simp), trivial⟩
    ·exact perm_eq (by simp [toldTo_zero, idxL_len, ofVal, ofVal1])
    ·intro k hinv
     obtain ⟨hk, -⟩ := hinv
     refine hw_reg ?_
     refine dp rfl (pop_lss rfl rfl) ?_
     refine dn ?_
     refine hw_seq ?_
     refine hw_cond rfl (fun h3 => ?_) (fun h4 => ?_)
     ·try simp at h3
      obtain ⟨x, hx⟩ : ∃ x, ws[k]? = some x := ⟨_, List.getElem?_eq_getElem h3⟩
      have hdx := drop_cons hx
      refine hw_skip ?_
      refine seqQ_n ?_
      refine hw_seq ?_
      refine hw_block ?_
      refine hw_reg ?_
      refine dp rfl (pop_move rfl) ?_
      refine dp rfl (pop_idx ty22 ty3 rfl rfl rfl (by first | assumption | simp_all)) ?_
      refine dp rfl (pop_load ty3 rfl rfl rfl) ?_
      refine dp rfl (pop_assign rfl) ?_
      refine dp rfl (pop_assign rfl) ?_
      refine dn ?_
      refine hw_reg ?_
      refine dp rfl (pop_move rfl) ?_
      refine dp rfl (pop_move rfl) ?_
      refine dp rfl (pop_move rfl) ?_
      refine dp rfl (pop_move rfl) ?_
      refine dp rfl (pop_load ty3 rfl rfl rfl) ?_
      refine dp rfl (pop_move rfl) ?_
      have hwx := hw x (List.mem_of_getElem? hx)
      have hmx := mul_bd (a := n) (b := x) (A := 20000000) (B := 2000000) hn.1 hn.2 (by omega) (by omega)
      have hpx := hpb (partS n ws.sum x) (List.mem_map_of_mem (List.mem_of_getElem? hx))
      have hpk := hps k
      have hpl : ((ws.take k).map (partS n ws.sum)).length ≤ 12 := by simp; omega
      have hgp : ((ws.map (partS n ws.sum)))[k]? = some (partS n ws.sum x) := by rw [List.getElem?_map, hx]; rfl
      refine dp rfl (pop_mul64 rfl rfl (by omega) (by omega)) ?_
      refine dp rfl (pop_load ty3 rfl rfl rfl) ?_
      refine dp rfl (pop_quo64 rfl rfl (by omega) (by omega) (by omega)) ?_
      refine dp rfl (pop_move rfl) ?_
      refine dp rfl (pop_idxraw (j := k) ty22 ty3 rfl rfl rfl (by omega)) ?_
      refine de0 (eop_store_elw (f := (HVal.int .i64)) (i := 0) (j := k) (y := 0) (y' := partS n ws.sum x) ty3 rfl rfl rfl rfl (toldTo_get (by simp; omega)) rfl rfl rfl ?_)
      refine dp rfl (pop_idxraw (j := k) ty22 ty3 rfl rfl rfl (by omega)) ?_
      refine de0 (eop_store_elw (f := (HVal.int .i64)) (i := 1) (j := k) (y := 0) (y' := (k : Int)) ty3 rfl rfl rfl rfl (toldTo_get (by rw [idxL_len]; omega)) rfl rfl rfl ?_)
      refine dn ?_
      refine hw_reg1 ?_
      refine dp rfl (pop_move rfl) ?_
      refine dp rfl (pop_move rfl) ?_
      refine dp rfl (pop_move rfl) ?_
      refine dp rfl (pop_idxraw (j := k) ty22 ty3 rfl rfl rfl (by omega)) ?_
      refine de rfl (eop_load_el (i := 0) (j := k) 0 ty3 rfl rfl rfl (set_self (toldTo_get (by simp; omega))) rfl rfl ?_)
      refine dp rfl (pop_sub64 rfl rfl (by omega) (by omega)) ?_
      refine dp rfl (pop_assign rfl) ?_
      refine dn ?_
      refine blockQ_n ?_
      refine seqQ_n ?_
      refine hw_reg1 ?_
      refine dp rfl (pop_add64 rfl rfl (by omega) (by omega)) ?_
      refine dp rfl (pop_move rfl) ?_
      refine dn ?_
      exact ⟨k + 1, ⟨by omega, trivial⟩, by dsimp only; omega, ⟨rfl, some_int (by rw [take_snoc' hx, List.map_append, List.sum_append]; simp; omega), trivial⟩, (by repeat (first | exact keeps_refl | refine keeps_upd rfl ?_ | refine keeps_loop rfl rfl ?_)), perm_eq (by dsimp only; rw [toldTo_succ hgp, toldTo_succ (idxL_get (by omega))]; rfl)⟩
     ·try simp at h4
      have hnk : ws.length ≤ k := by omega
      obtain rfl : k = ws.length := by omega
      refine hw_exit ?_
      refine seqQ_x ?_
      refine loopQ_x ?_
      refine blockQ_eq ?_
      refine seqQ_n ?_
      rw [List.take_length]
      refine hw_ghost (Ghost.of_eq (M' := [.arr (.slice (some ⟨b8, 0, none⟩) ws.length ws.length) 1 ((ws.map (partS n ws.sum)).map (HVal.int .i64)), .arr (.slice (some ⟨b9, 0, none⟩) ws.length ws.length) 1 ((List.finRange ws.length).map eIx)]) (by rw [toldTo_eq (l := (ws.map (partS n ws.sum))) (by simp), toldTo_eq (l := idxL ws.length) (idxL_len _).symm, idxL_fin])) ?_
      refine hw_reg ?_
      refine dp rfl (pop_move rfl) ?_
      refine dp rfl (pop_makeFunc rfl rfl) ?_
      refine de rfl (eop_callx (i := 1) ca142 rfl (WeakL.refl _) rfl (c_slices_SortStableFunc_int_int (l := List.finRange ws.length) (c := cmpR n ws.sum ws) (caps := [.vptr [.int .i64 n] 0, .vptr [.slice 1 (ws.map (HVal.int .i64))] 0, .vptr [.int .i64 ws.sum] 0]) ca143 (fun x y => c_value_shared_1 hn hw hsp) (by simp; omega)) ?_)
      rintro _ _ ⟨rfl, rfl⟩
      refine dn ?_
      first
      | refine hw_ghost (Ghost.fa0 9 rfl) ?_
      | refine hw_ghost (Ghost.fa1 9 rfl) ?_
      refine hw_seq ?_
      refine hw_reg ?_
      refine dp rfl (pop_move rfl) ?_
      refine dp rfl (pop_move rfl) ?_
      refine dp rfl (pop_slicem (es := orderL n ws) (f := eIx) (h := (overS n ws).toNat) ty22 ty3 rfl rfl ⟨_, _, rfl, by omega⟩ (by omega) (by rw [orderL_len]; omega)) ?_
      refine dp rfl (pop_lenm ty22 rfl) ?_
      refine dp rfl (pop_move rfl) ?_
      refine dn ?_
      generalize hO : (orderL n ws).take (overS n ws).toNat = O
      have hOl : O.length ≤ 12 := by rw [← hO]; simp [orderL_len]; omega
      refine hw_block ?_
      refine hw_loopw [14, 65, 66, 67, 68, 69, 70, 71, 72, 73, 74, 75] (fun (k : Nat) => [(65, .int .i64 k)]) (fun (k : Nat) => [.arr (.slice (some ⟨b8, 0, none⟩) ws.length ws.length) 1 ((bumps (ws.map (partS n ws.sum)) (O.take k)).map (HVal.int .i64))]) (fun (k : Nat) => k ≤ O.length ∧ (True)) (fun (k : Nat) => O.length - k) (0) ?_ ?_ ?_ ?_
      ·exact ⟨Nat.zero_le _, by simp_all⟩
      ·exact ⟨rfl, trivial⟩
      ·exact perm_eq (by simp [bumps])
      ·intro k hinv
       obtain ⟨hk, -⟩ := hinv
       refine hw_reg ?_
       refine dp rfl (pop_lss rfl rfl) ?_
       refine dn ?_
       refine hw_seq ?_
       refine hw_cond rfl (fun h5 => ?_) (fun h6 => ?_)
       ·try simp at h5
        obtain ⟨x, hx⟩ : ∃ x, O[k]? = some x := ⟨_, List.getElem?_eq_getElem h5⟩
        have hdx := drop_cons hx
        refine hw_skip ?_
        refine seqQ_n ?_
        refine hw_seq ?_
        refine hw_block ?_
        refine hw_reg ?_
        refine dp rfl (pop_idx ty22 ty3 rfl rfl rfl (by first | assumption | simp_all)) ?_
        refine dp rfl (pop_load ty3 rfl rfl rfl) ?_
        refine dp rfl (pop_assign rfl) ?_
        refine dn ?_
        refine hw_reg1 ?_
        refine dp rfl (pop_move rfl) ?_
        refine dp rfl (pop_move rfl) ?_
        refine dp rfl (pop_idxraw (j := x.1) ty22 ty3 rfl rfl rfl (x.2)) ?_
        have hg : (bumps (ws.map (partS n ws.sum)) (O.take k))[x.1]? = some ((bumps (ws.map (partS n ws.sum)) (O.take k)).getD x.1 0) := getD_some (by rw [bumps_len, List.length_map]; exact x.2)
        have hgb := bumps_bd (O.take k) hpb (by omega) _ (List.mem_of_getElem? hg)
        have hol : (O.take k).length ≤ 12 := by simp; omega
        refine de rfl (eop_load_el (i := 0) (j := x.1) 0 ty3 rfl rfl rfl hg rfl rfl ?_)
        refine dp rfl (pop_add64 rfl rfl (by omega) (by omega)) ?_
        refine dp rfl (pop_idxraw (j := x.1) ty22 ty3 rfl rfl rfl (x.2)) ?_
        refine de0 (eop_store_elw (f := (HVal.int .i64)) (i := 0) (j := x.1) (y' := (bumps (ws.map (partS n ws.sum)) (O.take k)).getD x.1 0 + 1) ty3 rfl rfl rfl rfl hg rfl rfl rfl ?_)
        refine dn ?_
        refine blockQ_n ?_
        refine seqQ_n ?_
        refine hw_reg1 ?_
        refine dp rfl (pop_add64 rfl rfl (by omega) (by omega)) ?_
        refine dp rfl (pop_move rfl) ?_
        refine dn ?_
        refine ⟨k + 1, ?_, ?_, ⟨rfl, trivial⟩, (by repeat (first | exact keeps_refl | refine keeps_upd rfl ?_ | refine keeps_loop rfl rfl ?_)), perm_eq (by dsimp only; rw [bumps_snoc _ hx]; rfl)⟩
        ·exact ⟨by omega, trivial⟩
        ·dsimp only; omega
       ·try simp at h6
        have hnk : O.length ≤ k := by omega
        obtain rfl : k = O.length := by omega
        refine hw_exit ?_
        refine seqQ_x ?_
        refine loopQ_x ?_
        refine blockQ_eq ?_
        refine seqQ_n ?_
        refine hw_reg ?_
        refine dp rfl (pop_move rfl) ?_
        refine dp rfl (pop_assign rfl) ?_
        refine dn ?_
        refine hw_ret ?_
        refine ret_fa (M := []) 4 rfl rfl ?_
        rw [List.take_length, sharedL, hO]
end Go.Proofs.YtihpgpbbpklbbaaGreatDoor
end
section
namespace Go.Proofs.YtihpgpbbpklbbaaGreatDoor
open Go.HL
set_option maxRecDepth 100000
set_option linter.unusedVariables false
set_option linter.unusedSimpArgs false
set_option maxHeartbeats 2000000 in
/-- benchwarmer/value.Prices -/
theorem c_value_Prices [Tracks] {l : List Asset} {p : List HL.Place} {teams budget : Int} (hl : l.length ≤ 12) (hp : p.length ≤ 1000000) : ConP Tryz.prog 37 [eAssets l, ePlaces p, .int .i64 teams, .int .i64 budget] (.tup [ePairs (pLA (lfault l p teams) (out budget 0 1000000) (posW (ranked (isort byWorth (overP l p teams)))) (budget * teams - ((posW (ranked (isort byWorth (overP l p teams)))).length : Int))), .int .i64 (pEA (lfault l p teams) (out budget 0 1000000) (posW (ranked (isort byWorth (overP l p teams)))) (budget * teams - ((posW (ranked (isort byWorth (overP l p teams)))).length : Int)))]) := by
 refine Con.of_body Tryz.func37 rfl Tryz.ntmps37 rfl rfl ?_
 refine hw_reg ?_
 refine dp rfl (pop_assign rfl) ?_
 refine dp rfl (pop_assign rfl) ?_
 refine dn ?_
 refine hw_seq ?_
 refine hw_reg ?_
 refine dp rfl (pop_move rfl) ?_
 refine dp rfl (pop_move rfl) ?_
 refine dp rfl (pop_move rfl) ?_
 refine dp rfl (pop_call ca90 rfl (WeakL.refl _) (c_value_levelsFault (by first | assumption | omega | (simp; omega) | simp_all) (by first | assumption | omega | (simp; omega) | simp_all))) ?_
 refine dp rfl (pop_assign rfl) ?_
 refine dn ?_
 refine hw_reg ?_
 refine dp rfl (pop_move rfl) ?_
 refine dp rfl (pop_neq rfl rfl) ?_
 refine dn ?_
 refine hw_cond rfl (fun h1 => ?_) (fun h2 => ?_)
 ·try simp at h1
  refine hw_reg ?_
  refine dp rfl (pop_move rfl) ?_
  refine dp rfl (pop_assign rfl) ?_
  refine dp rfl (pop_assign rfl) ?_
  refine dn ?_
  refine hw_ret ?_
  first
  | (rw [(pA1 (by simpa using h1)).1, (pA1 (by simpa using h1)).2]; exact ret_w rfl (weak_tup2 (weak_nil 2) (Weak.refl _)))
  | (rw [(pA2 h2 (by simpa using h3)).1, (pA2 h2 (by simpa using h3)).2]; exact ret_w rfl (weak_tup2 (weak_nil 2) (Weak.refl _)))
  | (have hq : budget * teams - ((posW W).length : Int) < 0 := by simpa using h9
     rw [(pA3 h2 (by simpa using h4) (by omega) hq).1, (pA3 h2 (by simpa using h4) (by omega) hq).2]; exact ret_w rfl (weak_tup2 (weak_nil 2) (Weak.refl _)))
  | (have hq : (posW W).length = 0 := by simpa using h11
     rw [(pA4 h2 (by simpa using h4) hq).1, (pA4 h2 (by simpa using h4) hq).2]; exact ret_w rfl (weak_tup2 (weak_nil 2) (Weak.refl _)))
  | (have hq : ¬ budget * teams - ((posW W).length : Int) < 0 := by omega
     rw [(pA5 h2 (by simpa using h4) (by omega) hq).1, (pA5 h2 (by simpa using h4) (by omega) hq).2, pricesOf, hS]
     refine ret_fa (M := []) 8 rfl rfl ?_
     rw [List.take_length]; rfl)
 ·try simp at h2
  refine hw_skip ?_
  refine seqQ_n ?_
  refine hw_seq ?_
  refine hw_reg ?_
  refine dp rfl (pop_move rfl) ?_
  refine dp rfl (pop_call ca92 rfl (WeakL.refl _) c_base_Out) ?_
  refine dn ?_
  refine hw_cond rfl (fun h3 => ?_) (fun h4 => ?_)
  ·try simp at h3
   refine hw_reg ?_
   refine dp rfl (pop_assign rfl) ?_
   refine dp rfl (pop_assign rfl) ?_
   refine dn ?_
   refine hw_ret ?_
   first
   | (rw [(pA1 (by simpa using h1)).1, (pA1 (by simpa using h1)).2]; exact ret_w rfl (weak_tup2 (weak_nil 2) (Weak.refl _)))
   | (rw [(pA2 h2 (by simpa using h3)).1, (pA2 h2 (by simpa using h3)).2]; exact ret_w rfl (weak_tup2 (weak_nil 2) (Weak.refl _)))
   | (have hq : budget * teams - ((posW W).length : Int) < 0 := by simpa using h9
      rw [(pA3 h2 (by simpa using h4) (by omega) hq).1, (pA3 h2 (by simpa using h4) (by omega) hq).2]; exact ret_w rfl (weak_tup2 (weak_nil 2) (Weak.refl _)))
   | (have hq : (posW W).length = 0 := by simpa using h11
      rw [(pA4 h2 (by simpa using h4) hq).1, (pA4 h2 (by simpa using h4) hq).2]; exact ret_w rfl (weak_tup2 (weak_nil 2) (Weak.refl _)))
   | (have hq : ¬ budget * teams - ((posW W).length : Int) < 0 := by omega
      rw [(pA5 h2 (by simpa using h4) (by omega) hq).1, (pA5 h2 (by simpa using h4) (by omega) hq).2, pricesOf, hS]
      refine ret_fa (M := []) 8 rfl rfl ?_
      rw [List.take_length]; rfl)
  ·try simp at h4
   refine hw_skip ?_
   refine seqQ_n ?_
   obtain ⟨hok, htm⟩ := lfault_ok h2
   obtain ⟨f1, f2, f3, f4, f5⟩ := okAP_facts hok
   have f6 := okAP_many hok
   have f7 := overP_small (l := l) (checkPlaces_sorted (okAP_ok hok).2) teams
   have hbu := out_f (by simpa using h4)
   have hbt := mul_bd (a := budget) (b := teams) (A := 1000000) (B := 20) hbu.1 hbu.2 (by omega) htm.2
   have hWw := ranked_worth (W := isort byWorth (overP l p teams)) (B := 2000000) (fun x hx => overP_worth f2 x ((isort_mem byWorth).1 hx))
   have hWl : (ranked (isort byWorth (overP l p teams))).length ≤ 12 := by rw [ranked_len, isort_len]; omega
   generalize hW : (ranked (isort byWorth (overP l p teams))) = W at hWw hWl ⊢
   refine hw_reg ?_
   refine dp rfl (pop_assign rfl) ?_
   refine dn ?_
   refine hw_ghost (Ghost.arr_nil 1) ?_
   refine hw_reg ?_
   refine dp rfl (pop_assign rfl) ?_
   refine dn ?_
   refine hw_ghost (Ghost.arr_nil 1) ?_
   refine hw_seq ?_
   refine hw_reg ?_
   refine dp rfl (pop_move rfl) ?_
   refine dp rfl (pop_move rfl) ?_
   refine dp rfl (pop_move rfl) ?_
   refine dp rfl (pop_call ca91 rfl (WeakL.refl _) (by have h := c_value_worths (l := l) (p := p) (teams := teams) hl f5 f6 htm f2 (by omega); rw [hW] at h; exact h)) ?_
   refine dp rfl (pop_lenm ty70 rfl) ?_
   refine dp rfl (pop_move rfl) ?_
   refine dn ?_
   refine hw_block ?_
   refine hw_loopw3 [11, 12, 14, 33, 34, 35, 36, 37, 38, 39, 40, 41, 42, 43, 44, 45, 46, 47, 48, 49, 50] (fun (k : Nat) (u : Value) (w : Value) => [(33, .int .i64 k), (11, .raw u), (12, .raw w)]) (fun (k : Nat) (u : Value) (w : Value) => [.arr u 1 (((posW (W.take k)).map (·.Player)).map HVal.str), .arr w 1 (((posW (W.take k)).map (·.Worth)).map (HVal.int .i64))]) (fun (k : Nat) (u : Value) (w : Value) => k ≤ W.length ∧ (True)) (fun (k : Nat) (u : Value) (w : Value) => W.length - k) (0) (.slice none 0 0) (.slice none 0 0) ?_ ?_ ?_ ?_
   ·exact ⟨Nat.zero_le _, by simp_all⟩
   ·exact ⟨rfl, rfl, rfl, trivial⟩
   ·exact perm_eq rfl
   ·intro k u w hinv
    obtain ⟨hk, -⟩ := hinv
    refine hw_reg ?_
    refine dp rfl (pop_lss rfl rfl) ?_
    refine dn ?_
    refine hw_seq ?_
    refine hw_cond rfl (fun h5 => ?_) (fun h6 => ?_)
    ·try simp at h5
     obtain ⟨x, hx⟩ : ∃ x, W[k]? = some x := ⟨_, List.getElem?_eq_getElem h5⟩
     have hdx := drop_cons hx
     refine hw_skip ?_
     refine seqQ_n ?_
     refine hw_seq ?_
     refine hw_block ?_
     refine hw_reg ?_
     refine dp rfl (pop_idx ty70 ty77 rfl rfl rfl (by first | assumption | simp_all)) ?_
     refine dp rfl (pop_loadw ty77 rfl rfl rfl rfl) ?_
     refine de rfl (eop_alloc ty77 rfl fun b14 => ?_)
     refine de0 (eop_storew ty77 rfl rfl rfl rfl rfl ?_)
     refine dn ?_
     refine hw_ghost (Ghost.fc0 14 rfl) ?_
     refine hw_reg ?_
     refine dp rfl (pop_fieldAddr ty77 rfl ty3 (by decide) rfl) ?_
     refine dp rfl (pop_load ty3 rfl rfl rfl) ?_
     refine dp rfl (pop_gtr rfl rfl) ?_
     refine dn ?_
     refine hw_cond rfl (fun h7 => ?_) (fun h8 => ?_)
     ·try simp at h7
      refine hw_draw1 (fun _ => True) [] mixed ?_
      refine ahp 0 rfl rfl (by kernel_rfl) (by kernel_rfl) (pop_move rfl) ?_
      refine ahp 1 rfl rfl (by kernel_rfl) (by kernel_rfl) (pop_fieldAddr ty77 rfl ty9 (by decide) rfl) ?_
      refine ahp 2 rfl rfl (by kernel_rfl) (by kernel_rfl) (pop_load ty9 rfl rfl rfl) ?_
      refine ahp 3 rfl rfl (by kernel_rfl) (by kernel_rfl) (pop_buildSlice (hs := [_]) ty28 ty9 rfl rfl (by decide) (by decide) rfl) ?_
      refine ahp 5 rfl rfl (by kernel_rfl) (by kernel_rfl) (pop_move rfl) ?_
      refine ahp 6 rfl rfl (by kernel_rfl) (by kernel_rfl) (pop_fieldAddr ty77 rfl ty3 (by decide) rfl) ?_
      refine ahp 7 rfl rfl (by kernel_rfl) (by kernel_rfl) (pop_load ty3 rfl rfl rfl) ?_
      refine ahp 8 rfl rfl (by kernel_rfl) (by kernel_rfl) (pop_buildSlice (hs := [_]) ty22 ty3 rfl rfl (by decide) (by decide) rfl) ?_
      refine ahe 4 rfl (by kernel_rfl) ?_
      have hpl := posW_len (W.take k)
      have hpk : (W.take k).length ≤ 12 := by simp; omega
      refine hop_e rfl (eop_append (i := 0) ty28 ty9 rfl rfl rfl rfl rfl (by simp [flat, hcells]) (by simp only [List.length_map, List.length_cons, List.length_nil]; omega) fun v44 => ?_)
      refine ⟨fun _ => .inl trivial, ?_⟩
      refine ahe 9 rfl (by kernel_rfl) ?_
      refine hop_e rfl (eop_append (i := 1) ty22 ty3 rfl rfl rfl rfl rfl (by simp [flat, hcells]) (by simp only [List.length_map, List.length_cons, List.length_nil]; omega) fun v49 => ?_)
      refine ⟨fun _ => .inl trivial, ?_⟩
      refine ahp 10 rfl rfl (by kernel_rfl) (by kernel_rfl) (pop_assign rfl) ?_
      refine ahp 11 rfl rfl (by kernel_rfl) (by kernel_rfl) (pop_assign rfl) ?_
      refine ahz (by kernel_rfl) ?_
      refine blockQ_n ?_
      refine seqQ_n ?_
      refine hw_reg1 ?_
      refine dp rfl (pop_add64 rfl rfl (by omega) (by omega)) ?_
      refine dp rfl (pop_move rfl) ?_
      refine dn ?_
      exact ⟨k + 1, _, _, ⟨by omega, trivial⟩, by dsimp only; omega, ⟨rfl, rfl, rfl, trivial⟩, (by repeat (first | exact keeps_refl | refine keeps_upd rfl ?_ | refine keeps_loop rfl rfl ?_)), perm_eq (by dsimp only; rw [posW_yes hx (by omega)]; simp)⟩
     ·try simp at h8
      refine hw_skip ?_
      refine blockQ_n ?_
      refine seqQ_n ?_
      refine hw_reg1 ?_
      refine dp rfl (pop_add64 rfl rfl (by omega) (by omega)) ?_
      refine dp rfl (pop_move rfl) ?_
      refine dn ?_
      exact ⟨k + 1, _, _, ⟨by omega, trivial⟩, by dsimp only; omega, ⟨rfl, rfl, rfl, trivial⟩, (by repeat (first | exact keeps_refl | refine keeps_upd rfl ?_ | refine keeps_loop rfl rfl ?_)), perm_eq (by dsimp only; rw [posW_no hx (by omega)])⟩
    ·try simp at h6
     have hnk : W.length ≤ k := by omega
     obtain rfl : k = W.length := by omega
     rw [List.take_length]
     have hnl := posW_len W
     refine hw_ghost (Ghost.fa0 11 rfl) ?_
     refine hw_ghost (Ghost.fa0 12 rfl) ?_
     refine hw_exit ?_
     refine seqQ_x ?_
     refine loopQ3_x ?_
     refine blockQ_eq ?_
     refine seqQ_n ?_
     refine hw_reg ?_
     refine dp rfl (pop_move rfl) ?_
     refine dp rfl (pop_move rfl) ?_
     refine dp rfl (pop_mul64 rfl rfl (by omega) (by omega)) ?_
     refine dp rfl (pop_move rfl) ?_
     refine dp rfl (pop_eq (pop_lenm ty28 rfl) (show HVal.int .i64 (((posW W).map (·.Player)).length : Int) = .int .i64 ((posW W).length : Int) by rw [List.length_map])) ?_
     refine dp rfl (pop_sub64 rfl rfl (by omega) (by omega)) ?_
     refine dp rfl (pop_assign rfl) ?_
     refine dn ?_
     refine hw_seq ?_
     refine hw_block ?_
     refine hw_reg ?_
     refine dp rfl (pop_move rfl) ?_
     refine dp rfl (pop_lss rfl rfl) ?_
     refine dp rfl (pop_assign rfl) ?_
     refine dn ?_
     refine hw_cond rfl (fun h9 => ?_) (fun h10 => ?_)
     ·try simp at h9
      refine hw_reg ?_
      refine dp rfl (pop_assign rfl) ?_
      refine dp rfl (pop_assign rfl) ?_
      refine dn ?_
      refine hw_ret ?_
      first
      | (rw [(pA1 (by simpa using h1)).1, (pA1 (by simpa using h1)).2]; exact ret_w rfl (weak_tup2 (weak_nil 2) (Weak.refl _)))
      | (rw [(pA2 h2 (by simpa using h3)).1, (pA2 h2 (by simpa using h3)).2]; exact ret_w rfl (weak_tup2 (weak_nil 2) (Weak.refl _)))
      | (have hq : budget * teams - ((posW W).length : Int) < 0 := by simpa using h9
         rw [(pA3 h2 (by simpa using h4) (by omega) hq).1, (pA3 h2 (by simpa using h4) (by omega) hq).2]; exact ret_w rfl (weak_tup2 (weak_nil 2) (Weak.refl _)))
      | (have hq : (posW W).length = 0 := by simpa using h11
         rw [(pA4 h2 (by simpa using h4) hq).1, (pA4 h2 (by simpa using h4) hq).2]; exact ret_w rfl (weak_tup2 (weak_nil 2) (Weak.refl _)))
      | (have hq : ¬ budget * teams - ((posW W).length : Int) < 0 := by omega
         rw [(pA5 h2 (by simpa using h4) (by omega) hq).1, (pA5 h2 (by simpa using h4) (by omega) hq).2, pricesOf, hS]
         refine ret_fa (M := []) 8 rfl rfl ?_
         rw [List.take_length]; rfl)
     ·try simp at h10
      refine hw_reg ?_
      refine dp rfl (pop_move rfl) ?_
      refine dp rfl (pop_eq (pop_lenm ty28 rfl) (show HVal.int .i64 (((posW W).map (·.Player)).length : Int) = .int .i64 ((posW W).length : Int) by rw [List.length_map])) ?_
      refine dp rfl (pop_eql rfl rfl) ?_
      refine dp rfl (pop_assign rfl) ?_
      refine dn ?_
      refine hw_cond rfl (fun h11 => ?_) (fun h12 => ?_)
      ·try simp at h11
       refine hw_reg ?_
       refine dp rfl (pop_assign rfl) ?_
       refine dp rfl (pop_assign rfl) ?_
       refine dn ?_
       refine hw_ret ?_
       first
       | (rw [(pA1 (by simpa using h1)).1, (pA1 (by simpa using h1)).2]; exact ret_w rfl (weak_tup2 (weak_nil 2) (Weak.refl _)))
       | (rw [(pA2 h2 (by simpa using h3)).1, (pA2 h2 (by simpa using h3)).2]; exact ret_w rfl (weak_tup2 (weak_nil 2) (Weak.refl _)))
       | (have hq : budget * teams - ((posW W).length : Int) < 0 := by simpa using h9
          rw [(pA3 h2 (by simpa using h4) (by omega) hq).1, (pA3 h2 (by simpa using h4) (by omega) hq).2]; exact ret_w rfl (weak_tup2 (weak_nil 2) (Weak.refl _)))
       | (have hq : (posW W).length = 0 := by simpa using h11
          rw [(pA4 h2 (by simpa using h4) hq).1, (pA4 h2 (by simpa using h4) hq).2]; exact ret_w rfl (weak_tup2 (weak_nil 2) (Weak.refl _)))
       | (have hq : ¬ budget * teams - ((posW W).length : Int) < 0 := by omega
          rw [(pA5 h2 (by simpa using h4) (by omega) hq).1, (pA5 h2 (by simpa using h4) (by omega) hq).2, pricesOf, hS]
          refine ret_fa (M := []) 8 rfl rfl ?_
          rw [List.take_length]; rfl)
      ·try simp at h12
       refine hw_skip ?_
       refine blockQ_n ?_
       refine seqQ_n ?_
       have hne : 1 ≤ (posW W).length := by
        rcases Nat.eq_zero_or_pos (posW W).length with h0 | h0
        ·exfalso; simp_all
        ·exact h0
       have hnw := posW_bd hWw
       have hsl := sharedL_len (budget * teams - ((posW W).length : Int)) ((posW W).map (·.Worth))
       have hsb := sharedL_bd (n := budget * teams - ((posW W).length : Int)) (ws := (posW W).map (·.Worth)) (by omega) hnw (by simp; omega)
       have hsh := c_value_shared (n := budget * teams - ((posW W).length : Int)) (ws := (posW W).map (·.Worth)) (by omega) hnw (by simp; omega)
       rw [List.length_map] at hsl
       refine hw_reg ?_
       refine dp rfl (pop_assign rfl) ?_
       refine dn ?_
       refine hw_ghost (Ghost.arr_nil 2) ?_
       refine hw_seq ?_
       refine hw_reg ?_
       refine dp rfl (pop_move rfl) ?_
       refine dp rfl (pop_move rfl) ?_
       refine dp rfl (pop_call ca93 rfl (WeakL.refl _) hsh) ?_
       refine dp rfl (pop_lenm ty22 rfl) ?_
       refine dp rfl (pop_move rfl) ?_
       refine dn ?_
       generalize hS : sharedL (budget * teams - ((posW W).length : Int)) ((posW W).map (·.Worth)) = S at hsl hsb ⊢
       refine hw_block ?_
       refine hw_loopw2 [16, 17, 18, 68, 69, 70, 71, 72, 73, 74, 75, 76, 77, 78, 79, 80, 81, 82, 83, 84] (fun (k : Nat) (u : Value) => [(68, .int .i64 k), (16, .raw u)]) (fun (k : Nat) (u : Value) => [.arr u 2 ((pricePairs (posW W) (S.take k)).map ePair)]) (fun (k : Nat) (u : Value) => k ≤ S.length ∧ (True)) (fun (k : Nat) (u : Value) => S.length - k) (0) (.slice none 0 0) ?_ ?_ ?_ ?_
       ·exact ⟨Nat.zero_le _, by simp_all⟩
       ·exact ⟨rfl, rfl, trivial⟩
       ·exact perm_eq (by simp [pricePairs])
       ·intro k u hinv
        obtain ⟨hk, -⟩ := hinv
        refine hw_reg ?_
        refine dp rfl (pop_lss rfl rfl) ?_
        refine dn ?_
        refine hw_seq ?_
        refine hw_cond rfl (fun h13 => ?_) (fun h14 => ?_)
        ·try simp at h13
         obtain ⟨c, hc⟩ : ∃ c, S[k]? = some c := ⟨_, List.getElem?_eq_getElem h13⟩
         have hdc := drop_cons hc
         refine hw_skip ?_
         refine seqQ_n ?_
         refine hw_seq ?_
         refine hw_block ?_
         refine hw_reg ?_
         refine dp rfl (pop_move rfl) ?_
         refine dp rfl (pop_idx ty22 ty3 rfl rfl rfl (by first | assumption | simp_all)) ?_
         refine dp rfl (pop_load ty3 rfl rfl rfl) ?_
         refine dp rfl (pop_assign rfl) ?_
         refine dp rfl (pop_assign rfl) ?_
         refine dn ?_
         refine hw_draw1 (fun _ => True) [] mixed ?_
         refine ahp 0 rfl rfl (by kernel_rfl) (by kernel_rfl) (pop_move rfl) ?_
         refine ahp 1 rfl rfl (by kernel_rfl) (by kernel_rfl) (pop_move rfl) ?_
         refine ahp 2 rfl rfl (by kernel_rfl) (by kernel_rfl) (pop_move rfl) ?_
         refine ahp 3 rfl rfl (by kernel_rfl) (by kernel_rfl) (pop_idx (j := k) (a := ((posW W).getD k over0).Player) ty28 ty9 rfl rfl rfl (map_get (f := fun q : Over => q.Player) (l := posW W) (x := (posW W).getD k over0) (getD_some (by omega)))) ?_
         refine ahp 4 rfl rfl (by kernel_rfl) (by kernel_rfl) (pop_load ty9 rfl rfl rfl) ?_
         refine ahp 5 rfl rfl (by kernel_rfl) (by kernel_rfl) (pop_move rfl) ?_
         have hcb := hsb c (List.mem_of_getElem? hc)
         refine ahp 6 rfl rfl (by kernel_rfl) (by kernel_rfl) (pop_add64 rfl rfl (by omega) (by omega)) ?_
         refine ahp 7 rfl rfl (by kernel_rfl) (by kernel_rfl) (pop_call ca85 rfl (WeakL.refl _) (c_Itoa (n := c + 1) (by omega) (by omega))) ?_
         refine ahp 8 rfl rfl (by kernel_rfl) (by kernel_rfl) (pop_build (cs := [_, _]) ty52 pl52 rfl) ?_
         refine ahp 9 rfl rfl (by kernel_rfl) (by kernel_rfl) (pop_buildSlice (hs := [_]) ty36 ty52 rfl rfl (by decide) (by decide) rfl) ?_
         refine ahe 10 rfl (by kernel_rfl) ?_
         refine hop_e rfl (eop_append (i := 0) ty36 ty52 rfl rfl rfl rfl rfl (by simp [flat, hcells]) (by simp only [List.length_map, List.length_cons, List.length_nil, pricePairs_len, List.length_take]; omega) fun v83 => ?_)
         refine ⟨fun _ => .inl trivial, ?_⟩
         refine ahp 11 rfl rfl (by kernel_rfl) (by kernel_rfl) (pop_assign rfl) ?_
         refine ahz (by kernel_rfl) ?_
         refine blockQ_n ?_
         refine seqQ_n ?_
         refine hw_reg1 ?_
         refine dp rfl (pop_add64 rfl rfl (by omega) (by omega)) ?_
         refine dp rfl (pop_move rfl) ?_
         refine dn ?_
         refine ⟨k + 1, _, ?_, ?_, ⟨rfl, rfl, trivial⟩, (by repeat (first | exact keeps_refl | refine keeps_upd rfl ?_ | refine keeps_loop rfl rfl ?_)), perm_eq (by dsimp only; rw [pricePairs_snoc _ hc]; simp)⟩
         ·exact ⟨by omega, trivial⟩
         ·dsimp only; omega
        ·try simp at h14
         have hnk : S.length ≤ k := by omega
         obtain rfl : k = S.length := by omega
         refine hw_exit ?_
         refine seqQ_x ?_
         refine loopQ2_x ?_
         refine blockQ_eq ?_
         refine seqQ_n ?_
         refine hw_reg ?_
         refine dp rfl (pop_move rfl) ?_
         refine dp rfl (pop_assign rfl) ?_
         refine dp rfl (pop_assign rfl) ?_
         refine dn ?_
         refine hw_ret ?_
         first
         | (rw [(pA1 (by simpa using h1)).1, (pA1 (by simpa using h1)).2]; exact ret_w rfl (weak_tup2 (weak_nil 2) (Weak.refl _)))
         | (rw [(pA2 h2 (by simpa using h3)).1, (pA2 h2 (by simpa using h3)).2]; exact ret_w rfl (weak_tup2 (weak_nil 2) (Weak.refl _)))
         | (have hq : budget * teams - ((posW W).length : Int) < 0 := by simpa using h9
            rw [(pA3 h2 (by simpa using h4) (by omega) hq).1, (pA3 h2 (by simpa using h4) (by omega) hq).2]; exact ret_w rfl (weak_tup2 (weak_nil 2) (Weak.refl _)))
         | (have hq : (posW W).length = 0 := by simpa using h11
            rw [(pA4 h2 (by simpa using h4) hq).1, (pA4 h2 (by simpa using h4) hq).2]; exact ret_w rfl (weak_tup2 (weak_nil 2) (Weak.refl _)))
         | (have hq : ¬ budget * teams - ((posW W).length : Int) < 0 := by omega
            rw [(pA5 h2 (by simpa using h4) (by omega) hq).1, (pA5 h2 (by simpa using h4) (by omega) hq).2, pricesOf, hS]
            refine ret_fa (M := []) 8 rfl rfl ?_
            rw [List.take_length]; rfl)
end Go.Proofs.YtihpgpbbpklbbaaGreatDoor
end
section
namespace Go.HL
theorem sum_bump : ∀ (o : List Int) (i : Nat), i < o.length → (bump o i).sum = o.sum + 1
 | [], i, h => by simp at h
 | y :: o, 0, _ => by simp [bump]; omega
 | y :: o, i + 1, h => by
   have ih := sum_bump o i (by simpa using h)
   simp only [bump, List.getD, List.getElem?_cons_succ, List.set_cons_succ, List.sum_cons] at ih ⊢
   omega
theorem sum_bumps {q : Nat} : ∀ (l : List (Fin q)) (o : List Int), o.length = q → (bumps o l).sum = o.sum + l.length
 | [], o, _ => by simp [bumps]
 | i :: l, o, h => by
   have ih := sum_bumps l (bump o i.1) (by rw [bump_len, h])
   have h2 := sum_bump o i.1 (by rw [h]; exact i.2)
   show (bumps (bump o i.1) l).sum = _
   rw [ih, h2, List.length_cons]; omega
theorem bump_get (o : List Int) (i j : Nat) (h : j < o.length) : (bump o i).getD j 0 = o.getD j 0 + if i = j then 1 else 0 := by
 unfold bump
 by_cases e : i = j
 ·subst e; simp [List.getD, List.getElem?_set_self h]
 ·simp [List.getD, List.getElem?_set_ne e, e]
theorem bumps_get {q : Nat} : ∀ (l : List (Fin q)) (o : List Int) (j : Nat), j < o.length → (bumps o l).getD j 0 = o.getD j 0 + (l.countP fun a => a.1 == j)
 | [], o, _, _ => by simp [bumps]
 | i :: l, o, j, h => by
   show (bumps (bump o i.1) l).getD j 0 = _
   rw [bumps_get l (bump o i.1) j (by rw [bump_len]; exact h), bump_get o i.1 j h, List.countP_cons]
   by_cases e : i.1 = j
   ·simp [e]; omega
   ·simp [e]
theorem cmpI_lt67 {a b : Int} : cmpI a b < 0 ↔ a < b := by unfold cmpI; split <;> (try split) <;> omega
/-- The same order, told with the places. -/
def cmpRI (n s : Int) (ws : List Int) (a b : Fin ws.length) : Int := if cmpR n s ws a b = 0 then (a.1 : Int) - b.1 else cmpR n s ws a b
theorem cmpRI_le {n s : Int} {ws : List Int} {a b : Fin ws.length} : cmpRI n s ws a b ≤ 0 ↔ ((n * ws.getD b.1 0).tmod s < (n * ws.getD a.1 0).tmod s ∨ ((n * ws.getD a.1 0).tmod s = (n * ws.getD b.1 0).tmod s ∧ a.1 ≤ b.1)) := by
 unfold cmpRI cmpR cmpI
 generalize (n * ws.getD b.1 0).tmod s = x
 generalize (n * ws.getD a.1 0).tmod s = y
 by_cases h1 : x < y
 ·rw [if_pos h1]; simp; omega
 ·by_cases h2 : y < x
  ·simp [h1, h2]; omega
  ·simp [h1, h2]; omega
theorem cmpRI_lt {n s : Int} {ws : List Int} {a b : Fin ws.length} : cmpRI n s ws a b < 0 ↔ ((n * ws.getD b.1 0).tmod s < (n * ws.getD a.1 0).tmod s ∨ ((n * ws.getD a.1 0).tmod s = (n * ws.getD b.1 0).tmod s ∧ a.1 < b.1)) := by
 unfold cmpRI cmpR cmpI
 generalize (n * ws.getD b.1 0).tmod s = x
 generalize (n * ws.getD a.1 0).tmod s = y
 by_cases h1 : x < y
 ·rw [if_pos h1]; simp; omega
 ·by_cases h2 : y < x
  ·simp [h1, h2]; omega
  ·simp [h1, h2]; omega
theorem cmpRI_cmp (n s : Int) (ws : List Int) : Cmp (cmpRI n s ws) fun _ => True where
 flip := fun x y _ _ => by
  have h1 : (0 < cmpRI n s ws y x) ↔ ¬ cmpRI n s ws y x ≤ 0 := by omega
  rw [h1, cmpRI_lt, cmpRI_le]; omega
 trans := fun x y z _ _ _ h1 h2 => by
  rw [cmpRI_le] at h1 h2 ⊢; omega
theorem orderL_eq (n : Int) (ws : List Int) : orderL n ws = isort (cmpRI n ws.sum ws) (List.finRange ws.length) := by
 unfold orderL
 refine isort_congr fun i j x y hij hy hx => ?_
 obtain ⟨hi, rfl⟩ := List.getElem?_eq_some_iff.1 hy
 obtain ⟨hj, rfl⟩ := List.getElem?_eq_some_iff.1 hx
 rw [cmpRI_lt]
 unfold cmpR
 rw [cmpI_lt67]
 simp only [List.getElem_finRange, Fin.val_cast]
 omega
theorem orderL_sorted (n : Int) (ws : List Int) : (orderL n ws).Pairwise fun a b => cmpRI n ws.sum ws a b ≤ 0 := by
 rw [orderL_eq]; exact isort_sorted (cmpRI_cmp n ws.sum ws) fun _ _ => trivial
theorem orderL_mem (n : Int) (ws : List Int) (i : Fin ws.length) : i ∈ orderL n ws := by
 rw [orderL, isort_mem]; exact List.mem_finRange i
theorem orderL_nodup (n : Int) (ws : List Int) : (orderL n ws).Nodup := by
 unfold orderL
 exact (isort_perm _ _).nodup_iff.2 (List.nodup_finRange _)
/-- Who stands ahead of one of the first k is one of them. -/
theorem take_ahead {n : Int} {ws : List Int} {k : Nat} {i j : Fin ws.length} (hj : j ∈ (orderL n ws).take k) (h : cmpRI n ws.sum ws i j < 0) : i ∈ (orderL n ws).take k := by
 obtain ⟨a, ha, ea⟩ := List.getElem_of_mem hj
 rw [List.getElem_take] at ea
 obtain ⟨b, hb, eb⟩ := List.getElem_of_mem (orderL_mem n ws i)
 have ha' : a < k ∧ a < (orderL n ws).length := by simp at ha; omega
 have hba : b < a := by
  rcases Nat.lt_trichotomy b a with q | q | q
  ·exact q
  ·subst q
   rw [ea] at eb; subst eb
   rw [cmpRI_lt] at h; omega
  ·have := List.pairwise_iff_getElem.1 (orderL_sorted n ws) a b ha'.2 hb q
   rw [ea, eb] at this
   have f := (cmpRI_cmp n ws.sum ws).flip i j trivial trivial
   omega
 rw [← eb]
 exact List.mem_take_iff_getElem.2 ⟨b, by omega, rfl⟩
theorem count_one {q : Nat} {l : List (Fin q)} (h : l.Nodup) (i : Fin q) : (l.countP fun a => a.1 == i.1) = if i ∈ l then 1 else 0 := by
 have e : (l.countP fun a => a.1 == i.1) = l.count i := by
  unfold List.count
  refine List.countP_congr fun a _ => ?_
  simp [Fin.ext_iff]
 rw [e]
 exact h.count
theorem sharedL_sum {n : Int} {ws : List Int} (hn : 0 ≤ n) (hl : 1 ≤ ws.length) (hw : ∀ w ∈ ws, 1 ≤ w) : (sharedL n ws).sum = n := by
 obtain ⟨h1, h2⟩ := overS_bd hn hl hw
 unfold sharedL
 rw [sum_bumps _ _ (by simp), List.length_take, orderL_len]
 have : overS n ws = n - (ws.map (partS n ws.sum)).sum := rfl
 omega
theorem tdiv_mono {a b s : Int} (hs : 0 < s) (h0 : 0 ≤ a) (h : a ≤ b) : a.tdiv s ≤ b.tdiv s := by
 rw [Int.tdiv_eq_ediv_of_nonneg h0, Int.tdiv_eq_ediv_of_nonneg (by omega)]
 exact Int.ediv_le_ediv hs h
theorem sharedL_falls {n : Int} {ws : List Int} (hn : 0 ≤ n) (hw : ∀ w ∈ ws, 1 ≤ w) {i j : Nat} (hij : i < j) (hj : j < ws.length) (h : ws.getD j 0 ≤ ws.getD i 0) : (sharedL n ws).getD j 0 ≤ (sharedL n ws).getD i 0 := by
 have hi : i < ws.length := by omega
 have hs : 0 < ws.sum := by have := sum_pos hw; omega
 have hwj := hw _ (List.mem_of_getElem? (getD_some (d := 0) hj))
 have hmul : n * ws.getD j 0 ≤ n * ws.getD i 0 := Int.mul_le_mul_of_nonneg_left h hn
 have h0 : 0 ≤ n * ws.getD j 0 := Int.mul_nonneg hn (by omega)
 have hp := tdiv_mono hs h0 hmul
 have ri := part_rem n ws.sum (ws.getD i 0)
 have rj := part_rem n ws.sum (ws.getD j 0)
 have g : ∀ k, k < ws.length → (sharedL n ws).getD k 0 = partS n ws.sum (ws.getD k 0) + (((orderL n ws).take (overS n ws).toNat).countP fun a => a.1 == k) := fun k hk => by
  unfold sharedL
  rw [bumps_get _ _ _ (by simpa using hk)]
  congr 1
  simp [List.getD, List.getElem?_eq_getElem hk]
 rw [g i hi, g j hj]
 have nd := (orderL_nodup n ws).sublist (List.take_sublist (overS n ws).toNat (orderL n ws))
 have ci := count_one nd ⟨i, hi⟩
 have cj := count_one nd ⟨j, hj⟩
 dsimp only at ci cj
 have hp' : partS n ws.sum (ws.getD j 0) ≤ partS n ws.sum (ws.getD i 0) := hp
 rw [ci, cj]
 by_cases hm : (⟨j, hj⟩ : Fin ws.length) ∈ (orderL n ws).take (overS n ws).toNat
 ·rw [if_pos hm]
  rcases Int.lt_or_eq_of_le hp' with q | q
  ·split <;> omega
  ·have hmi : (⟨i, hi⟩ : Fin ws.length) ∈ (orderL n ws).take (overS n ws).toNat := by
    refine take_ahead hm ?_
    rw [cmpRI_lt]
    dsimp only
    rw [q] at rj
    omega
   rw [if_pos hmi]; omega
 ·rw [if_neg hm]
  split <;> omega
end Go.HL
end
section
namespace Go.HL
def wA (l : List Asset) (p : List Place) (t : Int) : List Over := ranked (isort byWorth (overP l p t))
def yA (l : List Asset) (p : List Place) (t : Int) : List Over := if lfault l p t != 0 then [] else wA l p t
def plA (l : List Asset) (p : List Place) (t b : Int) : List PairS := pLA (lfault l p t) (out b 0 1000000) (posW (wA l p t)) (b * t - ((posW (wA l p t)).length : Int))
def peA (l : List Asset) (p : List Place) (t b : Int) : Int := pEA (lfault l p t) (out b 0 1000000) (posW (wA l p t)) (b * t - ((posW (wA l p t)).length : Int))
theorem yA_wA {l : List Asset} {p : List Place} {t : Int} (h : lfault l p t = 0) : yA l p t = wA l p t := by simp [yA, h]
end Go.HL
end
section
namespace Go.HL
theorem posW_take : ∀ {W : List Over}, W.Pairwise (fun a b => b.Worth ≤ a.Worth) → posW W = W.take (posW W).length
 | [], _ => rfl
 | x :: W, h => by
   obtain ⟨h1, h2⟩ := List.pairwise_cons.1 h
   have ih := posW_take h2
   by_cases hx : 0 < x.Worth
   ·have e : posW (x :: W) = x :: posW W := by simp [posW, hx]
    rw [e, List.length_cons, List.take_succ_cons, ← ih]
   ·have e : posW (x :: W) = [] := List.filter_eq_nil_iff.2 fun y hy => by
     rcases List.mem_cons.1 hy with rfl | hy
     ·simpa using hx
     ·have := h1 y hy
      simp; omega
    rw [e]; rfl
theorem ranked_falls {W : List Over} (h : W.Pairwise fun a b => b.Worth ≤ a.Worth) : (ranked W).Pairwise fun a b => b.Worth ≤ a.Worth := by
 rw [List.pairwise_iff_getElem] at h ⊢
 intro i j hi hj hij
 have := h i j (by simpa [ranked_len] using hi) (by simpa [ranked_len] using hj) hij
 simpa [ranked] using this
theorem wA_falls (l : List Asset) (p : List Place) (t : Int) : (wA l p t).Pairwise fun a b => b.Worth ≤ a.Worth := ranked_falls (worths_sorted _)
theorem wA_len {l : List Asset} {p : List Place} {t : Int} (h : lfault l p t = 0) : (wA l p t).length ≤ l.length := by
 obtain ⟨hok, _⟩ := lfault_ok h
 obtain ⟨f1, f2, f3, f4, f5⟩ := okAP_facts hok
 rw [wA, ranked_len, isort_len]
 exact overP_small (checkPlaces_sorted (okAP_ok hok).2) t
theorem wA_worth {l : List Asset} {p : List Place} {t : Int} (h : lfault l p t = 0) : ∀ x ∈ wA l p t, x.Worth ≤ 2000000 := by
 obtain ⟨hok, _⟩ := lfault_ok h
 obtain ⟨f1, f2, f3, f4, f5⟩ := okAP_facts hok
 exact ranked_worth fun x hx => overP_worth f2 x ((isort_mem byWorth).1 hx)
/-- What is told of the prices: the numbers, in their order. -/
def centsL (l : List Asset) (p : List Place) (t b : Int) : List Int := if (posW (wA l p t)).length = 0 then [] else (sharedL (b * t - ((posW (wA l p t)).length : Int)) ((posW (wA l p t)).map (·.Worth))).map (· + 1)
def lastC (cs : List Int) (k : Nat) : Int := if k = 0 then 0 else cs.getD (k - 1) 0
theorem lastC_succ {cs : List Int} {k : Nat} {n : Int} (h : cs[k]? = some n) : lastC cs (k + 1) = n := by
 simp [lastC, List.getD, h]
theorem sum_snoc {cs : List Int} {k : Nat} {n : Int} (h : cs[k]? = some n) : (cs.take (k + 1)).sum = (cs.take k).sum + n := by
 rw [take_snoc' h]; simp
theorem sum_succ : ∀ l : List Int, (l.map (· + 1)).sum = l.sum + l.length
 | [] => rfl
 | x :: l => by
   have := sum_succ l
   simp only [List.map_cons, List.sum_cons, List.length_cons]; omega
theorem mem_sum : ∀ {l : List Int}, (∀ y ∈ l, 0 ≤ y) → ∀ x ∈ l, x ≤ l.sum
 | [], _, x, hx => by cases hx
 | y :: l, h, x, hx => by
   have h0 := h y (by simp)
   have hl : ∀ z ∈ l, 0 ≤ z := fun z hz => h z (List.mem_cons_of_mem _ hz)
   have hs : 0 ≤ l.sum := by
    clear hx
    induction l with
    | nil => simp
    | cons z l ih =>
      have := hl z (by simp)
      have := ih (fun w hw => h w (by rcases List.mem_cons.1 hw with e | e; exact e ▸ List.mem_cons_self; exact List.mem_cons_of_mem _ (List.mem_cons_of_mem _ e))) (fun w hw => hl w (List.mem_cons_of_mem _ hw))
      simp only [List.sum_cons]; omega
   rw [List.sum_cons]
   rcases List.mem_cons.1 hx with rfl | hx
   ·omega
   ·have := mem_sum hl x hx; omega
theorem take_sum_bd {B : Int} {cs : List Int} (h : ∀ y ∈ cs, 0 ≤ y ∧ y ≤ B) (k : Nat) : 0 ≤ (cs.take k).sum ∧ (cs.take k).sum ≤ B * (cs.take k).length := sum_bd fun y hy => h y (List.mem_of_mem_take hy)
theorem prices_none {l : List Asset} {p : List Place} {t b : Int} (h : lfault l p t = 0) (hb : 0 ≤ b ∧ b ≤ 1000000) (h0 : (posW (wA l p t)).length = 0) : peA l p t b = 0 ∧ plA l p t b = [] := by
 have ho : out b 0 1000000 = false := by simp [out]; omega
 unfold peA plA
 rw [(pA4 h ho h0).1, (pA4 h ho h0).2]
 exact ⟨rfl, rfl⟩
theorem prices_some {l : List Asset} {p : List Place} {t b : Int} (h : lfault l p t = 0) (hb : 0 ≤ b ∧ b ≤ 1000000) (h0 : (posW (wA l p t)).length ≠ 0) (hr : ¬ b * t - ((posW (wA l p t)).length : Int) < 0) : peA l p t b = 0 ∧ plA l p t b = pricesOf (posW (wA l p t)) (b * t - ((posW (wA l p t)).length : Int)) := by
 have ho : out b 0 1000000 = false := by simp [out]; omega
 unfold peA plA
 rw [(pA5 h ho h0 hr).1, (pA5 h ho h0 hr).2]
 exact ⟨rfl, rfl⟩
theorem rest_pos {l : List Asset} {p : List Place} {t b : Int} (h : lfault l p t = 0) (hl : l.length ≤ 7) (ht : 1 ≤ t ∧ t ≤ 3) (hb : 10 ≤ b ∧ b ≤ 100) : 0 ≤ b * t - ((posW (wA l p t)).length : Int) ∧ b * t - ((posW (wA l p t)).length : Int) ≤ 300 := by
 have h1 := posW_len (wA l p t)
 have h2 := wA_len h
 have h3 := mul_bd (a := b) (b := t) (A := 100) (B := 3) (by omega) hb.2 (by omega) ht.2
 have h4 : 10 * 1 ≤ b * t := Int.mul_le_mul hb.1 ht.1 (by omega) (by omega)
 omega
theorem price_law {l : List Asset} {p : List Place} {t b : Int} (h : lfault l p t = 0) (hl : l.length ≤ 7) (ht : 1 ≤ t ∧ t ≤ 3) (hb : 10 ≤ b ∧ b ≤ 100) :
 peA l p t b = 0 ∧ (plA l p t b).length = (centsL l p t b).length ∧ (centsL l p t b).length ≤ 7 ∧ (∀ y ∈ centsL l p t b, 0 ≤ y ∧ y ≤ 301) ∧
 (plA l p t b = [] ∨ (centsL l p t b).sum = t * b) ∧
 ∀ k q, (plA l p t b)[k]? = some q → ∃ n w, (centsL l p t b)[k]? = some n ∧ q.Val = Lib.itoa n ∧ 1 ≤ n ∧ n ≤ 301 ∧ (wA l p t)[k]? = some w ∧ w.Player = q.Name ∧ 0 < w.Worth ∧ (0 < k → n ≤ lastC (centsL l p t b) k) := by
 have hr := rest_pos h hl ht hb
 have hpl := Nat.le_trans (posW_len (wA l p t)) (wA_len h)
 by_cases h0 : (posW (wA l p t)).length = 0
 ·obtain ⟨e1, e2⟩ := prices_none (b := b) h (by omega) h0
  have e3 : centsL l p t b = [] := by simp [centsL, h0]
  rw [e1, e2, e3]
  refine ⟨rfl, rfl, by simp, by simp, .inl rfl, fun k q hq => by simp at hq⟩
 ·obtain ⟨e1, e2⟩ := prices_some (b := b) h (by omega) h0 (by omega)
  have hw := posW_bd (wA_worth h)
  have hpos := posW_take (wA_falls l p t)
  have hfall : (posW (wA l p t)).Pairwise fun x y => y.Worth ≤ x.Worth := by rw [hpos]; exact (wA_falls l p t).sublist (List.take_sublist _ _)
  have hget : ∀ k w, (posW (wA l p t))[k]? = some w → (wA l p t)[k]? = some w := fun k w hk => by
   have hlt := lt_of_get hk
   rw [hpos, List.getElem?_take_of_lt (by omega)] at hk
   exact hk
  have hmem : ∀ w ∈ posW (wA l p t), 0 < w.Worth := fun w hw => by simpa [posW] using (List.mem_filter.1 hw).2
  rw [e1, e2]
  have e3 : centsL l p t b = (sharedL (b * t - ((posW (wA l p t)).length : Int)) ((posW (wA l p t)).map (·.Worth))).map (· + 1) := by rw [centsL, if_neg h0]
  rw [e3]
  generalize posW (wA l p t) = pos at *
  have hn : 0 ≤ b * t - (pos.length : Int) := hr.1
  generalize hN : b * t - (pos.length : Int) = n0 at *
  have hsl := sharedL_len n0 (pos.map (·.Worth))
  have hsum := sharedL_sum (n := n0) (ws := pos.map (·.Worth)) hn (by simp; omega) fun w q => (hw w q).1
  have hsb := sharedL_bd (n := n0) (ws := pos.map (·.Worth)) (by omega) hw (by simp; omega)
  have hcs : ∀ c ∈ sharedL n0 (pos.map (·.Worth)), 0 ≤ c ∧ c ≤ 300 := fun c hc => by
   have := mem_sum (fun y hy => (hsb y hy).1) c hc
   have := hsb c hc
   omega
  have hdown := fun i j (hij : i < j) (hj : j < pos.length) => sharedL_falls (n := n0) (ws := pos.map (·.Worth)) hn (fun w q => (hw w q).1) hij (by simpa using hj) (by
   have := List.pairwise_iff_getElem.1 hfall i j (by omega) hj hij
   have hi : i < pos.length := by omega
   simpa [List.getD, List.getElem?_map, List.getElem?_eq_getElem hi, List.getElem?_eq_getElem hj] using this)
  rw [List.length_map] at hsl
  unfold pricesOf
  generalize sharedL n0 (pos.map (·.Worth)) = S at *
  refine ⟨rfl, ?_, ?_, ?_, .inr ?_, fun k q hq => ?_⟩
  ·rw [pricePairs_len, List.length_map]
  ·simp; omega
  ·intro y hy
   obtain ⟨c, hc, rfl⟩ := List.mem_map.1 hy
   have := hcs c hc
   omega
  ·rw [sum_succ, hsum, hsl, ← hN, Int.mul_comm b t]; omega
  ·have hk : k < S.length := by have := lt_of_get hq; rwa [pricePairs_len] at this
   have hkp : k < pos.length := by omega
   obtain ⟨c, hc⟩ : ∃ c, S[k]? = some c := ⟨_, List.getElem?_eq_getElem hk⟩
   have hcb := hcs c (List.mem_of_getElem? hc)
   have hq2 : q = ⟨(pos.getD k over0).Player, Lib.itoa (c + 1)⟩ := by
    unfold pricePairs at hq
    rw [List.getElem?_mapIdx, hc] at hq
    simpa using hq.symm
   have hg := getD_some (d := over0) hkp
   refine ⟨c + 1, pos.getD k over0, by rw [List.getElem?_map, hc]; rfl, by rw [hq2], by omega, by omega, hget _ _ hg, by rw [hq2], hmem _ (List.mem_of_getElem? hg), fun h0k => ?_⟩
   have hd := hdown (k - 1) k (by omega) hkp
   rw [show S.getD k 0 = c by simp [List.getD, hc]] at hd
   have hk1 : k - 1 < S.length := by omega
   rw [lastC, if_neg (by omega)]
   rw [show (S.map (· + 1)).getD (k - 1) 0 = S.getD (k - 1) 0 + 1 by simp [List.getD, List.getElem?_eq_getElem hk1]]
   omega
end Go.HL
end
section
namespace Go.Proofs.YtihpgpbbpklbbaaGreatDoor
open Go.HL
set_option maxRecDepth 100000
set_option linter.unusedVariables false
set_option linter.unusedSimpArgs false
theorem w_WorthsK [Tracks] {l : List Asset} {p : List HL.Place} {teams : Int} (hl : l.length ≤ 12) (hp : p.length ≤ 1000000) (hz : lfault l p teams = 0) : ConP Tryz.prog 36 [eAssets l, ePlaces p, .int .i64 teams] (.tup [eOvers (wA l p teams), .int .i64 0]) := by
 have h : ConP Tryz.prog 36 [eAssets l, ePlaces p, .int .i64 teams] (.tup [eOvers (yA l p teams), .int .i64 (lfault l p teams)]) := c_value_Worths hl hp
 rw [yA_wA hz, hz] at h
 exact h
theorem w_PricesK [Tracks] {l : List Asset} {p : List HL.Place} {teams budget : Int} (hl : l.length ≤ 12) (hp : p.length ≤ 1000000) (he : peA l p teams budget = 0) : ConP Tryz.prog 37 [eAssets l, ePlaces p, .int .i64 teams, .int .i64 budget] (.tup [ePairs (plA l p teams budget), .int .i64 0]) := by
 have h : ConP Tryz.prog 37 [eAssets l, ePlaces p, .int .i64 teams, .int .i64 budget] (.tup [ePairs (plA l p teams budget), .int .i64 (peA l p teams budget)]) := c_value_Prices hl hp
 rw [he] at h
 exact h

set_option maxHeartbeats 2000000 in
/-- benchwarmer/benchkeep1.PricesAreAllMoney -/
theorem c_benchkeep1_PricesAreAllMoney [Tracks] {l : List Int} (hT : Tracks.on = false) : ConP Tryz.prog 4 [.slice 1 (l.map (.int .i64))] (.bool true) := by
 refine Con.of_body Tryz.func4 rfl Tryz.ntmps4 rfl rfl ?_
 refine hw_reg ?_
 refine dp rfl (pop_assign rfl) ?_
 refine dn ?_
 refine hw_reg ?_
 refine dp rfl (pop_move rfl) ?_
 refine dp rfl (pop_build (cs := [_, _]) ty25 pl25 rfl) ?_
 refine de rfl (eop_box rfl rfl fun b => ?_)
 refine dghost (M' := [St b l 0]) rfl ?_
 refine dp rfl (pop_assign rfl) ?_
 refine dn ?_
 refine hw_reg ?_
 refine dp rfl (pop_move rfl) ?_
 first
 | refine de rfl (eop_callx (i := 0) ca30 rfl (WeakL.refl _) rfl (c_benchmake_Stream_AssetList (by first | assumption | omega | (simp; omega) | simp_all) (by first | assumption | omega | (simp; omega) | simp_all)) ?_)
 | refine de rfl (eop_callx (i := 1) ca30 rfl (WeakL.refl _) rfl (c_benchmake_Stream_AssetList (by first | assumption | omega | (simp; omega) | simp_all) (by first | assumption | omega | (simp; omega) | simp_all)) ?_)
 | refine de rfl (eop_callx (i := 2) ca30 rfl (WeakL.refl _) rfl (c_benchmake_Stream_AssetList (by first | assumption | omega | (simp; omega) | simp_all) (by first | assumption | omega | (simp; omega) | simp_all)) ?_)
 | refine de rfl (eop_callx (i := 3) ca30 rfl (WeakL.refl _) rfl (c_benchmake_Stream_AssetList (by first | assumption | omega | (simp; omega) | simp_all) (by first | assumption | omega | (simp; omega) | simp_all)) ?_)
 rintro _ _ ⟨l22, a22, rfl, hl22, ha22, rfl⟩
 refine dp rfl (pop_move rfl) ?_
 first
 | refine de rfl (eop_callx (i := 0) ca31 rfl (WeakL.refl _) rfl (c_benchmake_Stream_PlaceList (by first | assumption | omega | (simp; omega) | simp_all)) ?_)
 | refine de rfl (eop_callx (i := 1) ca31 rfl (WeakL.refl _) rfl (c_benchmake_Stream_PlaceList (by first | assumption | omega | (simp; omega) | simp_all)) ?_)
 | refine de rfl (eop_callx (i := 2) ca31 rfl (WeakL.refl _) rfl (c_benchmake_Stream_PlaceList (by first | assumption | omega | (simp; omega) | simp_all)) ?_)
 | refine de rfl (eop_callx (i := 3) ca31 rfl (WeakL.refl _) rfl (c_benchmake_Stream_PlaceList (by first | assumption | omega | (simp; omega) | simp_all)) ?_)
 rintro _ _ ⟨p24, a24, rfl, hp24, ha24, rfl⟩
 refine dp rfl (pop_move rfl) ?_
 first
 | refine de rfl (eop_callx (i := 0) ca32 rfl (WeakL.refl _) rfl (c_benchmake_Stream_Range (by first | assumption | omega | (simp; omega) | simp_all) (by first | assumption | omega | (simp; omega) | simp_all) (by first | assumption | omega | (simp; omega) | simp_all) (by first | assumption | omega | (simp; omega) | simp_all)) ?_)
 | refine de rfl (eop_callx (i := 1) ca32 rfl (WeakL.refl _) rfl (c_benchmake_Stream_Range (by first | assumption | omega | (simp; omega) | simp_all) (by first | assumption | omega | (simp; omega) | simp_all) (by first | assumption | omega | (simp; omega) | simp_all) (by first | assumption | omega | (simp; omega) | simp_all)) ?_)
 | refine de rfl (eop_callx (i := 2) ca32 rfl (WeakL.refl _) rfl (c_benchmake_Stream_Range (by first | assumption | omega | (simp; omega) | simp_all) (by first | assumption | omega | (simp; omega) | simp_all) (by first | assumption | omega | (simp; omega) | simp_all) (by first | assumption | omega | (simp; omega) | simp_all)) ?_)
 | refine de rfl (eop_callx (i := 3) ca32 rfl (WeakL.refl _) rfl (c_benchmake_Stream_Range (by first | assumption | omega | (simp; omega) | simp_all) (by first | assumption | omega | (simp; omega) | simp_all) (by first | assumption | omega | (simp; omega) | simp_all) (by first | assumption | omega | (simp; omega) | simp_all)) ?_)
 rintro _ _ ⟨y26, rfl, hy26, rfl⟩
 refine dp rfl (pop_move rfl) ?_
 refine dp rfl (pop_buildSlice (hs := [_, _, _]) ty22 ty3 rfl rfl (by decide) (by decide) rfl) ?_
 first
 | refine de rfl (eop_callx (i := 0) ca9 rfl (WeakL.refl _) rfl (c_benchmake_Stream_Pick (L := [_, _, _]) (by first | assumption | omega | (simp; omega) | simp_all) (by first | assumption | omega | (simp; omega) | simp_all) (by first | assumption | omega | (simp; omega) | simp_all)) ?_)
 | refine de rfl (eop_callx (i := 1) ca9 rfl (WeakL.refl _) rfl (c_benchmake_Stream_Pick (L := [_, _, _]) (by first | assumption | omega | (simp; omega) | simp_all) (by first | assumption | omega | (simp; omega) | simp_all) (by first | assumption | omega | (simp; omega) | simp_all)) ?_)
 | refine de rfl (eop_callx (i := 2) ca9 rfl (WeakL.refl _) rfl (c_benchmake_Stream_Pick (L := [_, _, _]) (by first | assumption | omega | (simp; omega) | simp_all) (by first | assumption | omega | (simp; omega) | simp_all) (by first | assumption | omega | (simp; omega) | simp_all)) ?_)
 | refine de rfl (eop_callx (i := 3) ca9 rfl (WeakL.refl _) rfl (c_benchmake_Stream_Pick (L := [_, _, _]) (by first | assumption | omega | (simp; omega) | simp_all) (by first | assumption | omega | (simp; omega) | simp_all) (by first | assumption | omega | (simp; omega) | simp_all)) ?_)
 rintro _ _ ⟨y29, rfl, hy29, rfl⟩
 refine dp rfl (pop_assign rfl) ?_
 refine dp rfl (pop_assign rfl) ?_
 refine dp rfl (pop_assign rfl) ?_
 refine dp rfl (pop_assign rfl) ?_
 refine dn ?_
 have hn0 := hl22.len
 have hn1 := hp24.len
 have hs1 := hl22.all
 have hs2 := hp24.all
 have hyb : 10 ≤ y29 ∧ y29 ≤ 100 := by simp at hy29; omega
 refine hw_seq ?_
 refine hw_reg ?_
 refine dp rfl (pop_move rfl) ?_
 refine dp rfl (pop_call ca33 rfl (WeakL.refl _) (c_benchref1_AssetsFault (by first | assumption | omega | (simp; omega) | simp_all) (by first | assumption | omega | (simp; omega) | simp_all))) ?_
 refine dp rfl (pop_neq rfl rfl) ?_
 refine dp rfl (pop_move rfl) ?_
 refine dg rfl rfl (fun hc => ⟨_, OpenTo.refl _, pop_move rfl⟩) ?_
 refine dg rfl rfl (fun hc => by have hq := hc; (try simp at hq); exact ⟨_, OpenTo.upd (t := 34) rfl (by first | exact hc | simp_all) (OpenTo.refl _), pop_call ca34 rfl (WeakL.refl _) (c_benchref1_PlacesFault (by first | assumption | omega | (simp; omega) | simp_all) (by first | assumption | omega | (simp; omega) | simp_all))⟩) ?_
 refine dg rfl rfl (fun hc => ⟨_, OpenTo.upd (t := 35) rfl (by first | exact hc | simp_all) (OpenTo.refl _), pop_neq rfl rfl⟩) ?_
 refine dp rfl (pop_picko rfl (.inl rfl) (.inr ⟨_, rfl, fun h => by simp_all⟩)) ?_
 refine dn ?_
 refine hw_cond rfl (fun h1 => ?_) (fun h2 => ?_)
 ·try simp at h1
  refine hw_reg ?_
  refine dp rfl (pop_call ca35 rfl (WeakL.refl _) (c_benchkeep1_ready hT)) ?_
  refine dp rfl (pop_assign rfl) ?_
  refine dn ?_
  refine hw_ret ?_
  refine ret_g Ghost.clear rfl ⟨?_, rfl⟩
  show HVal.bool _ = _
  first | rfl | (rcases hl5 with e | e <;> simp [e]; done)
 ·try simp at h2
  refine hw_skip ?_
  refine seqQ_n ?_
  have hz : lfault l22 p24 y26 = 0 := by rw [← lfE]; simp [h2.1, h2.2, out, orI]; omega
  have hlaw := price_law (b := y29) hz hn0 (by omega) (by omega)
  obtain ⟨hl1, hl2, hl3, hl4, hl5, hl6⟩ := hlaw
  have hmb := mul_bd (a := y26) (b := y29) (A := 3) (B := 100) (by omega) (by omega) (by omega) (by omega)
  refine hw_reg ?_
  refine dp rfl (pop_move rfl) ?_
  refine dp rfl (pop_move rfl) ?_
  refine dp rfl (pop_move rfl) ?_
  refine dp rfl (pop_call ca36 rfl (WeakL.refl _) (w_WorthsK (by omega) (by omega) hz)) ?_
  refine dp rfl (pop_move rfl) ?_
  refine dp rfl (pop_extract rfl rfl) ?_
  refine dp rfl (pop_extract rfl rfl) ?_
  refine dp rfl (pop_assign rfl) ?_
  refine dp rfl (pop_assign rfl) ?_
  refine dn ?_
  refine hw_reg ?_
  refine dp rfl (pop_move rfl) ?_
  refine dp rfl (pop_move rfl) ?_
  refine dp rfl (pop_move rfl) ?_
  refine dp rfl (pop_move rfl) ?_
  refine dp rfl (pop_call ca37 rfl (WeakL.refl _) (w_PricesK (by omega) (by omega) hl1)) ?_
  refine dp rfl (pop_move rfl) ?_
  refine dp rfl (pop_extract rfl rfl) ?_
  refine dp rfl (pop_extract rfl rfl) ?_
  refine dp rfl (pop_assign rfl) ?_
  refine dp rfl (pop_assign rfl) ?_
  refine dn ?_
  refine hw_seq ?_
  refine hw_reg ?_
  refine dp rfl (pop_move rfl) ?_
  refine dp rfl (pop_neq rfl rfl) ?_
  refine dp rfl (pop_move rfl) ?_
  refine dg rfl rfl (fun hc => ⟨_, OpenTo.refl _, pop_move rfl⟩) ?_
  refine dg rfl rfl (fun hc => ⟨_, OpenTo.upd (t := 57) rfl (by first | exact hc | simp_all) (OpenTo.refl _), pop_neq rfl rfl⟩) ?_
  refine dp rfl (pop_picko rfl (.inl rfl) (.inr ⟨_, rfl, fun h => by simp_all⟩)) ?_
  refine dn ?_
  refine hw_cond rfl (fun h3 => ?_) (fun h3 => ?_)
  ·exfalso
   try simp at h3
   done
  ·try simp at h3
   refine hw_skip ?_
   refine seqQ_n ?_
   refine hw_reg ?_
   refine dp rfl (pop_assign rfl) ?_
   refine dp rfl (pop_assign rfl) ?_
   refine dn ?_
   refine hw_seq ?_
   refine hw_reg ?_
   refine dp rfl (pop_move rfl) ?_
   refine dp rfl (pop_lenm ty36 rfl) ?_
   refine dp rfl (pop_move rfl) ?_
   refine dn ?_
   refine hw_block ?_
   refine hw_loopw (2 :: 12 :: 13 :: 14 :: 15 :: 16 :: 17 :: 62 :: 63 :: 64 :: 65 :: 66 :: 67 :: 68 :: 69 :: 70 :: 71 :: 72 :: 73 :: 74 :: 75 :: 76 :: 77 :: 78 :: 79 :: 80 :: 81 :: 82 :: 83 :: 84 :: 85 :: 86 :: 87 :: 88 :: 89 :: 90 :: 91 :: 92 :: 93 :: 94 :: 95 :: 96 :: 97 :: 98 :: 99 :: 100 :: 101 :: 102 :: 103 :: 104 :: 105 :: 106 :: 107 :: 108 :: 109 :: 110 :: 111 :: 112 :: 113 :: 114 :: 115 :: 116 :: []) (fun (k : Nat) => [(62, .int .i64 k), (12, .int .i64 ((centsL l22 p24 y26 y29).take k).sum), (13, .int .i64 (lastC (centsL l22 p24 y26 y29) k))]) (fun (k : Nat) => [St b l (a24 + 1 + 1)]) (fun (k : Nat) => k ≤ (plA l22 p24 y26 y29).length ∧ (True)) (fun (k : Nat) => (plA l22 p24 y26 y29).length - k) (0) ?_ ?_ ?_ ?_
   ·exact ⟨Nat.zero_le _, trivial⟩
   ·exact ⟨rfl, rfl, rfl, trivial⟩
   ·exact List.Perm.refl _
   ·intro k hinv
    obtain ⟨hk, -⟩ := hinv
    refine hw_reg ?_
    refine dp rfl (pop_lss rfl rfl) ?_
    refine dn ?_
    refine hw_seq ?_
    refine hw_cond rfl (fun h4 => ?_) (fun h5 => ?_)
    ·try simp at h4
     obtain ⟨x, hx⟩ : ∃ x, (plA l22 p24 y26 y29)[k]? = some x := ⟨_, List.getElem?_eq_getElem h4⟩
     have hdx := drop_cons hx
     obtain ⟨n, w, g1, g2, g3, g4, g5, g6, g7, g8⟩ := hl6 k x hx
     obtain ⟨i1, i2, i3⟩ := int_itoa (n := n) (by omega) (by omega)
     rw [← g2] at i1 i2 i3
     have hts := take_sum_bd hl4 k
     have htl : ((centsL l22 p24 y26 y29).take k).length ≤ 7 := by rw [List.length_take]; omega
     refine hw_skip ?_
     refine seqQ_n ?_
     refine hw_seq ?_
     refine hw_block ?_
     refine hw_reg ?_
     refine dp rfl (pop_move rfl) ?_
     refine dp rfl (pop_idx ty36 ty52 rfl rfl rfl (by first | assumption | simp_all)) ?_
     refine dp rfl (pop_loadw ty52 rfl rfl rfl rfl) ?_
     refine de rfl (eop_alloc ty52 rfl fun b15 => ?_)
     refine dp rfl (pop_assign rfl) ?_
     refine de0 (eop_storew ty52 rfl rfl rfl rfl rfl ?_)
     refine dn ?_
     refine hw_ghost (Ghost.fc0 15 rfl) ?_
     refine hw_reg ?_
     refine dp rfl (pop_fieldAddr ty52 rfl ty9 (by decide) rfl) ?_
     refine dp rfl (pop_load ty9 rfl rfl rfl) ?_
     refine dp rfl (pop_call ca38 rfl (WeakL.refl _) (c_benchref1_Int_g (Nat.le_trans (int_read i1).2.1 (by omega)))) ?_
     refine dp rfl (pop_move rfl) ?_
     refine dp rfl (pop_extract rfl rfl) ?_
     refine dp rfl (pop_extract rfl rfl) ?_
     refine dp rfl (pop_assign rfl) ?_
     refine dp rfl (pop_assign rfl) ?_
     refine dn ?_
     simp only [i2, i3]
     refine hw_seq ?_
     refine hw_draw (fun _ => True) [] mixed ?_
     refine ahp 0 rfl rfl (by kernel_rfl) (by kernel_rfl) (pop_move rfl) ?_
     refine ahp 1 rfl rfl (by kernel_rfl) (by kernel_rfl) (pop_not rfl) ?_
     refine ahp 2 rfl rfl (by kernel_rfl) (by kernel_rfl) (pop_move rfl) ?_
     refine ahg 3 rfl rfl (by kernel_rfl) (by kernel_rfl) rfl (fun hc => ⟨_, OpenTo.refl _, pop_move rfl⟩) ?_
     refine ahg 4 rfl rfl (by kernel_rfl) (by kernel_rfl) rfl (fun hc => ⟨_, OpenTo.upd (t := 76) rfl (by first | exact hc | simp_all) (OpenTo.refl _), pop_lss rfl rfl⟩) ?_
     refine ahp 5 rfl rfl (by kernel_rfl) (by kernel_rfl) (pop_picko rfl (.inl rfl) (.inr ⟨_, rfl, fun h => by simp_all⟩)) ?_
     refine ahp 6 rfl rfl (by kernel_rfl) (by kernel_rfl) (pop_move rfl) ?_
     refine ahg 7 rfl rfl (by kernel_rfl) (by kernel_rfl) rfl (fun hc => ⟨_, OpenTo.refl _, pop_move rfl⟩) ?_
     refine ahg 8 rfl rfl (by kernel_rfl) (by kernel_rfl) rfl (fun hc => ⟨_, OpenTo.refl _, pop_move rfl⟩) ?_
     refine ahg 9 rfl rfl (by kernel_rfl) (by kernel_rfl) rfl (fun hc => ⟨_, OpenTo.upd (t := 81) rfl (by first | exact hc | simp_all) (OpenTo.refl _), pop_lenm ty70 rfl⟩) ?_
     refine ahg 10 rfl rfl (by kernel_rfl) (by kernel_rfl) rfl (fun hc => ⟨_, OpenTo.upd (t := 82) rfl (by first | exact hc | simp_all) (OpenTo.upd (t := 80) rfl (by first | exact hc | simp_all) (OpenTo.refl _)), pop_geq rfl rfl⟩) ?_
     refine ahp 11 rfl rfl (by kernel_rfl) (by kernel_rfl) (pop_picko rfl (.inl rfl) (.inr ⟨_, rfl, fun h => by simp_all⟩)) ?_
     refine ahp 12 rfl rfl (by kernel_rfl) (by kernel_rfl) (pop_move rfl) ?_
     refine ahg 13 rfl rfl (by kernel_rfl) (by kernel_rfl) rfl (fun hc => ⟨_, OpenTo.refl _, pop_move rfl⟩) ?_
     refine ahg 14 rfl rfl (by kernel_rfl) (by kernel_rfl) rfl (fun hc => ⟨_, OpenTo.refl _, pop_move rfl⟩) ?_
     refine ahg 15 rfl rfl (by kernel_rfl) (by kernel_rfl) rfl (fun hc => ⟨_, OpenTo.upd (t := 87) rfl (by first | exact hc | simp_all) (OpenTo.upd (t := 86) rfl (by first | exact hc | simp_all) (OpenTo.refl _)), pop_idx (j := k) (a := w) ty70 ty77 rfl rfl rfl g5⟩) ?_
     refine ahg 16 rfl rfl (by kernel_rfl) (by kernel_rfl) rfl (fun hc => ⟨_, OpenTo.upd (t := 88) rfl (by first | exact hc | simp_all) (OpenTo.refl _), pop_fieldAddr ty77 rfl ty9 (by decide) rfl⟩) ?_
     refine ahg 17 rfl rfl (by kernel_rfl) (by kernel_rfl) rfl (fun hc => ⟨_, OpenTo.upd (t := 89) rfl (by first | exact hc | simp_all) (OpenTo.refl _), pop_load ty9 rfl rfl rfl⟩) ?_
     refine ahg 18 rfl rfl (by kernel_rfl) (by kernel_rfl) rfl (fun hc => ⟨_, OpenTo.refl _, pop_fieldAddr ty52 rfl ty9 (by decide) rfl⟩) ?_
     refine ahg 19 rfl rfl (by kernel_rfl) (by kernel_rfl) rfl (fun hc => ⟨_, OpenTo.upd (t := 91) rfl (by first | exact hc | simp_all) (OpenTo.refl _), pop_load ty9 rfl rfl rfl⟩) ?_
     refine ahg 20 rfl rfl (by kernel_rfl) (by kernel_rfl) rfl (fun hc => ⟨_, OpenTo.upd (t := 92) rfl (by first | exact hc | simp_all) (OpenTo.upd (t := 90) rfl (by first | exact hc | simp_all) (OpenTo.refl _)), pop_neqs rfl rfl⟩) ?_
     refine ahp 21 rfl rfl (by kernel_rfl) (by kernel_rfl) (pop_picko rfl (.inl rfl) (.inr ⟨_, rfl, fun h => by simp_all⟩)) ?_
     refine ahp 22 rfl rfl (by kernel_rfl) (by kernel_rfl) (pop_move rfl) ?_
     refine ahg 23 rfl rfl (by kernel_rfl) (by kernel_rfl) rfl (fun hc => ⟨_, OpenTo.refl _, pop_move rfl⟩) ?_
     refine ahg 24 rfl rfl (by kernel_rfl) (by kernel_rfl) rfl (fun hc => ⟨_, OpenTo.refl _, pop_move rfl⟩) ?_
     refine ahg 25 rfl rfl (by kernel_rfl) (by kernel_rfl) rfl (fun hc => ⟨_, OpenTo.upd (t := 97) rfl (by first | exact hc | simp_all) (OpenTo.upd (t := 96) rfl (by first | exact hc | simp_all) (OpenTo.refl _)), pop_idx (j := k) (a := w) ty70 ty77 rfl rfl rfl g5⟩) ?_
     refine ahg 26 rfl rfl (by kernel_rfl) (by kernel_rfl) rfl (fun hc => ⟨_, OpenTo.upd (t := 98) rfl (by first | exact hc | simp_all) (OpenTo.refl _), pop_fieldAddr ty77 rfl ty3 (by decide) rfl⟩) ?_
     refine ahg 27 rfl rfl (by kernel_rfl) (by kernel_rfl) rfl (fun hc => ⟨_, OpenTo.upd (t := 99) rfl (by first | exact hc | simp_all) (OpenTo.refl _), pop_load ty3 rfl rfl rfl⟩) ?_
     refine ahg 28 rfl rfl (by kernel_rfl) (by kernel_rfl) rfl (fun hc => ⟨_, OpenTo.upd (t := 100) rfl (by first | exact hc | simp_all) (OpenTo.refl _), pop_leq rfl rfl⟩) ?_
     refine ahp 29 rfl rfl (by kernel_rfl) (by kernel_rfl) (pop_picko rfl (.inl rfl) (.inr ⟨_, rfl, fun h => by simp_all⟩)) ?_
     refine ahp 30 rfl rfl (by kernel_rfl) (by kernel_rfl) (pop_move rfl) ?_
     refine ahg 31 rfl rfl (by kernel_rfl) (by kernel_rfl) rfl (fun hc => ⟨_, OpenTo.refl _, pop_move rfl⟩) ?_
     refine ahg 32 rfl rfl (by kernel_rfl) (by kernel_rfl) rfl (fun hc => ⟨_, OpenTo.upd (t := 104) rfl (by first | exact hc | simp_all) (OpenTo.refl _), pop_gtr rfl rfl⟩) ?_
     refine ahg 33 rfl rfl (by kernel_rfl) (by kernel_rfl) rfl (fun hc => ⟨_, OpenTo.upd (t := 105) rfl (by first | exact hc | simp_all) (OpenTo.refl _), pop_move rfl⟩) ?_
     refine ahg 34 rfl rfl (by kernel_rfl) (by kernel_rfl) rfl (fun hc => ⟨_, OpenTo.refl _, pop_move rfl⟩) ?_
     refine ahg 35 rfl rfl (by kernel_rfl) (by kernel_rfl) rfl (fun hc => ⟨_, OpenTo.refl _, pop_move rfl⟩) ?_
     refine ahg 36 rfl rfl (by kernel_rfl) (by kernel_rfl) rfl (fun hc => ⟨_, OpenTo.upd (t := 108) rfl (by first | exact hc | simp_all) (OpenTo.upd (t := 107) rfl (by first | exact hc | simp_all) (OpenTo.refl _)), pop_gtr rfl rfl⟩) ?_
     refine ahg 37 rfl rfl (by kernel_rfl) (by kernel_rfl) rfl (fun hc => ⟨_, OpenTo.upd (t := 106) rfl (by first | exact hc | simp_all) (OpenTo.refl _), pop_picko rfl (.inr ⟨_, rfl, fun h => by simp_all⟩) (.inl rfl)⟩) ?_
     refine ahp 38 rfl rfl (by kernel_rfl) (by kernel_rfl) (pop_picko rfl (.inl rfl) (.inr ⟨_, rfl, fun h => by simp_all⟩)) ?_
     refine ahz (by kernel_rfl) ?_
     refine hw_cond rfl (fun h6 => ?_) (fun h6 => ?_)
     ·exfalso
      try simp at h6
      have hlt := lt_of_get g5
      rcases h6 with (((q | q) | q) | q) | q
      ·omega
      ·omega
      ·exact q g6
      ·omega
      ·have := g8 q.1; omega
     ·try simp at h6
      refine hw_skip ?_
      refine seqQ_n ?_
      refine hw_reg ?_
      refine dp rfl (pop_move rfl) ?_
      refine dp rfl (pop_move rfl) ?_
      refine dp rfl (pop_add64 rfl rfl (by omega) (by omega)) ?_
      refine dp rfl (pop_assign rfl) ?_
      refine dn ?_
      refine hw_reg1 ?_
      refine dp rfl (pop_move rfl) ?_
      refine dp rfl (pop_assign rfl) ?_
      refine dn ?_
      refine blockQ_n ?_
      refine seqQ_n ?_
      refine hw_reg1 ?_
      refine dp rfl (pop_add64 rfl rfl (by omega) (by omega)) ?_
      refine dp rfl (pop_move rfl) ?_
      refine dn ?_
      exact ⟨k + 1, ⟨by omega, trivial⟩, by dsimp only; omega, ⟨rfl, some_int (by rw [sum_snoc g1]), some_int (by rw [lastC_succ g1]), trivial⟩, (by repeat (first | exact keeps_refl | refine keeps_upd rfl ?_ | refine keeps_loop rfl rfl ?_)), List.Perm.refl _⟩
    ·try simp at h5
     have hnk : (plA l22 p24 y26 y29).length ≤ k := by omega
     obtain rfl : k = (plA l22 p24 y26 y29).length := by omega
     rw [hl2, List.take_length]
     refine hw_exit ?_
     refine seqQ_x ?_
     refine loopQ_x ?_
     refine blockQ_eq ?_
     refine seqQ_n ?_
     refine hw_reg ?_
     refine dp rfl (pop_move rfl) ?_
     refine dp rfl (pop_lenm ty36 rfl) ?_
     refine dp rfl (pop_eql rfl rfl) ?_
     refine dp rfl (pop_move rfl) ?_
     refine dg rfl rfl (fun hc => ⟨_, OpenTo.refl _, pop_move rfl⟩) ?_
     refine dg rfl rfl (fun hc => ⟨_, OpenTo.refl _, pop_move rfl⟩) ?_
     refine dg rfl rfl (fun hc => ⟨_, OpenTo.refl _, pop_move rfl⟩) ?_
     refine dg rfl rfl (fun hc => by have hq := hc; (try simp at hq); exact ⟨_, OpenTo.upd (t := 123) rfl (by first | exact hc | simp_all) (OpenTo.upd (t := 122) rfl (by first | exact hc | simp_all) (OpenTo.refl _)), pop_mul64 rfl rfl (by omega) (by omega)⟩) ?_
     refine dg rfl rfl (fun hc => ⟨_, OpenTo.upd (t := 124) rfl (by first | exact hc | simp_all) (OpenTo.upd (t := 121) rfl (by first | exact hc | simp_all) (OpenTo.refl _)), pop_eql rfl rfl⟩) ?_
     refine dp rfl (pop_picko rfl (.inl rfl) (.inr ⟨_, rfl, fun h => by simp_all⟩)) ?_
     refine dp rfl (pop_move rfl) ?_
     refine dg rfl rfl (fun hc => ⟨_, OpenTo.refl _, pop_call ca35 rfl (WeakL.refl _) (c_benchkeep1_ready hT)⟩) ?_
     refine dp rfl (pop_picko rfl (.inr ⟨_, rfl, fun h => by simp_all⟩) (.inl rfl)) ?_
     refine dp rfl (pop_assign rfl) ?_
     refine dn ?_
     refine hw_ret ?_
     refine ret_g Ghost.clear rfl ⟨?_, rfl⟩
     show HVal.bool _ = _
     first | rfl | (rcases hl5 with e | e <;> simp [e]; done)
end Go.Proofs.YtihpgpbbpklbbaaGreatDoor
end
section
namespace Go.Proofs.YtihpgpbbpklbbaaGreatDoor
open Go.ChangeShapes Go.WideShapes Go.ChangeAt Go.RowKit Go.HL
theorem ownPricesAreAllMoney : ownKnob Tryz.prog.godebug = none := by kernel_rfl
theorem laidOutPricesAreAllMoney : laidOutB Tryz.prog = true := by kernel_rfl
theorem cellsPricesAreAllMoney : Tryz.prog.cellsOf 3 = 1 := by kernel_rfl
theorem tabPricesAreAllMoney {W : World} (h : laidMetH Tryz.prog Rows.pricesAreAllMoneyRow.laid W) : TabI Tryz.prog (allI W) := by
 rw [MakeChecks.laidMetH_plain _ _ _ (by kernel_rfl)] at h
 letI : Tracks := ⟨false⟩
 exact tabI_of_laid (i := 2) (g := 3) (t := 312) h (by kernel_rfl) (by kernel_rfl) (by kernel_rfl) Tryz.underlying312 Tryz.underlying233 (by kernel_rfl) (by kernel_rfl)
theorem callsPricesAreAllMoney {W : World} (ht : TabI Tryz.prog (allI W)) {a : Option Addr} {len cap : Nat} {H : Type} {enc : TypeId × Value → H} {d0 : DataW H} {p : List MemPlace} (h : DataW.Trod enc Tryz.prog W 0 (fun _ => true) true 22 (.slice a len cap) d0 p) :
 Calls Tryz.prog 4 #[.slice a len cap] W fun e W' => e = .returned (.bool true) ∧ Below W.heap.size W W' := by
 obtain ⟨fuel, hf⟩ := h
 rcases open_ints Tryz.underlying22 Tryz.underlying3 cellsPricesAreAllMoney hf with ⟨hcs, hx⟩ | ⟨a', len', cap', zs, hcs, _, hl, hm, hz, hx, hcell, hwz⟩
 ·simp [Value.cells] at hcs
  obtain ⟨rfl, rfl, rfl⟩ := hcs
  letI : Tracks := ⟨false⟩
  exact conp_law (l := []) (c_benchkeep1_PricesAreAllMoney rfl) ht (.slice0 _ _ _)
 ·simp [Value.cells] at hcs
  obtain ⟨rfl, rfl, rfl⟩ := hcs
  simp only [if_true] at hz
  letI : Tracks := ⟨false⟩
  exact conp_law (l := zs.take len) (c_benchkeep1_PricesAreAllMoney rfl) ht (v_ints hcell (by omega) hl)
set_option maxRecDepth 100000 in
theorem liftedPricesAreAllMoney (os : Os) (started : os.Started) (H : Type) (enc : TypeId × Value → H) :
 ReturnsInHanded {} Tryz.checked os 4 .any (fun w args => (Rows.pricesAreAllMoneySpec.pre enc Tryz.prog Tryz.f4 Rows.pricesAreAllMoneyRow.domain false w args ∧ laidMetH Tryz.prog Rows.pricesAreAllMoneyRow.laid w) ∧ sizedMet enc Tryz.prog Tryz.f4 (OpenSpec.ofChange Rows.pricesAreAllMoneySpec) false w args)
  (Rows.pricesAreAllMoneySpec.post enc Tryz.prog Tryz.f4 false true false false) := by
 refine returnsInHanded_of_change_and (C := Tryz.checked) (X := fun w _ => laidMetH Tryz.prog Rows.pricesAreAllMoneyRow.laid w) (fun _ _ _ hh h => h.of_heap hh) ownPricesAreAllMoney started (by kernel_rfl) Tryz.func4
  (ChangeSpec.witness_shaped (enc := enc) (C := Tryz.checked) (os := os) (X := fun w _ => laidMetH Tryz.prog Rows.pricesAreAllMoneyRow.laid w) false (World.laidAll Tryz.prog os Rows.pricesAreAllMoneyRow.laid) #[.slice none 0 0] 8 (World.laidAll_os _ _ _)
    (World.shaped_of_ZipB (by kernel_rfl) (by kernel_rfl)) (by kernel_rfl) (by kernel_rfl) (by kernel_rfl)
    (by rw [MakeChecks.laidMetH_plain _ _ _ (by kernel_rfl)]; exact laidMet_laidAll _ (by kernel_rfl) (by kernel_rfl))) ?_
 intro W base args ds gs before hval0 hW _ _ hL _
 have hval : ∀ (j : Nat) t v, Tryz.f4.params[j]? = some t → args[j]? = some v → Value.okWide Tryz.prog W .any base t v := hval0
 have hW' := hW
 obtain ⟨p, q, hA0, hV, rfl, _, _⟩ := hW
 have hA : DataW.TrodAll enc Tryz.prog W 0 (fun _ => true) true Tryz.f4.params.toList args.toList ds p := hA0
 rw [Tryz.params4] at hA hval
 obtain ⟨v0, d0, rfl, rfl, h0⟩ := trodAll_one hA
 obtain ⟨rfl, rfl⟩ := trodVars_none hV
 obtain ⟨a0, len, cap, rfl⟩ := okWide_slice Tryz.underlying22 (hval 0 22 v0 rfl rfl)
 simp only [List.append_nil] at hW'
 have hlt : ∀ x ∈ p, x.block < W.heap.size := fun x hx => by simpa using hW'.lt x hx
 refine (callsPricesAreAllMoney (tabPricesAreAllMoney hL) h0).mono fun e W' ⟨he, hb⟩ => ?_
 subst he
 have hargs : DataW.Trod enc Tryz.prog W' 0 (fun b => decide (b < W.heap.size)) true 22 (.slice a0 len cap) d0 p :=
  Below.trod laidOutPricesAreAllMoney (by kernel_rfl) (of_decide_eq_true (by kernel_rfl)) h0 hb hlt
 exact ⟨_, rfl, _, _, _, [], p, [], hW', trodAll_mk1 (shut_bool Tryz.underlying4 _), trodAll_mk1 hargs, rfl, hb.frame _, fun h => by cases h⟩
theorem mapsPricesAreAllMoney : mapsRowed Tryz.prog = true := by kernel_rfl
theorem inplPricesAreAllMoney : (Rows.pricesAreAllMoneyRow.inPlace == Tryz.prog.inPlace 4) = true := by kernel_rfl
theorem unfoPricesAreAllMoney : (Rows.pricesAreAllMoneyRow.unfollowed == Tryz.prog.unfollowed 4) = true := by kernel_rfl
theorem recuPricesAreAllMoney : (Rows.pricesAreAllMoneyRow.recurses == Tryz.prog.recurses 4) = true := by kernel_rfl
theorem varsPricesAreAllMoney : (Rows.pricesAreAllMoneyRow.named == Tryz.prog.varsNamed 4) = true := by kernel_rfl
theorem joinPricesAreAllMoney : joinedFacts Tryz.prog 4 Tryz.f4 Rows.pricesAreAllMoneySpec Rows.pricesAreAllMoneyRow = true := by
 simp only [joinedFacts, Bool.and_eq_true]
 repeat' apply And.intro
 all_goals first
  | with_reducible exact laidOutPricesAreAllMoney
  | with_reducible exact mapsPricesAreAllMoney
  | with_reducible exact inplPricesAreAllMoney
  | with_reducible exact unfoPricesAreAllMoney
  | with_reducible exact recuPricesAreAllMoney
  | with_reducible exact varsPricesAreAllMoney
  | kernel_rfl
theorem lookPricesAreAllMoney : true = Tryz.prog.looks [] := by kernel_rfl
theorem goesPricesAreAllMoney : false = Rows.pricesAreAllMoneyRow.goesBy Tryz.prog := by kernel_rfl
theorem wfbtPricesAreAllMoney : Rows.pricesAreAllMoneyRow.wfByText (OpenSpec.ofChange Rows.pricesAreAllMoneySpec) = true := by kernel_rfl
theorem mainPricesAreAllMoney : Tryz.prog.mainIs = some ("cf77d60fbca96cdf4ad783aab3d7b3a05c112add1f68e6e2f29dbbd7732029be" |> fun h => (true, h.toList)) := by kernel_rfl
theorem stanPricesAreAllMoney : ([22].all fun u => !Tryz.prog.wantsStandIn u) = true := by kernel_rfl
theorem fnamPricesAreAllMoney : Tryz.prog.funcNamed Rows.pricesAreAllMoneyRow.func = some 4 := by kernel_rfl
theorem holdsPricesAreAllMoney : Rows.PricesAreAllMoneySaid :=
 OpenClaim.holds_of_wide 4 Tryz.f4 rfl rfl rfl rfl rfl rfl rfl ⟨rfl, rfl, rfl, rfl, rfl⟩ rfl rfl rfl rfl rfl fnamPricesAreAllMoney Tryz.func4 joinPricesAreAllMoney
  (of_decide_eq_true (by kernel_rfl)) (by unfold Func.isWrapper; first | (rw [if_pos (by decide +kernel)]; kernel_rfl) | (rw [if_neg (by decide +kernel)]; exact ⟨rfl, rfl⟩))
  (fun os started H enc _ => liftedPricesAreAllMoney os started H enc)
theorem cardPricesAreAllMoney : Rows.PricesAreAllMoneyCardSaid :=
 Claim7.holds_tied_plain_at .later [] [.data, .data, .data, .data, .sentinel, .sentinel, .pinned] true (true, "cf77d60fbca96cdf4ad783aab3d7b3a05c112add1f68e6e2f29dbbd7732029be") true holdsPricesAreAllMoney (fun _ h => by cases h) wfbtPricesAreAllMoney (fun _ h => by cases h) pricesAreAllMoney_row_tie rfl ⟨rfl, rfl⟩ mainPricesAreAllMoney rfl
  (fun f fn hf hfn => by
    obtain rfl : f = 4 := Option.some.inj (fnamPricesAreAllMoney.symm.trans hf) |>.symm
    obtain rfl : fn = Tryz.f4 := (Option.some.inj (Tryz.func4.symm.trans hfn)).symm
    exact ⟨lookPricesAreAllMoney, fun j t ht => by
     rw [Tryz.params4] at ht
     have hm : t ∈ [22] := by simpa using Array.mem_of_getElem? ht
     have hall := stanPricesAreAllMoney
     exact (show Tryz.prog.wantsStandIn t = false by simpa using List.all_eq_true.1 hall t hm)⟩)
  goesPricesAreAllMoney
end Go.Proofs.YtihpgpbbpklbbaaGreatDoor
end
