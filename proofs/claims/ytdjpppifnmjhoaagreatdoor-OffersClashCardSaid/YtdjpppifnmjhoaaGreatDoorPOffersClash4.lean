/- Part 4 of the proof: a program logic, contracts of functions and plain facts; no conditions. -/
import Derived.Test.YtdjpppifnmjhoaaGreatDoorPOffersClash3
import Derived.KernelRfl
import Derived.Laws.Cover4
import Derived.Shelf.Slices.CompactI
import Derived.Shelf.Slices.In.SortNone
import Derived.Shelf.Sort.Plain
set_option linter.unusedVariables false
set_option linter.unusedSimpArgs false
section
namespace Go.Proofs.YtdjpppifnmjhoaaGreatDoor
open Go.HL
set_option maxRecDepth 100000
set_option linter.unusedVariables false
set_option linter.unusedSimpArgs false
/-- slices.IndexFunc[[]benchwarmer/api.Owner,benchwarmer/api.Owner] -/
theorem c_slices_IndexFunc_api_Owner_api_Owner [Tracks] {l : List OwnerS} {fid : FuncId} {caps : List HVal} {p : OwnerS → Bool} (hca : Callable Tryz.prog fid) (hp : ∀ x, ConP Tryz.prog fid ([eOwner x] ++ caps) (.bool (p x))) (hl : l.length ≤ 1000000) : ConP Tryz.prog 79 [.slice 2 (l.map eOwner), .fn (.func fid) [] caps] (.int .i64 (idxF p l 0)) := by
 refine Con.of_body Tryz.func79 rfl Tryz.ntmps79 rfl rfl ?_
 refine hw_reg ?_
 refine dp rfl (pop_assign rfl) ?_
 refine dn ?_
 refine hw_seq ?_
 refine hw_reg ?_
 refine dp rfl (pop_move rfl) ?_
 refine dp rfl (pop_lenm ty32 rfl) ?_
 refine dp rfl (pop_move rfl) ?_
 refine dn ?_
 refine hw_block ?_
 refine hw_loopw [4, 5, 8, 9, 10, 11, 12, 13, 14, 15, 16, 17, 18] (fun (k : Nat) => [(8, .int .i64 k)]) (fun (k : Nat) => []) (fun (k : Nat) => k ≤ l.length ∧ (idxF p l 0 = idxF p (l.drop k) k)) (fun (k : Nat) => l.length - k) (0) ?_ ?_ ?_ ?_
 ·exact ⟨Nat.zero_le _, rfl⟩
 ·exact ⟨rfl, trivial⟩
 ·exact List.Perm.refl _
 ·intro k hinv
  obtain ⟨hk, hg⟩ := hinv
  refine hw_reg ?_
  refine dp rfl (pop_lss rfl rfl) ?_
  refine dn ?_
  refine hw_seq ?_
  refine hw_cond rfl (fun h1 => ?_) (fun h2 => ?_)
  ·try simp at h1
   obtain ⟨x, hx⟩ : ∃ x, l[k]? = some x := ⟨_, List.getElem?_eq_getElem h1⟩
   have hdx := drop_cons hx
   rw [hdx] at hg
   refine hw_skip ?_
   refine seqQ_n ?_
   refine hw_seq ?_
   refine hw_block ?_
   refine hw_reg ?_
   refine dp rfl (pop_move rfl) ?_
   refine dp rfl (pop_assign rfl) ?_
   refine dn ?_
   refine hw_reg ?_
   refine dp rfl (pop_move rfl) ?_
   refine dp rfl (pop_move rfl) ?_
   refine dp rfl (pop_move rfl) ?_
   refine dp rfl (pop_idx ty32 ty67 rfl rfl rfl (by first | assumption | simp_all)) ?_
   refine dp rfl (pop_loadw ty67 rfl rfl rfl rfl) ?_
   refine dp rfl (pop_callv hca rfl rfl (WeakL.refl _) (hp _)) ?_
   refine dn ?_
   refine hw_cond rfl (fun h3 => ?_) (fun h4 => ?_)
   ·try simp at h3
    refine hw_reg ?_
    refine dp rfl (pop_move rfl) ?_
    refine dp rfl (pop_assign rfl) ?_
    refine dn ?_
    refine hw_ret ?_
    refine ret_p rfl ?_
    show HVal.int .i64 _ = _
    first | (rw [hg]; rfl) | (rw [hg]; simp_all [idxF])
   ·try simp at h4
    refine hw_skip ?_
    refine blockQ_n ?_
    refine seqQ_n ?_
    refine hw_reg1 ?_
    refine dp rfl (pop_add64 rfl rfl (by omega) (by omega)) ?_
    refine dp rfl (pop_move rfl) ?_
    refine dn ?_
    refine ⟨k + 1, ?_, ?_, ⟨rfl, trivial⟩, (by repeat (first | exact keeps_refl | refine keeps_upd rfl ?_ | refine keeps_loop rfl rfl ?_)), List.Perm.refl _⟩
    ·refine ⟨by omega, ?_⟩
     rw [hg, idxF, if_neg (by simp_all)]; rfl
    ·dsimp only; omega
  ·try simp at h2
   have hnk : l.length ≤ k := by omega
   obtain rfl : k = l.length := by omega
   rw [drop_all (Nat.le_refl _)] at hg
   refine hw_exit ?_
   refine seqQ_x ?_
   refine loopQ_x ?_
   refine blockQ_eq ?_
   refine seqQ_n ?_
   refine hw_reg ?_
   refine dp rfl (pop_assign rfl) ?_
   refine dn ?_
   refine hw_ret ?_
   refine ret_p rfl ?_
   show HVal.int .i64 _ = _
   first | (rw [hg]; rfl) | (rw [hg]; simp_all [idxF])

/-- slices.Clone[[]benchwarmer/api.Owner,benchwarmer/api.Owner] -/
theorem c_slices_Clone_api_Owner_api_Owner [Tracks] {l : List OwnerS} (hl : l.length ≤ 1000000) : ConA Tryz.prog 109 [.slice 2 (l.map eOwner)] 2 (l.map eOwner) := by
 refine Con.of_body Tryz.func109 rfl Tryz.ntmps109 rfl rfl ?_
 refine hw_reg ?_
 refine dp rfl (pop_assign rfl) ?_
 refine dn ?_
 refine hw_seq ?_
 refine hw_reg ?_
 refine dp rfl (pop_move rfl) ?_
 refine de rfl (eop_eqnil ty32 rfl rfl fun b4 hb4 => ?_)
 refine dn ?_
 refine hw_cond rfl (fun h1 => ?_) (fun h2 => ?_)
 ·try simp at h1
  refine hw_reg ?_
  refine dp rfl (pop_assign rfl) ?_
  refine dn ?_
  refine hw_ret ?_
  first | exact ret_a rfl rfl | exact ret_g (Ghost.arr_nil 2) rfl ⟨_, rfl, by simp_all⟩
 ·try simp at h2
  refine hw_skip ?_
  refine seqQ_n ?_
  refine hw_reg ?_
  refine de rfl (eop_mk0 ty32 ty67 fun v5 => ?_)
  refine dp rfl (pop_move rfl) ?_
  refine de rfl (eop_append (i := 0) ty32 ty67 rfl rfl rfl rfl rfl (by simp [flat, hcells]) (by first | omega | (simp; omega)) fun v7 => ?_)
  refine dp rfl (pop_assign rfl) ?_
  refine dn ?_
  refine hw_ret ?_
  first | exact ret_a rfl rfl | exact ret_g (Ghost.arr_nil 2) rfl ⟨_, rfl, by simp_all⟩

/-- slices.BinarySearchFunc[[]benchwarmer/api.Owner,benchwarmer/api.Owner,string] -/
theorem c_slices_BinarySearchFunc_Owner [Tracks] {l : List OwnerS} {s : Str} {fid : FuncId} (hca : Callable Tryz.prog fid) (hp : ∀ x : OwnerS, ConP Tryz.prog fid [eOwner x, .str s] (.int .i64 (cmpS x.Player s))) (hl : l.length ≤ 1000000) (hs : SortedS (l.map (·.Player))) : ConP Tryz.prog 110 [eOwners l, .str s, .fn (.func fid) [] []] (.tup [.int .i64 (posS (l.map (·.Player)) s), .bool ((l.map (·.Player)).contains s)]) := by
 have hLl : (l.map (·.Player)).length = l.length := List.length_map _
 refine Con.of_body Tryz.func110 rfl Tryz.ntmps110 rfl rfl ?_
 refine hw_reg ?_
 refine dp rfl (pop_assign rfl) ?_
 refine dp rfl (pop_assign rfl) ?_
 refine dn ?_
 refine hw_reg ?_
 refine dp rfl (pop_move rfl) ?_
 refine dp rfl (pop_lenm ty32 rfl) ?_
 refine dp rfl (pop_assign rfl) ?_
 refine dn ?_
 refine hw_reg ?_
 refine dp rfl (pop_move rfl) ?_
 refine dp rfl (pop_assign rfl) ?_
 refine dp rfl (pop_assign rfl) ?_
 refine dn ?_
 refine hw_seq ?_
 refine hw_block ?_
 refine hw_loopw2 [9, 10, 11, 15, 16, 17, 18, 19, 20, 21, 22, 23, 24, 25, 26, 27, 28, 29, 30, 31, 32, 33, 34] (fun (i : Nat) (j : Nat) => [(9, .int .i64 i), (10, .int .i64 j)]) (fun (i : Nat) (j : Nat) => []) (fun (i : Nat) (j : Nat) => i ≤ j ∧ j ≤ (l.map (·.Player)).length ∧ (∀ (k : Nat) (x : Str), k < i → (l.map (·.Player))[k]? = some x → Op.bytesLess x s = true) ∧ (∀ (k : Nat) (x : Str), j ≤ k → (l.map (·.Player))[k]? = some x → Op.bytesLess x s = false)) (fun (i : Nat) (j : Nat) => j - i) (0) (l.length) ?_ ?_ ?_ ?_
 ·exact ⟨Nat.zero_le _, by rw [hLl]; exact Nat.le_refl _, fun k x h => by omega, fun k x h1 h2 => by have := lt_of_get h2; omega⟩
 ·exact ⟨rfl, rfl, trivial⟩
 ·exact List.Perm.refl _
 ·intro i j hinv
  obtain ⟨hij, hjl, ha, hb⟩ := hinv
  rw [hLl] at hjl
  refine hw_seq ?_
  refine hw_reg ?_
  refine dp rfl (pop_move rfl) ?_
  refine dp rfl (pop_move rfl) ?_
  refine dp rfl (pop_lss rfl rfl) ?_
  refine dn ?_
  refine hw_cond rfl (fun h1 => ?_) (fun h2 => ?_)
  ·try simp at h1
   obtain ⟨x, hx⟩ : ∃ x, l[(i + j) / 2]? = some x := ⟨_, List.getElem?_eq_getElem (by omega)⟩
   have hxL : (l.map (·.Player))[(i + j) / 2]? = some x.Player := by rw [List.getElem?_map, hx]; rfl
   have hm : (i + j) / 2 < j ∧ i ≤ (i + j) / 2 := by omega
   refine hw_skip ?_
   refine seqQ_n ?_
   refine hw_block ?_
   refine hw_reg ?_
   refine dp rfl (pop_move rfl) ?_
   refine dp rfl (pop_move rfl) ?_
   refine dp rfl (pop_add64 rfl rfl (by omega) (by omega)) ?_
   refine dp rfl (pop_conv ty3 ty139 rfl) ?_
   refine dp rfl (pop_shr rfl rfl (by omega)) ?_
   refine dp rfl (pop_eq (pop_conv ty139 ty3 rfl) (mid_eq (i := i) (j := j) (by omega))) ?_
   refine dp rfl (pop_assign rfl) ?_
   refine dn ?_
   refine hw_reg ?_
   refine dp rfl (pop_move rfl) ?_
   refine dp rfl (pop_move rfl) ?_
   refine dp rfl (pop_move rfl) ?_
   refine dp rfl (pop_idx (j := (i + j) / 2) (a := x) ty32 ty67 rfl rfl rfl hx) ?_
   refine dp rfl (pop_loadw ty67 rfl rfl rfl rfl) ?_
   refine dp rfl (pop_move rfl) ?_
   refine dp rfl (pop_callv hca rfl rfl (WeakL.refl _) (hp _)) ?_
   refine dp rfl (pop_lss rfl rfl) ?_
   refine dn ?_
   refine hw_cond rfl (fun h3 => ?_) (fun h4 => ?_)
   ·try simp at h3
    refine hw_reg1 ?_
    refine dp rfl (pop_move rfl) ?_
    refine dp rfl (pop_add64 rfl rfl (by omega) (by omega)) ?_
    refine dp rfl (pop_assign rfl) ?_
    refine dn ?_
    refine blockQ_n ?_
    exact ⟨(i + j) / 2 + 1, j, ⟨by omega, by rw [hLl]; exact hjl, bs_up hs hxL (cmpS_lt.1 h3), hb⟩, by dsimp only; omega, ⟨rfl, rfl, trivial⟩, (by repeat (first | exact keeps_refl | refine keeps_upd rfl ?_ | refine keeps_loop rfl rfl ?_)), List.Perm.refl _⟩
   ·try simp at h4
    refine hw_reg1 ?_
    refine dp rfl (pop_move rfl) ?_
    refine dp rfl (pop_assign rfl) ?_
    refine dn ?_
    refine blockQ_n ?_
    exact ⟨i, (i + j) / 2, ⟨by omega, by omega, ha, bs_dn hs hxL (by have q := fun e => (show ¬ cmpS x.Player s < 0 by omega) (cmpS_lt.2 e); simpa using q)⟩, by dsimp only; omega, ⟨rfl, rfl, trivial⟩, (by repeat (first | exact keeps_refl | refine keeps_upd rfl ?_ | refine keeps_loop rfl rfl ?_)), List.Perm.refl _⟩
  ·try simp at h2
   obtain rfl : i = j := by omega
   have hjl2 : i ≤ (l.map (·.Player)).length := by rw [hLl]; exact hjl
   refine hw_exit ?_
   refine seqQ_x ?_
   refine loopQ2_x ?_
   refine blockQ_eq ?_
   refine seqQ_n ?_
   refine hw_reg ?_
   refine dp rfl (pop_move rfl) ?_
   refine dp rfl (pop_move rfl) ?_
   refine dp rfl (pop_move rfl) ?_
   refine dp rfl (pop_lss rfl rfl) ?_
   refine dp rfl (pop_move rfl) ?_
   refine dg rfl rfl (fun hc => ⟨_, OpenTo.refl _, pop_move rfl⟩) ?_
   refine dg rfl rfl (fun hc => ⟨_, OpenTo.refl _, pop_move rfl⟩) ?_
   refine dg rfl rfl (fun hc => ⟨_, OpenTo.refl _, pop_move rfl⟩) ?_
   refine dg rfl rfl (fun hc => by have hq := hc; (try simp at hq); exact ⟨_, OpenTo.upd (t := 42) rfl (by first | exact hc | simp_all) (OpenTo.upd (t := 41) rfl (by first | exact hc | simp_all) (OpenTo.refl _)), pop_idx (j := i) (a := l.getD i owner0) ty32 ty67 rfl rfl rfl (getD_some (by omega))⟩) ?_
   refine dg rfl rfl (fun hc => ⟨_, OpenTo.upd (t := 43) rfl (by first | exact hc | simp_all) (OpenTo.refl _), pop_loadw ty67 rfl rfl rfl rfl⟩) ?_
   refine dg rfl rfl (fun hc => ⟨_, OpenTo.refl _, pop_move rfl⟩) ?_
   refine dg rfl rfl (fun hc => ⟨_, OpenTo.upd (t := 45) rfl (by first | exact hc | simp_all) (OpenTo.upd (t := 44) rfl (by first | exact hc | simp_all) (OpenTo.upd (t := 40) rfl (by first | exact hc | simp_all) (OpenTo.refl _))), pop_callv hca rfl rfl (WeakL.refl _) (hp _)⟩) ?_
   refine dg rfl rfl (fun hc => ⟨_, OpenTo.upd (t := 46) rfl (by first | exact hc | simp_all) (OpenTo.refl _), pop_eql rfl rfl⟩) ?_
   refine dp rfl (pop_picko rfl (.inr ⟨_, rfl, fun h => by simp_all⟩) (.inl rfl)) ?_
   refine dp rfl (pop_assign rfl) ?_
   refine dp rfl (pop_assign rfl) ?_
   refine dn ?_
   refine hw_ret ?_
   refine ret_p rfl ?_
   rw [posS_eq hjl2 ha hb, ← found_eq hs hjl2 ha hb, ← bsf_found]

/-- benchwarmer/trade.did$1 -/
theorem c_trade_did_1 [Tracks] {x : OwnerS} {s : Str}  : ConP Tryz.prog 111 [eOwner x, .str s] (.int .i64 (cmpS x.Player s)) := by
 refine Con.of_body Tryz.func111 rfl Tryz.ntmps111 rfl rfl ?_
 refine hw_reg ?_
 refine dp rfl (pop_box rfl rfl) ?_
 refine dp rfl (pop_assign rfl) ?_
 refine dn ?_
 refine hw_reg ?_
 refine dp rfl (pop_fieldAddr ty67 rfl ty9 (by decide) rfl) ?_
 refine dp rfl (pop_load ty9 rfl rfl rfl) ?_
 refine dp rfl (pop_move rfl) ?_
 refine dp rfl (pop_call ca32 rfl (WeakL.refl _) c_strings_Compare) ?_
 refine dp rfl (pop_assign rfl) ?_
 refine dn ?_
 refine hw_ret ?_
 refine ret_p rfl ?_
 rfl

set_option maxHeartbeats 1000000 in
/-- benchwarmer/trade.did -/
theorem c_trade_did [Tracks] {m : MarketS} {o : List OwnerS} {x : DealS} (ht : m.Teams.length ≤ 1000000) (h0o : 0 < o.length) (ho : o.length ≤ 1000000) (hs : SortedS (o.map (·.Player))) (hx : x.Gives.length ≤ 1000000) : ConP Tryz.prog 65 [.vptr (hcells (eMarket m)) 0, eOwners o, eDeal x] (.tup [eOwners (didV o x.Gives), .bool (didB m o x.Gives)]) := by
 refine Con.of_body Tryz.func65 rfl Tryz.ntmps65 rfl rfl ?_
 refine hw_reg ?_
 refine dp rfl (pop_box rfl rfl) ?_
 refine dp rfl (pop_assign rfl) ?_
 refine dp rfl (pop_assign rfl) ?_
 refine dn ?_
 refine hw_reg ?_
 refine dp rfl (pop_move rfl) ?_
 refine de rfl (eop_calla ca109 rfl (WeakL.refl _) (c_slices_Clone_api_Owner_api_Owner (l := o) ho) fun v14 => ?_)
 refine dp rfl (pop_assign rfl) ?_
 refine dn ?_
 refine hw_seq ?_
 refine hw_arrc (i := 0) rfl (fun h0 he => ?_) (fun ob off cap hv hcap => ?_)
 ·exfalso; have := congrArg List.length he; simp at this; subst this; simp at h0o
 rw [List.length_map] at hv hcap
 subst hv
 refine hw_reg ?_
 refine dp rfl ((by first | exact pop_fieldAddr ty47 rfl ty45 (by decide) rfl | exact pop_fieldAddr_raw ty47 rfl ty45 (by decide) rfl)) ?_
 refine dp rfl (pop_load ty45 rfl rfl rfl) ?_
 refine dp rfl (pop_lenm ty45 rfl) ?_
 refine dp rfl (pop_move rfl) ?_
 refine dn ?_
 refine hw_block ?_
 refine hw_loopw2 [6, 7, 10, 11, 12, 18, 19, 20, 21, 22, 23, 24, 25, 26, 27, 28, 29, 30, 31, 32, 33, 34, 35, 36, 37, 38, 39, 40, 41, 42, 43, 44, 45, 46, 47] (fun (k : Nat) (D : List OwnerS) => [(18, .int .i64 k)]) (fun (k : Nat) (D : List OwnerS) => [.arr (.slice (some ⟨ob, off, none⟩) o.length cap) 2 (D.map eOwner)]) (fun (k : Nat) (D : List OwnerS) => k ≤ x.Gives.length ∧ (didF o x.Gives = didF D (x.Gives.drop k) ∧ D.map (·.Player) = o.map (·.Player))) (fun (k : Nat) (D : List OwnerS) => x.Gives.length - k) (0) (o) ?_ ?_ ?_ ?_
 ·exact ⟨Nat.zero_le _, rfl, rfl⟩
 ·exact ⟨rfl, trivial⟩
 ·exact perm_eq rfl
 ·intro k D hinv
  obtain ⟨hk, hf, hD⟩ := hinv
  have hDs : SortedS (D.map (·.Player)) := by rw [hD]; exact hs
  have hDl : D.length = o.length := by have := congrArg List.length hD; simpa using this
  refine hw_reg ?_
  refine dp rfl (pop_lss rfl rfl) ?_
  refine dn ?_
  refine hw_seq ?_
  refine hw_cond rfl (fun h1 => ?_) (fun h2 => ?_)
  ·try simp at h1
   obtain ⟨g, hg⟩ : ∃ g, x.Gives[k]? = some g := ⟨_, List.getElem?_eq_getElem h1⟩
   have hdg := drop_cons hg
   rw [hdg] at hf
   refine hw_skip ?_
   refine seqQ_n ?_
   refine hw_seq ?_
   refine hw_block ?_
   refine hw_reg ?_
   refine dp rfl (pop_idx ty45 ty69 rfl rfl rfl (by first | assumption | simp_all)) ?_
   refine dp rfl (pop_loadw ty69 rfl rfl rfl rfl) ?_
   refine de rfl (eop_alloc ty69 rfl fun b10 => ?_)
   refine de0 (eop_storew ty69 rfl rfl rfl rfl rfl ?_)
   refine dn ?_
   refine hw_ghost (Ghost.fc0 10 rfl) ?_
   refine hw_reg ?_
   refine dp rfl (pop_move rfl) ?_
   refine dp rfl ((by first | exact pop_fieldAddr ty69 rfl ty9 (by decide) rfl | exact pop_fieldAddr_raw ty69 rfl ty9 (by decide) rfl)) ?_
   refine dp rfl (pop_load ty9 rfl rfl rfl) ?_
   refine de rfl (eop_callb (hs' := [eOwners D, .str g.Player, .fn (.func 111) [] []]) ca110 rfl ⟨.arr (i := 0) rfl, .weak (Weak.refl _), .weak (Weak.refl _), trivial⟩ (c_slices_BinarySearchFunc_Owner (l := D) (s := g.Player) ca111 (fun _ => c_trade_did_1) (by omega) hDs) rfl ?_)
   refine dp rfl (pop_move rfl) ?_
   refine dp rfl (pop_extract rfl rfl) ?_
   refine dp rfl (pop_extract rfl rfl) ?_
   refine dp rfl (pop_assign rfl) ?_
   refine dp rfl (pop_assign rfl) ?_
   refine dn ?_
   refine hw_seq ?_
   refine hw_draw (fun M => M = [.arr (.slice (some ⟨ob, off, none⟩) o.length cap) 2 (D.map eOwner)]) [7] mixed ?_
   refine ahp 0 rfl rfl (by kernel_rfl) (by kernel_rfl) (pop_move rfl) ?_
   refine ahp 1 rfl rfl (by kernel_rfl) (by kernel_rfl) (pop_not rfl) ?_
   refine ahp 2 rfl rfl (by kernel_rfl) (by kernel_rfl) (pop_move rfl) ?_
   refine ahg 3 rfl rfl (by kernel_rfl) (by kernel_rfl) rfl (fun hc => ⟨_, OpenTo.refl _, pop_move rfl⟩) ?_
   refine ahg 4 rfl rfl (by kernel_rfl) (by kernel_rfl) rfl (fun hc => ⟨_, OpenTo.refl _, pop_move rfl⟩) ?_
   refine ahg 5 rfl rfl (by kernel_rfl) (by kernel_rfl) rfl (fun hc => by
    obtain ⟨hql, hq1, hq2, hq3⟩ := own_at hDs (by simpa using hc)
    exact ⟨_, OpenTo.upd (t := 33) rfl (by first | exact hc | simp_all) (OpenTo.upd (t := 32) rfl (by first | exact hc | simp_all) (OpenTo.refl _)), pop_idxraw (j := (posS (D.map (·.Player)) g.Player)) ty32 ty67 rfl rfl rfl (by omega)⟩) ?_
   refine ahg 6 rfl rfl (by kernel_rfl) (by kernel_rfl) rfl (fun hc => ⟨_, OpenTo.upd (t := 34) rfl (by first | exact hc | simp_all) (OpenTo.refl _), (by first | exact pop_fieldAddr ty67 rfl ty9 (by decide) rfl | exact pop_fieldAddr_raw ty67 rfl ty9 (by decide) rfl)⟩) ?_
   refine ahgl 7 rfl rfl (by kernel_rfl) (by kernel_rfl) (by simp) rfl rfl (fun hc => ⟨_, OpenTo.upd (t := 35) rfl (by first | exact hc | simp_all) (OpenTo.refl _), fun M hM => by
    obtain ⟨hql, hq1, hq2, hq3⟩ := own_at hDs (by simpa using hc); subst hM; exact eop_load_el (i := 0) (j := (posS (D.map (·.Player)) g.Player)) 1 ty9 rfl (by omega) rfl hq1 rfl rfl ⟨rfl, rfl⟩
    ⟩) ?_
   refine ahg 8 rfl rfl (by kernel_rfl) (by kernel_rfl) rfl (fun hc => ⟨_, OpenTo.refl _, (by first | exact pop_fieldAddr ty69 rfl ty9 (by decide) rfl | exact pop_fieldAddr_raw ty69 rfl ty9 (by decide) rfl)⟩) ?_
   refine ahg 9 rfl rfl (by kernel_rfl) (by kernel_rfl) rfl (fun hc => ⟨_, OpenTo.upd (t := 37) rfl (by first | exact hc | simp_all) (OpenTo.refl _), pop_load ty9 rfl rfl rfl⟩) ?_
   refine ahg 10 rfl rfl (by kernel_rfl) (by kernel_rfl) rfl (fun hc => ⟨_, OpenTo.upd (t := 38) rfl (by first | exact hc | simp_all) (OpenTo.upd (t := 36) rfl (by first | exact hc | simp_all) (OpenTo.refl _)), pop_neqs rfl rfl⟩) ?_
   refine ahp 11 rfl rfl (by kernel_rfl) (by kernel_rfl) (pop_picko rfl (.inl rfl) (.inr ⟨_, rfl, fun h => by simp_all⟩)) ?_
   refine ahz (by kernel_rfl) ?_
   refine hw_cond rfl (fun h3 => ?_) (fun h4 => ?_)
   ·try simp at h3
    refine hw_reg ?_
    refine dp rfl (pop_assign rfl) ?_
    refine dp rfl (pop_assign rfl) ?_
    refine dn ?_
    refine hw_ret ?_
    first
    | (refine ret_p rfl ?_
       rw [e1, e2])
    | (have hno : didF o x.Gives = none := by
        by_cases hco : (D.map (·.Player)).contains g.Player = true
        ·obtain ⟨hql, hq1, hq2, hq3⟩ := own_at hDs hco
         exact didF_other hf hq1 hq2 hq3 (by simpa using h3.resolve_left fun q => q _ (List.mem_of_getElem? hq1) hq2)
        ·exact didF_none hf (own_no (by simpa using hco))
       obtain ⟨e1, e2⟩ := didB_none (m := m) hno
       exact ⟨_, [], Ghost.clear, _, _, rfl, weak_tup2 (by rw [e2]; exact weak_nil 2) (by rw [e1]; exact Weak.refl _), rfl, rfl⟩)
   ·try simp at h4
    refine hw_skip ?_
    refine seqQ_n ?_
    have hco : (D.map (·.Player)).contains g.Player = true := by simpa using h4.1
    obtain ⟨hql, hq1, hq2, hq3⟩ := own_at hDs hco
    refine hw_reg1 ?_
    refine dp rfl (pop_move rfl) ?_
    refine dp rfl (pop_move rfl) ?_
    refine dp rfl ((by first | exact pop_fieldAddr ty69 rfl ty9 (by decide) rfl | exact pop_fieldAddr_raw ty69 rfl ty9 (by decide) rfl)) ?_
    refine dp rfl (pop_load ty9 rfl rfl rfl) ?_
    refine dp rfl (pop_idxraw (j := (posS (D.map (·.Player)) g.Player)) ty32 ty67 rfl rfl rfl (by omega)) ?_
    refine dp rfl ((by first | exact pop_fieldAddr ty67 rfl ty9 (by decide) rfl | exact pop_fieldAddr_raw ty67 rfl ty9 (by decide) rfl)) ?_
    refine de0 (eop_store_arr (i := 0) (j := (posS (D.map (·.Player)) g.Player)) (f := 1) (y := eOwner (D.getD (posS (D.map (·.Player)) g.Player) owner0)) (y' := eOwner ⟨(D.getD (posS (D.map (·.Player)) g.Player) owner0).Player, g.To⟩) ty9 rfl (by omega) rfl rfl (map_get hq1) rfl rfl (by simp [hcells]) rfl ?_)
    refine dn ?_
    refine blockQ_n ?_
    refine seqQ_n ?_
    refine hw_reg1 ?_
    refine dp rfl (pop_add64 rfl rfl (by omega) (by omega)) ?_
    refine dp rfl (pop_move rfl) ?_
    refine dn ?_
    exact ⟨k + 1, _, ⟨by omega, didF_take hf hq1 hq2 hq3 (by simpa using h4.2), by rw [set_player hq1, hD]⟩, by dsimp only; omega, ⟨rfl, trivial⟩, (by repeat (first | exact keeps_refl | refine keeps_upd rfl ?_ | refine keeps_loop rfl rfl ?_)), perm_eq (by dsimp only; rw [List.map_set]; rfl)⟩
  ·try simp at h2
   have hnk : x.Gives.length ≤ k := by omega
   obtain rfl : k = x.Gives.length := by omega
   rw [drop_all (Nat.le_refl _), didF] at hf
   refine hw_exit ?_
   refine seqQ_x ?_
   refine loopQ2_x ?_
   refine blockQ_eq ?_
   refine seqQ_n ?_
   refine hw_ghost (Ghost.fa 8 (i := 0) rfl rfl) ?_
   obtain ⟨e1, e2⟩ := didB_some (m := m) hf
   refine hw_reg ?_
   refine dp rfl (pop_move rfl) ?_
   refine dp rfl (pop_move rfl) ?_
   refine dp rfl (pop_move rfl) ?_
   refine dp rfl (pop_call ca108 rfl (WeakL.refl _) (c_trade_within (by first | assumption | omega | (simp; omega) | simp_all) (by first | assumption | omega | (simp; omega) | simp_all))) ?_
   refine dp rfl (pop_assign rfl) ?_
   refine dp rfl (pop_assign rfl) ?_
   refine dn ?_
   refine hw_ret ?_
   first
   | (refine ret_p rfl ?_
      rw [e1, e2])
   | (have hno : didF o x.Gives = none := by
       by_cases hco : (D.map (·.Player)).contains g.Player = true
       ·obtain ⟨hql, hq1, hq2, hq3⟩ := own_at hDs hco
        exact didF_other hf hq1 hq2 hq3 (by simpa using h3.resolve_left fun q => q _ (List.mem_of_getElem? hq1) hq2)
       ·exact didF_none hf (own_no (by simpa using hco))
      obtain ⟨e1, e2⟩ := didB_none (m := m) hno
      exact ⟨_, [], Ghost.clear, _, _, rfl, weak_tup2 (by rw [e2]; exact weak_nil 2) (by rw [e1]; exact Weak.refl _), rfl, rfl⟩)
end Go.Proofs.YtdjpppifnmjhoaaGreatDoor
end
section
namespace Go.Proofs.YtdjpppifnmjhoaaGreatDoor
open Go.HL
set_option maxRecDepth 100000
set_option linter.unusedVariables false
set_option linter.unusedSimpArgs false
/-- benchwarmer/trade.tradeFault -/
theorem c_trade_tradeFault [Tracks] {m : MarketS} {o : List OwnerS} {x : DealS} (ht : m.Teams.length ≤ 1000000) (ho : o.length ≤ 1000000) (hx : x.Gives.length ≤ 1000000) : ConP Tryz.prog 113 [eMarket m, eOwners o, eDeal x] (.int .i64 (tradeE m o x)) := by
 refine Con.of_body Tryz.func113 rfl Tryz.ntmps113 rfl rfl ?_
 refine hw_reg ?_
 refine dp rfl (pop_box rfl rfl) ?_
 refine dp rfl (pop_box rfl rfl) ?_
 refine dp rfl (pop_assign rfl) ?_
 refine dn ?_
 refine hw_draw (fun _ => True) [] mixed ?_
 refine ahp 0 rfl rfl (by kernel_rfl) (by kernel_rfl) (pop_loadw ty28 rfl rfl rfl rfl) ?_
 refine ahp 1 rfl rfl (by kernel_rfl) (by kernel_rfl) (pop_move rfl) ?_
 refine ahp 2 rfl rfl (by kernel_rfl) (by kernel_rfl) (pop_call ca63 rfl (WeakL.refl _) (c_trade_CheckOwners (by first | assumption | omega | (simp; omega) | simp_all) (by first | assumption | omega | (simp; omega) | simp_all))) ?_
 refine ahp 3 rfl rfl (by kernel_rfl) (by kernel_rfl) (pop_loadw ty28 rfl rfl rfl rfl) ?_
 refine ahp 4 rfl rfl (by kernel_rfl) (by kernel_rfl) (pop_loadw ty47 rfl rfl rfl rfl) ?_
 refine ahp 5 rfl rfl (by kernel_rfl) (by kernel_rfl) (pop_buildSlice (hs := [_]) ty30 ty47 rfl rfl (by decide) (by decide) rfl) ?_
 refine ahp 6 rfl rfl (by kernel_rfl) (by kernel_rfl) (pop_call ca47 rfl (WeakL.refl _) (c_trade_CheckOffers (l := [x]) ht (by simp) (by simpa using hx))) ?_
 refine ahp 7 rfl rfl (by kernel_rfl) (by kernel_rfl) (pop_buildSlice (hs := [_, _]) ty161 ty34 rfl rfl (by decide) (by decide) rfl) ?_
 refine ahp 8 rfl rfl (by kernel_rfl) (by kernel_rfl) (pop_call ca62 rfl (WeakL.refl _) (c_base_First (l := [_, _]) (by simp))) ?_
 refine ahp 9 rfl rfl (by kernel_rfl) (by kernel_rfl) (pop_assign rfl) ?_
 refine ahz (by kernel_rfl) ?_
 refine hw_ret ?_
 refine ret_p rfl ?_
 rfl

/-- benchwarmer/trade.Did -/
theorem c_trade_Did [Tracks] {m : MarketS} {o : List OwnerS} {x : DealS} (ht : m.Teams.length ≤ 1000000) (h0o : 0 < o.length) (ho : o.length ≤ 1000000) (hx : x.Gives.length ≤ 1000000) : ConP Tryz.prog 68 [eMarket m, eOwners o, eDeal x] (.tup [eOwners (didL m o x), .int .i64 (didE m o x)]) := by
 refine Con.of_body Tryz.func68 rfl Tryz.ntmps68 rfl rfl ?_
 refine hw_reg ?_
 refine dp rfl (pop_box rfl rfl) ?_
 refine dp rfl (pop_box rfl rfl) ?_
 refine dp rfl (pop_assign rfl) ?_
 refine dp rfl (pop_assign rfl) ?_
 refine dn ?_
 refine hw_seq ?_
 refine hw_reg ?_
 refine dp rfl (pop_loadw ty28 rfl rfl rfl rfl) ?_
 refine dp rfl (pop_move rfl) ?_
 refine dp rfl (pop_loadw ty47 rfl rfl rfl rfl) ?_
 refine dp rfl (pop_call ca113 rfl (WeakL.refl _) (c_trade_tradeFault (by first | assumption | omega | (simp; omega) | simp_all) (by first | assumption | omega | (simp; omega) | simp_all) (by first | assumption | omega | (simp; omega) | simp_all))) ?_
 refine dp rfl (pop_assign rfl) ?_
 refine dn ?_
 refine hw_reg ?_
 refine dp rfl (pop_move rfl) ?_
 refine dp rfl (pop_neq rfl rfl) ?_
 refine dn ?_
 refine hw_cond rfl (fun h1 => ?_) (fun h2 => ?_)
 ·try simp at h1
  refine hw_reg ?_
  refine dp rfl (pop_move rfl) ?_
  refine dp rfl (pop_assign rfl) ?_
  refine dp rfl (pop_assign rfl) ?_
  refine dn ?_
  refine hw_ret ?_
  first
  | (refine ret_w rfl ?_
     obtain ⟨e1, e2⟩ := didL_bad (m := m) (o := o) (x := x) (by simpa using h1)
     rw [e1, e2]
     exact weak_tup2 (weak_nil 2) (Weak.refl _))
  | (refine ret_w rfl ?_
     obtain ⟨e1, e2⟩ := didL_no hz (by simpa using h3)
     rw [e1, e2]
     exact weak_tup2 (weak_nil 2) (Weak.refl _))
  | (refine ret_p rfl ?_
     obtain ⟨e1, e2⟩ := didL_yes hz (by simpa using h4)
     rw [e1, e2]; rfl)
 ·try simp at h2
  refine hw_skip ?_
  refine seqQ_n ?_
  have hz : tradeE m o x = 0 := by simpa using h2
  obtain ⟨hso, hx40⟩ := trade_ok hz
  refine hw_reg ?_
  refine dp rfl (pop_move rfl) ?_
  refine dp rfl (pop_loadw ty47 rfl rfl rfl rfl) ?_
  refine dp rfl (pop_call ca65 rfl (WeakL.refl _) (c_trade_did (m := m) (o := o) (x := x) ht h0o ho hso hx)) ?_
  refine dp rfl (pop_move rfl) ?_
  refine dp rfl (pop_extract rfl rfl) ?_
  refine dp rfl (pop_extract rfl rfl) ?_
  refine dp rfl (pop_assign rfl) ?_
  refine dp rfl (pop_assign rfl) ?_
  refine dn ?_
  refine hw_seq ?_
  refine hw_reg ?_
  refine dp rfl (pop_move rfl) ?_
  refine dp rfl (pop_not rfl) ?_
  refine dn ?_
  refine hw_cond rfl (fun h3 => ?_) (fun h4 => ?_)
  ·try simp at h3
   refine hw_reg ?_
   refine dp rfl (pop_assign rfl) ?_
   refine dp rfl (pop_assign rfl) ?_
   refine dn ?_
   refine hw_ret ?_
   first
   | (refine ret_w rfl ?_
      obtain ⟨e1, e2⟩ := didL_bad (m := m) (o := o) (x := x) (by simpa using h1)
      rw [e1, e2]
      exact weak_tup2 (weak_nil 2) (Weak.refl _))
   | (refine ret_w rfl ?_
      obtain ⟨e1, e2⟩ := didL_no hz (by simpa using h3)
      rw [e1, e2]
      exact weak_tup2 (weak_nil 2) (Weak.refl _))
   | (refine ret_p rfl ?_
      obtain ⟨e1, e2⟩ := didL_yes hz (by simpa using h4)
      rw [e1, e2]; rfl)
  ·try simp at h4
   refine hw_skip ?_
   refine seqQ_n ?_
   refine hw_reg ?_
   refine dp rfl (pop_move rfl) ?_
   refine dp rfl (pop_assign rfl) ?_
   refine dp rfl (pop_assign rfl) ?_
   refine dn ?_
   refine hw_ret ?_
   first
   | (refine ret_w rfl ?_
      obtain ⟨e1, e2⟩ := didL_bad (m := m) (o := o) (x := x) (by simpa using h1)
      rw [e1, e2]
      exact weak_tup2 (weak_nil 2) (Weak.refl _))
   | (refine ret_w rfl ?_
      obtain ⟨e1, e2⟩ := didL_no hz (by simpa using h3)
      rw [e1, e2]
      exact weak_tup2 (weak_nil 2) (Weak.refl _))
   | (refine ret_p rfl ?_
      obtain ⟨e1, e2⟩ := didL_yes hz (by simpa using h4)
      rw [e1, e2]; rfl)

/-- benchwarmer/benchref1.DidOf$1 -/
theorem c_benchref1_DidOf_1 [Tracks] {y : OwnerS} {g : GiveS}  : ConP Tryz.prog 112 [eOwner y, .vptr (hcells (eGive g)) 0] (.bool (y.Player == g.Player)) := by
 refine Con.of_body Tryz.func112 rfl Tryz.ntmps112 rfl rfl ?_
 refine hw_reg ?_
 refine dp rfl (pop_box rfl rfl) ?_
 refine dp rfl (pop_assign rfl) ?_
 refine dn ?_
 refine hw_reg ?_
 refine dp rfl (pop_fieldAddr ty67 rfl ty9 (by decide) rfl) ?_
 refine dp rfl (pop_load ty9 rfl rfl rfl) ?_
 refine dp rfl (pop_fieldAddr ty69 rfl ty9 (by decide) rfl) ?_
 refine dp rfl (pop_load ty9 rfl rfl rfl) ?_
 refine dp rfl (pop_eqls rfl rfl) ?_
 refine dp rfl (pop_assign rfl) ?_
 refine dn ?_
 refine hw_ret ?_
 refine ret_p rfl ?_
 rfl

set_option maxHeartbeats 1000000 in
/-- benchwarmer/benchref1.DidOf -/
theorem c_benchref1_DidOf [Tracks] {m : MarketS} {o : List OwnerS} {x : DealS} (ht : m.Teams.length ≤ 1000000) (h0o : 0 < o.length) (ho : o.length ≤ 1000000) (hx : x.Gives.length ≤ 1000000) : ConP Tryz.prog 67 [eMarket m, eOwners o, eDeal x] (.tup [eOwners (didRL m o x.Gives), .bool (didB m o x.Gives)]) := by
 refine Con.of_body Tryz.func67 rfl Tryz.ntmps67 rfl rfl ?_
 refine hw_reg ?_
 refine dp rfl (pop_box rfl rfl) ?_
 refine dp rfl (pop_box rfl rfl) ?_
 refine dp rfl (pop_assign rfl) ?_
 refine dp rfl (pop_assign rfl) ?_
 refine dn ?_
 refine hw_reg ?_
 refine dp rfl (pop_move rfl) ?_
 refine de rfl (eop_calla ca109 rfl (WeakL.refl _) (c_slices_Clone_api_Owner_api_Owner (l := o) ho) fun v13 => ?_)
 refine dp rfl (pop_assign rfl) ?_
 refine dn ?_
 refine hw_seq ?_
 refine hw_arrc (i := 0) rfl (fun h0 he => ?_) (fun ob off cap hv hcap => ?_)
 ·exfalso; have := congrArg List.length he; simp at this; subst this; simp at h0o
 rw [List.length_map] at hv hcap
 subst hv
 refine hw_reg ?_
 refine dp rfl ((by first | exact pop_fieldAddr ty47 rfl ty45 (by decide) rfl | exact pop_fieldAddr_raw ty47 rfl ty45 (by decide) rfl)) ?_
 refine dp rfl (pop_load ty45 rfl rfl rfl) ?_
 refine dp rfl (pop_lenm ty45 rfl) ?_
 refine dp rfl (pop_move rfl) ?_
 refine dn ?_
 refine hw_block ?_
 refine hw_loopw2 [6, 7, 10, 11, 17, 18, 19, 20, 21, 22, 23, 24, 25, 26, 27, 28, 29, 30, 31, 32, 33, 34, 35, 36, 37, 38, 39, 40, 41, 42] (fun (k : Nat) (D : List OwnerS) => [(17, .int .i64 k)]) (fun (k : Nat) (D : List OwnerS) => [.arr (.slice (some ⟨ob, off, none⟩) o.length cap) 2 (D.map eOwner)]) (fun (k : Nat) (D : List OwnerS) => k ≤ x.Gives.length ∧ (didF o x.Gives = didF D (x.Gives.drop k) ∧ D.length = o.length)) (fun (k : Nat) (D : List OwnerS) => x.Gives.length - k) (0) (o) ?_ ?_ ?_ ?_
 ·exact ⟨Nat.zero_le _, rfl, rfl⟩
 ·exact ⟨rfl, trivial⟩
 ·exact perm_eq rfl
 ·intro k D hinv
  obtain ⟨hk, hf, hDl⟩ := hinv
  refine hw_reg ?_
  refine dp rfl (pop_lss rfl rfl) ?_
  refine dn ?_
  refine hw_seq ?_
  refine hw_cond rfl (fun h1 => ?_) (fun h2 => ?_)
  ·try simp at h1
   obtain ⟨g, hg⟩ : ∃ g, x.Gives[k]? = some g := ⟨_, List.getElem?_eq_getElem h1⟩
   have hdg := drop_cons hg
   rw [hdg] at hf
   refine hw_skip ?_
   refine seqQ_n ?_
   refine hw_seq ?_
   refine hw_block ?_
   refine hw_reg ?_
   refine dp rfl (pop_idx ty45 ty69 rfl rfl rfl (by first | assumption | simp_all)) ?_
   refine dp rfl (pop_loadw ty69 rfl rfl rfl rfl) ?_
   refine de rfl (eop_alloc ty69 rfl fun b10 => ?_)
   refine de0 (eop_storew ty69 rfl rfl rfl rfl rfl ?_)
   refine dn ?_
   refine hw_ghost (Ghost.fc0 10 rfl) ?_
   refine hw_reg ?_
   refine dp rfl (pop_move rfl) ?_
   refine dp rfl (pop_makeFunc rfl rfl) ?_
   refine de rfl (eop_callb (hs' := [eOwners D, .fn (.func 112) [] [.vptr (hcells (eGive g)) 0]]) ca79 rfl ⟨.arr (i := 0) rfl, .weak (Weak.refl _), trivial⟩ (c_slices_IndexFunc_api_Owner_api_Owner (l := D) (p := fun y => y.Player == g.Player) ca112 (fun _ => c_benchref1_DidOf_1) (by omega)) rfl ?_)
   refine dp rfl (pop_assign rfl) ?_
   refine dn ?_
   refine hw_seq ?_
   refine hw_draw (fun M => M = [.arr (.slice (some ⟨ob, off, none⟩) o.length cap) 2 (D.map eOwner)]) [7] mixed ?_
   refine ahp 0 rfl rfl (by kernel_rfl) (by kernel_rfl) (pop_move rfl) ?_
   refine ahp 1 rfl rfl (by kernel_rfl) (by kernel_rfl) (pop_lss rfl rfl) ?_
   refine ahp 2 rfl rfl (by kernel_rfl) (by kernel_rfl) (pop_move rfl) ?_
   refine ahg 3 rfl rfl (by kernel_rfl) (by kernel_rfl) rfl (fun hc => ⟨_, OpenTo.refl _, pop_move rfl⟩) ?_
   refine ahg 4 rfl rfl (by kernel_rfl) (by kernel_rfl) rfl (fun hc => ⟨_, OpenTo.refl _, pop_move rfl⟩) ?_
   refine ahg 5 rfl rfl (by kernel_rfl) (by kernel_rfl) rfl (fun hc => by
    obtain ⟨i0, hi0, hql, hq1, hq2, hq3⟩ := own_idx (by simpa using hc)
    exact ⟨_, OpenTo.upd (t := 28) rfl (by first | exact hc | simp_all) (OpenTo.upd (t := 27) rfl (by first | exact hc | simp_all) (OpenTo.refl _)), pop_idxraw (j := (idxF (fun y : OwnerS => y.Player == g.Player) D 0).toNat) ty32 ty67 rfl rfl (by omega) (by omega)⟩) ?_
   refine ahg 6 rfl rfl (by kernel_rfl) (by kernel_rfl) rfl (fun hc => ⟨_, OpenTo.upd (t := 29) rfl (by first | exact hc | simp_all) (OpenTo.refl _), (by first | exact pop_fieldAddr ty67 rfl ty9 (by decide) rfl | exact pop_fieldAddr_raw ty67 rfl ty9 (by decide) rfl)⟩) ?_
   refine ahgl 7 rfl rfl (by kernel_rfl) (by kernel_rfl) (by simp) rfl rfl (fun hc => ⟨_, OpenTo.upd (t := 30) rfl (by first | exact hc | simp_all) (OpenTo.refl _), fun M hM => by
    obtain ⟨i0, hi0, hql, hq1, hq2, hq3⟩ := own_idx (by simpa using hc); subst hM; exact eop_load_el (i := 0) (j := (idxF (fun y : OwnerS => y.Player == g.Player) D 0).toNat) (y := D.getD (idxF (fun y : OwnerS => y.Player == g.Player) D 0).toNat owner0) 1 ty9 rfl (by omega) rfl (by rw [hi0]; exact hq1) rfl rfl ⟨rfl, rfl⟩
    ⟩) ?_
   refine ahg 8 rfl rfl (by kernel_rfl) (by kernel_rfl) rfl (fun hc => ⟨_, OpenTo.refl _, (by first | exact pop_fieldAddr ty69 rfl ty9 (by decide) rfl | exact pop_fieldAddr_raw ty69 rfl ty9 (by decide) rfl)⟩) ?_
   refine ahg 9 rfl rfl (by kernel_rfl) (by kernel_rfl) rfl (fun hc => ⟨_, OpenTo.upd (t := 32) rfl (by first | exact hc | simp_all) (OpenTo.refl _), pop_load ty9 rfl rfl rfl⟩) ?_
   refine ahg 10 rfl rfl (by kernel_rfl) (by kernel_rfl) rfl (fun hc => ⟨_, OpenTo.upd (t := 33) rfl (by first | exact hc | simp_all) (OpenTo.upd (t := 31) rfl (by first | exact hc | simp_all) (OpenTo.refl _)), pop_neqs rfl rfl⟩) ?_
   refine ahp 11 rfl rfl (by kernel_rfl) (by kernel_rfl) (pop_picko rfl (.inl rfl) (.inr ⟨_, rfl, fun h => by simp_all⟩)) ?_
   refine ahz (by kernel_rfl) ?_
   refine hw_cond rfl (fun h3 => ?_) (fun h4 => ?_)
   ·try simp at h3
    refine hw_reg ?_
    refine dp rfl (pop_assign rfl) ?_
    refine dp rfl (pop_assign rfl) ?_
    refine dn ?_
    refine hw_ret ?_
    first
    | (refine ret_p rfl ?_
       have hy : didB m o x.Gives = true := by rw [e1]; simpa using h6
       show HVal.tup [eOwners D, .bool true] = _
       rw [didRL_yes hy, hy, e2])
    | (refine ret_w rfl ?_
       have hno : didB m o x.Gives = false := by rw [e1]; simpa using h5
       rw [didRL_no hno, hno]
       exact weak_tup2 (weak_nil 2) (Weak.refl _))
    | (have hno : didF o x.Gives = none := by
        by_cases hco : 0 ≤ (idxF (fun y : OwnerS => y.Player == g.Player) D 0)
        ·obtain ⟨i0, hi0, hql, hq1, hq2, hq3⟩ := own_idx hco
         have hi1 : (idxF (fun y : OwnerS => y.Player == g.Player) D 0).toNat = i0 := by rw [hi0]; rfl
         exact didF_other hf hq1 hq2 hq3 (by have q := h3.resolve_left (by omega); rw [hi1] at q; simpa using q)
        ·exact didF_none hf (own_miss (by omega))
       obtain ⟨e1, e2⟩ := didB_none (m := m) hno
       exact ⟨_, [], Ghost.clear, _, _, rfl, weak_tup2 (by rw [didRL_no e1]; exact weak_nil 2) (by rw [e1]; exact Weak.refl _), rfl, rfl⟩)
   ·try simp at h4
    refine hw_skip ?_
    refine seqQ_n ?_
    obtain ⟨i0, hi0, hql, hq1, hq2, hq3⟩ := own_idx (by simpa using h4.1)
    have hi1 : (idxF (fun y : OwnerS => y.Player == g.Player) D 0).toNat = i0 := by rw [hi0]; rfl
    refine hw_reg1 ?_
    refine dp rfl (pop_move rfl) ?_
    refine dp rfl (pop_move rfl) ?_
    refine dp rfl ((by first | exact pop_fieldAddr ty69 rfl ty9 (by decide) rfl | exact pop_fieldAddr_raw ty69 rfl ty9 (by decide) rfl)) ?_
    refine dp rfl (pop_load ty9 rfl rfl rfl) ?_
    refine dp rfl (pop_idxraw (j := i0) ty32 ty67 rfl rfl hi0 (by omega)) ?_
    refine dp rfl ((by first | exact pop_fieldAddr ty67 rfl ty9 (by decide) rfl | exact pop_fieldAddr_raw ty67 rfl ty9 (by decide) rfl)) ?_
    refine de0 (eop_store_arr (i := 0) (j := i0) (f := 1) (y := eOwner (D.getD i0 owner0)) (y' := eOwner ⟨(D.getD i0 owner0).Player, g.To⟩) ty9 rfl (by omega) rfl rfl (map_get hq1) rfl rfl (by simp [hcells]) rfl ?_)
    refine dn ?_
    refine blockQ_n ?_
    refine seqQ_n ?_
    refine hw_reg1 ?_
    refine dp rfl (pop_add64 rfl rfl (by omega) (by omega)) ?_
    refine dp rfl (pop_move rfl) ?_
    refine dn ?_
    exact ⟨k + 1, _, ⟨by omega, didF_take hf hq1 hq2 hq3 (by have q := h4.2; rw [hi1] at q; simpa using q), by simpa using hDl⟩, by dsimp only; omega, ⟨rfl, trivial⟩, (by repeat (first | exact keeps_refl | refine keeps_upd rfl ?_ | refine keeps_loop rfl rfl ?_)), perm_eq (by dsimp only; rw [List.map_set]; rfl)⟩
  ·try simp at h2
   have hnk : x.Gives.length ≤ k := by omega
   obtain rfl : k = x.Gives.length := by omega
   rw [drop_all (Nat.le_refl _), didF] at hf
   refine hw_exit ?_
   refine seqQ_x ?_
   refine loopQ2_x ?_
   refine blockQ_eq ?_
   refine seqQ_n ?_
   refine hw_seq ?_
   refine hw_ghost (Ghost.fa 8 (i := 0) rfl rfl) ?_
   obtain ⟨e1, e2⟩ := didB_some (m := m) hf
   refine hw_reg ?_
   refine dp rfl (pop_loadw ty28 rfl rfl rfl rfl) ?_
   refine dp rfl (pop_move rfl) ?_
   refine dp rfl (pop_call ca103 rfl (WeakL.refl _) (c_benchref1_fits (by first | assumption | omega | (simp; omega) | simp_all) (by first | assumption | omega | (simp; omega) | simp_all))) ?_
   refine dp rfl (pop_not rfl) ?_
   refine dn ?_
   refine hw_cond rfl (fun h5 => ?_) (fun h6 => ?_)
   ·try simp at h5
    refine hw_reg ?_
    refine dp rfl (pop_assign rfl) ?_
    refine dp rfl (pop_assign rfl) ?_
    refine dn ?_
    refine hw_ret ?_
    first
    | (refine ret_p rfl ?_
       have hy : didB m o x.Gives = true := by rw [e1]; simpa using h6
       show HVal.tup [eOwners D, .bool true] = _
       rw [didRL_yes hy, hy, e2])
    | (refine ret_w rfl ?_
       have hno : didB m o x.Gives = false := by rw [e1]; simpa using h5
       rw [didRL_no hno, hno]
       exact weak_tup2 (weak_nil 2) (Weak.refl _))
    | (have hno : didF o x.Gives = none := by
        by_cases hco : 0 ≤ (idxF (fun y : OwnerS => y.Player == g.Player) D 0)
        ·obtain ⟨i0, hi0, hql, hq1, hq2, hq3⟩ := own_idx hco
         have hi1 : (idxF (fun y : OwnerS => y.Player == g.Player) D 0).toNat = i0 := by rw [hi0]; rfl
         exact didF_other hf hq1 hq2 hq3 (by have q := h3.resolve_left (by omega); rw [hi1] at q; simpa using q)
        ·exact didF_none hf (own_miss (by omega))
       obtain ⟨e1, e2⟩ := didB_none (m := m) hno
       exact ⟨_, [], Ghost.clear, _, _, rfl, weak_tup2 (by rw [didRL_no e1]; exact weak_nil 2) (by rw [e1]; exact Weak.refl _), rfl, rfl⟩)
   ·try simp at h6
    refine hw_skip ?_
    refine seqQ_n ?_
    refine hw_reg ?_
    refine dp rfl (pop_move rfl) ?_
    refine dp rfl (pop_assign rfl) ?_
    refine dp rfl (pop_assign rfl) ?_
    refine dn ?_
    refine hw_ret ?_
    first
    | (refine ret_p rfl ?_
       have hy : didB m o x.Gives = true := by rw [e1]; simpa using h6
       show HVal.tup [eOwners D, .bool true] = _
       rw [didRL_yes hy, hy, e2])
    | (refine ret_w rfl ?_
       have hno : didB m o x.Gives = false := by rw [e1]; simpa using h5
       rw [didRL_no hno, hno]
       exact weak_tup2 (weak_nil 2) (Weak.refl _))
    | (have hno : didF o x.Gives = none := by
        by_cases hco : 0 ≤ (idxF (fun y : OwnerS => y.Player == g.Player) D 0)
        ·obtain ⟨i0, hi0, hql, hq1, hq2, hq3⟩ := own_idx hco
         have hi1 : (idxF (fun y : OwnerS => y.Player == g.Player) D 0).toNat = i0 := by rw [hi0]; rfl
         exact didF_other hf hq1 hq2 hq3 (by have q := h3.resolve_left (by omega); rw [hi1] at q; simpa using q)
        ·exact didF_none hf (own_miss (by omega))
       obtain ⟨e1, e2⟩ := didB_none (m := m) hno
       exact ⟨_, [], Ghost.clear, _, _, rfl, weak_tup2 (by rw [didRL_no e1]; exact weak_nil 2) (by rw [e1]; exact Weak.refl _), rfl, rfl⟩)
end Go.Proofs.YtdjpppifnmjhoaaGreatDoor
end
section
namespace Go.Proofs.YtdjpppifnmjhoaaGreatDoor
open Go.HL
set_option maxRecDepth 100000
set_option linter.unusedVariables false
set_option linter.unusedSimpArgs false
set_option maxHeartbeats 2000000 in
/-- (*benchwarmer/benchmake.Stream).MarketOf -/
theorem c_benchmake_Stream_MarketOf [Tracks] {b : Nat} {l : List Int} {a : Nat}  (ha : a ≤ 800000) : Con Tryz.prog 5 [pAt b] [St b l a] (fun x M' => ∃ m a', x = eMarket m ∧ GoodM m ∧ a' ≤ a + 20 ∧ M' = [St b l a']) := by
 refine Con.of_bodyc Tryz.func5 rfl Tryz.ntmps5 rfl rfl ?_
 refine hw_reg ?_
 refine de rfl (eop_alloc ty28 rfl fun b2 => ?_)
 refine dn ?_
 refine hw_join [3, 4, 5, 6, 7, 8, 9, 10, 11, 12, 13, 14, 15, 16, 17, 18, 19, 20, 21, 22, 23] (fun (q : Nat × MarketS) => [(3, pAt q.1)]) (fun (q : Nat × MarketS) => [.cells q.1 (hcells (eMarket q.2)), .cells b2 [nilS, .int .i64 0, .int .i64 0, .int .i64 0, .int .i64 0, .int .i64 0], St b l (a + 6)]) (fun (q : Nat × MarketS) => (0 < q.2.Teams.length ∧ q.2.Teams.length ≤ 4) ∧ ∀ s ∈ q.2.Teams, s.length ≤ 10) ?_ ?_
 ·skip
  refine hw_draw1 (fun _ => True) [] mixed ?_
  refine ahp 0 rfl rfl (by kernel_rfl) (by kernel_rfl) (pop_buildSlice (hs := [_, _, _, _]) ty26 ty9 rfl rfl (by decide) (by decide) rfl) ?_
  refine ahp 1 rfl rfl (by kernel_rfl) (by kernel_rfl) (pop_move rfl) ?_
  refine ahp 4 rfl rfl (by kernel_rfl) (by kernel_rfl) (pop_move rfl) ?_
  refine ahp 5 rfl rfl (by kernel_rfl) (by kernel_rfl) (pop_buildSlice (hs := [_, _, _]) ty22 ty3 rfl rfl (by decide) (by decide) rfl) ?_
  refine ahp 7 rfl rfl (by kernel_rfl) (by kernel_rfl) (pop_move rfl) ?_
  refine ahp 8 rfl rfl (by kernel_rfl) (by kernel_rfl) (pop_buildSlice (hs := [_, _, _]) ty22 ty3 rfl rfl (by decide) (by decide) rfl) ?_
  refine ahp 10 rfl rfl (by kernel_rfl) (by kernel_rfl) (pop_move rfl) ?_
  refine ahp 11 rfl rfl (by kernel_rfl) (by kernel_rfl) (pop_buildSlice (hs := [_, _, _]) ty22 ty3 rfl rfl (by decide) (by decide) rfl) ?_
  refine ahp 13 rfl rfl (by kernel_rfl) (by kernel_rfl) (pop_move rfl) ?_
  refine ahp 14 rfl rfl (by kernel_rfl) (by kernel_rfl) (pop_buildSlice (hs := [_, _, _]) ty22 ty3 rfl rfl (by decide) (by decide) rfl) ?_
  refine ahp 16 rfl rfl (by kernel_rfl) (by kernel_rfl) (pop_move rfl) ?_
  refine ahp 17 rfl rfl (by kernel_rfl) (by kernel_rfl) (pop_buildSlice (hs := [_, _, _]) ty22 ty3 rfl rfl (by decide) (by decide) rfl) ?_
  refine ahe2 2 20 rfl rfl (by kernel_rfl) ?_ ?_
  ·skip
   first
   | refine hop_e rfl (eop_callx (i := 0) ca23 rfl (WeakL.refl _) rfl (c_benchmake_Stream_Range (by first | assumption | omega | (simp; omega) | simp_all) (by first | assumption | omega | (simp; omega) | simp_all) (by first | assumption | omega | (simp; omega) | simp_all) (by first | assumption | omega | (simp; omega) | simp_all)) ?_)
   | refine hop_e rfl (eop_callx (i := 1) ca23 rfl (WeakL.refl _) rfl (c_benchmake_Stream_Range (by first | assumption | omega | (simp; omega) | simp_all) (by first | assumption | omega | (simp; omega) | simp_all) (by first | assumption | omega | (simp; omega) | simp_all) (by first | assumption | omega | (simp; omega) | simp_all)) ?_)
   | refine hop_e rfl (eop_callx (i := 2) ca23 rfl (WeakL.refl _) rfl (c_benchmake_Stream_Range (by first | assumption | omega | (simp; omega) | simp_all) (by first | assumption | omega | (simp; omega) | simp_all) (by first | assumption | omega | (simp; omega) | simp_all) (by first | assumption | omega | (simp; omega) | simp_all)) ?_)
   | refine hop_e rfl (eop_callx (i := 3) ca23 rfl (WeakL.refl _) rfl (c_benchmake_Stream_Range (by first | assumption | omega | (simp; omega) | simp_all) (by first | assumption | omega | (simp; omega) | simp_all) (by first | assumption | omega | (simp; omega) | simp_all) (by first | assumption | omega | (simp; omega) | simp_all)) ?_)
   rintro _ _ ⟨y6, rfl, hy6, rfl⟩
   refine ⟨fun _ => .inl trivial, ?_⟩
   refine ahp 3 rfl rfl (by kernel_rfl) (by kernel_rfl) (pop_slicem (es := team4) (f := HVal.str) (h := y6.toNat) ty26 ty9 rfl rfl ⟨_, _, rfl, by omega⟩ (by omega) (by simp [team4]; omega)) ?_
   refine ahe2 6 20 rfl rfl (by kernel_rfl) ?_ ?_
   ·skip
    first
    | refine hop_e rfl (eop_callx (i := 0) ca24 rfl (WeakL.refl _) rfl (c_benchmake_Stream_Pick (L := [_, _, _]) (by first | assumption | omega | (simp; omega) | simp_all) (by first | assumption | omega | (simp; omega) | simp_all) (by first | assumption | omega | (simp; omega) | simp_all)) ?_)
    | refine hop_e rfl (eop_callx (i := 1) ca24 rfl (WeakL.refl _) rfl (c_benchmake_Stream_Pick (L := [_, _, _]) (by first | assumption | omega | (simp; omega) | simp_all) (by first | assumption | omega | (simp; omega) | simp_all) (by first | assumption | omega | (simp; omega) | simp_all)) ?_)
    | refine hop_e rfl (eop_callx (i := 2) ca24 rfl (WeakL.refl _) rfl (c_benchmake_Stream_Pick (L := [_, _, _]) (by first | assumption | omega | (simp; omega) | simp_all) (by first | assumption | omega | (simp; omega) | simp_all) (by first | assumption | omega | (simp; omega) | simp_all)) ?_)
    | refine hop_e rfl (eop_callx (i := 3) ca24 rfl (WeakL.refl _) rfl (c_benchmake_Stream_Pick (L := [_, _, _]) (by first | assumption | omega | (simp; omega) | simp_all) (by first | assumption | omega | (simp; omega) | simp_all) (by first | assumption | omega | (simp; omega) | simp_all)) ?_)
    rintro _ _ ⟨y10, rfl, hy10, rfl⟩
    refine ⟨fun _ => .inl trivial, ?_⟩
    refine ahe2 9 20 rfl rfl (by kernel_rfl) ?_ ?_
    ·skip
     first
     | refine hop_e rfl (eop_callx (i := 0) ca24 rfl (WeakL.refl _) rfl (c_benchmake_Stream_Pick (L := [_, _, _]) (by first | assumption | omega | (simp; omega) | simp_all) (by first | assumption | omega | (simp; omega) | simp_all) (by first | assumption | omega | (simp; omega) | simp_all)) ?_)
     | refine hop_e rfl (eop_callx (i := 1) ca24 rfl (WeakL.refl _) rfl (c_benchmake_Stream_Pick (L := [_, _, _]) (by first | assumption | omega | (simp; omega) | simp_all) (by first | assumption | omega | (simp; omega) | simp_all) (by first | assumption | omega | (simp; omega) | simp_all)) ?_)
     | refine hop_e rfl (eop_callx (i := 2) ca24 rfl (WeakL.refl _) rfl (c_benchmake_Stream_Pick (L := [_, _, _]) (by first | assumption | omega | (simp; omega) | simp_all) (by first | assumption | omega | (simp; omega) | simp_all) (by first | assumption | omega | (simp; omega) | simp_all)) ?_)
     | refine hop_e rfl (eop_callx (i := 3) ca24 rfl (WeakL.refl _) rfl (c_benchmake_Stream_Pick (L := [_, _, _]) (by first | assumption | omega | (simp; omega) | simp_all) (by first | assumption | omega | (simp; omega) | simp_all) (by first | assumption | omega | (simp; omega) | simp_all)) ?_)
     rintro _ _ ⟨y13, rfl, hy13, rfl⟩
     refine ⟨fun _ => .inl trivial, ?_⟩
     refine ahe2 12 20 rfl rfl (by kernel_rfl) ?_ ?_
     ·skip
      first
      | refine hop_e rfl (eop_callx (i := 0) ca24 rfl (WeakL.refl _) rfl (c_benchmake_Stream_Pick (L := [_, _, _]) (by first | assumption | omega | (simp; omega) | simp_all) (by first | assumption | omega | (simp; omega) | simp_all) (by first | assumption | omega | (simp; omega) | simp_all)) ?_)
      | refine hop_e rfl (eop_callx (i := 1) ca24 rfl (WeakL.refl _) rfl (c_benchmake_Stream_Pick (L := [_, _, _]) (by first | assumption | omega | (simp; omega) | simp_all) (by first | assumption | omega | (simp; omega) | simp_all) (by first | assumption | omega | (simp; omega) | simp_all)) ?_)
      | refine hop_e rfl (eop_callx (i := 2) ca24 rfl (WeakL.refl _) rfl (c_benchmake_Stream_Pick (L := [_, _, _]) (by first | assumption | omega | (simp; omega) | simp_all) (by first | assumption | omega | (simp; omega) | simp_all) (by first | assumption | omega | (simp; omega) | simp_all)) ?_)
      | refine hop_e rfl (eop_callx (i := 3) ca24 rfl (WeakL.refl _) rfl (c_benchmake_Stream_Pick (L := [_, _, _]) (by first | assumption | omega | (simp; omega) | simp_all) (by first | assumption | omega | (simp; omega) | simp_all) (by first | assumption | omega | (simp; omega) | simp_all)) ?_)
      rintro _ _ ⟨y16, rfl, hy16, rfl⟩
      refine ⟨fun _ => .inl trivial, ?_⟩
      refine ahe2 15 20 rfl rfl (by kernel_rfl) ?_ ?_
      ·skip
       first
       | refine hop_e rfl (eop_callx (i := 0) ca24 rfl (WeakL.refl _) rfl (c_benchmake_Stream_Pick (L := [_, _, _]) (by first | assumption | omega | (simp; omega) | simp_all) (by first | assumption | omega | (simp; omega) | simp_all) (by first | assumption | omega | (simp; omega) | simp_all)) ?_)
       | refine hop_e rfl (eop_callx (i := 1) ca24 rfl (WeakL.refl _) rfl (c_benchmake_Stream_Pick (L := [_, _, _]) (by first | assumption | omega | (simp; omega) | simp_all) (by first | assumption | omega | (simp; omega) | simp_all) (by first | assumption | omega | (simp; omega) | simp_all)) ?_)
       | refine hop_e rfl (eop_callx (i := 2) ca24 rfl (WeakL.refl _) rfl (c_benchmake_Stream_Pick (L := [_, _, _]) (by first | assumption | omega | (simp; omega) | simp_all) (by first | assumption | omega | (simp; omega) | simp_all) (by first | assumption | omega | (simp; omega) | simp_all)) ?_)
       | refine hop_e rfl (eop_callx (i := 3) ca24 rfl (WeakL.refl _) rfl (c_benchmake_Stream_Pick (L := [_, _, _]) (by first | assumption | omega | (simp; omega) | simp_all) (by first | assumption | omega | (simp; omega) | simp_all) (by first | assumption | omega | (simp; omega) | simp_all)) ?_)
       rintro _ _ ⟨y19, rfl, hy19, rfl⟩
       refine ⟨fun _ => .inl trivial, ?_⟩
       refine ahe2 18 20 rfl rfl (by kernel_rfl) ?_ ?_
       ·skip
        first
        | refine hop_e rfl (eop_callx (i := 0) ca24 rfl (WeakL.refl _) rfl (c_benchmake_Stream_Pick (L := [_, _, _]) (by first | assumption | omega | (simp; omega) | simp_all) (by first | assumption | omega | (simp; omega) | simp_all) (by first | assumption | omega | (simp; omega) | simp_all)) ?_)
        | refine hop_e rfl (eop_callx (i := 1) ca24 rfl (WeakL.refl _) rfl (c_benchmake_Stream_Pick (L := [_, _, _]) (by first | assumption | omega | (simp; omega) | simp_all) (by first | assumption | omega | (simp; omega) | simp_all) (by first | assumption | omega | (simp; omega) | simp_all)) ?_)
        | refine hop_e rfl (eop_callx (i := 2) ca24 rfl (WeakL.refl _) rfl (c_benchmake_Stream_Pick (L := [_, _, _]) (by first | assumption | omega | (simp; omega) | simp_all) (by first | assumption | omega | (simp; omega) | simp_all) (by first | assumption | omega | (simp; omega) | simp_all)) ?_)
        | refine hop_e rfl (eop_callx (i := 3) ca24 rfl (WeakL.refl _) rfl (c_benchmake_Stream_Pick (L := [_, _, _]) (by first | assumption | omega | (simp; omega) | simp_all) (by first | assumption | omega | (simp; omega) | simp_all) (by first | assumption | omega | (simp; omega) | simp_all)) ?_)
        rintro _ _ ⟨y22, rfl, hy22, rfl⟩
        refine ⟨fun _ => .inl trivial, ?_⟩
        refine ahp 19 rfl rfl (by kernel_rfl) (by kernel_rfl) (pop_build (cs := [_, _, _, _, _, _]) ty28 pl28 rfl) ?_
        refine ahe 20 rfl (by kernel_rfl) ?_
        refine hop_e rfl (eop_alloc ty28 rfl fun b3 => ?_)
        refine ⟨fun _ => .inl trivial, ?_⟩
        refine ahe 21 rfl (by kernel_rfl) ?_
        first
        | refine hop_e0 (eop_store (i := 0) ty28 rfl rfl rfl rfl rfl (Nat.le_of_ble_eq_true rfl) ?_)
        | refine hop_e0 (eop_store (i := 1) ty28 rfl rfl rfl rfl rfl (Nat.le_of_ble_eq_true rfl) ?_)
        | refine hop_e0 (eop_store (i := 2) ty28 rfl rfl rfl rfl rfl (Nat.le_of_ble_eq_true rfl) ?_)
        | refine hop_e0 (eop_store (i := 3) ty28 rfl rfl rfl rfl rfl (Nat.le_of_ble_eq_true rfl) ?_)
        refine ⟨fun _ => .inl trivial, ?_⟩
        refine ahz (by kernel_rfl) ?_
        refine ⟨(b3, ⟨(team4.take y6.toNat).drop 0, y10, y13, y16, y19, y22⟩), ?_, ⟨rfl, trivial⟩, (by repeat (first | exact keeps_refl | refine keeps_upd rfl ?_ | refine keeps_loop rfl rfl ?_)), ?_⟩
        ·exact ⟨⟨by simp [team4]; omega, by simp [team4]; omega⟩, fun s hs => team4_len s (List.mem_of_mem_take (by simpa using hs))⟩
        ·repeat (first | exact List.Perm.nil | refine permTo 0 rfl ?_ | refine permTo 1 rfl ?_ | refine permTo 2 rfl ?_ | refine permTo 3 rfl ?_ | (refine permToE 0 rfl ?hq ?_; (case hq => simp [setL, hcells]; done)) | (refine permToE 1 rfl ?hq ?_; (case hq => simp [setL, hcells]; done)) | (refine permToE 2 rfl ?hq ?_; (case hq => simp [setL, hcells]; done)) | (refine permToE 3 rfl ?hq ?_; (case hq => simp [setL, hcells]; done)) | fail)
       ·skip
        refine hop_e rfl (eop_alloc ty28 rfl fun b3 => ?_)
        refine ⟨fun _ => .inl trivial, ?_⟩
        refine ahe 18 rfl (by kernel_rfl) ?_
        first
        | refine hop_e rfl (eop_callx (i := 0) ca24 rfl (WeakL.refl _) rfl (c_benchmake_Stream_Pick (L := [_, _, _]) (by first | assumption | omega | (simp; omega) | simp_all) (by first | assumption | omega | (simp; omega) | simp_all) (by first | assumption | omega | (simp; omega) | simp_all)) ?_)
        | refine hop_e rfl (eop_callx (i := 1) ca24 rfl (WeakL.refl _) rfl (c_benchmake_Stream_Pick (L := [_, _, _]) (by first | assumption | omega | (simp; omega) | simp_all) (by first | assumption | omega | (simp; omega) | simp_all) (by first | assumption | omega | (simp; omega) | simp_all)) ?_)
        | refine hop_e rfl (eop_callx (i := 2) ca24 rfl (WeakL.refl _) rfl (c_benchmake_Stream_Pick (L := [_, _, _]) (by first | assumption | omega | (simp; omega) | simp_all) (by first | assumption | omega | (simp; omega) | simp_all) (by first | assumption | omega | (simp; omega) | simp_all)) ?_)
        | refine hop_e rfl (eop_callx (i := 3) ca24 rfl (WeakL.refl _) rfl (c_benchmake_Stream_Pick (L := [_, _, _]) (by first | assumption | omega | (simp; omega) | simp_all) (by first | assumption | omega | (simp; omega) | simp_all) (by first | assumption | omega | (simp; omega) | simp_all)) ?_)
        rintro _ _ ⟨y22, rfl, hy22, rfl⟩
        refine ⟨fun _ => .inl trivial, ?_⟩
        refine ahp 19 rfl rfl (by kernel_rfl) (by kernel_rfl) (pop_build (cs := [_, _, _, _, _, _]) ty28 pl28 rfl) ?_
        refine ahe 21 rfl (by kernel_rfl) ?_
        first
        | refine hop_e0 (eop_store (i := 0) ty28 rfl rfl rfl rfl rfl (Nat.le_of_ble_eq_true rfl) ?_)
        | refine hop_e0 (eop_store (i := 1) ty28 rfl rfl rfl rfl rfl (Nat.le_of_ble_eq_true rfl) ?_)
        | refine hop_e0 (eop_store (i := 2) ty28 rfl rfl rfl rfl rfl (Nat.le_of_ble_eq_true rfl) ?_)
        | refine hop_e0 (eop_store (i := 3) ty28 rfl rfl rfl rfl rfl (Nat.le_of_ble_eq_true rfl) ?_)
        refine ⟨fun _ => .inl trivial, ?_⟩
        refine ahz (by kernel_rfl) ?_
        refine ⟨(b3, ⟨(team4.take y6.toNat).drop 0, y10, y13, y16, y19, y22⟩), ?_, ⟨rfl, trivial⟩, (by repeat (first | exact keeps_refl | refine keeps_upd rfl ?_ | refine keeps_loop rfl rfl ?_)), ?_⟩
        ·exact ⟨⟨by simp [team4]; omega, by simp [team4]; omega⟩, fun s hs => team4_len s (List.mem_of_mem_take (by simpa using hs))⟩
        ·repeat (first | exact List.Perm.nil | refine permTo 0 rfl ?_ | refine permTo 1 rfl ?_ | refine permTo 2 rfl ?_ | refine permTo 3 rfl ?_ | (refine permToE 0 rfl ?hq ?_; (case hq => simp [setL, hcells]; done)) | (refine permToE 1 rfl ?hq ?_; (case hq => simp [setL, hcells]; done)) | (refine permToE 2 rfl ?hq ?_; (case hq => simp [setL, hcells]; done)) | (refine permToE 3 rfl ?hq ?_; (case hq => simp [setL, hcells]; done)) | fail)
      ·skip
       refine hop_e rfl (eop_alloc ty28 rfl fun b3 => ?_)
       refine ⟨fun _ => .inl trivial, ?_⟩
       refine ahe 15 rfl (by kernel_rfl) ?_
       first
       | refine hop_e rfl (eop_callx (i := 0) ca24 rfl (WeakL.refl _) rfl (c_benchmake_Stream_Pick (L := [_, _, _]) (by first | assumption | omega | (simp; omega) | simp_all) (by first | assumption | omega | (simp; omega) | simp_all) (by first | assumption | omega | (simp; omega) | simp_all)) ?_)
       | refine hop_e rfl (eop_callx (i := 1) ca24 rfl (WeakL.refl _) rfl (c_benchmake_Stream_Pick (L := [_, _, _]) (by first | assumption | omega | (simp; omega) | simp_all) (by first | assumption | omega | (simp; omega) | simp_all) (by first | assumption | omega | (simp; omega) | simp_all)) ?_)
       | refine hop_e rfl (eop_callx (i := 2) ca24 rfl (WeakL.refl _) rfl (c_benchmake_Stream_Pick (L := [_, _, _]) (by first | assumption | omega | (simp; omega) | simp_all) (by first | assumption | omega | (simp; omega) | simp_all) (by first | assumption | omega | (simp; omega) | simp_all)) ?_)
       | refine hop_e rfl (eop_callx (i := 3) ca24 rfl (WeakL.refl _) rfl (c_benchmake_Stream_Pick (L := [_, _, _]) (by first | assumption | omega | (simp; omega) | simp_all) (by first | assumption | omega | (simp; omega) | simp_all) (by first | assumption | omega | (simp; omega) | simp_all)) ?_)
       rintro _ _ ⟨y19, rfl, hy19, rfl⟩
       refine ⟨fun _ => .inl trivial, ?_⟩
       refine ahe 18 rfl (by kernel_rfl) ?_
       first
       | refine hop_e rfl (eop_callx (i := 0) ca24 rfl (WeakL.refl _) rfl (c_benchmake_Stream_Pick (L := [_, _, _]) (by first | assumption | omega | (simp; omega) | simp_all) (by first | assumption | omega | (simp; omega) | simp_all) (by first | assumption | omega | (simp; omega) | simp_all)) ?_)
       | refine hop_e rfl (eop_callx (i := 1) ca24 rfl (WeakL.refl _) rfl (c_benchmake_Stream_Pick (L := [_, _, _]) (by first | assumption | omega | (simp; omega) | simp_all) (by first | assumption | omega | (simp; omega) | simp_all) (by first | assumption | omega | (simp; omega) | simp_all)) ?_)
       | refine hop_e rfl (eop_callx (i := 2) ca24 rfl (WeakL.refl _) rfl (c_benchmake_Stream_Pick (L := [_, _, _]) (by first | assumption | omega | (simp; omega) | simp_all) (by first | assumption | omega | (simp; omega) | simp_all) (by first | assumption | omega | (simp; omega) | simp_all)) ?_)
       | refine hop_e rfl (eop_callx (i := 3) ca24 rfl (WeakL.refl _) rfl (c_benchmake_Stream_Pick (L := [_, _, _]) (by first | assumption | omega | (simp; omega) | simp_all) (by first | assumption | omega | (simp; omega) | simp_all) (by first | assumption | omega | (simp; omega) | simp_all)) ?_)
       rintro _ _ ⟨y22, rfl, hy22, rfl⟩
       refine ⟨fun _ => .inl trivial, ?_⟩
       refine ahp 19 rfl rfl (by kernel_rfl) (by kernel_rfl) (pop_build (cs := [_, _, _, _, _, _]) ty28 pl28 rfl) ?_
       refine ahe 21 rfl (by kernel_rfl) ?_
       first
       | refine hop_e0 (eop_store (i := 0) ty28 rfl rfl rfl rfl rfl (Nat.le_of_ble_eq_true rfl) ?_)
       | refine hop_e0 (eop_store (i := 1) ty28 rfl rfl rfl rfl rfl (Nat.le_of_ble_eq_true rfl) ?_)
       | refine hop_e0 (eop_store (i := 2) ty28 rfl rfl rfl rfl rfl (Nat.le_of_ble_eq_true rfl) ?_)
       | refine hop_e0 (eop_store (i := 3) ty28 rfl rfl rfl rfl rfl (Nat.le_of_ble_eq_true rfl) ?_)
       refine ⟨fun _ => .inl trivial, ?_⟩
       refine ahz (by kernel_rfl) ?_
       refine ⟨(b3, ⟨(team4.take y6.toNat).drop 0, y10, y13, y16, y19, y22⟩), ?_, ⟨rfl, trivial⟩, (by repeat (first | exact keeps_refl | refine keeps_upd rfl ?_ | refine keeps_loop rfl rfl ?_)), ?_⟩
       ·exact ⟨⟨by simp [team4]; omega, by simp [team4]; omega⟩, fun s hs => team4_len s (List.mem_of_mem_take (by simpa using hs))⟩
       ·repeat (first | exact List.Perm.nil | refine permTo 0 rfl ?_ | refine permTo 1 rfl ?_ | refine permTo 2 rfl ?_ | refine permTo 3 rfl ?_ | (refine permToE 0 rfl ?hq ?_; (case hq => simp [setL, hcells]; done)) | (refine permToE 1 rfl ?hq ?_; (case hq => simp [setL, hcells]; done)) | (refine permToE 2 rfl ?hq ?_; (case hq => simp [setL, hcells]; done)) | (refine permToE 3 rfl ?hq ?_; (case hq => simp [setL, hcells]; done)) | fail)
     ·skip
      refine hop_e rfl (eop_alloc ty28 rfl fun b3 => ?_)
      refine ⟨fun _ => .inl trivial, ?_⟩
      refine ahe 12 rfl (by kernel_rfl) ?_
      first
      | refine hop_e rfl (eop_callx (i := 0) ca24 rfl (WeakL.refl _) rfl (c_benchmake_Stream_Pick (L := [_, _, _]) (by first | assumption | omega | (simp; omega) | simp_all) (by first | assumption | omega | (simp; omega) | simp_all) (by first | assumption | omega | (simp; omega) | simp_all)) ?_)
      | refine hop_e rfl (eop_callx (i := 1) ca24 rfl (WeakL.refl _) rfl (c_benchmake_Stream_Pick (L := [_, _, _]) (by first | assumption | omega | (simp; omega) | simp_all) (by first | assumption | omega | (simp; omega) | simp_all) (by first | assumption | omega | (simp; omega) | simp_all)) ?_)
      | refine hop_e rfl (eop_callx (i := 2) ca24 rfl (WeakL.refl _) rfl (c_benchmake_Stream_Pick (L := [_, _, _]) (by first | assumption | omega | (simp; omega) | simp_all) (by first | assumption | omega | (simp; omega) | simp_all) (by first | assumption | omega | (simp; omega) | simp_all)) ?_)
      | refine hop_e rfl (eop_callx (i := 3) ca24 rfl (WeakL.refl _) rfl (c_benchmake_Stream_Pick (L := [_, _, _]) (by first | assumption | omega | (simp; omega) | simp_all) (by first | assumption | omega | (simp; omega) | simp_all) (by first | assumption | omega | (simp; omega) | simp_all)) ?_)
      rintro _ _ ⟨y16, rfl, hy16, rfl⟩
      refine ⟨fun _ => .inl trivial, ?_⟩
      refine ahe 15 rfl (by kernel_rfl) ?_
      first
      | refine hop_e rfl (eop_callx (i := 0) ca24 rfl (WeakL.refl _) rfl (c_benchmake_Stream_Pick (L := [_, _, _]) (by first | assumption | omega | (simp; omega) | simp_all) (by first | assumption | omega | (simp; omega) | simp_all) (by first | assumption | omega | (simp; omega) | simp_all)) ?_)
      | refine hop_e rfl (eop_callx (i := 1) ca24 rfl (WeakL.refl _) rfl (c_benchmake_Stream_Pick (L := [_, _, _]) (by first | assumption | omega | (simp; omega) | simp_all) (by first | assumption | omega | (simp; omega) | simp_all) (by first | assumption | omega | (simp; omega) | simp_all)) ?_)
      | refine hop_e rfl (eop_callx (i := 2) ca24 rfl (WeakL.refl _) rfl (c_benchmake_Stream_Pick (L := [_, _, _]) (by first | assumption | omega | (simp; omega) | simp_all) (by first | assumption | omega | (simp; omega) | simp_all) (by first | assumption | omega | (simp; omega) | simp_all)) ?_)
      | refine hop_e rfl (eop_callx (i := 3) ca24 rfl (WeakL.refl _) rfl (c_benchmake_Stream_Pick (L := [_, _, _]) (by first | assumption | omega | (simp; omega) | simp_all) (by first | assumption | omega | (simp; omega) | simp_all) (by first | assumption | omega | (simp; omega) | simp_all)) ?_)
      rintro _ _ ⟨y19, rfl, hy19, rfl⟩
      refine ⟨fun _ => .inl trivial, ?_⟩
      refine ahe 18 rfl (by kernel_rfl) ?_
      first
      | refine hop_e rfl (eop_callx (i := 0) ca24 rfl (WeakL.refl _) rfl (c_benchmake_Stream_Pick (L := [_, _, _]) (by first | assumption | omega | (simp; omega) | simp_all) (by first | assumption | omega | (simp; omega) | simp_all) (by first | assumption | omega | (simp; omega) | simp_all)) ?_)
      | refine hop_e rfl (eop_callx (i := 1) ca24 rfl (WeakL.refl _) rfl (c_benchmake_Stream_Pick (L := [_, _, _]) (by first | assumption | omega | (simp; omega) | simp_all) (by first | assumption | omega | (simp; omega) | simp_all) (by first | assumption | omega | (simp; omega) | simp_all)) ?_)
      | refine hop_e rfl (eop_callx (i := 2) ca24 rfl (WeakL.refl _) rfl (c_benchmake_Stream_Pick (L := [_, _, _]) (by first | assumption | omega | (simp; omega) | simp_all) (by first | assumption | omega | (simp; omega) | simp_all) (by first | assumption | omega | (simp; omega) | simp_all)) ?_)
      | refine hop_e rfl (eop_callx (i := 3) ca24 rfl (WeakL.refl _) rfl (c_benchmake_Stream_Pick (L := [_, _, _]) (by first | assumption | omega | (simp; omega) | simp_all) (by first | assumption | omega | (simp; omega) | simp_all) (by first | assumption | omega | (simp; omega) | simp_all)) ?_)
      rintro _ _ ⟨y22, rfl, hy22, rfl⟩
      refine ⟨fun _ => .inl trivial, ?_⟩
      refine ahp 19 rfl rfl (by kernel_rfl) (by kernel_rfl) (pop_build (cs := [_, _, _, _, _, _]) ty28 pl28 rfl) ?_
      refine ahe 21 rfl (by kernel_rfl) ?_
      first
      | refine hop_e0 (eop_store (i := 0) ty28 rfl rfl rfl rfl rfl (Nat.le_of_ble_eq_true rfl) ?_)
      | refine hop_e0 (eop_store (i := 1) ty28 rfl rfl rfl rfl rfl (Nat.le_of_ble_eq_true rfl) ?_)
      | refine hop_e0 (eop_store (i := 2) ty28 rfl rfl rfl rfl rfl (Nat.le_of_ble_eq_true rfl) ?_)
      | refine hop_e0 (eop_store (i := 3) ty28 rfl rfl rfl rfl rfl (Nat.le_of_ble_eq_true rfl) ?_)
      refine ⟨fun _ => .inl trivial, ?_⟩
      refine ahz (by kernel_rfl) ?_
      refine ⟨(b3, ⟨(team4.take y6.toNat).drop 0, y10, y13, y16, y19, y22⟩), ?_, ⟨rfl, trivial⟩, (by repeat (first | exact keeps_refl | refine keeps_upd rfl ?_ | refine keeps_loop rfl rfl ?_)), ?_⟩
      ·exact ⟨⟨by simp [team4]; omega, by simp [team4]; omega⟩, fun s hs => team4_len s (List.mem_of_mem_take (by simpa using hs))⟩
      ·repeat (first | exact List.Perm.nil | refine permTo 0 rfl ?_ | refine permTo 1 rfl ?_ | refine permTo 2 rfl ?_ | refine permTo 3 rfl ?_ | (refine permToE 0 rfl ?hq ?_; (case hq => simp [setL, hcells]; done)) | (refine permToE 1 rfl ?hq ?_; (case hq => simp [setL, hcells]; done)) | (refine permToE 2 rfl ?hq ?_; (case hq => simp [setL, hcells]; done)) | (refine permToE 3 rfl ?hq ?_; (case hq => simp [setL, hcells]; done)) | fail)
    ·skip
     refine hop_e rfl (eop_alloc ty28 rfl fun b3 => ?_)
     refine ⟨fun _ => .inl trivial, ?_⟩
     refine ahe 9 rfl (by kernel_rfl) ?_
     first
     | refine hop_e rfl (eop_callx (i := 0) ca24 rfl (WeakL.refl _) rfl (c_benchmake_Stream_Pick (L := [_, _, _]) (by first | assumption | omega | (simp; omega) | simp_all) (by first | assumption | omega | (simp; omega) | simp_all) (by first | assumption | omega | (simp; omega) | simp_all)) ?_)
     | refine hop_e rfl (eop_callx (i := 1) ca24 rfl (WeakL.refl _) rfl (c_benchmake_Stream_Pick (L := [_, _, _]) (by first | assumption | omega | (simp; omega) | simp_all) (by first | assumption | omega | (simp; omega) | simp_all) (by first | assumption | omega | (simp; omega) | simp_all)) ?_)
     | refine hop_e rfl (eop_callx (i := 2) ca24 rfl (WeakL.refl _) rfl (c_benchmake_Stream_Pick (L := [_, _, _]) (by first | assumption | omega | (simp; omega) | simp_all) (by first | assumption | omega | (simp; omega) | simp_all) (by first | assumption | omega | (simp; omega) | simp_all)) ?_)
     | refine hop_e rfl (eop_callx (i := 3) ca24 rfl (WeakL.refl _) rfl (c_benchmake_Stream_Pick (L := [_, _, _]) (by first | assumption | omega | (simp; omega) | simp_all) (by first | assumption | omega | (simp; omega) | simp_all) (by first | assumption | omega | (simp; omega) | simp_all)) ?_)
     rintro _ _ ⟨y13, rfl, hy13, rfl⟩
     refine ⟨fun _ => .inl trivial, ?_⟩
     refine ahe 12 rfl (by kernel_rfl) ?_
     first
     | refine hop_e rfl (eop_callx (i := 0) ca24 rfl (WeakL.refl _) rfl (c_benchmake_Stream_Pick (L := [_, _, _]) (by first | assumption | omega | (simp; omega) | simp_all) (by first | assumption | omega | (simp; omega) | simp_all) (by first | assumption | omega | (simp; omega) | simp_all)) ?_)
     | refine hop_e rfl (eop_callx (i := 1) ca24 rfl (WeakL.refl _) rfl (c_benchmake_Stream_Pick (L := [_, _, _]) (by first | assumption | omega | (simp; omega) | simp_all) (by first | assumption | omega | (simp; omega) | simp_all) (by first | assumption | omega | (simp; omega) | simp_all)) ?_)
     | refine hop_e rfl (eop_callx (i := 2) ca24 rfl (WeakL.refl _) rfl (c_benchmake_Stream_Pick (L := [_, _, _]) (by first | assumption | omega | (simp; omega) | simp_all) (by first | assumption | omega | (simp; omega) | simp_all) (by first | assumption | omega | (simp; omega) | simp_all)) ?_)
     | refine hop_e rfl (eop_callx (i := 3) ca24 rfl (WeakL.refl _) rfl (c_benchmake_Stream_Pick (L := [_, _, _]) (by first | assumption | omega | (simp; omega) | simp_all) (by first | assumption | omega | (simp; omega) | simp_all) (by first | assumption | omega | (simp; omega) | simp_all)) ?_)
     rintro _ _ ⟨y16, rfl, hy16, rfl⟩
     refine ⟨fun _ => .inl trivial, ?_⟩
     refine ahe 15 rfl (by kernel_rfl) ?_
     first
     | refine hop_e rfl (eop_callx (i := 0) ca24 rfl (WeakL.refl _) rfl (c_benchmake_Stream_Pick (L := [_, _, _]) (by first | assumption | omega | (simp; omega) | simp_all) (by first | assumption | omega | (simp; omega) | simp_all) (by first | assumption | omega | (simp; omega) | simp_all)) ?_)
     | refine hop_e rfl (eop_callx (i := 1) ca24 rfl (WeakL.refl _) rfl (c_benchmake_Stream_Pick (L := [_, _, _]) (by first | assumption | omega | (simp; omega) | simp_all) (by first | assumption | omega | (simp; omega) | simp_all) (by first | assumption | omega | (simp; omega) | simp_all)) ?_)
     | refine hop_e rfl (eop_callx (i := 2) ca24 rfl (WeakL.refl _) rfl (c_benchmake_Stream_Pick (L := [_, _, _]) (by first | assumption | omega | (simp; omega) | simp_all) (by first | assumption | omega | (simp; omega) | simp_all) (by first | assumption | omega | (simp; omega) | simp_all)) ?_)
     | refine hop_e rfl (eop_callx (i := 3) ca24 rfl (WeakL.refl _) rfl (c_benchmake_Stream_Pick (L := [_, _, _]) (by first | assumption | omega | (simp; omega) | simp_all) (by first | assumption | omega | (simp; omega) | simp_all) (by first | assumption | omega | (simp; omega) | simp_all)) ?_)
     rintro _ _ ⟨y19, rfl, hy19, rfl⟩
     refine ⟨fun _ => .inl trivial, ?_⟩
     refine ahe 18 rfl (by kernel_rfl) ?_
     first
     | refine hop_e rfl (eop_callx (i := 0) ca24 rfl (WeakL.refl _) rfl (c_benchmake_Stream_Pick (L := [_, _, _]) (by first | assumption | omega | (simp; omega) | simp_all) (by first | assumption | omega | (simp; omega) | simp_all) (by first | assumption | omega | (simp; omega) | simp_all)) ?_)
     | refine hop_e rfl (eop_callx (i := 1) ca24 rfl (WeakL.refl _) rfl (c_benchmake_Stream_Pick (L := [_, _, _]) (by first | assumption | omega | (simp; omega) | simp_all) (by first | assumption | omega | (simp; omega) | simp_all) (by first | assumption | omega | (simp; omega) | simp_all)) ?_)
     | refine hop_e rfl (eop_callx (i := 2) ca24 rfl (WeakL.refl _) rfl (c_benchmake_Stream_Pick (L := [_, _, _]) (by first | assumption | omega | (simp; omega) | simp_all) (by first | assumption | omega | (simp; omega) | simp_all) (by first | assumption | omega | (simp; omega) | simp_all)) ?_)
     | refine hop_e rfl (eop_callx (i := 3) ca24 rfl (WeakL.refl _) rfl (c_benchmake_Stream_Pick (L := [_, _, _]) (by first | assumption | omega | (simp; omega) | simp_all) (by first | assumption | omega | (simp; omega) | simp_all) (by first | assumption | omega | (simp; omega) | simp_all)) ?_)
     rintro _ _ ⟨y22, rfl, hy22, rfl⟩
     refine ⟨fun _ => .inl trivial, ?_⟩
     refine ahp 19 rfl rfl (by kernel_rfl) (by kernel_rfl) (pop_build (cs := [_, _, _, _, _, _]) ty28 pl28 rfl) ?_
     refine ahe 21 rfl (by kernel_rfl) ?_
     first
     | refine hop_e0 (eop_store (i := 0) ty28 rfl rfl rfl rfl rfl (Nat.le_of_ble_eq_true rfl) ?_)
     | refine hop_e0 (eop_store (i := 1) ty28 rfl rfl rfl rfl rfl (Nat.le_of_ble_eq_true rfl) ?_)
     | refine hop_e0 (eop_store (i := 2) ty28 rfl rfl rfl rfl rfl (Nat.le_of_ble_eq_true rfl) ?_)
     | refine hop_e0 (eop_store (i := 3) ty28 rfl rfl rfl rfl rfl (Nat.le_of_ble_eq_true rfl) ?_)
     refine ⟨fun _ => .inl trivial, ?_⟩
     refine ahz (by kernel_rfl) ?_
     refine ⟨(b3, ⟨(team4.take y6.toNat).drop 0, y10, y13, y16, y19, y22⟩), ?_, ⟨rfl, trivial⟩, (by repeat (first | exact keeps_refl | refine keeps_upd rfl ?_ | refine keeps_loop rfl rfl ?_)), ?_⟩
     ·exact ⟨⟨by simp [team4]; omega, by simp [team4]; omega⟩, fun s hs => team4_len s (List.mem_of_mem_take (by simpa using hs))⟩
     ·repeat (first | exact List.Perm.nil | refine permTo 0 rfl ?_ | refine permTo 1 rfl ?_ | refine permTo 2 rfl ?_ | refine permTo 3 rfl ?_ | (refine permToE 0 rfl ?hq ?_; (case hq => simp [setL, hcells]; done)) | (refine permToE 1 rfl ?hq ?_; (case hq => simp [setL, hcells]; done)) | (refine permToE 2 rfl ?hq ?_; (case hq => simp [setL, hcells]; done)) | (refine permToE 3 rfl ?hq ?_; (case hq => simp [setL, hcells]; done)) | fail)
   ·skip
    refine hop_e rfl (eop_alloc ty28 rfl fun b3 => ?_)
    refine ⟨fun _ => .inl trivial, ?_⟩
    refine ahe 6 rfl (by kernel_rfl) ?_
    first
    | refine hop_e rfl (eop_callx (i := 0) ca24 rfl (WeakL.refl _) rfl (c_benchmake_Stream_Pick (L := [_, _, _]) (by first | assumption | omega | (simp; omega) | simp_all) (by first | assumption | omega | (simp; omega) | simp_all) (by first | assumption | omega | (simp; omega) | simp_all)) ?_)
    | refine hop_e rfl (eop_callx (i := 1) ca24 rfl (WeakL.refl _) rfl (c_benchmake_Stream_Pick (L := [_, _, _]) (by first | assumption | omega | (simp; omega) | simp_all) (by first | assumption | omega | (simp; omega) | simp_all) (by first | assumption | omega | (simp; omega) | simp_all)) ?_)
    | refine hop_e rfl (eop_callx (i := 2) ca24 rfl (WeakL.refl _) rfl (c_benchmake_Stream_Pick (L := [_, _, _]) (by first | assumption | omega | (simp; omega) | simp_all) (by first | assumption | omega | (simp; omega) | simp_all) (by first | assumption | omega | (simp; omega) | simp_all)) ?_)
    | refine hop_e rfl (eop_callx (i := 3) ca24 rfl (WeakL.refl _) rfl (c_benchmake_Stream_Pick (L := [_, _, _]) (by first | assumption | omega | (simp; omega) | simp_all) (by first | assumption | omega | (simp; omega) | simp_all) (by first | assumption | omega | (simp; omega) | simp_all)) ?_)
    rintro _ _ ⟨y10, rfl, hy10, rfl⟩
    refine ⟨fun _ => .inl trivial, ?_⟩
    refine ahe 9 rfl (by kernel_rfl) ?_
    first
    | refine hop_e rfl (eop_callx (i := 0) ca24 rfl (WeakL.refl _) rfl (c_benchmake_Stream_Pick (L := [_, _, _]) (by first | assumption | omega | (simp; omega) | simp_all) (by first | assumption | omega | (simp; omega) | simp_all) (by first | assumption | omega | (simp; omega) | simp_all)) ?_)
    | refine hop_e rfl (eop_callx (i := 1) ca24 rfl (WeakL.refl _) rfl (c_benchmake_Stream_Pick (L := [_, _, _]) (by first | assumption | omega | (simp; omega) | simp_all) (by first | assumption | omega | (simp; omega) | simp_all) (by first | assumption | omega | (simp; omega) | simp_all)) ?_)
    | refine hop_e rfl (eop_callx (i := 2) ca24 rfl (WeakL.refl _) rfl (c_benchmake_Stream_Pick (L := [_, _, _]) (by first | assumption | omega | (simp; omega) | simp_all) (by first | assumption | omega | (simp; omega) | simp_all) (by first | assumption | omega | (simp; omega) | simp_all)) ?_)
    | refine hop_e rfl (eop_callx (i := 3) ca24 rfl (WeakL.refl _) rfl (c_benchmake_Stream_Pick (L := [_, _, _]) (by first | assumption | omega | (simp; omega) | simp_all) (by first | assumption | omega | (simp; omega) | simp_all) (by first | assumption | omega | (simp; omega) | simp_all)) ?_)
    rintro _ _ ⟨y13, rfl, hy13, rfl⟩
    refine ⟨fun _ => .inl trivial, ?_⟩
    refine ahe 12 rfl (by kernel_rfl) ?_
    first
    | refine hop_e rfl (eop_callx (i := 0) ca24 rfl (WeakL.refl _) rfl (c_benchmake_Stream_Pick (L := [_, _, _]) (by first | assumption | omega | (simp; omega) | simp_all) (by first | assumption | omega | (simp; omega) | simp_all) (by first | assumption | omega | (simp; omega) | simp_all)) ?_)
    | refine hop_e rfl (eop_callx (i := 1) ca24 rfl (WeakL.refl _) rfl (c_benchmake_Stream_Pick (L := [_, _, _]) (by first | assumption | omega | (simp; omega) | simp_all) (by first | assumption | omega | (simp; omega) | simp_all) (by first | assumption | omega | (simp; omega) | simp_all)) ?_)
    | refine hop_e rfl (eop_callx (i := 2) ca24 rfl (WeakL.refl _) rfl (c_benchmake_Stream_Pick (L := [_, _, _]) (by first | assumption | omega | (simp; omega) | simp_all) (by first | assumption | omega | (simp; omega) | simp_all) (by first | assumption | omega | (simp; omega) | simp_all)) ?_)
    | refine hop_e rfl (eop_callx (i := 3) ca24 rfl (WeakL.refl _) rfl (c_benchmake_Stream_Pick (L := [_, _, _]) (by first | assumption | omega | (simp; omega) | simp_all) (by first | assumption | omega | (simp; omega) | simp_all) (by first | assumption | omega | (simp; omega) | simp_all)) ?_)
    rintro _ _ ⟨y16, rfl, hy16, rfl⟩
    refine ⟨fun _ => .inl trivial, ?_⟩
    refine ahe 15 rfl (by kernel_rfl) ?_
    first
    | refine hop_e rfl (eop_callx (i := 0) ca24 rfl (WeakL.refl _) rfl (c_benchmake_Stream_Pick (L := [_, _, _]) (by first | assumption | omega | (simp; omega) | simp_all) (by first | assumption | omega | (simp; omega) | simp_all) (by first | assumption | omega | (simp; omega) | simp_all)) ?_)
    | refine hop_e rfl (eop_callx (i := 1) ca24 rfl (WeakL.refl _) rfl (c_benchmake_Stream_Pick (L := [_, _, _]) (by first | assumption | omega | (simp; omega) | simp_all) (by first | assumption | omega | (simp; omega) | simp_all) (by first | assumption | omega | (simp; omega) | simp_all)) ?_)
    | refine hop_e rfl (eop_callx (i := 2) ca24 rfl (WeakL.refl _) rfl (c_benchmake_Stream_Pick (L := [_, _, _]) (by first | assumption | omega | (simp; omega) | simp_all) (by first | assumption | omega | (simp; omega) | simp_all) (by first | assumption | omega | (simp; omega) | simp_all)) ?_)
    | refine hop_e rfl (eop_callx (i := 3) ca24 rfl (WeakL.refl _) rfl (c_benchmake_Stream_Pick (L := [_, _, _]) (by first | assumption | omega | (simp; omega) | simp_all) (by first | assumption | omega | (simp; omega) | simp_all) (by first | assumption | omega | (simp; omega) | simp_all)) ?_)
    rintro _ _ ⟨y19, rfl, hy19, rfl⟩
    refine ⟨fun _ => .inl trivial, ?_⟩
    refine ahe 18 rfl (by kernel_rfl) ?_
    first
    | refine hop_e rfl (eop_callx (i := 0) ca24 rfl (WeakL.refl _) rfl (c_benchmake_Stream_Pick (L := [_, _, _]) (by first | assumption | omega | (simp; omega) | simp_all) (by first | assumption | omega | (simp; omega) | simp_all) (by first | assumption | omega | (simp; omega) | simp_all)) ?_)
    | refine hop_e rfl (eop_callx (i := 1) ca24 rfl (WeakL.refl _) rfl (c_benchmake_Stream_Pick (L := [_, _, _]) (by first | assumption | omega | (simp; omega) | simp_all) (by first | assumption | omega | (simp; omega) | simp_all) (by first | assumption | omega | (simp; omega) | simp_all)) ?_)
    | refine hop_e rfl (eop_callx (i := 2) ca24 rfl (WeakL.refl _) rfl (c_benchmake_Stream_Pick (L := [_, _, _]) (by first | assumption | omega | (simp; omega) | simp_all) (by first | assumption | omega | (simp; omega) | simp_all) (by first | assumption | omega | (simp; omega) | simp_all)) ?_)
    | refine hop_e rfl (eop_callx (i := 3) ca24 rfl (WeakL.refl _) rfl (c_benchmake_Stream_Pick (L := [_, _, _]) (by first | assumption | omega | (simp; omega) | simp_all) (by first | assumption | omega | (simp; omega) | simp_all) (by first | assumption | omega | (simp; omega) | simp_all)) ?_)
    rintro _ _ ⟨y22, rfl, hy22, rfl⟩
    refine ⟨fun _ => .inl trivial, ?_⟩
    refine ahp 19 rfl rfl (by kernel_rfl) (by kernel_rfl) (pop_build (cs := [_, _, _, _, _, _]) ty28 pl28 rfl) ?_
    refine ahe 21 rfl (by kernel_rfl) ?_
    first
    | refine hop_e0 (eop_store (i := 0) ty28 rfl rfl rfl rfl rfl (Nat.le_of_ble_eq_true rfl) ?_)
    | refine hop_e0 (eop_store (i := 1) ty28 rfl rfl rfl rfl rfl (Nat.le_of_ble_eq_true rfl) ?_)
    | refine hop_e0 (eop_store (i := 2) ty28 rfl rfl rfl rfl rfl (Nat.le_of_ble_eq_true rfl) ?_)
    | refine hop_e0 (eop_store (i := 3) ty28 rfl rfl rfl rfl rfl (Nat.le_of_ble_eq_true rfl) ?_)
    refine ⟨fun _ => .inl trivial, ?_⟩
    refine ahz (by kernel_rfl) ?_
    refine ⟨(b3, ⟨(team4.take y6.toNat).drop 0, y10, y13, y16, y19, y22⟩), ?_, ⟨rfl, trivial⟩, (by repeat (first | exact keeps_refl | refine keeps_upd rfl ?_ | refine keeps_loop rfl rfl ?_)), ?_⟩
    ·exact ⟨⟨by simp [team4]; omega, by simp [team4]; omega⟩, fun s hs => team4_len s (List.mem_of_mem_take (by simpa using hs))⟩
    ·repeat (first | exact List.Perm.nil | refine permTo 0 rfl ?_ | refine permTo 1 rfl ?_ | refine permTo 2 rfl ?_ | refine permTo 3 rfl ?_ | (refine permToE 0 rfl ?hq ?_; (case hq => simp [setL, hcells]; done)) | (refine permToE 1 rfl ?hq ?_; (case hq => simp [setL, hcells]; done)) | (refine permToE 2 rfl ?hq ?_; (case hq => simp [setL, hcells]; done)) | (refine permToE 3 rfl ?hq ?_; (case hq => simp [setL, hcells]; done)) | fail)
  ·skip
   refine hop_e rfl (eop_alloc ty28 rfl fun b3 => ?_)
   refine ⟨fun _ => .inl trivial, ?_⟩
   refine ahe 2 rfl (by kernel_rfl) ?_
   first
   | refine hop_e rfl (eop_callx (i := 0) ca23 rfl (WeakL.refl _) rfl (c_benchmake_Stream_Range (by first | assumption | omega | (simp; omega) | simp_all) (by first | assumption | omega | (simp; omega) | simp_all) (by first | assumption | omega | (simp; omega) | simp_all) (by first | assumption | omega | (simp; omega) | simp_all)) ?_)
   | refine hop_e rfl (eop_callx (i := 1) ca23 rfl (WeakL.refl _) rfl (c_benchmake_Stream_Range (by first | assumption | omega | (simp; omega) | simp_all) (by first | assumption | omega | (simp; omega) | simp_all) (by first | assumption | omega | (simp; omega) | simp_all) (by first | assumption | omega | (simp; omega) | simp_all)) ?_)
   | refine hop_e rfl (eop_callx (i := 2) ca23 rfl (WeakL.refl _) rfl (c_benchmake_Stream_Range (by first | assumption | omega | (simp; omega) | simp_all) (by first | assumption | omega | (simp; omega) | simp_all) (by first | assumption | omega | (simp; omega) | simp_all) (by first | assumption | omega | (simp; omega) | simp_all)) ?_)
   | refine hop_e rfl (eop_callx (i := 3) ca23 rfl (WeakL.refl _) rfl (c_benchmake_Stream_Range (by first | assumption | omega | (simp; omega) | simp_all) (by first | assumption | omega | (simp; omega) | simp_all) (by first | assumption | omega | (simp; omega) | simp_all) (by first | assumption | omega | (simp; omega) | simp_all)) ?_)
   rintro _ _ ⟨y6, rfl, hy6, rfl⟩
   refine ⟨fun _ => .inl trivial, ?_⟩
   refine ahp 3 rfl rfl (by kernel_rfl) (by kernel_rfl) (pop_slicem (es := team4) (f := HVal.str) (h := y6.toNat) ty26 ty9 rfl rfl ⟨_, _, rfl, by omega⟩ (by omega) (by simp [team4]; omega)) ?_
   refine ahe 6 rfl (by kernel_rfl) ?_
   first
   | refine hop_e rfl (eop_callx (i := 0) ca24 rfl (WeakL.refl _) rfl (c_benchmake_Stream_Pick (L := [_, _, _]) (by first | assumption | omega | (simp; omega) | simp_all) (by first | assumption | omega | (simp; omega) | simp_all) (by first | assumption | omega | (simp; omega) | simp_all)) ?_)
   | refine hop_e rfl (eop_callx (i := 1) ca24 rfl (WeakL.refl _) rfl (c_benchmake_Stream_Pick (L := [_, _, _]) (by first | assumption | omega | (simp; omega) | simp_all) (by first | assumption | omega | (simp; omega) | simp_all) (by first | assumption | omega | (simp; omega) | simp_all)) ?_)
   | refine hop_e rfl (eop_callx (i := 2) ca24 rfl (WeakL.refl _) rfl (c_benchmake_Stream_Pick (L := [_, _, _]) (by first | assumption | omega | (simp; omega) | simp_all) (by first | assumption | omega | (simp; omega) | simp_all) (by first | assumption | omega | (simp; omega) | simp_all)) ?_)
   | refine hop_e rfl (eop_callx (i := 3) ca24 rfl (WeakL.refl _) rfl (c_benchmake_Stream_Pick (L := [_, _, _]) (by first | assumption | omega | (simp; omega) | simp_all) (by first | assumption | omega | (simp; omega) | simp_all) (by first | assumption | omega | (simp; omega) | simp_all)) ?_)
   rintro _ _ ⟨y10, rfl, hy10, rfl⟩
   refine ⟨fun _ => .inl trivial, ?_⟩
   refine ahe 9 rfl (by kernel_rfl) ?_
   first
   | refine hop_e rfl (eop_callx (i := 0) ca24 rfl (WeakL.refl _) rfl (c_benchmake_Stream_Pick (L := [_, _, _]) (by first | assumption | omega | (simp; omega) | simp_all) (by first | assumption | omega | (simp; omega) | simp_all) (by first | assumption | omega | (simp; omega) | simp_all)) ?_)
   | refine hop_e rfl (eop_callx (i := 1) ca24 rfl (WeakL.refl _) rfl (c_benchmake_Stream_Pick (L := [_, _, _]) (by first | assumption | omega | (simp; omega) | simp_all) (by first | assumption | omega | (simp; omega) | simp_all) (by first | assumption | omega | (simp; omega) | simp_all)) ?_)
   | refine hop_e rfl (eop_callx (i := 2) ca24 rfl (WeakL.refl _) rfl (c_benchmake_Stream_Pick (L := [_, _, _]) (by first | assumption | omega | (simp; omega) | simp_all) (by first | assumption | omega | (simp; omega) | simp_all) (by first | assumption | omega | (simp; omega) | simp_all)) ?_)
   | refine hop_e rfl (eop_callx (i := 3) ca24 rfl (WeakL.refl _) rfl (c_benchmake_Stream_Pick (L := [_, _, _]) (by first | assumption | omega | (simp; omega) | simp_all) (by first | assumption | omega | (simp; omega) | simp_all) (by first | assumption | omega | (simp; omega) | simp_all)) ?_)
   rintro _ _ ⟨y13, rfl, hy13, rfl⟩
   refine ⟨fun _ => .inl trivial, ?_⟩
   refine ahe 12 rfl (by kernel_rfl) ?_
   first
   | refine hop_e rfl (eop_callx (i := 0) ca24 rfl (WeakL.refl _) rfl (c_benchmake_Stream_Pick (L := [_, _, _]) (by first | assumption | omega | (simp; omega) | simp_all) (by first | assumption | omega | (simp; omega) | simp_all) (by first | assumption | omega | (simp; omega) | simp_all)) ?_)
   | refine hop_e rfl (eop_callx (i := 1) ca24 rfl (WeakL.refl _) rfl (c_benchmake_Stream_Pick (L := [_, _, _]) (by first | assumption | omega | (simp; omega) | simp_all) (by first | assumption | omega | (simp; omega) | simp_all) (by first | assumption | omega | (simp; omega) | simp_all)) ?_)
   | refine hop_e rfl (eop_callx (i := 2) ca24 rfl (WeakL.refl _) rfl (c_benchmake_Stream_Pick (L := [_, _, _]) (by first | assumption | omega | (simp; omega) | simp_all) (by first | assumption | omega | (simp; omega) | simp_all) (by first | assumption | omega | (simp; omega) | simp_all)) ?_)
   | refine hop_e rfl (eop_callx (i := 3) ca24 rfl (WeakL.refl _) rfl (c_benchmake_Stream_Pick (L := [_, _, _]) (by first | assumption | omega | (simp; omega) | simp_all) (by first | assumption | omega | (simp; omega) | simp_all) (by first | assumption | omega | (simp; omega) | simp_all)) ?_)
   rintro _ _ ⟨y16, rfl, hy16, rfl⟩
   refine ⟨fun _ => .inl trivial, ?_⟩
   refine ahe 15 rfl (by kernel_rfl) ?_
   first
   | refine hop_e rfl (eop_callx (i := 0) ca24 rfl (WeakL.refl _) rfl (c_benchmake_Stream_Pick (L := [_, _, _]) (by first | assumption | omega | (simp; omega) | simp_all) (by first | assumption | omega | (simp; omega) | simp_all) (by first | assumption | omega | (simp; omega) | simp_all)) ?_)
   | refine hop_e rfl (eop_callx (i := 1) ca24 rfl (WeakL.refl _) rfl (c_benchmake_Stream_Pick (L := [_, _, _]) (by first | assumption | omega | (simp; omega) | simp_all) (by first | assumption | omega | (simp; omega) | simp_all) (by first | assumption | omega | (simp; omega) | simp_all)) ?_)
   | refine hop_e rfl (eop_callx (i := 2) ca24 rfl (WeakL.refl _) rfl (c_benchmake_Stream_Pick (L := [_, _, _]) (by first | assumption | omega | (simp; omega) | simp_all) (by first | assumption | omega | (simp; omega) | simp_all) (by first | assumption | omega | (simp; omega) | simp_all)) ?_)
   | refine hop_e rfl (eop_callx (i := 3) ca24 rfl (WeakL.refl _) rfl (c_benchmake_Stream_Pick (L := [_, _, _]) (by first | assumption | omega | (simp; omega) | simp_all) (by first | assumption | omega | (simp; omega) | simp_all) (by first | assumption | omega | (simp; omega) | simp_all)) ?_)
   rintro _ _ ⟨y19, rfl, hy19, rfl⟩
   refine ⟨fun _ => .inl trivial, ?_⟩
   refine ahe 18 rfl (by kernel_rfl) ?_
   first
   | refine hop_e rfl (eop_callx (i := 0) ca24 rfl (WeakL.refl _) rfl (c_benchmake_Stream_Pick (L := [_, _, _]) (by first | assumption | omega | (simp; omega) | simp_all) (by first | assumption | omega | (simp; omega) | simp_all) (by first | assumption | omega | (simp; omega) | simp_all)) ?_)
   | refine hop_e rfl (eop_callx (i := 1) ca24 rfl (WeakL.refl _) rfl (c_benchmake_Stream_Pick (L := [_, _, _]) (by first | assumption | omega | (simp; omega) | simp_all) (by first | assumption | omega | (simp; omega) | simp_all) (by first | assumption | omega | (simp; omega) | simp_all)) ?_)
   | refine hop_e rfl (eop_callx (i := 2) ca24 rfl (WeakL.refl _) rfl (c_benchmake_Stream_Pick (L := [_, _, _]) (by first | assumption | omega | (simp; omega) | simp_all) (by first | assumption | omega | (simp; omega) | simp_all) (by first | assumption | omega | (simp; omega) | simp_all)) ?_)
   | refine hop_e rfl (eop_callx (i := 3) ca24 rfl (WeakL.refl _) rfl (c_benchmake_Stream_Pick (L := [_, _, _]) (by first | assumption | omega | (simp; omega) | simp_all) (by first | assumption | omega | (simp; omega) | simp_all) (by first | assumption | omega | (simp; omega) | simp_all)) ?_)
   rintro _ _ ⟨y22, rfl, hy22, rfl⟩
   refine ⟨fun _ => .inl trivial, ?_⟩
   refine ahp 19 rfl rfl (by kernel_rfl) (by kernel_rfl) (pop_build (cs := [_, _, _, _, _, _]) ty28 pl28 rfl) ?_
   refine ahe 21 rfl (by kernel_rfl) ?_
   first
   | refine hop_e0 (eop_store (i := 0) ty28 rfl rfl rfl rfl rfl (Nat.le_of_ble_eq_true rfl) ?_)
   | refine hop_e0 (eop_store (i := 1) ty28 rfl rfl rfl rfl rfl (Nat.le_of_ble_eq_true rfl) ?_)
   | refine hop_e0 (eop_store (i := 2) ty28 rfl rfl rfl rfl rfl (Nat.le_of_ble_eq_true rfl) ?_)
   | refine hop_e0 (eop_store (i := 3) ty28 rfl rfl rfl rfl rfl (Nat.le_of_ble_eq_true rfl) ?_)
   refine ⟨fun _ => .inl trivial, ?_⟩
   refine ahz (by kernel_rfl) ?_
   refine ⟨(b3, ⟨(team4.take y6.toNat).drop 0, y10, y13, y16, y19, y22⟩), ?_, ⟨rfl, trivial⟩, (by repeat (first | exact keeps_refl | refine keeps_upd rfl ?_ | refine keeps_loop rfl rfl ?_)), ?_⟩
   ·exact ⟨⟨by simp [team4]; omega, by simp [team4]; omega⟩, fun s hs => team4_len s (List.mem_of_mem_take (by simpa using hs))⟩
   ·repeat (first | exact List.Perm.nil | refine permTo 0 rfl ?_ | refine permTo 1 rfl ?_ | refine permTo 2 rfl ?_ | refine permTo 3 rfl ?_ | (refine permToE 0 rfl ?hq ?_; (case hq => simp [setL, hcells]; done)) | (refine permToE 1 rfl ?hq ?_; (case hq => simp [setL, hcells]; done)) | (refine permToE 2 rfl ?hq ?_; (case hq => simp [setL, hcells]; done)) | (refine permToE 3 rfl ?hq ?_; (case hq => simp [setL, hcells]; done)) | fail)
 ·intro q hq
  obtain ⟨b3, ⟨T, Ve, Wa, Dl, Le, Mo⟩⟩ := q
  dsimp only at hq
  obtain ⟨⟨hT0, hT5⟩, hTs⟩ := hq
  refine hw_joing [24, 25, 26, 27, 28, 29, 30, 31, 32, 33, 34, 35, 36, 37, 38, 39, 40, 41, 42, 43] (fun (q : MarketS × Nat) => []) (fun (q : MarketS × Nat) => [.cells b3 (hcells (eMarket q.1)), .cells b2 [nilS, .int .i64 0, .int .i64 0, .int .i64 0, .int .i64 0, .int .i64 0], St b l q.2]) (fun (q : MarketS × Nat) => GoodM q.1 ∧ q.2 ≤ a + 20) ?_ ?_
  ·skip
   refine hw_reg ?_
   refine dp rfl (pop_move rfl) ?_
   first
   | refine de rfl (eop_callx (i := 0) ca25 rfl (WeakL.refl _) rfl (c_benchmake_Stream_Flip (by first | assumption | omega | (simp; omega) | simp_all) (by first | assumption | omega | (simp; omega) | simp_all)) ?_)
   | refine de rfl (eop_callx (i := 1) ca25 rfl (WeakL.refl _) rfl (c_benchmake_Stream_Flip (by first | assumption | omega | (simp; omega) | simp_all) (by first | assumption | omega | (simp; omega) | simp_all)) ?_)
   | refine de rfl (eop_callx (i := 2) ca25 rfl (WeakL.refl _) rfl (c_benchmake_Stream_Flip (by first | assumption | omega | (simp; omega) | simp_all) (by first | assumption | omega | (simp; omega) | simp_all)) ?_)
   | refine de rfl (eop_callx (i := 3) ca25 rfl (WeakL.refl _) rfl (c_benchmake_Stream_Flip (by first | assumption | omega | (simp; omega) | simp_all) (by first | assumption | omega | (simp; omega) | simp_all)) ?_)
   rintro _ _ ⟨y25, rfl, rfl⟩
   refine dn ?_
   refine hw_cond rfl (fun h1 => ?_) (fun h2 => ?_)
   ·try simp at h1
    refine hw_reg1 ?_
    refine dp rfl (pop_fieldAddr_raw ty28 rfl ty26 (by decide) rfl) ?_
    first
    | refine de rfl (eop_load (i := 0) ty26 rfl rfl (.inl ⟨rfl, rfl⟩) ?_)
    | refine de rfl (eop_load (i := 1) ty26 rfl rfl (.inl ⟨rfl, rfl⟩) ?_)
    | refine de rfl (eop_load (i := 2) ty26 rfl rfl (.inl ⟨rfl, rfl⟩) ?_)
    | refine de rfl (eop_load (i := 3) ty26 rfl rfl (.inl ⟨rfl, rfl⟩) ?_)
    refine de rfl (eop_calla ca26 rfl (WeakL.refl _) (c_slices_Clone_string_string (by first | assumption | omega | (simp; omega) | simp_all)) fun v28 => ?_)
    refine dp rfl (pop_move rfl) ?_
    refine dp rfl (pop_buildSlice (hs := [_, _, _]) ty26 ty9 rfl rfl (by decide) (by decide) rfl) ?_
    first
    | refine de rfl (eop_callx (i := 0) ca27 rfl (WeakL.refl _) rfl (c_benchmake_Stream_Some (L := [_, _, _]) (by first | assumption | omega | (simp; omega) | simp_all) (by first | assumption | omega | (simp; omega) | simp_all) (by first | assumption | omega | (simp; omega) | simp_all)) ?_)
    | refine de rfl (eop_callx (i := 1) ca27 rfl (WeakL.refl _) rfl (c_benchmake_Stream_Some (L := [_, _, _]) (by first | assumption | omega | (simp; omega) | simp_all) (by first | assumption | omega | (simp; omega) | simp_all) (by first | assumption | omega | (simp; omega) | simp_all)) ?_)
    | refine de rfl (eop_callx (i := 2) ca27 rfl (WeakL.refl _) rfl (c_benchmake_Stream_Some (L := [_, _, _]) (by first | assumption | omega | (simp; omega) | simp_all) (by first | assumption | omega | (simp; omega) | simp_all) (by first | assumption | omega | (simp; omega) | simp_all)) ?_)
    | refine de rfl (eop_callx (i := 3) ca27 rfl (WeakL.refl _) rfl (c_benchmake_Stream_Some (L := [_, _, _]) (by first | assumption | omega | (simp; omega) | simp_all) (by first | assumption | omega | (simp; omega) | simp_all) (by first | assumption | omega | (simp; omega) | simp_all)) ?_)
    rintro _ _ ⟨y31, rfl, hy31, rfl⟩
    refine dp rfl (pop_buildSlice (hs := [_]) ty26 ty9 rfl rfl (by decide) (by decide) rfl) ?_
    first
    | refine de rfl (eop_append (i := 0) ty26 ty9 rfl rfl rfl rfl rfl (by simp [flat, hcells]) (by first | omega | (simp; omega)) fun v33 => ?_)
    | refine de rfl (eop_append (i := 1) ty26 ty9 rfl rfl rfl rfl rfl (by simp [flat, hcells]) (by first | omega | (simp; omega)) fun v33 => ?_)
    | refine de rfl (eop_append (i := 2) ty26 ty9 rfl rfl rfl rfl rfl (by simp [flat, hcells]) (by first | omega | (simp; omega)) fun v33 => ?_)
    | refine de rfl (eop_append (i := 3) ty26 ty9 rfl rfl rfl rfl rfl (by simp [flat, hcells]) (by first | omega | (simp; omega)) fun v33 => ?_)
    refine dp rfl (pop_move rfl) ?_
    first
    | refine de rfl (eop_callx (i := 0) ca28 rfl (WeakL.refl _) rfl (c_benchmake_Stream_Odd (by first | assumption | omega | (simp; omega) | simp_all) (by first | assumption | omega | (simp; omega) | simp_all) (by first | assumption | omega | (simp; omega) | simp_all) (by first | assumption | omega | (simp; omega) | simp_all)) ?_)
    | refine de rfl (eop_callx (i := 1) ca28 rfl (WeakL.refl _) rfl (c_benchmake_Stream_Odd (by first | assumption | omega | (simp; omega) | simp_all) (by first | assumption | omega | (simp; omega) | simp_all) (by first | assumption | omega | (simp; omega) | simp_all) (by first | assumption | omega | (simp; omega) | simp_all)) ?_)
    | refine de rfl (eop_callx (i := 2) ca28 rfl (WeakL.refl _) rfl (c_benchmake_Stream_Odd (by first | assumption | omega | (simp; omega) | simp_all) (by first | assumption | omega | (simp; omega) | simp_all) (by first | assumption | omega | (simp; omega) | simp_all) (by first | assumption | omega | (simp; omega) | simp_all)) ?_)
    | refine de rfl (eop_callx (i := 3) ca28 rfl (WeakL.refl _) rfl (c_benchmake_Stream_Odd (by first | assumption | omega | (simp; omega) | simp_all) (by first | assumption | omega | (simp; omega) | simp_all) (by first | assumption | omega | (simp; omega) | simp_all) (by first | assumption | omega | (simp; omega) | simp_all)) ?_)
    rintro _ _ ⟨y35, rfl, rfl⟩
    refine dp rfl (pop_move rfl) ?_
    first
    | refine de rfl (eop_callx (i := 0) ca28 rfl (WeakL.refl _) rfl (c_benchmake_Stream_Odd (by first | assumption | omega | (simp; omega) | simp_all) (by first | assumption | omega | (simp; omega) | simp_all) (by first | assumption | omega | (simp; omega) | simp_all) (by first | assumption | omega | (simp; omega) | simp_all)) ?_)
    | refine de rfl (eop_callx (i := 1) ca28 rfl (WeakL.refl _) rfl (c_benchmake_Stream_Odd (by first | assumption | omega | (simp; omega) | simp_all) (by first | assumption | omega | (simp; omega) | simp_all) (by first | assumption | omega | (simp; omega) | simp_all) (by first | assumption | omega | (simp; omega) | simp_all)) ?_)
    | refine de rfl (eop_callx (i := 2) ca28 rfl (WeakL.refl _) rfl (c_benchmake_Stream_Odd (by first | assumption | omega | (simp; omega) | simp_all) (by first | assumption | omega | (simp; omega) | simp_all) (by first | assumption | omega | (simp; omega) | simp_all) (by first | assumption | omega | (simp; omega) | simp_all)) ?_)
    | refine de rfl (eop_callx (i := 3) ca28 rfl (WeakL.refl _) rfl (c_benchmake_Stream_Odd (by first | assumption | omega | (simp; omega) | simp_all) (by first | assumption | omega | (simp; omega) | simp_all) (by first | assumption | omega | (simp; omega) | simp_all) (by first | assumption | omega | (simp; omega) | simp_all)) ?_)
    rintro _ _ ⟨y37, rfl, rfl⟩
    refine dp rfl (pop_move rfl) ?_
    first
    | refine de rfl (eop_callx (i := 0) ca28 rfl (WeakL.refl _) rfl (c_benchmake_Stream_Odd (by first | assumption | omega | (simp; omega) | simp_all) (by first | assumption | omega | (simp; omega) | simp_all) (by first | assumption | omega | (simp; omega) | simp_all) (by first | assumption | omega | (simp; omega) | simp_all)) ?_)
    | refine de rfl (eop_callx (i := 1) ca28 rfl (WeakL.refl _) rfl (c_benchmake_Stream_Odd (by first | assumption | omega | (simp; omega) | simp_all) (by first | assumption | omega | (simp; omega) | simp_all) (by first | assumption | omega | (simp; omega) | simp_all) (by first | assumption | omega | (simp; omega) | simp_all)) ?_)
    | refine de rfl (eop_callx (i := 2) ca28 rfl (WeakL.refl _) rfl (c_benchmake_Stream_Odd (by first | assumption | omega | (simp; omega) | simp_all) (by first | assumption | omega | (simp; omega) | simp_all) (by first | assumption | omega | (simp; omega) | simp_all) (by first | assumption | omega | (simp; omega) | simp_all)) ?_)
    | refine de rfl (eop_callx (i := 3) ca28 rfl (WeakL.refl _) rfl (c_benchmake_Stream_Odd (by first | assumption | omega | (simp; omega) | simp_all) (by first | assumption | omega | (simp; omega) | simp_all) (by first | assumption | omega | (simp; omega) | simp_all) (by first | assumption | omega | (simp; omega) | simp_all)) ?_)
    rintro _ _ ⟨y39, rfl, rfl⟩
    refine dp rfl (pop_fieldAddr_raw ty28 rfl ty26 (by decide) rfl) ?_
    first
    | refine de0 (eop_store (i := 0) ty26 rfl rfl rfl rfl rfl (Nat.le_of_ble_eq_true rfl) ?_)
    | refine de0 (eop_store (i := 1) ty26 rfl rfl rfl rfl rfl (Nat.le_of_ble_eq_true rfl) ?_)
    | refine de0 (eop_store (i := 2) ty26 rfl rfl rfl rfl rfl (Nat.le_of_ble_eq_true rfl) ?_)
    | refine de0 (eop_store (i := 3) ty26 rfl rfl rfl rfl rfl (Nat.le_of_ble_eq_true rfl) ?_)
    refine dp rfl (pop_fieldAddr_raw ty28 rfl ty3 (by decide) rfl) ?_
    first
    | refine de0 (eop_store (i := 0) ty3 rfl rfl rfl rfl rfl (Nat.le_of_ble_eq_true rfl) ?_)
    | refine de0 (eop_store (i := 1) ty3 rfl rfl rfl rfl rfl (Nat.le_of_ble_eq_true rfl) ?_)
    | refine de0 (eop_store (i := 2) ty3 rfl rfl rfl rfl rfl (Nat.le_of_ble_eq_true rfl) ?_)
    | refine de0 (eop_store (i := 3) ty3 rfl rfl rfl rfl rfl (Nat.le_of_ble_eq_true rfl) ?_)
    refine dp rfl (pop_fieldAddr_raw ty28 rfl ty3 (by decide) rfl) ?_
    first
    | refine de0 (eop_store (i := 0) ty3 rfl rfl rfl rfl rfl (Nat.le_of_ble_eq_true rfl) ?_)
    | refine de0 (eop_store (i := 1) ty3 rfl rfl rfl rfl rfl (Nat.le_of_ble_eq_true rfl) ?_)
    | refine de0 (eop_store (i := 2) ty3 rfl rfl rfl rfl rfl (Nat.le_of_ble_eq_true rfl) ?_)
    | refine de0 (eop_store (i := 3) ty3 rfl rfl rfl rfl rfl (Nat.le_of_ble_eq_true rfl) ?_)
    refine dp rfl (pop_fieldAddr_raw ty28 rfl ty3 (by decide) rfl) ?_
    first
    | refine de0 (eop_store (i := 0) ty3 rfl rfl rfl rfl rfl (Nat.le_of_ble_eq_true rfl) ?_)
    | refine de0 (eop_store (i := 1) ty3 rfl rfl rfl rfl rfl (Nat.le_of_ble_eq_true rfl) ?_)
    | refine de0 (eop_store (i := 2) ty3 rfl rfl rfl rfl rfl (Nat.le_of_ble_eq_true rfl) ?_)
    | refine de0 (eop_store (i := 3) ty3 rfl rfl rfl rfl rfl (Nat.le_of_ble_eq_true rfl) ?_)
    refine dn ?_
    (first | refine joinG_n (Ghost.fcell (i := 0) (k := 0) (j := 0) rfl rfl rfl) ?_ | refine joinG_n (Ghost.fcell (i := 0) (k := 1) (j := 0) rfl rfl rfl) ?_ | refine joinG_n (Ghost.fcell (i := 0) (k := 2) (j := 0) rfl rfl rfl) ?_ | refine joinG_n (Ghost.fcell (i := 0) (k := 3) (j := 0) rfl rfl rfl) ?_ | refine joinG_n (Ghost.fcell (i := 1) (k := 0) (j := 0) rfl rfl rfl) ?_ | refine joinG_n (Ghost.fcell (i := 1) (k := 1) (j := 0) rfl rfl rfl) ?_ | refine joinG_n (Ghost.fcell (i := 1) (k := 2) (j := 0) rfl rfl rfl) ?_ | refine joinG_n (Ghost.fcell (i := 1) (k := 3) (j := 0) rfl rfl rfl) ?_ | refine joinG_n (Ghost.fcell (i := 2) (k := 0) (j := 0) rfl rfl rfl) ?_ | refine joinG_n (Ghost.fcell (i := 2) (k := 1) (j := 0) rfl rfl rfl) ?_ | refine joinG_n (Ghost.fcell (i := 2) (k := 2) (j := 0) rfl rfl rfl) ?_ | refine joinG_n (Ghost.fcell (i := 2) (k := 3) (j := 0) rfl rfl rfl) ?_ | refine joinG_n (Ghost.fcell (i := 3) (k := 0) (j := 0) rfl rfl rfl) ?_ | refine joinG_n (Ghost.fcell (i := 3) (k := 1) (j := 0) rfl rfl rfl) ?_ | refine joinG_n (Ghost.fcell (i := 3) (k := 2) (j := 0) rfl rfl rfl) ?_ | refine joinG_n (Ghost.fcell (i := 3) (k := 3) (j := 0) rfl rfl rfl) ?_)
    refine joinG_z (⟨T ++ [y31], y35, y37, Dl, y39, Mo⟩, a + 14) ⟨?_, by dsimp only; omega⟩ trivial (by repeat (first | exact keeps_refl | refine keeps_upd rfl ?_ | refine keeps_loop rfl rfl ?_)) ?_
    ·exact ⟨by simp, by simp; omega, fun s hs => by
      rcases List.mem_append.1 hs with hs | hs
      ·exact hTs s hs
      ·rw [List.mem_singleton.1 hs]; simp at hy31; rcases hy31 with rfl | rfl | rfl <;> decide⟩
    ·repeat (first | exact List.Perm.nil | refine permTo 0 rfl ?_ | refine permTo 1 rfl ?_ | refine permTo 2 rfl ?_ | refine permTo 3 rfl ?_ | (refine permToE 0 rfl ?hq ?_; (case hq => simp [setL, hcells]; done)) | (refine permToE 1 rfl ?hq ?_; (case hq => simp [setL, hcells]; done)) | (refine permToE 2 rfl ?hq ?_; (case hq => simp [setL, hcells]; done)) | (refine permToE 3 rfl ?hq ?_; (case hq => simp [setL, hcells]; done)) | fail)
   ·try simp at h2
    refine hw_skip ?_
    refine joinG_z (⟨T, Ve, Wa, Dl, Le, Mo⟩, a + 7) ⟨⟨hT0, Nat.le_succ_of_le hT5, hTs⟩, by dsimp only; omega⟩ trivial (by repeat (first | exact keeps_refl | refine keeps_upd rfl ?_ | refine keeps_loop rfl rfl ?_)) ?_
    ·repeat (first | exact List.Perm.nil | refine permTo 0 rfl ?_ | refine permTo 1 rfl ?_ | refine permTo 2 rfl ?_ | refine permTo 3 rfl ?_ | (refine permToE 0 rfl ?hq ?_; (case hq => simp [setL, hcells]; done)) | (refine permToE 1 rfl ?hq ?_; (case hq => simp [setL, hcells]; done)) | (refine permToE 2 rfl ?hq ?_; (case hq => simp [setL, hcells]; done)) | (refine permToE 3 rfl ?hq ?_; (case hq => simp [setL, hcells]; done)) | fail)
  ·intro q hq2
   obtain ⟨m, a2⟩ := q
   dsimp only at hq2
   refine hw_reg ?_
   first
   | refine de rfl (eop_loadw (i := 0) ty28 rfl rfl rfl rfl rfl ?_)
   | refine de rfl (eop_loadw (i := 1) ty28 rfl rfl rfl rfl rfl ?_)
   | refine de rfl (eop_loadw (i := 2) ty28 rfl rfl rfl rfl rfl ?_)
   | refine de rfl (eop_loadw (i := 3) ty28 rfl rfl rfl rfl rfl ?_)
   first
   | refine de0 (eop_store (i := 0) ty28 rfl rfl rfl rfl rfl (Nat.le_of_ble_eq_true rfl) ?_)
   | refine de0 (eop_store (i := 1) ty28 rfl rfl rfl rfl rfl (Nat.le_of_ble_eq_true rfl) ?_)
   | refine de0 (eop_store (i := 2) ty28 rfl rfl rfl rfl rfl (Nat.le_of_ble_eq_true rfl) ?_)
   | refine de0 (eop_store (i := 3) ty28 rfl rfl rfl rfl rfl (Nat.le_of_ble_eq_true rfl) ?_)
   refine dn ?_
   refine hw_ret ?_
   exact ⟨_, _, (Ghost.drop).trans (Ghost.fc0 2 rfl), [_], _, ⟨⟨_, _, _, _, _, rfl, ty28, .inr ⟨rfl, rfl, rfl⟩⟩, trivial⟩, Weak.refl _, m, a2, rfl, hq2.1, hq2.2, rfl⟩
end Go.Proofs.YtdjpppifnmjhoaaGreatDoor
end
section
namespace Go.Proofs.YtdjpppifnmjhoaaGreatDoor
open Go.HL
set_option maxRecDepth 100000
set_option linter.unusedVariables false
set_option linter.unusedSimpArgs false
/-- (*benchwarmer/benchmake.Stream).OwnerList$1 -/
theorem c_benchmake_Stream_OwnerList_1 [Tracks] {m : MarketS} {x : OwnerS} {t : Str} {bn n : Nat} (hn : n ≤ 1000000) : Con Tryz.prog 35 [eOwner x, .vptr [.str t] 0, pAt bn, .vptr (hcells (eMarket m)) 0] [.cells bn [.int .i64 (n : Int)]] (fun r M' => ∃ (y : Bool) (n' : Nat), r = .bool y ∧ n' ≤ n + 1 ∧ M' = [.cells bn [.int .i64 (n' : Int)]]) := by
 refine Con.of_body Tryz.func35 rfl Tryz.ntmps35 rfl rfl ?_
 refine hw_reg ?_
 refine dp rfl (pop_box rfl rfl) ?_
 refine dp rfl (pop_assign rfl) ?_
 refine dn ?_
 refine hw_join [6, 7, 8, 9, 10, 11] (fun (n2 : Nat) => []) (fun (n2 : Nat) => [.cells bn [.int .i64 (n2 : Int)]]) (fun (n2 : Nat) => n2 ≤ n + 1) ?_ ?_
 ·skip
  refine hw_reg ?_
  refine dp rfl ((by first | exact pop_fieldAddr ty67 rfl ty9 (by decide) rfl | exact pop_fieldAddr_raw ty67 rfl ty9 (by decide) rfl)) ?_
  refine dp rfl (pop_load ty9 rfl rfl rfl) ?_
  refine dp rfl (pop_load ty9 rfl rfl rfl) ?_
  refine dp rfl (pop_eqls rfl rfl) ?_
  refine dn ?_
  refine hw_cond rfl (fun h1 => ?_) (fun h2 => ?_)
  ·try simp at h1
   refine hw_reg1 ?_
   first
   | refine de rfl (eop_load (i := 0) ty3 rfl rfl (.inl ⟨rfl, rfl⟩) ?_)
   | refine de rfl (eop_load (i := 1) ty3 rfl rfl (.inl ⟨rfl, rfl⟩) ?_)
   | refine de rfl (eop_load (i := 2) ty3 rfl rfl (.inl ⟨rfl, rfl⟩) ?_)
   | refine de rfl (eop_load (i := 3) ty3 rfl rfl (.inl ⟨rfl, rfl⟩) ?_)
   refine dp rfl (pop_add64 rfl rfl (by omega) (by omega)) ?_
   first
   | refine de0 (eop_store (i := 0) ty3 rfl rfl rfl rfl rfl (Nat.le_of_ble_eq_true rfl) ?_)
   | refine de0 (eop_store (i := 1) ty3 rfl rfl rfl rfl rfl (Nat.le_of_ble_eq_true rfl) ?_)
   | refine de0 (eop_store (i := 2) ty3 rfl rfl rfl rfl rfl (Nat.le_of_ble_eq_true rfl) ?_)
   | refine de0 (eop_store (i := 3) ty3 rfl rfl rfl rfl rfl (Nat.le_of_ble_eq_true rfl) ?_)
   refine dn ?_
   exact ⟨n + 1, Nat.le_refl _, trivial, (by repeat (first | exact keeps_refl | refine keeps_upd rfl ?_ | refine keeps_loop rfl rfl ?_)), perm_eq rfl⟩
  ·try simp at h2
   refine hw_skip ?_
   exact ⟨n, by omega, trivial, (by repeat (first | exact keeps_refl | refine keeps_upd rfl ?_ | refine keeps_loop rfl rfl ?_)), perm_eq rfl⟩
 ·intro n2 hn2
  refine hw_reg ?_
  refine dp rfl ((by first | exact pop_fieldAddr ty67 rfl ty9 (by decide) rfl | exact pop_fieldAddr_raw ty67 rfl ty9 (by decide) rfl)) ?_
  refine dp rfl (pop_load ty9 rfl rfl rfl) ?_
  refine dp rfl (pop_load ty9 rfl rfl rfl) ?_
  refine dp rfl (pop_eqls rfl rfl) ?_
  refine dp rfl (pop_move rfl) ?_
  refine dgl rfl rfl (fun hc => ⟨_, OpenTo.refl _, eop_load (i := 0) ty3 rfl rfl (.inl ⟨rfl, rfl⟩) ⟨rfl, rfl⟩⟩) ?_
  refine dg rfl rfl (fun hc => ⟨_, OpenTo.refl _, (by first | exact pop_fieldAddr ty28 rfl ty3 (by decide) rfl | exact pop_fieldAddr_raw ty28 rfl ty3 (by decide) rfl)⟩) ?_
  refine dg rfl rfl (fun hc => ⟨_, OpenTo.upd (t := 18) rfl (by first | exact hc | simp_all) (OpenTo.refl _), pop_load ty3 rfl rfl rfl⟩) ?_
  refine dg rfl rfl (fun hc => ⟨_, OpenTo.upd (t := 19) rfl (by first | exact hc | simp_all) (OpenTo.upd (t := 17) rfl (by first | exact hc | simp_all) (OpenTo.refl _)), pop_gtr rfl rfl⟩) ?_
  refine dp rfl (pop_picko rfl (.inr ⟨_, rfl, fun h => by simp_all⟩) (.inl rfl)) ?_
  refine dp rfl (pop_assign rfl) ?_
  refine dn ?_
  refine hw_ret ?_
  exact ret_q rfl ⟨_, n2, rfl, hn2, rfl⟩

/-- slices.IndexFunc[[]benchwarmer/api.Owner,benchwarmer/api.Owner] -/
theorem c_IndexFunc_Owner_st [Tracks] {l : List OwnerS} {v : Value} {fid : FuncId} {caps : List HVal} {bn n : Nat} (hca : Callable Tryz.prog fid) (hp : ∀ (x : OwnerS) (n : Nat), n ≤ 1000000 → Con Tryz.prog fid ([eOwner x] ++ caps) [.cells bn [.int .i64 (n : Int)]] fun r M' => ∃ (y : Bool) (n' : Nat), r = .bool y ∧ n' ≤ n + 1 ∧ M' = [.cells bn [.int .i64 (n' : Int)]]) (hl : l.length ≤ 1000) (hn : n ≤ 1000) : Con Tryz.prog 79 [.raw v, .fn (.func fid) [] caps] [.arr v 2 (l.map eOwner), .cells bn [.int .i64 (n : Int)]] (fun r M' => ∃ (i : Int) (n' : Nat), r = .int .i64 i ∧ (-1 ≤ i ∧ i < l.length) ∧ n' ≤ n + l.length ∧ M' = [.arr v 2 (l.map eOwner), .cells bn [.int .i64 (n' : Int)]]) := by
 refine Con.of_body Tryz.func79 rfl Tryz.ntmps79 rfl rfl ?_
 refine hw_reg ?_
 refine dp rfl (pop_assign rfl) ?_
 refine dn ?_
 refine hw_seq ?_
 refine hw_reg ?_
 refine dp rfl (pop_move rfl) ?_
 refine de rfl (eop_lenm (i := 0) (es := l) ty32 rfl rfl ?_)
 refine dp rfl (pop_move rfl) ?_
 refine dn ?_
 refine hw_block ?_
 refine hw_loopw2 [4, 5, 8, 9, 10, 11, 12, 13, 14, 15, 16, 17, 18] (fun (k : Nat) (n2 : Nat) => [(8, .int .i64 k)]) (fun (k : Nat) (n2 : Nat) => [.arr v 2 (l.map eOwner), .cells bn [.int .i64 (n2 : Int)]]) (fun (k : Nat) (n2 : Nat) => k ≤ l.length ∧ (n2 ≤ n + k)) (fun (k : Nat) (n2 : Nat) => l.length - k) (0) (n) ?_ ?_ ?_ ?_
 ·exact ⟨Nat.zero_le _, Nat.le_refl _⟩
 ·exact ⟨rfl, trivial⟩
 ·exact perm_eq rfl
 ·intro k n2 hinv
  obtain ⟨hk, hn2⟩ := hinv
  refine hw_reg ?_
  refine dp rfl (pop_lss rfl rfl) ?_
  refine dn ?_
  refine hw_seq ?_
  refine hw_cond rfl (fun h1 => ?_) (fun h2 => ?_)
  ·try simp at h1
   obtain ⟨x, hx⟩ : ∃ x, l[k]? = some x := ⟨_, List.getElem?_eq_getElem h1⟩
   have hdx := drop_cons hx
   refine hw_skip ?_
   refine seqQ_n ?_
   refine hw_seq ?_
   refine hw_block ?_
   refine hw_reg ?_
   refine dp rfl (pop_move rfl) ?_
   refine dp rfl (pop_assign rfl) ?_
   refine dn ?_
   refine hw_arrc (i := 0) rfl (fun h0 he => ?_) (fun ob off cap hv hcap => ?_)
   ·exfalso; have := congrArg List.length he; simp at this; subst this; simp at hx
   rw [List.length_map] at hv hcap
   subst hv
   refine hw_reg ?_
   refine dp rfl (pop_move rfl) ?_
   refine dp rfl (pop_move rfl) ?_
   refine dp rfl (pop_move rfl) ?_
   refine dp rfl (pop_idxraw (j := k) ty32 ty67 rfl rfl rfl (by omega)) ?_
   refine de rfl (eop_load_elw (i := 0) (j := k) (f := eOwner) (es := l) ty67 rfl rfl rfl hx rfl rfl rfl ?_)
   refine de rfl (EOp.perm (M := [.cells bn [.int .i64 (n2 : Int)]] ++ [.arr (.slice (some ⟨ob, off, none⟩) l.length cap) 2 (l.map eOwner)]) (List.Perm.swap _ _ _) (EOp.mono ?_ ((eop_callv hca rfl rfl (WeakL.refl _) (hp _ n2 (by omega))).frame [.arr (.slice (some ⟨ob, off, none⟩) l.length cap) 2 (l.map eOwner)])))
   rintro _ _ ⟨N, rfl, y16, n16, rfl, hn16, rfl⟩
   refine dn ?_
   refine hw_cond rfl (fun h3 => ?_) (fun h4 => ?_)
   ·try simp at h3
    refine hw_reg ?_
    refine dp rfl (pop_move rfl) ?_
    refine dp rfl (pop_assign rfl) ?_
    refine dn ?_
    refine hw_ret ?_
    first
    | exact ret_g (Ghost.perm (List.Perm.swap _ _ _)) rfl ⟨(k : Int), n16, rfl, ⟨by omega, by omega⟩, by omega, rfl⟩
    | exact ret_q rfl ⟨-1, n2, rfl, ⟨by omega, by omega⟩, by omega, rfl⟩
   ·try simp at h4
    refine hw_skip ?_
    refine blockQ_n ?_
    refine seqQ_n ?_
    refine hw_reg1 ?_
    refine dp rfl (pop_add64 rfl rfl (by omega) (by omega)) ?_
    refine dp rfl (pop_move rfl) ?_
    refine dn ?_
    exact ⟨k + 1, n16, ⟨by omega, by omega⟩, by dsimp only; omega, ⟨rfl, trivial⟩, (by repeat (first | exact keeps_refl | refine keeps_upd rfl ?_ | refine keeps_loop rfl rfl ?_)), List.Perm.swap _ _ _⟩
  ·try simp at h2
   have hnk : l.length ≤ k := by omega
   obtain rfl : k = l.length := by omega
   refine hw_exit ?_
   refine seqQ_x ?_
   refine loopQ2_x ?_
   refine blockQ_eq ?_
   refine seqQ_n ?_
   refine hw_reg ?_
   refine dp rfl (pop_assign rfl) ?_
   refine dn ?_
   refine hw_ret ?_
   first
   | exact ret_g (Ghost.perm (List.Perm.swap _ _ _)) rfl ⟨(k : Int), n16, rfl, ⟨by omega, by omega⟩, by omega, rfl⟩
   | exact ret_q rfl ⟨-1, n2, rfl, ⟨by omega, by omega⟩, by omega, rfl⟩

set_option maxHeartbeats 2000000 in
/-- slices.DeleteFunc[[]benchwarmer/api.Owner,benchwarmer/api.Owner] -/
theorem c_DeleteFunc_Owner_st [Tracks] {l : List OwnerS} {v : Value} {fid : FuncId} {caps : List HVal} {bn n : Nat} (hca : Callable Tryz.prog fid) (hp : ∀ (x : OwnerS) (n : Nat), n ≤ 1000000 → Con Tryz.prog fid ([eOwner x] ++ caps) [.cells bn [.int .i64 (n : Int)]] fun r M' => ∃ (y : Bool) (n' : Nat), r = .bool y ∧ n' ≤ n + 1 ∧ M' = [.cells bn [.int .i64 (n' : Int)]]) (hl : l.length ≤ 1000) (hn : n ≤ 1000) : Con Tryz.prog 34 [.raw v, .fn (.func fid) [] caps] [.arr v 2 (l.map eOwner), .cells bn [.int .i64 (n : Int)]] (fun r M' => ∃ (u : Value) (l' : List OwnerS) (n' : Nat), r = .raw u ∧ LeftOf l l' ∧ n' ≤ n + 2 * l.length ∧ M' = [.arr u 2 (l'.map eOwner), .cells bn [.int .i64 (n' : Int)]]) := by
 refine Con.of_body Tryz.func34 rfl Tryz.ntmps34 rfl rfl ?_
 refine hw_reg ?_
 refine dp rfl (pop_assign rfl) ?_
 refine dn ?_
 refine hw_reg ?_
 refine dp rfl (pop_move rfl) ?_
 refine dp rfl (pop_move rfl) ?_
 refine de rfl (eop_callf (M1 := [.arr v 2 (l.map eOwner), .cells bn [.int .i64 (n : Int)]]) (R := []) ca79 rfl (WeakL.refl _) (List.Perm.refl _) (c_IndexFunc_Owner_st hca hp hl hn) ?_)
 rintro _ _ ⟨i10, n10, rfl, hi10, hn10, rfl⟩
 refine dp rfl (pop_assign rfl) ?_
 refine dn ?_
 refine hw_seq ?_
 refine hw_reg ?_
 refine dp rfl (pop_move rfl) ?_
 refine dp rfl (pop_eql rfl rfl) ?_
 refine dn ?_
 refine hw_cond rfl (fun h1 => ?_) (fun h2 => ?_)
 ·try simp at h1
  refine hw_reg ?_
  refine dp rfl (pop_move rfl) ?_
  refine dp rfl (pop_assign rfl) ?_
  refine dn ?_
  refine hw_ret ?_
  first
  | exact ret_q rfl ⟨_, l, n10, rfl, LeftOf.refl l, by omega, rfl⟩
  | (refine ret_q rfl ⟨_, D.take i, n2, rfl, LeftOf.take i hDl hDs, by omega, ?_⟩
     rw [List.map_take]; rfl)
 ·try simp at h2
  refine hw_skip ?_
  refine seqQ_n ?_
  refine hw_seq ?_
  obtain ⟨i0, rfl⟩ : ∃ i0 : Nat, i10 = (i0 : Int) := ⟨i10.toNat, by omega⟩
  have hl0 : 0 < l.length := by omega
  refine hw_arrc (i := 0) rfl (fun h0 he => ?_) (fun ob off cap hv hcap => ?_)
  ·exfalso; have := congrArg List.length he; simp at this; subst this; simp at hl0
  rw [List.length_map] at hv hcap
  subst hv
  refine hw_reg ?_
  refine dp rfl (pop_move rfl) ?_
  refine dp rfl (pop_add64 rfl rfl (by omega) (by omega)) ?_
  refine dp rfl (pop_assign rfl) ?_
  refine dn ?_
  refine hw_block ?_
  refine hw_loopw4 [5, 6, 7, 16, 17, 18, 19, 20, 21, 22, 23, 24, 25, 26, 27, 28, 29, 30, 31, 32, 33, 34, 35] (fun (j : Nat) (i : Nat) (D : List OwnerS) (n2 : Nat) => [(6, .int .i64 (j : Int)), (5, .int .i64 (i : Int))]) (fun (j : Nat) (i : Nat) (D : List OwnerS) (n2 : Nat) => [.arr (.slice (some ⟨ob, off, none⟩) l.length cap) 2 (D.map eOwner), .cells bn [.int .i64 (n2 : Int)]]) (fun (j : Nat) (i : Nat) (D : List OwnerS) (n2 : Nat) => (i < j ∧ j ≤ l.length) ∧ D.length = l.length ∧ (∀ x ∈ D, x ∈ l) ∧ n2 ≤ n + l.length + j) (fun (j : Nat) (i : Nat) (D : List OwnerS) (n2 : Nat) => l.length - j) (i0 + 1) (i0) (l) (n10) ?_ ?_ ?_ ?_
  ·exact ⟨⟨by omega, by omega⟩, rfl, fun _ h => h, by omega⟩
  ·exact ⟨some_int (by omega), rfl, trivial⟩
  ·exact perm_eq rfl
  ·intro j i D n2 hinv
   obtain ⟨⟨hij, hjl⟩, hDl, hDs, hn2⟩ := hinv
   refine hw_seq ?_
   refine hw_reg ?_
   refine dp rfl (pop_move rfl) ?_
   refine dp rfl (pop_move rfl) ?_
   refine de rfl (eop_lenm (i := 0) (es := D) ty32 rfl rfl ?_)
   refine dp rfl (pop_lss rfl rfl) ?_
   refine dn ?_
   refine hw_cond rfl (fun h3 => ?_) (fun h4 => ?_)
   ·try simp at h3
    obtain ⟨x, hx⟩ : ∃ x, D[j]? = some x := ⟨_, List.getElem?_eq_getElem (by omega)⟩
    refine hw_skip ?_
    refine seqQ_n ?_
    refine hw_seq ?_
    refine hw_block ?_
    refine hw_reg ?_
    refine dp rfl (pop_move rfl) ?_
    refine dp rfl (pop_move rfl) ?_
    refine dp rfl (pop_idxraw (j := j) ty32 ty67 rfl rfl rfl (by omega)) ?_
    refine de rfl (eop_load_elw (i := 0) (j := j) (f := eOwner) (es := D) ty67 rfl rfl rfl hx rfl rfl rfl ?_)
    refine de rfl (eop_alloc ty67 rfl fun b7 => ?_)
    refine de0 (eop_storew ty67 rfl rfl rfl rfl rfl ?_)
    refine dn ?_
    refine hw_ghost (Ghost.fc0 7 rfl) ?_
    refine hw_reg ?_
    refine dp rfl (pop_move rfl) ?_
    refine dp rfl (pop_loadw ty67 rfl rfl rfl rfl) ?_
    refine de rfl (EOp.perm (M := [.cells bn [.int .i64 (n2 : Int)]] ++ [.arr (.slice (some ⟨ob, off, none⟩) l.length cap) 2 (D.map eOwner)]) (List.Perm.swap _ _ _) (EOp.mono ?_ ((eop_callv hca rfl rfl (WeakL.refl _) (hp _ n2 (by omega))).frame [.arr (.slice (some ⟨ob, off, none⟩) l.length cap) 2 (D.map eOwner)])))
    rintro _ _ ⟨N, rfl, y28, n28, rfl, hn28, rfl⟩
    refine dp rfl (pop_not rfl) ?_
    refine dn ?_
    refine hw_cond rfl (fun h5 => ?_) (fun h6 => ?_)
    ·try simp at h5
     refine hw_reg ?_
     refine dp rfl (pop_move rfl) ?_
     refine dp rfl (pop_move rfl) ?_
     refine dp rfl (pop_loadw ty67 rfl rfl rfl rfl) ?_
     refine dp rfl (pop_idxraw (j := i) ty32 ty67 rfl rfl rfl (by omega)) ?_
     refine de0 (eop_store_elw (i := 1) (j := i) (y := D[i]'(by omega)) (y' := x) ty67 rfl rfl rfl rfl (List.getElem?_eq_getElem _) rfl rfl rfl ?_)
     refine dn ?_
     refine hw_reg1 ?_
     refine dp rfl (pop_move rfl) ?_
     refine dp rfl (pop_add64 rfl rfl (by omega) (by omega)) ?_
     refine dp rfl (pop_assign rfl) ?_
     refine dn ?_
     refine blockQ_n ?_
     refine seqQ_n ?_
     refine hw_reg1 ?_
     refine dp rfl (pop_move rfl) ?_
     refine dp rfl (pop_add64 rfl rfl (by omega) (by omega)) ?_
     refine dp rfl (pop_assign rfl) ?_
     refine dn ?_
     exact ⟨j + 1, i + 1, D.set i x, n28, ⟨⟨by omega, by omega⟩, by simpa using hDl, all_set (P := fun x => x ∈ l) hDs (hDs x (List.mem_of_getElem? hx)), by omega⟩, by dsimp only; omega, ⟨rfl, rfl, trivial⟩, (by repeat (first | exact keeps_refl | refine keeps_upd rfl ?_ | refine keeps_loop rfl rfl ?_)), by dsimp only; rw [List.map_set]; exact List.Perm.swap _ _ _⟩
    ·try simp at h6
     refine hw_skip ?_
     refine blockQ_n ?_
     refine seqQ_n ?_
     refine hw_reg1 ?_
     refine dp rfl (pop_move rfl) ?_
     refine dp rfl (pop_add64 rfl rfl (by omega) (by omega)) ?_
     refine dp rfl (pop_assign rfl) ?_
     refine dn ?_
     exact ⟨j + 1, i, D, n28, ⟨⟨by omega, by omega⟩, hDl, hDs, by omega⟩, by dsimp only; omega, ⟨rfl, rfl, trivial⟩, (by repeat (first | exact keeps_refl | refine keeps_upd rfl ?_ | refine keeps_loop rfl rfl ?_)), List.Perm.swap _ _ _⟩
   ·try simp at h4
    refine hw_exit ?_
    refine seqQ_x ?_
    refine loopQ4_x ?_
    refine blockQ_eq ?_
    refine seqQ_n ?_
    refine hw_reg ?_
    refine dp rfl (pop_move rfl) ?_
    refine dp rfl (pop_move rfl) ?_
    refine dp rfl (pop_slraw (l := i) ty32 ty67 rfl ⟨_, _, rfl, rfl⟩ rfl (by omega) (by omega) hcap) ?_
    refine de0 (eop_clear_at (i := 0) (m := i) i ty32 ty67 rfl rfl rfl (slOff_or (by omega) hcap) rfl (by omega) (Nat.le_refl _) (by rw [List.length_map, hDl]; omega) ?_)
    refine dn ?_
    refine hw_reg ?_
    refine dp rfl (pop_move rfl) ?_
    refine dp rfl (pop_move rfl) ?_
    refine dp rfl (pop_slraw0 (h := i) ty32 ty67 rfl ⟨_, _, rfl, rfl⟩ (by omega)) ?_
    refine dp rfl (pop_assign rfl) ?_
    refine dn ?_
    refine hw_ret ?_
    first
    | exact ret_q rfl ⟨_, l, n10, rfl, LeftOf.refl l, by omega, rfl⟩
    | (refine ret_q rfl ⟨_, D.take i, n2, rfl, LeftOf.take i hDl hDs, by omega, ?_⟩
       rw [List.map_take]; rfl)

/-- benchwarmer/benchmake.Key -/
theorem c_benchmake_Key [Tracks] {s : Str} (hs : s.length ≤ 1000000) : ConP Tryz.prog 36 [.str s] (.bool (key s)) := by
 refine Con.of_body Tryz.func36 rfl Tryz.ntmps36 rfl rfl ?_
 refine hw_reg ?_
 refine dp rfl (pop_assign rfl) ?_
 refine dn ?_
 refine hw_reg ?_
 refine dp rfl (pop_move rfl) ?_
 refine dp rfl (pop_call ca37 rfl (WeakL.refl _) (c_benchref1_Key (by first | assumption | omega | (simp; omega) | simp_all))) ?_
 refine dp rfl (pop_assign rfl) ?_
 refine dn ?_
 refine hw_ret ?_
 refine ret_p rfl ?_
 rfl

set_option maxHeartbeats 4000000 in
/-- (*benchwarmer/benchmake.Stream).OwnerList -/
theorem c_benchmake_Stream_OwnerList [Tracks] {b : Nat} {l : List Int} {a : Nat} {m : MarketS} (ha : a ≤ 700000) (hm : GoodM m) : Con Tryz.prog 7 [pAt b, eMarket m] [St b l a] (fun x M' => ∃ k a', x = eOwners k ∧ GoodOw k ∧ a' ≤ a + 40 ∧ M' = [St b l a']) := by
 have hm0 := hm.pos
 have hm5 := hm.len
 refine Con.of_body Tryz.func7 rfl Tryz.ntmps7 rfl rfl ?_
 refine hw_reg ?_
 refine dp rfl (pop_box rfl rfl) ?_
 refine dp rfl (pop_assign rfl) ?_
 refine dn ?_
 refine hw_reg ?_
 refine dp rfl (pop_assign rfl) ?_
 refine dn ?_
 refine hw_seq ?_
 refine hw_reg ?_
 refine dp rfl (pop_move rfl) ?_
 first
 | refine de rfl (eop_callx (i := 0) ca23 rfl (WeakL.refl _) rfl (c_benchmake_Stream_Range (by first | assumption | omega | (simp; omega) | simp_all) (by first | assumption | omega | (simp; omega) | simp_all) (by first | assumption | omega | (simp; omega) | simp_all) (by first | assumption | omega | (simp; omega) | simp_all)) ?_)
 | refine de rfl (eop_callx (i := 1) ca23 rfl (WeakL.refl _) rfl (c_benchmake_Stream_Range (by first | assumption | omega | (simp; omega) | simp_all) (by first | assumption | omega | (simp; omega) | simp_all) (by first | assumption | omega | (simp; omega) | simp_all) (by first | assumption | omega | (simp; omega) | simp_all)) ?_)
 | refine de rfl (eop_callx (i := 2) ca23 rfl (WeakL.refl _) rfl (c_benchmake_Stream_Range (by first | assumption | omega | (simp; omega) | simp_all) (by first | assumption | omega | (simp; omega) | simp_all) (by first | assumption | omega | (simp; omega) | simp_all) (by first | assumption | omega | (simp; omega) | simp_all)) ?_)
 | refine de rfl (eop_callx (i := 3) ca23 rfl (WeakL.refl _) rfl (c_benchmake_Stream_Range (by first | assumption | omega | (simp; omega) | simp_all) (by first | assumption | omega | (simp; omega) | simp_all) (by first | assumption | omega | (simp; omega) | simp_all) (by first | assumption | omega | (simp; omega) | simp_all)) ?_)
 rintro _ _ ⟨y12, rfl, hy12, rfl⟩
 refine dp rfl (pop_move rfl) ?_
 refine dn ?_
 refine hw_ghost (Ghost.perm (M' := [St b l (a + 1)]) (List.Perm.refl _)) ?_
 refine hw_ghost (Ghost.arr_nil 2) ?_
 refine hw_block ?_
 refine hw_loopw2 [5, 6, 13, 14, 15, 16, 17, 18, 19, 20, 21, 22, 23, 24, 25, 26, 27] (fun (k : Nat) (q : GL OwnerS) => [(13, .int .i64 (k : Int)), (5, .raw q.u)]) (fun (k : Nat) (q : GL OwnerS) => [St b l q.a, .arr q.u 2 (q.out.map eOwner)]) (fun (k : Nat) (q : GL OwnerS) => (k : Int) ≤ y12 ∧ GLok GoodOw1 k (a + 1 + k) q) (fun (k : Nat) (q : GL OwnerS) => y12.toNat - k) (0) (⟨.slice none 0 0, [], a + 1⟩) ?_ ?_ ?_ ?_
 ·exact ⟨by omega, ⟨by simp, by simp, by dsimp only; omega⟩⟩
 ·exact ⟨rfl, rfl, trivial⟩
 ·repeat (first | exact List.Perm.nil | refine permTo 0 rfl ?_ | refine permTo 1 rfl ?_ | refine permTo 2 rfl ?_ | refine permTo 3 rfl ?_ | (refine permToE 0 rfl ?hq ?_; (case hq => simp [setL, hcells]; done)) | (refine permToE 1 rfl ?hq ?_; (case hq => simp [setL, hcells]; done)) | (refine permToE 2 rfl ?hq ?_; (case hq => simp [setL, hcells]; done)) | (refine permToE 3 rfl ?hq ?_; (case hq => simp [setL, hcells]; done)) | fail)
 ·intro k q hinv
  obtain ⟨hk, hq⟩ := hinv
  obtain ⟨u, out, a1⟩ := q
  obtain ⟨g1, g2, g3⟩ := id hq
  dsimp only at g1 g2 g3
  refine hw_reg ?_
  refine dp rfl (pop_lss rfl rfl) ?_
  refine dn ?_
  refine hw_seq ?_
  refine hw_cond rfl (fun h1 => ?_) (fun h2 => ?_)
  ·try simp at h1
   refine hw_skip ?_
   refine seqQ_n ?_
   refine hw_seq ?_
   refine hw_block ?_
   refine hw_reg ?_
   refine dp rfl (pop_move rfl) ?_
   refine dp rfl (pop_assign rfl) ?_
   refine dn ?_
   refine hw_draw1 (fun _ => True) [] mixed ?_
   refine ahp 0 rfl rfl (by kernel_rfl) (by kernel_rfl) (pop_move rfl) ?_
   refine ahp 1 rfl rfl (by kernel_rfl) (by kernel_rfl) (pop_move rfl) ?_
   refine ahp 2 rfl rfl (by kernel_rfl) (by kernel_rfl) (pop_call ca29 rfl (WeakL.refl _) (c_strconv_Itoa (i := k) (by omega))) ?_
   have hdl := dec_len (i := k) (by omega)
   refine ahp 3 rfl rfl (by kernel_rfl) (by kernel_rfl) (pop_adds rfl rfl (by simp; omega)) ?_
   refine ahp 4 rfl rfl (by kernel_rfl) (by kernel_rfl) (pop_move rfl) ?_
   refine ahp 5 rfl rfl (by kernel_rfl) (by kernel_rfl) ((by first | exact pop_fieldAddr ty28 rfl ty26 (by decide) rfl | exact pop_fieldAddr_raw ty28 rfl ty26 (by decide) rfl)) ?_
   refine ahp 6 rfl rfl (by kernel_rfl) (by kernel_rfl) (pop_load ty26 rfl rfl rfl) ?_
   refine ahe 7 rfl (by kernel_rfl) ?_
   first
   | refine hop_e rfl (eop_callx (i := 0) ca27 rfl (WeakL.refl _) rfl (c_benchmake_Stream_Some (by first | assumption | omega | (simp; omega) | simp_all) (by first | assumption | omega | (simp; omega) | simp_all) (by first | assumption | omega | (simp; omega) | simp_all)) ?_)
   | refine hop_e rfl (eop_callx (i := 1) ca27 rfl (WeakL.refl _) rfl (c_benchmake_Stream_Some (by first | assumption | omega | (simp; omega) | simp_all) (by first | assumption | omega | (simp; omega) | simp_all) (by first | assumption | omega | (simp; omega) | simp_all)) ?_)
   | refine hop_e rfl (eop_callx (i := 2) ca27 rfl (WeakL.refl _) rfl (c_benchmake_Stream_Some (by first | assumption | omega | (simp; omega) | simp_all) (by first | assumption | omega | (simp; omega) | simp_all) (by first | assumption | omega | (simp; omega) | simp_all)) ?_)
   | refine hop_e rfl (eop_callx (i := 3) ca27 rfl (WeakL.refl _) rfl (c_benchmake_Stream_Some (by first | assumption | omega | (simp; omega) | simp_all) (by first | assumption | omega | (simp; omega) | simp_all) (by first | assumption | omega | (simp; omega) | simp_all)) ?_)
   rintro _ _ ⟨y23, rfl, hy23, rfl⟩
   refine ⟨fun _ => .inl trivial, ?_⟩
   refine ahp 8 rfl rfl (by kernel_rfl) (by kernel_rfl) (pop_build (cs := [_, _]) ty67 pl67 rfl) ?_
   refine ahp 9 rfl rfl (by kernel_rfl) (by kernel_rfl) (pop_buildSlice (hs := [_]) ty32 ty67 rfl rfl (by decide) (by decide) rfl) ?_
   refine ahe 10 rfl (by kernel_rfl) ?_
   first
   | refine hop_e rfl (eop_append (i := 0) ty32 ty67 rfl rfl rfl rfl rfl (by simp [flat, hcells]) (by first | omega | (simp; omega)) fun v26 => ?_)
   | refine hop_e rfl (eop_append (i := 1) ty32 ty67 rfl rfl rfl rfl rfl (by simp [flat, hcells]) (by first | omega | (simp; omega)) fun v26 => ?_)
   | refine hop_e rfl (eop_append (i := 2) ty32 ty67 rfl rfl rfl rfl rfl (by simp [flat, hcells]) (by first | omega | (simp; omega)) fun v26 => ?_)
   | refine hop_e rfl (eop_append (i := 3) ty32 ty67 rfl rfl rfl rfl rfl (by simp [flat, hcells]) (by first | omega | (simp; omega)) fun v26 => ?_)
   refine ⟨fun _ => .inl trivial, ?_⟩
   refine ahp 11 rfl rfl (by kernel_rfl) (by kernel_rfl) (pop_assign rfl) ?_
   refine ahz (by kernel_rfl) ?_
   refine blockQ_n ?_
   refine seqQ_n ?_
   refine hw_reg1 ?_
   refine dp rfl (pop_add64 rfl rfl (by omega) (by omega)) ?_
   refine dp rfl (pop_move rfl) ?_
   refine dn ?_
   exact ⟨k + 1, ⟨v26, out ++ [⟨112 :: Lib.decDigits k, y23⟩], a1 + 1⟩, ⟨by omega, hq.add (x := (⟨112 :: Lib.decDigits k, y23⟩ : OwnerS)) ⟨sh_of (n := 11) (by simp; omega) (by decide), sh_of (hm.sh y23 hy23) (by decide)⟩ (by omega)⟩, by dsimp only; omega, ⟨rfl, rfl, trivial⟩, (by repeat (first | exact keeps_refl | refine keeps_upd rfl ?_ | refine keeps_loop rfl rfl ?_)), by repeat (first | exact List.Perm.nil | refine permTo 0 rfl ?_ | refine permTo 1 rfl ?_ | refine permTo 2 rfl ?_ | refine permTo 3 rfl ?_ | (refine permToE 0 rfl ?hq ?_; (case hq => simp [setL, hcells]; done)) | (refine permToE 1 rfl ?hq ?_; (case hq => simp [setL, hcells]; done)) | (refine permToE 2 rfl ?hq ?_; (case hq => simp [setL, hcells]; done)) | (refine permToE 3 rfl ?hq ?_; (case hq => simp [setL, hcells]; done)) | fail)⟩
  ·try simp at h2
   refine hw_exit ?_
   refine seqQ_x ?_
   refine loopQ2_x ?_
   refine blockQ_eq ?_
   refine seqQ_n ?_
   refine hw_seq ?_
   refine hw_reg ?_
   refine dp rfl ((by first | exact pop_fieldAddr ty28 rfl ty26 (by decide) rfl | exact pop_fieldAddr_raw ty28 rfl ty26 (by decide) rfl)) ?_
   refine dp rfl (pop_load ty26 rfl rfl rfl) ?_
   refine dp rfl (pop_lenm ty26 rfl) ?_
   refine dp rfl (pop_move rfl) ?_
   refine dn ?_
   refine hw_block ?_
   refine hw_loopw3 [5, 8, 9, 31, 32, 33, 34, 35, 36, 37, 38, 39, 40, 41, 42, 43, 44, 45, 46, 47, 48, 49, 50, 51, 52, 53, 54, 55, 56] (fun (k : Nat) (u : Value) (out : List OwnerS) => [(31, .int .i64 k), (5, .raw u)]) (fun (k : Nat) (u : Value) (out : List OwnerS) => [St b l a1, .arr u 2 (out.map eOwner)]) (fun (k : Nat) (u : Value) (out : List OwnerS) => k ≤ m.Teams.length ∧ (out.length ≤ 8 + k ∧ (∀ x ∈ out, GoodOw1 x))) (fun (k : Nat) (u : Value) (out : List OwnerS) => m.Teams.length - k) (0) (u) (out) ?_ ?_ ?_ ?_
   ·exact ⟨Nat.zero_le _, by omega, g2⟩
   ·exact ⟨rfl, rfl, trivial⟩
   ·repeat (first | exact List.Perm.nil | refine permTo 0 rfl ?_ | refine permTo 1 rfl ?_ | refine permTo 2 rfl ?_ | refine permTo 3 rfl ?_ | (refine permToE 0 rfl ?hq ?_; (case hq => simp [setL, hcells]; done)) | (refine permToE 1 rfl ?hq ?_; (case hq => simp [setL, hcells]; done)) | (refine permToE 2 rfl ?hq ?_; (case hq => simp [setL, hcells]; done)) | (refine permToE 3 rfl ?hq ?_; (case hq => simp [setL, hcells]; done)) | fail)
   ·intro k u out hinv
    obtain ⟨hk, g1, g2⟩ := hinv
    refine hw_reg ?_
    refine dp rfl (pop_lss rfl rfl) ?_
    refine dn ?_
    refine hw_seq ?_
    refine hw_cond rfl (fun h3 => ?_) (fun h4 => ?_)
    ·try simp at h3
     obtain ⟨x, hx⟩ : ∃ x, m.Teams[k]? = some x := ⟨_, List.getElem?_eq_getElem h3⟩
     have hdx := drop_cons hx
     refine hw_skip ?_
     refine seqQ_n ?_
     refine hw_seq ?_
     refine hw_block ?_
     refine hw_reg ?_
     refine dp rfl (pop_idx ty26 ty9 rfl rfl rfl (by first | assumption | simp_all)) ?_
     refine dp rfl (pop_load ty9 rfl rfl rfl) ?_
     refine de rfl (eop_alloc ty9 rfl fun b8 => ?_)
     refine de0 (eop_storew ty9 rfl rfl rfl rfl rfl ?_)
     refine dn ?_
     refine hw_ghost (Ghost.fc0 8 rfl) ?_
     refine hw_reg ?_
     refine de rfl (eop_alloc ty3 rfl fun b9 => ?_)
     first
     | refine de0 (eop_store (i := 0) ty3 rfl rfl rfl rfl rfl (Nat.le_of_ble_eq_true rfl) ?_)
     | refine de0 (eop_store (i := 1) ty3 rfl rfl rfl rfl rfl (Nat.le_of_ble_eq_true rfl) ?_)
     | refine de0 (eop_store (i := 2) ty3 rfl rfl rfl rfl rfl (Nat.le_of_ble_eq_true rfl) ?_)
     | refine de0 (eop_store (i := 3) ty3 rfl rfl rfl rfl rfl (Nat.le_of_ble_eq_true rfl) ?_)
     refine dn ?_
     refine hw_reg ?_
     refine dp rfl (pop_move rfl) ?_
     refine dp rfl (pop_makeFunc rfl rfl) ?_
     refine de rfl (eop_callf (M1 := [.arr u 2 (out.map eOwner), .cells b9 [.int .i64 ((0 : Nat) : Int)]]) (R := [St b l a1]) ca34 rfl (WeakL.refl _) (by repeat (first | exact List.Perm.nil | refine permTo 0 rfl ?_ | refine permTo 1 rfl ?_ | refine permTo 2 rfl ?_ | refine permTo 3 rfl ?_ | (refine permToE 0 rfl ?hq ?_; (case hq => simp [setL, hcells]; done)) | (refine permToE 1 rfl ?hq ?_; (case hq => simp [setL, hcells]; done)) | (refine permToE 2 rfl ?hq ?_; (case hq => simp [setL, hcells]; done)) | (refine permToE 3 rfl ?hq ?_; (case hq => simp [setL, hcells]; done)) | fail)) (c_DeleteFunc_Owner_st (l := out) (n := 0) (caps := [.vptr [.str x] 0, pAt b9, .vptr (hcells (eMarket m)) 0]) ca35 (fun x n hn => c_benchmake_Stream_OwnerList_1 hn) (by omega) (by omega)) ?_)
     rintro _ _ ⟨u37, out2, n2, rfl, hlo, hn2, rfl⟩
     have hol := hlo.len
     refine dp rfl (pop_assign rfl) ?_
     refine dn ?_
     refine hw_ghost (Ghost.fc 9 (i := 1) rfl rfl) ?_
     refine hw_reg ?_
     refine dp rfl (pop_load ty3 rfl rfl rfl) ?_
     refine dp rfl (pop_eql rfl rfl) ?_
     refine dp rfl (pop_move rfl) ?_
     refine dg rfl rfl (fun hc => ⟨_, OpenTo.refl _, (by first | exact pop_fieldAddr ty28 rfl ty3 (by decide) rfl | exact pop_fieldAddr_raw ty28 rfl ty3 (by decide) rfl)⟩) ?_
     refine dg rfl rfl (fun hc => ⟨_, OpenTo.upd (t := 41) rfl (by first | exact hc | simp_all) (OpenTo.refl _), pop_load ty3 rfl rfl rfl⟩) ?_
     refine dg rfl rfl (fun hc => ⟨_, OpenTo.upd (t := 42) rfl (by first | exact hc | simp_all) (OpenTo.refl _), pop_eql rfl rfl⟩) ?_
     refine dp rfl (pop_picko rfl (.inr ⟨_, rfl, fun h => by simp_all⟩) (.inl rfl)) ?_
     refine dp rfl (pop_move rfl) ?_
     refine dg rfl rfl (fun hc => ⟨_, OpenTo.refl _, pop_load ty9 rfl rfl rfl⟩) ?_
     refine dg rfl rfl (fun hc => by have hq := hc; (try simp at hq); exact ⟨_, OpenTo.upd (t := 46) rfl (by first | exact hc | simp_all) (OpenTo.refl _), pop_call ca36 rfl (WeakL.refl _) (c_benchmake_Key (s := x) (by have := hm.sh x (List.mem_of_getElem? hx); omega))⟩) ?_
     refine dp rfl (pop_picko rfl (.inr ⟨_, rfl, fun h => by simp_all⟩) (.inl rfl)) ?_
     refine dn ?_
     refine hw_cond rfl (fun h5 => ?_) (fun h6 => ?_)
     ·try simp at h5
      refine hw_reg1 ?_
      refine dp rfl (pop_move rfl) ?_
      refine dp rfl (pop_load ty9 rfl rfl rfl) ?_
      have hxl := hm.sh x (List.mem_of_getElem? hx)
      refine dp rfl (pop_adds rfl rfl (by simp; omega)) ?_
      refine dp rfl (pop_load ty9 rfl rfl rfl) ?_
      refine dp rfl (pop_build (cs := [_, _]) ty67 pl67 rfl) ?_
      refine dp rfl (pop_buildSlice (hs := [_]) ty32 ty67 rfl rfl (by decide) (by decide) rfl) ?_
      first
      | refine de rfl (eop_append (i := 0) ty32 ty67 rfl rfl rfl rfl rfl (by simp [flat, hcells]) (by first | omega | (simp; omega)) fun v55 => ?_)
      | refine de rfl (eop_append (i := 1) ty32 ty67 rfl rfl rfl rfl rfl (by simp [flat, hcells]) (by first | omega | (simp; omega)) fun v55 => ?_)
      | refine de rfl (eop_append (i := 2) ty32 ty67 rfl rfl rfl rfl rfl (by simp [flat, hcells]) (by first | omega | (simp; omega)) fun v55 => ?_)
      | refine de rfl (eop_append (i := 3) ty32 ty67 rfl rfl rfl rfl rfl (by simp [flat, hcells]) (by first | omega | (simp; omega)) fun v55 => ?_)
      refine dp rfl (pop_assign rfl) ?_
      refine dn ?_
      refine blockQ_n ?_
      refine seqQ_n ?_
      refine hw_reg1 ?_
      refine dp rfl (pop_add64 rfl rfl (by omega) (by omega)) ?_
      refine dp rfl (pop_move rfl) ?_
      refine dn ?_
      exact ⟨k + 1, v55, out2 ++ [⟨113 :: x, x⟩], ⟨by omega, by simp; have := hlo.len; omega, fun z hz => by
       rcases List.mem_append.1 hz with hz | hz
       ·exact g2 z (hlo.sub z hz)
       ·rw [List.mem_singleton.1 hz]; exact ⟨sh_of (s := 113 :: x) (n := 11) (by simp; omega) (by decide), sh_of hxl (by decide)⟩⟩, by dsimp only; omega, ⟨rfl, rfl, trivial⟩, (by repeat (first | exact keeps_refl | refine keeps_upd rfl ?_ | refine keeps_loop rfl rfl ?_)), by repeat (first | exact List.Perm.nil | refine permTo 0 rfl ?_ | refine permTo 1 rfl ?_ | refine permTo 2 rfl ?_ | refine permTo 3 rfl ?_ | (refine permToE 0 rfl ?hq ?_; (case hq => simp [setL, hcells]; done)) | (refine permToE 1 rfl ?hq ?_; (case hq => simp [setL, hcells]; done)) | (refine permToE 2 rfl ?hq ?_; (case hq => simp [setL, hcells]; done)) | (refine permToE 3 rfl ?hq ?_; (case hq => simp [setL, hcells]; done)) | fail)⟩
     ·try simp at h6
      refine hw_skip ?_
      refine blockQ_n ?_
      refine seqQ_n ?_
      refine hw_reg1 ?_
      refine dp rfl (pop_add64 rfl rfl (by omega) (by omega)) ?_
      refine dp rfl (pop_move rfl) ?_
      refine dn ?_
      exact ⟨k + 1, u37, out2, ⟨by omega, by have := hlo.len; omega, fun z hz => g2 z (hlo.sub z hz)⟩, by dsimp only; omega, ⟨rfl, rfl, trivial⟩, (by repeat (first | exact keeps_refl | refine keeps_upd rfl ?_ | refine keeps_loop rfl rfl ?_)), by repeat (first | exact List.Perm.nil | refine permTo 0 rfl ?_ | refine permTo 1 rfl ?_ | refine permTo 2 rfl ?_ | refine permTo 3 rfl ?_ | (refine permToE 0 rfl ?hq ?_; (case hq => simp [setL, hcells]; done)) | (refine permToE 1 rfl ?hq ?_; (case hq => simp [setL, hcells]; done)) | (refine permToE 2 rfl ?hq ?_; (case hq => simp [setL, hcells]; done)) | (refine permToE 3 rfl ?hq ?_; (case hq => simp [setL, hcells]; done)) | fail)⟩
    ·try simp at h4
     have hnk : m.Teams.length ≤ k := by omega
     obtain rfl : k = m.Teams.length := by omega
     refine hw_exit ?_
     refine seqQ_x ?_
     refine loopQ3_x ?_
     refine blockQ_eq ?_
     refine seqQ_n ?_
     refine hw_join [10, 57, 58, 59, 60, 61, 62, 63, 64, 65, 66, 67, 68, 69, 70, 71, 72, 73, 74, 75, 76, 77, 78, 79, 80, 81, 82, 83, 84, 85, 86, 87, 88, 89] (fun (q : List OwnerS × Nat) => []) (fun (q : List OwnerS × Nat) => [St b l q.2, .arr u 2 (q.1.map eOwner)]) (fun (q : List OwnerS × Nat) => q.1.length ≤ 13 ∧ (∀ x ∈ q.1, GoodOw1 x) ∧ q.2 ≤ a + 40) ?_ ?_
     ·skip
      refine hw_reg ?_
      refine dp rfl (pop_move rfl) ?_
      first
      | refine de rfl (eop_lenm (i := 0) ty32 rfl rfl ?_)
      | refine de rfl (eop_lenm (i := 1) ty32 rfl rfl ?_)
      | refine de rfl (eop_lenm (i := 2) ty32 rfl rfl ?_)
      | refine de rfl (eop_lenm (i := 3) ty32 rfl rfl ?_)
      refine dp rfl (pop_gtr rfl rfl) ?_
      refine dp rfl (pop_move rfl) ?_
      refine dg rfl rfl (fun hc => ⟨_, OpenTo.refl _, pop_move rfl⟩) ?_
      refine dgx (fun x M' => ∃ (y : Bool) (a3 : Nat), x = .bool y ∧ a3 ≤ a1 + 1 ∧ M' = [St b l a3, .arr u 2 (out.map eOwner)]) rfl rfl (fun hc => ⟨_, false, a1, rfl, by omega, rfl⟩) (fun hc => ⟨_, OpenTo.upd (t := 61) rfl (by first | exact hc | simp_all) (OpenTo.refl _), eop_callx (i := 0) ca25 rfl (WeakL.refl _) rfl (c_benchmake_Stream_Flip (a := a1) (by omega) (by omega)) (fun h M' hh => by
       obtain ⟨y, h1, h2⟩ := hh
       exact ⟨y, a1 + 1, h1, by omega, by rw [h2]; rfl⟩)⟩) ?_
      rintro _ _ ⟨y, a3, rfl, ha3, rfl⟩
      refine dp rfl (pop_picko rfl (.inr ⟨_, rfl, fun h => by simp_all⟩) (.inl rfl)) ?_
      refine dn ?_
      refine hw_cond rfl (fun h7 => ?_) (fun h8 => ?_)
      ·try simp at h7
       have ho0 : 0 < out.length := by simp_all
       refine hw_arrc (i := 1) rfl (fun h0 he => ?_) (fun ob off cap hv hcap => ?_)
       ·exfalso; have := congrArg List.length he; simp at this; subst this; simp at ho0
       subst hv
       refine hw_reg ?_
       refine dp rfl (pop_move rfl) ?_
       refine dp rfl (pop_move rfl) ?_
       refine dp rfl (pop_move rfl) ?_
       first
       | refine de rfl (eop_lenm (i := 0) ty32 rfl rfl ?_)
       | refine de rfl (eop_lenm (i := 1) ty32 rfl rfl ?_)
       | refine de rfl (eop_lenm (i := 2) ty32 rfl rfl ?_)
       | refine de rfl (eop_lenm (i := 3) ty32 rfl rfl ?_)
       first
       | refine de rfl (eop_callx (i := 0) ca33 rfl (WeakL.refl _) rfl (c_benchmake_Stream_Next (by first | assumption | omega | (simp; omega) | simp_all) (by first | assumption | omega | (simp; omega) | simp_all)) ?_)
       | refine de rfl (eop_callx (i := 1) ca33 rfl (WeakL.refl _) rfl (c_benchmake_Stream_Next (by first | assumption | omega | (simp; omega) | simp_all) (by first | assumption | omega | (simp; omega) | simp_all)) ?_)
       | refine de rfl (eop_callx (i := 2) ca33 rfl (WeakL.refl _) rfl (c_benchmake_Stream_Next (by first | assumption | omega | (simp; omega) | simp_all) (by first | assumption | omega | (simp; omega) | simp_all)) ?_)
       | refine de rfl (eop_callx (i := 3) ca33 rfl (WeakL.refl _) rfl (c_benchmake_Stream_Next (by first | assumption | omega | (simp; omega) | simp_all) (by first | assumption | omega | (simp; omega) | simp_all)) ?_)
       rintro _ _ ⟨y68, rfl, hy68, rfl⟩
       refine dp rfl (pop_idxraw (j := y68) ty32 ty67 rfl rfl rfl (by simp; omega)) ?_
       refine dp rfl (pop_assign rfl) ?_
       refine dn ?_
       obtain ⟨x, hx⟩ : ∃ x, out[y68]? = some x := ⟨_, List.getElem?_eq_getElem (by omega)⟩
       refine hw_draw1 (fun M => ∃ i : Nat, M[i]? = some (.arr (.slice (some ⟨ob, off, none⟩) (out.map eOwner).length cap) 2 (out.map eOwner))) [6, 13] mixed ?_
       refine ahp 0 rfl rfl (by kernel_rfl) (by kernel_rfl) (pop_move rfl) ?_
       refine ahp 1 rfl rfl (by kernel_rfl) (by kernel_rfl) (pop_move rfl) ?_
       refine ahp 2 rfl rfl (by kernel_rfl) (by kernel_rfl) (pop_move rfl) ?_
       refine ahp 3 rfl rfl (by kernel_rfl) (by kernel_rfl) (pop_move rfl) ?_
       refine ahp 4 rfl rfl (by kernel_rfl) (by kernel_rfl) ((by first | exact pop_nilCheck rfl | exact pop_nilCheck_raw rfl)) ?_
       refine ahp 5 rfl rfl (by kernel_rfl) (by kernel_rfl) ((by first | exact pop_fieldAddr ty67 rfl ty9 (by decide) rfl | exact pop_fieldAddr_raw ty67 rfl ty9 (by decide) rfl)) ?_
       refine ahl 6 rfl rfl (by kernel_rfl) (by kernel_rfl) (by simp) ⟨1, rfl⟩ (fun M hM => by obtain ⟨i, hi⟩ := hM; exact eop_load_el (i := i) (j := y68) 0 ty9 rfl (by omega) hi hx rfl rfl ⟨rfl, rfl⟩) ?_
       refine ahp 7 rfl rfl (by kernel_rfl) (by kernel_rfl) (pop_buildSlice (hs := [_, _, _]) ty26 ty9 rfl rfl (by decide) (by decide) rfl) ?_
       refine ahp 9 rfl rfl (by kernel_rfl) (by kernel_rfl) (pop_move rfl) ?_
       refine ahp 10 rfl rfl (by kernel_rfl) (by kernel_rfl) (pop_move rfl) ?_
       refine ahp 11 rfl rfl (by kernel_rfl) (by kernel_rfl) ((by first | exact pop_nilCheck rfl | exact pop_nilCheck_raw rfl)) ?_
       refine ahp 12 rfl rfl (by kernel_rfl) (by kernel_rfl) ((by first | exact pop_fieldAddr ty67 rfl ty9 (by decide) rfl | exact pop_fieldAddr_raw ty67 rfl ty9 (by decide) rfl)) ?_
       refine ahl 13 rfl rfl (by kernel_rfl) (by kernel_rfl) (by simp) ⟨1, rfl⟩ (fun M hM => by obtain ⟨i, hi⟩ := hM; exact eop_load_el (i := i) (j := y68) 1 ty9 rfl (by omega) hi hx rfl rfl ⟨rfl, rfl⟩) ?_
       refine ahp 14 rfl rfl (by kernel_rfl) (by kernel_rfl) (pop_buildSlice (hs := [_, _]) ty26 ty9 rfl rfl (by decide) (by decide) rfl) ?_
       refine ahe 8 rfl (by kernel_rfl) ?_
       first
       | refine hop_e rfl (eop_callx (i := 0) ca27 rfl (WeakL.refl _) rfl (c_benchmake_Stream_Some (L := [_, _, _]) (by first | assumption | omega | (simp; omega) | simp_all) (by first | assumption | omega | (simp; omega) | simp_all) (by first | assumption | omega | (simp; omega) | simp_all)) ?_)
       | refine hop_e rfl (eop_callx (i := 1) ca27 rfl (WeakL.refl _) rfl (c_benchmake_Stream_Some (L := [_, _, _]) (by first | assumption | omega | (simp; omega) | simp_all) (by first | assumption | omega | (simp; omega) | simp_all) (by first | assumption | omega | (simp; omega) | simp_all)) ?_)
       | refine hop_e rfl (eop_callx (i := 2) ca27 rfl (WeakL.refl _) rfl (c_benchmake_Stream_Some (L := [_, _, _]) (by first | assumption | omega | (simp; omega) | simp_all) (by first | assumption | omega | (simp; omega) | simp_all) (by first | assumption | omega | (simp; omega) | simp_all)) ?_)
       | refine hop_e rfl (eop_callx (i := 3) ca27 rfl (WeakL.refl _) rfl (c_benchmake_Stream_Some (L := [_, _, _]) (by first | assumption | omega | (simp; omega) | simp_all) (by first | assumption | omega | (simp; omega) | simp_all) (by first | assumption | omega | (simp; omega) | simp_all)) ?_)
       rintro _ _ ⟨y78, rfl, hy78, rfl⟩
       refine ⟨fun _ => by first | exact .inl ⟨0, rfl⟩ | exact .inl ⟨1, rfl⟩ | exact .inl ⟨2, rfl⟩ | exact .inr (by simp [Before, Region.binds]), ?_⟩
       refine ahe 15 rfl (by kernel_rfl) ?_
       first
       | refine hop_e rfl (eop_callx (i := 0) ca27 rfl (WeakL.refl _) rfl (c_benchmake_Stream_Some (L := [_, _]) (by first | assumption | omega | (simp; omega) | simp_all) (by first | assumption | omega | (simp; omega) | simp_all) (by first | assumption | omega | (simp; omega) | simp_all)) ?_)
       | refine hop_e rfl (eop_callx (i := 1) ca27 rfl (WeakL.refl _) rfl (c_benchmake_Stream_Some (L := [_, _]) (by first | assumption | omega | (simp; omega) | simp_all) (by first | assumption | omega | (simp; omega) | simp_all) (by first | assumption | omega | (simp; omega) | simp_all)) ?_)
       | refine hop_e rfl (eop_callx (i := 2) ca27 rfl (WeakL.refl _) rfl (c_benchmake_Stream_Some (L := [_, _]) (by first | assumption | omega | (simp; omega) | simp_all) (by first | assumption | omega | (simp; omega) | simp_all) (by first | assumption | omega | (simp; omega) | simp_all)) ?_)
       | refine hop_e rfl (eop_callx (i := 3) ca27 rfl (WeakL.refl _) rfl (c_benchmake_Stream_Some (L := [_, _]) (by first | assumption | omega | (simp; omega) | simp_all) (by first | assumption | omega | (simp; omega) | simp_all) (by first | assumption | omega | (simp; omega) | simp_all)) ?_)
       rintro _ _ ⟨y85, rfl, hy85, rfl⟩
       refine ⟨fun _ => by first | exact .inl ⟨0, rfl⟩ | exact .inl ⟨1, rfl⟩ | exact .inl ⟨2, rfl⟩ | exact .inr (by simp [Before, Region.binds]), ?_⟩
       refine ahp 16 rfl rfl (by kernel_rfl) (by kernel_rfl) ((by first | exact pop_nilCheck rfl | exact pop_nilCheck_raw rfl)) ?_
       refine ahp 17 rfl rfl (by kernel_rfl) (by kernel_rfl) ((by first | exact pop_fieldAddr ty67 rfl ty9 (by decide) rfl | exact pop_fieldAddr_raw ty67 rfl ty9 (by decide) rfl)) ?_
       refine ahe 18 rfl (by kernel_rfl) ?_
       refine hop_e0 (eop_store_arr (i := 1) (j := y68) (f := 0) (y := eOwner x) (y' := eOwner ⟨y78, x.Team⟩) ty9 rfl (by omega) rfl rfl (map_get hx) rfl rfl (by simp [hcells]) rfl ?_)
       refine ⟨fun _ => .inr (by simp [Before, Region.binds]), ?_⟩
       refine ahp 19 rfl rfl (by kernel_rfl) (by kernel_rfl) ((by first | exact pop_nilCheck rfl | exact pop_nilCheck_raw rfl)) ?_
       refine ahp 20 rfl rfl (by kernel_rfl) (by kernel_rfl) ((by first | exact pop_fieldAddr ty67 rfl ty9 (by decide) rfl | exact pop_fieldAddr_raw ty67 rfl ty9 (by decide) rfl)) ?_
       refine ahe 21 rfl (by kernel_rfl) ?_
       refine hop_e0 (eop_store_arr (i := 1) (j := y68) (f := 1) (y := eOwner ⟨y78, x.Team⟩) (y' := eOwner ⟨y78, y85⟩) ty9 rfl (by omega) rfl rfl (set_self (map_get hx)) rfl rfl (by simp [hcells]) rfl ?_)
       refine ⟨fun _ => .inr (by simp [Before, Region.binds]), ?_⟩
       refine ahz (by kernel_rfl) ?_
       exact ⟨(out.set y68 ⟨y78, y85⟩, a3 + 3), ⟨by simp; omega, all_set (P := GoodOw1) g2 ⟨by simp at hy78; rcases hy78 with rfl | rfl | rfl; exact (g2 x (List.mem_of_getElem? hx)).1; exact nil_sh; (unfold Sh; simp), by simp at hy85; rcases hy85 with rfl | rfl; exact (g2 x (List.mem_of_getElem? hx)).2; (unfold Sh; simp)⟩, by dsimp only; omega⟩, trivial, (by repeat (first | exact keeps_refl | refine keeps_upd rfl ?_ | refine keeps_loop rfl rfl ?_)), by repeat (first | exact List.Perm.nil | refine permTo 0 rfl ?_ | refine permTo 1 rfl ?_ | refine permTo 2 rfl ?_ | refine permTo 3 rfl ?_ | (refine permToE 0 rfl ?hq ?_; (case hq => simp [setL, hcells]; done)) | (refine permToE 1 rfl ?hq ?_; (case hq => simp [setL, hcells]; done)) | (refine permToE 2 rfl ?hq ?_; (case hq => simp [setL, hcells]; done)) | (refine permToE 3 rfl ?hq ?_; (case hq => simp [setL, hcells]; done)) | fail)⟩
      ·try simp at h8
       refine hw_skip ?_
       exact ⟨(out, a3), ⟨by dsimp only; omega, g2, by dsimp only; omega⟩, trivial, (by repeat (first | exact keeps_refl | refine keeps_upd rfl ?_ | refine keeps_loop rfl rfl ?_)), by repeat (first | exact List.Perm.nil | refine permTo 0 rfl ?_ | refine permTo 1 rfl ?_ | refine permTo 2 rfl ?_ | refine permTo 3 rfl ?_ | (refine permToE 0 rfl ?hq ?_; (case hq => simp [setL, hcells]; done)) | (refine permToE 1 rfl ?hq ?_; (case hq => simp [setL, hcells]; done)) | (refine permToE 2 rfl ?hq ?_; (case hq => simp [setL, hcells]; done)) | (refine permToE 3 rfl ?hq ?_; (case hq => simp [setL, hcells]; done)) | fail)⟩
     ·intro q hq3
      obtain ⟨k1, a4⟩ := q
      dsimp only at hq3
      obtain ⟨q1, q2, q3⟩ := hq3
      refine hw_reg ?_
      refine dp rfl (pop_move rfl) ?_
      refine dp rfl (pop_assign rfl) ?_
      refine dn ?_
      refine hw_ret ?_
      refine ret_g (Ghost.fa 4 (i := 1) rfl rfl) rfl ⟨k1, a4, rfl, ⟨q1, q2⟩, by omega, rfl⟩
end Go.Proofs.YtdjpppifnmjhoaaGreatDoor
end
section
namespace Go.HL
abbrev DlV := DealS × Value
abbrev rDl (p : DlV) : HVal := .agg [.str p.1.Id, .str p.1.By, .int .i64 p.1.From, .int .i64 p.1.To, .raw p.2]
abbrev sDl (p : DlV) : MObj := .arr p.2 3 (p.1.Gives.map eGive)
def GoodDV (p : DlV) : Prop := GoodDl1 p.1 ∧ 0 < p.1.Gives.length
theorem dl_norm [Tracks] {P : Program} {s m0 m1 m3 : MObj} {T : List MObj} (J : Imm) (F : List MObj) (w : World) (hs : Sat P J ((s :: m0 :: m1 :: m3 :: T) ++ F) w) : Sat P J ((s :: m3 :: (T ++ [m0])) ++ F) w := by
 have h1 : Sat P J (m1 :: (s :: m0 :: m3 :: T) ++ F) w := hs.perm (((List.perm_middle (l₁ := [s, m0]) (a := m1) (l₂ := m3 :: T))).append_right F)
 have h2 : Sat P J ((s :: m0 :: m3 :: T) ++ F) w := h1.drop
 have hp : (s :: m0 :: m3 :: T).Perm (s :: m3 :: (T ++ [m0])) := by
  refine List.Perm.cons _ ((List.Perm.swap m3 m0 T).trans (List.Perm.cons _ ?_))
  exact (List.perm_append_comm (l₁ := [m0]) (l₂ := T))
 exact h2.perm (hp.append_right F)
/-- What an offer that gives nothing leaves behind is let go. -/
theorem Ghost.drop12 [Tracks] {e : Env} {s : MObj} {v : Value} {es cs : List HVal} {b : Nat} {T : List MObj} : Ghost e (s :: .arr v 3 es :: .cells b cs :: T) e (s :: T) :=
 (Ghost.perm (List.perm_middle (l₁ := [s]) (a := .arr v 3 es) (l₂ := .cells b cs :: T))).trans (Ghost.drop.trans ((Ghost.perm (List.Perm.swap _ _ _)).trans Ghost.drop))
theorem perm_set_erase {α : Type} {l : List α} {j : Nat} {y : α} (hj : j < l.length) : (l.set j y).Perm (y :: l.eraseIdx j) := by
 rw [List.set_eq_take_append_cons_drop, if_pos hj, List.eraseIdx_eq_take_drop_succ]
 exact List.perm_middle
theorem dl_back {s m : MObj} {out : List DlV} {j : Nat} {n : DlV} (hj : j < out.length) : (sDl n :: s :: m :: (out.map sDl).eraseIdx j).Perm (s :: m :: (out.set j n).map sDl) := by
 have h : ((out.set j n).map sDl).Perm (sDl n :: (out.map sDl).eraseIdx j) := by
  rw [List.map_set]; exact perm_set_erase (by simpa using hj)
 refine List.Perm.trans ?_ ((List.Perm.cons s (List.Perm.cons m h.symm)))
 exact (List.perm_middle (l₁ := [s, m]) (a := sDl n) (l₂ := (out.map sDl).eraseIdx j)).symm
theorem rDl_same {out : List DlV} {j : Nat} {x n : DlV} (hx : out[j]? = some x) (h : rDl n = rDl x) : (out.set j n).map rDl = out.map rDl := by
 rw [List.map_set, h]
 refine List.ext_getElem? fun i => ?_
 by_cases hj : i = j
 ·subst hj
  have hlt := lt_of_get hx
  rw [List.getElem?_set_self (by simpa using hlt), List.getElem?_map, hx]; rfl
 ·rw [List.getElem?_set_ne (Ne.symm hj)]
theorem sDl_same {out : List DlV} {j : Nat} {x n : DlV} (hx : out[j]? = some x) (h : sDl n = sDl x) : (out.set j n).map sDl = out.map sDl := by
 rw [List.map_set, h]
 refine List.ext_getElem? fun i => ?_
 by_cases hj : i = j
 ·subst hj
  have hlt := lt_of_get hx
  rw [List.getElem?_set_self (by simpa using hlt), List.getElem?_map, hx]; rfl
 ·rw [List.getElem?_set_ne (Ne.symm hj)]
theorem mem_isortG {l : List GiveS} {x : GiveS} : x ∈ isort byGiv l → x ∈ l := fun h => (isort_perm (c := byGiv) l).mem_iff.1 h
end Go.HL
end
section
namespace Go.HL
section
variable {κ : Type} [DecidableEq κ] {β : Type}
end
section
variable {P : Program} {e : Env} {κ : Type} [DecidableEq κ] {β : Type} {eb : β → HVal}
theorem EOp.post_ghost [Tracks] {M : List MObj} {K : HVal → List MObj → Prop} {o : Oper} (h : EOp P e M o fun x N => ∃ N', (∀ J F w, Sat P J (N ++ F) w → Sat P J (N' ++ F) w) ∧ K x N') : EOp P e M o K := fun I F a w ho hs =>
 Oper.wp_noQ (fun _ _ ⟨v, x, M', J, h1, h2, ⟨N', h3, h4⟩, h5, h6⟩ => ⟨v, x, N', J, h1, h2, h4, h5, h3 J F _ h6⟩) (h I F a w ho hs)
end
end Go.HL
end
section
namespace Go.Proofs.YtdjpppifnmjhoaaGreatDoor
open Go.HL
set_option maxRecDepth 100000
set_option linter.unusedVariables false
set_option linter.unusedSimpArgs false
/-- math/bits.Len64 -/
theorem c_bits_Len64_s [Tracks] {x : Nat} (hx : x < 16) : Con Tryz.prog 127 [.int .u64 (x : Int)] [] (fun y M' => ∃ n : Int, y = .int .i64 n ∧ M' = []) := by
 refine Con.of_body Tryz.func127 rfl Tryz.ntmps127 rfl rfl ?_
 refine hw_reg ?_
 refine dp rfl (pop_assign rfl) ?_
 refine dn ?_
 refine hw_seq ?_
 refine hw_reg ?_
 refine dp rfl (pop_move rfl) ?_
 refine dp rfl (pop_geq rfl rfl) ?_
 refine dn ?_
 refine hw_cond rfl (fun h1 => ?_) (fun h1 => ?_)
 ·exfalso
  try simp at h1
  omega
 ·try simp at h1
  refine hw_skip ?_
  refine seqQ_n ?_
  refine hw_seq ?_
  refine hw_reg ?_
  refine dp rfl (pop_move rfl) ?_
  refine dp rfl (pop_geq rfl rfl) ?_
  refine dn ?_
  refine hw_cond rfl (fun h2 => ?_) (fun h2 => ?_)
  ·exfalso
   try simp at h2
   omega
  ·try simp at h2
   refine hw_skip ?_
   refine seqQ_n ?_
   refine hw_seq ?_
   refine hw_reg ?_
   refine dp rfl (pop_move rfl) ?_
   refine dp rfl (pop_geq rfl rfl) ?_
   refine dn ?_
   refine hw_cond rfl (fun h3 => ?_) (fun h3 => ?_)
   ·exfalso
    try simp at h3
    omega
   ·try simp at h3
    refine hw_skip ?_
    refine seqQ_n ?_
    refine hw_reg ?_
    refine dp rfl (pop_move rfl) ?_
    refine dp rfl (pop_move rfl) ?_
    refine dp rfl (pop_conv ty187 ty5 rfl) ?_
    refine dp rfl (pop_indexs (j := x) ty9 rfl rfl (wrap8 hx) (List.getElem?_eq_getElem (Nat.lt_of_lt_of_le hx (Nat.le_of_ble_eq_true (by kernel_rfl))))) ?_
    refine dp rfl (pop_conv ty5 ty3 rfl) ?_
    refine dp rfl (pop_add rfl rfl) ?_
    refine dp rfl (pop_assign rfl) ?_
    refine dn ?_
    refine hw_ret ?_
    exact ret_q rfl ⟨_, rfl, rfl⟩

/-- math/bits.Len -/
theorem c_bits_Len_s [Tracks] {x : Nat} (hx : x < 16) : Con Tryz.prog 76 [.int .u64 (x : Int)] [] (fun y M' => ∃ n : Int, y = .int .i64 n ∧ M' = []) := by
 refine Con.of_body Tryz.func76 rfl Tryz.ntmps76 rfl rfl ?_
 refine hw_reg ?_
 refine dp rfl (pop_assign rfl) ?_
 refine dn ?_
 refine hw_seq ?_
 refine hw_cond_f rfl ?_
 refine hw_skip ?_
 refine seqQ_n ?_
 refine hw_reg ?_
 refine dp rfl (pop_move rfl) ?_
 refine de rfl (eop_callf (M1 := []) (R := []) ca127 rfl (WeakL.refl _) (List.Perm.refl _) (c_bits_Len64_s hx) ?_)
 rintro _ _ ⟨n7, rfl, rfl⟩
 refine dp rfl (pop_assign rfl) ?_
 refine dn ?_
 refine hw_ret ?_
 exact ret_q rfl ⟨_, rfl, rfl⟩

set_option maxHeartbeats 1000000 in
/-- slices.insertionSortCmpFunc[benchwarmer/api.Give] -/
theorem c_slices_insertionSortCmpFunc_api_Give [Tracks] {l : List GiveS} {v : Value} {fid : FuncId} {caps : List HVal} {c : GiveS → GiveS → Int} {n : Int} (hca : Callable Tryz.prog fid) (hp : ∀ x y, ConP Tryz.prog fid ([eGive x, eGive y] ++ caps) (.int .i64 (c x y))) (hn : n = l.length) (hl : l.length ≤ 1000000) : Con Tryz.prog 118 [.raw v, .int .i64 0, .int .i64 n, .fn (.func fid) [] caps] [.arr v 3 (l.map eGive)] (fun x M' => x = .tup [] ∧ M' = [.arr v 3 ((isort c l).map eGive)]) := by
 subst hn
 refine Con.of_body Tryz.func118 rfl Tryz.ntmps118 rfl rfl ?_
 refine hw_reg ?_
 refine dp rfl (pop_move rfl) ?_
 refine dp rfl (pop_add64 rfl rfl (by omega) (by omega)) ?_
 refine dp rfl (pop_assign rfl) ?_
 refine dn ?_
 refine hw_block ?_
 refine hw_loopw [8, 9, 12, 13, 14, 15, 16, 17, 18, 19, 20, 21, 22, 23, 24, 25, 26, 27, 28, 29, 30, 31, 32, 33, 34, 35, 36, 37, 38, 39, 40, 41, 42, 43, 44, 45, 46, 47, 48, 49, 50, 51, 52] (fun (k : Nat) => [(8, .int .i64 (k : Int))]) (fun (k : Nat) => [.arr v 3 ((isort c (l.take k) ++ l.drop k).map eGive)]) (fun (k : Nat) => 1 ≤ k) (fun (k : Nat) => l.length - k) (1) ?_ ?_ ?_ ?_
 ·exact Nat.le_refl _
 ·exact ⟨rfl, trivial⟩
 ·exact perm_eq (by rw [isort_take1])
 ·intro k hk
  refine hw_seq ?_
  refine hw_reg ?_
  refine dp rfl (pop_move rfl) ?_
  refine dp rfl (pop_move rfl) ?_
  refine dp rfl (pop_lss rfl rfl) ?_
  refine dn ?_
  refine hw_cond rfl (fun h1 => ?_) (fun h2 => ?_)
  ·try simp at h1
   obtain ⟨x, hx⟩ : ∃ x, l[k]? = some x := ⟨_, List.getElem?_eq_getElem (by omega)⟩
   refine hw_arrc (i := 0) rfl (fun h0 he => ?_) (fun b off cap hv hcap => ?_)
   ·exfalso; have := congrArg List.length he; simp [isort_len] at this; omega
   rw [show ((isort c (l.take k) ++ l.drop k).map eGive).length = l.length by simp [isort_len]; omega] at hv
   subst hv
   refine hw_skip ?_
   refine seqQ_n ?_
   refine hw_seq ?_
   refine hw_block ?_
   refine hw_reg ?_
   refine dp rfl (pop_move rfl) ?_
   refine dp rfl (pop_assign rfl) ?_
   refine dn ?_
   refine hw_block ?_
   refine hw_loopw2 [9, 18, 19, 20, 21, 22, 23, 24, 25, 26, 27, 28, 29, 30, 31, 32, 33, 34, 35, 36, 37, 38, 39, 40, 41, 42, 43, 44, 45, 46, 47, 48, 49, 50, 51, 52] (fun (A : List GiveS) (B : List GiveS) => [(9, .int .i64 (A.length : Int))]) (fun (A : List GiveS) (B : List GiveS) => [.arr (.slice (some ⟨b, off, none⟩) l.length cap) 3 ((A ++ x :: (B ++ l.drop (k + 1))).map eGive)]) (fun (A : List GiveS) (B : List GiveS) => A.length + B.length = k ∧ insB c x (isort c (l.take k)) = insB c x A ++ B) (fun (A : List GiveS) (B : List GiveS) => A.length) (isort c (l.take k)) ([]) ?_ ?_ ?_ ?_
   ·exact ⟨by simp [isort_len]; omega, by simp⟩
   ·exact ⟨some_int (by simp [isort_len]; omega), trivial⟩
   ·exact perm_eq (by rw [drop_cons hx]; rfl)
   ·intro A B hinv
    obtain ⟨hA, hB⟩ := hinv
    have hlA : A.length < l.length := by omega
    have hll : ((A ++ x :: (B ++ l.drop (k + 1)))).length = l.length := by simp; omega
    refine hw_seq ?_
    refine hw_draw (fun M => M = [.arr (.slice (some ⟨b, off, none⟩) l.length cap) 3 ((A ++ x :: (B ++ l.drop (k + 1))).map eGive)]) [8, 13] mixed ?_
    refine ahp 0 rfl rfl (by kernel_rfl) (by kernel_rfl) (pop_move rfl) ?_
    refine ahp 1 rfl rfl (by kernel_rfl) (by kernel_rfl) (pop_move rfl) ?_
    refine ahp 2 rfl rfl (by kernel_rfl) (by kernel_rfl) (pop_gtr rfl rfl) ?_
    refine ahp 3 rfl rfl (by kernel_rfl) (by kernel_rfl) (pop_move rfl) ?_
    refine ahg 4 rfl rfl (by kernel_rfl) (by kernel_rfl) rfl (fun hc => ⟨_, OpenTo.refl _, pop_move rfl⟩) ?_
    refine ahg 5 rfl rfl (by kernel_rfl) (by kernel_rfl) rfl (fun hc => ⟨_, OpenTo.refl _, pop_move rfl⟩) ?_
    refine ahg 6 rfl rfl (by kernel_rfl) (by kernel_rfl) rfl (fun hc => ⟨_, OpenTo.refl _, pop_move rfl⟩) ?_
    refine ahg 7 rfl rfl (by kernel_rfl) (by kernel_rfl) rfl (fun hc => by
     have hq : 0 < A.length := by simpa using hc
     exact ⟨_, OpenTo.upd (t := 24) rfl (by first | exact hc | simp_all) (OpenTo.upd (t := 23) rfl (by first | exact hc | simp_all) (OpenTo.refl _)), pop_idxraw (j := A.length) ty45 ty69 rfl rfl (by rfl) (by omega)⟩) ?_
    refine ahgl 8 rfl rfl (by kernel_rfl) (by kernel_rfl) (by simp) rfl rfl (fun hc => ⟨_, OpenTo.upd (t := 25) rfl (by first | exact hc | simp_all) (OpenTo.refl _), fun M hM => by
     subst hM; exact eop_load_elw (i := 0) (j := A.length) ty69 rfl rfl rfl get_mid rfl rfl rfl ⟨rfl, rfl⟩
     ⟩) ?_
    refine ahg 9 rfl rfl (by kernel_rfl) (by kernel_rfl) rfl (fun hc => ⟨_, OpenTo.refl _, pop_move rfl⟩) ?_
    refine ahg 10 rfl rfl (by kernel_rfl) (by kernel_rfl) rfl (fun hc => ⟨_, OpenTo.refl _, pop_move rfl⟩) ?_
    refine ahg 11 rfl rfl (by kernel_rfl) (by kernel_rfl) rfl (fun hc => by
     have hq : 0 < A.length := by simpa using hc
     exact ⟨_, OpenTo.upd (t := 28) rfl (by first | exact hc | simp_all) (OpenTo.refl _), pop_sub64 rfl rfl (by omega) (by omega)⟩) ?_
    refine ahg 12 rfl rfl (by kernel_rfl) (by kernel_rfl) rfl (fun hc => by
     have hq : 0 < A.length := by simpa using hc
     exact ⟨_, OpenTo.upd (t := 29) rfl (by first | exact hc | simp_all) (OpenTo.upd (t := 27) rfl (by first | exact hc | simp_all) (OpenTo.refl _)), pop_idxraw (j := A.length - 1) ty45 ty69 rfl rfl (by omega) (by omega)⟩) ?_
    refine ahgl 13 rfl rfl (by kernel_rfl) (by kernel_rfl) (by simp) rfl rfl (fun hc => ⟨_, OpenTo.upd (t := 30) rfl (by first | exact hc | simp_all) (OpenTo.refl _), fun M hM => by
     have hq : 0 < A.length := by simpa using hc
     subst hM; exact eop_load_elw (i := 0) (j := A.length - 1) ty69 rfl rfl rfl (get_before hq) rfl rfl rfl ⟨rfl, rfl⟩
     ⟩) ?_
    refine ahg 14 rfl rfl (by kernel_rfl) (by kernel_rfl) rfl (fun hc => ⟨_, OpenTo.upd (t := 31) rfl (by first | exact hc | simp_all) (OpenTo.upd (t := 26) rfl (by first | exact hc | simp_all) (OpenTo.upd (t := 22) rfl (by first | exact hc | simp_all) (OpenTo.refl _))), pop_callv hca rfl rfl (WeakL.refl _) (hp _ _)⟩) ?_
    refine ahg 15 rfl rfl (by kernel_rfl) (by kernel_rfl) rfl (fun hc => ⟨_, OpenTo.upd (t := 32) rfl (by first | exact hc | simp_all) (OpenTo.refl _), pop_lss rfl rfl⟩) ?_
    refine ahp 16 rfl rfl (by kernel_rfl) (by kernel_rfl) (pop_picko rfl (.inr ⟨_, rfl, fun h => by simp_all⟩) (.inl rfl)) ?_
    refine ahz (by kernel_rfl) ?_
    refine hw_cond rfl (fun h3 => ?_) (fun h4 => ?_)
    ·try simp at h3
     obtain ⟨hA0, hcx⟩ := h3
     obtain ⟨A1, y, rfl⟩ := snoc_of hA0
     rw [getD_snoc] at hcx
     refine hw_skip ?_
     refine seqQ_n ?_
     refine hw_seq ?_
     refine hw_block ?_
     refine hw_draw1 (fun M => M = [.arr (.slice (some ⟨b, off, none⟩) l.length cap) 3 (((A1 ++ [y]) ++ x :: (B ++ l.drop (k + 1))).map eGive)]) [9, 13] mixed ?_
     refine ahp 0 rfl rfl (by kernel_rfl) (by kernel_rfl) (pop_move rfl) ?_
     refine ahp 1 rfl rfl (by kernel_rfl) (by kernel_rfl) (pop_move rfl) ?_
     refine ahp 2 rfl rfl (by kernel_rfl) (by kernel_rfl) (pop_move rfl) ?_
     refine ahp 3 rfl rfl (by kernel_rfl) (by kernel_rfl) (pop_move rfl) ?_
     refine ahp 4 rfl rfl (by kernel_rfl) (by kernel_rfl) (pop_sub64 rfl rfl (by omega) (by omega)) ?_
     refine ahp 5 rfl rfl (by kernel_rfl) (by kernel_rfl) (pop_move rfl) ?_
     refine ahp 6 rfl rfl (by kernel_rfl) (by kernel_rfl) (pop_move rfl) ?_
     refine ahp 7 rfl rfl (by kernel_rfl) (by kernel_rfl) (pop_sub64 rfl rfl (by omega) (by omega)) ?_
     refine ahp 8 rfl rfl (by kernel_rfl) (by kernel_rfl) (pop_idxraw (j := (A1 ++ [y]).length - 1) ty45 ty69 rfl rfl (by omega) (by omega)) ?_
     refine ahl 9 rfl rfl (by kernel_rfl) (by kernel_rfl) (by simp) rfl (fun M hM => by subst hM; exact eop_load_elw (i := 0) (j := (A1 ++ [y]).length - 1) ty69 rfl rfl rfl ((get_before hA0).trans (by rw [getD_snoc])) rfl rfl rfl ⟨rfl, rfl⟩) ?_
     refine ahp 10 rfl rfl (by kernel_rfl) (by kernel_rfl) (pop_move rfl) ?_
     refine ahp 11 rfl rfl (by kernel_rfl) (by kernel_rfl) (pop_move rfl) ?_
     refine ahp 12 rfl rfl (by kernel_rfl) (by kernel_rfl) (pop_idxraw (j := (A1 ++ [y]).length) ty45 ty69 rfl rfl rfl (by omega)) ?_
     refine ahl 13 rfl rfl (by kernel_rfl) (by kernel_rfl) (by simp) rfl (fun M hM => by subst hM; exact eop_load_elw (i := 0) (j := (A1 ++ [y]).length) ty69 rfl rfl rfl get_mid rfl rfl rfl ⟨rfl, rfl⟩) ?_
     refine ahp 14 rfl rfl (by kernel_rfl) (by kernel_rfl) (pop_idxraw (j := (A1 ++ [y]).length) ty45 ty69 rfl rfl rfl (by omega)) ?_
     refine ahe 15 rfl (by kernel_rfl) ?_
     refine hop_e0 (eop_store_elw (i := 0) (j := (A1 ++ [y]).length) (y := x) (y' := y) ty69 rfl rfl rfl rfl get_mid rfl rfl rfl ?_)
     refine ⟨fun _ => .inr (by simp [Before, Region.binds]), ?_⟩
     refine ahp 16 rfl rfl (by kernel_rfl) (by kernel_rfl) (pop_idxraw (j := (A1 ++ [y]).length - 1) ty45 ty69 rfl rfl (by omega) (by omega)) ?_
     refine ahe 17 rfl (by kernel_rfl) ?_
     refine hop_e0 (eop_store_elw (i := 0) (j := (A1 ++ [y]).length - 1) (y := y) (y' := x) ty69 rfl rfl rfl rfl (by rw [List.getElem?_set_ne (by simp)]; exact (get_before hA0).trans (by rw [getD_snoc])) rfl rfl rfl ?_)
     refine ⟨fun _ => .inr (by simp [Before, Region.binds]), ?_⟩
     refine ahz (by kernel_rfl) ?_
     refine blockQ_n ?_
     refine seqQ_n ?_
     refine hw_reg1 ?_
     refine dp rfl (pop_move rfl) ?_
     refine dp rfl (pop_sub64 rfl rfl (by omega) (by omega)) ?_
     refine dp rfl (pop_assign rfl) ?_
     refine dn ?_
     exact ⟨A1, y :: B, ⟨by simp at hA ⊢; omega, ins_step hB hcx⟩, by dsimp only; simp, ⟨some_int (by simp), trivial⟩, (by repeat (first | exact keeps_refl | refine keeps_upd rfl ?_ | refine keeps_loop rfl rfl ?_)), perm_eq (by rw [swap_mid]; rfl)⟩
    ·try simp at h4
     have hins := ins_exit (l := l) (k := k) hx hB (by intro h0; have := h4 h0; omega)
     refine hw_exit ?_
     refine seqQ_x ?_
     refine loopQ2_x ?_
     refine blockQ_eq ?_
     refine blockQ_n ?_
     refine seqQ_n ?_
     refine hw_reg1 ?_
     refine dp rfl (pop_move rfl) ?_
     refine dp rfl (pop_add64 rfl rfl (by omega) (by omega)) ?_
     refine dp rfl (pop_assign rfl) ?_
     refine dn ?_
     refine ⟨k + 1, ?_, ?_, ⟨rfl, trivial⟩, (by repeat (first | exact keeps_refl | refine keeps_upd rfl ?_ | refine keeps_loop rfl rfl ?_)), perm_eq (by rw [hins])⟩
     ·omega
     ·dsimp only; omega
  ·try simp at h2
   have hend : isort c (l.take k) ++ l.drop k = isort c l := by rw [List.take_of_length_le (by omega), drop_all (by omega)]; simp
   refine hw_exit ?_
   refine seqQ_x ?_
   refine loopQ_x ?_
   refine blockQ_eq ?_
   exact ⟨_, _, Ghost.sub (Sub.refl _), _, _, rfl, Weak.refl _, rfl, by rw [hend]⟩

/-- slices.pdqsortCmpFunc[benchwarmer/api.Give] -/
theorem c_slices_pdqsortCmpFunc_api_Give [Tracks] {l : List GiveS} {v : Value} {fid : FuncId} {caps : List HVal} {c : GiveS → GiveS → Int} {lim : Int} (hca : Callable Tryz.prog fid) (hp : ∀ x y, ConP Tryz.prog fid ([eGive x, eGive y] ++ caps) (.int .i64 (c x y))) (hl : l.length ≤ 12) : Con Tryz.prog 75 [.raw v, .int .i64 0, .int .i64 (l.length : Int), .int .i64 lim, .fn (.func fid) [] caps] [.arr v 3 (l.map eGive)] (fun x M' => x = .tup [] ∧ M' = [.arr v 3 ((isort c l).map eGive)]) := by
 refine Con.of_body Tryz.func75 rfl Tryz.ntmps75 rfl rfl ?_
 refine hw_reg ?_
 refine dp rfl (pop_assign rfl) ?_
 refine dn ?_
 refine hw_reg ?_
 refine dp rfl (pop_assign rfl) ?_
 refine dn ?_
 refine hw_block ?_
 refine hw_loopw (1 :: 2 :: 3 :: 10 :: 11 :: 12 :: 13 :: 14 :: 15 :: 16 :: 17 :: 18 :: 19 :: 20 :: 21 :: 22 :: 23 :: 24 :: 25 :: 26 :: 27 :: 28 :: 29 :: 30 :: 31 :: 32 :: 33 :: 34 :: 35 :: 36 :: 37 :: 38 :: 39 :: 40 :: 41 :: 42 :: 43 :: 44 :: 45 :: 46 :: 47 :: 48 :: 49 :: 50 :: 51 :: 52 :: 53 :: 54 :: 55 :: 56 :: 57 :: 58 :: 59 :: 60 :: 61 :: 62 :: 63 :: 64 :: 65 :: 66 :: 67 :: 68 :: 69 :: 70 :: 71 :: 72 :: 73 :: 74 :: 75 :: 76 :: 77 :: 78 :: 79 :: 80 :: 81 :: 82 :: 83 :: 84 :: 85 :: 86 :: 87 :: 88 :: 89 :: 90 :: 91 :: 92 :: 93 :: 94 :: 95 :: 96 :: 97 :: 98 :: 99 :: 100 :: 101 :: 102 :: 103 :: 104 :: 105 :: 106 :: 107 :: 108 :: 109 :: 110 :: 111 :: 112 :: 113 :: 114 :: 115 :: 116 :: 117 :: 118 :: 119 :: 120 :: 121 :: 122 :: 123 :: 124 :: 125 :: 126 :: 127 :: 128 :: 129 :: 130 :: 131 :: 132 :: 133 :: 134 :: 135 :: 136 :: 137 :: 138 :: 139 :: 140 :: 141 :: 142 :: 143 :: 144 :: 145 :: 146 :: 147 :: []) (fun (u : Unit) => [(1, .int .i64 0), (2, .int .i64 (l.length : Int))]) (fun (u : Unit) => [.arr v 3 (l.map eGive)]) (fun (u : Unit) => True) (fun (u : Unit) => 0) (()) ?_ ?_ ?_ ?_
 ·trivial
 ·exact ⟨rfl, rfl, trivial⟩
 ·exact List.Perm.refl _
 ·intro u hu
  refine hw_block ?_
  refine hw_reg ?_
  refine dp rfl (pop_move rfl) ?_
  refine dp rfl (pop_move rfl) ?_
  refine dp rfl (pop_sub64 rfl rfl (by omega) (by omega)) ?_
  refine dp rfl (pop_assign rfl) ?_
  refine dn ?_
  refine hw_seq ?_
  refine hw_reg ?_
  refine dp rfl (pop_move rfl) ?_
  refine dp rfl (pop_leq rfl rfl) ?_
  refine dn ?_
  refine hw_cond rfl (fun h1 => ?_) (fun h1 => ?_)
  ·try simp at h1
   refine hw_reg ?_
   refine dp rfl (pop_move rfl) ?_
   refine dp rfl (pop_move rfl) ?_
   refine dp rfl (pop_move rfl) ?_
   refine dp rfl (pop_move rfl) ?_
   refine de rfl (eop_callx (i := 0) ca118 rfl (WeakL.refl _) rfl (c_slices_insertionSortCmpFunc_api_Give (l := l) hca hp (by omega) (by omega)) ?_)
   rintro _ _ ⟨rfl, rfl⟩
   refine dn ?_
   refine hw_ret ?_
   exact ret_q rfl ⟨rfl, rfl⟩
  ·exfalso
   try simp at h1
   omega

/-- slices.SortFunc[[]benchwarmer/api.Give,benchwarmer/api.Give] -/
theorem c_slices_SortFunc_api_Give_api_Give [Tracks] {l : List GiveS} {v : Value} {fid : FuncId} {caps : List HVal} {c : GiveS → GiveS → Int} (hca : Callable Tryz.prog fid) (hp : ∀ x y, ConP Tryz.prog fid ([eGive x, eGive y] ++ caps) (.int .i64 (c x y))) (hl : l.length ≤ 12) : Con Tryz.prog 30 [.raw v, .fn (.func fid) [] caps] [.arr v 3 (l.map eGive)] (fun x M' => x = .tup [] ∧ M' = [.arr v 3 ((isort c l).map eGive)]) := by
 refine Con.of_body Tryz.func30 rfl Tryz.ntmps30 rfl rfl ?_
 refine hw_reg ?_
 refine dp rfl (pop_move rfl) ?_
 first
 | refine de rfl (eop_lenm (i := 0) ty45 rfl rfl ?_)
 | refine de rfl (eop_lenm (i := 1) ty45 rfl rfl ?_)
 | refine de rfl (eop_lenm (i := 2) ty45 rfl rfl ?_)
 | refine de rfl (eop_lenm (i := 3) ty45 rfl rfl ?_)
 refine dp rfl (pop_assign rfl) ?_
 refine dn ?_
 refine hw_reg1 ?_
 refine dp rfl (pop_move rfl) ?_
 refine dp rfl (pop_move rfl) ?_
 refine dp rfl (pop_move rfl) ?_
 refine dp rfl (pop_eq (pop_conv ty3 ty139 rfl) (congrArg _ (wrapu64 (by omega)))) ?_
 refine de rfl (eop_callf (M1 := []) (R := [_]) ca76 rfl (WeakL.refl _) (List.Perm.refl _) (c_bits_Len_s (x := l.length) (by omega)) ?_)
 rintro _ _ ⟨n11, rfl, rfl⟩
 refine dp rfl (pop_move rfl) ?_
 first
 | refine de rfl (eop_callx (i := 0) ca75 rfl (WeakL.refl _) rfl (c_slices_pdqsortCmpFunc_api_Give hca hp hl) ?_)
 | refine de rfl (eop_callx (i := 1) ca75 rfl (WeakL.refl _) rfl (c_slices_pdqsortCmpFunc_api_Give hca hp hl) ?_)
 | refine de rfl (eop_callx (i := 2) ca75 rfl (WeakL.refl _) rfl (c_slices_pdqsortCmpFunc_api_Give hca hp hl) ?_)
 | refine de rfl (eop_callx (i := 3) ca75 rfl (WeakL.refl _) rfl (c_slices_pdqsortCmpFunc_api_Give hca hp hl) ?_)
 rintro _ _ ⟨rfl, rfl⟩
 refine dn ?_
 exact ⟨_, _, Ghost.sub (Sub.refl _), _, _, rfl, Weak.refl _, rfl, rfl⟩

/-- (*benchwarmer/benchmake.Stream).OfferList$1 -/
theorem c_benchmake_Stream_OfferList_1 [Tracks] {x y : GiveS}  : ConP Tryz.prog 31 [eGive x, eGive y] (.int .i64 (byGiv x y)) := by
 refine Con.of_body Tryz.func31 rfl Tryz.ntmps31 rfl rfl ?_
 refine hw_reg ?_
 refine dp rfl (pop_box rfl rfl) ?_
 refine dp rfl (pop_box rfl rfl) ?_
 refine dp rfl (pop_assign rfl) ?_
 refine dn ?_
 refine hw_reg ?_
 refine dp rfl (pop_fieldAddr ty69 rfl ty9 (by decide) rfl) ?_
 refine dp rfl (pop_load ty9 rfl rfl rfl) ?_
 refine dp rfl (pop_fieldAddr ty69 rfl ty9 (by decide) rfl) ?_
 refine dp rfl (pop_load ty9 rfl rfl rfl) ?_
 refine dp rfl (pop_call ca32 rfl (WeakL.refl _) c_strings_Compare) ?_
 refine dp rfl (pop_assign rfl) ?_
 refine dn ?_
 refine hw_ret ?_
 refine ret_p rfl ?_
 rfl

set_option maxHeartbeats 8000000 in
/-- (*benchwarmer/benchmake.Stream).OfferList -/
theorem c_benchmake_Stream_OfferList [Tracks] {b : Nat} {l : List Int} {a : Nat} {m : MarketS} {o : List OwnerS} (ha : a ≤ 700000) (hm : GoodM m) (ho : GoodOw o) : Con Tryz.prog 6 [pAt b, eMarket m, eOwners o] [St b l a] (fun x M' => ∃ k a', x = eDeals k ∧ GoodDl k ∧ (o = [] → k = []) ∧ a' ≤ a + 400 ∧ M' = [St b l a']) := by
 have hm0 := hm.pos
 have hm5 := hm.len
 have hol := ho.len
 refine Con.of_body Tryz.func6 rfl Tryz.ntmps6 rfl rfl ?_
 refine hw_reg ?_
 refine dp rfl (pop_box rfl rfl) ?_
 refine dp rfl (pop_assign rfl) ?_
 refine dn ?_
 refine hw_reg ?_
 refine dp rfl (pop_assign rfl) ?_
 refine dn ?_
 refine hw_seq ?_
 refine hw_reg ?_
 refine dp rfl (pop_move rfl) ?_
 refine dp rfl (pop_lenm ty32 rfl) ?_
 refine dp rfl (pop_eql rfl rfl) ?_
 refine dn ?_
 refine hw_cond rfl (fun h1 => ?_) (fun h2 => ?_)
 ·try simp at h1
  refine hw_reg ?_
  refine dp rfl (pop_assign rfl) ?_
  refine dn ?_
  refine hw_ret ?_
  first
  | exact ⟨_, _, Ghost.sub (Sub.refl _), _, .slice 5 [], rfl, weak_nil 5, [], a, rfl, ⟨by simp, by simp⟩, fun _ => rfl, by omega, rfl⟩
  | exact ret_g (Ghost.fa 6 (i := 1) rfl rfl) rfl ⟨k1.map (·.1), a4, by simp, ⟨by simpa using q1, fun x hx => by
     obtain ⟨p, hp, rfl⟩ := List.mem_map.1 hx; exact q2 p hp⟩, fun e => absurd (congrArg List.length e) (by simp_all), by omega, rfl⟩
 ·try simp at h2
  refine hw_skip ?_
  refine seqQ_n ?_
  refine hw_seq ?_
  refine hw_reg ?_
  refine dp rfl (pop_move rfl) ?_
  first
  | refine de rfl (eop_callx (i := 0) ca23 rfl (WeakL.refl _) rfl (c_benchmake_Stream_Range (by first | assumption | omega | (simp; omega) | simp_all) (by first | assumption | omega | (simp; omega) | simp_all) (by first | assumption | omega | (simp; omega) | simp_all) (by first | assumption | omega | (simp; omega) | simp_all)) ?_)
  | refine de rfl (eop_callx (i := 1) ca23 rfl (WeakL.refl _) rfl (c_benchmake_Stream_Range (by first | assumption | omega | (simp; omega) | simp_all) (by first | assumption | omega | (simp; omega) | simp_all) (by first | assumption | omega | (simp; omega) | simp_all) (by first | assumption | omega | (simp; omega) | simp_all)) ?_)
  | refine de rfl (eop_callx (i := 2) ca23 rfl (WeakL.refl _) rfl (c_benchmake_Stream_Range (by first | assumption | omega | (simp; omega) | simp_all) (by first | assumption | omega | (simp; omega) | simp_all) (by first | assumption | omega | (simp; omega) | simp_all) (by first | assumption | omega | (simp; omega) | simp_all)) ?_)
  | refine de rfl (eop_callx (i := 3) ca23 rfl (WeakL.refl _) rfl (c_benchmake_Stream_Range (by first | assumption | omega | (simp; omega) | simp_all) (by first | assumption | omega | (simp; omega) | simp_all) (by first | assumption | omega | (simp; omega) | simp_all) (by first | assumption | omega | (simp; omega) | simp_all)) ?_)
  rintro _ _ ⟨y21, rfl, hy21, rfl⟩
  refine dp rfl (pop_move rfl) ?_
  refine dn ?_
  refine hw_ghost (Ghost.perm (M' := [St b l (a + 1)]) (List.Perm.refl _)) ?_
  refine hw_ghost (Ghost.arr_nil 5) ?_
  refine hw_block ?_
  refine hw_loopw2 (7 :: 8 :: 9 :: 10 :: 12 :: 13 :: 14 :: 22 :: 23 :: 24 :: 25 :: 26 :: 27 :: 28 :: 29 :: 30 :: 31 :: 32 :: 33 :: 34 :: 35 :: 36 :: 37 :: 38 :: 39 :: 40 :: 41 :: 42 :: 43 :: 44 :: 45 :: 46 :: 47 :: 48 :: 49 :: 50 :: 51 :: 52 :: 53 :: 54 :: 55 :: 56 :: 57 :: 58 :: 59 :: 60 :: 61 :: 62 :: 63 :: 64 :: 65 :: 66 :: 67 :: 68 :: 69 :: 70 :: 71 :: 72 :: 73 :: 74 :: 75 :: 76 :: 77 :: 78 :: 79 :: 80 :: 81 :: 82 :: 83 :: 84 :: 85 :: 86 :: 87 :: 88 :: 89 :: 90 :: 91 :: 92 :: 93 :: 94 :: 95 :: 96 :: 97 :: 98 :: 99 :: 100 :: 101 :: 102 :: 103 :: 104 :: []) (fun (k : Nat) (q : GL DlV) => [(22, .int .i64 (k : Int)), (7, .raw q.u)]) (fun (k : Nat) (q : GL DlV) => [St b l q.a, .arr q.u 5 (q.out.map rDl)] ++ q.out.map sDl) (fun (k : Nat) (q : GL DlV) => (k : Int) ≤ y21 ∧ GLok GoodDV k (a + 1 + 60 * k) q) (fun (k : Nat) (q : GL DlV) => y21.toNat - k) (0) (⟨.slice none 0 0, [], a + 1⟩) ?_ ?_ ?_ ?_
  ·exact ⟨by omega, ⟨by simp, by simp, by dsimp only; omega⟩⟩
  ·exact ⟨rfl, rfl, trivial⟩
  ·repeat (first | exact List.Perm.nil | refine permTo 0 rfl ?_ | refine permTo 1 rfl ?_ | refine permTo 2 rfl ?_ | refine permTo 3 rfl ?_ | (refine permToE 0 rfl ?hq ?_; (case hq => simp [setL, hcells]; done)) | (refine permToE 1 rfl ?hq ?_; (case hq => simp [setL, hcells]; done)) | (refine permToE 2 rfl ?hq ?_; (case hq => simp [setL, hcells]; done)) | (refine permToE 3 rfl ?hq ?_; (case hq => simp [setL, hcells]; done)) | fail)
  ·intro k q hinv
   obtain ⟨hk, hq⟩ := hinv
   obtain ⟨u, out, a2⟩ := q
   obtain ⟨g1, g2, g3⟩ := id hq
   dsimp only at g1 g2 g3
   refine hw_reg ?_
   refine dp rfl (pop_lss rfl rfl) ?_
   refine dn ?_
   refine hw_seq ?_
   refine hw_cond rfl (fun h3 => ?_) (fun h4 => ?_)
   ·try simp at h3
    refine hw_skip ?_
    refine seqQ_n ?_
    refine hw_seq ?_
    refine hw_block ?_
    refine hw_reg ?_
    refine dp rfl (pop_move rfl) ?_
    refine dp rfl (pop_assign rfl) ?_
    refine dn ?_
    refine hw_reg ?_
    refine dp rfl (pop_move rfl) ?_
    refine dp rfl (pop_buildSlice (hs := [_, _, _, _]) ty22 ty3 rfl rfl (by decide) (by decide) rfl) ?_
    first
    | refine de rfl (eop_callx (i := 0) ca24 rfl (WeakL.refl _) rfl (c_benchmake_Stream_Pick (L := [_, _, _, _]) (by first | assumption | omega | (simp; omega) | simp_all) (by first | assumption | omega | (simp; omega) | simp_all) (by first | assumption | omega | (simp; omega) | simp_all)) ?_)
    | refine de rfl (eop_callx (i := 1) ca24 rfl (WeakL.refl _) rfl (c_benchmake_Stream_Pick (L := [_, _, _, _]) (by first | assumption | omega | (simp; omega) | simp_all) (by first | assumption | omega | (simp; omega) | simp_all) (by first | assumption | omega | (simp; omega) | simp_all)) ?_)
    | refine de rfl (eop_callx (i := 2) ca24 rfl (WeakL.refl _) rfl (c_benchmake_Stream_Pick (L := [_, _, _, _]) (by first | assumption | omega | (simp; omega) | simp_all) (by first | assumption | omega | (simp; omega) | simp_all) (by first | assumption | omega | (simp; omega) | simp_all)) ?_)
    | refine de rfl (eop_callx (i := 3) ca24 rfl (WeakL.refl _) rfl (c_benchmake_Stream_Pick (L := [_, _, _, _]) (by first | assumption | omega | (simp; omega) | simp_all) (by first | assumption | omega | (simp; omega) | simp_all) (by first | assumption | omega | (simp; omega) | simp_all)) ?_)
    rintro _ _ ⟨y27, rfl, hy27, rfl⟩
    refine dp rfl (pop_assign rfl) ?_
    refine dn ?_
    refine hw_reg ?_
    refine dp rfl (pop_move rfl) ?_
    refine dp rfl (pop_call ca29 rfl (WeakL.refl _) (c_strconv_Itoa (i := k) (by omega))) ?_
    have hdl := dec_len (i := k) (by omega)
    refine dp rfl (pop_adds rfl rfl (by simp; omega)) ?_
    refine dp rfl (pop_move rfl) ?_
    refine dp rfl (pop_move rfl) ?_
    refine dp rfl (pop_move rfl) ?_
    refine dp rfl (pop_buildSlice (hs := [_, _, _]) ty22 ty3 rfl rfl (by decide) (by decide) rfl) ?_
    first
    | refine de rfl (eop_callx (i := 0) ca24 rfl (WeakL.refl _) rfl (c_benchmake_Stream_Pick (L := [_, _, _]) (by first | assumption | omega | (simp; omega) | simp_all) (by first | assumption | omega | (simp; omega) | simp_all) (by first | assumption | omega | (simp; omega) | simp_all)) ?_)
    | refine de rfl (eop_callx (i := 1) ca24 rfl (WeakL.refl _) rfl (c_benchmake_Stream_Pick (L := [_, _, _]) (by first | assumption | omega | (simp; omega) | simp_all) (by first | assumption | omega | (simp; omega) | simp_all) (by first | assumption | omega | (simp; omega) | simp_all)) ?_)
    | refine de rfl (eop_callx (i := 2) ca24 rfl (WeakL.refl _) rfl (c_benchmake_Stream_Pick (L := [_, _, _]) (by first | assumption | omega | (simp; omega) | simp_all) (by first | assumption | omega | (simp; omega) | simp_all) (by first | assumption | omega | (simp; omega) | simp_all)) ?_)
    | refine de rfl (eop_callx (i := 3) ca24 rfl (WeakL.refl _) rfl (c_benchmake_Stream_Pick (L := [_, _, _]) (by first | assumption | omega | (simp; omega) | simp_all) (by first | assumption | omega | (simp; omega) | simp_all) (by first | assumption | omega | (simp; omega) | simp_all)) ?_)
    rintro _ _ ⟨y35, rfl, hy35, rfl⟩
    refine dp rfl (pop_add64 rfl rfl (by simp at hy27 hy35; omega) (by simp at hy27 hy35; omega)) ?_
    refine dp rfl (pop_build (cs := [_, _]) ty44 pl44 rfl) ?_
    refine dp rfl (pop_build (cs := [_, _, _, _, _]) ty47 pl47 rfl) ?_
    refine de rfl (eop_alloc ty47 rfl fun b10 => ?_)
    first
    | refine de0 (eop_store (i := 0) ty47 rfl rfl rfl rfl rfl (Nat.le_of_ble_eq_true rfl) ?_)
    | refine de0 (eop_store (i := 1) ty47 rfl rfl rfl rfl rfl (Nat.le_of_ble_eq_true rfl) ?_)
    | refine de0 (eop_store (i := 2) ty47 rfl rfl rfl rfl rfl (Nat.le_of_ble_eq_true rfl) ?_)
    | refine de0 (eop_store (i := 3) ty47 rfl rfl rfl rfl rfl (Nat.le_of_ble_eq_true rfl) ?_)
    refine dn ?_
    refine hw_ghost (Ghost.arr_nil 3) ?_
    refine hw_ghost (Ghost.perm (List.perm_middle (l₁ := [_, _]))) ?_
    refine hw_seq ?_
    refine hw_reg ?_
    refine dp rfl (pop_move rfl) ?_
    refine dp rfl (pop_lenm ty32 rfl) ?_
    refine dp rfl (pop_move rfl) ?_
    refine dn ?_
    refine hw_block ?_
    refine hw_loopw4 [12, 13, 14, 41, 42, 43, 44, 45, 46, 47, 48, 49, 50, 51, 52, 53, 54, 55, 56, 57, 58, 59, 60, 61, 62, 63, 64, 65, 66, 67, 68, 69, 70, 71, 72, 73, 74, 75, 76, 77, 78] (fun (j : Nat) (v : Value) (gs : List GiveS) (a4 : Nat) => [(41, .int .i64 j)]) (fun (j : Nat) (v : Value) (gs : List GiveS) (a4 : Nat) => [St b l a4, .arr v 3 (gs.map eGive), .cells b10 [.str (111 :: Lib.decDigits k), .str [], .int .i64 y27, .int .i64 (y27 + y35), .raw v], .arr u 5 (out.map rDl)] ++ out.map sDl) (fun (j : Nat) (v : Value) (gs : List GiveS) (a4 : Nat) => j ≤ o.length ∧ (gs.length ≤ j ∧ (gs.length ≤ 3) ∧ (∀ g ∈ gs, Sh g.Player) ∧ a4 ≤ a2 + 2 + 4 * j)) (fun (j : Nat) (v : Value) (gs : List GiveS) (a4 : Nat) => o.length - j) (0) (.slice none 0 0) ([]) (a2 + 2) ?_ ?_ ?_ ?_
    ·exact ⟨Nat.zero_le _, Nat.le_refl _, by simp, by simp, by omega⟩
    ·exact ⟨rfl, trivial⟩
    ·exact perm_eq rfl
    ·intro j v gs a4 hinv
     obtain ⟨hj, hgj, hg3, hgs, ha4⟩ := hinv
     refine hw_reg ?_
     refine dp rfl (pop_lss rfl rfl) ?_
     refine dn ?_
     refine hw_seq ?_
     refine hw_cond rfl (fun h5 => ?_) (fun h6 => ?_)
     ·try simp at h5
      obtain ⟨z, hz⟩ : ∃ z, o[j]? = some z := ⟨_, List.getElem?_eq_getElem h5⟩
      have hdz := drop_cons hz
      refine hw_skip ?_
      refine seqQ_n ?_
      refine hw_seq ?_
      refine hw_block ?_
      refine hw_reg ?_
      refine dp rfl (pop_idx ty32 ty67 rfl rfl rfl (by first | assumption | simp_all)) ?_
      refine dp rfl (pop_loadw ty67 rfl rfl rfl rfl) ?_
      refine de rfl (eop_alloc ty67 rfl fun b12 => ?_)
      refine de0 (eop_storew ty67 rfl rfl rfl rfl rfl ?_)
      refine dn ?_
      refine hw_ghost (Ghost.fc0 12 rfl) ?_
      refine hw_reg ?_
      refine dp rfl (pop_move rfl) ?_
      first
      | refine de rfl (eop_callx (i := 0) ca25 rfl (WeakL.refl _) rfl (c_benchmake_Stream_Flip (by first | assumption | omega | (simp; omega) | simp_all) (by first | assumption | omega | (simp; omega) | simp_all)) ?_)
      | refine de rfl (eop_callx (i := 1) ca25 rfl (WeakL.refl _) rfl (c_benchmake_Stream_Flip (by first | assumption | omega | (simp; omega) | simp_all) (by first | assumption | omega | (simp; omega) | simp_all)) ?_)
      | refine de rfl (eop_callx (i := 2) ca25 rfl (WeakL.refl _) rfl (c_benchmake_Stream_Flip (by first | assumption | omega | (simp; omega) | simp_all) (by first | assumption | omega | (simp; omega) | simp_all)) ?_)
      | refine de rfl (eop_callx (i := 3) ca25 rfl (WeakL.refl _) rfl (c_benchmake_Stream_Flip (by first | assumption | omega | (simp; omega) | simp_all) (by first | assumption | omega | (simp; omega) | simp_all)) ?_)
      rintro _ _ ⟨y46, rfl, rfl⟩
      refine dp rfl (pop_move rfl) ?_
      refine dg rfl rfl (fun hc => ⟨_, OpenTo.refl _, pop_fieldAddr_raw ty47 rfl ty45 (by decide) rfl⟩) ?_
      refine dgl rfl rfl (fun hc => ⟨_, OpenTo.upd (t := 48) rfl (by first | exact hc | simp_all) (OpenTo.refl _), eop_load (i := 2) ty45 rfl rfl (.inl ⟨rfl, rfl⟩) ⟨rfl, rfl⟩⟩) ?_
      refine dgl rfl rfl (fun hc => ⟨_, OpenTo.upd (t := 49) rfl (by first | exact hc | simp_all) (OpenTo.refl _), eop_lenm (i := 1) (es := gs) ty45 rfl rfl ⟨rfl, rfl⟩⟩) ?_
      refine dg rfl rfl (fun hc => ⟨_, OpenTo.upd (t := 50) rfl (by first | exact hc | simp_all) (OpenTo.refl _), pop_lss rfl rfl⟩) ?_
      refine dp rfl (pop_picko rfl (.inr ⟨_, rfl, fun h => by simp_all⟩) (.inl rfl)) ?_
      refine dn ?_
      refine hw_cond rfl (fun h7 => ?_) (fun h8 => ?_)
      ·try simp at h7
       refine hw_reg ?_
       refine dp rfl (pop_move rfl) ?_
       refine dp rfl ((by first | exact pop_fieldAddr ty28 rfl ty26 (by decide) rfl | exact pop_fieldAddr_raw ty28 rfl ty26 (by decide) rfl)) ?_
       refine dp rfl (pop_load ty26 rfl rfl rfl) ?_
       first
       | refine de rfl (eop_callx (i := 0) ca27 rfl (WeakL.refl _) rfl (c_benchmake_Stream_Some (by first | assumption | omega | (simp; omega) | simp_all) (by first | assumption | omega | (simp; omega) | simp_all) (by first | assumption | omega | (simp; omega) | simp_all)) ?_)
       | refine de rfl (eop_callx (i := 1) ca27 rfl (WeakL.refl _) rfl (c_benchmake_Stream_Some (by first | assumption | omega | (simp; omega) | simp_all) (by first | assumption | omega | (simp; omega) | simp_all) (by first | assumption | omega | (simp; omega) | simp_all)) ?_)
       | refine de rfl (eop_callx (i := 2) ca27 rfl (WeakL.refl _) rfl (c_benchmake_Stream_Some (by first | assumption | omega | (simp; omega) | simp_all) (by first | assumption | omega | (simp; omega) | simp_all) (by first | assumption | omega | (simp; omega) | simp_all)) ?_)
       | refine de rfl (eop_callx (i := 3) ca27 rfl (WeakL.refl _) rfl (c_benchmake_Stream_Some (by first | assumption | omega | (simp; omega) | simp_all) (by first | assumption | omega | (simp; omega) | simp_all) (by first | assumption | omega | (simp; omega) | simp_all)) ?_)
       rintro _ _ ⟨y56, rfl, hy56, rfl⟩
       refine dp rfl (pop_assign rfl) ?_
       refine dn ?_
       refine hw_reg ?_
       refine dp rfl ((by first | exact pop_fieldAddr ty67 rfl ty9 (by decide) rfl | exact pop_fieldAddr_raw ty67 rfl ty9 (by decide) rfl)) ?_
       refine dp rfl (pop_load ty9 rfl rfl rfl) ?_
       refine dp rfl (pop_assign rfl) ?_
       refine dn ?_
       refine hw_seq ?_
       refine hw_reg ?_
       refine dp rfl (pop_move rfl) ?_
       first
       | refine de rfl (eop_callx (i := 0) ca25 rfl (WeakL.refl _) rfl (c_benchmake_Stream_Flip (by first | assumption | omega | (simp; omega) | simp_all) (by first | assumption | omega | (simp; omega) | simp_all)) ?_)
       | refine de rfl (eop_callx (i := 1) ca25 rfl (WeakL.refl _) rfl (c_benchmake_Stream_Flip (by first | assumption | omega | (simp; omega) | simp_all) (by first | assumption | omega | (simp; omega) | simp_all)) ?_)
       | refine de rfl (eop_callx (i := 2) ca25 rfl (WeakL.refl _) rfl (c_benchmake_Stream_Flip (by first | assumption | omega | (simp; omega) | simp_all) (by first | assumption | omega | (simp; omega) | simp_all)) ?_)
       | refine de rfl (eop_callx (i := 3) ca25 rfl (WeakL.refl _) rfl (c_benchmake_Stream_Flip (by first | assumption | omega | (simp; omega) | simp_all) (by first | assumption | omega | (simp; omega) | simp_all)) ?_)
       rintro _ _ ⟨y60, rfl, rfl⟩
       refine dn ?_
       refine hw_cond rfl (fun h9 => ?_) (fun h10 => ?_)
       ·try simp at h9
        refine hw_reg1 ?_
        refine dp rfl (pop_move rfl) ?_
        refine dp rfl ((by first | exact pop_fieldAddr ty28 rfl ty26 (by decide) rfl | exact pop_fieldAddr_raw ty28 rfl ty26 (by decide) rfl)) ?_
        refine dp rfl (pop_load ty26 rfl rfl rfl) ?_
        first
        | refine de rfl (eop_callx (i := 0) ca27 rfl (WeakL.refl _) rfl (c_benchmake_Stream_Some (by first | assumption | omega | (simp; omega) | simp_all) (by first | assumption | omega | (simp; omega) | simp_all) (by first | assumption | omega | (simp; omega) | simp_all)) ?_)
        | refine de rfl (eop_callx (i := 1) ca27 rfl (WeakL.refl _) rfl (c_benchmake_Stream_Some (by first | assumption | omega | (simp; omega) | simp_all) (by first | assumption | omega | (simp; omega) | simp_all) (by first | assumption | omega | (simp; omega) | simp_all)) ?_)
        | refine de rfl (eop_callx (i := 2) ca27 rfl (WeakL.refl _) rfl (c_benchmake_Stream_Some (by first | assumption | omega | (simp; omega) | simp_all) (by first | assumption | omega | (simp; omega) | simp_all) (by first | assumption | omega | (simp; omega) | simp_all)) ?_)
        | refine de rfl (eop_callx (i := 3) ca27 rfl (WeakL.refl _) rfl (c_benchmake_Stream_Some (by first | assumption | omega | (simp; omega) | simp_all) (by first | assumption | omega | (simp; omega) | simp_all) (by first | assumption | omega | (simp; omega) | simp_all)) ?_)
        rintro _ _ ⟨y64, rfl, hy64, rfl⟩
        refine dp rfl (pop_assign rfl) ?_
        refine dn ?_
        refine seqQ_n ?_
        refine hw_reg ?_
        refine dp rfl (pop_move rfl) ?_
        refine dp rfl (pop_move rfl) ?_
        refine dp rfl (pop_neqs rfl rfl) ?_
        refine dn ?_
        refine hw_cond rfl (fun h11 => ?_) (fun h12 => ?_)
        ·try simp at h11
         refine hw_reg1 ?_
         refine dp rfl (pop_fieldAddr_raw ty47 rfl ty45 (by decide) rfl) ?_
         first
         | refine de rfl (eop_load (i := 0) ty45 rfl rfl (.inl ⟨rfl, rfl⟩) ?_)
         | refine de rfl (eop_load (i := 1) ty45 rfl rfl (.inl ⟨rfl, rfl⟩) ?_)
         | refine de rfl (eop_load (i := 2) ty45 rfl rfl (.inl ⟨rfl, rfl⟩) ?_)
         | refine de rfl (eop_load (i := 3) ty45 rfl rfl (.inl ⟨rfl, rfl⟩) ?_)
         refine dp rfl ((by first | exact pop_fieldAddr ty67 rfl ty9 (by decide) rfl | exact pop_fieldAddr_raw ty67 rfl ty9 (by decide) rfl)) ?_
         refine dp rfl (pop_load ty9 rfl rfl rfl) ?_
         refine dp rfl (pop_move rfl) ?_
         refine dp rfl (pop_move rfl) ?_
         refine dp rfl (pop_build (cs := [_, _, _]) ty69 pl69 rfl) ?_
         refine dp rfl (pop_buildSlice (hs := [_]) ty45 ty69 rfl rfl (by decide) (by decide) rfl) ?_
         refine de rfl (eop_append (i := 1) (v := v) (es := gs.map eGive) ty45 ty69 rfl rfl rfl rfl rfl (by simp [flat, hcells]) (by simp; omega) fun v76 => ?_)
         refine dp rfl (pop_fieldAddr_raw ty47 rfl ty45 (by decide) rfl) ?_
         first
         | refine de0 (eop_store (i := 0) ty45 rfl rfl rfl rfl rfl (Nat.le_of_ble_eq_true rfl) ?_)
         | refine de0 (eop_store (i := 1) ty45 rfl rfl rfl rfl rfl (Nat.le_of_ble_eq_true rfl) ?_)
         | refine de0 (eop_store (i := 2) ty45 rfl rfl rfl rfl rfl (Nat.le_of_ble_eq_true rfl) ?_)
         | refine de0 (eop_store (i := 3) ty45 rfl rfl rfl rfl rfl (Nat.le_of_ble_eq_true rfl) ?_)
         refine dn ?_
         refine blockQ_n ?_
         refine seqQ_n ?_
         refine hw_reg1 ?_
         refine dp rfl (pop_add64 rfl rfl (by omega) (by omega)) ?_
         refine dp rfl (pop_move rfl) ?_
         refine dn ?_
         exact ⟨j + 1, v76, (gs ++ [⟨z.Player, y64, y56⟩]), a4 + 4, ⟨by omega, by first | omega | (simp; omega), by first | omega | (simp; omega), fun g hg => by
          rcases List.mem_append.1 hg with hg | hg
          ·exact hgs g hg
          ·rw [List.mem_singleton.1 hg]; exact (ho.all z (List.mem_of_getElem? hz)).1, by omega⟩, by dsimp only; omega, ⟨rfl, trivial⟩, (by repeat (first | exact keeps_refl | refine keeps_upd rfl ?_ | refine keeps_loop rfl rfl ?_)), perm_eq (by first | rfl | (dsimp only; rw [List.map_append]; rfl))⟩
        ·try simp at h12
         refine hw_skip ?_
         refine blockQ_n ?_
         refine seqQ_n ?_
         refine hw_reg1 ?_
         refine dp rfl (pop_add64 rfl rfl (by omega) (by omega)) ?_
         refine dp rfl (pop_move rfl) ?_
         refine dn ?_
         exact ⟨j + 1, v, gs, a4 + 4, ⟨by omega, by first | omega | (simp; omega), by first | omega | (simp; omega), hgs, by omega⟩, by dsimp only; omega, ⟨rfl, trivial⟩, (by repeat (first | exact keeps_refl | refine keeps_upd rfl ?_ | refine keeps_loop rfl rfl ?_)), perm_eq (by first | rfl | (dsimp only; rw [List.map_append]; rfl))⟩
       ·try simp at h10
        refine hw_skip ?_
        refine seqQ_n ?_
        refine hw_reg ?_
        refine dp rfl (pop_move rfl) ?_
        refine dp rfl (pop_move rfl) ?_
        refine dp rfl (pop_neqs rfl rfl) ?_
        refine dn ?_
        refine hw_cond rfl (fun h13 => ?_) (fun h14 => ?_)
        ·try simp at h13
         refine hw_reg1 ?_
         refine dp rfl (pop_fieldAddr_raw ty47 rfl ty45 (by decide) rfl) ?_
         first
         | refine de rfl (eop_load (i := 0) ty45 rfl rfl (.inl ⟨rfl, rfl⟩) ?_)
         | refine de rfl (eop_load (i := 1) ty45 rfl rfl (.inl ⟨rfl, rfl⟩) ?_)
         | refine de rfl (eop_load (i := 2) ty45 rfl rfl (.inl ⟨rfl, rfl⟩) ?_)
         | refine de rfl (eop_load (i := 3) ty45 rfl rfl (.inl ⟨rfl, rfl⟩) ?_)
         refine dp rfl ((by first | exact pop_fieldAddr ty67 rfl ty9 (by decide) rfl | exact pop_fieldAddr_raw ty67 rfl ty9 (by decide) rfl)) ?_
         refine dp rfl (pop_load ty9 rfl rfl rfl) ?_
         refine dp rfl (pop_move rfl) ?_
         refine dp rfl (pop_move rfl) ?_
         refine dp rfl (pop_build (cs := [_, _, _]) ty69 pl69 rfl) ?_
         refine dp rfl (pop_buildSlice (hs := [_]) ty45 ty69 rfl rfl (by decide) (by decide) rfl) ?_
         refine de rfl (eop_append (i := 1) (v := v) (es := gs.map eGive) ty45 ty69 rfl rfl rfl rfl rfl (by simp [flat, hcells]) (by simp; omega) fun v76 => ?_)
         refine dp rfl (pop_fieldAddr_raw ty47 rfl ty45 (by decide) rfl) ?_
         first
         | refine de0 (eop_store (i := 0) ty45 rfl rfl rfl rfl rfl (Nat.le_of_ble_eq_true rfl) ?_)
         | refine de0 (eop_store (i := 1) ty45 rfl rfl rfl rfl rfl (Nat.le_of_ble_eq_true rfl) ?_)
         | refine de0 (eop_store (i := 2) ty45 rfl rfl rfl rfl rfl (Nat.le_of_ble_eq_true rfl) ?_)
         | refine de0 (eop_store (i := 3) ty45 rfl rfl rfl rfl rfl (Nat.le_of_ble_eq_true rfl) ?_)
         refine dn ?_
         refine blockQ_n ?_
         refine seqQ_n ?_
         refine hw_reg1 ?_
         refine dp rfl (pop_add64 rfl rfl (by omega) (by omega)) ?_
         refine dp rfl (pop_move rfl) ?_
         refine dn ?_
         exact ⟨j + 1, v76, (gs ++ [⟨z.Player, z.Team, y56⟩]), a4 + 3, ⟨by omega, by first | omega | (simp; omega), by first | omega | (simp; omega), fun g hg => by
          rcases List.mem_append.1 hg with hg | hg
          ·exact hgs g hg
          ·rw [List.mem_singleton.1 hg]; exact (ho.all z (List.mem_of_getElem? hz)).1, by omega⟩, by dsimp only; omega, ⟨rfl, trivial⟩, (by repeat (first | exact keeps_refl | refine keeps_upd rfl ?_ | refine keeps_loop rfl rfl ?_)), perm_eq (by first | rfl | (dsimp only; rw [List.map_append]; rfl))⟩
        ·try simp at h14
         refine hw_skip ?_
         refine blockQ_n ?_
         refine seqQ_n ?_
         refine hw_reg1 ?_
         refine dp rfl (pop_add64 rfl rfl (by omega) (by omega)) ?_
         refine dp rfl (pop_move rfl) ?_
         refine dn ?_
         exact ⟨j + 1, v, gs, a4 + 3, ⟨by omega, by first | omega | (simp; omega), by first | omega | (simp; omega), hgs, by omega⟩, by dsimp only; omega, ⟨rfl, trivial⟩, (by repeat (first | exact keeps_refl | refine keeps_upd rfl ?_ | refine keeps_loop rfl rfl ?_)), perm_eq (by first | rfl | (dsimp only; rw [List.map_append]; rfl))⟩
      ·try simp at h8
       refine hw_skip ?_
       refine blockQ_n ?_
       refine seqQ_n ?_
       refine hw_reg1 ?_
       refine dp rfl (pop_add64 rfl rfl (by omega) (by omega)) ?_
       refine dp rfl (pop_move rfl) ?_
       refine dn ?_
       exact ⟨j + 1, v, gs, a4 + 1, ⟨by omega, by first | omega | (simp; omega), by first | omega | (simp; omega), hgs, by omega⟩, by dsimp only; omega, ⟨rfl, trivial⟩, (by repeat (first | exact keeps_refl | refine keeps_upd rfl ?_ | refine keeps_loop rfl rfl ?_)), perm_eq (by first | rfl | (dsimp only; rw [List.map_append]; rfl))⟩
     ·try simp at h6
      have hnj : o.length ≤ j := by omega
      obtain rfl : j = o.length := by omega
      refine hw_exit ?_
      refine seqQ_x ?_
      refine loopQ4_x ?_
      refine blockQ_eq ?_
      refine seqQ_n ?_
      refine hw_seq ?_
      refine hw_reg ?_
      refine dp rfl (pop_fieldAddr_raw ty47 rfl ty45 (by decide) rfl) ?_
      first
      | refine de rfl (eop_load (i := 0) ty45 rfl rfl (.inl ⟨rfl, rfl⟩) ?_)
      | refine de rfl (eop_load (i := 1) ty45 rfl rfl (.inl ⟨rfl, rfl⟩) ?_)
      | refine de rfl (eop_load (i := 2) ty45 rfl rfl (.inl ⟨rfl, rfl⟩) ?_)
      | refine de rfl (eop_load (i := 3) ty45 rfl rfl (.inl ⟨rfl, rfl⟩) ?_)
      refine de rfl (eop_lenm (i := 1) (es := gs) ty45 rfl rfl ?_)
      refine dp rfl (pop_eql rfl rfl) ?_
      refine dn ?_
      refine hw_cond rfl (fun h15 => ?_) (fun h16 => ?_)
      ·try simp at h15
       refine hw_exit ?_
       refine seqQ_x ?_
       refine blockQ_eq ?_
       refine seqQ_n ?_
       try refine hw_ghost Ghost.drop12 ?_
       refine hw_reg1 ?_
       refine dp rfl (pop_add64 rfl rfl (by omega) (by omega)) ?_
       refine dp rfl (pop_move rfl) ?_
       refine dn ?_
       exact ⟨k + 1, ⟨u, out, a4⟩, ⟨by omega, hq.same (by omega)⟩, by dsimp only; omega, ⟨rfl, rfl, trivial⟩, (by repeat (first | exact keeps_refl | refine keeps_upd rfl ?_ | refine keeps_loop rfl rfl ?_)), perm_eq rfl⟩
      ·try simp at h16
       refine hw_skip ?_
       refine seqQ_n ?_
       have hg0 : 0 < gs.length := List.length_pos_iff.2 (by assumption)
       refine hw_arrc (i := 1) rfl (fun h0 he => ?_) (fun gb goff gcap hv hcap => ?_)
       ·exfalso; have := congrArg List.length he; simp at this; subst this; simp at hg0
       rw [List.length_map] at hv hcap
       subst hv
       obtain ⟨g0, hg0x⟩ : ∃ g, gs[0]? = some g := ⟨_, List.getElem?_eq_getElem hg0⟩
       refine hw_draw (fun M => (∃ i : Nat, M[i]? = some (.cells b10 [.str (111 :: Lib.decDigits k), .str [], .int .i64 y27, .int .i64 (y27 + y35), .raw (.slice (some ⟨gb, goff, none⟩) gs.length gcap)])) ∧ ∃ i : Nat, M[i]? = some (.arr (.slice (some ⟨gb, goff, none⟩) gs.length gcap) 3 (gs.map eGive))) [2, 5, 7, 10] mixed ?_
       refine ahp 0 rfl rfl (by kernel_rfl) (by kernel_rfl) (pop_move rfl) ?_
       refine ahp 1 rfl rfl (by kernel_rfl) (by kernel_rfl) (pop_fieldAddr_raw ty47 rfl ty45 (by decide) rfl) ?_
       refine ahl 2 rfl rfl (by kernel_rfl) (by kernel_rfl) (by simp) ⟨⟨2, rfl⟩, ⟨1, rfl⟩⟩ (fun M hM => by obtain ⟨⟨i, hi⟩, _⟩ := hM; exact eop_load (i := i) ty45 rfl hi (.inl ⟨rfl, rfl⟩) ⟨rfl, rfl⟩) ?_
       refine ahp 3 rfl rfl (by kernel_rfl) (by kernel_rfl) (pop_idxraw (j := 0) ty45 ty69 rfl rfl rfl (by omega)) ?_
       refine ahp 4 rfl rfl (by kernel_rfl) (by kernel_rfl) ((by first | exact pop_fieldAddr ty69 rfl ty9 (by decide) rfl | exact pop_fieldAddr_raw ty69 rfl ty9 (by decide) rfl)) ?_
       refine ahl 5 rfl rfl (by kernel_rfl) (by kernel_rfl) (by simp) ⟨⟨2, rfl⟩, ⟨1, rfl⟩⟩ (fun M hM => by obtain ⟨_, ⟨i, hi⟩⟩ := hM; exact eop_load_el (i := i) (j := 0) (y := g0) 1 ty9 rfl (by omega) hi hg0x rfl rfl ⟨rfl, rfl⟩) ?_
       refine ahp 6 rfl rfl (by kernel_rfl) (by kernel_rfl) (pop_fieldAddr_raw ty47 rfl ty45 (by decide) rfl) ?_
       refine ahl 7 rfl rfl (by kernel_rfl) (by kernel_rfl) (by simp) ⟨⟨2, rfl⟩, ⟨1, rfl⟩⟩ (fun M hM => by obtain ⟨⟨i, hi⟩, _⟩ := hM; exact eop_load (i := i) ty45 rfl hi (.inl ⟨rfl, rfl⟩) ⟨rfl, rfl⟩) ?_
       refine ahp 8 rfl rfl (by kernel_rfl) (by kernel_rfl) (pop_idxraw (j := 0) ty45 ty69 rfl rfl rfl (by omega)) ?_
       refine ahp 9 rfl rfl (by kernel_rfl) (by kernel_rfl) ((by first | exact pop_fieldAddr ty69 rfl ty9 (by decide) rfl | exact pop_fieldAddr_raw ty69 rfl ty9 (by decide) rfl)) ?_
       refine ahl 10 rfl rfl (by kernel_rfl) (by kernel_rfl) (by simp) ⟨⟨2, rfl⟩, ⟨1, rfl⟩⟩ (fun M hM => by obtain ⟨_, ⟨i, hi⟩⟩ := hM; exact eop_load_el (i := i) (j := 0) (y := g0) 2 ty9 rfl (by omega) hi hg0x rfl rfl ⟨rfl, rfl⟩) ?_
       refine ahp 11 rfl rfl (by kernel_rfl) (by kernel_rfl) (pop_buildSlice (hs := [_, _]) ty26 ty9 rfl rfl (by decide) (by decide) rfl) ?_
       refine ahe 12 rfl (by kernel_rfl) ?_
       refine hop_e rfl (eop_callx (i := 0) ca27 rfl (WeakL.refl _) rfl (c_benchmake_Stream_Some (L := [_, _]) (by omega) (by simp) (by simp)) ?_)
       rintro _ _ ⟨y95, rfl, hy95, rfl⟩
       refine ⟨fun _ => .inl ⟨⟨2, rfl⟩, ⟨1, rfl⟩⟩, ?_⟩
       refine ahp 13 rfl rfl (by kernel_rfl) (by kernel_rfl) (pop_fieldAddr_raw ty47 rfl ty9 (by decide) rfl) ?_
       refine ahe 14 rfl (by kernel_rfl) ?_
       first
       | refine hop_e0 (eop_store (i := 0) ty9 rfl rfl rfl rfl rfl (Nat.le_of_ble_eq_true rfl) ?_)
       | refine hop_e0 (eop_store (i := 1) ty9 rfl rfl rfl rfl rfl (Nat.le_of_ble_eq_true rfl) ?_)
       | refine hop_e0 (eop_store (i := 2) ty9 rfl rfl rfl rfl rfl (Nat.le_of_ble_eq_true rfl) ?_)
       | refine hop_e0 (eop_store (i := 3) ty9 rfl rfl rfl rfl rfl (Nat.le_of_ble_eq_true rfl) ?_)
       refine ⟨fun _ => by first | exact .inl ⟨0, rfl⟩ | exact .inl ⟨1, rfl⟩ | exact .inl ⟨2, rfl⟩ | exact .inr (by simp [Before, Region.binds]), ?_⟩
       refine ahz (by kernel_rfl) ?_
       refine hw_reg ?_
       refine dp rfl (pop_fieldAddr_raw ty47 rfl ty45 (by decide) rfl) ?_
       first
       | refine de rfl (eop_load (i := 0) ty45 rfl rfl (.inl ⟨rfl, rfl⟩) ?_)
       | refine de rfl (eop_load (i := 1) ty45 rfl rfl (.inl ⟨rfl, rfl⟩) ?_)
       | refine de rfl (eop_load (i := 2) ty45 rfl rfl (.inl ⟨rfl, rfl⟩) ?_)
       | refine de rfl (eop_load (i := 3) ty45 rfl rfl (.inl ⟨rfl, rfl⟩) ?_)
       refine de rfl (eop_callx (i := 1) ca30 rfl (WeakL.refl _) rfl (c_slices_SortFunc_api_Give_api_Give (l := gs) (c := byGiv) ca31 (fun _ _ => c_benchmake_Stream_OfferList_1) (by omega)) ?_)
       rintro _ _ ⟨rfl, rfl⟩
       refine dn ?_
       refine hw_ghost (Ghost.perm (List.Perm.swap _ _ _)) ?_
       refine hw_reg1 ?_
       refine dp rfl (pop_move rfl) ?_
       refine de rfl (eop_loadw (i := 2) (h := rDl ((⟨(111 :: Lib.decDigits k), y95, y27, y27 + y35, isort byGiv gs⟩ : DealS), (.slice (some ⟨gb, goff, none⟩) gs.length gcap))) ty47 rfl rfl rfl rfl rfl ?_)
       refine dp rfl (pop_buildSlice (hs := [_]) ty30 ty47 rfl rfl (by decide) (by decide) rfl) ?_
       refine de rfl (EOp.post_ghost (eop_append (i := 3) (v := u) (es := out.map rDl) ty30 ty47 rfl rfl rfl rfl rfl (by simp [flat, hcells]) (by simp; omega) fun v103 => ⟨_, dl_norm, ?_⟩))
       refine dp rfl (pop_assign rfl) ?_
       refine dn ?_
       refine blockQ_n ?_
       refine seqQ_n ?_
       try refine hw_ghost Ghost.drop12 ?_
       refine hw_reg1 ?_
       refine dp rfl (pop_add64 rfl rfl (by omega) (by omega)) ?_
       refine dp rfl (pop_move rfl) ?_
       refine dn ?_
       exact ⟨k + 1, ⟨v103, out ++ [((⟨(111 :: Lib.decDigits k), y95, y27, y27 + y35, isort byGiv gs⟩ : DealS), (.slice (some ⟨gb, goff, none⟩) gs.length gcap))], a4 + 1⟩, ⟨by omega, hq.add (x := ((⟨(111 :: Lib.decDigits k), y95, y27, y27 + y35, isort byGiv gs⟩ : DealS), (.slice (some ⟨gb, goff, none⟩) gs.length gcap))) ⟨⟨sh_of (s := (111 :: Lib.decDigits k)) (n := 11) (by simp; omega) (by decide), by rw [isort_len]; omega, fun g hg => hgs g (mem_isortG hg)⟩, by rw [isort_len]; exact hg0⟩ (by omega)⟩, by dsimp only; omega, ⟨rfl, rfl, trivial⟩, (by repeat (first | exact keeps_refl | refine keeps_upd rfl ?_ | refine keeps_loop rfl rfl ?_)), perm_eq (by dsimp only; simp only [List.map_append, List.map_cons, List.map_nil]; rfl)⟩
   ·try simp at h4
    refine hw_exit ?_
    refine seqQ_x ?_
    refine loopQ2_x ?_
    refine blockQ_eq ?_
    refine seqQ_n ?_
    refine hw_join (15 :: 16 :: 105 :: 106 :: 107 :: 108 :: 109 :: 110 :: 111 :: 112 :: 113 :: 114 :: 115 :: 116 :: 117 :: 118 :: 119 :: 120 :: 121 :: 122 :: 123 :: 124 :: 125 :: 126 :: 127 :: 128 :: 129 :: 130 :: 131 :: 132 :: 133 :: 134 :: 135 :: 136 :: 137 :: 138 :: 139 :: 140 :: 141 :: 142 :: 143 :: 144 :: 145 :: 146 :: 147 :: 148 :: 149 :: 150 :: 151 :: 152 :: 153 :: 154 :: 155 :: 156 :: 157 :: 158 :: 159 :: 160 :: 161 :: 162 :: 163 :: 164 :: 165 :: 166 :: 167 :: 168 :: 169 :: 170 :: 171 :: 172 :: 173 :: 174 :: 175 :: 176 :: 177 :: 178 :: 179 :: 180 :: 181 :: 182 :: 183 :: 184 :: 185 :: 186 :: 187 :: 188 :: 189 :: 190 :: 191 :: 192 :: 193 :: 194 :: []) (fun (q5 : List DlV × Nat) => []) (fun (q5 : List DlV × Nat) => [St b l q5.2, .arr u 5 (q5.1.map rDl)] ++ q5.1.map sDl) (fun (q5 : List DlV × Nat) => q5.1.length ≤ 5 ∧ (∀ p ∈ q5.1, GoodDl1 p.1) ∧ q5.2 ≤ a + 400) ?_ ?_
    ·skip
     refine hw_reg ?_
     refine dp rfl (pop_move rfl) ?_
     first
     | refine de rfl (eop_lenm (i := 0) ty30 rfl rfl ?_)
     | refine de rfl (eop_lenm (i := 1) ty30 rfl rfl ?_)
     | refine de rfl (eop_lenm (i := 2) ty30 rfl rfl ?_)
     | refine de rfl (eop_lenm (i := 3) ty30 rfl rfl ?_)
     refine dp rfl (pop_gtr rfl rfl) ?_
     refine dp rfl (pop_move rfl) ?_
     refine dg rfl rfl (fun hc => ⟨_, OpenTo.refl _, pop_move rfl⟩) ?_
     refine dgx (fun x M' => ∃ (y : Bool) (a3 : Nat), x = .bool y ∧ a3 ≤ a2 + 1 ∧ M' = [St b l a3, .arr u 5 (out.map rDl)] ++ out.map sDl) rfl rfl (fun hc => ⟨_, false, a2, rfl, by omega, rfl⟩) (fun hc => ⟨_, OpenTo.upd (t := 109) rfl (by first | exact hc | simp_all) (OpenTo.refl _), eop_callx (i := 0) ca25 rfl (WeakL.refl _) rfl (c_benchmake_Stream_Flip (a := a2) (by omega) (by omega)) (fun h M' hh => by
      obtain ⟨y, h1, h2⟩ := hh
      exact ⟨y, a2 + 1, h1, by omega, by rw [h2]; rfl⟩)⟩) ?_
     rintro _ _ ⟨y, a3, rfl, ha3, rfl⟩
     refine dp rfl (pop_picko rfl (.inr ⟨_, rfl, fun h => by simp_all⟩) (.inl rfl)) ?_
     refine dn ?_
     refine hw_cond rfl (fun h17 => ?_) (fun h18 => ?_)
     ·try simp at h17
      have ho0 : 0 < out.length := by simp_all
      refine hw_arrc (i := 1) rfl (fun h0 he => ?_) (fun ob off cap hv hcap => ?_)
      ·exfalso; have := congrArg List.length he; simp at this; subst this; simp at ho0
      subst hv
      refine hw_reg ?_
      refine dp rfl (pop_move rfl) ?_
      refine dp rfl (pop_move rfl) ?_
      refine dp rfl (pop_move rfl) ?_
      first
      | refine de rfl (eop_lenm (i := 0) ty30 rfl rfl ?_)
      | refine de rfl (eop_lenm (i := 1) ty30 rfl rfl ?_)
      | refine de rfl (eop_lenm (i := 2) ty30 rfl rfl ?_)
      | refine de rfl (eop_lenm (i := 3) ty30 rfl rfl ?_)
      first
      | refine de rfl (eop_callx (i := 0) ca33 rfl (WeakL.refl _) rfl (c_benchmake_Stream_Next (by first | assumption | omega | (simp; omega) | simp_all) (by first | assumption | omega | (simp; omega) | simp_all)) ?_)
      | refine de rfl (eop_callx (i := 1) ca33 rfl (WeakL.refl _) rfl (c_benchmake_Stream_Next (by first | assumption | omega | (simp; omega) | simp_all) (by first | assumption | omega | (simp; omega) | simp_all)) ?_)
      | refine de rfl (eop_callx (i := 2) ca33 rfl (WeakL.refl _) rfl (c_benchmake_Stream_Next (by first | assumption | omega | (simp; omega) | simp_all) (by first | assumption | omega | (simp; omega) | simp_all)) ?_)
      | refine de rfl (eop_callx (i := 3) ca33 rfl (WeakL.refl _) rfl (c_benchmake_Stream_Next (by first | assumption | omega | (simp; omega) | simp_all) (by first | assumption | omega | (simp; omega) | simp_all)) ?_)
      rintro _ _ ⟨y116, rfl, hy116, rfl⟩
      refine dp rfl (pop_idxraw (j := y116) ty30 ty47 rfl rfl rfl (by simp; omega)) ?_
      refine dp rfl (pop_assign rfl) ?_
      refine dn ?_
      obtain ⟨⟨x1, xv⟩, hx⟩ : ∃ x, out[y116]? = some x := ⟨_, List.getElem?_eq_getElem (by omega)⟩
      obtain ⟨hgx1, hgx2⟩ := g2 _ (List.mem_of_getElem? hx)
      dsimp only at hgx1 hgx2
      refine hw_reg ?_
      refine dp rfl (pop_move rfl) ?_
      first
      | refine de rfl (eop_callx (i := 0) ca33 rfl (WeakL.refl _) rfl (c_benchmake_Stream_Next (by first | assumption | omega | (simp; omega) | simp_all) (by first | assumption | omega | (simp; omega) | simp_all)) ?_)
      | refine de rfl (eop_callx (i := 1) ca33 rfl (WeakL.refl _) rfl (c_benchmake_Stream_Next (by first | assumption | omega | (simp; omega) | simp_all) (by first | assumption | omega | (simp; omega) | simp_all)) ?_)
      | refine de rfl (eop_callx (i := 2) ca33 rfl (WeakL.refl _) rfl (c_benchmake_Stream_Next (by first | assumption | omega | (simp; omega) | simp_all) (by first | assumption | omega | (simp; omega) | simp_all)) ?_)
      | refine de rfl (eop_callx (i := 3) ca33 rfl (WeakL.refl _) rfl (c_benchmake_Stream_Next (by first | assumption | omega | (simp; omega) | simp_all) (by first | assumption | omega | (simp; omega) | simp_all)) ?_)
      rintro _ _ ⟨y119, rfl, hy119, rfl⟩
      refine dn ?_
      refine hw_block ?_
      refine hw_reg ?_
      refine dp rfl (pop_eql rfl rfl) ?_
      refine dp rfl (pop_assign rfl) ?_
      refine dn ?_
      refine hw_cond rfl (fun h19 => ?_) (fun h20 => ?_)
      ·try simp at h19
       refine hw_draw1 (fun M => ∃ i : Nat, M[i]? = some (.arr (.slice (some ⟨ob, off, none⟩) (out.map rDl).length cap) 5 (out.map rDl))) [6, 13] mixed ?_
       refine ahp 0 rfl rfl (by kernel_rfl) (by kernel_rfl) (pop_move rfl) ?_
       refine ahp 1 rfl rfl (by kernel_rfl) (by kernel_rfl) (pop_move rfl) ?_
       refine ahp 2 rfl rfl (by kernel_rfl) (by kernel_rfl) (pop_move rfl) ?_
       refine ahp 3 rfl rfl (by kernel_rfl) (by kernel_rfl) (pop_move rfl) ?_
       refine ahp 4 rfl rfl (by kernel_rfl) (by kernel_rfl) ((by first | exact pop_nilCheck rfl | exact pop_nilCheck_raw rfl)) ?_
       refine ahp 5 rfl rfl (by kernel_rfl) (by kernel_rfl) ((by first | exact pop_fieldAddr ty47 rfl ty9 (by decide) rfl | exact pop_fieldAddr_raw ty47 rfl ty9 (by decide) rfl)) ?_
       refine ahl 6 rfl rfl (by kernel_rfl) (by kernel_rfl) (by simp) ⟨1, rfl⟩ (fun M hM => by obtain ⟨i, hi⟩ := hM; exact eop_load_el (i := i) (j := y116) 0 ty9 rfl (by omega) hi hx rfl rfl ⟨rfl, rfl⟩) ?_
       refine ahp 7 rfl rfl (by kernel_rfl) (by kernel_rfl) (pop_buildSlice (hs := [_, _, _]) ty26 ty9 rfl rfl (by decide) (by decide) rfl) ?_
       refine ahp 9 rfl rfl (by kernel_rfl) (by kernel_rfl) (pop_move rfl) ?_
       refine ahp 10 rfl rfl (by kernel_rfl) (by kernel_rfl) (pop_move rfl) ?_
       refine ahp 11 rfl rfl (by kernel_rfl) (by kernel_rfl) ((by first | exact pop_nilCheck rfl | exact pop_nilCheck_raw rfl)) ?_
       refine ahp 12 rfl rfl (by kernel_rfl) (by kernel_rfl) ((by first | exact pop_fieldAddr ty47 rfl ty9 (by decide) rfl | exact pop_fieldAddr_raw ty47 rfl ty9 (by decide) rfl)) ?_
       refine ahl 13 rfl rfl (by kernel_rfl) (by kernel_rfl) (by simp) ⟨1, rfl⟩ (fun M hM => by obtain ⟨i, hi⟩ := hM; exact eop_load_el (i := i) (j := y116) 1 ty9 rfl (by omega) hi hx rfl rfl ⟨rfl, rfl⟩) ?_
       refine ahp 14 rfl rfl (by kernel_rfl) (by kernel_rfl) (pop_buildSlice (hs := [_, _, _]) ty26 ty9 rfl rfl (by decide) (by decide) rfl) ?_
       refine ahe 8 rfl (by kernel_rfl) ?_
       first
       | refine hop_e rfl (eop_callx (i := 0) ca27 rfl (WeakL.refl _) rfl (c_benchmake_Stream_Some (L := [_, _, _]) (by first | assumption | omega | (simp; omega) | simp_all) (by first | assumption | omega | (simp; omega) | simp_all) (by first | assumption | omega | (simp; omega) | simp_all)) ?_)
       | refine hop_e rfl (eop_callx (i := 1) ca27 rfl (WeakL.refl _) rfl (c_benchmake_Stream_Some (L := [_, _, _]) (by first | assumption | omega | (simp; omega) | simp_all) (by first | assumption | omega | (simp; omega) | simp_all) (by first | assumption | omega | (simp; omega) | simp_all)) ?_)
       | refine hop_e rfl (eop_callx (i := 2) ca27 rfl (WeakL.refl _) rfl (c_benchmake_Stream_Some (L := [_, _, _]) (by first | assumption | omega | (simp; omega) | simp_all) (by first | assumption | omega | (simp; omega) | simp_all) (by first | assumption | omega | (simp; omega) | simp_all)) ?_)
       | refine hop_e rfl (eop_callx (i := 3) ca27 rfl (WeakL.refl _) rfl (c_benchmake_Stream_Some (L := [_, _, _]) (by first | assumption | omega | (simp; omega) | simp_all) (by first | assumption | omega | (simp; omega) | simp_all) (by first | assumption | omega | (simp; omega) | simp_all)) ?_)
       rintro _ _ ⟨y169, rfl, hy169, rfl⟩
       refine ⟨fun _ => by first | exact .inl ⟨0, rfl⟩ | exact .inl ⟨1, rfl⟩ | exact .inl ⟨2, rfl⟩ | exact .inr (by simp [Before, Region.binds]), ?_⟩
       refine ahe 15 rfl (by kernel_rfl) ?_
       first
       | refine hop_e rfl (eop_callx (i := 0) ca27 rfl (WeakL.refl _) rfl (c_benchmake_Stream_Some (L := [_, _, _]) (by first | assumption | omega | (simp; omega) | simp_all) (by first | assumption | omega | (simp; omega) | simp_all) (by first | assumption | omega | (simp; omega) | simp_all)) ?_)
       | refine hop_e rfl (eop_callx (i := 1) ca27 rfl (WeakL.refl _) rfl (c_benchmake_Stream_Some (L := [_, _, _]) (by first | assumption | omega | (simp; omega) | simp_all) (by first | assumption | omega | (simp; omega) | simp_all) (by first | assumption | omega | (simp; omega) | simp_all)) ?_)
       | refine hop_e rfl (eop_callx (i := 2) ca27 rfl (WeakL.refl _) rfl (c_benchmake_Stream_Some (L := [_, _, _]) (by first | assumption | omega | (simp; omega) | simp_all) (by first | assumption | omega | (simp; omega) | simp_all) (by first | assumption | omega | (simp; omega) | simp_all)) ?_)
       | refine hop_e rfl (eop_callx (i := 3) ca27 rfl (WeakL.refl _) rfl (c_benchmake_Stream_Some (L := [_, _, _]) (by first | assumption | omega | (simp; omega) | simp_all) (by first | assumption | omega | (simp; omega) | simp_all) (by first | assumption | omega | (simp; omega) | simp_all)) ?_)
       rintro _ _ ⟨y176, rfl, hy176, rfl⟩
       refine ⟨fun _ => by first | exact .inl ⟨0, rfl⟩ | exact .inl ⟨1, rfl⟩ | exact .inl ⟨2, rfl⟩ | exact .inr (by simp [Before, Region.binds]), ?_⟩
       refine ahp 16 rfl rfl (by kernel_rfl) (by kernel_rfl) ((by first | exact pop_nilCheck rfl | exact pop_nilCheck_raw rfl)) ?_
       refine ahp 17 rfl rfl (by kernel_rfl) (by kernel_rfl) ((by first | exact pop_fieldAddr ty47 rfl ty9 (by decide) rfl | exact pop_fieldAddr_raw ty47 rfl ty9 (by decide) rfl)) ?_
       refine ahe 18 rfl (by kernel_rfl) ?_
       refine hop_e0 (eop_store_arr (i := 1) (j := y116) (f := 0) (y := rDl (x1, xv)) (y' := rDl (⟨y169, x1.By, x1.From, x1.To, x1.Gives⟩, xv)) ty9 rfl (by omega) rfl rfl (map_get hx) rfl rfl (by simp [hcells]) rfl ?_)
       refine ⟨fun _ => .inr (by simp [Before, Region.binds]), ?_⟩
       refine ahp 19 rfl rfl (by kernel_rfl) (by kernel_rfl) ((by first | exact pop_nilCheck rfl | exact pop_nilCheck_raw rfl)) ?_
       refine ahp 20 rfl rfl (by kernel_rfl) (by kernel_rfl) ((by first | exact pop_fieldAddr ty47 rfl ty9 (by decide) rfl | exact pop_fieldAddr_raw ty47 rfl ty9 (by decide) rfl)) ?_
       refine ahe 21 rfl (by kernel_rfl) ?_
       refine hop_e0 (eop_store_arr (i := 1) (j := y116) (f := 1) (y := rDl (⟨y169, x1.By, x1.From, x1.To, x1.Gives⟩, xv)) (y' := rDl (⟨y169, y176, x1.From, x1.To, x1.Gives⟩, xv)) ty9 rfl (by omega) rfl rfl (set_self (map_get hx)) rfl rfl (by simp [hcells]) rfl ?_)
       refine ⟨fun _ => .inr (by simp [Before, Region.binds]), ?_⟩
       refine ahz (by kernel_rfl) ?_
       refine blockQ_n ?_
       exact ⟨(out.set y116 (⟨y169, y176, x1.From, x1.To, x1.Gives⟩, xv), a3 + 4), ⟨by simp; omega, all_set (P := fun p : DlV => GoodDl1 p.1) (fun p hp => (g2 p hp).1) (⟨by simp at hy169; rcases hy169 with rfl | rfl | rfl; exact hgx1.id; exact nil_sh; (unfold Sh; simp), hgx1.len, hgx1.all⟩), by dsimp only; omega⟩, trivial, (by repeat (first | exact keeps_refl | refine keeps_upd rfl ?_ | refine keeps_loop rfl rfl ?_)), perm_eq (by dsimp only; rw [sDl_same (n := (⟨y169, y176, x1.From, x1.To, x1.Gives⟩, xv)) hx rfl, List.map_set]; simp only [List.set_set]; rfl)⟩
      ·try simp at h20
       refine hw_reg ?_
       refine dp rfl (pop_eql rfl rfl) ?_
       refine dp rfl (pop_assign rfl) ?_
       refine dn ?_
       refine hw_cond rfl (fun h21 => ?_) (fun h22 => ?_)
       ·try simp at h21
        refine hw_reg1 ?_
        refine dp rfl (pop_move rfl) ?_
        refine dp rfl (pop_move rfl) ?_
        refine dp rfl (pop_move rfl) ?_
        refine dp rfl ((by first | exact pop_nilCheck rfl | exact pop_nilCheck_raw rfl)) ?_
        refine dp rfl ((by first | exact pop_fieldAddr ty47 rfl ty44 (by decide) rfl | exact pop_fieldAddr_raw ty47 rfl ty44 (by decide) rfl)) ?_
        refine dp rfl ((by first | exact pop_fieldAddr ty44 rfl ty3 (by decide) rfl | exact pop_fieldAddr_raw ty44 rfl ty3 (by decide) rfl)) ?_
        refine de rfl (eop_load_el (i := 1) (j := y116) 3 ty3 rfl (by omega) rfl hx rfl rfl ?_)
        refine dp rfl (pop_buildSlice (hs := [_, _, _]) ty22 ty3 rfl rfl (by decide) (by decide) rfl) ?_
        first
        | refine de rfl (eop_callx (i := 0) ca24 rfl (WeakL.refl _) rfl (c_benchmake_Stream_Pick (L := [_, _, _]) (by first | assumption | omega | (simp; omega) | simp_all) (by first | assumption | omega | (simp; omega) | simp_all) (by first | assumption | omega | (simp; omega) | simp_all)) ?_)
        | refine de rfl (eop_callx (i := 1) ca24 rfl (WeakL.refl _) rfl (c_benchmake_Stream_Pick (L := [_, _, _]) (by first | assumption | omega | (simp; omega) | simp_all) (by first | assumption | omega | (simp; omega) | simp_all) (by first | assumption | omega | (simp; omega) | simp_all)) ?_)
        | refine de rfl (eop_callx (i := 2) ca24 rfl (WeakL.refl _) rfl (c_benchmake_Stream_Pick (L := [_, _, _]) (by first | assumption | omega | (simp; omega) | simp_all) (by first | assumption | omega | (simp; omega) | simp_all) (by first | assumption | omega | (simp; omega) | simp_all)) ?_)
        | refine de rfl (eop_callx (i := 3) ca24 rfl (WeakL.refl _) rfl (c_benchmake_Stream_Pick (L := [_, _, _]) (by first | assumption | omega | (simp; omega) | simp_all) (by first | assumption | omega | (simp; omega) | simp_all) (by first | assumption | omega | (simp; omega) | simp_all)) ?_)
        rintro _ _ ⟨y191, rfl, hy191, rfl⟩
        refine dp rfl ((by first | exact pop_nilCheck rfl | exact pop_nilCheck_raw rfl)) ?_
        refine dp rfl ((by first | exact pop_fieldAddr ty47 rfl ty44 (by decide) rfl | exact pop_fieldAddr_raw ty47 rfl ty44 (by decide) rfl)) ?_
        refine dp rfl ((by first | exact pop_fieldAddr ty44 rfl ty3 (by decide) rfl | exact pop_fieldAddr_raw ty44 rfl ty3 (by decide) rfl)) ?_
        refine de0 (eop_store_arr (i := 1) (j := y116) (f := 3) (y := rDl (x1, xv)) (y' := rDl (⟨x1.Id, x1.By, x1.From, y191, x1.Gives⟩, xv)) ty3 rfl (by omega) rfl rfl (map_get hx) rfl rfl (by simp [hcells]) rfl ?_)
        refine dn ?_
        refine blockQ_n ?_
        exact ⟨(out.set y116 (⟨x1.Id, x1.By, x1.From, y191, x1.Gives⟩, xv), a3 + 3), ⟨by simp; omega, all_set (P := fun p : DlV => GoodDl1 p.1) (fun p hp => (g2 p hp).1) (⟨hgx1.id, hgx1.len, hgx1.all⟩), by dsimp only; omega⟩, trivial, (by repeat (first | exact keeps_refl | refine keeps_upd rfl ?_ | refine keeps_loop rfl rfl ?_)), perm_eq (by dsimp only; rw [sDl_same (n := (⟨x1.Id, x1.By, x1.From, y191, x1.Gives⟩, xv)) hx rfl, List.map_set]; rfl)⟩
       ·try simp at h22
        refine hw_arrc (i := y116 + 2) (show (out.map sDl)[y116]? = some (.arr xv 3 (x1.Gives.map eGive)) from by rw [List.getElem?_map, hx]; rfl) (fun h0 he => ?_) (fun gb goff gcap hv2 hcap2 => ?_)
        ·exfalso; have := congrArg List.length he; simp at this; rw [this] at hgx2; simp at hgx2
        rw [List.length_map] at hv2 hcap2
        subst hv2
        refine hw_ghost (Ghost.perm (perm_erase (i := y116 + 2) (show (out.map sDl)[y116]? = some (.arr (.slice (some ⟨gb, goff, none⟩) x1.Gives.length gcap) 3 (x1.Gives.map eGive)) from by rw [List.getElem?_map, hx]; rfl))) ?_
        obtain ⟨g0, hg0x⟩ : ∃ g, x1.Gives[0]? = some g := ⟨_, List.getElem?_eq_getElem hgx2⟩
        refine hw_reg ?_
        refine dp rfl (pop_move rfl) ?_
        refine dp rfl ((by first | exact pop_nilCheck rfl | exact pop_nilCheck_raw rfl)) ?_
        refine dp rfl ((by first | exact pop_fieldAddr ty47 rfl ty45 (by decide) rfl | exact pop_fieldAddr_raw ty47 rfl ty45 (by decide) rfl)) ?_
        refine de rfl (eop_load_el (i := 2) (j := y116) 4 ty45 rfl (by omega) rfl hx rfl rfl ?_)
        refine dp rfl (pop_idxraw (j := 0) ty45 ty69 rfl rfl rfl hgx2) ?_
        refine dp rfl (pop_assign rfl) ?_
        refine dn ?_
        refine hw_draw1 (fun M => ∃ i : Nat, M[i]? = some (.arr (.slice (some ⟨gb, goff, none⟩) x1.Gives.length gcap) 3 (x1.Gives.map eGive))) [7, 14, 18, 25] mixed ?_
        refine ahp 0 rfl rfl (by kernel_rfl) (by kernel_rfl) (pop_move rfl) ?_
        refine ahp 1 rfl rfl (by kernel_rfl) (by kernel_rfl) (pop_move rfl) ?_
        refine ahp 2 rfl rfl (by kernel_rfl) (by kernel_rfl) (pop_move rfl) ?_
        refine ahp 3 rfl rfl (by kernel_rfl) (by kernel_rfl) (pop_move rfl) ?_
        refine ahp 4 rfl rfl (by kernel_rfl) (by kernel_rfl) (pop_move rfl) ?_
        refine ahp 5 rfl rfl (by kernel_rfl) (by kernel_rfl) ((by first | exact pop_nilCheck rfl | exact pop_nilCheck_raw rfl)) ?_
        refine ahp 6 rfl rfl (by kernel_rfl) (by kernel_rfl) ((by first | exact pop_fieldAddr ty69 rfl ty9 (by decide) rfl | exact pop_fieldAddr_raw ty69 rfl ty9 (by decide) rfl)) ?_
        refine ahl 7 rfl rfl (by kernel_rfl) (by kernel_rfl) (by simp) (by first | exact ⟨0, rfl⟩ | exact ⟨1, rfl⟩) (fun M hM => by obtain ⟨i, hi⟩ := hM; exact eop_load_el (i := i) (j := 0) (y := g0) 0 ty9 rfl (by omega) hi hg0x rfl rfl ⟨rfl, rfl⟩) ?_
        refine ahp 8 rfl rfl (by kernel_rfl) (by kernel_rfl) (pop_buildSlice (hs := [_, _]) ty26 ty9 rfl rfl (by decide) (by decide) rfl) ?_
        refine ahp 10 rfl rfl (by kernel_rfl) (by kernel_rfl) (pop_move rfl) ?_
        refine ahp 11 rfl rfl (by kernel_rfl) (by kernel_rfl) (pop_move rfl) ?_
        refine ahp 12 rfl rfl (by kernel_rfl) (by kernel_rfl) ((by first | exact pop_nilCheck rfl | exact pop_nilCheck_raw rfl)) ?_
        refine ahp 13 rfl rfl (by kernel_rfl) (by kernel_rfl) ((by first | exact pop_fieldAddr ty69 rfl ty9 (by decide) rfl | exact pop_fieldAddr_raw ty69 rfl ty9 (by decide) rfl)) ?_
        refine ahl 14 rfl rfl (by kernel_rfl) (by kernel_rfl) (by simp) (by first | exact ⟨0, rfl⟩ | exact ⟨1, rfl⟩) (fun M hM => by obtain ⟨i, hi⟩ := hM; exact eop_load_el (i := i) (j := 0) (y := g0) 1 ty9 rfl (by omega) hi hg0x rfl rfl ⟨rfl, rfl⟩) ?_
        refine ahp 15 rfl rfl (by kernel_rfl) (by kernel_rfl) (pop_move rfl) ?_
        refine ahp 16 rfl rfl (by kernel_rfl) (by kernel_rfl) ((by first | exact pop_nilCheck rfl | exact pop_nilCheck_raw rfl)) ?_
        refine ahp 17 rfl rfl (by kernel_rfl) (by kernel_rfl) ((by first | exact pop_fieldAddr ty69 rfl ty9 (by decide) rfl | exact pop_fieldAddr_raw ty69 rfl ty9 (by decide) rfl)) ?_
        refine ahl 18 rfl rfl (by kernel_rfl) (by kernel_rfl) (by simp) (by first | exact ⟨0, rfl⟩ | exact ⟨1, rfl⟩) (fun M hM => by obtain ⟨i, hi⟩ := hM; exact eop_load_el (i := i) (j := 0) (y := g0) 2 ty9 rfl (by omega) hi hg0x rfl rfl ⟨rfl, rfl⟩) ?_
        refine ahp 19 rfl rfl (by kernel_rfl) (by kernel_rfl) (pop_buildSlice (hs := [_, _]) ty26 ty9 rfl rfl (by decide) (by decide) rfl) ?_
        refine ahp 21 rfl rfl (by kernel_rfl) (by kernel_rfl) (pop_move rfl) ?_
        refine ahp 22 rfl rfl (by kernel_rfl) (by kernel_rfl) (pop_move rfl) ?_
        refine ahp 23 rfl rfl (by kernel_rfl) (by kernel_rfl) ((by first | exact pop_nilCheck rfl | exact pop_nilCheck_raw rfl)) ?_
        refine ahp 24 rfl rfl (by kernel_rfl) (by kernel_rfl) ((by first | exact pop_fieldAddr ty69 rfl ty9 (by decide) rfl | exact pop_fieldAddr_raw ty69 rfl ty9 (by decide) rfl)) ?_
        refine ahl 25 rfl rfl (by kernel_rfl) (by kernel_rfl) (by simp) (by first | exact ⟨0, rfl⟩ | exact ⟨1, rfl⟩) (fun M hM => by obtain ⟨i, hi⟩ := hM; exact eop_load_el (i := i) (j := 0) (y := g0) 2 ty9 rfl (by omega) hi hg0x rfl rfl ⟨rfl, rfl⟩) ?_
        refine ahp 26 rfl rfl (by kernel_rfl) (by kernel_rfl) (pop_buildSlice (hs := [_, _]) ty26 ty9 rfl rfl (by decide) (by decide) rfl) ?_
        refine ahe 9 rfl (by kernel_rfl) ?_
        first
        | refine hop_e rfl (eop_callx (i := 0) ca27 rfl (WeakL.refl _) rfl (c_benchmake_Stream_Some (L := [_, _]) (by first | assumption | omega | (simp; omega) | simp_all) (by first | assumption | omega | (simp; omega) | simp_all) (by first | assumption | omega | (simp; omega) | simp_all)) ?_)
        | refine hop_e rfl (eop_callx (i := 1) ca27 rfl (WeakL.refl _) rfl (c_benchmake_Stream_Some (L := [_, _]) (by first | assumption | omega | (simp; omega) | simp_all) (by first | assumption | omega | (simp; omega) | simp_all) (by first | assumption | omega | (simp; omega) | simp_all)) ?_)
        | refine hop_e rfl (eop_callx (i := 2) ca27 rfl (WeakL.refl _) rfl (c_benchmake_Stream_Some (L := [_, _]) (by first | assumption | omega | (simp; omega) | simp_all) (by first | assumption | omega | (simp; omega) | simp_all) (by first | assumption | omega | (simp; omega) | simp_all)) ?_)
        | refine hop_e rfl (eop_callx (i := 3) ca27 rfl (WeakL.refl _) rfl (c_benchmake_Stream_Some (L := [_, _]) (by first | assumption | omega | (simp; omega) | simp_all) (by first | assumption | omega | (simp; omega) | simp_all) (by first | assumption | omega | (simp; omega) | simp_all)) ?_)
        rintro _ _ ⟨y134, rfl, hy134, rfl⟩
        refine ⟨fun _ => by first | exact .inl ⟨0, rfl⟩ | exact .inl ⟨1, rfl⟩ | exact .inl ⟨2, rfl⟩ | exact .inr (by simp [Before, Region.binds]), ?_⟩
        refine ahe 20 rfl (by kernel_rfl) ?_
        first
        | refine hop_e rfl (eop_callx (i := 0) ca27 rfl (WeakL.refl _) rfl (c_benchmake_Stream_Some (L := [_, _]) (by first | assumption | omega | (simp; omega) | simp_all) (by first | assumption | omega | (simp; omega) | simp_all) (by first | assumption | omega | (simp; omega) | simp_all)) ?_)
        | refine hop_e rfl (eop_callx (i := 1) ca27 rfl (WeakL.refl _) rfl (c_benchmake_Stream_Some (L := [_, _]) (by first | assumption | omega | (simp; omega) | simp_all) (by first | assumption | omega | (simp; omega) | simp_all) (by first | assumption | omega | (simp; omega) | simp_all)) ?_)
        | refine hop_e rfl (eop_callx (i := 2) ca27 rfl (WeakL.refl _) rfl (c_benchmake_Stream_Some (L := [_, _]) (by first | assumption | omega | (simp; omega) | simp_all) (by first | assumption | omega | (simp; omega) | simp_all) (by first | assumption | omega | (simp; omega) | simp_all)) ?_)
        | refine hop_e rfl (eop_callx (i := 3) ca27 rfl (WeakL.refl _) rfl (c_benchmake_Stream_Some (L := [_, _]) (by first | assumption | omega | (simp; omega) | simp_all) (by first | assumption | omega | (simp; omega) | simp_all) (by first | assumption | omega | (simp; omega) | simp_all)) ?_)
        rintro _ _ ⟨y145, rfl, hy145, rfl⟩
        refine ⟨fun _ => by first | exact .inl ⟨0, rfl⟩ | exact .inl ⟨1, rfl⟩ | exact .inl ⟨2, rfl⟩ | exact .inr (by simp [Before, Region.binds]), ?_⟩
        refine ahe 27 rfl (by kernel_rfl) ?_
        first
        | refine hop_e rfl (eop_callx (i := 0) ca27 rfl (WeakL.refl _) rfl (c_benchmake_Stream_Some (L := [_, _]) (by first | assumption | omega | (simp; omega) | simp_all) (by first | assumption | omega | (simp; omega) | simp_all) (by first | assumption | omega | (simp; omega) | simp_all)) ?_)
        | refine hop_e rfl (eop_callx (i := 1) ca27 rfl (WeakL.refl _) rfl (c_benchmake_Stream_Some (L := [_, _]) (by first | assumption | omega | (simp; omega) | simp_all) (by first | assumption | omega | (simp; omega) | simp_all) (by first | assumption | omega | (simp; omega) | simp_all)) ?_)
        | refine hop_e rfl (eop_callx (i := 2) ca27 rfl (WeakL.refl _) rfl (c_benchmake_Stream_Some (L := [_, _]) (by first | assumption | omega | (simp; omega) | simp_all) (by first | assumption | omega | (simp; omega) | simp_all) (by first | assumption | omega | (simp; omega) | simp_all)) ?_)
        | refine hop_e rfl (eop_callx (i := 3) ca27 rfl (WeakL.refl _) rfl (c_benchmake_Stream_Some (L := [_, _]) (by first | assumption | omega | (simp; omega) | simp_all) (by first | assumption | omega | (simp; omega) | simp_all) (by first | assumption | omega | (simp; omega) | simp_all)) ?_)
        rintro _ _ ⟨y152, rfl, hy152, rfl⟩
        refine ⟨fun _ => by first | exact .inl ⟨0, rfl⟩ | exact .inl ⟨1, rfl⟩ | exact .inl ⟨2, rfl⟩ | exact .inr (by simp [Before, Region.binds]), ?_⟩
        refine ahp 28 rfl rfl (by kernel_rfl) (by kernel_rfl) ((by first | exact pop_nilCheck rfl | exact pop_nilCheck_raw rfl)) ?_
        refine ahp 29 rfl rfl (by kernel_rfl) (by kernel_rfl) ((by first | exact pop_fieldAddr ty69 rfl ty9 (by decide) rfl | exact pop_fieldAddr_raw ty69 rfl ty9 (by decide) rfl)) ?_
        refine ahe 30 rfl (by kernel_rfl) ?_
        first
        | refine hop_e0 (eop_store_arr (i := 0) (j := 0) (f := 0) (y := eGive g0) (y' := eGive ⟨y134, g0.From, g0.To⟩) ty9 rfl (by omega) rfl rfl (map_get hg0x) rfl rfl (by simp [hcells]) rfl ?_)
        | refine hop_e0 (eop_store_arr (i := 1) (j := 0) (f := 0) (y := eGive g0) (y' := eGive ⟨y134, g0.From, g0.To⟩) ty9 rfl (by omega) rfl rfl (map_get hg0x) rfl rfl (by simp [hcells]) rfl ?_)
        refine ⟨fun _ => .inr (by simp [Before, Region.binds]), ?_⟩
        refine ahp 31 rfl rfl (by kernel_rfl) (by kernel_rfl) ((by first | exact pop_nilCheck rfl | exact pop_nilCheck_raw rfl)) ?_
        refine ahp 32 rfl rfl (by kernel_rfl) (by kernel_rfl) ((by first | exact pop_fieldAddr ty69 rfl ty9 (by decide) rfl | exact pop_fieldAddr_raw ty69 rfl ty9 (by decide) rfl)) ?_
        refine ahe 33 rfl (by kernel_rfl) ?_
        first
        | refine hop_e0 (eop_store_arr (i := 0) (j := 0) (f := 1) (y := eGive ⟨y134, g0.From, g0.To⟩) (y' := eGive ⟨y134, y145, g0.To⟩) ty9 rfl (by omega) rfl rfl (set_self (map_get hg0x)) rfl rfl (by simp [hcells]) rfl ?_)
        | refine hop_e0 (eop_store_arr (i := 1) (j := 0) (f := 1) (y := eGive ⟨y134, g0.From, g0.To⟩) (y' := eGive ⟨y134, y145, g0.To⟩) ty9 rfl (by omega) rfl rfl (set_self (map_get hg0x)) rfl rfl (by simp [hcells]) rfl ?_)
        refine ⟨fun _ => .inr (by simp [Before, Region.binds]), ?_⟩
        refine ahp 34 rfl rfl (by kernel_rfl) (by kernel_rfl) ((by first | exact pop_nilCheck rfl | exact pop_nilCheck_raw rfl)) ?_
        refine ahp 35 rfl rfl (by kernel_rfl) (by kernel_rfl) ((by first | exact pop_fieldAddr ty69 rfl ty9 (by decide) rfl | exact pop_fieldAddr_raw ty69 rfl ty9 (by decide) rfl)) ?_
        refine ahe 36 rfl (by kernel_rfl) ?_
        first
        | refine hop_e0 (eop_store_arr (i := 0) (j := 0) (f := 2) (y := eGive ⟨y134, y145, g0.To⟩) (y' := eGive ⟨y134, y145, y152⟩) ty9 rfl (by omega) rfl rfl (set_self (set_self (map_get hg0x))) rfl rfl (by simp [hcells]) rfl ?_)
        | refine hop_e0 (eop_store_arr (i := 1) (j := 0) (f := 2) (y := eGive ⟨y134, y145, g0.To⟩) (y' := eGive ⟨y134, y145, y152⟩) ty9 rfl (by omega) rfl rfl (set_self (set_self (map_get hg0x))) rfl rfl (by simp [hcells]) rfl ?_)
        refine ⟨fun _ => .inr (by simp [Before, Region.binds]), ?_⟩
        refine ahz (by kernel_rfl) ?_
        refine blockQ_n ?_
        exact ⟨(out.set y116 (⟨x1.Id, x1.By, x1.From, x1.To, x1.Gives.set 0 ⟨y134, y145, y152⟩⟩, .slice (some ⟨gb, goff, none⟩) x1.Gives.length gcap), a3 + 5), ⟨by simp; omega, all_set (P := fun p : DlV => GoodDl1 p.1) (fun p hp => (g2 p hp).1) (⟨hgx1.id, by simpa using hgx1.len, all_set (P := fun g : GiveS => Sh g.Player) hgx1.all (by simp at hy134; rcases hy134 with rfl | rfl; exact hgx1.all g0 (List.mem_of_getElem? hg0x); exact nil_sh)⟩), by dsimp only; omega⟩, trivial, (by repeat (first | exact keeps_refl | refine keeps_upd rfl ?_ | refine keeps_loop rfl rfl ?_)), by
         dsimp only
         rw [rDl_same (n := (⟨x1.Id, x1.By, x1.From, x1.To, x1.Gives.set 0 ⟨y134, y145, y152⟩⟩, .slice (some ⟨gb, goff, none⟩) x1.Gives.length gcap)) hx rfl]
         refine List.Perm.trans ?_ (dl_back (n := (⟨x1.Id, x1.By, x1.From, x1.To, x1.Gives.set 0 ⟨y134, y145, y152⟩⟩, .slice (some ⟨gb, goff, none⟩) x1.Gives.length gcap)) (by omega))
         refine List.Perm.trans (perm_eq ?_) (List.Perm.swap _ _ _)
         simp only [sDl, List.map_set, List.set_set]; rfl⟩
     ·try simp at h18
      refine hw_skip ?_
      exact ⟨(out, a3), ⟨by dsimp only; omega, fun p hp => (g2 p hp).1, by dsimp only; omega⟩, trivial, (by repeat (first | exact keeps_refl | refine keeps_upd rfl ?_ | refine keeps_loop rfl rfl ?_)), perm_eq rfl⟩
    ·intro q5 hq5
     obtain ⟨k1, a4⟩ := q5
     dsimp only at hq5
     obtain ⟨q1, q2, q3⟩ := hq5
     refine hw_ghost (Ghost.of_eq (M' := [St b l a4] ++ .arr u 5 (([] : List DealS).map eDeal ++ k1.map fun p : DlV => HVal.agg [.str p.1.Id, .str p.1.By, .int .i64 p.1.From, .int .i64 p.1.To, .raw p.2]) :: k1.map fun p : DlV => MObj.arr p.2 3 ((DealS.Gives p.1).map eGive)) rfl) ?_
     refine hw_ghost (Ghost.fz_each (A := [St b l a4]) (enc := eDeal) (raw := fun y v => HVal.agg [.str y.Id, .str y.By, .int .i64 y.From, .int .i64 y.To, .raw v]) (cs := fun y v => [HVal.str y.Id, .str y.By, .int .i64 y.From, .int .i64 y.To, .raw v]) (st := DealS.Gives) (eb := eGive) (j := 4) (fun _ _ => rfl) (fun _ _ => rfl) (fun _ _ => rfl) k1 []) ?_
     refine hw_reg ?_
     refine dp rfl (pop_move rfl) ?_
     refine dp rfl (pop_assign rfl) ?_
     refine dn ?_
     refine hw_ret ?_
     first
     | exact ⟨_, _, Ghost.sub (Sub.refl _), _, .slice 5 [], rfl, weak_nil 5, [], a, rfl, ⟨by simp, by simp⟩, fun _ => rfl, by omega, rfl⟩
     | exact ret_g (Ghost.fa 6 (i := 1) rfl rfl) rfl ⟨k1.map (·.1), a4, by simp, ⟨by simpa using q1, fun x hx => by
        obtain ⟨p, hp, rfl⟩ := List.mem_map.1 hx; exact q2 p hp⟩, fun e => absurd (congrArg List.length e) (by simp_all), by omega, rfl⟩
end Go.Proofs.YtdjpppifnmjhoaaGreatDoor
end
section
namespace Go.HL
variable {P : Program}
end Go.HL
end
section
namespace Go.Proofs.YtdjpppifnmjhoaaGreatDoor
open Go.HL
set_option maxRecDepth 100000
set_option linter.unusedVariables false
set_option linter.unusedSimpArgs false
end Go.Proofs.YtdjpppifnmjhoaaGreatDoor
end
section
namespace Go.HL
variable {P : Program}
/-- What a rune reads as. -/
def runeS (m : Int) : List UInt8 := (Utf8.encode m).data.toList
theorem runeS_len (m : Int) : (runeS m).length ≤ 4 := by
 show (Utf8.encode m).data.toList.length ≤ 4
 rw [Array.length_toList]; exact encode_size_le m
theorem pop_runeS [Tracks] {e : Env} {dst : Option Tmp} {ty : TypeId} {pos : String} {af : Array Edge} {g : Option (Nat × Bool)} {x : Operand} {t d' : TypeId} {k : IntKind} {m : Int} {s1 s2 b1 b2 : Nat} {z1 z2 : Value} {ds : TD} (hs : Fits P t ds s1 b1 z1) (hf : Fits P d' .str s2 b2 z2) (hx : evalO e x = some (.int k m)) :
 POp P e ⟨dst, .convert t d' x, ty, pos, af, g⟩ (.str (runeS m)) :=
 POp.of_val fun I a w ho => ⟨.string (Utf8.encode m), by
  have h1 := (ho.one (x := x) (by simp [Op.operands]) hx).int_inv
  obtain ⟨u, hu, _⟩ := hs.underlying
  simp only [execOp, h1, convert, Sem.run_bind, run_underlying hu, run_underlying hf.strD, Result.andThen_ok, Sem.run_pure, Conv.intToString], by
  have : Value.string (Utf8.encode m) = .string ⟨(runeS m).toArray⟩ := by simp [runeS]
  rw [this]; exact .str _⟩
end Go.HL
end
section
namespace Go.Proofs.YtdjpppifnmjhoaaGreatDoor
open Go.HL
set_option maxRecDepth 100000
set_option linter.unusedVariables false
set_option linter.unusedSimpArgs false
/-- (*benchwarmer/benchmake.Stream).Changed -/
theorem c_benchmake_Stream_Changed [Tracks] {b : Nat} {l : List Int} {a : Nat} {t w : Str} (ha : a ≤ 900000) (ht : t.length ≤ 1000000) (hw : w.length ≤ 1000000) : Con Tryz.prog 58 [pAt b, .str t, .str w] [St b l a] (fun x M' => ∃ (y : Str) (a' : Nat), x = .str y ∧ y.length ≤ t.length + w.length + 4 ∧ a' ≤ a + 3 ∧ M' = [St b l a']) := by
 refine Con.of_body Tryz.func58 rfl Tryz.ntmps58 rfl rfl ?_
 refine hw_reg ?_
 refine dp rfl (pop_assign rfl) ?_
 refine dn ?_
 refine hw_seq ?_
 refine hw_reg ?_
 refine dp rfl (pop_move rfl) ?_
 refine dp rfl (pop_eqls rfl rfl) ?_
 refine dp rfl (pop_move rfl) ?_
 refine dg rfl rfl (fun hc => ⟨_, OpenTo.refl _, pop_move rfl⟩) ?_
 refine dg rfl rfl (fun hc => ⟨_, OpenTo.upd (t := 12) rfl (by first | exact hc | simp_all) (OpenTo.refl _), pop_eqls rfl rfl⟩) ?_
 refine dp rfl (pop_picko rfl (.inl rfl) (.inr ⟨_, rfl, fun h => by simp_all⟩)) ?_
 refine dn ?_
 refine hw_cond rfl (fun h1 => ?_) (fun h2 => ?_)
 ·try simp at h1
  refine hw_reg ?_
  refine dp rfl (pop_move rfl) ?_
  refine dp rfl (pop_assign rfl) ?_
  refine dn ?_
  refine hw_ret ?_
  first
  | exact ret_q rfl ⟨_, a, rfl, by omega, by omega, rfl⟩
  | (refine ret_q rfl ⟨_, a + 1 + 1 + 1, rfl, ?_, by omega, rfl⟩
     simp only [List.length_append, List.length_drop, List.length_take]
     (try simp only [List.getD_eq_getElem?_getD])
     omega)
 ·try simp at h2
  refine hw_skip ?_
  refine seqQ_n ?_
  refine hw_reg ?_
  refine dp rfl (pop_move rfl) ?_
  refine dp rfl (pop_move rfl) ?_
  refine dp rfl (pop_lens ty9 rfl) ?_
  first
  | refine de rfl (eop_callx (i := 0) ca33 rfl (WeakL.refl _) rfl (c_benchmake_Stream_Next (by first | assumption | omega | (simp; omega) | simp_all) (by first | assumption | omega | (simp; omega) | simp_all)) ?_)
  | refine de rfl (eop_callx (i := 1) ca33 rfl (WeakL.refl _) rfl (c_benchmake_Stream_Next (by first | assumption | omega | (simp; omega) | simp_all) (by first | assumption | omega | (simp; omega) | simp_all)) ?_)
  | refine de rfl (eop_callx (i := 2) ca33 rfl (WeakL.refl _) rfl (c_benchmake_Stream_Next (by first | assumption | omega | (simp; omega) | simp_all) (by first | assumption | omega | (simp; omega) | simp_all)) ?_)
  | refine de rfl (eop_callx (i := 3) ca33 rfl (WeakL.refl _) rfl (c_benchmake_Stream_Next (by first | assumption | omega | (simp; omega) | simp_all) (by first | assumption | omega | (simp; omega) | simp_all)) ?_)
  rintro _ _ ⟨y19, rfl, hy19, rfl⟩
  refine dp rfl (pop_assign rfl) ?_
  refine dn ?_
  have hlt : y19 < t.length := by have := List.length_pos_iff.2 h2.1; omega
  have hwp := List.length_pos_iff.2 h2.2
  refine hw_reg ?_
  refine dp rfl (pop_move rfl) ?_
  refine dp rfl (pop_move rfl) ?_
  refine dp rfl (pop_move rfl) ?_
  refine dp rfl (pop_lens ty9 rfl) ?_
  first
  | refine de rfl (eop_callx (i := 0) ca33 rfl (WeakL.refl _) rfl (c_benchmake_Stream_Next (by first | assumption | omega | (simp; omega) | simp_all) (by first | assumption | omega | (simp; omega) | simp_all)) ?_)
  | refine de rfl (eop_callx (i := 1) ca33 rfl (WeakL.refl _) rfl (c_benchmake_Stream_Next (by first | assumption | omega | (simp; omega) | simp_all) (by first | assumption | omega | (simp; omega) | simp_all)) ?_)
  | refine de rfl (eop_callx (i := 2) ca33 rfl (WeakL.refl _) rfl (c_benchmake_Stream_Next (by first | assumption | omega | (simp; omega) | simp_all) (by first | assumption | omega | (simp; omega) | simp_all)) ?_)
  | refine de rfl (eop_callx (i := 3) ca33 rfl (WeakL.refl _) rfl (c_benchmake_Stream_Next (by first | assumption | omega | (simp; omega) | simp_all) (by first | assumption | omega | (simp; omega) | simp_all)) ?_)
  rintro _ _ ⟨y24, rfl, hy24, rfl⟩
  refine dp rfl (pop_indexs (j := y24) (b := w.getD y24 0) ty9 rfl rfl rfl (getD_some (by omega))) ?_
  refine dp rfl (pop_assign rfl) ?_
  refine dn ?_
  refine hw_seq ?_
  have hru : (runeS (IntKind.i32.wrap (((w[y24]?.getD 0).toNat : Nat) : Int))).length ≤ 4 := runeS_len _
  refine hw_reg ?_
  refine dp rfl (pop_move rfl) ?_
  first
  | refine de rfl (eop_callx (i := 0) ca33 rfl (WeakL.refl _) rfl (c_benchmake_Stream_Next (by first | assumption | omega | (simp; omega) | simp_all) (by first | assumption | omega | (simp; omega) | simp_all)) ?_)
  | refine de rfl (eop_callx (i := 1) ca33 rfl (WeakL.refl _) rfl (c_benchmake_Stream_Next (by first | assumption | omega | (simp; omega) | simp_all) (by first | assumption | omega | (simp; omega) | simp_all)) ?_)
  | refine de rfl (eop_callx (i := 2) ca33 rfl (WeakL.refl _) rfl (c_benchmake_Stream_Next (by first | assumption | omega | (simp; omega) | simp_all) (by first | assumption | omega | (simp; omega) | simp_all)) ?_)
  | refine de rfl (eop_callx (i := 3) ca33 rfl (WeakL.refl _) rfl (c_benchmake_Stream_Next (by first | assumption | omega | (simp; omega) | simp_all) (by first | assumption | omega | (simp; omega) | simp_all)) ?_)
  rintro _ _ ⟨y27, rfl, hy27, rfl⟩
  refine dn ?_
  refine hw_block ?_
  refine hw_reg ?_
  refine dp rfl (pop_eql rfl rfl) ?_
  refine dp rfl (pop_assign rfl) ?_
  refine dn ?_
  refine hw_cond rfl (fun h3 => ?_) (fun h4 => ?_)
  ·try simp at h3
   refine hw_draw (fun _ => True) [] mixed ?_
   refine ahp 0 rfl rfl (by kernel_rfl) (by kernel_rfl) (pop_move rfl) ?_
   refine ahp 1 rfl rfl (by kernel_rfl) (by kernel_rfl) (pop_move rfl) ?_
   refine ahp 2 rfl rfl (by kernel_rfl) (by kernel_rfl) (pop_slices ty9 rfl rfl ⟨_, _, rfl, rfl⟩ (by omega) (by omega)) ?_
   refine ahp 3 rfl rfl (by kernel_rfl) (by kernel_rfl) (pop_move rfl) ?_
   refine ahp 4 rfl rfl (by kernel_rfl) (by kernel_rfl) (pop_conv ty5 ty21 rfl) ?_
   refine ahp 5 rfl rfl (by kernel_rfl) (by kernel_rfl) (pop_runeS ty21 ty9 rfl) ?_
   refine ahp 6 rfl rfl (by kernel_rfl) (by kernel_rfl) (pop_adds rfl rfl (by first | assumption | (simp; omega))) ?_
   refine ahp 7 rfl rfl (by kernel_rfl) (by kernel_rfl) (pop_move rfl) ?_
   refine ahp 8 rfl rfl (by kernel_rfl) (by kernel_rfl) (pop_move rfl) ?_
   refine ahp 9 rfl rfl (by kernel_rfl) (by kernel_rfl) (pop_add64 rfl rfl (by omega) (by omega)) ?_
   refine ahp 10 rfl rfl (by kernel_rfl) (by kernel_rfl) (pop_slices (l := y19 + 1) (h := t.length) ty9 rfl ⟨_, _, rfl, by omega⟩ rfl (by omega) (by omega)) ?_
   refine ahp 11 rfl rfl (by kernel_rfl) (by kernel_rfl) (pop_adds rfl rfl (by first | assumption | (simp; omega))) ?_
   refine ahp 12 rfl rfl (by kernel_rfl) (by kernel_rfl) (pop_assign rfl) ?_
   refine ahz (by kernel_rfl) ?_
   refine hw_ret ?_
   first
   | exact ret_q rfl ⟨_, a, rfl, by omega, by omega, rfl⟩
   | (refine ret_q rfl ⟨_, a + 1 + 1 + 1, rfl, ?_, by omega, rfl⟩
      simp only [List.length_append, List.length_drop, List.length_take]
      (try simp only [List.getD_eq_getElem?_getD])
      omega)
  ·try simp at h4
   refine hw_reg ?_
   refine dp rfl (pop_eql rfl rfl) ?_
   refine dp rfl (pop_assign rfl) ?_
   refine dn ?_
   refine hw_cond rfl (fun h5 => ?_) (fun h6 => ?_)
   ·try simp at h5
    refine hw_draw (fun _ => True) [] mixed ?_
    refine ahp 0 rfl rfl (by kernel_rfl) (by kernel_rfl) (pop_move rfl) ?_
    refine ahp 1 rfl rfl (by kernel_rfl) (by kernel_rfl) (pop_move rfl) ?_
    refine ahp 2 rfl rfl (by kernel_rfl) (by kernel_rfl) (pop_slices ty9 rfl rfl ⟨_, _, rfl, rfl⟩ (by omega) (by omega)) ?_
    refine ahp 3 rfl rfl (by kernel_rfl) (by kernel_rfl) (pop_move rfl) ?_
    refine ahp 4 rfl rfl (by kernel_rfl) (by kernel_rfl) (pop_conv ty5 ty21 rfl) ?_
    refine ahp 5 rfl rfl (by kernel_rfl) (by kernel_rfl) (pop_runeS ty21 ty9 rfl) ?_
    refine ahp 6 rfl rfl (by kernel_rfl) (by kernel_rfl) (pop_adds rfl rfl (by first | assumption | (simp; omega))) ?_
    refine ahp 7 rfl rfl (by kernel_rfl) (by kernel_rfl) (pop_move rfl) ?_
    refine ahp 8 rfl rfl (by kernel_rfl) (by kernel_rfl) (pop_move rfl) ?_
    refine ahp 9 rfl rfl (by kernel_rfl) (by kernel_rfl) (pop_slices ty9 rfl ⟨_, _, rfl, rfl⟩ rfl (by omega) (by omega)) ?_
    refine ahp 10 rfl rfl (by kernel_rfl) (by kernel_rfl) (pop_adds rfl rfl (by first | assumption | (simp; omega))) ?_
    refine ahp 11 rfl rfl (by kernel_rfl) (by kernel_rfl) (pop_assign rfl) ?_
    refine ahz (by kernel_rfl) ?_
    refine hw_ret ?_
    first
    | exact ret_q rfl ⟨_, a, rfl, by omega, by omega, rfl⟩
    | (refine ret_q rfl ⟨_, a + 1 + 1 + 1, rfl, ?_, by omega, rfl⟩
       simp only [List.length_append, List.length_drop, List.length_take]
       (try simp only [List.getD_eq_getElem?_getD])
       omega)
   ·try simp at h6
    refine hw_skip ?_
    refine blockQ_n ?_
    refine seqQ_n ?_
    refine hw_draw (fun _ => True) [] mixed ?_
    refine ahp 0 rfl rfl (by kernel_rfl) (by kernel_rfl) (pop_move rfl) ?_
    refine ahp 1 rfl rfl (by kernel_rfl) (by kernel_rfl) (pop_move rfl) ?_
    refine ahp 2 rfl rfl (by kernel_rfl) (by kernel_rfl) (pop_slices ty9 rfl rfl ⟨_, _, rfl, rfl⟩ (by omega) (by omega)) ?_
    refine ahp 3 rfl rfl (by kernel_rfl) (by kernel_rfl) (pop_move rfl) ?_
    refine ahp 4 rfl rfl (by kernel_rfl) (by kernel_rfl) (pop_move rfl) ?_
    refine ahp 5 rfl rfl (by kernel_rfl) (by kernel_rfl) (pop_add64 rfl rfl (by omega) (by omega)) ?_
    refine ahp 6 rfl rfl (by kernel_rfl) (by kernel_rfl) (pop_slices (l := y19 + 1) (h := t.length) ty9 rfl ⟨_, _, rfl, by omega⟩ rfl (by omega) (by omega)) ?_
    refine ahp 7 rfl rfl (by kernel_rfl) (by kernel_rfl) (pop_adds rfl rfl (by first | assumption | (simp; omega))) ?_
    refine ahp 8 rfl rfl (by kernel_rfl) (by kernel_rfl) (pop_assign rfl) ?_
    refine ahz (by kernel_rfl) ?_
    refine hw_ret ?_
    first
    | exact ret_q rfl ⟨_, a, rfl, by omega, by omega, rfl⟩
    | (refine ret_q rfl ⟨_, a + 1 + 1 + 1, rfl, ?_, by omega, rfl⟩
       simp only [List.length_append, List.length_drop, List.length_take]
       (try simp only [List.getD_eq_getElem?_getD])
       omega)
end Go.Proofs.YtdjpppifnmjhoaaGreatDoor
end
section
namespace Go.HL
theorem chk_ok {m : MarketS} (h : marketE m = 0) (o : List OwnerS) (x : List DealS) (a c : List ReplyS) :
 ownersR m o = ownersE m o ∧ dealsR m x = dealsE m x ∧ repsR m a = repsE m a ∧ orI [repsE m a, repsR m c] = orI [repsE m a, repsE m c] := by
 have h1 : ¬ marketE m ≠ 0 := by simp [h]
 have hr : ∀ z, repsR m z = repsE m z := fun z => by rw [repsE, if_neg h1]
 exact ⟨by rw [ownersE, if_neg h1], by rw [dealsE, if_neg h1], hr a, by rw [hr c]⟩
theorem orI_same (n : Int) : orI [n, n] = n := by rw [orI2]; split <;> rfl
theorem chk_bad {m : MarketS} (h : marketE m ≠ 0) (o : List OwnerS) (x : List DealS) (a c : List ReplyS) :
 marketE m = ownersE m o ∧ marketE m = dealsE m x ∧ marketE m = repsE m a ∧ marketE m = orI [repsE m a, repsE m c] := by
 have hr : ∀ z, repsE m z = marketE m := fun z => by rw [repsE, if_pos h]
 exact ⟨by rw [ownersE, if_pos h], by rw [dealsE, if_pos h], (hr a).symm, by rw [hr a, hr c, orI_same]⟩
theorem one_ok2 {m : MarketS} (h : marketE m = 0) (o : List OwnerS) (z : DealS) : dealsR m [z] = dealsE m [z] ∧ orI [ownersE m o, dealsE m [z]] = tradeE m o z := by
 have h1 : ¬ marketE m ≠ 0 := by simp [h]
 exact ⟨by rw [dealsE, if_neg h1], rfl⟩
def market1 : MarketS := ⟨[[97], [98]], 1, 0, 345686400000, 0, 2⟩
def deal1 : DealS := ⟨[111], [97], 0, 1, [⟨[112], [97], [98]⟩]⟩
theorem sort1 : sortS [[97], [98]] = [[97], [98]] := by
 unfold sortS; exact List.mergeSort_of_pairwise (by simp; decide)
theorem conc1 : concL [⟨[112], [97], [98]⟩] = [[97], [98]] := by
 show Lib.compact (sortS [[97], [98]]) = _
 rw [sort1, compact_uniq]; rfl
theorem deal1_ok1 : dealF market1 deal1 = 0 := by
 have h1 : givesE market1 deal1.Gives = 0 := by kernel_rfl
 have h2 : (concL deal1.Gives).contains deal1.By = true := by show (concL [⟨[112], [97], [98]⟩]).contains [97] = true; rw [conc1]; rfl
 have h3 : key deal1.Id = true := by kernel_rfl
 have h4 : market1.Teams.contains deal1.By = true := by kernel_rfl
 have h5 : (out deal1.To 1 345686400000 || out deal1.From 0 (deal1.To - 1)) = false := by kernel_rfl
 unfold dealF
 rw [h1, h2, h3, h4, h5]
 rfl
theorem market1_ok : marketE market1 = 0 := by kernel_rfl
theorem trade1_ok : tradeE market1 [⟨[112], [97]⟩] deal1 = 0 := by
 have h1 : ownersE market1 [⟨[112], [97]⟩] = 0 := by kernel_rfl
 have h2 : dealsE market1 [deal1] = 0 := by rw [← (one_ok2 market1_ok [] deal1).1, dealsR_one, deal1_ok1]
 rw [tradeE, h1, h2]; rfl
theorem did1_b : didB market1 [⟨[112], [97]⟩] deal1.Gives = true := by kernel_rfl
theorem did1_l : didL market1 [⟨[112], [97]⟩] deal1 = [⟨[112], [98]⟩] := by
 rw [(didL_yes trade1_ok did1_b).1]; kernel_rfl
theorem did1_e : didE market1 [⟨[112], [97]⟩] deal1 = 0 := (didL_yes trade1_ok did1_b).2
end Go.HL
end
section
namespace Go.HL
end Go.HL
end
section
namespace Go.HL
end Go.HL
end
section
namespace Go.HL
def byOf (a b : Of2) : Int := orI [cmpS a.1 b.1, cmpS a.2 b.2]
theorem byOf_eq (a b : Of2) : byOf a b = if cmpS a.1 b.1 ≠ 0 then cmpS a.1 b.1 else cmpS a.2 b.2 := by unfold byOf; rw [orI2]
theorem byOf_flip (a b : Of2) : byOf a b = -byOf b a := by
 unfold byOf
 rw [cmpS_flip a.1, cmpS_flip a.2, orI_flip]
theorem byOf_cmp : Cmp byOf (fun _ => True) where
 flip x y _ _ := by rw [byOf_flip x y]; omega
 trans x y z _ _ _ h1 h2 := by
  rw [byOf_eq] at *
  have k1 : cmpS x.1 y.1 ≤ 0 := by split at h1 <;> omega
  have k2 : cmpS y.1 z.1 ≤ 0 := by split at h2 <;> omega
  have k3 := cmpS_trans k1 k2
  split
  ·exact k3
  ·rename_i hz
   have hz' : cmpS x.1 z.1 = 0 := by simpa using hz
   obtain ⟨e1, e2⟩ := cmpS_lt_trans k1 k2 hz'
   rw [if_neg (by simp [e1])] at h1
   rw [if_neg (by simp [e2])] at h2
   exact cmpS_trans h1 h2
def OLt (a b : Of2) : Prop := byOf a b < 0
end Go.HL
end
section
namespace Go.HL
theorem aput_keys' {α : Type} {s : Str} {v : α} : ∀ {G : List (Str × α)}, (aput s v G).map (·.1) = sadd s (G.map (·.1))
 | [] => by simp [aput, sadd]
 | p :: r => by
   have ih := aput_keys' (s := s) (v := v) (G := r)
   simp only [aput]
   by_cases h : s = p.1
   ·rw [if_pos h]
    unfold sadd
    rw [if_pos (by simp [h])]
    simp [h]
   ·rw [if_neg h, List.map_cons, ih]
    unfold sadd
    by_cases hc : (r.map (·.1)).contains s = true
    ·rw [if_pos hc, if_pos (by simp at hc ⊢; exact .inr hc)]; rfl
    ·rw [if_neg hc, if_neg (by simp at hc ⊢; exact ⟨h, hc⟩)]; rfl
theorem aput_mem' {α : Type} {s : Str} {v : α} {p : Str × α} : ∀ {G : List (Str × α)}, ANodup G → p ∈ aput s v G → p = (s, v) ∨ (p ∈ G ∧ p.1 ≠ s)
 | [], _, h => by simp [aput] at h; exact .inl h
 | q :: r, hn, h => by
   have h1 := List.nodup_cons.1 hn
   simp only [aput] at h
   by_cases hs : s = q.1
   ·rw [if_pos hs] at h
    rcases List.mem_cons.1 h with h | h
    ·exact .inl h
    ·refine .inr ⟨List.mem_cons_of_mem _ h, fun e => h1.1 ?_⟩
     show q.1 ∈ r.map (·.1)
     rw [← hs, ← e]; exact List.mem_map_of_mem h
   ·rw [if_neg hs] at h
    rcases List.mem_cons.1 h with h | h
    ·subst h; exact .inr ⟨by simp, fun e => hs e.symm⟩
    ·rcases aput_mem' h1.2 h with e | e
     ·exact .inl e
     ·exact .inr ⟨List.mem_cons_of_mem _ e.1, e.2⟩
section
variable {κ : Type}
/-- The maps of maps hold the flat sums. -/
structure GrOk (S : List Str) (c : List ((Str × κ) × Int)) (G : GrM κ) : Prop where
 keys : G.map (·.1) = S
 nodup : S.Nodup
 val : ∀ p ∈ G, p.2.2 = inner c p.1
 inS : ∀ e ∈ c, e.1.1 ∈ S
theorem GrOk.anodup {S : List Str} {c : List ((Str × κ) × Int)} {G : GrM κ} (h : GrOk S c G) : ANodup G := by unfold ANodup; rw [h.keys]; exact h.nodup
theorem GrOk.nil : GrOk ([] : List Str) ([] : List ((Str × κ) × Int)) [] := ⟨rfl, List.nodup_nil, (fun p h => by cases h), (fun e h => by cases h)⟩
theorem GrOk.get {S : List Str} {c : List ((Str × κ) × Int)} {G : GrM κ} (h : GrOk S c G) {s : Str} {b : Nat} {L : List (κ × Int)} (hq : alk s G = some (b, L)) : L = inner c s := h.val _ (alk_of_mem hq)
theorem GrOk.none {S : List Str} {c : List ((Str × κ) × Int)} {G : GrM κ} (h : GrOk S c G) {s : Str} : alk s G = none ↔ s ∉ S := by rw [alk_none, h.keys]
theorem inner_nil {S : List Str} {c : List ((Str × κ) × Int)} {s : Str} (h : ∀ e ∈ c, e.1.1 ∈ S) (hs : s ∉ S) : inner c s = [] := by
 unfold inner
 rw [List.map_eq_nil_iff, List.filter_eq_nil_iff]
 intro e he hq
 exact hs ((eq_of_beq hq) ▸ h e he)
theorem GrOk.add {S : List Str} {c : List ((Str × κ) × Int)} {G : GrM κ} (h : GrOk S c G) {s : Str} (b : Nat) (hs : alk s G = Option.none) : GrOk (sadd s S) c (aput s (b, []) G) := by
 have hn := h.none.1 hs
 refine ⟨by rw [aput_keys', h.keys], sadd_nodup h.nodup, fun p hp => ?_, fun e he => mem_sadd.2 (.inr (h.inS e he))⟩
 rcases aput_mem' h.anodup hp with rfl | ⟨hp, _⟩
 ·exact (inner_nil h.inS hn).symm
 ·exact h.val p hp
variable [DecidableEq κ]
theorem GrOk.put {S : List Str} {c : List ((Str × κ) × Int)} {G : GrM κ} (h : GrOk S c G) {s : Str} {b : Nat} {L : List (κ × Int)} (hq : alk s G = some (b, L)) (k : κ) (v : Int) : GrOk S (aput (s, k) v c) (aput s (b, aput k v L) G) := by
 have hs : s ∈ S := by
  refine Decidable.not_not.1 fun hn => ?_
  have := h.none.2 hn
  rw [this] at hq; cases hq
 refine ⟨?_, h.nodup, fun p hp => ?_, fun e he => ?_⟩
 ·rw [aput_keys', h.keys]
  unfold sadd
  rw [if_pos (by simpa using hs)]
 ·rw [inner_put]
  rcases aput_mem' h.anodup hp with rfl | ⟨hp, hne⟩
  ·rw [if_pos rfl, ← h.get hq]
  ·rw [if_neg hne]; exact h.val p hp
 ·rcases mem_aput he with rfl | he
  ·exact hs
  ·exact h.inS e he
end
end Go.HL
end
section
namespace Go.HL
end Go.HL
end
section
namespace Go.HL
theorem OLt.trans {a b c : Of2} (h1 : OLt a b) (h2 : OLt b c) : OLt a c := byOf_cmp.lt_trans trivial trivial trivial h1 h2
end Go.HL
end
section
namespace Go.HL
/-- The plays of the sources that count. -/
def keptB (l : List Play) (trust : List Str) (n : Int) (x : Play) : Bool := decide (srcOf l trust n x.Match = some x.Source)
def kept (l : List Play) (trust : List Str) (n : Int) : List Play := l.filter (keptB l trust n)
end Go.HL
end
section
namespace Go.HL
structure ChkIs (q : ChkS) (l : List Play) : Prop where
 sn : q.S.Nodup
 s : ∀ s, s ∈ q.S ↔ ∃ x ∈ l, x.Source = s
 wn : ANodup q.W
 w : ∀ m, m ∈ q.W.map (·.1) ↔ ∃ x ∈ l, x.Match = m
 wv : ∀ m v, alk m q.W = some v → ∃ x ∈ l, x.Match = m ∧ x.Week = v
 c : q.c = false ↔ ∀ x ∈ l, ∀ y ∈ l, x.Match = y.Match → x.Week = y.Week
theorem ChkIs.step {q : ChkS} {l : List Play} (h : ChkIs q l) (p : Play) : ChkIs (chkStep q p) (l ++ [p]) where
 sn := sadd_nodup h.sn
 s s := by
  show s ∈ sadd p.Source q.S ↔ _
  rw [mem_sadd, h.s]
  constructor
  ·rintro (rfl | ⟨x, hx, e⟩)
   ·exact ⟨p, by simp, rfl⟩
   ·exact ⟨x, List.mem_append_left _ hx, e⟩
  ·rintro ⟨x, hx, e⟩
   rcases List.mem_append.1 hx with hx | hx
   ·exact .inr ⟨x, hx, e⟩
   ·rw [List.mem_singleton.1 hx] at e; exact .inl e.symm
 wn := h.wn.put
 w m := by
  show m ∈ (aput p.Match p.Week q.W).map (·.1) ↔ _
  rw [aput_keys, h.w]
  constructor
  ·rintro (rfl | ⟨x, hx, e⟩)
   ·exact ⟨p, by simp, rfl⟩
   ·exact ⟨x, List.mem_append_left _ hx, e⟩
  ·rintro ⟨x, hx, e⟩
   rcases List.mem_append.1 hx with hx | hx
   ·exact .inr ⟨x, hx, e⟩
   ·rw [List.mem_singleton.1 hx] at e; exact .inl e.symm
 wv m v hv := by
  have hv' : alk m (aput p.Match p.Week q.W) = some v := hv
  rw [alk_put] at hv'
  by_cases e : m = p.Match
  ·rw [if_pos e] at hv'; cases hv'
   exact ⟨p, by simp, e.symm, rfl⟩
  ·rw [if_neg e] at hv'
   obtain ⟨x, hx, e1⟩ := h.wv m v hv'
   exact ⟨x, List.mem_append_left _ hx, e1⟩
 c := by
  show (q.c || ((alk p.Match q.W).isSome && ((alk p.Match q.W).getD 0 != p.Week))) = false ↔ _
  rw [Bool.or_eq_false_iff, h.c]
  constructor
  ·rintro ⟨h1, h2⟩
   have hp : ∀ x ∈ l, x.Match = p.Match → x.Week = p.Week := fun x hx e => by
    have hk : p.Match ∈ q.W.map (·.1) := (h.w _).2 ⟨x, hx, e⟩
    have hne : ¬ alk p.Match q.W = none := by rw [alk_none]; exact fun z => z hk
    obtain ⟨v, hv⟩ := Option.ne_none_iff_exists'.1 hne
    rw [hv] at h2
    simp at h2
    obtain ⟨y, hy, e1, e2⟩ := h.wv _ _ hv
    rw [h1 x hx y hy (by rw [e, e1]), e2, h2]
   intro x hx y hy e
   rcases List.mem_append.1 hx with hx | hx <;> rcases List.mem_append.1 hy with hy | hy
   ·exact h1 x hx y hy e
   ·rw [List.mem_singleton.1 hy] at e ⊢; exact hp x hx e
   ·rw [List.mem_singleton.1 hx] at e ⊢; exact (hp y hy e.symm).symm
   ·rw [List.mem_singleton.1 hx, List.mem_singleton.1 hy]
  ·intro hall
   refine ⟨fun x hx y hy e => hall x (List.mem_append_left _ hx) y (List.mem_append_left _ hy) e, ?_⟩
   cases hv : alk p.Match q.W with
   | none => rfl
   | some v =>
     obtain ⟨y, hy, e1, e2⟩ := h.wv _ _ hv
     have := hall y (List.mem_append_left _ hy) p (by simp) e1
     simp
     rw [← e2, this]
end Go.HL
end
section
namespace Go.HL
end Go.HL
end
section
namespace Go.HL
end Go.HL
end
section
namespace Go.HL
section
variable {κ : Type}
end
end Go.HL
end
section
namespace Go.HL
variable {P : Program}
open Go.Sort Go.Proofs
end Go.HL
end
section
namespace Go.HL
/-! lines by their places, with mends -/
abbrev GrS := List (Plc × List StatS)
def mdDel (x : MendS) (l : List StatS) : List StatS := l.filter fun s => !(s.Name == x.Stat)
def mdPut (x : MendS) (l : List StatS) : List StatS := mdDel x l ++ if x.Count ≠ 0 then [⟨x.Stat, x.Count⟩] else []
def mdStep (n : Int) (G : GrS) (x : MendS) : GrS := if n < x.At then G else aput (x.Player, x.Week) (mdPut x ((alk (x.Player, x.Week) G).getD [])) G
def GLen (b : Nat) (G : GrS) : Prop := ∀ q ∈ G, q.2.length ≤ b
theorem GLen.put {b : Nat} {G : GrS} {p : Plc} {l : List StatS} (h : GLen b G) (hl : l.length ≤ b) : GLen b (aput p l G) := fun q hq => by
 rcases mem_aput hq with rfl | hq
 ·exact hl
 ·exact h q hq
theorem GLen.get {b : Nat} {G : GrS} (h : GLen b G) (p : Plc) : ((alk p G).getD []).length ≤ b := by
 cases hq : alk p G with
 | none => simp
 | some l => exact h _ (alk_of_mem hq)
theorem GLen.up {b c : Nat} {G : GrS} (h : GLen b G) (hb : b ≤ c) : GLen c G := fun q hq => Nat.le_trans (h q hq) hb
theorem mdDel_len (x : MendS) (l : List StatS) : (mdDel x l).length ≤ l.length := List.length_filter_le _ _
theorem mdPut_len (x : MendS) (l : List StatS) : (mdPut x l).length ≤ l.length + 1 := by
 have := mdDel_len x l
 unfold mdPut; rw [List.length_append]; split
 ·simp only [List.length_cons, List.length_nil]; omega
 ·simp only [List.length_nil]; omega
theorem GLen.step {b : Nat} {n : Int} {G : GrS} {x : MendS} (h : GLen b G) : GLen (b + 1) (mdStep n G x) := by
 unfold mdStep; split
 ·exact h.up (by omega)
 ·refine (h.up (by omega)).put ?_
  have h1 := mdPut_len x ((alk (x.Player, x.Week) G).getD [])
  have h2 := h.get (x.Player, x.Week)
  omega
def GNm (G : GrS) : Prop := ∀ q ∈ G, (q.2.map (·.Name)).Nodup
theorem GNm.put {G : GrS} {p : Plc} {l : List StatS} (h : GNm G) (hl : (l.map (·.Name)).Nodup) : GNm (aput p l G) := fun q hq => by
 rcases mem_aput hq with rfl | hq
 ·exact hl
 ·exact h q hq
theorem GNm.get {G : GrS} (h : GNm G) (p : Plc) : (((alk p G).getD []).map (·.Name)).Nodup := by
 cases hq : alk p G with
 | none => exact List.nodup_nil
 | some l => exact h _ (alk_of_mem hq)
theorem mdPut_names {x : MendS} {l : List StatS} (h : (l.map (·.Name)).Nodup) : ((mdPut x l).map (·.Name)).Nodup := by
 have h1 : ((mdDel x l).map (·.Name)).Nodup := h.sublist ((List.filter_sublist).map _)
 unfold mdPut
 split
 ·rw [List.map_append]
  refine List.nodup_append.2 ⟨h1, by simp, fun a ha b hb => ?_⟩
  simp at hb; subst hb
  obtain ⟨s, hs, rfl⟩ := List.mem_map.1 ha
  have := (List.mem_filter.1 hs).2
  simpa using this
 ·rw [List.append_nil]; exact h1
theorem GNm.step {n : Int} {G : GrS} {x : MendS} (h : GNm G) : GNm (mdStep n G x) := by
 unfold mdStep; split
 ·exact h
 ·exact h.put (mdPut_names (h.get _))
end Go.HL
end
section
namespace Go.HL
end Go.HL
end
section
namespace Go.HL
def numsB (w : List Str) (m : Int) : Bool := w.all (numB · m)
def numsL (w : List Str) (m : Int) : List Int := if numsB w m then w.map (numR · m) else []
theorem numsB_cons (s : Str) (w : List Str) (m : Int) : numsB (s :: w) m = (numB s m && numsB w m) := rfl
theorem weakNs [Tracks] {w : List Str} {m : Int} (h : numsB w m = false) : Weak (.tup [.raw (.slice none 0 0), .bool false]) (.tup [.slice 1 ((numsL w m).map (.int .i64)), .bool (numsB w m)]) := by
 rw [numsL, h]; exact weak_tup2 (weak_nil 1) (Weak.refl _)
theorem eqNs {w : List Str} {m : Int} (h : numsB w m = true) : HVal.tup [.slice 1 ((w.map (numR · m)).map (.int .i64)), .bool true] = .tup [.slice 1 ((numsL w m).map (.int .i64)), .bool (numsB w m)] := by
 rw [numsL, h]; rfl
theorem numsB_f {x : Str} {w w' : List Str} {m : Int} (hg : numsB w m = (numB x m && numsB w' m)) (h : numB x m = false) : numsB w m = false := by rw [hg, h]; rfl
theorem numsL_t {w : List Str} {m : Int} (h : numsB w m = true) : numsL w m = w.map (numR · m) := by unfold numsL; rw [if_pos h]
theorem ints_nums (w : List Str) (m : Int) : intsB w m = numsB w m ∧ intsL w m = numsL w m := by
 have hb : intsB w m = numsB w m := by
  unfold intsB numsB
  congr 1
  funext s; exact ((num_int s m).1).symm
 refine ⟨hb, ?_⟩
 unfold intsL numsL
 rw [hb]
 split
 ·rename_i h
  refine List.map_congr_left fun s hs => ?_
  have := List.all_eq_true.1 h s hs
  have h2 := (num_int s m).2 this
  rw [h2.1, h2.2]
 ·rfl
end Go.HL
end
