/- Part 3 of the proof: a program logic, contracts of functions and plain facts; no conditions. -/
import Derived.Test.YtnlfcjoofdjpiaaGreatDoorPart2
import Derived.Carry
import Derived.Laws.MakeOwn
import Derived.Lib.LaidTab
import Derived.OpenShut
import Derived.Shelf.Strconv.Itoa3
import GoSem.ClaimJoined
section
namespace Go.HL
open Op (bytesLess)
theorem map_getD {l : List Asset} {k : Nat} : (l.map (·.Player)).getD k [] = (l.getD k asset0).Player := by
  by_cases h : k < l.length
  · simp [List.getD, List.getElem?_eq_getElem h]
  · simp [List.getD, List.getElem?_eq_none (Nat.le_of_not_lt h), asset0]
theorem assetFault_ok {x : Asset} (h : assetFault x = 0) : key x.Player = true ∧ key x.Position = true ∧ -1000000 ≤ x.Value ∧ x.Value ≤ 1000000 := by
  unfold assetFault at h
  by_cases h1 : (!(key x.Player) || !(key x.Position)) = true
  · rw [if_pos h1] at h; omega
  · rw [if_neg h1] at h
    by_cases h2 : out x.Value (-1000000) 1000000 = true
    · rw [if_pos h2] at h; omega
    · have := out_f (by simpa using h2)
      simp at h1
      exact ⟨h1.1, h1.2, this.1, this.2⟩
theorem assetsGo_ok (l : List Asset) : ∀ (t : List Asset) (k : Nat), assetsGo l k t = 0 → risingGo (l.map (·.Player)) k (t.map (·.Player)) = 0 ∧ ∀ x ∈ t, assetFault x = 0
  | [], _, _ => ⟨rfl, fun x h => by cases h⟩
  | x :: t, k, h => by
    simp only [assetsGo] at h
    by_cases h1 : assetFault x = 0
    · rw [if_neg (by simpa using h1)] at h
      by_cases h2 : (decide (0 < k) && leS x.Player (l.getD (k - 1) asset0).Player) = true
      · rw [if_pos h2] at h; omega
      · rw [if_neg h2] at h
        obtain ⟨h3, h4⟩ := assetsGo_ok l t (k + 1) h
        refine ⟨?_, fun y hy => ?_⟩
        · simp only [List.map_cons, risingGo, map_getD]
          rw [if_neg (by simp [(assetFault_ok h1).1]), if_neg h2]
          exact h3
        · rcases List.mem_cons.1 hy with rfl | hy
          · exact h1
          · exact h4 y hy
    · rw [if_pos (by simpa using h1)] at h; exact absurd h h1
theorem checkAssets_ok {l : List Asset} (h : checkAssets l = 0) : SortedS (l.map (·.Player)) ∧ ∀ x ∈ l, assetFault x = 0 := by
  unfold checkAssets at h
  split at h
  · omega
  · obtain ⟨h1, h2⟩ := assetsGo_ok l l 0 h
    exact ⟨rising1_sorted (by simpa [rising1] using h1), h2⟩
theorem placesGo_ok (l : List Place) : ∀ (t : List Place) (k : Nat), placesGo l k t = 0 → ∀ x ∈ t, 0 ≤ x.Many ∧ x.Many ≤ 12
  | [], _, _ => fun x h => by cases h
  | x :: t, k, h => by
    simp only [placesGo] at h
    by_cases h1 : (!(key x.Position)) = true
    · rw [if_pos h1] at h; omega
    · rw [if_neg h1] at h
      by_cases h2 : out x.Many 0 12 = true
      · rw [if_pos h2] at h; omega
      · rw [if_neg h2] at h
        by_cases h3 : (decide (0 < k) && leS x.Position (l.getD (k - 1) place0).Position) = true
        · rw [if_pos h3] at h; omega
        · rw [if_neg h3] at h
          intro y hy
          rcases List.mem_cons.1 hy with rfl | hy
          · exact out_f (by simpa using h2)
          · exact placesGo_ok l t (k + 1) h y hy
theorem checkPlaces_ok {l : List Place} (h : checkPlaces l = 0) : (∀ x ∈ l, 0 ≤ x.Many ∧ x.Many ≤ 12) ∧ l.length ≤ 10 := by
  unfold checkPlaces at h
  split at h
  · omega
  · exact ⟨placesGo_ok l l 0 h, by omega⟩
theorem cmpS_le {a b : Str} : cmpS a b ≤ 0 ↔ bytesLess b a = false := by
  rw [cmpS_eq]
  rcases less_total a b with h | h | h
  · simp [h, less_asymm h]
  · subst h; simp [less_irrefl]
  · have hne : a ≠ b := fun e => by subst e; rw [less_irrefl] at h; cases h
    simp [h, less_asymm h, hne]
theorem cmpS_zero {a b : Str} : cmpS a b = 0 ↔ a = b := by
  rw [cmpS_eq]
  rcases less_total a b with h | h | h
  · have hne : a ≠ b := fun e => by subst e; rw [less_irrefl] at h; cases h
    simp [h, hne]
  · subst h; simp [less_irrefl]
  · have hne : a ≠ b := fun e => by subst e; rw [less_irrefl] at h; cases h
    simp [less_asymm h, hne]
theorem cmpS_trans {a b c : Str} (h1 : cmpS a b ≤ 0) (h2 : cmpS b c ≤ 0) : cmpS a c ≤ 0 := by
  rw [cmpS_le] at *
  rcases less_total a b with h | h | h
  · rcases less_total b c with h' | h' | h'
    · exact less_asymm (less_trans h h')
    · subst h'; exact less_asymm h
    · rw [h'] at h2; cases h2
  · subst h; exact h2
  · rw [h] at h1; cases h1
theorem orI2 (a b : Int) : orI [a, b] = if a ≠ 0 then a else b := by
  simp only [orI]
  by_cases ha : a = 0 <;> by_cases hb : b = 0 <;> simp [ha, hb]
theorem byValue_flip (x y : Asset) : byValue x y = -byValue y x := by
  unfold byValue
  rw [cmpI_flip, cmpS_flip x.Player, orI_flip]
theorem cmpI_le {a b : Int} : cmpI a b ≤ 0 ↔ a ≤ b := by unfold cmpI; split <;> (try split) <;> omega
theorem cmpI_zero {a b : Int} : cmpI a b = 0 ↔ a = b := by unfold cmpI; split <;> (try split) <;> omega
theorem byValue_le {x y : Asset} : byValue x y ≤ 0 ↔ y.Value < x.Value ∨ (y.Value = x.Value ∧ cmpS x.Player y.Player ≤ 0) := by
  unfold byValue
  rw [orI2]
  by_cases h : y.Value = x.Value
  · rw [if_neg (by simp [cmpI_zero, h])]; simp [h]
  · rw [if_pos (by simp [cmpI_zero, h]), cmpI_le]; omega
theorem byValue_cmp : Cmp byValue (fun _ => True) where
  flip x y _ _ := by rw [byValue_flip x y]; omega
  trans x y z _ _ _ h1 h2 := by
    rw [byValue_le] at *
    rcases h1 with h1 | ⟨h1, h1'⟩ <;> rcases h2 with h2 | ⟨h2, h2'⟩
    · exact .inl (by omega)
    · exact .inl (by omega)
    · exact .inl (by omega)
    · exact .inr ⟨by omega, cmpS_trans h1' h2'⟩
theorem byPlayer_cmp : Cmp byPlayer (fun _ => True) where
  flip x y _ _ := by unfold byPlayer; rw [cmpS_flip x.Player y.Player]; omega
  trans x y z _ _ _ h1 h2 := cmpS_trans h1 h2
theorem byValue_player {x y : Asset} (h : byValue x y = 0) : x.Player = y.Player := by
  unfold byValue at h
  rw [orI2] at h
  split at h
  · contradiction
  · exact cmpS_zero.1 h
/-- Players that rise differ. -/
theorem sortedS_nodup {l : List Str} (h : SortedS l) : l.Nodup := h.imp fun hab e => by subst e; rw [less_irrefl] at hab; cases hab
theorem nodup_inj {l : List Asset} (h : (l.map (·.Player)).Nodup) {x y : Asset} (hx : x ∈ l) (hy : y ∈ l) (e : x.Player = y.Player) : x = y := by
  induction l with
  | nil => cases hx
  | cons a l ih =>
    simp only [List.map_cons, List.nodup_cons, List.mem_map, not_exists, not_and] at h
    rcases List.mem_cons.1 hx with rfl | hx' <;> rcases List.mem_cons.1 hy with rfl | hy'
    · rfl
    · exact absurd e.symm (h.1 y hy')
    · exact absurd e (h.1 x hx')
    · exact ih h.2 hx' hy'
theorem ofP_perm {l m : List Asset} (h : (l.map (·.Player)).Nodup) (hp : l.Perm m) (pos : Str) : ofP l pos = ofP m pos := by
  unfold ofP atPos
  refine isort_unique byValue_cmp (fun _ _ => trivial) (fun x y hx hy e => ?_) (hp.filter _)
  exact nodup_inj h (List.mem_filter.1 hx).1 (List.mem_filter.1 hy).1 (byValue_player e)
theorem ofR_ofP {l : List Asset} (h : SortedS (l.map (·.Player))) (pos : Str) : ofR l pos = ofP l pos := by
  unfold ofR ofP
  have hp : (atPos l pos).Pairwise (fun a b => bytesLess a.Player b.Player = true) := (List.pairwise_map.1 h).filter _
  refine isort_congr fun i j x y hij hy hx => ?_
  have hxy : bytesLess y.Player x.Player = true := by
    obtain ⟨hi, rfl⟩ := List.getElem?_eq_some_iff.1 hy
    obtain ⟨hj, rfl⟩ := List.getElem?_eq_some_iff.1 hx
    exact List.pairwise_iff_getElem.1 hp i j hi hj hij
  unfold byVal byValue
  rw [orI2]
  by_cases he : cmpI y.Value x.Value = 0
  · rw [if_neg (by simpa using he), he]
    have : ¬ cmpS x.Player y.Player ≤ 0 := by rw [cmpS_le, hxy]; simp
    omega
  · rw [if_pos he]
theorem with_sorted {m : List Asset} (h : (m.map (·.Player)).Nodup) : SortedS ((isort byPlayer m).map (·.Player)) := by
  have h1 := isort_sorted byPlayer_cmp (l := m) (fun _ _ => trivial)
  have h2 : ((isort byPlayer m).map (·.Player)).Nodup := ((isort_perm byPlayer m).map _).nodup_iff.2 h
  unfold SortedS
  rw [List.pairwise_map]
  have h3 := List.pairwise_map.1 h2
  refine (h1.and h3).imp fun ⟨a1, a2⟩ => ?_
  rcases less_total _ _ with h | h | h
  · exact h
  · exact absurd h a2
  · have := cmpS_le.1 a1; rw [h] at this; cases this
theorem fieldedL_congr {f g : Str → List Asset} {p : List Place} (h : ∀ x ∈ p, f x.Position = g x.Position) : fieldedL f p = fieldedL g p := by
  unfold fieldedL
  induction p with
  | nil => rfl
  | cons x p ih => simp only [List.flatMap_cons]; rw [h x (by simp), ih fun y hy => h y (List.mem_cons_of_mem _ hy)]
theorem fielded_ref {l : List Asset} (h : SortedS (l.map (·.Player))) (p : List Place) : fieldedL (ofR l) p = fieldedL (ofP l) p := fieldedL_congr fun x _ => ofR_ofP h _
theorem fielded_with {l : List Asset} {x : Asset} (h : SortedS (l.map (·.Player))) (hx : ∀ y ∈ l, y.Player ≠ x.Player) (p : List Place) : fieldedL (ofR (isort byPlayer (l ++ [x]))) p = fieldedL (ofP (l ++ [x])) p := by
  have hn : ((l ++ [x]).map (·.Player)).Nodup := by
    rw [List.map_append, List.nodup_append]
    refine ⟨sortedS_nodup h, by simp, fun a ha b hb e => ?_⟩
    simp at hb
    obtain ⟨y, hy, rfl⟩ := List.mem_map.1 ha
    exact hx y hy (e.trans hb)
  rw [fielded_ref (with_sorted hn)]
  exact fieldedL_congr fun y _ => (ofP_perm hn (isort_perm byPlayer _).symm _).symm
theorem erase_filter {l : List Asset} (h : (l.map (·.Player)).Nodup) {k : Nat} {x : Asset} (hx : l[k]? = some x) : l.filter (fun y => !(y.Player == x.Player)) = l.eraseIdx k := by
  induction l generalizing k with
  | nil => simp at hx
  | cons a l ih =>
    simp only [List.map_cons, List.nodup_cons, List.mem_map, not_exists, not_and] at h
    cases k with
    | zero =>
      simp at hx; subst hx
      simp only [List.eraseIdx_zero, List.tail_cons, List.filter_cons, beq_self_eq_true, Bool.not_true, Bool.false_eq_true, if_false]
      exact List.filter_eq_self.2 fun y hy => by simpa using h.1 y hy
    | succ k =>
      simp at hx
      have hne : a.Player ≠ x.Player := fun e => h.1 x (List.mem_of_getElem? hx) e.symm
      simp only [List.eraseIdx_cons_succ, List.filter_cons]
      rw [if_pos (by simpa using hne), ih h.2 hx]
end Go.HL
end
section
namespace Go.Proofs.YtnlfcjoofdjpiaaGreatDoor
open Go.HL
set_option maxRecDepth 100000
set_option linter.unusedVariables false
set_option linter.unusedSimpArgs false
/-- math/bits.Len64 -/
theorem c_bits_Len64_s {x : Nat} (hx : x < 16) : Con Tryz.prog 106 [.int .u64 (x : Int)] [] (fun y M' => ∃ n : Int, y = .int .i64 n ∧ M' = []) := by
  refine Con.of_body Tryz.func106 rfl Tryz.ntmps106 rfl rfl ?_
  refine hw_reg ?_
  refine dp rfl (pop_assign rfl) ?_
  refine dn ?_
  refine hw_seq ?_
  refine hw_reg ?_
  refine dp rfl (pop_move rfl) ?_
  refine dp rfl (pop_geq rfl rfl) ?_
  refine dn ?_
  refine hw_cond rfl (fun h1 => ?_) (fun h1 => ?_)
  · exfalso
    try simp at h1
    omega
  · try simp at h1
    refine hw_skip ?_
    refine seqQ_n ?_
    refine hw_seq ?_
    refine hw_reg ?_
    refine dp rfl (pop_move rfl) ?_
    refine dp rfl (pop_geq rfl rfl) ?_
    refine dn ?_
    refine hw_cond rfl (fun h2 => ?_) (fun h2 => ?_)
    · exfalso
      try simp at h2
      omega
    · try simp at h2
      refine hw_skip ?_
      refine seqQ_n ?_
      refine hw_seq ?_
      refine hw_reg ?_
      refine dp rfl (pop_move rfl) ?_
      refine dp rfl (pop_geq rfl rfl) ?_
      refine dn ?_
      refine hw_cond rfl (fun h3 => ?_) (fun h3 => ?_)
      · exfalso
        try simp at h3
        omega
      · try simp at h3
        refine hw_skip ?_
        refine seqQ_n ?_
        refine hw_reg ?_
        refine dp rfl (pop_move rfl) ?_
        refine dp rfl (pop_move rfl) ?_
        refine dp rfl (pop_conv ty110 ty5 rfl) ?_
        refine dp rfl (pop_indexs (j := x) ty9 rfl rfl (wrap8 hx) (List.getElem?_eq_getElem (Nat.lt_of_lt_of_le hx (Nat.le_of_ble_eq_true (by kernel_rfl))))) ?_
        refine dp rfl (pop_conv ty5 ty3 rfl) ?_
        refine dp rfl (pop_add rfl rfl) ?_
        refine dp rfl (pop_assign rfl) ?_
        refine dn ?_
        refine hw_ret ?_
        exact ret_q rfl ⟨_, rfl, rfl⟩

/-- math/bits.Len -/
theorem c_bits_Len_s {x : Nat} (hx : x < 16) : Con Tryz.prog 76 [.int .u64 (x : Int)] [] (fun y M' => ∃ n : Int, y = .int .i64 n ∧ M' = []) := by
  refine Con.of_body Tryz.func76 rfl Tryz.ntmps76 rfl rfl ?_
  refine hw_reg ?_
  refine dp rfl (pop_assign rfl) ?_
  refine dn ?_
  refine hw_seq ?_
  refine hw_cond_f rfl ?_
  refine hw_skip ?_
  refine seqQ_n ?_
  refine hw_reg ?_
  refine dp rfl (pop_move rfl) ?_
  refine de rfl (eop_callf (M1 := []) (R := []) ca106 rfl (WeakL.refl _) (List.Perm.refl _) (c_bits_Len64_s hx) ?_)
  rintro _ _ ⟨n7, rfl, rfl⟩
  refine dp rfl (pop_assign rfl) ?_
  refine dn ?_
  refine hw_ret ?_
  exact ret_q rfl ⟨_, rfl, rfl⟩

set_option maxHeartbeats 1000000 in
/-- slices.insertionSortCmpFunc[benchwarmer/api.Asset] -/
theorem c_slices_insertionSortCmpFunc_api_Asset {l : List Asset} {v : Value} {fid : FuncId} {caps : List HVal} {c : Asset → Asset → Int} {n : Int} (hca : Callable Tryz.prog fid) (hp : ∀ x y, ConP Tryz.prog fid ([eAsset x, eAsset y] ++ caps) (.int .i64 (c x y))) (hn : n = l.length) (hl : l.length ≤ 1000000) : Con Tryz.prog 120 [.raw v, .int .i64 0, .int .i64 n, .fn (.func fid) [] caps] [.arr v 3 (l.map eAsset)] (fun x M' => x = .tup [] ∧ M' = [.arr v 3 ((isort c l).map eAsset)]) := by
  subst hn
  refine Con.of_body Tryz.func120 rfl Tryz.ntmps120 rfl rfl ?_
  refine hw_reg ?_
  refine dp rfl (pop_move rfl) ?_
  refine dp rfl (pop_add64 rfl rfl (by omega) (by omega)) ?_
  refine dp rfl (pop_assign rfl) ?_
  refine dn ?_
  refine hw_block ?_
  refine hw_loopw [8, 9, 12, 13, 14, 15, 16, 17, 18, 19, 20, 21, 22, 23, 24, 25, 26, 27, 28, 29, 30, 31, 32, 33, 34, 35, 36, 37, 38, 39, 40, 41, 42, 43, 44, 45, 46, 47, 48, 49, 50, 51, 52] (fun (k : Nat) => [(8, .int .i64 (k : Int))]) (fun (k : Nat) => [.arr v 3 ((isort c (l.take k) ++ l.drop k).map eAsset)]) (fun (k : Nat) => 1 ≤ k) (fun (k : Nat) => l.length - k) (1) ?_ ?_ ?_ ?_
  · exact Nat.le_refl _
  · exact ⟨rfl, trivial⟩
  · exact perm_eq (by rw [isort_take1])
  · intro k hk
    refine hw_seq ?_
    refine hw_reg ?_
    refine dp rfl (pop_move rfl) ?_
    refine dp rfl (pop_move rfl) ?_
    refine dp rfl (pop_lss rfl rfl) ?_
    refine dn ?_
    refine hw_cond rfl (fun h1 => ?_) (fun h2 => ?_)
    · try simp at h1
      obtain ⟨x, hx⟩ : ∃ x, l[k]? = some x := ⟨_, List.getElem?_eq_getElem (by omega)⟩
      refine hw_arrc (i := 0) rfl (fun h0 he => ?_) (fun b off cap hv hcap => ?_)
      · exfalso; have := congrArg List.length he; simp [isort_len] at this; omega
      rw [show ((isort c (l.take k) ++ l.drop k).map eAsset).length = l.length by simp [isort_len]; omega] at hv
      subst hv
      refine hw_skip ?_
      refine seqQ_n ?_
      refine hw_seq ?_
      refine hw_block ?_
      refine hw_reg ?_
      refine dp rfl (pop_move rfl) ?_
      refine dp rfl (pop_assign rfl) ?_
      refine dn ?_
      refine hw_block ?_
      refine hw_loopw2 [9, 18, 19, 20, 21, 22, 23, 24, 25, 26, 27, 28, 29, 30, 31, 32, 33, 34, 35, 36, 37, 38, 39, 40, 41, 42, 43, 44, 45, 46, 47, 48, 49, 50, 51, 52] (fun (A : List Asset) (B : List Asset) => [(9, .int .i64 (A.length : Int))]) (fun (A : List Asset) (B : List Asset) => [.arr (.slice (some ⟨b, off, none⟩) l.length cap) 3 ((A ++ x :: (B ++ l.drop (k + 1))).map eAsset)]) (fun (A : List Asset) (B : List Asset) => A.length + B.length = k ∧ insB c x (isort c (l.take k)) = insB c x A ++ B) (fun (A : List Asset) (B : List Asset) => A.length) (isort c (l.take k)) ([]) ?_ ?_ ?_ ?_
      · exact ⟨by simp [isort_len]; omega, by simp⟩
      · exact ⟨some_int (by simp [isort_len]; omega), trivial⟩
      · exact perm_eq (by rw [drop_cons hx]; rfl)
      · intro A B hinv
        obtain ⟨hA, hB⟩ := hinv
        have hlA : A.length < l.length := by omega
        have hll : ((A ++ x :: (B ++ l.drop (k + 1)))).length = l.length := by simp; omega
        refine hw_seq ?_
        refine hw_draw (fun M => M = [.arr (.slice (some ⟨b, off, none⟩) l.length cap) 3 ((A ++ x :: (B ++ l.drop (k + 1))).map eAsset)]) [8, 13] mixed ?_
        refine ahp 0 rfl rfl (by kernel_rfl) (by kernel_rfl) (pop_move rfl) ?_
        refine ahp 1 rfl rfl (by kernel_rfl) (by kernel_rfl) (pop_move rfl) ?_
        refine ahp 2 rfl rfl (by kernel_rfl) (by kernel_rfl) (pop_gtr rfl rfl) ?_
        refine ahp 3 rfl rfl (by kernel_rfl) (by kernel_rfl) (pop_move rfl) ?_
        refine ahg 4 rfl rfl (by kernel_rfl) (by kernel_rfl) rfl (fun hc => ⟨_, OpenTo.refl _, pop_move rfl⟩) ?_
        refine ahg 5 rfl rfl (by kernel_rfl) (by kernel_rfl) rfl (fun hc => ⟨_, OpenTo.refl _, pop_move rfl⟩) ?_
        refine ahg 6 rfl rfl (by kernel_rfl) (by kernel_rfl) rfl (fun hc => ⟨_, OpenTo.refl _, pop_move rfl⟩) ?_
        refine ahg 7 rfl rfl (by kernel_rfl) (by kernel_rfl) rfl (fun hc => by
            have hq : 0 < A.length := by simpa using hc
            exact ⟨_, OpenTo.upd (t := 24) rfl (by first | exact hc | simp_all) (OpenTo.upd (t := 23) rfl (by first | exact hc | simp_all) (OpenTo.refl _)), pop_idxraw (j := A.length) ty26 ty57 rfl rfl (by rfl) (by omega)⟩) ?_
        refine ahgl 8 rfl rfl (by kernel_rfl) (by kernel_rfl) (by simp) rfl rfl (fun hc => ⟨_, OpenTo.upd (t := 25) rfl (by first | exact hc | simp_all) (OpenTo.refl _), fun M hM => by
            subst hM; exact eop_load_elw (i := 0) (j := A.length) ty57 rfl rfl rfl get_mid rfl rfl rfl ⟨rfl, rfl⟩
          ⟩) ?_
        refine ahg 9 rfl rfl (by kernel_rfl) (by kernel_rfl) rfl (fun hc => ⟨_, OpenTo.refl _, pop_move rfl⟩) ?_
        refine ahg 10 rfl rfl (by kernel_rfl) (by kernel_rfl) rfl (fun hc => ⟨_, OpenTo.refl _, pop_move rfl⟩) ?_
        refine ahg 11 rfl rfl (by kernel_rfl) (by kernel_rfl) rfl (fun hc => by
            have hq : 0 < A.length := by simpa using hc
            exact ⟨_, OpenTo.upd (t := 28) rfl (by first | exact hc | simp_all) (OpenTo.refl _), pop_sub64 rfl rfl (by omega) (by omega)⟩) ?_
        refine ahg 12 rfl rfl (by kernel_rfl) (by kernel_rfl) rfl (fun hc => by
            have hq : 0 < A.length := by simpa using hc
            exact ⟨_, OpenTo.upd (t := 29) rfl (by first | exact hc | simp_all) (OpenTo.upd (t := 27) rfl (by first | exact hc | simp_all) (OpenTo.refl _)), pop_idxraw (j := A.length - 1) ty26 ty57 rfl rfl (by omega) (by omega)⟩) ?_
        refine ahgl 13 rfl rfl (by kernel_rfl) (by kernel_rfl) (by simp) rfl rfl (fun hc => ⟨_, OpenTo.upd (t := 30) rfl (by first | exact hc | simp_all) (OpenTo.refl _), fun M hM => by
            have hq : 0 < A.length := by simpa using hc
            subst hM; exact eop_load_elw (i := 0) (j := A.length - 1) ty57 rfl rfl rfl (get_before hq) rfl rfl rfl ⟨rfl, rfl⟩
          ⟩) ?_
        refine ahg 14 rfl rfl (by kernel_rfl) (by kernel_rfl) rfl (fun hc => ⟨_, OpenTo.upd (t := 31) rfl (by first | exact hc | simp_all) (OpenTo.upd (t := 26) rfl (by first | exact hc | simp_all) (OpenTo.upd (t := 22) rfl (by first | exact hc | simp_all) (OpenTo.refl _))), pop_callv hca rfl rfl (WeakL.refl _) (hp _ _)⟩) ?_
        refine ahg 15 rfl rfl (by kernel_rfl) (by kernel_rfl) rfl (fun hc => ⟨_, OpenTo.upd (t := 32) rfl (by first | exact hc | simp_all) (OpenTo.refl _), pop_lss rfl rfl⟩) ?_
        refine ahp 16 rfl rfl (by kernel_rfl) (by kernel_rfl) (pop_picko rfl (.inr ⟨_, rfl, fun h => by simp_all⟩) (.inl rfl)) ?_
        refine ahz (by kernel_rfl) ?_
        refine hw_cond rfl (fun h3 => ?_) (fun h4 => ?_)
        · try simp at h3
          obtain ⟨hA0, hcx⟩ := h3
          obtain ⟨A1, y, rfl⟩ := snoc_of hA0
          rw [getD_snoc] at hcx
          refine hw_skip ?_
          refine seqQ_n ?_
          refine hw_seq ?_
          refine hw_block ?_
          refine hw_draw1 (fun M => M = [.arr (.slice (some ⟨b, off, none⟩) l.length cap) 3 (((A1 ++ [y]) ++ x :: (B ++ l.drop (k + 1))).map eAsset)]) [9, 13] mixed ?_
          refine ahp 0 rfl rfl (by kernel_rfl) (by kernel_rfl) (pop_move rfl) ?_
          refine ahp 1 rfl rfl (by kernel_rfl) (by kernel_rfl) (pop_move rfl) ?_
          refine ahp 2 rfl rfl (by kernel_rfl) (by kernel_rfl) (pop_move rfl) ?_
          refine ahp 3 rfl rfl (by kernel_rfl) (by kernel_rfl) (pop_move rfl) ?_
          refine ahp 4 rfl rfl (by kernel_rfl) (by kernel_rfl) (pop_sub64 rfl rfl (by omega) (by omega)) ?_
          refine ahp 5 rfl rfl (by kernel_rfl) (by kernel_rfl) (pop_move rfl) ?_
          refine ahp 6 rfl rfl (by kernel_rfl) (by kernel_rfl) (pop_move rfl) ?_
          refine ahp 7 rfl rfl (by kernel_rfl) (by kernel_rfl) (pop_sub64 rfl rfl (by omega) (by omega)) ?_
          refine ahp 8 rfl rfl (by kernel_rfl) (by kernel_rfl) (pop_idxraw (j := (A1 ++ [y]).length - 1) ty26 ty57 rfl rfl (by omega) (by omega)) ?_
          refine ahl 9 rfl rfl (by kernel_rfl) (by kernel_rfl) (by simp) rfl (fun M hM => by subst hM; exact eop_load_elw (i := 0) (j := (A1 ++ [y]).length - 1) ty57 rfl rfl rfl ((get_before hA0).trans (by rw [getD_snoc])) rfl rfl rfl ⟨rfl, rfl⟩) ?_
          refine ahp 10 rfl rfl (by kernel_rfl) (by kernel_rfl) (pop_move rfl) ?_
          refine ahp 11 rfl rfl (by kernel_rfl) (by kernel_rfl) (pop_move rfl) ?_
          refine ahp 12 rfl rfl (by kernel_rfl) (by kernel_rfl) (pop_idxraw (j := (A1 ++ [y]).length) ty26 ty57 rfl rfl rfl (by omega)) ?_
          refine ahl 13 rfl rfl (by kernel_rfl) (by kernel_rfl) (by simp) rfl (fun M hM => by subst hM; exact eop_load_elw (i := 0) (j := (A1 ++ [y]).length) ty57 rfl rfl rfl get_mid rfl rfl rfl ⟨rfl, rfl⟩) ?_
          refine ahp 14 rfl rfl (by kernel_rfl) (by kernel_rfl) (pop_idxraw (j := (A1 ++ [y]).length) ty26 ty57 rfl rfl rfl (by omega)) ?_
          refine ahe 15 rfl (by kernel_rfl) ?_
          refine hop_e0 (eop_store_elw (i := 0) (j := (A1 ++ [y]).length) (y := x) (y' := y) ty57 rfl rfl rfl rfl get_mid rfl rfl rfl ?_)
          refine ⟨fun _ => .inr (by simp [Before, Region.binds]), ?_⟩
          refine ahp 16 rfl rfl (by kernel_rfl) (by kernel_rfl) (pop_idxraw (j := (A1 ++ [y]).length - 1) ty26 ty57 rfl rfl (by omega) (by omega)) ?_
          refine ahe 17 rfl (by kernel_rfl) ?_
          refine hop_e0 (eop_store_elw (i := 0) (j := (A1 ++ [y]).length - 1) (y := y) (y' := x) ty57 rfl rfl rfl rfl (by rw [List.getElem?_set_ne (by simp)]; exact (get_before hA0).trans (by rw [getD_snoc])) rfl rfl rfl ?_)
          refine ⟨fun _ => .inr (by simp [Before, Region.binds]), ?_⟩
          refine ahz (by kernel_rfl) ?_
          refine blockQ_n ?_
          refine seqQ_n ?_
          refine hw_reg1 ?_
          refine dp rfl (pop_move rfl) ?_
          refine dp rfl (pop_sub64 rfl rfl (by omega) (by omega)) ?_
          refine dp rfl (pop_assign rfl) ?_
          refine dn ?_
          exact ⟨A1, y :: B, ⟨by simp at hA ⊢; omega, ins_step hB hcx⟩, by dsimp only; simp, ⟨some_int (by simp), trivial⟩, (by repeat (first | exact keeps_refl | refine keeps_upd rfl ?_ | refine keeps_loop rfl rfl ?_)), perm_eq (by rw [swap_mid]; rfl)⟩
        · try simp at h4
          have hins := ins_exit (l := l) (k := k) hx hB (by intro h0; have := h4 h0; omega)
          refine hw_exit ?_
          refine seqQ_x ?_
          refine loopQ2_x ?_
          refine blockQ_eq ?_
          refine blockQ_n ?_
          refine seqQ_n ?_
          refine hw_reg1 ?_
          refine dp rfl (pop_move rfl) ?_
          refine dp rfl (pop_add64 rfl rfl (by omega) (by omega)) ?_
          refine dp rfl (pop_assign rfl) ?_
          refine dn ?_
          refine ⟨k + 1, ?_, ?_, ⟨rfl, trivial⟩, (by repeat (first | exact keeps_refl | refine keeps_upd rfl ?_ | refine keeps_loop rfl rfl ?_)), perm_eq (by rw [hins])⟩
          · omega
          · dsimp only; omega
    · try simp at h2
      have hend : isort c (l.take k) ++ l.drop k = isort c l := by rw [List.take_of_length_le (by omega), drop_all (by omega)]; simp
      refine hw_exit ?_
      refine seqQ_x ?_
      refine loopQ_x ?_
      refine blockQ_eq ?_
      exact ⟨_, _, Ghost.sub (Sub.refl _), _, _, rfl, Weak.refl _, rfl, by rw [hend]⟩

/-- slices.pdqsortCmpFunc[benchwarmer/api.Asset] -/
theorem c_slices_pdqsortCmpFunc_api_Asset {l : List Asset} {v : Value} {fid : FuncId} {caps : List HVal} {c : Asset → Asset → Int} {lim : Int} (hca : Callable Tryz.prog fid) (hp : ∀ x y, ConP Tryz.prog fid ([eAsset x, eAsset y] ++ caps) (.int .i64 (c x y))) (hl : l.length ≤ 12) : Con Tryz.prog 97 [.raw v, .int .i64 0, .int .i64 (l.length : Int), .int .i64 lim, .fn (.func fid) [] caps] [.arr v 3 (l.map eAsset)] (fun x M' => x = .tup [] ∧ M' = [.arr v 3 ((isort c l).map eAsset)]) := by
  refine Con.of_body Tryz.func97 rfl Tryz.ntmps97 rfl rfl ?_
  refine hw_reg ?_
  refine dp rfl (pop_assign rfl) ?_
  refine dn ?_
  refine hw_reg ?_
  refine dp rfl (pop_assign rfl) ?_
  refine dn ?_
  refine hw_block ?_
  refine hw_loopw (1 :: 2 :: 3 :: 10 :: 11 :: 12 :: 13 :: 14 :: 15 :: 16 :: 17 :: 18 :: 19 :: 20 :: 21 :: 22 :: 23 :: 24 :: 25 :: 26 :: 27 :: 28 :: 29 :: 30 :: 31 :: 32 :: 33 :: 34 :: 35 :: 36 :: 37 :: 38 :: 39 :: 40 :: 41 :: 42 :: 43 :: 44 :: 45 :: 46 :: 47 :: 48 :: 49 :: 50 :: 51 :: 52 :: 53 :: 54 :: 55 :: 56 :: 57 :: 58 :: 59 :: 60 :: 61 :: 62 :: 63 :: 64 :: 65 :: 66 :: 67 :: 68 :: 69 :: 70 :: 71 :: 72 :: 73 :: 74 :: 75 :: 76 :: 77 :: 78 :: 79 :: 80 :: 81 :: 82 :: 83 :: 84 :: 85 :: 86 :: 87 :: 88 :: 89 :: 90 :: 91 :: 92 :: 93 :: 94 :: 95 :: 96 :: 97 :: 98 :: 99 :: 100 :: 101 :: 102 :: 103 :: 104 :: 105 :: 106 :: 107 :: 108 :: 109 :: 110 :: 111 :: 112 :: 113 :: 114 :: 115 :: 116 :: 117 :: 118 :: 119 :: 120 :: 121 :: 122 :: 123 :: 124 :: 125 :: 126 :: 127 :: 128 :: 129 :: 130 :: 131 :: 132 :: 133 :: 134 :: 135 :: 136 :: 137 :: 138 :: 139 :: 140 :: 141 :: 142 :: 143 :: 144 :: 145 :: 146 :: 147 :: []) (fun (u : Unit) => [(1, .int .i64 0), (2, .int .i64 (l.length : Int))]) (fun (u : Unit) => [.arr v 3 (l.map eAsset)]) (fun (u : Unit) => True) (fun (u : Unit) => 0) (()) ?_ ?_ ?_ ?_
  · trivial
  · exact ⟨rfl, rfl, trivial⟩
  · exact List.Perm.refl _
  · intro u hu
    refine hw_block ?_
    refine hw_reg ?_
    refine dp rfl (pop_move rfl) ?_
    refine dp rfl (pop_move rfl) ?_
    refine dp rfl (pop_sub64 rfl rfl (by omega) (by omega)) ?_
    refine dp rfl (pop_assign rfl) ?_
    refine dn ?_
    refine hw_seq ?_
    refine hw_reg ?_
    refine dp rfl (pop_move rfl) ?_
    refine dp rfl (pop_leq rfl rfl) ?_
    refine dn ?_
    refine hw_cond rfl (fun h1 => ?_) (fun h1 => ?_)
    · try simp at h1
      refine hw_reg ?_
      refine dp rfl (pop_move rfl) ?_
      refine dp rfl (pop_move rfl) ?_
      refine dp rfl (pop_move rfl) ?_
      refine dp rfl (pop_move rfl) ?_
      refine de rfl (eop_callx (i := 0) ca120 rfl (WeakL.refl _) rfl (c_slices_insertionSortCmpFunc_api_Asset (l := l) hca hp (by omega) (by omega)) ?_)
      rintro _ _ ⟨rfl, rfl⟩
      refine dn ?_
      refine hw_ret ?_
      exact ret_q rfl ⟨rfl, rfl⟩
    · exfalso
      try simp at h1
      omega

/-- slices.SortFunc[[]benchwarmer/api.Asset,benchwarmer/api.Asset] -/
theorem c_slices_SortFunc_api_Asset_api_Asset {l : List Asset} {v : Value} {fid : FuncId} {caps : List HVal} {c : Asset → Asset → Int} (hca : Callable Tryz.prog fid) (hp : ∀ x y, ConP Tryz.prog fid ([eAsset x, eAsset y] ++ caps) (.int .i64 (c x y))) (hl : l.length ≤ 12) : Con Tryz.prog 73 [.raw v, .fn (.func fid) [] caps] [.arr v 3 (l.map eAsset)] (fun x M' => x = .tup [] ∧ M' = [.arr v 3 ((isort c l).map eAsset)]) := by
  refine Con.of_body Tryz.func73 rfl Tryz.ntmps73 rfl rfl ?_
  refine hw_reg ?_
  refine dp rfl (pop_move rfl) ?_
  first
  | refine de rfl (eop_lenm (i := 0) ty26 rfl rfl ?_)
  | refine de rfl (eop_lenm (i := 1) ty26 rfl rfl ?_)
  | refine de rfl (eop_lenm (i := 2) ty26 rfl rfl ?_)
  | refine de rfl (eop_lenm (i := 3) ty26 rfl rfl ?_)
  refine dp rfl (pop_assign rfl) ?_
  refine dn ?_
  refine hw_reg1 ?_
  refine dp rfl (pop_move rfl) ?_
  refine dp rfl (pop_move rfl) ?_
  refine dp rfl (pop_move rfl) ?_
  refine dp rfl (pop_eq (pop_conv ty3 ty101 rfl) (congrArg _ (wrapu64 (by omega)))) ?_
  refine de rfl (eop_callf (M1 := []) (R := [_]) ca76 rfl (WeakL.refl _) (List.Perm.refl _) (c_bits_Len_s (x := l.length) (by omega)) ?_)
  rintro _ _ ⟨n11, rfl, rfl⟩
  refine dp rfl (pop_move rfl) ?_
  first
  | refine de rfl (eop_callx (i := 0) ca97 rfl (WeakL.refl _) rfl (c_slices_pdqsortCmpFunc_api_Asset hca hp hl) ?_)
  | refine de rfl (eop_callx (i := 1) ca97 rfl (WeakL.refl _) rfl (c_slices_pdqsortCmpFunc_api_Asset hca hp hl) ?_)
  | refine de rfl (eop_callx (i := 2) ca97 rfl (WeakL.refl _) rfl (c_slices_pdqsortCmpFunc_api_Asset hca hp hl) ?_)
  | refine de rfl (eop_callx (i := 3) ca97 rfl (WeakL.refl _) rfl (c_slices_pdqsortCmpFunc_api_Asset hca hp hl) ?_)
  rintro _ _ ⟨rfl, rfl⟩
  refine dn ?_
  exact ⟨_, _, Ghost.sub (Sub.refl _), _, _, rfl, Weak.refl _, rfl, rfl⟩

/-- slices.stableCmpFunc[benchwarmer/api.Asset] -/
theorem c_slices_stableCmpFunc_api_Asset {l : List Asset} {v : Value} {fid : FuncId} {caps : List HVal} {c : Asset → Asset → Int} (hca : Callable Tryz.prog fid) (hp : ∀ x y, ConP Tryz.prog fid ([eAsset x, eAsset y] ++ caps) (.int .i64 (c x y))) (hl : l.length < 20) : Con Tryz.prog 111 [.raw v, .int .i64 (l.length : Int), .fn (.func fid) [] caps] [.arr v 3 (l.map eAsset)] (fun x M' => x = .tup [] ∧ M' = [.arr v 3 ((isort c l).map eAsset)]) := by
  refine Con.of_body Tryz.func111 rfl Tryz.ntmps111 rfl rfl ?_
  refine hw_reg ?_
  refine dp rfl (pop_assign rfl) ?_
  refine dn ?_
  refine hw_reg ?_
  refine dp rfl (pop_move rfl) ?_
  refine dp rfl (pop_assign rfl) ?_
  refine dp rfl (pop_assign rfl) ?_
  refine dn ?_
  refine hw_seq ?_
  refine hw_block ?_
  refine hw_loopw [7, 8, 11, 12, 13, 14, 15, 16, 17, 18, 19, 20, 21, 22] (fun (u : Unit) => [(7, .int .i64 0), (8, .int .i64 20)]) (fun (u : Unit) => [.arr v 3 (l.map eAsset)]) (fun (u : Unit) => True) (fun (u : Unit) => 0) (()) ?_ ?_ ?_ ?_
  · trivial
  · exact ⟨rfl, rfl, trivial⟩
  · exact List.Perm.refl _
  · intro u hu
    refine hw_seq ?_
    refine hw_reg ?_
    refine dp rfl (pop_move rfl) ?_
    refine dp rfl (pop_move rfl) ?_
    refine dp rfl (pop_leq rfl rfl) ?_
    refine dn ?_
    refine hw_cond rfl (fun h1 => ?_) (fun h1 => ?_)
    · exfalso
      try simp at h1
      omega
    · try simp at h1
      refine hw_exit ?_
      refine seqQ_x ?_
      refine loopQ_x ?_
      refine blockQ_eq ?_
      refine seqQ_n ?_
      refine hw_reg ?_
      refine dp rfl (pop_move rfl) ?_
      refine dp rfl (pop_move rfl) ?_
      refine dp rfl (pop_move rfl) ?_
      refine dp rfl (pop_move rfl) ?_
      refine de rfl (eop_callx (i := 0) ca120 rfl (WeakL.refl _) rfl (c_slices_insertionSortCmpFunc_api_Asset (l := l) hca hp (by omega) (by omega)) ?_)
      rintro _ _ ⟨rfl, rfl⟩
      refine dn ?_
      refine hw_block ?_
      refine hw_loopw [6, 7, 8, 9, 28, 29, 30, 31, 32, 33, 34, 35, 36, 37, 38, 39, 40, 41, 42, 43, 44, 45, 46, 47, 48, 49, 50, 51, 52, 53, 54, 55, 56, 57, 58, 59, 60, 61, 62] (fun (u : Unit) => [(6, .int .i64 20)]) (fun (u : Unit) => [.arr v 3 ((isort c l).map eAsset)]) (fun (u : Unit) => True) (fun (u : Unit) => 0) (()) ?_ ?_ ?_ ?_
      · trivial
      · exact ⟨rfl, trivial⟩
      · exact List.Perm.refl _
      · intro u hu
        refine hw_seq ?_
        refine hw_reg ?_
        refine dp rfl (pop_move rfl) ?_
        refine dp rfl (pop_move rfl) ?_
        refine dp rfl (pop_lss rfl rfl) ?_
        refine dn ?_
        refine hw_cond rfl (fun h2 => ?_) (fun h2 => ?_)
        · exfalso
          try simp at h2
          omega
        · try simp at h2
          refine hw_exit ?_
          refine seqQ_x ?_
          refine loopQ_x ?_
          refine blockQ_eq ?_
          exact ⟨_, _, Ghost.sub (Sub.refl _), _, _, rfl, Weak.refl _, rfl, rfl⟩

/-- slices.SortStableFunc[[]benchwarmer/api.Asset,benchwarmer/api.Asset] -/
theorem c_slices_SortStableFunc_api_Asset_api_Asset {l : List Asset} {v : Value} {fid : FuncId} {caps : List HVal} {c : Asset → Asset → Int} (hca : Callable Tryz.prog fid) (hp : ∀ x y, ConP Tryz.prog fid ([eAsset x, eAsset y] ++ caps) (.int .i64 (c x y))) (hl : l.length < 20) : Con Tryz.prog 84 [.raw v, .fn (.func fid) [] caps] [.arr v 3 (l.map eAsset)] (fun x M' => x = .tup [] ∧ M' = [.arr v 3 ((isort c l).map eAsset)]) := by
  refine Con.of_body Tryz.func84 rfl Tryz.ntmps84 rfl rfl ?_
  refine hw_reg1 ?_
  refine dp rfl (pop_move rfl) ?_
  refine dp rfl (pop_move rfl) ?_
  first
  | refine de rfl (eop_lenm (i := 0) ty26 rfl rfl ?_)
  | refine de rfl (eop_lenm (i := 1) ty26 rfl rfl ?_)
  | refine de rfl (eop_lenm (i := 2) ty26 rfl rfl ?_)
  | refine de rfl (eop_lenm (i := 3) ty26 rfl rfl ?_)
  refine dp rfl (pop_move rfl) ?_
  first
  | refine de rfl (eop_callx (i := 0) ca111 rfl (WeakL.refl _) rfl (c_slices_stableCmpFunc_api_Asset hca hp hl) ?_)
  | refine de rfl (eop_callx (i := 1) ca111 rfl (WeakL.refl _) rfl (c_slices_stableCmpFunc_api_Asset hca hp hl) ?_)
  | refine de rfl (eop_callx (i := 2) ca111 rfl (WeakL.refl _) rfl (c_slices_stableCmpFunc_api_Asset hca hp hl) ?_)
  | refine de rfl (eop_callx (i := 3) ca111 rfl (WeakL.refl _) rfl (c_slices_stableCmpFunc_api_Asset hca hp hl) ?_)
  rintro _ _ ⟨rfl, rfl⟩
  refine dn ?_
  exact ⟨_, _, Ghost.sub (Sub.refl _), _, _, rfl, Weak.refl _, rfl, rfl⟩

/-- slices.IndexFunc[[]benchwarmer/api.Asset,benchwarmer/api.Asset] -/
theorem c_slices_IndexFunc_api_Asset_api_Asset {l : List Asset} {fid : FuncId} {caps : List HVal} {p : Asset → Bool} (hca : Callable Tryz.prog fid) (hp : ∀ x, ConP Tryz.prog fid ([eAsset x] ++ caps) (.bool (p x))) (hl : l.length ≤ 1000000) : ConP Tryz.prog 110 [.slice 3 (l.map eAsset), .fn (.func fid) [] caps] (.int .i64 (idxF p l 0)) := by
  refine Con.of_body Tryz.func110 rfl Tryz.ntmps110 rfl rfl ?_
  refine hw_reg ?_
  refine dp rfl (pop_assign rfl) ?_
  refine dn ?_
  refine hw_seq ?_
  refine hw_reg ?_
  refine dp rfl (pop_move rfl) ?_
  refine dp rfl (pop_lenm ty26 rfl) ?_
  refine dp rfl (pop_move rfl) ?_
  refine dn ?_
  refine hw_block ?_
  refine hw_loopw [4, 5, 8, 9, 10, 11, 12, 13, 14, 15, 16, 17, 18] (fun (k : Nat) => [(8, .int .i64 k)]) (fun (k : Nat) => []) (fun (k : Nat) => k ≤ l.length ∧ (idxF p l 0 = idxF p (l.drop k) k)) (fun (k : Nat) => l.length - k) (0) ?_ ?_ ?_ ?_
  · exact ⟨Nat.zero_le _, rfl⟩
  · exact ⟨rfl, trivial⟩
  · exact List.Perm.refl _
  · intro k hinv
    obtain ⟨hk, hg⟩ := hinv
    refine hw_reg ?_
    refine dp rfl (pop_lss rfl rfl) ?_
    refine dn ?_
    refine hw_seq ?_
    refine hw_cond rfl (fun h1 => ?_) (fun h2 => ?_)
    · try simp at h1
      obtain ⟨x, hx⟩ : ∃ x, l[k]? = some x := ⟨_, List.getElem?_eq_getElem h1⟩
      have hdx := drop_cons hx
      rw [hdx] at hg
      refine hw_skip ?_
      refine seqQ_n ?_
      refine hw_seq ?_
      refine hw_block ?_
      refine hw_reg ?_
      refine dp rfl (pop_move rfl) ?_
      refine dp rfl (pop_assign rfl) ?_
      refine dn ?_
      refine hw_reg ?_
      refine dp rfl (pop_move rfl) ?_
      refine dp rfl (pop_move rfl) ?_
      refine dp rfl (pop_move rfl) ?_
      refine dp rfl (pop_idx ty26 ty57 rfl rfl rfl (by first | assumption | simp_all)) ?_
      refine dp rfl (pop_loadw ty57 rfl rfl rfl rfl) ?_
      refine dp rfl (pop_callv hca rfl rfl (WeakL.refl _) (hp _)) ?_
      refine dn ?_
      refine hw_cond rfl (fun h3 => ?_) (fun h4 => ?_)
      · try simp at h3
        refine hw_reg ?_
        refine dp rfl (pop_move rfl) ?_
        refine dp rfl (pop_assign rfl) ?_
        refine dn ?_
        refine hw_ret ?_
        refine ret_p rfl ?_
        show HVal.int .i64 _ = _
        first | (rw [hg]; rfl) | (rw [hg]; simp_all [idxF])
      · try simp at h4
        refine hw_skip ?_
        refine blockQ_n ?_
        refine seqQ_n ?_
        refine hw_reg1 ?_
        refine dp rfl (pop_add64 rfl rfl (by omega) (by omega)) ?_
        refine dp rfl (pop_move rfl) ?_
        refine dn ?_
        refine ⟨k + 1, ?_, ?_, ⟨rfl, trivial⟩, (by repeat (first | exact keeps_refl | refine keeps_upd rfl ?_ | refine keeps_loop rfl rfl ?_)), List.Perm.refl _⟩
        · refine ⟨by omega, ?_⟩
          rw [hg, idxF, if_neg (by simp_all)]; rfl
        · dsimp only; omega
    · try simp at h2
      have hnk : l.length ≤ k := by omega
      obtain rfl : k = l.length := by omega
      rw [drop_all (Nat.le_refl _)] at hg
      refine hw_exit ?_
      refine seqQ_x ?_
      refine loopQ_x ?_
      refine blockQ_eq ?_
      refine seqQ_n ?_
      refine hw_reg ?_
      refine dp rfl (pop_assign rfl) ?_
      refine dn ?_
      refine hw_ret ?_
      refine ret_p rfl ?_
      show HVal.int .i64 _ = _
      first | (rw [hg]; rfl) | (rw [hg]; simp_all [idxF])

/-- slices.Clone[[]benchwarmer/api.Asset,benchwarmer/api.Asset] -/
theorem c_slices_Clone_api_Asset_api_Asset {l : List Asset} (hl : l.length ≤ 1000000) : ConA Tryz.prog 82 [.slice 3 (l.map eAsset)] 3 (l.map eAsset) := by
  refine Con.of_body Tryz.func82 rfl Tryz.ntmps82 rfl rfl ?_
  refine hw_reg ?_
  refine dp rfl (pop_assign rfl) ?_
  refine dn ?_
  refine hw_seq ?_
  refine hw_reg ?_
  refine dp rfl (pop_move rfl) ?_
  refine de rfl (eop_eqnil ty26 rfl rfl fun b4 hb4 => ?_)
  refine dn ?_
  refine hw_cond rfl (fun h1 => ?_) (fun h2 => ?_)
  · try simp at h1
    refine hw_reg ?_
    refine dp rfl (pop_assign rfl) ?_
    refine dn ?_
    refine hw_ret ?_
    first | exact ret_a rfl rfl | exact ret_g (Ghost.arr_nil 3) rfl ⟨_, rfl, by simp_all⟩
  · try simp at h2
    refine hw_skip ?_
    refine seqQ_n ?_
    refine hw_reg ?_
    refine de rfl (eop_mk0 ty26 ty57 fun v5 => ?_)
    refine dp rfl (pop_move rfl) ?_
    refine de rfl (eop_append (i := 0) ty26 ty57 rfl rfl rfl rfl rfl (by simp [flat, hcells]) (by first | omega | (simp; omega)) fun v7 => ?_)
    refine dp rfl (pop_assign rfl) ?_
    refine dn ?_
    refine hw_ret ?_
    first | exact ret_a rfl rfl | exact ret_g (Ghost.arr_nil 3) rfl ⟨_, rfl, by simp_all⟩

/-- slices.DeleteFunc[[]benchwarmer/api.Asset,benchwarmer/api.Asset] -/
theorem c_slices_DeleteFunc_api_Asset_api_Asset {l : List Asset} {fid : FuncId} {caps : List HVal} {p : Asset → Bool} {v : Value} (hca : Callable Tryz.prog fid) (hp : ∀ x, ConP Tryz.prog fid ([eAsset x] ++ caps) (.bool (p x))) (hl : l.length ≤ 1000000) : Con Tryz.prog 81 [.raw v, .fn (.func fid) [] caps] [.arr v 3 (l.map eAsset)] (fun x M' => ∃ u, x = .raw u ∧ M' = [.arr u 3 ((l.filter (fun x => !p x)).map eAsset)]) := by
  refine Con.of_body Tryz.func81 rfl Tryz.ntmps81 rfl rfl ?_
  refine hw_reg ?_
  refine dp rfl (pop_assign rfl) ?_
  refine dn ?_
  refine hw_reg ?_
  refine dp rfl (pop_move rfl) ?_
  refine dp rfl (pop_move rfl) ?_
  refine de rfl (eop_callb (hs' := [.slice 3 (l.map eAsset), .fn (.func fid) [] caps]) ca110 rfl ⟨.arr (i := 0) rfl, .weak (Weak.refl _), trivial⟩ (c_slices_IndexFunc_api_Asset_api_Asset (p := p) hca hp hl) rfl ?_)
  refine dp rfl (pop_assign rfl) ?_
  refine dn ?_
  refine hw_seq ?_
  refine hw_reg ?_
  refine dp rfl (pop_move rfl) ?_
  refine dp rfl (pop_eql rfl rfl) ?_
  refine dn ?_
  refine hw_cond rfl (fun h1 => ?_) (fun h2 => ?_)
  · try simp at h1
    refine hw_reg ?_
    refine dp rfl (pop_move rfl) ?_
    refine dp rfl (pop_assign rfl) ?_
    refine dn ?_
    refine hw_ret ?_
    first
    | (refine ret_q rfl ⟨_, rfl, ?_⟩
       rw [idxF_none p l 0 (by omega) h1]
       done)
    | (refine ret_q rfl ⟨_, rfl, ?_⟩
       rw [List.take_length, ← List.map_take, hend]; rfl)
  · try simp at h2
    refine hw_skip ?_
    refine seqQ_n ?_
    refine hw_seq ?_
    obtain ⟨i0, hi0, hil, ⟨x0, hx0, hp0⟩, hb0⟩ := idxF_found p l 0 (by omega) h2
    rw [Int.zero_add] at hi0
    obtain ⟨hD0, hn0⟩ := DelInv.start (p := p) hil hx0 hp0 hb0
    refine hw_arrc (i := 0) rfl (fun h0 he => ?_) (fun b off cap hv hcap => ?_)
    · exfalso; have := congrArg List.length he; simp at this; subst this; simp at hil
    rw [List.length_map] at hv hcap
    subst hv
    refine hw_reg ?_
    refine dp rfl (pop_move rfl) ?_
    refine dp rfl (pop_eq (pop_add64 rfl rfl (by rw [hi0]; omega) (by rw [hi0]; omega)) (congrArg _ (by rw [hi0]))) ?_
    refine dp rfl (pop_assign rfl) ?_
    refine dn ?_
    refine hw_block ?_
    refine hw_loopw2 [5, 6, 7, 16, 17, 18, 19, 20, 21, 22, 23, 24, 25, 26, 27, 28, 29, 30, 31, 32, 33, 34, 35] (fun (j : Nat) (D : List Asset) => [(6, .int .i64 (j : Int)), (5, .int .i64 (((l.take j).filter (fun x => !p x)).length : Int))]) (fun (j : Nat) (D : List Asset) => [.arr (.slice (some ⟨b, off, none⟩) l.length cap) 3 (D.map eAsset)]) (fun (j : Nat) (D : List Asset) => DelInv p l j D) (fun (j : Nat) (D : List Asset) => l.length - j) (i0 + 1) (l) ?_ ?_ ?_ ?_
    · exact hD0
    · exact ⟨rfl, some_int (by rw [hn0, hi0]), trivial⟩
    · exact List.Perm.refl _
    · intro j D hD
      have hlt0 := hD.lt
      have hle0 := hD.len
      refine hw_seq ?_
      refine hw_reg ?_
      refine dp rfl (pop_move rfl) ?_
      refine dp rfl (pop_move rfl) ?_
      first
      | refine de rfl (eop_lenm (i := 0) ty26 rfl rfl ?_)
      | refine de rfl (eop_lenm (i := 1) ty26 rfl rfl ?_)
      | refine de rfl (eop_lenm (i := 2) ty26 rfl rfl ?_)
      | refine de rfl (eop_lenm (i := 3) ty26 rfl rfl ?_)
      refine dp rfl (pop_lss rfl rfl) ?_
      refine dn ?_
      refine hw_cond rfl (fun h3 => ?_) (fun h4 => ?_)
      · try simp at h3
        obtain ⟨x, hx⟩ : ∃ x, l[j]? = some x := ⟨_, List.getElem?_eq_getElem (by omega)⟩
        refine hw_skip ?_
        refine seqQ_n ?_
        refine hw_seq ?_
        refine hw_block ?_
        refine hw_reg ?_
        refine dp rfl (pop_move rfl) ?_
        refine dp rfl (pop_move rfl) ?_
        refine dp rfl (pop_idxraw (j := j) ty26 ty57 rfl rfl rfl (by omega)) ?_
        refine de rfl (eop_load_elw (i := 0) (j := j) ty57 rfl rfl rfl (hD.get hx) rfl rfl rfl ?_)
        refine de rfl (eop_alloc ty57 rfl fun b7 => ?_)
        refine de0 (eop_storew ty57 rfl rfl rfl rfl rfl ?_)
        refine dn ?_
        refine hw_ghost (Ghost.fc0 7 rfl) ?_
        refine hw_reg ?_
        refine dp rfl (pop_move rfl) ?_
        refine dp rfl (pop_loadw ty57 rfl rfl rfl rfl) ?_
        refine dp rfl (pop_callv hca rfl rfl (WeakL.refl _) (hp _)) ?_
        refine dp rfl (pop_not rfl) ?_
        refine dn ?_
        refine hw_cond rfl (fun h5 => ?_) (fun h6 => ?_)
        · try simp at h5
          refine hw_reg ?_
          refine dp rfl (pop_move rfl) ?_
          refine dp rfl (pop_move rfl) ?_
          refine dp rfl (pop_loadw ty57 rfl rfl rfl rfl) ?_
          refine dp rfl (pop_idxraw (j := ((l.take j).filter (fun x => !p x)).length) ty26 ty57 rfl rfl rfl (by have := hD.lt; omega)) ?_
          refine de0 (eop_store_elw (i := 0) (j := ((l.take j).filter (fun x => !p x)).length) (y := D[((l.take j).filter (fun x => !p x)).length]'(by have := hD.lt; have := hD.len; omega)) (y' := x) ty57 rfl rfl rfl rfl (List.getElem?_eq_getElem _) rfl rfl rfl ?_)
          refine dn ?_
          refine hw_reg1 ?_
          refine dp rfl (pop_move rfl) ?_
          refine dp rfl (pop_add64 rfl rfl (by omega) (by have := hD.lt; omega)) ?_
          refine dp rfl (pop_assign rfl) ?_
          refine dn ?_
          refine blockQ_n ?_
          refine seqQ_n ?_
          refine hw_reg1 ?_
          refine dp rfl (pop_move rfl) ?_
          refine dp rfl (pop_add64 rfl rfl (by omega) (by omega)) ?_
          refine dp rfl (pop_assign rfl) ?_
          refine dn ?_
          first
          | exact ⟨j + 1, _, (hD.keep hx (by simp_all)).1, by dsimp only; omega, ⟨rfl, some_int (by rw [(hD.keep hx (by simp_all)).2]; rfl), trivial⟩, (by repeat (first | exact keeps_refl | refine keeps_upd rfl ?_ | refine keeps_loop rfl rfl ?_)), List.Perm.refl _⟩
          | exact ⟨j + 1, _, (hD.skip hx (by simp_all)).1, by dsimp only; omega, ⟨rfl, some_int (by rw [(hD.skip hx (by simp_all)).2]), trivial⟩, (by repeat (first | exact keeps_refl | refine keeps_upd rfl ?_ | refine keeps_loop rfl rfl ?_)), List.Perm.refl _⟩
        · try simp at h6
          refine hw_skip ?_
          refine blockQ_n ?_
          refine seqQ_n ?_
          refine hw_reg1 ?_
          refine dp rfl (pop_move rfl) ?_
          refine dp rfl (pop_add64 rfl rfl (by omega) (by omega)) ?_
          refine dp rfl (pop_assign rfl) ?_
          refine dn ?_
          first
          | exact ⟨j + 1, _, (hD.keep hx (by simp_all)).1, by dsimp only; omega, ⟨rfl, some_int (by rw [(hD.keep hx (by simp_all)).2]; rfl), trivial⟩, (by repeat (first | exact keeps_refl | refine keeps_upd rfl ?_ | refine keeps_loop rfl rfl ?_)), List.Perm.refl _⟩
          | exact ⟨j + 1, _, (hD.skip hx (by simp_all)).1, by dsimp only; omega, ⟨rfl, some_int (by rw [(hD.skip hx (by simp_all)).2]), trivial⟩, (by repeat (first | exact keeps_refl | refine keeps_upd rfl ?_ | refine keeps_loop rfl rfl ?_)), List.Perm.refl _⟩
      · try simp at h4
        obtain rfl : j = l.length := by have := hD.jle; omega
        have hend := hD.done
        refine hw_exit ?_
        refine seqQ_x ?_
        refine loopQ2_x ?_
        refine blockQ_eq ?_
        refine seqQ_n ?_
        refine hw_reg ?_
        refine dp rfl (pop_move rfl) ?_
        refine dp rfl (pop_move rfl) ?_
        refine dp rfl (pop_slraw (l := ((l.take l.length).filter (fun x => !p x)).length) ty26 ty57 rfl ⟨_, _, rfl, rfl⟩ rfl (by omega) (by omega) hcap) ?_
        refine de0 (eop_clear_at (i := 0) (m := ((l.take l.length).filter (fun x => !p x)).length) (((l.take l.length).filter (fun x => !p x)).length) ty26 ty57 rfl rfl rfl (slOff_or (by omega) hcap) rfl (by omega) (Nat.le_refl _) (by rw [List.length_map, hD.len]; omega) ?_)
        refine dn ?_
        refine hw_reg ?_
        refine dp rfl (pop_move rfl) ?_
        refine dp rfl (pop_move rfl) ?_
        refine dp rfl (pop_slraw0 (h := ((l.take l.length).filter (fun x => !p x)).length) ty26 ty57 rfl ⟨_, _, rfl, rfl⟩ (by omega)) ?_
        refine dp rfl (pop_assign rfl) ?_
        refine dn ?_
        refine hw_ret ?_
        first
        | (refine ret_q rfl ⟨_, rfl, ?_⟩
           rw [idxF_none p l 0 (by omega) h1]
           done)
        | (refine ret_q rfl ⟨_, rfl, ?_⟩
           rw [List.take_length, ← List.map_take, hend]; rfl)
end Go.Proofs.YtnlfcjoofdjpiaaGreatDoor
end
section
namespace Go.HL
theorem sumV_app (a b : List Asset) : sumV (a ++ b) = sumV a + sumV b := by simp [sumV]
theorem sumV_bd : ∀ {L : List Asset}, (∀ x ∈ L, -1000000 ≤ x.Value ∧ x.Value ≤ 1000000) → -1000000 * (L.length : Int) ≤ sumV L ∧ sumV L ≤ 1000000 * (L.length : Int)
  | [], _ => by simp [sumV]
  | x :: L, h => by
    have ih := sumV_bd (L := L) fun y hy => h y (List.mem_cons_of_mem _ hy)
    have hx := h x (by simp)
    have e : sumV (x :: L) = x.Value + sumV L := by simp [sumV]
    rw [e, List.length_cons]; omega
theorem mem_chosen {l : List Asset} {pos : Str} {m : Int} {y : Asset} (h : y ∈ chosen (ofP l pos) m) : y ∈ l := by
  unfold chosen at h
  have h1 := List.mem_of_mem_take (List.mem_filter.1 h).1
  unfold ofP atPos at h1
  exact (List.mem_filter.1 ((isort_mem byValue).1 h1)).1
theorem mem_chosenR {l : List Asset} {pos : Str} {m : Int} {y : Asset} (h : y ∈ chosen (ofR l pos) m) : y ∈ l := by
  unfold chosen at h
  have h1 := List.mem_of_mem_take (List.mem_filter.1 h).1
  unfold ofR atPos at h1
  exact (List.mem_filter.1 ((isort_mem byVal).1 h1)).1
theorem chosen_len (o : List Asset) (m : Int) : (chosen o m).length ≤ o.length := by
  unfold chosen
  refine Nat.le_trans (List.length_filter_le _ _) ?_
  simp; omega
theorem fieldedL_snoc (f : Str → List Asset) {p : List Place} {i : Nat} {x : Place} (h : p[i]? = some x) : fieldedL f (p.take (i + 1)) = fieldedL f (p.take i) ++ chosen (f x.Position) x.Many := by
  rw [take_snoc' h]; simp [fieldedL]
theorem fieldedL_len {f : Str → List Asset} {n : Nat} (hf : ∀ s, (f s).length ≤ n) : ∀ p : List Place, (fieldedL f p).length ≤ n * p.length
  | [] => by simp [fieldedL]
  | x :: p => by
    have ih := fieldedL_len hf p
    have h1 := chosen_len (f x.Position) x.Many
    have h2 := hf x.Position
    have e : fieldedL f (x :: p) = chosen (f x.Position) x.Many ++ fieldedL f p := by simp [fieldedL]
    rw [e, List.length_append, List.length_cons, Nat.mul_succ]; omega
theorem mem_fieldedL {f : Str → List Asset} {l : List Asset} (hf : ∀ s m y, y ∈ chosen (f s) m → y ∈ l) {p : List Place} {y : Asset} (h : y ∈ fieldedL f p) : y ∈ l := by
  unfold fieldedL at h
  obtain ⟨x, _, hx⟩ := List.mem_flatMap.1 h
  exact hf _ _ y hx
/-- What a prefix of the places brings stays small. -/
theorem field_bd {f : Str → List Asset} {l : List Asset} {p : List Place} {i : Nat} (hf : ∀ s m y, y ∈ chosen (f s) m → y ∈ l) (hn : ∀ s, (f s).length ≤ 12) (hp : p.length ≤ 10) (hv : ∀ x ∈ l, -1000000 ≤ x.Value ∧ x.Value ≤ 1000000) :
    (fieldedL f (p.take i)).length ≤ 120 ∧ -120000000 ≤ sumV (fieldedL f (p.take i)) ∧ sumV (fieldedL f (p.take i)) ≤ 120000000 := by
  have h1 := fieldedL_len hn (p.take i)
  have h2 : (p.take i).length ≤ 10 := by simp; omega
  have h3 := sumV_bd (L := fieldedL f (p.take i)) fun y hy => hv y (mem_fieldedL hf hy)
  have h4 : (fieldedL f (p.take i)).length ≤ 120 := by omega
  omega
theorem pos_bd {C l : List Asset} {k : Nat} (hC : ∀ y ∈ C, y ∈ l) (hn : C.length ≤ 12) (hv : ∀ x ∈ l, -1000000 ≤ x.Value ∧ x.Value ≤ 1000000) :
    ((C.take k).filter (fun y => decide (0 < y.Value))).length ≤ 12 ∧ -12000000 ≤ sumV ((C.take k).filter (fun y => decide (0 < y.Value))) ∧ sumV ((C.take k).filter (fun y => decide (0 < y.Value))) ≤ 12000000 := by
  have h1 := List.length_filter_le (fun y : Asset => decide (0 < y.Value)) (C.take k)
  have h2 : (C.take k).length ≤ 12 := by simp; omega
  have h3 := sumV_bd (L := (C.take k).filter (fun y => decide (0 < y.Value))) fun y hy => hv y (hC y (List.mem_of_mem_take (List.mem_filter.1 hy).1))
  omega
theorem pos_snoc {C : List Asset} {k : Nat} {y : Asset} (h : C[k]? = some y) : (C.take (k + 1)).filter (fun y => decide (0 < y.Value)) = (C.take k).filter (fun y => decide (0 < y.Value)) ++ if 0 < y.Value then [y] else [] := by
  rw [take_snoc' h, List.filter_append]
  by_cases hy : 0 < y.Value <;> simp [hy]
theorem chosen_eq {o : List Asset} {m : Int} {N : Nat} (hN : (if (o.length : Int) < m then (o.length : Int) else m) = (N : Int)) : chosen o m = ((o.take N).drop 0).filter (fun y => decide (0 < y.Value)) := by
  unfold chosen
  have : (min m (o.length : Int)).toNat = N := by split at hN <;> omega
  rw [this, List.drop_zero]
def okAP (l : List Asset) (p : List Place) : Int := orI [checkAssets l, checkPlaces p]
theorem okAP_ok {l : List Asset} {p : List Place} (h : okAP l p = 0) : checkAssets l = 0 ∧ checkPlaces p = 0 := orI_zero h
def sumF (l : List Asset) (p : List Place) : Int := sumV (fieldedL (ofP l) p)
def bringsE (l : List Asset) (p : List Place) (x : Asset) : Int :=
  if orI [checkAssets l, checkPlaces p, assetFault x] != 0 then orI [checkAssets l, checkPlaces p, assetFault x] else if l.any (fun y => y.Player == x.Player) then 6 else if 300 ≤ l.length then 12 else 0
theorem orI3 {a b c : Int} (h : orI [a, b, c] = 0) : a = 0 ∧ b = 0 ∧ c = 0 := by
  simp only [orI] at h
  split at h
  · exact absurd h (by assumption)
  · split at h
    · exact absurd h (by assumption)
    · split at h
      · exact absurd h (by assumption)
      · exact ⟨by omega, by omega, by omega⟩
def dropStep (l : List Asset) (F : Nat → Int) (q : Option (Nat × Int)) (k : Nat) (x : Asset) : Option (Nat × Int) :=
  match q with
  | none => some (k, F k)
  | some (b, n) => if n < F k ∨ (F k = n ∧ x.Value ≤ (l.getD b asset0).Value) then some (k, F k) else some (b, n)
def dropRun (l : List Asset) (F : Nat → Int) (n : Nat) : Option (Nat × Int) := (List.range n).foldl (fun q k => dropStep l F q k (l.getD k asset0)) none
theorem dropRun_succ (l : List Asset) (F : Nat → Int) (n : Nat) : dropRun l F (n + 1) = dropStep l F (dropRun l F n) n (l.getD n asset0) := by
  simp [dropRun, List.range_succ, List.foldl_append]
theorem dropRun_lt (l : List Asset) (F : Nat → Int) : ∀ (n : Nat) (b : Nat) (m : Int), dropRun l F n = some (b, m) → b < n ∧ m = F b
  | 0, b, m, h => by simp [dropRun] at h
  | n + 1, b, m, h => by
    rw [dropRun_succ] at h
    unfold dropStep at h
    split at h
    · simp at h; obtain ⟨rfl, rfl⟩ := h; exact ⟨by omega, rfl⟩
    · rename_i b' m' he
      have := dropRun_lt l F n b' m' he
      split at h
      · simp at h; obtain ⟨rfl, rfl⟩ := h; exact ⟨by omega, rfl⟩
      · simp at h; obtain ⟨rfl, rfl⟩ := h; exact ⟨by omega, this.2⟩
theorem dropRun_none (l : List Asset) (F : Nat → Int) (n : Nat) : dropRun l F n = none ↔ n = 0 := by
  cases n with
  | zero => simp [dropRun]
  | succ n =>
    rw [dropRun_succ]
    unfold dropStep
    constructor
    · intro h
      split at h
      · cases h
      · split at h <;> cases h
    · intro h; omega
theorem dropRun_congr {l : List Asset} {F G : Nat → Int} (n : Nat) (h : ∀ k, k < n → F k = G k) : dropRun l F n = dropRun l G n := by
  induction n with
  | zero => rfl
  | succ n ih => rw [dropRun_succ, dropRun_succ, ih fun k hk => h k (by omega)]; unfold dropStep; rw [h n (by omega)]
def dropF (l : List Asset) (p : List Place) (k : Nat) : Int := sumF (l.eraseIdx k) p
def dropped (l : List Asset) (p : List Place) : Option (Nat × Int) := dropRun l (dropF l p) l.length
def dropName (l : List Asset) : Option (Nat × Int) → Str
  | none => []
  | some (b, _) => (l.getD b asset0).Player
def best1 : Option (Nat × Int) → Int
  | none => -1
  | some (b, _) => (b : Int)
def left1 : Option (Nat × Int) → Int
  | none => 0
  | some (_, n) => n
def least1 (l : List Asset) : Option (Nat × Int) → Int
  | none => 0
  | some (b, _) => (l.getD b asset0).Value
end Go.HL
namespace Go.HL
def refBringsE (l : List Asset) (x : Asset) : Int := if assetFault x != 0 then assetFault x else if l.any (fun y => y.Player == x.Player) then 6 else if l.length = 300 then 12 else 0
theorem checkAssets_one (x : Asset) : checkAssets [x] = assetFault x := by
  simp [checkAssets, assetsGo]
  intro h; exact h.symm
def dropG (l : List Asset) (p : List Place) (k : Nat) : Int := sumV (fieldedL (ofR (l.filter fun y => !(y.Player == (l.getD k asset0).Player))) p)
theorem sorted_filter {l : List Asset} (h : SortedS (l.map (·.Player))) (q : Asset → Bool) : SortedS ((l.filter q).map (·.Player)) :=
  List.pairwise_map.2 ((List.pairwise_map.1 h).filter _)
theorem dropG_F {l : List Asset} (h : SortedS (l.map (·.Player))) (p : List Place) {k : Nat} (hk : k < l.length) : dropG l p k = dropF l p k := by
  unfold dropG dropF sumF
  have hx : l[k]? = some (l.getD k asset0) := getD_some hk
  rw [fielded_ref (sorted_filter h _), erase_filter (sortedS_nodup h) hx]
theorem getD_of {l : List Asset} {k : Nat} {x : Asset} (h : l[k]? = some x) : l.getD k asset0 = x := by simp [List.getD, h]
theorem drop_step_yes {l : List Asset} {F : Nat → Int} {k : Nat} {x : Asset} (hx : l[k]? = some x) (h : match dropRun l F k with | none => True | some (b, n) => n < F k ∨ (F k = n ∧ x.Value ≤ (l.getD b asset0).Value)) : dropRun l F (k + 1) = some (k, F k) := by
  rw [dropRun_succ, getD_of hx]
  unfold dropStep
  revert h
  cases dropRun l F k with
  | none => intro _; rfl
  | some q => obtain ⟨b, n⟩ := q; intro h; exact if_pos h
theorem drop_step_no {l : List Asset} {F : Nat → Int} {k : Nat} {x : Asset} (hx : l[k]? = some x) (h : match dropRun l F k with | none => False | some (b, n) => ¬ (n < F k ∨ (F k = n ∧ x.Value ≤ (l.getD b asset0).Value))) : dropRun l F (k + 1) = dropRun l F k := by
  rw [dropRun_succ, getD_of hx]
  unfold dropStep
  revert h
  cases dropRun l F k with
  | none => intro h; exact h.elim
  | some q => obtain ⟨b, n⟩ := q; intro h; exact if_neg h
theorem ord_drop {a b c d : Int} : orI [cmpI a b, cmpI c d] ≤ 0 ↔ a < b ∨ (b = a ∧ c ≤ d) := by
  rw [orI2]
  by_cases h : a = b
  · subst h; rw [if_neg (by simp [cmpI_zero]), cmpI_le]; omega
  · rw [if_pos (by simp [cmpI_zero, h]), cmpI_le]; omega
end Go.HL
namespace Go.HL
theorem best1_neg {q : Option (Nat × Int)} (h : best1 q < 0) : q = none := by
  cases q with
  | none => rfl
  | some q => obtain ⟨b, n⟩ := q; simp [best1] at h; omega
theorem drop_yes {l : List Asset} {F : Nat → Int} {k : Nat} {x : Asset} (hx : l[k]? = some x)
    (h : (best1 (dropRun l F k) < 0 ∨ left1 (dropRun l F k) < F k) ∨ F k = left1 (dropRun l F k) ∧ x.Value ≤ (l[(best1 (dropRun l F k)).toNat]?.getD asset0).Value) : dropRun l F (k + 1) = some (k, F k) := by
  refine drop_step_yes hx ?_
  revert h
  cases dropRun l F k with
  | none => intro _; trivial
  | some q =>
    obtain ⟨b, n⟩ := q
    simp only [best1, left1, Int.toNat_natCast, List.getD]
    intro h
    rcases h with (h | h) | h
    · omega
    · exact .inl h
    · exact .inr h
theorem drop_no {l : List Asset} {F : Nat → Int} {k : Nat} {x : Asset} (hx : l[k]? = some x)
    (h : (0 ≤ best1 (dropRun l F k) ∧ F k ≤ left1 (dropRun l F k)) ∧ (F k = left1 (dropRun l F k) → (l[(best1 (dropRun l F k)).toNat]?.getD asset0).Value < x.Value)) : dropRun l F (k + 1) = dropRun l F k := by
  refine drop_step_no hx ?_
  revert h
  cases dropRun l F k with
  | none => intro h; simp [best1] at h
  | some q =>
    obtain ⟨b, n⟩ := q
    simp only [best1, left1, Int.toNat_natCast, List.getD]
    intro h hc
    rcases hc with hc | hc
    · omega
    · have := h.2 hc.1; omega
/-- The same as the references ask it. -/
theorem drop_yesR {l : List Asset} {F : Nat → Int} {k : Nat} {x : Asset} (hx : l[k]? = some x) (h : dropName l (dropRun l F k) = [] ∨ orI [cmpI (left1 (dropRun l F k)) (F k), cmpI x.Value (least1 l (dropRun l F k))] ≤ 0) (hk : ∀ y ∈ l, y.Player ≠ []) : dropRun l F (k + 1) = some (k, F k) := by
  refine drop_step_yes hx ?_
  have hlt := dropRun_lt l F k
  revert h hlt
  cases dropRun l F k with
  | none => intro _ _; trivial
  | some q =>
    obtain ⟨b, n⟩ := q
    simp only [dropName, left1, least1, ord_drop]
    intro h hlt
    rcases h with h | h
    · have := (hlt b n rfl).1
      have hkl := lt_of_get hx
      exact absurd h (hk _ (by simp [List.getD, List.getElem?_eq_getElem (show b < l.length by omega)]))
    · exact h
theorem drop_noR {l : List Asset} {F : Nat → Int} {k : Nat} {x : Asset} (hx : l[k]? = some x) (h : ¬ dropName l (dropRun l F k) = []) (h2 : ¬ orI [cmpI (left1 (dropRun l F k)) (F k), cmpI x.Value (least1 l (dropRun l F k))] ≤ 0) : dropRun l F (k + 1) = dropRun l F k := by
  refine drop_step_no hx ?_
  revert h h2
  cases dropRun l F k with
  | none => intro h; simp [dropName] at h
  | some q =>
    obtain ⟨b, n⟩ := q
    simp only [dropName, left1, least1, ord_drop]
    intro _ h; exact h
end Go.HL
end
section
namespace Go.HL
/-- The state of a loop that draws: the list that grows, how many were drawn. -/
structure GL (α : Type) where
  u : Value
  out : List α
  a : Nat
structure GLok {α : Type} (P : α → Prop) (n m : Nat) (q : GL α) : Prop where
  len : q.out.length ≤ n
  all : ∀ x ∈ q.out, P x
  a : q.a ≤ m
section
variable {α : Type} {P : α → Prop}
theorem GLok.add {n m m' : Nat} {u u' : Value} {out : List α} {a1 a2 : Nat} {x : α} (h : GLok P n m ⟨u, out, a1⟩) (hx : P x) (ha : a2 ≤ m') : GLok P (n + 1) m' ⟨u', out ++ [x], a2⟩ :=
  ⟨by have := h.len; simp at *; omega, fun y hy => by
    rcases List.mem_append.1 hy with hy | hy
    · exact h.all y hy
    · simp at hy; subst hy; exact hx, ha⟩
theorem GLok.same {n m m' : Nat} {u : Value} {out : List α} {a1 a2 : Nat} (h : GLok P n m ⟨u, out, a1⟩) (ha : a2 ≤ m') : GLok P (n + 1) m' ⟨u, out, a2⟩ :=
  ⟨by have := h.len; dsimp only at *; omega, h.all, ha⟩
theorem all_set {l : List α} {j : Nat} {y : α} (h : ∀ x ∈ l, P x) (hy : P y) : ∀ x ∈ l.set j y, P x := fun x hx => by
  rcases mem_set_of hx with rfl | hx
  · exact hy
  · exact h x hx
end
def GoodA (x : Asset) : Prop := Sh x.Player ∧ Sh x.Position
def GoodP (x : Place) : Prop := Sh x.Position
structure GoodAs (l : List Asset) : Prop where
  len : l.length ≤ 7
  all : ∀ x ∈ l, Sh x.Player ∧ Sh x.Position
structure GoodPs (l : List Place) : Prop where
  len : l.length ≤ 4
  all : ∀ x ∈ l, Sh x.Position
def place4 : List Str := [[100, 102], [103, 107], [109, 102], [120, 120]]
theorem place4_sh : ∀ s ∈ place4, Sh s := by
  intro s hs
  have : s.length ≤ 2 := by revert s; decide
  unfold Sh; omega
theorem nil_sh : Sh [] := by simp [Sh]
def asset1 : Asset := ⟨[97], [103, 107], 5⟩
def place1 : Place := ⟨[103, 107], 1⟩
theorem one_ok : okAP [asset1] [place1] = 0 := by kernel_rfl
theorem one_list : fieldedL (ofP [asset1]) [place1] = [asset1] := by kernel_rfl
theorem one_sum : sumF [asset1] [place1] = 5 := by unfold sumF; rw [one_list]; rfl
theorem one_names : namesV (fieldedL (ofP [asset1]) [place1]) = [[97]] := by rw [one_list]; simp [namesV, sortS, asset1]
theorem okE {l : List Asset} {p : List Place} {x : Asset} (h : l.length ≤ 299) : orI [okAP l p, refBringsE l x] = bringsE l p x := by
  unfold bringsE refBringsE okAP
  have hl : ¬ l.length = 300 := by omega
  have hl2 : ¬ 300 ≤ l.length := by omega
  by_cases h1 : checkAssets l = 0 <;> by_cases h2 : checkPlaces p = 0 <;> by_cases h3 : assetFault x = 0 <;> simp [orI, h1, h2, h3, hl, hl2]
theorem bringsE_ok {l : List Asset} {p : List Place} {x : Asset} (h : bringsE l p x = 0) : checkAssets l = 0 ∧ checkPlaces p = 0 ∧ assetFault x = 0 ∧ ∀ y ∈ l, y.Player ≠ x.Player := by
  unfold bringsE at h
  by_cases h1 : orI [checkAssets l, checkPlaces p, assetFault x] = 0
  · obtain ⟨a, b, c⟩ := orI3 h1
    rw [if_neg (by simp [h1])] at h
    by_cases h2 : l.any (fun y => y.Player == x.Player) = true
    · rw [if_pos h2] at h; omega
    · exact ⟨a, b, c, by simpa using h2⟩
  · rw [if_pos (by simpa using h1)] at h; exact absurd h h1
theorem key_ne {s : Str} (h : key s = true) : s ≠ [] := by
  intro e; subst e; simp [key, keyHd] at h
theorem okAP_facts {l : List Asset} {p : List Place} (h : okAP l p = 0) : SortedS (l.map (·.Player)) ∧ (∀ x ∈ l, -1000000 ≤ x.Value ∧ x.Value ≤ 1000000) ∧ (∀ x ∈ l, x.Player ≠ []) ∧ (∀ x ∈ p, 0 ≤ x.Many) ∧ p.length ≤ 10 := by
  obtain ⟨h1, h2⟩ := okAP_ok h
  obtain ⟨h3, h4⟩ := checkAssets_ok h1
  obtain ⟨h5, h6⟩ := checkPlaces_ok h2
  exact ⟨h3, fun x hx => (assetFault_ok (h4 x hx)).2.2, fun x hx => key_ne (assetFault_ok (h4 x hx)).1, fun x hx => (h5 x hx).1, h6⟩
theorem brings_ref {l : List Asset} {p : List Place} {x : Asset} (h : bringsE l p x = 0) : sumV (fieldedL (ofR (isort byPlayer (l ++ [x]))) p) - sumV (fieldedL (ofR l) p) = sumF (l ++ [x]) p - sumF l p := by
  obtain ⟨h1, _, _, h4⟩ := bringsE_ok h
  have hs := (checkAssets_ok h1).1
  unfold sumF
  rw [fielded_with hs h4, fielded_ref hs]
theorem drop_ref {l : List Asset} {p : List Place} (h : okAP l p = 0) : dropRun l (dropG l p) l.length = dropped l p :=
  dropRun_congr _ fun _ hk => dropG_F (okAP_facts h).1 p hk
theorem dropName_ne {l : List Asset} {p : List Place} (h : okAP l p = 0) : (dropName l (dropped l p) != []) = decide (0 < l.length) := by
  unfold dropped
  cases hq : dropRun l (dropF l p) l.length with
  | none =>
    have := (dropRun_none l (dropF l p) l.length).1 hq
    simp [dropName, this]
  | some q =>
    obtain ⟨b, n⟩ := q
    have hb := (dropRun_lt _ _ _ _ _ hq).1
    have hne := (okAP_facts h).2.2.1 (l.getD b asset0) (by simp [List.getD, List.getElem?_eq_getElem hb])
    have h0 : 0 < l.length := by omega
    simp only [dropName, h0, decide_true, bne_iff_ne, ne_eq]
    exact hne
end Go.HL
end
section
namespace Go.HL
structure Over where
  Player : Str
  Worth : Int
  Rank : Int
structure PairS where
  Name : Str
  Val : Str
abbrev eOver (x : Over) : HVal := .agg [.str x.Player, .int .i64 x.Worth, .int .i64 x.Rank]
abbrev ePair (x : PairS) : HVal := .agg [.str x.Name, .str x.Val]
abbrev eOvers (l : List Over) : HVal := .slice 3 (l.map eOver)
abbrev ePairs (l : List PairS) : HVal := .slice 2 (l.map ePair)
def levelOf (o : List Asset) (many teams : Int) : Int := if o.length = 0 then 0 else (o.getD (min (many * teams) ((o.length : Int) - 1)).toNat asset0).Value
def levelP (l : List Asset) (p : Place) (teams : Int) : Int := levelOf (ofP l p.Position) p.Many teams
def levelR (l : List Asset) (p : Place) (teams : Int) : Int := levelOf (ofR l p.Position) p.Many teams
theorem levelR_P {l : List Asset} (h : SortedS (l.map (·.Player))) (p : Place) (teams : Int) : levelR l p teams = levelP l p teams := by
  unfold levelR levelP; rw [ofR_ofP h]
def lfault (l : List Asset) (p : List Place) (teams : Int) : Int := if okAP l p != 0 then okAP l p else if out teams 1 20 then 1 else 0
def levelsL (f : Place → Int) (p : List Place) : List PairS := p.map fun x => ⟨x.Position, Lib.itoa (f x)⟩
def byWorth (a b : Over) : Int := orI [cmpI b.Worth a.Worth, cmpS a.Player b.Player]
def byWorthV (a b : Over) : Int := cmpI b.Worth a.Worth
def overP (l : List Asset) (p : List Place) (teams : Int) : List Over := p.flatMap fun x => (ofP l x.Position).map fun y => ⟨y.Player, y.Value - levelP l x teams, 0⟩
def overR (l : List Asset) (p : List Place) (teams : Int) : List Over := l.flatMap fun x => (p.filter (fun y => x.Position == y.Position)).map fun y => ⟨x.Player, x.Value - levelR l y teams, 0⟩
theorem byWorth_flip (x y : Over) : byWorth x y = -byWorth y x := by
  unfold byWorth
  rw [cmpI_flip, cmpS_flip x.Player, orI_flip]
theorem byWorth_le {x y : Over} : byWorth x y ≤ 0 ↔ y.Worth < x.Worth ∨ (y.Worth = x.Worth ∧ cmpS x.Player y.Player ≤ 0) := by
  unfold byWorth
  rw [orI2]
  by_cases h : y.Worth = x.Worth
  · rw [if_neg (by simp [cmpI_zero, h])]; simp [h]
  · rw [if_pos (by simp [cmpI_zero, h]), cmpI_le]; omega
theorem byWorth_cmp : Cmp byWorth (fun _ => True) where
  flip x y _ _ := by rw [byWorth_flip x y]; omega
  trans x y z _ _ _ h1 h2 := by
    rw [byWorth_le] at *
    rcases h1 with h1 | ⟨h1, h1'⟩ <;> rcases h2 with h2 | ⟨h2, h2'⟩
    · exact .inl (by omega)
    · exact .inl (by omega)
    · exact .inl (by omega)
    · exact .inr ⟨by omega, cmpS_trans h1' h2'⟩
theorem byWorth_player {x y : Over} (h : byWorth x y = 0) : x.Player = y.Player := by
  unfold byWorth at h
  rw [orI2] at h
  split at h
  · contradiction
  · exact cmpS_zero.1 h
/-- Pairs that are told by rows or by columns. -/
theorem flat_swap {α β γ : Type} (r : α → β → Bool) (f : α → β → γ) (p : List α) : ∀ l : List β, (p.flatMap fun x => (l.filter (r x)).map (f x)).Perm (l.flatMap fun y => (p.filter (fun x => r x y)).map fun x => f x y)
  | [] => by simp
  | y :: t => by
    have ih := flat_swap r f p t
    simp only [List.flatMap_cons]
    have key : ∀ q : List α, (q.flatMap fun x => ((y :: t).filter (r x)).map (f x)).Perm ((q.filter (fun x => r x y)).map (fun x => f x y) ++ q.flatMap fun x => (t.filter (r x)).map (f x)) := by
      intro q
      induction q with
      | nil => simp
      | cons x q ihq =>
        rw [List.flatMap_cons, List.flatMap_cons]
        by_cases hx : r x y = true
        · rw [show (y :: t).filter (r x) = y :: t.filter (r x) by simp [List.filter_cons, hx], show (x :: q).filter (fun x => r x y) = x :: q.filter (fun x => r x y) by simp [List.filter_cons, hx]]
          rw [List.map_cons, List.map_cons, List.cons_append, List.cons_append]
          refine List.Perm.cons _ ?_
          refine (List.Perm.append_left _ ihq).trans ?_
          rw [← List.append_assoc, ← List.append_assoc]
          exact List.Perm.append_right _ List.perm_append_comm
        · rw [show (y :: t).filter (r x) = t.filter (r x) by simp [List.filter_cons, hx], show (x :: q).filter (fun x => r x y) = q.filter (fun x => r x y) by simp [List.filter_cons, hx]]
          refine (List.Perm.append_left _ ihq).trans ?_
          rw [← List.append_assoc, ← List.append_assoc]
          exact List.Perm.append_right _ List.perm_append_comm
    exact (key p).trans (List.Perm.append_left _ ih)
end Go.HL
end
section
namespace Go.HL
def over0 : Over := ⟨[], 0, 0⟩
def rankAt (W : List Over) : Nat → Int
  | 0 => 1
  | i + 1 => if (W.getD (i + 1) over0).Worth = (W.getD i over0).Worth then rankAt W i else (i : Int) + 2
def ranked (W : List Over) : List Over := W.mapIdx fun i x => { x with Rank := rankAt W i }
def rankedR (W : List Over) : List Over := W.map fun x => { x with Rank := 1 + ((W.filter (fun y => decide (x.Worth < y.Worth))).length : Int) }
theorem count_split (W : List Over) (n : Nat) (w : Int) (h1 : ∀ (j : Nat) (x : Over), j < n → W[j]? = some x → w < x.Worth) (h2 : ∀ (j : Nat) (x : Over), n ≤ j → W[j]? = some x → x.Worth ≤ w) (hn : n ≤ W.length) : (W.filter (fun y => decide (w < y.Worth))).length = n := by
  conv => lhs; rw [← List.take_append_drop n W]
  rw [List.filter_append, List.length_append]
  have e1 : (W.take n).filter (fun y => decide (w < y.Worth)) = W.take n := List.filter_eq_self.2 fun y hy => by
    obtain ⟨j, hj, rfl⟩ := List.getElem_of_mem hy
    have hj' : j < n := by simp at hj; omega
    simp only [decide_eq_true_eq]
    refine h1 j _ hj' ?_
    rw [List.getElem_take]; exact List.getElem?_eq_getElem _
  have e2 : (W.drop n).filter (fun y => decide (w < y.Worth)) = [] := List.filter_eq_nil_iff.2 fun y hy => by
    obtain ⟨j, hj, rfl⟩ := List.getElem_of_mem hy
    have := h2 (n + j) _ (by omega) (show W[n + j]? = some ((W.drop n)[j]) by rw [List.getElem_drop]; exact List.getElem?_eq_getElem _)
    simpa using this
  rw [e1, e2]; simp; omega
theorem rankAt_count {W : List Over} (hs : W.Pairwise fun a b => b.Worth ≤ a.Worth) : ∀ i, i < W.length → rankAt W i = 1 + ((W.filter (fun y => decide ((W.getD i over0).Worth < y.Worth))).length : Int)
  | 0, h => by
    have := count_split W 0 (W.getD 0 over0).Worth (fun j x hj _ => by omega) (fun j x _ hx => by
      have h0 : W.getD 0 over0 = W[0] := by simp [List.getD, List.getElem?_eq_getElem h]
      rw [h0]
      rcases Nat.eq_zero_or_pos j with rfl | hj
      · rw [List.getElem?_eq_getElem h] at hx; simp at hx; rw [← hx]; exact Int.le_refl _
      · obtain ⟨hl, rfl⟩ := List.getElem?_eq_some_iff.1 hx
        exact List.pairwise_iff_getElem.1 hs 0 j h hl hj) (by omega)
    rw [this]; simp [rankAt]
  | i + 1, h => by
    have ih := rankAt_count hs i (by omega)
    have e1 : W.getD (i + 1) over0 = W[i + 1] := by simp [List.getD, List.getElem?_eq_getElem h]
    have e0 : W.getD i over0 = W[i]'(by omega) := by simp [List.getD, List.getElem?_eq_getElem (show i < W.length by omega)]
    simp only [rankAt]
    by_cases he : (W.getD (i + 1) over0).Worth = (W.getD i over0).Worth
    · rw [if_pos he, ih, he]
    · rw [if_neg he]
      have hlt : (W[i + 1]).Worth < (W[i]'(by omega)).Worth := by
        have := List.pairwise_iff_getElem.1 hs i (i + 1) (by omega) h (by omega)
        rw [e1, e0] at he; omega
      have := count_split W (i + 1) (W.getD (i + 1) over0).Worth (fun j x hj hx => by
        obtain ⟨hl, rfl⟩ := List.getElem?_eq_some_iff.1 hx
        rw [e1]
        rcases Nat.lt_or_ge j i with hji | hji
        · have := List.pairwise_iff_getElem.1 hs j i hl (by omega) hji; omega
        · obtain rfl : j = i := by omega
          exact hlt) (fun j x hj hx => by
        obtain ⟨hl, rfl⟩ := List.getElem?_eq_some_iff.1 hx
        rw [e1]
        rcases Nat.lt_or_ge (i + 1) j with hji | hji
        · exact List.pairwise_iff_getElem.1 hs (i + 1) j h hl hji
        · obtain rfl : j = i + 1 := by omega
          exact Int.le_refl _) (by omega)
      rw [this]; omega
theorem ranked_ref {W : List Over} (hs : W.Pairwise fun a b => b.Worth ≤ a.Worth) : rankedR W = ranked W := by
  unfold rankedR ranked
  apply List.ext_getElem
  · simp
  · intro i h1 h2
    have hi : i < W.length := by simpa using h1
    simp only [List.getElem_map, List.getElem_mapIdx]
    have := rankAt_count hs i hi
    have e : W.getD i over0 = W[i] := by simp [List.getD, List.getElem?_eq_getElem hi]
    rw [e] at this
    rw [this]
end Go.HL
end
section
namespace Go.HL
open Op (bytesLess)
theorem flatMap_perm {α β : Type} {f g : α → List β} : ∀ {l : List α}, (∀ x ∈ l, (f x).Perm (g x)) → (l.flatMap f).Perm (l.flatMap g)
  | [], _ => .refl _
  | x :: l, h => by
    rw [List.flatMap_cons, List.flatMap_cons]
    exact (h x (by simp)).append (flatMap_perm fun y hy => h y (List.mem_cons_of_mem _ hy))
theorem pmap_getD {l : List Place} {k : Nat} : (l.map (·.Position)).getD k [] = (l.getD k place0).Position := by
  by_cases h : k < l.length
  · simp [List.getD, List.getElem?_eq_getElem h]
  · simp [List.getD, List.getElem?_eq_none (Nat.le_of_not_lt h), place0]
theorem placesGo_rising (l : List Place) : ∀ (t : List Place) (k : Nat), placesGo l k t = 0 → risingGo (l.map (·.Position)) k (t.map (·.Position)) = 0
  | [], _, _ => rfl
  | x :: t, k, h => by
    simp only [placesGo] at h
    by_cases h1 : (!(key x.Position)) = true
    · rw [if_pos h1] at h; omega
    · rw [if_neg h1] at h
      by_cases h2 : out x.Many 0 12 = true
      · rw [if_pos h2] at h; omega
      · rw [if_neg h2] at h
        by_cases h3 : (decide (0 < k) && leS x.Position (l.getD (k - 1) place0).Position) = true
        · rw [if_pos h3] at h; omega
        · rw [if_neg h3] at h
          simp only [List.map_cons, risingGo, pmap_getD]
          rw [if_neg h1, if_neg h3]
          exact placesGo_rising l t (k + 1) h
theorem checkPlaces_sorted {l : List Place} (h : checkPlaces l = 0) : SortedS (l.map (·.Position)) := by
  unfold checkPlaces at h
  split at h
  · omega
  · exact rising1_sorted (by simpa [rising1] using placesGo_rising l l 0 h)
theorem one_place {p : List Place} (h : (p.map (·.Position)).Nodup) (c : Str) : (p.filter (fun y => c == y.Position)).length ≤ 1 := by
  induction p with
  | nil => simp
  | cons x p ih =>
    simp only [List.map_cons, List.nodup_cons, List.mem_map, not_exists, not_and] at h
    rw [List.filter_cons]
    split
    · rename_i hx
      have hx' : c = x.Position := by simpa using hx
      have : p.filter (fun y => c == y.Position) = [] := List.filter_eq_nil_iff.2 fun y hy => by
        have := h.1 y hy
        simp only [beq_iff_eq]
        intro e; exact this (by rw [← e, hx'])
      rw [this]; simp
    · exact ih h.2
def overM (l0 l : List Asset) (p : List Place) (teams : Int) : List Over := l.flatMap fun x => (p.filter (fun y => x.Position == y.Position)).map fun y => ⟨x.Player, x.Value - levelP l0 y teams, 0⟩
theorem overM_players {p : List Place} (h : (p.map (·.Position)).Nodup) (l0 : List Asset) (teams : Int) : ∀ l : List Asset, ((overM l0 l p teams).map (·.Player)).Sublist (l.map (·.Player))
  | [] => by simp [overM]
  | x :: l => by
    have ih := overM_players h l0 teams l
    have h1 := one_place h x.Position
    have e : overM l0 (x :: l) p teams = ((p.filter (fun y => x.Position == y.Position)).map fun y => ⟨x.Player, x.Value - levelP l0 y teams, 0⟩) ++ overM l0 l p teams := by simp [overM]
    rw [e, List.map_append, List.map_map]
    revert h1
    generalize p.filter (fun y => x.Position == y.Position) = q
    intro h1
    match q, h1 with
    | [], _ =>
      simp only [List.map_nil, List.nil_append, List.map_cons]
      exact ih.cons _
    | [y], _ =>
      simp only [List.map_cons, List.map_nil, List.singleton_append, Function.comp]
      exact ih.cons_cons _
    | _ :: _ :: _, h1 => simp at h1
theorem overR_M {l : List Asset} (h : SortedS (l.map (·.Player))) (p : List Place) (teams : Int) : overR l p teams = overM l l p teams := by
  unfold overR overM
  congr 1
  funext x
  congr 1
  funext y
  rw [levelR_P h]
theorem overP_perm (l : List Asset) (p : List Place) (teams : Int) : (overP l p teams).Perm (overM l l p teams) := by
  unfold overP overM
  refine (flatMap_perm (g := fun x => (l.filter (fun y => y.Position == x.Position)).map fun y => (⟨y.Player, y.Value - levelP l x teams, 0⟩ : Over)) fun x _ => ?_).trans ?_
  · exact (isort_perm byValue _).map _
  · exact flat_swap (fun x y => y.Position == x.Position) (fun x y => (⟨y.Player, y.Value - levelP l x teams, 0⟩ : Over)) p l
theorem nodup_injO {l : List Over} (h : (l.map (·.Player)).Nodup) {x y : Over} (hx : x ∈ l) (hy : y ∈ l) (e : x.Player = y.Player) : x = y := by
  induction l with
  | nil => cases hx
  | cons a l ih =>
    simp only [List.map_cons, List.nodup_cons, List.mem_map, not_exists, not_and] at h
    rcases List.mem_cons.1 hx with rfl | hx' <;> rcases List.mem_cons.1 hy with rfl | hy'
    · rfl
    · exact absurd e.symm (h.1 y hy')
    · exact absurd e (h.1 x hx')
    · exact ih h.2 hx' hy'
theorem worths_ref {l : List Asset} {p : List Place} (ha : SortedS (l.map (·.Player))) (hp : SortedS (p.map (·.Position))) (teams : Int) : isort byWorthV (overR l p teams) = isort byWorth (overP l p teams) := by
  rw [overR_M ha]
  have hsub := overM_players (sortedS_nodup hp) l teams l
  have hs : SortedS ((overM l l p teams).map (·.Player)) := List.Pairwise.sublist hsub ha
  have e1 : isort byWorthV (overM l l p teams) = isort byWorth (overM l l p teams) := by
    refine isort_congr fun i j x y hij hy hx => ?_
    have hxy : bytesLess y.Player x.Player = true := by
      obtain ⟨hi, rfl⟩ := List.getElem?_eq_some_iff.1 hy
      obtain ⟨hj, rfl⟩ := List.getElem?_eq_some_iff.1 hx
      exact List.pairwise_iff_getElem.1 (List.pairwise_map.1 hs) i j hi hj hij
    unfold byWorthV byWorth
    rw [orI2]
    by_cases he : cmpI y.Worth x.Worth = 0
    · rw [if_neg (by simpa using he), he]
      have : ¬ cmpS x.Player y.Player ≤ 0 := by rw [cmpS_le, hxy]; simp
      omega
    · rw [if_pos he]
  rw [e1]
  exact isort_unique byWorth_cmp (fun _ _ => trivial) (fun x y hx hy e => nodup_injO (sortedS_nodup hs) hx hy (byWorth_player e)) (overP_perm l p teams).symm
theorem worths_sorted (l : List Over) : (isort byWorth l).Pairwise fun a b => b.Worth ≤ a.Worth :=
  (isort_sorted byWorth_cmp (fun _ _ => trivial)).imp fun h => by rw [byWorth_le] at h; omega
end Go.HL
end
section
namespace Go.HL
variable {P : Program}
open Go.ChangeShapes Go.WideShapes Go.RowKit
theorem below_of_sat {W W' : World} {J : Imm} {M : List MObj} (hl : Le (allI W) J) (hs : Sat P J M W') : Below W.heap.size W W' := by
  have hb : ∀ k, k < W.heap.size → W'.heap[k]? = W.heap[k]? := fun k hk => by
    have h1 : W.heap[k]? = some W.heap[k] := by simp [hk]
    rw [h1]
    exact hs.imm _ _ (hl.heap _ _ h1)
  exact {
    os := hs.os.trans hl.os
    tape := hs.tape.trans hl.tape
    output := hs.output.trans hl.output
    size := by
      rcases Nat.eq_zero_or_pos W.heap.size with h | h
      · omega
      · have h1 := hb (W.heap.size - 1) (by omega)
        have h2 : W.heap[W.heap.size - 1]? = some (W.heap[W.heap.size - 1]'(by omega)) := by simp
        rw [h2] at h1
        rcases Nat.lt_or_ge (W.heap.size - 1) W'.heap.size with h3 | h3
        · omega
        · rw [Array.getElem?_eq_none h3] at h1; cases h1
    block := hb }
theorem sat_now {W : World} (ht : TabI P (allI W)) : Sat P (allI W) [] W := ⟨fun _ _ h => h, fun _ h => by simp at h, by simp [blocks], fun _ h => by simp [blocks] at h, rfl, rfl, rfl, ht⟩
theorem conp_law {P : Program} {f : FuncId} {l : List Int} (hc : ConP P f [.slice 1 (l.map (.int .i64))] (.bool true)) {W : World} (ht : TabI P (allI W)) {v : Value} (hv : V (allI W) (.slice 1 (l.map (.int .i64))) v) :
    Calls P f #[v] W fun e W' => e = .returned (.bool true) ∧ Below W.heap.size W W' := by
  refine (hc (allI W) [] W [v] (VL.cons hv VL.nil) (sat_now ht)).mono ?_
  rintro e W' ⟨u, h, M', J, rfl, hle, ⟨rfl, rfl⟩, hV, hs⟩
  exact ⟨by rw [hV.bool_inv], below_of_sat hle hs⟩
theorem v_ints {W : World} {a : Addr} {len cap : Nat} {zs : List Int} (hcell : ∀ i, i < zs.length → W.cell? (a.add i) = some (.int .i64 (zs.getD i 0))) (hl : len ≤ zs.length) (hc : len ≤ cap) :
    V (allI W) (.slice 1 ((zs.take len).map (.int .i64))) (.slice (some a) len cap) := by
  rcases Nat.eq_zero_or_pos len with h0 | h0
  · subst h0; exact .slice0 _ _ _
  · obtain ⟨b, off, rfl, hj⟩ := ints_at hcell (by omega)
    have hc0 := hj 0 (by omega)
    unfold World.cell? at hc0
    cases hh : W.heap[b]? with
    | none => rw [hh] at hc0; simp at hc0
    | some o =>
      cases o with
      | cells rc el fr =>
        have hrc : ∀ j, j < zs.length → rc[off + j]? = some (.int .i64 (zs.getD j 0)) := fun j hj' => by
          have := hj j hj'
          unfold World.cell? at this
          simpa [hh] using this
        have hlen : ((zs.take len).map (HVal.int .i64)).length = len := by simp; omega
        have hsz : off + zs.length ≤ rc.size := by
          have := hrc (zs.length - 1) (by omega)
          rcases Nat.lt_or_ge (off + (zs.length - 1)) rc.size with h3 | h3
          · omega
          · rw [Array.getElem?_eq_none h3] at this; cases this
        have := V.slice (I := allI W) (sz := 1) (es := (zs.take len).map (.int .i64)) (b := b) (off := off) (cap := cap) (rc := rc) (el := el) (fr := fr) hh
          (fun e he => by obtain ⟨n, _, rfl⟩ := List.mem_map.1 he; rfl) (by omega) (by omega) (fun i j e c v h1 h2 h3 => by
            have hi := lt_of_get h1
            rw [hlen] at hi
            rw [List.getElem?_map, List.getElem?_take_of_lt hi] at h1
            have e1 : zs[i]? = some zs[i] := List.getElem?_eq_getElem (by omega)
            rw [e1] at h1
            simp only [Option.map_some, Option.some.injEq] at h1
            subst h1
            cases j with
            | succ j => simp [hcells] at h2
            | zero =>
              simp only [hcells, List.getElem?_cons_zero, Option.some.injEq] at h2
              subst h2
              have h4 := hrc i (by omega)
              rw [Nat.mul_one, Nat.add_zero, h4] at h3
              simp only [Option.some.injEq] at h3
              subst h3
              have : zs.getD i 0 = zs[i] := by simp [List.getD, e1]
              rw [this]
              exact .int _ _)
        rw [hlen] at this
        exact this
      | _ => rw [hh] at hc0; simp at hc0
end Go.HL
end
section
namespace Go.HL
open Go.Sort Go.Proofs Go.RowKit
variable {P : Program}
theorem laid_at {w : World} {name : String} {d : DataW Unit} : ∀ {laid : List (String × DataW Unit)} {ps : List MemPlace}, DataW.LaidVars P w laid ps → ∀ (i : Nat), laid[i]? = some (name, d) →
    ∃ g t cs fuel p, P.globalNamed name = some g ∧ (P.globals[g]?).map (·.type) = some t ∧ w.var? P name = some cs ∧ DataW.trod (fun _ => ()) P w 0 (fun _ => true) false fuel t cs.toList = some (d, p)
  | [], _, _, i, h => by simp at h
  | (n, x) :: r, ps, h, 0, hi => by
    simp at hi
    obtain ⟨rfl, rfl⟩ := hi
    obtain ⟨g, t, cs, fuel, p, q, h1, h2, h3, h4, _, _⟩ := h
    exact ⟨g, t, cs, fuel, p, h1, h2, h3, h4⟩
  | (n, x) :: r, ps, h, i + 1, hi => by
    obtain ⟨g, t, cs, fuel, p, q, _, _, _, _, h5, _⟩ := h
    exact laid_at h5 i (by simpa using hi)
theorem tabI_of_laid {W : World} {laid : List (String × DataW Unit)} {i g : Nat} {t e : TypeId} {n : Nat} (h : laidMet P laid W) (hi : laid[i]? = some ("internal/strconv.uint64pow10", Lib.tabData .u64 Lib.pow10Tab))
    (hg : P.globalNamed "internal/strconv.uint64pow10" = some g) (hty : (P.globals[g]?).map (·.type) = some t) (ht : P.underlying t = some (.array n e)) (he : P.underlying e = some (.int .u64)) (hce : P.cellsOf e = 1) (hct : P.cellsOf t = n) : TabI P (allI W) := by
  obtain ⟨ps, h1, _⟩ := h
  obtain ⟨g', t', cs, fuel, p, a1, a2, a3, a4⟩ := laid_at h1 i hi
  obtain rfl := Option.some.inj (hg.symm.trans a1)
  obtain rfl := Option.some.inj (hty.symm.trans a2)
  intro g' hg'
  obtain rfl := Option.some.inj (hg.symm.trans hg')
  have hc := Lib.cells_of_tab ht he hce hct a4
  have hv := a3
  unfold World.var? at hv
  rw [hg] at hv
  simp only [Option.bind_some] at hv
  cases hh : W.heap[g]? with
  | none => rw [hh] at hv; cases hv
  | some o =>
    cases o with
    | cells c ty fr =>
      rw [hh] at hv
      simp only [Option.some.injEq] at hv
      subst hv
      refine ⟨ty, fr, ?_⟩
      show W.heap[g]? = _
      rw [hh, ← hc]
    | _ => rw [hh] at hv; cases hv
theorem Sat.tabIs {I : Imm} {M : List MObj} {w : World} (hs : Sat P I M w) (hg : (P.globalNamed "internal/strconv.uint64pow10").isSome = true) : Lib.TabIs P w "internal/strconv.uint64pow10" .u64 Lib.pow10Tab := by
  obtain ⟨g, hg'⟩ := Option.isSome_iff_exists.1 hg
  obtain ⟨t, fr, h1⟩ := hs.tab g hg'
  have h2 := hs.imm _ _ h1
  unfold Lib.TabIs World.var?
  rw [hg']
  simp [h2]
theorem Sat.lt {I : Imm} {M : List MObj} {w : World} (hs : Sat P I M w) : (∀ b, (∃ o, I.heap b = some o) → b < w.heap.size) ∧ ∀ b ∈ blocks M, b < w.heap.size := by
  have key : ∀ b o, w.heap[b]? = some o → b < w.heap.size := fun b o h => by
    rcases Nat.lt_or_ge b w.heap.size with h' | h'
    · exact h'
    · simp [Array.getElem?_eq_none h'] at h
  refine ⟨fun b ⟨o, h⟩ => key b o (hs.imm b o h), fun b hb => ?_⟩
  simp only [blocks, List.mem_flatMap] at hb
  obtain ⟨m, hm, hb⟩ := hb
  obtain ⟨o, ho⟩ := (hs.obj m hm).lies hb
  exact key b o ho
theorem Sat.grown {I : Imm} {M : List MObj} {w : World} (hs : Sat P I M w) (k : Nat) (os : Array Obj) : Sat P I M (grow (w.drewN k) os) := by
  obtain ⟨h1, h2⟩ := hs.lt
  have hb : ∀ b, b < w.heap.size → (grow (w.drewN k) os).heap[b]? = w.heap[b]? := fun b hb => by
    simp only [grow, World.drewN]
    rw [Array.getElem?_append_left hb]
  exact hs.of_same (fun b hb' => hb b (h1 b hb')) (fun b hb' => hb b (h2 b hb')) rfl rfl rfl
theorem conp_itoa {f : FuncId} {n : Int} (hg : (P.globalNamed "internal/strconv.uint64pow10").isSome = true)
    (hc : ∀ w : World, Lib.TabIs P w "internal/strconv.uint64pow10" .u64 Lib.pow10Tab → Calls P f #[.int .i64 n] w fun e w' => e = .returned (.string ⟨(Lib.itoa n).toArray⟩) ∧ ∃ k os, w' = grow (w.drewN k) os) :
    ConP P f [.int .i64 n] (.str (Lib.itoa n)) := by
  intro I F w args ha hs
  obtain ⟨u, rfl, hu⟩ := ha.one
  obtain rfl := hu.int_inv
  refine (hc w (hs.tabIs hg)).mono ?_
  rintro e w' ⟨rfl, k, os, rfl⟩
  exact ⟨_, .str _, [], I, rfl, .refl I, ⟨rfl, rfl⟩, .str _, hs.grown k os⟩
end Go.HL
end
section
namespace Go.HL
/-- A place of a list of q. -/
abbrev eIx {q : Nat} (i : Fin q) : HVal := .int .i64 (i.1 : Int)
section
variable {P : Program} {e : Env} {dst : Option Tmp} {ty : TypeId} {pos : String} {af : Array Edge} {g : Option (Nat × Bool)} {M : List MObj} {K : HVal → List MObj → Prop}
/-- make([]T, n) of elements of one cell. -/
theorem eop_make {x y : Operand} {t el : TypeId} {size bytes b2 : Nat} {zero z2 : Value} {d : TD} {n : Nat}
    (hf : Fits P t (.slice el) size bytes zero) (hel : Fits P el d 1 b2 z2) (hz : z2.cells = #[z2]) (hby : Nat.ble b2 1000 = true) (hc : hcells (ofVal z2) = [ofVal z2])
    (hx : evalO e x = some (.int .i64 (n : Int))) (hy : evalO e y = some (.int .i64 (n : Int))) (hn : n ≤ 1000000)
    (hk : ∀ b, K (.raw (.slice (some ⟨b, 0, none⟩) n n)) (.arr (.slice (some ⟨b, 0, none⟩) n n) 1 (List.replicate n (ofVal z2)) :: M)) : EOp P e M ⟨dst, .makeSlice t x y, ty, pos, af, g⟩ K :=
  EOp.of_run fun I F a w ho hs => by
    have h1 := (ho.one (x := x) (by simp [Op.operands]) hx).int_inv
    have h2 := (ho.one (x := y) (by simp [Op.operands]) hy).int_inv
    obtain ⟨i, hi, his, hib, hiz⟩ := hel.typeInfo
    have hb : b2 ≤ 1000 := Nat.le_of_ble_eq_true hby
    have hbn : b2 * n ≤ 1000 * 1000000 := Nat.mul_le_mul hb hn
    have hrun := run_make (P := P) w t el i z2 hf.slice hi hiz .i64 .i64 (n : Int) (n : Int) (by omega) (by omega) (by rw [hib]; omega) (by omega)
    refine ⟨.slice (some ⟨w.heap.size, 0, none⟩) n n, _, _, push w (.cells (madeCells z2.cells (n * 1)) el (0, 0)), I, ?_, .refl I, hk w.heap.size, .raw _ rfl, ?_⟩
    · simp only [execOp, h1, h2, Sem.run_bind, hrun, his, Result.andThen_ok, Sem.run_pure]
      rfl
    · refine hs.new_own _ _ rfl (.inr ⟨w.heap.size, 0, n, madeCells z2.cells (n * 1), el, (0, 0), by simp, by simp [push], Free.zero _, ?_, ⟨by simp, by omega⟩, by simp [size_madeCells], ?_⟩)
      · intro h hh
        rw [List.eq_of_mem_replicate hh, hc]; rfl
      · intro i j h c v a1 a2 a3
        have hh := List.eq_of_mem_replicate (List.mem_of_getElem? a1)
        subst hh
        rw [hc] at a2
        cases j with
        | succ j => simp at a2
        | zero =>
          simp at a2; subst a2
          rw [hz] at a3
          simp [madeCells] at a3
          obtain ⟨k, hk1, hk2⟩ := a3
          have : v = z2 := by simpa [Nat.mod_one] using hk2.symm
          rw [this]; exact V_ofVal I z2
end
end Go.HL
end
section
namespace Go.Proofs.YtnlfcjoofdjpiaaGreatDoor
open Go.HL
set_option maxRecDepth 100000
set_option linter.unusedVariables false
set_option linter.unusedSimpArgs false
set_option maxHeartbeats 1000000 in
/-- slices.insertionSortCmpFunc[benchwarmer/api.Over] -/
theorem c_slices_insertionSortCmpFunc_api_Over {l : List Over} {v : Value} {fid : FuncId} {caps : List HVal} {c : Over → Over → Int} {n : Int} (hca : Callable Tryz.prog fid) (hp : ∀ x y, ConP Tryz.prog fid ([eOver x, eOver y] ++ caps) (.int .i64 (c x y))) (hn : n = l.length) (hl : l.length ≤ 1000000) : Con Tryz.prog 86 [.raw v, .int .i64 0, .int .i64 n, .fn (.func fid) [] caps] [.arr v 3 (l.map eOver)] (fun x M' => x = .tup [] ∧ M' = [.arr v 3 ((isort c l).map eOver)]) := by
  subst hn
  refine Con.of_body Tryz.func86 rfl Tryz.ntmps86 rfl rfl ?_
  refine hw_reg ?_
  refine dp rfl (pop_move rfl) ?_
  refine dp rfl (pop_add64 rfl rfl (by omega) (by omega)) ?_
  refine dp rfl (pop_assign rfl) ?_
  refine dn ?_
  refine hw_block ?_
  refine hw_loopw [8, 9, 12, 13, 14, 15, 16, 17, 18, 19, 20, 21, 22, 23, 24, 25, 26, 27, 28, 29, 30, 31, 32, 33, 34, 35, 36, 37, 38, 39, 40, 41, 42, 43, 44, 45, 46, 47, 48, 49, 50, 51, 52] (fun (k : Nat) => [(8, .int .i64 (k : Int))]) (fun (k : Nat) => [.arr v 3 ((isort c (l.take k) ++ l.drop k).map eOver)]) (fun (k : Nat) => 1 ≤ k) (fun (k : Nat) => l.length - k) (1) ?_ ?_ ?_ ?_
  · exact Nat.le_refl _
  · exact ⟨rfl, trivial⟩
  · exact perm_eq (by rw [isort_take1])
  · intro k hk
    refine hw_seq ?_
    refine hw_reg ?_
    refine dp rfl (pop_move rfl) ?_
    refine dp rfl (pop_move rfl) ?_
    refine dp rfl (pop_lss rfl rfl) ?_
    refine dn ?_
    refine hw_cond rfl (fun h1 => ?_) (fun h2 => ?_)
    · try simp at h1
      obtain ⟨x, hx⟩ : ∃ x, l[k]? = some x := ⟨_, List.getElem?_eq_getElem (by omega)⟩
      refine hw_arrc (i := 0) rfl (fun h0 he => ?_) (fun b off cap hv hcap => ?_)
      · exfalso; have := congrArg List.length he; simp [isort_len] at this; omega
      rw [show ((isort c (l.take k) ++ l.drop k).map eOver).length = l.length by simp [isort_len]; omega] at hv
      subst hv
      refine hw_skip ?_
      refine seqQ_n ?_
      refine hw_seq ?_
      refine hw_block ?_
      refine hw_reg ?_
      refine dp rfl (pop_move rfl) ?_
      refine dp rfl (pop_assign rfl) ?_
      refine dn ?_
      refine hw_block ?_
      refine hw_loopw2 [9, 18, 19, 20, 21, 22, 23, 24, 25, 26, 27, 28, 29, 30, 31, 32, 33, 34, 35, 36, 37, 38, 39, 40, 41, 42, 43, 44, 45, 46, 47, 48, 49, 50, 51, 52] (fun (A : List Over) (B : List Over) => [(9, .int .i64 (A.length : Int))]) (fun (A : List Over) (B : List Over) => [.arr (.slice (some ⟨b, off, none⟩) l.length cap) 3 ((A ++ x :: (B ++ l.drop (k + 1))).map eOver)]) (fun (A : List Over) (B : List Over) => A.length + B.length = k ∧ insB c x (isort c (l.take k)) = insB c x A ++ B) (fun (A : List Over) (B : List Over) => A.length) (isort c (l.take k)) ([]) ?_ ?_ ?_ ?_
      · exact ⟨by simp [isort_len]; omega, by simp⟩
      · exact ⟨some_int (by simp [isort_len]; omega), trivial⟩
      · exact perm_eq (by rw [drop_cons hx]; rfl)
      · intro A B hinv
        obtain ⟨hA, hB⟩ := hinv
        have hlA : A.length < l.length := by omega
        have hll : ((A ++ x :: (B ++ l.drop (k + 1)))).length = l.length := by simp; omega
        refine hw_seq ?_
        refine hw_draw (fun M => M = [.arr (.slice (some ⟨b, off, none⟩) l.length cap) 3 ((A ++ x :: (B ++ l.drop (k + 1))).map eOver)]) [8, 13] mixed ?_
        refine ahp 0 rfl rfl (by kernel_rfl) (by kernel_rfl) (pop_move rfl) ?_
        refine ahp 1 rfl rfl (by kernel_rfl) (by kernel_rfl) (pop_move rfl) ?_
        refine ahp 2 rfl rfl (by kernel_rfl) (by kernel_rfl) (pop_gtr rfl rfl) ?_
        refine ahp 3 rfl rfl (by kernel_rfl) (by kernel_rfl) (pop_move rfl) ?_
        refine ahg 4 rfl rfl (by kernel_rfl) (by kernel_rfl) rfl (fun hc => ⟨_, OpenTo.refl _, pop_move rfl⟩) ?_
        refine ahg 5 rfl rfl (by kernel_rfl) (by kernel_rfl) rfl (fun hc => ⟨_, OpenTo.refl _, pop_move rfl⟩) ?_
        refine ahg 6 rfl rfl (by kernel_rfl) (by kernel_rfl) rfl (fun hc => ⟨_, OpenTo.refl _, pop_move rfl⟩) ?_
        refine ahg 7 rfl rfl (by kernel_rfl) (by kernel_rfl) rfl (fun hc => by
            have hq : 0 < A.length := by simpa using hc
            exact ⟨_, OpenTo.upd (t := 24) rfl (by first | exact hc | simp_all) (OpenTo.upd (t := 23) rfl (by first | exact hc | simp_all) (OpenTo.refl _)), pop_idxraw (j := A.length) ty37 ty50 rfl rfl (by rfl) (by omega)⟩) ?_
        refine ahgl 8 rfl rfl (by kernel_rfl) (by kernel_rfl) (by simp) rfl rfl (fun hc => ⟨_, OpenTo.upd (t := 25) rfl (by first | exact hc | simp_all) (OpenTo.refl _), fun M hM => by
            subst hM; exact eop_load_elw (i := 0) (j := A.length) ty50 rfl rfl rfl get_mid rfl rfl rfl ⟨rfl, rfl⟩
          ⟩) ?_
        refine ahg 9 rfl rfl (by kernel_rfl) (by kernel_rfl) rfl (fun hc => ⟨_, OpenTo.refl _, pop_move rfl⟩) ?_
        refine ahg 10 rfl rfl (by kernel_rfl) (by kernel_rfl) rfl (fun hc => ⟨_, OpenTo.refl _, pop_move rfl⟩) ?_
        refine ahg 11 rfl rfl (by kernel_rfl) (by kernel_rfl) rfl (fun hc => by
            have hq : 0 < A.length := by simpa using hc
            exact ⟨_, OpenTo.upd (t := 28) rfl (by first | exact hc | simp_all) (OpenTo.refl _), pop_sub64 rfl rfl (by omega) (by omega)⟩) ?_
        refine ahg 12 rfl rfl (by kernel_rfl) (by kernel_rfl) rfl (fun hc => by
            have hq : 0 < A.length := by simpa using hc
            exact ⟨_, OpenTo.upd (t := 29) rfl (by first | exact hc | simp_all) (OpenTo.upd (t := 27) rfl (by first | exact hc | simp_all) (OpenTo.refl _)), pop_idxraw (j := A.length - 1) ty37 ty50 rfl rfl (by omega) (by omega)⟩) ?_
        refine ahgl 13 rfl rfl (by kernel_rfl) (by kernel_rfl) (by simp) rfl rfl (fun hc => ⟨_, OpenTo.upd (t := 30) rfl (by first | exact hc | simp_all) (OpenTo.refl _), fun M hM => by
            have hq : 0 < A.length := by simpa using hc
            subst hM; exact eop_load_elw (i := 0) (j := A.length - 1) ty50 rfl rfl rfl (get_before hq) rfl rfl rfl ⟨rfl, rfl⟩
          ⟩) ?_
        refine ahg 14 rfl rfl (by kernel_rfl) (by kernel_rfl) rfl (fun hc => ⟨_, OpenTo.upd (t := 31) rfl (by first | exact hc | simp_all) (OpenTo.upd (t := 26) rfl (by first | exact hc | simp_all) (OpenTo.upd (t := 22) rfl (by first | exact hc | simp_all) (OpenTo.refl _))), pop_callv hca rfl rfl (WeakL.refl _) (hp _ _)⟩) ?_
        refine ahg 15 rfl rfl (by kernel_rfl) (by kernel_rfl) rfl (fun hc => ⟨_, OpenTo.upd (t := 32) rfl (by first | exact hc | simp_all) (OpenTo.refl _), pop_lss rfl rfl⟩) ?_
        refine ahp 16 rfl rfl (by kernel_rfl) (by kernel_rfl) (pop_picko rfl (.inr ⟨_, rfl, fun h => by simp_all⟩) (.inl rfl)) ?_
        refine ahz (by kernel_rfl) ?_
        refine hw_cond rfl (fun h3 => ?_) (fun h4 => ?_)
        · try simp at h3
          obtain ⟨hA0, hcx⟩ := h3
          obtain ⟨A1, y, rfl⟩ := snoc_of hA0
          rw [getD_snoc] at hcx
          refine hw_skip ?_
          refine seqQ_n ?_
          refine hw_seq ?_
          refine hw_block ?_
          refine hw_draw1 (fun M => M = [.arr (.slice (some ⟨b, off, none⟩) l.length cap) 3 (((A1 ++ [y]) ++ x :: (B ++ l.drop (k + 1))).map eOver)]) [9, 13] mixed ?_
          refine ahp 0 rfl rfl (by kernel_rfl) (by kernel_rfl) (pop_move rfl) ?_
          refine ahp 1 rfl rfl (by kernel_rfl) (by kernel_rfl) (pop_move rfl) ?_
          refine ahp 2 rfl rfl (by kernel_rfl) (by kernel_rfl) (pop_move rfl) ?_
          refine ahp 3 rfl rfl (by kernel_rfl) (by kernel_rfl) (pop_move rfl) ?_
          refine ahp 4 rfl rfl (by kernel_rfl) (by kernel_rfl) (pop_sub64 rfl rfl (by omega) (by omega)) ?_
          refine ahp 5 rfl rfl (by kernel_rfl) (by kernel_rfl) (pop_move rfl) ?_
          refine ahp 6 rfl rfl (by kernel_rfl) (by kernel_rfl) (pop_move rfl) ?_
          refine ahp 7 rfl rfl (by kernel_rfl) (by kernel_rfl) (pop_sub64 rfl rfl (by omega) (by omega)) ?_
          refine ahp 8 rfl rfl (by kernel_rfl) (by kernel_rfl) (pop_idxraw (j := (A1 ++ [y]).length - 1) ty37 ty50 rfl rfl (by omega) (by omega)) ?_
          refine ahl 9 rfl rfl (by kernel_rfl) (by kernel_rfl) (by simp) rfl (fun M hM => by subst hM; exact eop_load_elw (i := 0) (j := (A1 ++ [y]).length - 1) ty50 rfl rfl rfl ((get_before hA0).trans (by rw [getD_snoc])) rfl rfl rfl ⟨rfl, rfl⟩) ?_
          refine ahp 10 rfl rfl (by kernel_rfl) (by kernel_rfl) (pop_move rfl) ?_
          refine ahp 11 rfl rfl (by kernel_rfl) (by kernel_rfl) (pop_move rfl) ?_
          refine ahp 12 rfl rfl (by kernel_rfl) (by kernel_rfl) (pop_idxraw (j := (A1 ++ [y]).length) ty37 ty50 rfl rfl rfl (by omega)) ?_
          refine ahl 13 rfl rfl (by kernel_rfl) (by kernel_rfl) (by simp) rfl (fun M hM => by subst hM; exact eop_load_elw (i := 0) (j := (A1 ++ [y]).length) ty50 rfl rfl rfl get_mid rfl rfl rfl ⟨rfl, rfl⟩) ?_
          refine ahp 14 rfl rfl (by kernel_rfl) (by kernel_rfl) (pop_idxraw (j := (A1 ++ [y]).length) ty37 ty50 rfl rfl rfl (by omega)) ?_
          refine ahe 15 rfl (by kernel_rfl) ?_
          refine hop_e0 (eop_store_elw (i := 0) (j := (A1 ++ [y]).length) (y := x) (y' := y) ty50 rfl rfl rfl rfl get_mid rfl rfl rfl ?_)
          refine ⟨fun _ => .inr (by simp [Before, Region.binds]), ?_⟩
          refine ahp 16 rfl rfl (by kernel_rfl) (by kernel_rfl) (pop_idxraw (j := (A1 ++ [y]).length - 1) ty37 ty50 rfl rfl (by omega) (by omega)) ?_
          refine ahe 17 rfl (by kernel_rfl) ?_
          refine hop_e0 (eop_store_elw (i := 0) (j := (A1 ++ [y]).length - 1) (y := y) (y' := x) ty50 rfl rfl rfl rfl (by rw [List.getElem?_set_ne (by simp)]; exact (get_before hA0).trans (by rw [getD_snoc])) rfl rfl rfl ?_)
          refine ⟨fun _ => .inr (by simp [Before, Region.binds]), ?_⟩
          refine ahz (by kernel_rfl) ?_
          refine blockQ_n ?_
          refine seqQ_n ?_
          refine hw_reg1 ?_
          refine dp rfl (pop_move rfl) ?_
          refine dp rfl (pop_sub64 rfl rfl (by omega) (by omega)) ?_
          refine dp rfl (pop_assign rfl) ?_
          refine dn ?_
          exact ⟨A1, y :: B, ⟨by simp at hA ⊢; omega, ins_step hB hcx⟩, by dsimp only; simp, ⟨some_int (by simp), trivial⟩, (by repeat (first | exact keeps_refl | refine keeps_upd rfl ?_ | refine keeps_loop rfl rfl ?_)), perm_eq (by rw [swap_mid]; rfl)⟩
        · try simp at h4
          have hins := ins_exit (l := l) (k := k) hx hB (by intro h0; have := h4 h0; omega)
          refine hw_exit ?_
          refine seqQ_x ?_
          refine loopQ2_x ?_
          refine blockQ_eq ?_
          refine blockQ_n ?_
          refine seqQ_n ?_
          refine hw_reg1 ?_
          refine dp rfl (pop_move rfl) ?_
          refine dp rfl (pop_add64 rfl rfl (by omega) (by omega)) ?_
          refine dp rfl (pop_assign rfl) ?_
          refine dn ?_
          refine ⟨k + 1, ?_, ?_, ⟨rfl, trivial⟩, (by repeat (first | exact keeps_refl | refine keeps_upd rfl ?_ | refine keeps_loop rfl rfl ?_)), perm_eq (by rw [hins])⟩
          · omega
          · dsimp only; omega
    · try simp at h2
      have hend : isort c (l.take k) ++ l.drop k = isort c l := by rw [List.take_of_length_le (by omega), drop_all (by omega)]; simp
      refine hw_exit ?_
      refine seqQ_x ?_
      refine loopQ_x ?_
      refine blockQ_eq ?_
      exact ⟨_, _, Ghost.sub (Sub.refl _), _, _, rfl, Weak.refl _, rfl, by rw [hend]⟩

/-- slices.pdqsortCmpFunc[benchwarmer/api.Over] -/
theorem c_slices_pdqsortCmpFunc_api_Over {l : List Over} {v : Value} {fid : FuncId} {caps : List HVal} {c : Over → Over → Int} {lim : Int} (hca : Callable Tryz.prog fid) (hp : ∀ x y, ConP Tryz.prog fid ([eOver x, eOver y] ++ caps) (.int .i64 (c x y))) (hl : l.length ≤ 12) : Con Tryz.prog 75 [.raw v, .int .i64 0, .int .i64 (l.length : Int), .int .i64 lim, .fn (.func fid) [] caps] [.arr v 3 (l.map eOver)] (fun x M' => x = .tup [] ∧ M' = [.arr v 3 ((isort c l).map eOver)]) := by
  refine Con.of_body Tryz.func75 rfl Tryz.ntmps75 rfl rfl ?_
  refine hw_reg ?_
  refine dp rfl (pop_assign rfl) ?_
  refine dn ?_
  refine hw_reg ?_
  refine dp rfl (pop_assign rfl) ?_
  refine dn ?_
  refine hw_block ?_
  refine hw_loopw (1 :: 2 :: 3 :: 10 :: 11 :: 12 :: 13 :: 14 :: 15 :: 16 :: 17 :: 18 :: 19 :: 20 :: 21 :: 22 :: 23 :: 24 :: 25 :: 26 :: 27 :: 28 :: 29 :: 30 :: 31 :: 32 :: 33 :: 34 :: 35 :: 36 :: 37 :: 38 :: 39 :: 40 :: 41 :: 42 :: 43 :: 44 :: 45 :: 46 :: 47 :: 48 :: 49 :: 50 :: 51 :: 52 :: 53 :: 54 :: 55 :: 56 :: 57 :: 58 :: 59 :: 60 :: 61 :: 62 :: 63 :: 64 :: 65 :: 66 :: 67 :: 68 :: 69 :: 70 :: 71 :: 72 :: 73 :: 74 :: 75 :: 76 :: 77 :: 78 :: 79 :: 80 :: 81 :: 82 :: 83 :: 84 :: 85 :: 86 :: 87 :: 88 :: 89 :: 90 :: 91 :: 92 :: 93 :: 94 :: 95 :: 96 :: 97 :: 98 :: 99 :: 100 :: 101 :: 102 :: 103 :: 104 :: 105 :: 106 :: 107 :: 108 :: 109 :: 110 :: 111 :: 112 :: 113 :: 114 :: 115 :: 116 :: 117 :: 118 :: 119 :: 120 :: 121 :: 122 :: 123 :: 124 :: 125 :: 126 :: 127 :: 128 :: 129 :: 130 :: 131 :: 132 :: 133 :: 134 :: 135 :: 136 :: 137 :: 138 :: 139 :: 140 :: 141 :: 142 :: 143 :: 144 :: 145 :: 146 :: 147 :: []) (fun (u : Unit) => [(1, .int .i64 0), (2, .int .i64 (l.length : Int))]) (fun (u : Unit) => [.arr v 3 (l.map eOver)]) (fun (u : Unit) => True) (fun (u : Unit) => 0) (()) ?_ ?_ ?_ ?_
  · trivial
  · exact ⟨rfl, rfl, trivial⟩
  · exact List.Perm.refl _
  · intro u hu
    refine hw_block ?_
    refine hw_reg ?_
    refine dp rfl (pop_move rfl) ?_
    refine dp rfl (pop_move rfl) ?_
    refine dp rfl (pop_sub64 rfl rfl (by omega) (by omega)) ?_
    refine dp rfl (pop_assign rfl) ?_
    refine dn ?_
    refine hw_seq ?_
    refine hw_reg ?_
    refine dp rfl (pop_move rfl) ?_
    refine dp rfl (pop_leq rfl rfl) ?_
    refine dn ?_
    refine hw_cond rfl (fun h1 => ?_) (fun h1 => ?_)
    · try simp at h1
      refine hw_reg ?_
      refine dp rfl (pop_move rfl) ?_
      refine dp rfl (pop_move rfl) ?_
      refine dp rfl (pop_move rfl) ?_
      refine dp rfl (pop_move rfl) ?_
      refine de rfl (eop_callx (i := 0) ca86 rfl (WeakL.refl _) rfl (c_slices_insertionSortCmpFunc_api_Over (l := l) hca hp (by omega) (by omega)) ?_)
      rintro _ _ ⟨rfl, rfl⟩
      refine dn ?_
      refine hw_ret ?_
      exact ret_q rfl ⟨rfl, rfl⟩
    · exfalso
      try simp at h1
      omega

/-- slices.SortFunc[[]benchwarmer/api.Over,benchwarmer/api.Over] -/
theorem c_slices_SortFunc_api_Over_api_Over {l : List Over} {v : Value} {fid : FuncId} {caps : List HVal} {c : Over → Over → Int} (hca : Callable Tryz.prog fid) (hp : ∀ x y, ConP Tryz.prog fid ([eOver x, eOver y] ++ caps) (.int .i64 (c x y))) (hl : l.length ≤ 12) : Con Tryz.prog 53 [.raw v, .fn (.func fid) [] caps] [.arr v 3 (l.map eOver)] (fun x M' => x = .tup [] ∧ M' = [.arr v 3 ((isort c l).map eOver)]) := by
  refine Con.of_body Tryz.func53 rfl Tryz.ntmps53 rfl rfl ?_
  refine hw_reg ?_
  refine dp rfl (pop_move rfl) ?_
  first
  | refine de rfl (eop_lenm (i := 0) ty37 rfl rfl ?_)
  | refine de rfl (eop_lenm (i := 1) ty37 rfl rfl ?_)
  | refine de rfl (eop_lenm (i := 2) ty37 rfl rfl ?_)
  | refine de rfl (eop_lenm (i := 3) ty37 rfl rfl ?_)
  refine dp rfl (pop_assign rfl) ?_
  refine dn ?_
  refine hw_reg1 ?_
  refine dp rfl (pop_move rfl) ?_
  refine dp rfl (pop_move rfl) ?_
  refine dp rfl (pop_move rfl) ?_
  refine dp rfl (pop_eq (pop_conv ty3 ty101 rfl) (congrArg _ (wrapu64 (by omega)))) ?_
  refine de rfl (eop_callf (M1 := []) (R := [_]) ca76 rfl (WeakL.refl _) (List.Perm.refl _) (c_bits_Len_s (x := l.length) (by omega)) ?_)
  rintro _ _ ⟨n11, rfl, rfl⟩
  refine dp rfl (pop_move rfl) ?_
  first
  | refine de rfl (eop_callx (i := 0) ca75 rfl (WeakL.refl _) rfl (c_slices_pdqsortCmpFunc_api_Over hca hp hl) ?_)
  | refine de rfl (eop_callx (i := 1) ca75 rfl (WeakL.refl _) rfl (c_slices_pdqsortCmpFunc_api_Over hca hp hl) ?_)
  | refine de rfl (eop_callx (i := 2) ca75 rfl (WeakL.refl _) rfl (c_slices_pdqsortCmpFunc_api_Over hca hp hl) ?_)
  | refine de rfl (eop_callx (i := 3) ca75 rfl (WeakL.refl _) rfl (c_slices_pdqsortCmpFunc_api_Over hca hp hl) ?_)
  rintro _ _ ⟨rfl, rfl⟩
  refine dn ?_
  exact ⟨_, _, Ghost.sub (Sub.refl _), _, _, rfl, Weak.refl _, rfl, rfl⟩

/-- slices.stableCmpFunc[benchwarmer/api.Over] -/
theorem c_slices_stableCmpFunc_api_Over {l : List Over} {v : Value} {fid : FuncId} {caps : List HVal} {c : Over → Over → Int} (hca : Callable Tryz.prog fid) (hp : ∀ x y, ConP Tryz.prog fid ([eOver x, eOver y] ++ caps) (.int .i64 (c x y))) (hl : l.length < 20) : Con Tryz.prog 63 [.raw v, .int .i64 (l.length : Int), .fn (.func fid) [] caps] [.arr v 3 (l.map eOver)] (fun x M' => x = .tup [] ∧ M' = [.arr v 3 ((isort c l).map eOver)]) := by
  refine Con.of_body Tryz.func63 rfl Tryz.ntmps63 rfl rfl ?_
  refine hw_reg ?_
  refine dp rfl (pop_assign rfl) ?_
  refine dn ?_
  refine hw_reg ?_
  refine dp rfl (pop_move rfl) ?_
  refine dp rfl (pop_assign rfl) ?_
  refine dp rfl (pop_assign rfl) ?_
  refine dn ?_
  refine hw_seq ?_
  refine hw_block ?_
  refine hw_loopw [7, 8, 11, 12, 13, 14, 15, 16, 17, 18, 19, 20, 21, 22] (fun (u : Unit) => [(7, .int .i64 0), (8, .int .i64 20)]) (fun (u : Unit) => [.arr v 3 (l.map eOver)]) (fun (u : Unit) => True) (fun (u : Unit) => 0) (()) ?_ ?_ ?_ ?_
  · trivial
  · exact ⟨rfl, rfl, trivial⟩
  · exact List.Perm.refl _
  · intro u hu
    refine hw_seq ?_
    refine hw_reg ?_
    refine dp rfl (pop_move rfl) ?_
    refine dp rfl (pop_move rfl) ?_
    refine dp rfl (pop_leq rfl rfl) ?_
    refine dn ?_
    refine hw_cond rfl (fun h1 => ?_) (fun h1 => ?_)
    · exfalso
      try simp at h1
      omega
    · try simp at h1
      refine hw_exit ?_
      refine seqQ_x ?_
      refine loopQ_x ?_
      refine blockQ_eq ?_
      refine seqQ_n ?_
      refine hw_reg ?_
      refine dp rfl (pop_move rfl) ?_
      refine dp rfl (pop_move rfl) ?_
      refine dp rfl (pop_move rfl) ?_
      refine dp rfl (pop_move rfl) ?_
      refine de rfl (eop_callx (i := 0) ca86 rfl (WeakL.refl _) rfl (c_slices_insertionSortCmpFunc_api_Over (l := l) hca hp (by omega) (by omega)) ?_)
      rintro _ _ ⟨rfl, rfl⟩
      refine dn ?_
      refine hw_block ?_
      refine hw_loopw [6, 7, 8, 9, 28, 29, 30, 31, 32, 33, 34, 35, 36, 37, 38, 39, 40, 41, 42, 43, 44, 45, 46, 47, 48, 49, 50, 51, 52, 53, 54, 55, 56, 57, 58, 59, 60, 61, 62] (fun (u : Unit) => [(6, .int .i64 20)]) (fun (u : Unit) => [.arr v 3 ((isort c l).map eOver)]) (fun (u : Unit) => True) (fun (u : Unit) => 0) (()) ?_ ?_ ?_ ?_
      · trivial
      · exact ⟨rfl, trivial⟩
      · exact List.Perm.refl _
      · intro u hu
        refine hw_seq ?_
        refine hw_reg ?_
        refine dp rfl (pop_move rfl) ?_
        refine dp rfl (pop_move rfl) ?_
        refine dp rfl (pop_lss rfl rfl) ?_
        refine dn ?_
        refine hw_cond rfl (fun h2 => ?_) (fun h2 => ?_)
        · exfalso
          try simp at h2
          omega
        · try simp at h2
          refine hw_exit ?_
          refine seqQ_x ?_
          refine loopQ_x ?_
          refine blockQ_eq ?_
          exact ⟨_, _, Ghost.sub (Sub.refl _), _, _, rfl, Weak.refl _, rfl, rfl⟩

/-- slices.SortStableFunc[[]benchwarmer/api.Over,benchwarmer/api.Over] -/
theorem c_slices_SortStableFunc_api_Over_api_Over {l : List Over} {v : Value} {fid : FuncId} {caps : List HVal} {c : Over → Over → Int} (hca : Callable Tryz.prog fid) (hp : ∀ x y, ConP Tryz.prog fid ([eOver x, eOver y] ++ caps) (.int .i64 (c x y))) (hl : l.length < 20) : Con Tryz.prog 45 [.raw v, .fn (.func fid) [] caps] [.arr v 3 (l.map eOver)] (fun x M' => x = .tup [] ∧ M' = [.arr v 3 ((isort c l).map eOver)]) := by
  refine Con.of_body Tryz.func45 rfl Tryz.ntmps45 rfl rfl ?_
  refine hw_reg1 ?_
  refine dp rfl (pop_move rfl) ?_
  refine dp rfl (pop_move rfl) ?_
  first
  | refine de rfl (eop_lenm (i := 0) ty37 rfl rfl ?_)
  | refine de rfl (eop_lenm (i := 1) ty37 rfl rfl ?_)
  | refine de rfl (eop_lenm (i := 2) ty37 rfl rfl ?_)
  | refine de rfl (eop_lenm (i := 3) ty37 rfl rfl ?_)
  refine dp rfl (pop_move rfl) ?_
  first
  | refine de rfl (eop_callx (i := 0) ca63 rfl (WeakL.refl _) rfl (c_slices_stableCmpFunc_api_Over hca hp hl) ?_)
  | refine de rfl (eop_callx (i := 1) ca63 rfl (WeakL.refl _) rfl (c_slices_stableCmpFunc_api_Over hca hp hl) ?_)
  | refine de rfl (eop_callx (i := 2) ca63 rfl (WeakL.refl _) rfl (c_slices_stableCmpFunc_api_Over hca hp hl) ?_)
  | refine de rfl (eop_callx (i := 3) ca63 rfl (WeakL.refl _) rfl (c_slices_stableCmpFunc_api_Over hca hp hl) ?_)
  rintro _ _ ⟨rfl, rfl⟩
  refine dn ?_
  exact ⟨_, _, Ghost.sub (Sub.refl _), _, _, rfl, Weak.refl _, rfl, rfl⟩

set_option maxHeartbeats 1000000 in
/-- slices.insertionSortCmpFunc[int] -/
theorem c_slices_insertionSortCmpFunc_int {q : Nat} {l : List (Fin q)} {v : Value} {fid : FuncId} {caps : List HVal} {c : (Fin q) → (Fin q) → Int} {n : Int} (hca : Callable Tryz.prog fid) (hp : ∀ x y, ConP Tryz.prog fid ([eIx x, eIx y] ++ caps) (.int .i64 (c x y))) (hn : n = l.length) (hl : l.length ≤ 1000000) : Con Tryz.prog 78 [.raw v, .int .i64 0, .int .i64 n, .fn (.func fid) [] caps] [.arr v 1 (l.map eIx)] (fun x M' => x = .tup [] ∧ M' = [.arr v 1 ((isort c l).map eIx)]) := by
  subst hn
  refine Con.of_body Tryz.func78 rfl Tryz.ntmps78 rfl rfl ?_
  refine hw_reg ?_
  refine dp rfl (pop_move rfl) ?_
  refine dp rfl (pop_add64 rfl rfl (by omega) (by omega)) ?_
  refine dp rfl (pop_assign rfl) ?_
  refine dn ?_
  refine hw_block ?_
  refine hw_loopw [8, 9, 12, 13, 14, 15, 16, 17, 18, 19, 20, 21, 22, 23, 24, 25, 26, 27, 28, 29, 30, 31, 32, 33, 34, 35, 36, 37, 38, 39, 40, 41, 42, 43, 44, 45, 46, 47, 48, 49, 50, 51, 52] (fun (k : Nat) => [(8, .int .i64 (k : Int))]) (fun (k : Nat) => [.arr v 1 ((isort c (l.take k) ++ l.drop k).map eIx)]) (fun (k : Nat) => 1 ≤ k) (fun (k : Nat) => l.length - k) (1) ?_ ?_ ?_ ?_
  · exact Nat.le_refl _
  · exact ⟨rfl, trivial⟩
  · exact perm_eq (by rw [isort_take1])
  · intro k hk
    refine hw_seq ?_
    refine hw_reg ?_
    refine dp rfl (pop_move rfl) ?_
    refine dp rfl (pop_move rfl) ?_
    refine dp rfl (pop_lss rfl rfl) ?_
    refine dn ?_
    refine hw_cond rfl (fun h1 => ?_) (fun h2 => ?_)
    · try simp at h1
      obtain ⟨x, hx⟩ : ∃ x, l[k]? = some x := ⟨_, List.getElem?_eq_getElem (by omega)⟩
      refine hw_arrc (i := 0) rfl (fun h0 he => ?_) (fun b off cap hv hcap => ?_)
      · exfalso; have := congrArg List.length he; simp [isort_len] at this; omega
      rw [show ((isort c (l.take k) ++ l.drop k).map eIx).length = l.length by simp [isort_len]; omega] at hv
      subst hv
      refine hw_skip ?_
      refine seqQ_n ?_
      refine hw_seq ?_
      refine hw_block ?_
      refine hw_reg ?_
      refine dp rfl (pop_move rfl) ?_
      refine dp rfl (pop_assign rfl) ?_
      refine dn ?_
      refine hw_block ?_
      refine hw_loopw2 [9, 18, 19, 20, 21, 22, 23, 24, 25, 26, 27, 28, 29, 30, 31, 32, 33, 34, 35, 36, 37, 38, 39, 40, 41, 42, 43, 44, 45, 46, 47, 48, 49, 50, 51, 52] (fun (A : List (Fin q)) (B : List (Fin q)) => [(9, .int .i64 (A.length : Int))]) (fun (A : List (Fin q)) (B : List (Fin q)) => [.arr (.slice (some ⟨b, off, none⟩) l.length cap) 1 ((A ++ x :: (B ++ l.drop (k + 1))).map eIx)]) (fun (A : List (Fin q)) (B : List (Fin q)) => A.length + B.length = k ∧ insB c x (isort c (l.take k)) = insB c x A ++ B) (fun (A : List (Fin q)) (B : List (Fin q)) => A.length) (isort c (l.take k)) ([]) ?_ ?_ ?_ ?_
      · exact ⟨by simp [isort_len]; omega, by simp⟩
      · exact ⟨some_int (by simp [isort_len]; omega), trivial⟩
      · exact perm_eq (by rw [drop_cons hx]; rfl)
      · intro A B hinv
        obtain ⟨hA, hB⟩ := hinv
        have hlA : A.length < l.length := by omega
        have hll : ((A ++ x :: (B ++ l.drop (k + 1)))).length = l.length := by simp; omega
        refine hw_seq ?_
        refine hw_draw (fun M => M = [.arr (.slice (some ⟨b, off, none⟩) l.length cap) 1 ((A ++ x :: (B ++ l.drop (k + 1))).map eIx)]) [8, 13] mixed ?_
        refine ahp 0 rfl rfl (by kernel_rfl) (by kernel_rfl) (pop_move rfl) ?_
        refine ahp 1 rfl rfl (by kernel_rfl) (by kernel_rfl) (pop_move rfl) ?_
        refine ahp 2 rfl rfl (by kernel_rfl) (by kernel_rfl) (pop_gtr rfl rfl) ?_
        refine ahp 3 rfl rfl (by kernel_rfl) (by kernel_rfl) (pop_move rfl) ?_
        refine ahg 4 rfl rfl (by kernel_rfl) (by kernel_rfl) rfl (fun hc => ⟨_, OpenTo.refl _, pop_move rfl⟩) ?_
        refine ahg 5 rfl rfl (by kernel_rfl) (by kernel_rfl) rfl (fun hc => ⟨_, OpenTo.refl _, pop_move rfl⟩) ?_
        refine ahg 6 rfl rfl (by kernel_rfl) (by kernel_rfl) rfl (fun hc => ⟨_, OpenTo.refl _, pop_move rfl⟩) ?_
        refine ahg 7 rfl rfl (by kernel_rfl) (by kernel_rfl) rfl (fun hc => by
            have hq : 0 < A.length := by simpa using hc
            exact ⟨_, OpenTo.upd (t := 24) rfl (by first | exact hc | simp_all) (OpenTo.upd (t := 23) rfl (by first | exact hc | simp_all) (OpenTo.refl _)), pop_idxraw (j := A.length) ty22 ty3 rfl rfl (by rfl) (by omega)⟩) ?_
        refine ahgl 8 rfl rfl (by kernel_rfl) (by kernel_rfl) (by simp) rfl rfl (fun hc => ⟨_, OpenTo.upd (t := 25) rfl (by first | exact hc | simp_all) (OpenTo.refl _), fun M hM => by
            subst hM; exact eop_load_el (i := 0) (j := A.length) 0 ty3 rfl rfl rfl get_mid rfl rfl ⟨rfl, rfl⟩
          ⟩) ?_
        refine ahg 9 rfl rfl (by kernel_rfl) (by kernel_rfl) rfl (fun hc => ⟨_, OpenTo.refl _, pop_move rfl⟩) ?_
        refine ahg 10 rfl rfl (by kernel_rfl) (by kernel_rfl) rfl (fun hc => ⟨_, OpenTo.refl _, pop_move rfl⟩) ?_
        refine ahg 11 rfl rfl (by kernel_rfl) (by kernel_rfl) rfl (fun hc => by
            have hq : 0 < A.length := by simpa using hc
            exact ⟨_, OpenTo.upd (t := 28) rfl (by first | exact hc | simp_all) (OpenTo.refl _), pop_sub64 rfl rfl (by omega) (by omega)⟩) ?_
        refine ahg 12 rfl rfl (by kernel_rfl) (by kernel_rfl) rfl (fun hc => by
            have hq : 0 < A.length := by simpa using hc
            exact ⟨_, OpenTo.upd (t := 29) rfl (by first | exact hc | simp_all) (OpenTo.upd (t := 27) rfl (by first | exact hc | simp_all) (OpenTo.refl _)), pop_idxraw (j := A.length - 1) ty22 ty3 rfl rfl (by omega) (by omega)⟩) ?_
        refine ahgl 13 rfl rfl (by kernel_rfl) (by kernel_rfl) (by simp) rfl rfl (fun hc => ⟨_, OpenTo.upd (t := 30) rfl (by first | exact hc | simp_all) (OpenTo.refl _), fun M hM => by
            have hq : 0 < A.length := by simpa using hc
            subst hM; exact eop_load_el (i := 0) (j := A.length - 1) 0 ty3 rfl rfl rfl (get_before hq) rfl rfl ⟨rfl, rfl⟩
          ⟩) ?_
        refine ahg 14 rfl rfl (by kernel_rfl) (by kernel_rfl) rfl (fun hc => ⟨_, OpenTo.upd (t := 31) rfl (by first | exact hc | simp_all) (OpenTo.upd (t := 26) rfl (by first | exact hc | simp_all) (OpenTo.upd (t := 22) rfl (by first | exact hc | simp_all) (OpenTo.refl _))), pop_callv hca rfl rfl (WeakL.refl _) (hp _ _)⟩) ?_
        refine ahg 15 rfl rfl (by kernel_rfl) (by kernel_rfl) rfl (fun hc => ⟨_, OpenTo.upd (t := 32) rfl (by first | exact hc | simp_all) (OpenTo.refl _), pop_lss rfl rfl⟩) ?_
        refine ahp 16 rfl rfl (by kernel_rfl) (by kernel_rfl) (pop_picko rfl (.inr ⟨_, rfl, fun h => by simp_all⟩) (.inl rfl)) ?_
        refine ahz (by kernel_rfl) ?_
        refine hw_cond rfl (fun h3 => ?_) (fun h4 => ?_)
        · try simp at h3
          obtain ⟨hA0, hcx⟩ := h3
          obtain ⟨A1, y, rfl⟩ := snoc_of hA0
          rw [getD_snoc] at hcx
          refine hw_skip ?_
          refine seqQ_n ?_
          refine hw_seq ?_
          refine hw_block ?_
          refine hw_draw1 (fun M => M = [.arr (.slice (some ⟨b, off, none⟩) l.length cap) 1 (((A1 ++ [y]) ++ x :: (B ++ l.drop (k + 1))).map eIx)]) [9, 13] mixed ?_
          refine ahp 0 rfl rfl (by kernel_rfl) (by kernel_rfl) (pop_move rfl) ?_
          refine ahp 1 rfl rfl (by kernel_rfl) (by kernel_rfl) (pop_move rfl) ?_
          refine ahp 2 rfl rfl (by kernel_rfl) (by kernel_rfl) (pop_move rfl) ?_
          refine ahp 3 rfl rfl (by kernel_rfl) (by kernel_rfl) (pop_move rfl) ?_
          refine ahp 4 rfl rfl (by kernel_rfl) (by kernel_rfl) (pop_sub64 rfl rfl (by omega) (by omega)) ?_
          refine ahp 5 rfl rfl (by kernel_rfl) (by kernel_rfl) (pop_move rfl) ?_
          refine ahp 6 rfl rfl (by kernel_rfl) (by kernel_rfl) (pop_move rfl) ?_
          refine ahp 7 rfl rfl (by kernel_rfl) (by kernel_rfl) (pop_sub64 rfl rfl (by omega) (by omega)) ?_
          refine ahp 8 rfl rfl (by kernel_rfl) (by kernel_rfl) (pop_idxraw (j := (A1 ++ [y]).length - 1) ty22 ty3 rfl rfl (by omega) (by omega)) ?_
          refine ahl 9 rfl rfl (by kernel_rfl) (by kernel_rfl) (by simp) rfl (fun M hM => by subst hM; exact eop_load_el (i := 0) (j := (A1 ++ [y]).length - 1) 0 ty3 rfl rfl rfl ((get_before hA0).trans (by rw [getD_snoc])) rfl rfl ⟨rfl, rfl⟩) ?_
          refine ahp 10 rfl rfl (by kernel_rfl) (by kernel_rfl) (pop_move rfl) ?_
          refine ahp 11 rfl rfl (by kernel_rfl) (by kernel_rfl) (pop_move rfl) ?_
          refine ahp 12 rfl rfl (by kernel_rfl) (by kernel_rfl) (pop_idxraw (j := (A1 ++ [y]).length) ty22 ty3 rfl rfl rfl (by omega)) ?_
          refine ahl 13 rfl rfl (by kernel_rfl) (by kernel_rfl) (by simp) rfl (fun M hM => by subst hM; exact eop_load_el (i := 0) (j := (A1 ++ [y]).length) 0 ty3 rfl rfl rfl get_mid rfl rfl ⟨rfl, rfl⟩) ?_
          refine ahp 14 rfl rfl (by kernel_rfl) (by kernel_rfl) (pop_idxraw (j := (A1 ++ [y]).length) ty22 ty3 rfl rfl rfl (by omega)) ?_
          refine ahe 15 rfl (by kernel_rfl) ?_
          refine hop_e0 (eop_store_elw (i := 0) (j := (A1 ++ [y]).length) (y := x) (y' := y) ty3 rfl rfl rfl rfl get_mid rfl rfl rfl ?_)
          refine ⟨fun _ => .inr (by simp [Before, Region.binds]), ?_⟩
          refine ahp 16 rfl rfl (by kernel_rfl) (by kernel_rfl) (pop_idxraw (j := (A1 ++ [y]).length - 1) ty22 ty3 rfl rfl (by omega) (by omega)) ?_
          refine ahe 17 rfl (by kernel_rfl) ?_
          refine hop_e0 (eop_store_elw (i := 0) (j := (A1 ++ [y]).length - 1) (y := y) (y' := x) ty3 rfl rfl rfl rfl (by rw [List.getElem?_set_ne (by simp)]; exact (get_before hA0).trans (by rw [getD_snoc])) rfl rfl rfl ?_)
          refine ⟨fun _ => .inr (by simp [Before, Region.binds]), ?_⟩
          refine ahz (by kernel_rfl) ?_
          refine blockQ_n ?_
          refine seqQ_n ?_
          refine hw_reg1 ?_
          refine dp rfl (pop_move rfl) ?_
          refine dp rfl (pop_sub64 rfl rfl (by omega) (by omega)) ?_
          refine dp rfl (pop_assign rfl) ?_
          refine dn ?_
          exact ⟨A1, y :: B, ⟨by simp at hA ⊢; omega, ins_step hB hcx⟩, by dsimp only; simp, ⟨some_int (by simp), trivial⟩, (by repeat (first | exact keeps_refl | refine keeps_upd rfl ?_ | refine keeps_loop rfl rfl ?_)), perm_eq (by rw [swap_mid]; rfl)⟩
        · try simp at h4
          have hins := ins_exit (l := l) (k := k) hx hB (by intro h0; have := h4 h0; omega)
          refine hw_exit ?_
          refine seqQ_x ?_
          refine loopQ2_x ?_
          refine blockQ_eq ?_
          refine blockQ_n ?_
          refine seqQ_n ?_
          refine hw_reg1 ?_
          refine dp rfl (pop_move rfl) ?_
          refine dp rfl (pop_add64 rfl rfl (by omega) (by omega)) ?_
          refine dp rfl (pop_assign rfl) ?_
          refine dn ?_
          refine ⟨k + 1, ?_, ?_, ⟨rfl, trivial⟩, (by repeat (first | exact keeps_refl | refine keeps_upd rfl ?_ | refine keeps_loop rfl rfl ?_)), perm_eq (by rw [hins])⟩
          · omega
          · dsimp only; omega
    · try simp at h2
      have hend : isort c (l.take k) ++ l.drop k = isort c l := by rw [List.take_of_length_le (by omega), drop_all (by omega)]; simp
      refine hw_exit ?_
      refine seqQ_x ?_
      refine loopQ_x ?_
      refine blockQ_eq ?_
      exact ⟨_, _, Ghost.sub (Sub.refl _), _, _, rfl, Weak.refl _, rfl, by rw [hend]⟩

/-- slices.stableCmpFunc[int] -/
theorem c_slices_stableCmpFunc_int {q : Nat} {l : List (Fin q)} {v : Value} {fid : FuncId} {caps : List HVal} {c : (Fin q) → (Fin q) → Int} (hca : Callable Tryz.prog fid) (hp : ∀ x y, ConP Tryz.prog fid ([eIx x, eIx y] ++ caps) (.int .i64 (c x y))) (hl : l.length < 20) : Con Tryz.prog 59 [.raw v, .int .i64 (l.length : Int), .fn (.func fid) [] caps] [.arr v 1 (l.map eIx)] (fun x M' => x = .tup [] ∧ M' = [.arr v 1 ((isort c l).map eIx)]) := by
  refine Con.of_body Tryz.func59 rfl Tryz.ntmps59 rfl rfl ?_
  refine hw_reg ?_
  refine dp rfl (pop_assign rfl) ?_
  refine dn ?_
  refine hw_reg ?_
  refine dp rfl (pop_move rfl) ?_
  refine dp rfl (pop_assign rfl) ?_
  refine dp rfl (pop_assign rfl) ?_
  refine dn ?_
  refine hw_seq ?_
  refine hw_block ?_
  refine hw_loopw [7, 8, 11, 12, 13, 14, 15, 16, 17, 18, 19, 20, 21, 22] (fun (u : Unit) => [(7, .int .i64 0), (8, .int .i64 20)]) (fun (u : Unit) => [.arr v 1 (l.map eIx)]) (fun (u : Unit) => True) (fun (u : Unit) => 0) (()) ?_ ?_ ?_ ?_
  · trivial
  · exact ⟨rfl, rfl, trivial⟩
  · exact List.Perm.refl _
  · intro u hu
    refine hw_seq ?_
    refine hw_reg ?_
    refine dp rfl (pop_move rfl) ?_
    refine dp rfl (pop_move rfl) ?_
    refine dp rfl (pop_leq rfl rfl) ?_
    refine dn ?_
    refine hw_cond rfl (fun h1 => ?_) (fun h1 => ?_)
    · exfalso
      try simp at h1
      omega
    · try simp at h1
      refine hw_exit ?_
      refine seqQ_x ?_
      refine loopQ_x ?_
      refine blockQ_eq ?_
      refine seqQ_n ?_
      refine hw_reg ?_
      refine dp rfl (pop_move rfl) ?_
      refine dp rfl (pop_move rfl) ?_
      refine dp rfl (pop_move rfl) ?_
      refine dp rfl (pop_move rfl) ?_
      refine de rfl (eop_callx (i := 0) ca78 rfl (WeakL.refl _) rfl (c_slices_insertionSortCmpFunc_int (l := l) hca hp (by omega) (by omega)) ?_)
      rintro _ _ ⟨rfl, rfl⟩
      refine dn ?_
      refine hw_block ?_
      refine hw_loopw [6, 7, 8, 9, 28, 29, 30, 31, 32, 33, 34, 35, 36, 37, 38, 39, 40, 41, 42, 43, 44, 45, 46, 47, 48, 49, 50, 51, 52, 53, 54, 55, 56, 57, 58, 59, 60, 61, 62] (fun (u : Unit) => [(6, .int .i64 20)]) (fun (u : Unit) => [.arr v 1 ((isort c l).map eIx)]) (fun (u : Unit) => True) (fun (u : Unit) => 0) (()) ?_ ?_ ?_ ?_
      · trivial
      · exact ⟨rfl, trivial⟩
      · exact List.Perm.refl _
      · intro u hu
        refine hw_seq ?_
        refine hw_reg ?_
        refine dp rfl (pop_move rfl) ?_
        refine dp rfl (pop_move rfl) ?_
        refine dp rfl (pop_lss rfl rfl) ?_
        refine dn ?_
        refine hw_cond rfl (fun h2 => ?_) (fun h2 => ?_)
        · exfalso
          try simp at h2
          omega
        · try simp at h2
          refine hw_exit ?_
          refine seqQ_x ?_
          refine loopQ_x ?_
          refine blockQ_eq ?_
          exact ⟨_, _, Ghost.sub (Sub.refl _), _, _, rfl, Weak.refl _, rfl, rfl⟩

/-- slices.SortStableFunc[[]int,int] -/
theorem c_slices_SortStableFunc_int_int {q : Nat} {l : List (Fin q)} {v : Value} {fid : FuncId} {caps : List HVal} {c : (Fin q) → (Fin q) → Int} (hca : Callable Tryz.prog fid) (hp : ∀ x y, ConP Tryz.prog fid ([eIx x, eIx y] ++ caps) (.int .i64 (c x y))) (hl : l.length < 20) : Con Tryz.prog 39 [.raw v, .fn (.func fid) [] caps] [.arr v 1 (l.map eIx)] (fun x M' => x = .tup [] ∧ M' = [.arr v 1 ((isort c l).map eIx)]) := by
  refine Con.of_body Tryz.func39 rfl Tryz.ntmps39 rfl rfl ?_
  refine hw_reg1 ?_
  refine dp rfl (pop_move rfl) ?_
  refine dp rfl (pop_move rfl) ?_
  first
  | refine de rfl (eop_lenm (i := 0) ty22 rfl rfl ?_)
  | refine de rfl (eop_lenm (i := 1) ty22 rfl rfl ?_)
  | refine de rfl (eop_lenm (i := 2) ty22 rfl rfl ?_)
  | refine de rfl (eop_lenm (i := 3) ty22 rfl rfl ?_)
  refine dp rfl (pop_move rfl) ?_
  first
  | refine de rfl (eop_callx (i := 0) ca59 rfl (WeakL.refl _) rfl (c_slices_stableCmpFunc_int hca hp hl) ?_)
  | refine de rfl (eop_callx (i := 1) ca59 rfl (WeakL.refl _) rfl (c_slices_stableCmpFunc_int hca hp hl) ?_)
  | refine de rfl (eop_callx (i := 2) ca59 rfl (WeakL.refl _) rfl (c_slices_stableCmpFunc_int hca hp hl) ?_)
  | refine de rfl (eop_callx (i := 3) ca59 rfl (WeakL.refl _) rfl (c_slices_stableCmpFunc_int hca hp hl) ?_)
  rintro _ _ ⟨rfl, rfl⟩
  refine dn ?_
  exact ⟨_, _, Ghost.sub (Sub.refl _), _, _, rfl, Weak.refl _, rfl, rfl⟩

/-- slices.IndexFunc[[]benchwarmer/api.Over,benchwarmer/api.Over] -/
theorem c_slices_IndexFunc_api_Over_api_Over {l : List Over} {fid : FuncId} {caps : List HVal} {p : Over → Bool} (hca : Callable Tryz.prog fid) (hp : ∀ x, ConP Tryz.prog fid ([eOver x] ++ caps) (.bool (p x))) (hl : l.length ≤ 1000000) : ConP Tryz.prog 58 [.slice 3 (l.map eOver), .fn (.func fid) [] caps] (.int .i64 (idxF p l 0)) := by
  refine Con.of_body Tryz.func58 rfl Tryz.ntmps58 rfl rfl ?_
  refine hw_reg ?_
  refine dp rfl (pop_assign rfl) ?_
  refine dn ?_
  refine hw_seq ?_
  refine hw_reg ?_
  refine dp rfl (pop_move rfl) ?_
  refine dp rfl (pop_lenm ty37 rfl) ?_
  refine dp rfl (pop_move rfl) ?_
  refine dn ?_
  refine hw_block ?_
  refine hw_loopw [4, 5, 8, 9, 10, 11, 12, 13, 14, 15, 16, 17, 18] (fun (k : Nat) => [(8, .int .i64 k)]) (fun (k : Nat) => []) (fun (k : Nat) => k ≤ l.length ∧ (idxF p l 0 = idxF p (l.drop k) k)) (fun (k : Nat) => l.length - k) (0) ?_ ?_ ?_ ?_
  · exact ⟨Nat.zero_le _, rfl⟩
  · exact ⟨rfl, trivial⟩
  · exact List.Perm.refl _
  · intro k hinv
    obtain ⟨hk, hg⟩ := hinv
    refine hw_reg ?_
    refine dp rfl (pop_lss rfl rfl) ?_
    refine dn ?_
    refine hw_seq ?_
    refine hw_cond rfl (fun h1 => ?_) (fun h2 => ?_)
    · try simp at h1
      obtain ⟨x, hx⟩ : ∃ x, l[k]? = some x := ⟨_, List.getElem?_eq_getElem h1⟩
      have hdx := drop_cons hx
      rw [hdx] at hg
      refine hw_skip ?_
      refine seqQ_n ?_
      refine hw_seq ?_
      refine hw_block ?_
      refine hw_reg ?_
      refine dp rfl (pop_move rfl) ?_
      refine dp rfl (pop_assign rfl) ?_
      refine dn ?_
      refine hw_reg ?_
      refine dp rfl (pop_move rfl) ?_
      refine dp rfl (pop_move rfl) ?_
      refine dp rfl (pop_move rfl) ?_
      refine dp rfl (pop_idx ty37 ty50 rfl rfl rfl (by first | assumption | simp_all)) ?_
      refine dp rfl (pop_loadw ty50 rfl rfl rfl rfl) ?_
      refine dp rfl (pop_callv hca rfl rfl (WeakL.refl _) (hp _)) ?_
      refine dn ?_
      refine hw_cond rfl (fun h3 => ?_) (fun h4 => ?_)
      · try simp at h3
        refine hw_reg ?_
        refine dp rfl (pop_move rfl) ?_
        refine dp rfl (pop_assign rfl) ?_
        refine dn ?_
        refine hw_ret ?_
        refine ret_p rfl ?_
        show HVal.int .i64 _ = _
        first | (rw [hg]; rfl) | (rw [hg]; simp_all [idxF])
      · try simp at h4
        refine hw_skip ?_
        refine blockQ_n ?_
        refine seqQ_n ?_
        refine hw_reg1 ?_
        refine dp rfl (pop_add64 rfl rfl (by omega) (by omega)) ?_
        refine dp rfl (pop_move rfl) ?_
        refine dn ?_
        refine ⟨k + 1, ?_, ?_, ⟨rfl, trivial⟩, (by repeat (first | exact keeps_refl | refine keeps_upd rfl ?_ | refine keeps_loop rfl rfl ?_)), List.Perm.refl _⟩
        · refine ⟨by omega, ?_⟩
          rw [hg, idxF, if_neg (by simp_all)]; rfl
        · dsimp only; omega
    · try simp at h2
      have hnk : l.length ≤ k := by omega
      obtain rfl : k = l.length := by omega
      rw [drop_all (Nat.le_refl _)] at hg
      refine hw_exit ?_
      refine seqQ_x ?_
      refine loopQ_x ?_
      refine blockQ_eq ?_
      refine seqQ_n ?_
      refine hw_reg ?_
      refine dp rfl (pop_assign rfl) ?_
      refine dn ?_
      refine hw_ret ?_
      refine ret_p rfl ?_
      show HVal.int .i64 _ = _
      first | (rw [hg]; rfl) | (rw [hg]; simp_all [idxF])

/-- slices.DeleteFunc[[]benchwarmer/api.Over,benchwarmer/api.Over] -/
theorem c_slices_DeleteFunc_api_Over_api_Over {l : List Over} {fid : FuncId} {caps : List HVal} {p : Over → Bool} {v : Value} (hca : Callable Tryz.prog fid) (hp : ∀ x, ConP Tryz.prog fid ([eOver x] ++ caps) (.bool (p x))) (hl : l.length ≤ 1000000) : Con Tryz.prog 37 [.raw v, .fn (.func fid) [] caps] [.arr v 3 (l.map eOver)] (fun x M' => ∃ u, x = .raw u ∧ M' = [.arr u 3 ((l.filter (fun x => !p x)).map eOver)]) := by
  refine Con.of_body Tryz.func37 rfl Tryz.ntmps37 rfl rfl ?_
  refine hw_reg ?_
  refine dp rfl (pop_assign rfl) ?_
  refine dn ?_
  refine hw_reg ?_
  refine dp rfl (pop_move rfl) ?_
  refine dp rfl (pop_move rfl) ?_
  refine de rfl (eop_callb (hs' := [.slice 3 (l.map eOver), .fn (.func fid) [] caps]) ca58 rfl ⟨.arr (i := 0) rfl, .weak (Weak.refl _), trivial⟩ (c_slices_IndexFunc_api_Over_api_Over (p := p) hca hp hl) rfl ?_)
  refine dp rfl (pop_assign rfl) ?_
  refine dn ?_
  refine hw_seq ?_
  refine hw_reg ?_
  refine dp rfl (pop_move rfl) ?_
  refine dp rfl (pop_eql rfl rfl) ?_
  refine dn ?_
  refine hw_cond rfl (fun h1 => ?_) (fun h2 => ?_)
  · try simp at h1
    refine hw_reg ?_
    refine dp rfl (pop_move rfl) ?_
    refine dp rfl (pop_assign rfl) ?_
    refine dn ?_
    refine hw_ret ?_
    first
    | (refine ret_q rfl ⟨_, rfl, ?_⟩
       rw [idxF_none p l 0 (by omega) h1]
       done)
    | (refine ret_q rfl ⟨_, rfl, ?_⟩
       rw [List.take_length, ← List.map_take, hend]; rfl)
  · try simp at h2
    refine hw_skip ?_
    refine seqQ_n ?_
    refine hw_seq ?_
    obtain ⟨i0, hi0, hil, ⟨x0, hx0, hp0⟩, hb0⟩ := idxF_found p l 0 (by omega) h2
    rw [Int.zero_add] at hi0
    obtain ⟨hD0, hn0⟩ := DelInv.start (p := p) hil hx0 hp0 hb0
    refine hw_arrc (i := 0) rfl (fun h0 he => ?_) (fun b off cap hv hcap => ?_)
    · exfalso; have := congrArg List.length he; simp at this; subst this; simp at hil
    rw [List.length_map] at hv hcap
    subst hv
    refine hw_reg ?_
    refine dp rfl (pop_move rfl) ?_
    refine dp rfl (pop_eq (pop_add64 rfl rfl (by rw [hi0]; omega) (by rw [hi0]; omega)) (congrArg _ (by rw [hi0]))) ?_
    refine dp rfl (pop_assign rfl) ?_
    refine dn ?_
    refine hw_block ?_
    refine hw_loopw2 [5, 6, 7, 16, 17, 18, 19, 20, 21, 22, 23, 24, 25, 26, 27, 28, 29, 30, 31, 32, 33, 34, 35] (fun (j : Nat) (D : List Over) => [(6, .int .i64 (j : Int)), (5, .int .i64 (((l.take j).filter (fun x => !p x)).length : Int))]) (fun (j : Nat) (D : List Over) => [.arr (.slice (some ⟨b, off, none⟩) l.length cap) 3 (D.map eOver)]) (fun (j : Nat) (D : List Over) => DelInv p l j D) (fun (j : Nat) (D : List Over) => l.length - j) (i0 + 1) (l) ?_ ?_ ?_ ?_
    · exact hD0
    · exact ⟨rfl, some_int (by rw [hn0, hi0]), trivial⟩
    · exact List.Perm.refl _
    · intro j D hD
      have hlt0 := hD.lt
      have hle0 := hD.len
      refine hw_seq ?_
      refine hw_reg ?_
      refine dp rfl (pop_move rfl) ?_
      refine dp rfl (pop_move rfl) ?_
      first
      | refine de rfl (eop_lenm (i := 0) ty37 rfl rfl ?_)
      | refine de rfl (eop_lenm (i := 1) ty37 rfl rfl ?_)
      | refine de rfl (eop_lenm (i := 2) ty37 rfl rfl ?_)
      | refine de rfl (eop_lenm (i := 3) ty37 rfl rfl ?_)
      refine dp rfl (pop_lss rfl rfl) ?_
      refine dn ?_
      refine hw_cond rfl (fun h3 => ?_) (fun h4 => ?_)
      · try simp at h3
        obtain ⟨x, hx⟩ : ∃ x, l[j]? = some x := ⟨_, List.getElem?_eq_getElem (by omega)⟩
        refine hw_skip ?_
        refine seqQ_n ?_
        refine hw_seq ?_
        refine hw_block ?_
        refine hw_reg ?_
        refine dp rfl (pop_move rfl) ?_
        refine dp rfl (pop_move rfl) ?_
        refine dp rfl (pop_idxraw (j := j) ty37 ty50 rfl rfl rfl (by omega)) ?_
        refine de rfl (eop_load_elw (i := 0) (j := j) ty50 rfl rfl rfl (hD.get hx) rfl rfl rfl ?_)
        refine de rfl (eop_alloc ty50 rfl fun b7 => ?_)
        refine de0 (eop_storew ty50 rfl rfl rfl rfl rfl ?_)
        refine dn ?_
        refine hw_ghost (Ghost.fc0 7 rfl) ?_
        refine hw_reg ?_
        refine dp rfl (pop_move rfl) ?_
        refine dp rfl (pop_loadw ty50 rfl rfl rfl rfl) ?_
        refine dp rfl (pop_callv hca rfl rfl (WeakL.refl _) (hp _)) ?_
        refine dp rfl (pop_not rfl) ?_
        refine dn ?_
        refine hw_cond rfl (fun h5 => ?_) (fun h6 => ?_)
        · try simp at h5
          refine hw_reg ?_
          refine dp rfl (pop_move rfl) ?_
          refine dp rfl (pop_move rfl) ?_
          refine dp rfl (pop_loadw ty50 rfl rfl rfl rfl) ?_
          refine dp rfl (pop_idxraw (j := ((l.take j).filter (fun x => !p x)).length) ty37 ty50 rfl rfl rfl (by have := hD.lt; omega)) ?_
          refine de0 (eop_store_elw (i := 0) (j := ((l.take j).filter (fun x => !p x)).length) (y := D[((l.take j).filter (fun x => !p x)).length]'(by have := hD.lt; have := hD.len; omega)) (y' := x) ty50 rfl rfl rfl rfl (List.getElem?_eq_getElem _) rfl rfl rfl ?_)
          refine dn ?_
          refine hw_reg1 ?_
          refine dp rfl (pop_move rfl) ?_
          refine dp rfl (pop_add64 rfl rfl (by omega) (by have := hD.lt; omega)) ?_
          refine dp rfl (pop_assign rfl) ?_
          refine dn ?_
          refine blockQ_n ?_
          refine seqQ_n ?_
          refine hw_reg1 ?_
          refine dp rfl (pop_move rfl) ?_
          refine dp rfl (pop_add64 rfl rfl (by omega) (by omega)) ?_
          refine dp rfl (pop_assign rfl) ?_
          refine dn ?_
          first
          | exact ⟨j + 1, _, (hD.keep hx (by simp_all)).1, by dsimp only; omega, ⟨rfl, some_int (by rw [(hD.keep hx (by simp_all)).2]; rfl), trivial⟩, (by repeat (first | exact keeps_refl | refine keeps_upd rfl ?_ | refine keeps_loop rfl rfl ?_)), List.Perm.refl _⟩
          | exact ⟨j + 1, _, (hD.skip hx (by simp_all)).1, by dsimp only; omega, ⟨rfl, some_int (by rw [(hD.skip hx (by simp_all)).2]), trivial⟩, (by repeat (first | exact keeps_refl | refine keeps_upd rfl ?_ | refine keeps_loop rfl rfl ?_)), List.Perm.refl _⟩
        · try simp at h6
          refine hw_skip ?_
          refine blockQ_n ?_
          refine seqQ_n ?_
          refine hw_reg1 ?_
          refine dp rfl (pop_move rfl) ?_
          refine dp rfl (pop_add64 rfl rfl (by omega) (by omega)) ?_
          refine dp rfl (pop_assign rfl) ?_
          refine dn ?_
          first
          | exact ⟨j + 1, _, (hD.keep hx (by simp_all)).1, by dsimp only; omega, ⟨rfl, some_int (by rw [(hD.keep hx (by simp_all)).2]; rfl), trivial⟩, (by repeat (first | exact keeps_refl | refine keeps_upd rfl ?_ | refine keeps_loop rfl rfl ?_)), List.Perm.refl _⟩
          | exact ⟨j + 1, _, (hD.skip hx (by simp_all)).1, by dsimp only; omega, ⟨rfl, some_int (by rw [(hD.skip hx (by simp_all)).2]), trivial⟩, (by repeat (first | exact keeps_refl | refine keeps_upd rfl ?_ | refine keeps_loop rfl rfl ?_)), List.Perm.refl _⟩
      · try simp at h4
        obtain rfl : j = l.length := by have := hD.jle; omega
        have hend := hD.done
        refine hw_exit ?_
        refine seqQ_x ?_
        refine loopQ2_x ?_
        refine blockQ_eq ?_
        refine seqQ_n ?_
        refine hw_reg ?_
        refine dp rfl (pop_move rfl) ?_
        refine dp rfl (pop_move rfl) ?_
        refine dp rfl (pop_slraw (l := ((l.take l.length).filter (fun x => !p x)).length) ty37 ty50 rfl ⟨_, _, rfl, rfl⟩ rfl (by omega) (by omega) hcap) ?_
        refine de0 (eop_clear_at (i := 0) (m := ((l.take l.length).filter (fun x => !p x)).length) (((l.take l.length).filter (fun x => !p x)).length) ty37 ty50 rfl rfl rfl (slOff_or (by omega) hcap) rfl (by omega) (Nat.le_refl _) (by rw [List.length_map, hD.len]; omega) ?_)
        refine dn ?_
        refine hw_reg ?_
        refine dp rfl (pop_move rfl) ?_
        refine dp rfl (pop_move rfl) ?_
        refine dp rfl (pop_slraw0 (h := ((l.take l.length).filter (fun x => !p x)).length) ty37 ty50 rfl ⟨_, _, rfl, rfl⟩ (by omega)) ?_
        refine dp rfl (pop_assign rfl) ?_
        refine dn ?_
        refine hw_ret ?_
        first
        | (refine ret_q rfl ⟨_, rfl, ?_⟩
           rw [idxF_none p l 0 (by omega) h1]
           done)
        | (refine ret_q rfl ⟨_, rfl, ?_⟩
           rw [List.take_length, ← List.map_take, hend]; rfl)
end Go.Proofs.YtnlfcjoofdjpiaaGreatDoor
end
section
namespace Go.Proofs.YtnlfcjoofdjpiaaGreatDoor
open Go.HL
set_option maxRecDepth 100000
set_option linter.unusedVariables false
set_option linter.unusedSimpArgs false
/-- benchwarmer/value.assetFault -/
theorem c_value_assetFault {x : Asset}  : ConP Tryz.prog 30 [eAsset x] (.int .i64 (assetFault x)) := by
  refine Con.of_body Tryz.func30 rfl Tryz.ntmps30 rfl rfl ?_
  refine hw_reg ?_
  refine dp rfl (pop_box rfl rfl) ?_
  refine dp rfl (pop_assign rfl) ?_
  refine dn ?_
  refine hw_seq ?_
  refine hw_block ?_
  refine hw_reg ?_
  refine dp rfl (pop_fieldAddr ty57 rfl ty9 (by decide) rfl) ?_
  refine dp rfl (pop_load ty9 rfl rfl rfl) ?_
  refine dp rfl (pop_call ca31 rfl (WeakL.refl _) c_base_Key) ?_
  refine dp rfl (pop_not rfl) ?_
  refine dp rfl (pop_move rfl) ?_
  refine dg rfl rfl (fun hc => ⟨_, OpenTo.refl _, pop_fieldAddr ty57 rfl ty9 (by decide) rfl⟩) ?_
  refine dg rfl rfl (fun hc => ⟨_, OpenTo.upd (t := 9) rfl (by first | exact hc | simp_all) (OpenTo.refl _), pop_load ty9 rfl rfl rfl⟩) ?_
  refine dg rfl rfl (fun hc => ⟨_, OpenTo.upd (t := 10) rfl (by first | exact hc | simp_all) (OpenTo.refl _), pop_call ca31 rfl (WeakL.refl _) c_base_Key⟩) ?_
  refine dg rfl rfl (fun hc => ⟨_, OpenTo.upd (t := 11) rfl (by first | exact hc | simp_all) (OpenTo.refl _), pop_not rfl⟩) ?_
  refine dp rfl (pop_picko rfl (.inl rfl) (.inr ⟨_, rfl, fun h => by simp_all⟩)) ?_
  refine dp rfl (pop_assign rfl) ?_
  refine dn ?_
  refine hw_cond rfl (fun h1 => ?_) (fun h2 => ?_)
  · try simp at h1
    refine hw_reg ?_
    refine dp rfl (pop_assign rfl) ?_
    refine dn ?_
    refine hw_ret ?_
    refine ret_p rfl ?_
    show HVal.int .i64 _ = _
    simp_all [assetFault]
  · try simp at h2
    refine hw_reg ?_
    refine dp rfl (pop_fieldAddr ty57 rfl ty3 (by decide) rfl) ?_
    refine dp rfl (pop_load ty3 rfl rfl rfl) ?_
    refine dp rfl (pop_call ca32 rfl (WeakL.refl _) c_base_Out) ?_
    refine dp rfl (pop_assign rfl) ?_
    refine dn ?_
    refine hw_cond rfl (fun h3 => ?_) (fun h4 => ?_)
    · try simp at h3
      refine hw_reg ?_
      refine dp rfl (pop_assign rfl) ?_
      refine dn ?_
      refine hw_ret ?_
      refine ret_p rfl ?_
      show HVal.int .i64 _ = _
      simp_all [assetFault]
    · try simp at h4
      refine hw_skip ?_
      refine blockQ_n ?_
      refine seqQ_n ?_
      refine hw_reg ?_
      refine dp rfl (pop_assign rfl) ?_
      refine dn ?_
      refine hw_ret ?_
      refine ret_p rfl ?_
      show HVal.int .i64 _ = _
      simp_all [assetFault]

/-- benchwarmer/value.CheckAssets -/
theorem c_value_CheckAssets {l : List Asset} (hl : l.length ≤ 1000000) : ConP Tryz.prog 9 [eAssets l] (.int .i64 (checkAssets l)) := by
  refine Con.of_body Tryz.func9 rfl Tryz.ntmps9 rfl rfl ?_
  refine hw_reg ?_
  refine dp rfl (pop_assign rfl) ?_
  refine dn ?_
  refine hw_seq ?_
  refine hw_reg ?_
  refine dp rfl (pop_move rfl) ?_
  refine dp rfl (pop_lenm ty26 rfl) ?_
  refine dp rfl (pop_gtr rfl rfl) ?_
  refine dn ?_
  refine hw_cond rfl (fun h1 => ?_) (fun h2 => ?_)
  · try simp at h1
    refine hw_reg ?_
    refine dp rfl (pop_assign rfl) ?_
    refine dn ?_
    refine hw_ret ?_
    refine ret_p rfl ?_
    show HVal.int .i64 _ = _
    first | (rw [checkAssets, if_pos (by omega)]; done) | (rw [hg]; simp_all [assetsGo, leS]; done) | (rw [hg]; rfl)
  · try simp at h2
    refine hw_skip ?_
    refine seqQ_n ?_
    refine hw_seq ?_
    refine hw_reg ?_
    refine dp rfl (pop_move rfl) ?_
    refine dp rfl (pop_lenm ty26 rfl) ?_
    refine dp rfl (pop_move rfl) ?_
    refine dn ?_
    refine hw_block ?_
    refine hw_loopw [2, 3, 4, 5, 11, 12, 13, 14, 15, 16, 17, 18, 19, 20, 21, 22, 23, 24, 25, 26, 27, 28, 29, 30, 31, 32, 33, 34] (fun (k : Nat) => [(11, .int .i64 k)]) (fun (k : Nat) => []) (fun (k : Nat) => k ≤ l.length ∧ (checkAssets l = assetsGo l k (l.drop k))) (fun (k : Nat) => l.length - k) (0) ?_ ?_ ?_ ?_
    · refine ⟨Nat.zero_le _, ?_⟩
      rw [checkAssets, if_neg (by omega)]; rfl
    · exact ⟨rfl, trivial⟩
    · exact List.Perm.refl _
    · intro k hinv
      obtain ⟨hk, hg⟩ := hinv
      refine hw_reg ?_
      refine dp rfl (pop_lss rfl rfl) ?_
      refine dn ?_
      refine hw_seq ?_
      refine hw_cond rfl (fun h3 => ?_) (fun h4 => ?_)
      · try simp at h3
        obtain ⟨x, hx⟩ : ∃ x, l[k]? = some x := ⟨_, List.getElem?_eq_getElem h3⟩
        have hdx := drop_cons hx
        rw [hdx] at hg
        refine hw_skip ?_
        refine seqQ_n ?_
        refine hw_seq ?_
        refine hw_block ?_
        refine hw_reg ?_
        refine dp rfl (pop_move rfl) ?_
        refine dp rfl (pop_idx ty26 ty57 rfl rfl rfl (by first | assumption | simp_all)) ?_
        refine dp rfl (pop_loadw ty57 rfl rfl rfl rfl) ?_
        refine de rfl (eop_alloc ty57 rfl fun b4 => ?_)
        refine dp rfl (pop_assign rfl) ?_
        refine de0 (eop_storew ty57 rfl rfl rfl rfl rfl ?_)
        refine dn ?_
        refine hw_ghost (Ghost.fc0 4 rfl) ?_
        refine hw_seq ?_
        refine hw_reg ?_
        refine dp rfl (pop_loadw ty57 rfl rfl rfl rfl) ?_
        refine dp rfl (pop_call ca30 rfl (WeakL.refl _) c_value_assetFault) ?_
        refine dp rfl (pop_assign rfl) ?_
        refine dn ?_
        refine hw_reg ?_
        refine dp rfl (pop_move rfl) ?_
        refine dp rfl (pop_neq rfl rfl) ?_
        refine dn ?_
        refine hw_cond rfl (fun h5 => ?_) (fun h6 => ?_)
        · try simp at h5
          refine hw_reg ?_
          refine dp rfl (pop_move rfl) ?_
          refine dp rfl (pop_assign rfl) ?_
          refine dn ?_
          refine hw_ret ?_
          refine ret_p rfl ?_
          show HVal.int .i64 _ = _
          first | (rw [checkAssets, if_pos (by omega)]; done) | (rw [hg]; simp_all [assetsGo, leS]; done) | (rw [hg]; rfl)
        · try simp at h6
          refine hw_skip ?_
          refine seqQ_n ?_
          refine hw_draw (fun _ => True) [] mixed ?_
          refine ahp 0 rfl rfl (by kernel_rfl) (by kernel_rfl) (pop_move rfl) ?_
          refine ahp 1 rfl rfl (by kernel_rfl) (by kernel_rfl) (pop_gtr rfl rfl) ?_
          refine ahp 2 rfl rfl (by kernel_rfl) (by kernel_rfl) (pop_move rfl) ?_
          refine ahg 3 rfl rfl (by kernel_rfl) (by kernel_rfl) rfl (fun hc => ⟨_, OpenTo.refl _, pop_fieldAddr ty57 rfl ty9 (by decide) rfl⟩) ?_
          refine ahg 4 rfl rfl (by kernel_rfl) (by kernel_rfl) rfl (fun hc => ⟨_, OpenTo.upd (t := 24) rfl (by first | exact hc | simp_all) (OpenTo.refl _), pop_load ty9 rfl rfl rfl⟩) ?_
          refine ahg 5 rfl rfl (by kernel_rfl) (by kernel_rfl) rfl (fun hc => ⟨_, OpenTo.refl _, pop_move rfl⟩) ?_
          refine ahg 6 rfl rfl (by kernel_rfl) (by kernel_rfl) rfl (fun hc => ⟨_, OpenTo.refl _, pop_move rfl⟩) ?_
          refine ahg 7 rfl rfl (by kernel_rfl) (by kernel_rfl) rfl (fun hc => by have hq := hc; (try simp at hq); exact ⟨_, OpenTo.upd (t := 27) rfl (by first | exact hc | simp_all) (OpenTo.refl _), pop_sub64 rfl rfl (by omega) (by omega)⟩) ?_
          refine ahg 8 rfl rfl (by kernel_rfl) (by kernel_rfl) rfl (fun hc => by have hq := hc; (try simp at hq); exact ⟨_, OpenTo.upd (t := 28) rfl (by first | exact hc | simp_all) (OpenTo.upd (t := 26) rfl (by first | exact hc | simp_all) (OpenTo.refl _)), pop_idx (j := k - 1) (a := l.getD (k - 1) asset0) ty26 ty57 rfl rfl (by omega) (getD_some (by omega))⟩) ?_
          refine ahg 9 rfl rfl (by kernel_rfl) (by kernel_rfl) rfl (fun hc => ⟨_, OpenTo.upd (t := 29) rfl (by first | exact hc | simp_all) (OpenTo.refl _), pop_fieldAddr ty57 rfl ty9 (by decide) rfl⟩) ?_
          refine ahg 10 rfl rfl (by kernel_rfl) (by kernel_rfl) rfl (fun hc => ⟨_, OpenTo.upd (t := 30) rfl (by first | exact hc | simp_all) (OpenTo.refl _), pop_load ty9 rfl rfl rfl⟩) ?_
          refine ahg 11 rfl rfl (by kernel_rfl) (by kernel_rfl) rfl (fun hc => ⟨_, OpenTo.upd (t := 31) rfl (by first | exact hc | simp_all) (OpenTo.upd (t := 25) rfl (by first | exact hc | simp_all) (OpenTo.refl _)), pop_leqs rfl rfl⟩) ?_
          refine ahp 12 rfl rfl (by kernel_rfl) (by kernel_rfl) (pop_picko rfl (.inr ⟨_, rfl, fun h => by simp_all⟩) (.inl rfl)) ?_
          refine ahz (by kernel_rfl) ?_
          refine hw_cond rfl (fun h7 => ?_) (fun h8 => ?_)
          · try simp at h7
            refine hw_reg ?_
            refine dp rfl (pop_assign rfl) ?_
            refine dn ?_
            refine hw_ret ?_
            refine ret_p rfl ?_
            show HVal.int .i64 _ = _
            first | (rw [checkAssets, if_pos (by omega)]; done) | (rw [hg]; simp_all [assetsGo, leS]; done) | (rw [hg]; rfl)
          · try simp at h8
            refine hw_skip ?_
            refine blockQ_n ?_
            refine seqQ_n ?_
            refine hw_reg1 ?_
            refine dp rfl (pop_add64 rfl rfl (by omega) (by omega)) ?_
            refine dp rfl (pop_move rfl) ?_
            refine dn ?_
            refine ⟨k + 1, ?_, ?_, ⟨rfl, trivial⟩, (by repeat (first | exact keeps_refl | refine keeps_upd rfl ?_ | refine keeps_loop rfl rfl ?_)), List.Perm.refl _⟩
            · refine ⟨by omega, ?_⟩
              rw [hg]; simp_all [assetsGo, leS]
            · dsimp only; omega
      · try simp at h4
        have hnk : l.length ≤ k := by omega
        obtain rfl : k = l.length := by omega
        rw [drop_all (Nat.le_refl _)] at hg
        refine hw_exit ?_
        refine seqQ_x ?_
        refine loopQ_x ?_
        refine blockQ_eq ?_
        refine seqQ_n ?_
        refine hw_reg ?_
        refine dp rfl (pop_assign rfl) ?_
        refine dn ?_
        refine hw_ret ?_
        refine ret_p rfl ?_
        show HVal.int .i64 _ = _
        first | (rw [checkAssets, if_pos (by omega)]; done) | (rw [hg]; simp_all [assetsGo, leS]; done) | (rw [hg]; rfl)

/-- benchwarmer/value.CheckPlaces -/
theorem c_value_CheckPlaces {l : List HL.Place} (hl : l.length ≤ 1000000) : ConP Tryz.prog 10 [ePlaces l] (.int .i64 (checkPlaces l)) := by
  refine Con.of_body Tryz.func10 rfl Tryz.ntmps10 rfl rfl ?_
  refine hw_reg ?_
  refine dp rfl (pop_assign rfl) ?_
  refine dn ?_
  refine hw_seq ?_
  refine hw_reg ?_
  refine dp rfl (pop_move rfl) ?_
  refine dp rfl (pop_lenm ty28 rfl) ?_
  refine dp rfl (pop_gtr rfl rfl) ?_
  refine dn ?_
  refine hw_cond rfl (fun h1 => ?_) (fun h2 => ?_)
  · try simp at h1
    refine hw_reg ?_
    refine dp rfl (pop_assign rfl) ?_
    refine dn ?_
    refine hw_ret ?_
    refine ret_p rfl ?_
    show HVal.int .i64 _ = _
    first | (rw [checkPlaces, if_pos (by omega)]; done) | (rw [hg]; simp_all [placesGo, leS]; done) | (rw [hg]; rfl)
  · try simp at h2
    refine hw_skip ?_
    refine seqQ_n ?_
    refine hw_seq ?_
    refine hw_reg ?_
    refine dp rfl (pop_move rfl) ?_
    refine dp rfl (pop_lenm ty28 rfl) ?_
    refine dp rfl (pop_move rfl) ?_
    refine dn ?_
    refine hw_block ?_
    refine hw_loopw [2, 3, 4, 10, 11, 12, 13, 14, 15, 16, 17, 18, 19, 20, 21, 22, 23, 24, 25, 26, 27, 28, 29, 30, 31, 32, 33, 34, 35, 36, 37, 38] (fun (k : Nat) => [(10, .int .i64 k)]) (fun (k : Nat) => []) (fun (k : Nat) => k ≤ l.length ∧ (checkPlaces l = placesGo l k (l.drop k))) (fun (k : Nat) => l.length - k) (0) ?_ ?_ ?_ ?_
    · refine ⟨Nat.zero_le _, ?_⟩
      rw [checkPlaces, if_neg (by omega)]; rfl
    · exact ⟨rfl, trivial⟩
    · exact List.Perm.refl _
    · intro k hinv
      obtain ⟨hk, hg⟩ := hinv
      refine hw_reg ?_
      refine dp rfl (pop_lss rfl rfl) ?_
      refine dn ?_
      refine hw_seq ?_
      refine hw_cond rfl (fun h3 => ?_) (fun h4 => ?_)
      · try simp at h3
        obtain ⟨x, hx⟩ : ∃ x, l[k]? = some x := ⟨_, List.getElem?_eq_getElem h3⟩
        have hdx := drop_cons hx
        rw [hdx] at hg
        refine hw_skip ?_
        refine seqQ_n ?_
        refine hw_seq ?_
        refine hw_block ?_
        refine hw_reg ?_
        refine dp rfl (pop_move rfl) ?_
        refine dp rfl (pop_idx ty28 ty63 rfl rfl rfl (by first | assumption | simp_all)) ?_
        refine dp rfl (pop_loadw ty63 rfl rfl rfl rfl) ?_
        refine de rfl (eop_alloc ty63 rfl fun b4 => ?_)
        refine dp rfl (pop_assign rfl) ?_
        refine de0 (eop_storew ty63 rfl rfl rfl rfl rfl ?_)
        refine dn ?_
        refine hw_ghost (Ghost.fc0 4 rfl) ?_
        refine hw_block ?_
        refine hw_reg ?_
        refine dp rfl (pop_fieldAddr ty63 rfl ty9 (by decide) rfl) ?_
        refine dp rfl (pop_load ty9 rfl rfl rfl) ?_
        refine dp rfl (pop_call ca31 rfl (WeakL.refl _) c_base_Key) ?_
        refine dp rfl (pop_not rfl) ?_
        refine dp rfl (pop_assign rfl) ?_
        refine dn ?_
        refine hw_cond rfl (fun h5 => ?_) (fun h6 => ?_)
        · try simp at h5
          refine hw_reg ?_
          refine dp rfl (pop_assign rfl) ?_
          refine dn ?_
          refine hw_ret ?_
          refine ret_p rfl ?_
          show HVal.int .i64 _ = _
          first | (rw [checkPlaces, if_pos (by omega)]; done) | (rw [hg]; simp_all [placesGo, leS]; done) | (rw [hg]; rfl)
        · try simp at h6
          refine hw_reg ?_
          refine dp rfl (pop_fieldAddr ty63 rfl ty3 (by decide) rfl) ?_
          refine dp rfl (pop_load ty3 rfl rfl rfl) ?_
          refine dp rfl (pop_call ca32 rfl (WeakL.refl _) c_base_Out) ?_
          refine dp rfl (pop_assign rfl) ?_
          refine dn ?_
          refine hw_cond rfl (fun h7 => ?_) (fun h8 => ?_)
          · try simp at h7
            refine hw_reg ?_
            refine dp rfl (pop_assign rfl) ?_
            refine dn ?_
            refine hw_ret ?_
            refine ret_p rfl ?_
            show HVal.int .i64 _ = _
            first | (rw [checkPlaces, if_pos (by omega)]; done) | (rw [hg]; simp_all [placesGo, leS]; done) | (rw [hg]; rfl)
          · try simp at h8
            refine hw_draw (fun _ => True) [] mixed ?_
            refine ahp 0 rfl rfl (by kernel_rfl) (by kernel_rfl) (pop_move rfl) ?_
            refine ahp 1 rfl rfl (by kernel_rfl) (by kernel_rfl) (pop_gtr rfl rfl) ?_
            refine ahp 2 rfl rfl (by kernel_rfl) (by kernel_rfl) (pop_move rfl) ?_
            refine ahg 3 rfl rfl (by kernel_rfl) (by kernel_rfl) rfl (fun hc => ⟨_, OpenTo.refl _, pop_fieldAddr ty63 rfl ty9 (by decide) rfl⟩) ?_
            refine ahg 4 rfl rfl (by kernel_rfl) (by kernel_rfl) rfl (fun hc => ⟨_, OpenTo.upd (t := 28) rfl (by first | exact hc | simp_all) (OpenTo.refl _), pop_load ty9 rfl rfl rfl⟩) ?_
            refine ahg 5 rfl rfl (by kernel_rfl) (by kernel_rfl) rfl (fun hc => ⟨_, OpenTo.refl _, pop_move rfl⟩) ?_
            refine ahg 6 rfl rfl (by kernel_rfl) (by kernel_rfl) rfl (fun hc => ⟨_, OpenTo.refl _, pop_move rfl⟩) ?_
            refine ahg 7 rfl rfl (by kernel_rfl) (by kernel_rfl) rfl (fun hc => by have hq := hc; (try simp at hq); exact ⟨_, OpenTo.upd (t := 31) rfl (by first | exact hc | simp_all) (OpenTo.refl _), pop_sub64 rfl rfl (by omega) (by omega)⟩) ?_
            refine ahg 8 rfl rfl (by kernel_rfl) (by kernel_rfl) rfl (fun hc => by have hq := hc; (try simp at hq); exact ⟨_, OpenTo.upd (t := 32) rfl (by first | exact hc | simp_all) (OpenTo.upd (t := 30) rfl (by first | exact hc | simp_all) (OpenTo.refl _)), pop_idx (j := k - 1) (a := l.getD (k - 1) place0) ty28 ty63 rfl rfl (by omega) (getD_some (by omega))⟩) ?_
            refine ahg 9 rfl rfl (by kernel_rfl) (by kernel_rfl) rfl (fun hc => ⟨_, OpenTo.upd (t := 33) rfl (by first | exact hc | simp_all) (OpenTo.refl _), pop_fieldAddr ty63 rfl ty9 (by decide) rfl⟩) ?_
            refine ahg 10 rfl rfl (by kernel_rfl) (by kernel_rfl) rfl (fun hc => ⟨_, OpenTo.upd (t := 34) rfl (by first | exact hc | simp_all) (OpenTo.refl _), pop_load ty9 rfl rfl rfl⟩) ?_
            refine ahg 11 rfl rfl (by kernel_rfl) (by kernel_rfl) rfl (fun hc => ⟨_, OpenTo.upd (t := 35) rfl (by first | exact hc | simp_all) (OpenTo.upd (t := 29) rfl (by first | exact hc | simp_all) (OpenTo.refl _)), pop_leqs rfl rfl⟩) ?_
            refine ahp 12 rfl rfl (by kernel_rfl) (by kernel_rfl) (pop_picko rfl (.inr ⟨_, rfl, fun h => by simp_all⟩) (.inl rfl)) ?_
            refine ahp 13 rfl rfl (by kernel_rfl) (by kernel_rfl) (pop_assign rfl) ?_
            refine ahz (by kernel_rfl) ?_
            refine hw_cond rfl (fun h9 => ?_) (fun h10 => ?_)
            · try simp at h9
              refine hw_reg ?_
              refine dp rfl (pop_assign rfl) ?_
              refine dn ?_
              refine hw_ret ?_
              refine ret_p rfl ?_
              show HVal.int .i64 _ = _
              first | (rw [checkPlaces, if_pos (by omega)]; done) | (rw [hg]; simp_all [placesGo, leS]; done) | (rw [hg]; rfl)
            · try simp at h10
              refine hw_skip ?_
              refine blockQ_n ?_
              refine blockQ_n ?_
              refine seqQ_n ?_
              refine hw_reg1 ?_
              refine dp rfl (pop_add64 rfl rfl (by omega) (by omega)) ?_
              refine dp rfl (pop_move rfl) ?_
              refine dn ?_
              refine ⟨k + 1, ?_, ?_, ⟨rfl, trivial⟩, (by repeat (first | exact keeps_refl | refine keeps_upd rfl ?_ | refine keeps_loop rfl rfl ?_)), List.Perm.refl _⟩
              · refine ⟨by omega, ?_⟩
                rw [hg]; simp_all [placesGo, leS]
              · dsimp only; omega
      · try simp at h4
        have hnk : l.length ≤ k := by omega
        obtain rfl : k = l.length := by omega
        rw [drop_all (Nat.le_refl _)] at hg
        refine hw_exit ?_
        refine seqQ_x ?_
        refine loopQ_x ?_
        refine blockQ_eq ?_
        refine seqQ_n ?_
        refine hw_reg ?_
        refine dp rfl (pop_assign rfl) ?_
        refine dn ?_
        refine hw_ret ?_
        refine ret_p rfl ?_
        show HVal.int .i64 _ = _
        first | (rw [checkPlaces, if_pos (by omega)]; done) | (rw [hg]; simp_all [placesGo, leS]; done) | (rw [hg]; rfl)

/-- benchwarmer/value.byValue -/
theorem c_value_byValue {x y : Asset}  : ConP Tryz.prog 74 [eAsset x, eAsset y] (.int .i64 (byValue x y)) := by
  refine Con.of_body Tryz.func74 rfl Tryz.ntmps74 rfl rfl ?_
  refine hw_reg ?_
  refine dp rfl (pop_box rfl rfl) ?_
  refine dp rfl (pop_box rfl rfl) ?_
  refine dp rfl (pop_assign rfl) ?_
  refine dn ?_
  refine hw_draw (fun _ => True) [] mixed ?_
  refine ahp 0 rfl rfl (by kernel_rfl) (by kernel_rfl) (pop_fieldAddr ty57 rfl ty3 (by decide) rfl) ?_
  refine ahp 1 rfl rfl (by kernel_rfl) (by kernel_rfl) (pop_load ty3 rfl rfl rfl) ?_
  refine ahp 2 rfl rfl (by kernel_rfl) (by kernel_rfl) (pop_fieldAddr ty57 rfl ty3 (by decide) rfl) ?_
  refine ahp 3 rfl rfl (by kernel_rfl) (by kernel_rfl) (pop_load ty3 rfl rfl rfl) ?_
  refine ahp 4 rfl rfl (by kernel_rfl) (by kernel_rfl) (pop_call ca41 rfl (WeakL.refl _) c_cmp_Compare_int) ?_
  refine ahp 5 rfl rfl (by kernel_rfl) (by kernel_rfl) (pop_fieldAddr ty57 rfl ty9 (by decide) rfl) ?_
  refine ahp 6 rfl rfl (by kernel_rfl) (by kernel_rfl) (pop_load ty9 rfl rfl rfl) ?_
  refine ahp 7 rfl rfl (by kernel_rfl) (by kernel_rfl) (pop_fieldAddr ty57 rfl ty9 (by decide) rfl) ?_
  refine ahp 8 rfl rfl (by kernel_rfl) (by kernel_rfl) (pop_load ty9 rfl rfl rfl) ?_
  refine ahp 9 rfl rfl (by kernel_rfl) (by kernel_rfl) (pop_call ca56 rfl (WeakL.refl _) c_strings_Compare) ?_
  refine ahp 10 rfl rfl (by kernel_rfl) (by kernel_rfl) (pop_buildSlice (hs := [_, _]) ty22 ty3 rfl rfl (by decide) (by decide) rfl) ?_
  refine ahp 11 rfl rfl (by kernel_rfl) (by kernel_rfl) (pop_call ca55 rfl (WeakL.refl _) (c_cmp_Or_int (l := [_, _]) (by simp))) ?_
  refine ahp 12 rfl rfl (by kernel_rfl) (by kernel_rfl) (pop_assign rfl) ?_
  refine ahz (by kernel_rfl) ?_
  refine hw_ret ?_
  refine ret_p rfl ?_
  rfl

/-- benchwarmer/value.of -/
theorem c_value_of {l : List Asset} {pos : Str} (hl : l.length ≤ 12) : ConP Tryz.prog 52 [eAssets l, .str pos] (eAssets (ofP l pos)) := by
  refine Con.of_body Tryz.func52 rfl Tryz.ntmps52 rfl rfl ?_
  refine hw_reg ?_
  refine dp rfl (pop_assign rfl) ?_
  refine dn ?_
  refine hw_reg ?_
  refine dp rfl (pop_assign rfl) ?_
  refine dn ?_
  refine hw_ghost (Ghost.arr_nil 3) ?_
  refine hw_seq ?_
  refine hw_reg ?_
  refine dp rfl (pop_move rfl) ?_
  refine dp rfl (pop_lenm ty26 rfl) ?_
  refine dp rfl (pop_move rfl) ?_
  refine dn ?_
  refine hw_block ?_
  refine hw_loopw2 [5, 7, 10, 11, 12, 13, 14, 15, 16, 17, 18, 19, 20, 21, 22] (fun (k : Nat) (u : Value) => [(10, .int .i64 k), (5, .raw u)]) (fun (k : Nat) (u : Value) => [.arr u 3 ((atPos (l.take k) pos).map eAsset)]) (fun (k : Nat) (u : Value) => k ≤ l.length ∧ (True)) (fun (k : Nat) (u : Value) => l.length - k) (0) (.slice none 0 0) ?_ ?_ ?_ ?_
  · exact ⟨Nat.zero_le _, by simp_all⟩
  · exact ⟨rfl, rfl, trivial⟩
  · exact perm_eq (by simp [atPos])
  · intro k u hinv
    obtain ⟨hk, -⟩ := hinv
    refine hw_reg ?_
    refine dp rfl (pop_lss rfl rfl) ?_
    refine dn ?_
    refine hw_seq ?_
    refine hw_cond rfl (fun h1 => ?_) (fun h2 => ?_)
    · try simp at h1
      obtain ⟨x, hx⟩ : ∃ x, l[k]? = some x := ⟨_, List.getElem?_eq_getElem h1⟩
      have hdx := drop_cons hx
      refine hw_skip ?_
      refine seqQ_n ?_
      refine hw_seq ?_
      refine hw_block ?_
      refine hw_reg ?_
      refine dp rfl (pop_idx ty26 ty57 rfl rfl rfl (by first | assumption | simp_all)) ?_
      refine dp rfl (pop_loadw ty57 rfl rfl rfl rfl) ?_
      refine de rfl (eop_alloc ty57 rfl fun b7 => ?_)
      refine de0 (eop_storew ty57 rfl rfl rfl rfl rfl ?_)
      refine dn ?_
      refine hw_ghost (Ghost.fc0 7 rfl) ?_
      refine hw_reg ?_
      refine dp rfl (pop_fieldAddr ty57 rfl ty9 (by decide) rfl) ?_
      refine dp rfl (pop_load ty9 rfl rfl rfl) ?_
      refine dp rfl (pop_move rfl) ?_
      refine dp rfl (pop_eqls rfl rfl) ?_
      refine dn ?_
      refine hw_cond rfl (fun h3 => ?_) (fun h4 => ?_)
      · try simp at h3
        refine hw_reg1 ?_
        refine dp rfl (pop_move rfl) ?_
        refine dp rfl (pop_loadw ty57 rfl rfl rfl rfl) ?_
        refine dp rfl (pop_buildSlice (hs := [_]) ty26 ty57 rfl rfl (by decide) (by decide) rfl) ?_
        have hal : (atPos (l.take k) pos).length ≤ 12 := Nat.le_trans (atPos_le _ _) (by simp; omega)
        refine de rfl (eop_append (i := 0) ty26 ty57 rfl rfl rfl rfl rfl (by simp [flat, hcells]) (by simp; omega) fun v21 => ?_)
        refine dp rfl (pop_assign rfl) ?_
        refine dn ?_
        refine blockQ_n ?_
        refine seqQ_n ?_
        refine hw_reg1 ?_
        refine dp rfl (pop_add64 rfl rfl (by omega) (by omega)) ?_
        refine dp rfl (pop_move rfl) ?_
        refine dn ?_
        exact ⟨k + 1, _, ⟨by omega, trivial⟩, by dsimp only; omega, ⟨rfl, rfl, trivial⟩, (by repeat (first | exact keeps_refl | refine keeps_upd rfl ?_ | refine keeps_loop rfl rfl ?_)), perm_eq (by dsimp only; rw [atPos_snoc hx, if_pos (by simp_all)]; simp)⟩
      · try simp at h4
        refine hw_skip ?_
        refine blockQ_n ?_
        refine seqQ_n ?_
        refine hw_reg1 ?_
        refine dp rfl (pop_add64 rfl rfl (by omega) (by omega)) ?_
        refine dp rfl (pop_move rfl) ?_
        refine dn ?_
        exact ⟨k + 1, _, ⟨by omega, trivial⟩, by dsimp only; omega, ⟨rfl, rfl, trivial⟩, (by repeat (first | exact keeps_refl | refine keeps_upd rfl ?_ | refine keeps_loop rfl rfl ?_)), perm_eq (by dsimp only; rw [atPos_snoc hx, if_neg (by simp_all)]; simp)⟩
    · try simp at h2
      have hnk : l.length ≤ k := by omega
      obtain rfl : k = l.length := by omega
      rw [List.take_length]
      refine hw_exit ?_
      refine seqQ_x ?_
      refine loopQ2_x ?_
      refine blockQ_eq ?_
      refine seqQ_n ?_
      have hal := atPos_le l pos
      refine hw_reg ?_
      refine dp rfl (pop_move rfl) ?_
      refine de rfl (eop_callx (i := 0) ca73 rfl (WeakL.refl _) rfl (c_slices_SortFunc_api_Asset_api_Asset (l := atPos l pos) (c := byValue) (caps := []) ca74 (fun x y => c_value_byValue) (by omega)) ?_)
      rintro _ _ ⟨rfl, rfl⟩
      refine dn ?_
      refine hw_reg ?_
      refine dp rfl (pop_move rfl) ?_
      refine dp rfl (pop_assign rfl) ?_
      refine dn ?_
      refine hw_ret ?_
      exact ret_fa (M := []) 4 rfl rfl rfl

set_option maxHeartbeats 1000000 in
/-- benchwarmer/value.fielded -/
theorem c_value_fielded {l : List Asset} {p : List HL.Place} (hl : l.length ≤ 12) (hp : p.length ≤ 10) (hm : ∀ x ∈ p, 0 ≤ x.Many) (hv : ∀ x ∈ l, -1000000 ≤ x.Value ∧ x.Value ≤ 1000000) : ConP Tryz.prog 61 [eAssets l, ePlaces p] (.tup [.int .i64 (sumV (fieldedL (ofP l) p)), eSs (namesV (fieldedL (ofP l) p))]) := by
  have hon : ∀ s, (ofP l s).length ≤ 12 := fun s => Nat.le_trans (ofP_len l s) hl
  refine Con.of_body Tryz.func61 rfl Tryz.ntmps61 rfl rfl ?_
  refine hw_reg ?_
  refine dp rfl (pop_assign rfl) ?_
  refine dp rfl (pop_assign rfl) ?_
  refine dn ?_
  refine hw_reg ?_
  refine dp rfl (pop_assign rfl) ?_
  refine dn ?_
  refine hw_reg ?_
  refine dp rfl (pop_assign rfl) ?_
  refine dn ?_
  refine hw_ghost (Ghost.arr_nil 1) ?_
  refine hw_seq ?_
  refine hw_reg ?_
  refine dp rfl (pop_move rfl) ?_
  refine dp rfl (pop_lenm ty28 rfl) ?_
  refine dp rfl (pop_move rfl) ?_
  refine dn ?_
  refine hw_block ?_
  refine hw_loopw2 [6, 7, 9, 10, 12, 15, 16, 17, 18, 19, 20, 21, 22, 23, 24, 25, 26, 27, 28, 29, 30, 31, 32, 33, 34, 35, 36, 37, 38, 39, 40, 41, 42, 43, 44, 45, 46, 47, 48] (fun (i : Nat) (u : Value) => [(15, .int .i64 i), (6, .int .i64 (sumV (fieldedL (ofP l) (p.take i)))), (7, .raw u)]) (fun (i : Nat) (u : Value) => [.arr u 1 (((fieldedL (ofP l) (p.take i)).map (·.Player)).map .str)]) (fun (i : Nat) (u : Value) => i ≤ p.length ∧ (True)) (fun (i : Nat) (u : Value) => p.length - i) (0) (.slice none 0 0) ?_ ?_ ?_ ?_
  · exact ⟨Nat.zero_le _, by simp_all⟩
  · exact ⟨rfl, some_int (by simp [fieldedL, sumV]), rfl, trivial⟩
  · exact perm_eq (by simp [fieldedL])
  · intro i u hinv
    obtain ⟨hi, -⟩ := hinv
    refine hw_reg ?_
    refine dp rfl (pop_lss rfl rfl) ?_
    refine dn ?_
    refine hw_seq ?_
    refine hw_cond rfl (fun h1 => ?_) (fun h2 => ?_)
    · try simp at h1
      obtain ⟨x, hx⟩ : ∃ x, p[i]? = some x := ⟨_, List.getElem?_eq_getElem h1⟩
      have hdx := drop_cons hx
      refine hw_skip ?_
      refine seqQ_n ?_
      refine hw_seq ?_
      refine hw_block ?_
      refine hw_reg ?_
      refine dp rfl (pop_idx ty28 ty63 rfl rfl rfl (by first | assumption | simp_all)) ?_
      refine dp rfl (pop_loadw ty63 rfl rfl rfl rfl) ?_
      refine de rfl (eop_alloc ty63 rfl fun b9 => ?_)
      refine de0 (eop_storew ty63 rfl rfl rfl rfl rfl ?_)
      refine dn ?_
      refine hw_ghost (Ghost.fc0 9 rfl) ?_
      refine hw_reg ?_
      refine dp rfl (pop_move rfl) ?_
      refine dp rfl (pop_fieldAddr ty63 rfl ty9 (by decide) rfl) ?_
      refine dp rfl (pop_load ty9 rfl rfl rfl) ?_
      refine dp rfl (pop_call ca52 rfl (WeakL.refl _) (c_value_of (by first | assumption | omega | (simp; omega) | simp_all))) ?_
      refine dp rfl (pop_assign rfl) ?_
      refine dn ?_
      have hx0 := hm x (List.mem_of_getElem? hx)
      have hon1 := hon x.Position
      obtain ⟨N, hN⟩ : ∃ N : Nat, (if ((ofP l x.Position).length : Int) < x.Many then ((ofP l x.Position).length : Int) else x.Many) = (N : Int) := ⟨_, (Int.toNat_of_nonneg (by split <;> omega)).symm⟩
      have hNle : N ≤ (ofP l x.Position).length := by split at hN <;> omega
      refine hw_reg ?_
      refine dp rfl (pop_move rfl) ?_
      refine dp rfl (pop_fieldAddr ty63 rfl ty3 (by decide) rfl) ?_
      refine dp rfl (pop_load ty3 rfl rfl rfl) ?_
      refine dp rfl (pop_move rfl) ?_
      refine dp rfl (pop_lenm ty26 rfl) ?_
      refine dp rfl (pop_eq (pop_min rfl rfl) (congrArg _ hN)) ?_
      refine dp rfl (pop_slicem (h := N) ty26 ty57 rfl rfl ⟨_, _, rfl, rfl⟩ (by omega) hNle) ?_
      refine dp rfl (pop_lenm ty26 rfl) ?_
      refine dp rfl (pop_move rfl) ?_
      refine dn ?_
      have hCl : ((List.drop 0 (List.take N (ofP l x.Position)))).length ≤ 12 := by simp; omega
      have hCm : ∀ y ∈ (List.drop 0 (List.take N (ofP l x.Position))), y ∈ l := fun y hy => by
        have := List.mem_of_mem_take (List.mem_of_mem_drop hy)
        unfold ofP atPos at this
        exact (List.mem_filter.1 ((isort_mem _).1 this)).1
      generalize hCd : List.drop 0 (List.take N (ofP l x.Position)) = C at *
      refine hw_block ?_
      refine hw_loopw2 [6, 7, 12, 31, 32, 33, 34, 35, 36, 37, 38, 39, 40, 41, 42, 43, 44, 45, 46, 47] (fun (k : Nat) (w : Value) => [(31, .int .i64 k), (6, .int .i64 (sumV ((fieldedL (ofP l) (p.take i)) ++ ((C.take k).filter (fun y => decide (0 < y.Value)))))), (7, .raw w)]) (fun (k : Nat) (w : Value) => [.arr w 1 ((((fieldedL (ofP l) (p.take i)) ++ ((C.take k).filter (fun y => decide (0 < y.Value)))).map (·.Player)).map .str)]) (fun (k : Nat) (w : Value) => k ≤ C.length ∧ (True)) (fun (k : Nat) (w : Value) => C.length - k) (0) (u) ?_ ?_ ?_ ?_
      · exact ⟨Nat.zero_le _, by simp_all⟩
      · exact ⟨rfl, some_int (by simp), rfl, trivial⟩
      · exact perm_eq (by simp)
      · intro k w hinv
        obtain ⟨hk, -⟩ := hinv
        refine hw_reg ?_
        refine dp rfl (pop_lss rfl rfl) ?_
        refine dn ?_
        refine hw_seq ?_
        refine hw_cond rfl (fun h3 => ?_) (fun h4 => ?_)
        · try simp at h3
          obtain ⟨y, hy⟩ : ∃ y, C[k]? = some y := ⟨_, List.getElem?_eq_getElem h3⟩
          have hdy := drop_cons hy
          refine hw_skip ?_
          refine seqQ_n ?_
          refine hw_seq ?_
          refine hw_block ?_
          refine hw_reg ?_
          refine dp rfl (pop_idx ty26 ty57 rfl rfl rfl (by first | assumption | simp_all)) ?_
          refine dp rfl (pop_loadw ty57 rfl rfl rfl rfl) ?_
          refine de rfl (eop_alloc ty57 rfl fun b12 => ?_)
          refine de0 (eop_storew ty57 rfl rfl rfl rfl rfl ?_)
          refine dn ?_
          refine hw_ghost (Ghost.fc0 12 rfl) ?_
          refine hw_reg ?_
          refine dp rfl (pop_fieldAddr ty57 rfl ty3 (by decide) rfl) ?_
          refine dp rfl (pop_load ty3 rfl rfl rfl) ?_
          refine dp rfl (pop_gtr rfl rfl) ?_
          refine dn ?_
          refine hw_cond rfl (fun h5 => ?_) (fun h6 => ?_)
          · try simp at h5
            refine hw_reg ?_
            refine dp rfl (pop_move rfl) ?_
            refine dp rfl (pop_fieldAddr ty57 rfl ty3 (by decide) rfl) ?_
            refine dp rfl (pop_load ty3 rfl rfl rfl) ?_
            have hb1 := field_bd (f := ofP l) (p := p) (i := i) (fun s m y => mem_chosen) hon hp hv
            have hb2 := pos_bd (k := k) hCm hCl hv
            have hb3 := hv y (hCm y (List.mem_of_getElem? hy))
            have hb4 := sumV_app (fieldedL (ofP l) (p.take i)) ((C.take k).filter (fun y => decide (0 < y.Value)))
            refine dp rfl (pop_add64 rfl rfl (by omega) (by omega)) ?_
            refine dp rfl (pop_assign rfl) ?_
            refine dn ?_
            refine hw_reg1 ?_
            refine dp rfl (pop_move rfl) ?_
            refine dp rfl (pop_fieldAddr ty57 rfl ty9 (by decide) rfl) ?_
            refine dp rfl (pop_load ty9 rfl rfl rfl) ?_
            refine dp rfl (pop_buildSlice (hs := [_]) ty61 ty9 rfl rfl (by decide) (by decide) rfl) ?_
            refine de rfl (eop_append (i := 0) ty61 ty9 rfl rfl rfl rfl rfl (by simp [flat, hcells]) (by simp only [List.length_map, List.length_append, List.length_cons, List.length_nil]; omega) fun v46 => ?_)
            refine dp rfl (pop_assign rfl) ?_
            refine dn ?_
            refine blockQ_n ?_
            refine seqQ_n ?_
            refine hw_reg1 ?_
            refine dp rfl (pop_add64 rfl rfl (by omega) (by omega)) ?_
            refine dp rfl (pop_move rfl) ?_
            refine dn ?_
            exact ⟨k + 1, _, ⟨by omega, trivial⟩, by dsimp only; omega, ⟨rfl, some_int (by rw [pos_snoc hy, if_pos (by simp_all), ← List.append_assoc, sumV_app _ [y]]; simp [sumV]), rfl, trivial⟩, (by repeat (first | exact keeps_refl | refine keeps_upd rfl ?_ | refine keeps_loop rfl rfl ?_)), perm_eq (by dsimp only; rw [pos_snoc hy, if_pos (by simp_all)]; simp)⟩
          · try simp at h6
            refine hw_skip ?_
            refine blockQ_n ?_
            refine seqQ_n ?_
            refine hw_reg1 ?_
            refine dp rfl (pop_add64 rfl rfl (by omega) (by omega)) ?_
            refine dp rfl (pop_move rfl) ?_
            refine dn ?_
            exact ⟨k + 1, _, ⟨by omega, trivial⟩, by dsimp only; omega, ⟨rfl, some_int (by rw [pos_snoc hy, if_neg (by omega)]; simp), rfl, trivial⟩, (by repeat (first | exact keeps_refl | refine keeps_upd rfl ?_ | refine keeps_loop rfl rfl ?_)), perm_eq (by dsimp only; rw [pos_snoc hy, if_neg (by omega)]; simp)⟩
        · try simp at h4
          have hnk : C.length ≤ k := by omega
          obtain rfl : k = C.length := by omega
          refine hw_exit ?_
          refine seqQ_x ?_
          refine loopQ2_x ?_
          refine blockQ_eq ?_
          refine blockQ_n ?_
          refine seqQ_n ?_
          refine hw_reg1 ?_
          refine dp rfl (pop_add64 rfl rfl (by omega) (by omega)) ?_
          refine dp rfl (pop_move rfl) ?_
          refine dn ?_
          exact ⟨i + 1, _, ⟨by omega, trivial⟩, by dsimp only; omega, ⟨rfl, some_int (by rw [fieldedL_snoc _ hx, chosen_eq hN, hCd, List.take_length]), rfl, trivial⟩, (by repeat (first | exact keeps_refl | refine keeps_upd rfl ?_ | refine keeps_loop rfl rfl ?_)), perm_eq (by dsimp only; rw [fieldedL_snoc _ hx, chosen_eq hN, hCd, List.take_length])⟩
    · try simp at h2
      have hni : p.length ≤ i := by omega
      obtain rfl : i = p.length := by omega
      refine hw_exit ?_
      refine seqQ_x ?_
      refine loopQ2_x ?_
      refine blockQ_eq ?_
      refine seqQ_n ?_
      rw [List.take_length]
      refine hw_reg ?_
      refine dp rfl (pop_move rfl) ?_
      refine de rfl (eop_callx (i := 0) ca80 rfl (WeakL.refl _) rfl (c_slices_Sort (l := (fieldedL (ofP l) p).map (·.Player)) (by have hb1 := field_bd (f := ofP l) (p := p) (i := p.length) (fun s m y => mem_chosen) hon hp hv; rw [List.take_length] at hb1; simp; omega)) ?_)
      rintro _ _ ⟨rfl, rfl⟩
      refine dn ?_
      refine hw_reg ?_
      refine dp rfl (pop_move rfl) ?_
      refine dp rfl (pop_move rfl) ?_
      refine dp rfl (pop_assign rfl) ?_
      refine dp rfl (pop_assign rfl) ?_
      refine dn ?_
      refine hw_ret ?_
      exact ret_fa (M := []) 5 rfl rfl rfl
end Go.Proofs.YtnlfcjoofdjpiaaGreatDoor
end
section
namespace Go.Proofs.YtnlfcjoofdjpiaaGreatDoor
open Go.HL
set_option maxRecDepth 100000
set_option linter.unusedVariables false
set_option linter.unusedSimpArgs false
/-- benchwarmer/value.Fielded -/
theorem c_value_Fielded {l : List Asset} {p : List HL.Place} (hl : l.length ≤ 11) (hp : p.length ≤ 1000000) : ConP Tryz.prog 42 [eAssets l, ePlaces p] (.tup [.int .i64 (if okAP l p != 0 then 0 else sumF l p), eSs (if okAP l p != 0 then [] else namesV (fieldedL (ofP l) p)), .int .i64 (okAP l p)]) := by
  refine Con.of_body Tryz.func42 rfl Tryz.ntmps42 rfl rfl ?_
  refine hw_reg ?_
  refine dp rfl (pop_assign rfl) ?_
  refine dp rfl (pop_assign rfl) ?_
  refine dp rfl (pop_assign rfl) ?_
  refine dn ?_
  refine hw_seq ?_
  refine hw_reg ?_
  refine dp rfl (pop_move rfl) ?_
  refine dp rfl (pop_call ca9 rfl (WeakL.refl _) (c_value_CheckAssets (by first | assumption | omega | (simp; omega) | simp_all))) ?_
  refine dp rfl (pop_move rfl) ?_
  refine dp rfl (pop_call ca10 rfl (WeakL.refl _) (c_value_CheckPlaces (by first | assumption | omega | (simp; omega) | simp_all))) ?_
  refine dp rfl (pop_buildSlice (hs := [_, _]) ty71 ty31 rfl rfl (by decide) (by decide) rfl) ?_
  refine dp rfl (pop_call ca51 rfl (WeakL.refl _) (c_base_First (l := [_, _]) (by simp))) ?_
  refine dp rfl (pop_assign rfl) ?_
  refine dn ?_
  refine hw_reg ?_
  refine dp rfl (pop_move rfl) ?_
  refine dp rfl (pop_neq rfl rfl) ?_
  refine dn ?_
  refine hw_cond rfl (fun h1 => ?_) (fun h2 => ?_)
  · try simp at h1
    refine hw_reg ?_
    refine dp rfl (pop_move rfl) ?_
    refine dp rfl (pop_assign rfl) ?_
    refine dp rfl (pop_assign rfl) ?_
    refine dp rfl (pop_assign rfl) ?_
    refine dn ?_
    refine hw_ret ?_
    first
    | (refine ret_w rfl (weak_tup3 ?_ ?_ (Weak.refl _))
       · rw [if_pos (by simpa [okAP] using h1)]; exact Weak.refl _
       · rw [if_pos (by simpa [okAP] using h1)]; exact weak_nil 1)
    | (refine ret_p rfl ?_
       have h0 : okAP l p = 0 := by simpa [okAP] using h2
       simp [h0, sumF, ofVal, ofVal1])
  · try simp at h2
    refine hw_skip ?_
    refine seqQ_n ?_
    obtain ⟨hca0, hcp0⟩ := okAP_ok (l := l) (p := p) (by simpa [okAP] using h2)
    obtain ⟨hsr, haf⟩ := checkAssets_ok hca0
    obtain ⟨hmm, hp10⟩ := checkPlaces_ok hcp0
    have hvv : ∀ x ∈ l, -1000000 ≤ x.Value ∧ x.Value ≤ 1000000 := fun x hx => (assetFault_ok (haf x hx)).2.2
    refine hw_reg ?_
    refine dp rfl (pop_move rfl) ?_
    refine dp rfl (pop_move rfl) ?_
    refine dp rfl (pop_call ca61 rfl (WeakL.refl _) (c_value_fielded (by first | assumption | omega | (simp; omega) | simp_all) (by first | assumption | omega | (simp; omega) | simp_all) (by first | assumption | omega | (simp; omega) | simp_all) (by first | assumption | omega | (simp; omega) | simp_all))) ?_
    refine dp rfl (pop_move rfl) ?_
    refine dp rfl (pop_extract rfl rfl) ?_
    refine dp rfl (pop_extract rfl rfl) ?_
    refine dp rfl (pop_assign rfl) ?_
    refine dp rfl (pop_assign rfl) ?_
    refine dn ?_
    refine hw_reg ?_
    refine dp rfl (pop_move rfl) ?_
    refine dp rfl (pop_move rfl) ?_
    refine dp rfl (pop_assign rfl) ?_
    refine dp rfl (pop_assign rfl) ?_
    refine dp rfl (pop_assign rfl) ?_
    refine dn ?_
    refine hw_ret ?_
    first
    | (refine ret_w rfl (weak_tup3 ?_ ?_ (Weak.refl _))
       · rw [if_pos (by simpa [okAP] using h1)]; exact Weak.refl _
       · rw [if_pos (by simpa [okAP] using h1)]; exact weak_nil 1)
    | (refine ret_p rfl ?_
       have h0 : okAP l p = 0 := by simpa [okAP] using h2
       simp [h0, sumF, ofVal, ofVal1])

/-- benchwarmer/benchref1.AssetsFault -/
theorem c_benchref1_AssetsFault {l : List Asset} (hl : l.length ≤ 1000000) (hs : ∀ x ∈ l, Sh x.Player ∧ Sh x.Position) : ConP Tryz.prog 7 [eAssets l] (.int .i64 (checkAssets l)) := by
  refine Con.of_body Tryz.func7 rfl Tryz.ntmps7 rfl rfl ?_
  refine hw_reg ?_
  refine dp rfl (pop_assign rfl) ?_
  refine dn ?_
  refine hw_seq ?_
  refine hw_reg ?_
  refine dp rfl (pop_move rfl) ?_
  refine dp rfl (pop_lenm ty26 rfl) ?_
  refine dp rfl (pop_gtr rfl rfl) ?_
  refine dn ?_
  refine hw_cond rfl (fun h1 => ?_) (fun h2 => ?_)
  · try simp at h1
    refine hw_reg ?_
    refine dp rfl (pop_assign rfl) ?_
    refine dn ?_
    refine hw_ret ?_
    refine ret_p rfl ?_
    show HVal.int .i64 _ = _
    first | (rw [checkAssets, if_pos (by omega)]; done) | (rw [hg]; simp_all [assetsGo, leS, assetFault]; done) | (rw [hg]; rfl)
  · try simp at h2
    refine hw_skip ?_
    refine seqQ_n ?_
    refine hw_seq ?_
    refine hw_reg ?_
    refine dp rfl (pop_move rfl) ?_
    refine dp rfl (pop_lenm ty26 rfl) ?_
    refine dp rfl (pop_move rfl) ?_
    refine dn ?_
    refine hw_block ?_
    refine hw_loopw [2, 3, 4, 10, 11, 12, 13, 14, 15, 16, 17, 18, 19, 20, 21, 22, 23, 24, 25, 26, 27, 28, 29, 30, 31, 32, 33, 34, 35, 36, 37, 38, 39, 40, 41, 42, 43, 44, 45] (fun (k : Nat) => [(10, .int .i64 k)]) (fun (k : Nat) => []) (fun (k : Nat) => k ≤ l.length ∧ (checkAssets l = assetsGo l k (l.drop k))) (fun (k : Nat) => l.length - k) (0) ?_ ?_ ?_ ?_
    · refine ⟨Nat.zero_le _, ?_⟩
      rw [checkAssets, if_neg (by omega)]; rfl
    · exact ⟨rfl, trivial⟩
    · exact List.Perm.refl _
    · intro k hinv
      obtain ⟨hk, hg⟩ := hinv
      refine hw_reg ?_
      refine dp rfl (pop_lss rfl rfl) ?_
      refine dn ?_
      refine hw_seq ?_
      refine hw_cond rfl (fun h3 => ?_) (fun h4 => ?_)
      · try simp at h3
        obtain ⟨x, hx⟩ : ∃ x, l[k]? = some x := ⟨_, List.getElem?_eq_getElem h3⟩
        have hdx := drop_cons hx
        rw [hdx] at hg
        refine hw_skip ?_
        refine seqQ_n ?_
        refine hw_seq ?_
        refine hw_block ?_
        refine hw_reg ?_
        refine dp rfl (pop_move rfl) ?_
        refine dp rfl (pop_idx ty26 ty57 rfl rfl rfl (by first | assumption | simp_all)) ?_
        refine dp rfl (pop_loadw ty57 rfl rfl rfl rfl) ?_
        refine de rfl (eop_alloc ty57 rfl fun b4 => ?_)
        refine dp rfl (pop_assign rfl) ?_
        refine de0 (eop_storew ty57 rfl rfl rfl rfl rfl ?_)
        refine dn ?_
        refine hw_ghost (Ghost.fc0 4 rfl) ?_
        refine hw_block ?_
        refine hw_reg ?_
        refine dp rfl (pop_fieldAddr ty57 rfl ty9 (by decide) rfl) ?_
        refine dp rfl (pop_load ty9 rfl rfl rfl) ?_
        refine dp rfl (pop_call ca28 rfl (WeakL.refl _) (c_benchref1_Key (by first | exact (hs x (List.mem_of_getElem? hx)).1 | exact (hs x (List.mem_of_getElem? hx)).2))) ?_
        refine dp rfl (pop_not rfl) ?_
        refine dp rfl (pop_move rfl) ?_
        refine dg rfl rfl (fun hc => ⟨_, OpenTo.refl _, pop_fieldAddr ty57 rfl ty9 (by decide) rfl⟩) ?_
        refine dg rfl rfl (fun hc => ⟨_, OpenTo.upd (t := 21) rfl (by first | exact hc | simp_all) (OpenTo.refl _), pop_load ty9 rfl rfl rfl⟩) ?_
        refine dg rfl rfl (fun hc => ⟨_, OpenTo.upd (t := 22) rfl (by first | exact hc | simp_all) (OpenTo.refl _), pop_call ca28 rfl (WeakL.refl _) (c_benchref1_Key (by first | exact (hs x (List.mem_of_getElem? hx)).1 | exact (hs x (List.mem_of_getElem? hx)).2))⟩) ?_
        refine dg rfl rfl (fun hc => ⟨_, OpenTo.upd (t := 23) rfl (by first | exact hc | simp_all) (OpenTo.refl _), pop_not rfl⟩) ?_
        refine dp rfl (pop_picko rfl (.inl rfl) (.inr ⟨_, rfl, fun h => by simp_all⟩)) ?_
        refine dp rfl (pop_assign rfl) ?_
        refine dn ?_
        refine hw_cond rfl (fun h5 => ?_) (fun h6 => ?_)
        · try simp at h5
          refine hw_reg ?_
          refine dp rfl (pop_assign rfl) ?_
          refine dn ?_
          refine hw_ret ?_
          refine ret_p rfl ?_
          show HVal.int .i64 _ = _
          first | (rw [checkAssets, if_pos (by omega)]; done) | (rw [hg]; simp_all [assetsGo, leS, assetFault]; done) | (rw [hg]; rfl)
        · try simp at h6
          refine hw_reg ?_
          refine dp rfl (pop_fieldAddr ty57 rfl ty3 (by decide) rfl) ?_
          refine dp rfl (pop_load ty3 rfl rfl rfl) ?_
          refine dp rfl (pop_call ca29 rfl (WeakL.refl _) c_benchref1_in) ?_
          refine dp rfl (pop_not rfl) ?_
          refine dp rfl (pop_assign rfl) ?_
          refine dn ?_
          refine hw_cond rfl (fun h7 => ?_) (fun h8 => ?_)
          · try simp at h7
            refine hw_reg ?_
            refine dp rfl (pop_assign rfl) ?_
            refine dn ?_
            refine hw_ret ?_
            refine ret_p rfl ?_
            show HVal.int .i64 _ = _
            first | (rw [checkAssets, if_pos (by omega)]; done) | (rw [hg]; simp_all [assetsGo, leS, assetFault]; done) | (rw [hg]; rfl)
          · try simp at h8
            refine hw_draw (fun _ => True) [] mixed ?_
            refine ahp 0 rfl rfl (by kernel_rfl) (by kernel_rfl) (pop_move rfl) ?_
            refine ahp 1 rfl rfl (by kernel_rfl) (by kernel_rfl) (pop_gtr rfl rfl) ?_
            refine ahp 2 rfl rfl (by kernel_rfl) (by kernel_rfl) (pop_move rfl) ?_
            refine ahg 3 rfl rfl (by kernel_rfl) (by kernel_rfl) rfl (fun hc => ⟨_, OpenTo.refl _, pop_fieldAddr ty57 rfl ty9 (by decide) rfl⟩) ?_
            refine ahg 4 rfl rfl (by kernel_rfl) (by kernel_rfl) rfl (fun hc => ⟨_, OpenTo.upd (t := 35) rfl (by first | exact hc | simp_all) (OpenTo.refl _), pop_load ty9 rfl rfl rfl⟩) ?_
            refine ahg 5 rfl rfl (by kernel_rfl) (by kernel_rfl) rfl (fun hc => ⟨_, OpenTo.refl _, pop_move rfl⟩) ?_
            refine ahg 6 rfl rfl (by kernel_rfl) (by kernel_rfl) rfl (fun hc => ⟨_, OpenTo.refl _, pop_move rfl⟩) ?_
            refine ahg 7 rfl rfl (by kernel_rfl) (by kernel_rfl) rfl (fun hc => by have hq := hc; (try simp at hq); exact ⟨_, OpenTo.upd (t := 38) rfl (by first | exact hc | simp_all) (OpenTo.refl _), pop_sub64 rfl rfl (by omega) (by omega)⟩) ?_
            refine ahg 8 rfl rfl (by kernel_rfl) (by kernel_rfl) rfl (fun hc => by have hq := hc; (try simp at hq); exact ⟨_, OpenTo.upd (t := 39) rfl (by first | exact hc | simp_all) (OpenTo.upd (t := 37) rfl (by first | exact hc | simp_all) (OpenTo.refl _)), pop_idx (j := k - 1) (a := l.getD (k - 1) asset0) ty26 ty57 rfl rfl (by omega) (getD_some (by omega))⟩) ?_
            refine ahg 9 rfl rfl (by kernel_rfl) (by kernel_rfl) rfl (fun hc => ⟨_, OpenTo.upd (t := 40) rfl (by first | exact hc | simp_all) (OpenTo.refl _), pop_fieldAddr ty57 rfl ty9 (by decide) rfl⟩) ?_
            refine ahg 10 rfl rfl (by kernel_rfl) (by kernel_rfl) rfl (fun hc => ⟨_, OpenTo.upd (t := 41) rfl (by first | exact hc | simp_all) (OpenTo.refl _), pop_load ty9 rfl rfl rfl⟩) ?_
            refine ahg 11 rfl rfl (by kernel_rfl) (by kernel_rfl) rfl (fun hc => ⟨_, OpenTo.upd (t := 42) rfl (by first | exact hc | simp_all) (OpenTo.upd (t := 36) rfl (by first | exact hc | simp_all) (OpenTo.refl _)), pop_leqs rfl rfl⟩) ?_
            refine ahp 12 rfl rfl (by kernel_rfl) (by kernel_rfl) (pop_picko rfl (.inr ⟨_, rfl, fun h => by simp_all⟩) (.inl rfl)) ?_
            refine ahp 13 rfl rfl (by kernel_rfl) (by kernel_rfl) (pop_assign rfl) ?_
            refine ahz (by kernel_rfl) ?_
            refine hw_cond rfl (fun h9 => ?_) (fun h10 => ?_)
            · try simp at h9
              refine hw_reg ?_
              refine dp rfl (pop_assign rfl) ?_
              refine dn ?_
              refine hw_ret ?_
              refine ret_p rfl ?_
              show HVal.int .i64 _ = _
              first | (rw [checkAssets, if_pos (by omega)]; done) | (rw [hg]; simp_all [assetsGo, leS, assetFault]; done) | (rw [hg]; rfl)
            · try simp at h10
              refine hw_skip ?_
              refine blockQ_n ?_
              refine blockQ_n ?_
              refine seqQ_n ?_
              refine hw_reg1 ?_
              refine dp rfl (pop_add64 rfl rfl (by omega) (by omega)) ?_
              refine dp rfl (pop_move rfl) ?_
              refine dn ?_
              refine ⟨k + 1, ?_, ?_, ⟨rfl, trivial⟩, (by repeat (first | exact keeps_refl | refine keeps_upd rfl ?_ | refine keeps_loop rfl rfl ?_)), List.Perm.refl _⟩
              · refine ⟨by omega, ?_⟩
                rw [hg]; simp_all [assetsGo, leS, assetFault]
              · dsimp only; omega
      · try simp at h4
        have hnk : l.length ≤ k := by omega
        obtain rfl : k = l.length := by omega
        rw [drop_all (Nat.le_refl _)] at hg
        refine hw_exit ?_
        refine seqQ_x ?_
        refine loopQ_x ?_
        refine blockQ_eq ?_
        refine seqQ_n ?_
        refine hw_reg ?_
        refine dp rfl (pop_assign rfl) ?_
        refine dn ?_
        refine hw_ret ?_
        refine ret_p rfl ?_
        show HVal.int .i64 _ = _
        first | (rw [checkAssets, if_pos (by omega)]; done) | (rw [hg]; simp_all [assetsGo, leS, assetFault]; done) | (rw [hg]; rfl)

/-- benchwarmer/benchref1.PlacesFault -/
theorem c_benchref1_PlacesFault {l : List HL.Place} (hl : l.length ≤ 1000000) (hs : ∀ x ∈ l, Sh x.Position) : ConP Tryz.prog 8 [ePlaces l] (.int .i64 (checkPlaces l)) := by
  refine Con.of_body Tryz.func8 rfl Tryz.ntmps8 rfl rfl ?_
  refine hw_reg ?_
  refine dp rfl (pop_assign rfl) ?_
  refine dn ?_
  refine hw_seq ?_
  refine hw_reg ?_
  refine dp rfl (pop_move rfl) ?_
  refine dp rfl (pop_lenm ty28 rfl) ?_
  refine dp rfl (pop_gtr rfl rfl) ?_
  refine dn ?_
  refine hw_cond rfl (fun h1 => ?_) (fun h2 => ?_)
  · try simp at h1
    refine hw_reg ?_
    refine dp rfl (pop_assign rfl) ?_
    refine dn ?_
    refine hw_ret ?_
    refine ret_p rfl ?_
    show HVal.int .i64 _ = _
    first | (rw [checkPlaces, if_pos (by omega)]; done) | (rw [hg]; simp_all [placesGo, leS]; done) | (rw [hg]; rfl)
  · try simp at h2
    refine hw_skip ?_
    refine seqQ_n ?_
    refine hw_seq ?_
    refine hw_reg ?_
    refine dp rfl (pop_move rfl) ?_
    refine dp rfl (pop_lenm ty28 rfl) ?_
    refine dp rfl (pop_move rfl) ?_
    refine dn ?_
    refine hw_block ?_
    refine hw_loopw [2, 3, 4, 10, 11, 12, 13, 14, 15, 16, 17, 18, 19, 20, 21, 22, 23, 24, 25, 26, 27, 28, 29, 30, 31, 32, 33, 34, 35, 36, 37, 38, 39] (fun (k : Nat) => [(10, .int .i64 k)]) (fun (k : Nat) => []) (fun (k : Nat) => k ≤ l.length ∧ (checkPlaces l = placesGo l k (l.drop k))) (fun (k : Nat) => l.length - k) (0) ?_ ?_ ?_ ?_
    · refine ⟨Nat.zero_le _, ?_⟩
      rw [checkPlaces, if_neg (by omega)]; rfl
    · exact ⟨rfl, trivial⟩
    · exact List.Perm.refl _
    · intro k hinv
      obtain ⟨hk, hg⟩ := hinv
      refine hw_reg ?_
      refine dp rfl (pop_lss rfl rfl) ?_
      refine dn ?_
      refine hw_seq ?_
      refine hw_cond rfl (fun h3 => ?_) (fun h4 => ?_)
      · try simp at h3
        obtain ⟨x, hx⟩ : ∃ x, l[k]? = some x := ⟨_, List.getElem?_eq_getElem h3⟩
        have hdx := drop_cons hx
        rw [hdx] at hg
        refine hw_skip ?_
        refine seqQ_n ?_
        refine hw_seq ?_
        refine hw_block ?_
        refine hw_reg ?_
        refine dp rfl (pop_move rfl) ?_
        refine dp rfl (pop_idx ty28 ty63 rfl rfl rfl (by first | assumption | simp_all)) ?_
        refine dp rfl (pop_loadw ty63 rfl rfl rfl rfl) ?_
        refine de rfl (eop_alloc ty63 rfl fun b4 => ?_)
        refine dp rfl (pop_assign rfl) ?_
        refine de0 (eop_storew ty63 rfl rfl rfl rfl rfl ?_)
        refine dn ?_
        refine hw_ghost (Ghost.fc0 4 rfl) ?_
        refine hw_block ?_
        refine hw_reg ?_
        refine dp rfl (pop_fieldAddr ty63 rfl ty9 (by decide) rfl) ?_
        refine dp rfl (pop_load ty9 rfl rfl rfl) ?_
        refine dp rfl (pop_call ca28 rfl (WeakL.refl _) (c_benchref1_Key (hs x (List.mem_of_getElem? hx)))) ?_
        refine dp rfl (pop_not rfl) ?_
        refine dp rfl (pop_assign rfl) ?_
        refine dn ?_
        refine hw_cond rfl (fun h5 => ?_) (fun h6 => ?_)
        · try simp at h5
          refine hw_reg ?_
          refine dp rfl (pop_assign rfl) ?_
          refine dn ?_
          refine hw_ret ?_
          refine ret_p rfl ?_
          show HVal.int .i64 _ = _
          first | (rw [checkPlaces, if_pos (by omega)]; done) | (rw [hg]; simp_all [placesGo, leS]; done) | (rw [hg]; rfl)
        · try simp at h6
          refine hw_reg ?_
          refine dp rfl (pop_fieldAddr ty63 rfl ty3 (by decide) rfl) ?_
          refine dp rfl (pop_load ty3 rfl rfl rfl) ?_
          refine dp rfl (pop_call ca29 rfl (WeakL.refl _) c_benchref1_in) ?_
          refine dp rfl (pop_not rfl) ?_
          refine dp rfl (pop_assign rfl) ?_
          refine dn ?_
          refine hw_cond rfl (fun h7 => ?_) (fun h8 => ?_)
          · try simp at h7
            refine hw_reg ?_
            refine dp rfl (pop_assign rfl) ?_
            refine dn ?_
            refine hw_ret ?_
            refine ret_p rfl ?_
            show HVal.int .i64 _ = _
            first | (rw [checkPlaces, if_pos (by omega)]; done) | (rw [hg]; simp_all [placesGo, leS]; done) | (rw [hg]; rfl)
          · try simp at h8
            refine hw_draw (fun _ => True) [] mixed ?_
            refine ahp 0 rfl rfl (by kernel_rfl) (by kernel_rfl) (pop_move rfl) ?_
            refine ahp 1 rfl rfl (by kernel_rfl) (by kernel_rfl) (pop_gtr rfl rfl) ?_
            refine ahp 2 rfl rfl (by kernel_rfl) (by kernel_rfl) (pop_move rfl) ?_
            refine ahg 3 rfl rfl (by kernel_rfl) (by kernel_rfl) rfl (fun hc => ⟨_, OpenTo.refl _, pop_fieldAddr ty63 rfl ty9 (by decide) rfl⟩) ?_
            refine ahg 4 rfl rfl (by kernel_rfl) (by kernel_rfl) rfl (fun hc => ⟨_, OpenTo.upd (t := 29) rfl (by first | exact hc | simp_all) (OpenTo.refl _), pop_load ty9 rfl rfl rfl⟩) ?_
            refine ahg 5 rfl rfl (by kernel_rfl) (by kernel_rfl) rfl (fun hc => ⟨_, OpenTo.refl _, pop_move rfl⟩) ?_
            refine ahg 6 rfl rfl (by kernel_rfl) (by kernel_rfl) rfl (fun hc => ⟨_, OpenTo.refl _, pop_move rfl⟩) ?_
            refine ahg 7 rfl rfl (by kernel_rfl) (by kernel_rfl) rfl (fun hc => by have hq := hc; (try simp at hq); exact ⟨_, OpenTo.upd (t := 32) rfl (by first | exact hc | simp_all) (OpenTo.refl _), pop_sub64 rfl rfl (by omega) (by omega)⟩) ?_
            refine ahg 8 rfl rfl (by kernel_rfl) (by kernel_rfl) rfl (fun hc => by have hq := hc; (try simp at hq); exact ⟨_, OpenTo.upd (t := 33) rfl (by first | exact hc | simp_all) (OpenTo.upd (t := 31) rfl (by first | exact hc | simp_all) (OpenTo.refl _)), pop_idx (j := k - 1) (a := l.getD (k - 1) place0) ty28 ty63 rfl rfl (by omega) (getD_some (by omega))⟩) ?_
            refine ahg 9 rfl rfl (by kernel_rfl) (by kernel_rfl) rfl (fun hc => ⟨_, OpenTo.upd (t := 34) rfl (by first | exact hc | simp_all) (OpenTo.refl _), pop_fieldAddr ty63 rfl ty9 (by decide) rfl⟩) ?_
            refine ahg 10 rfl rfl (by kernel_rfl) (by kernel_rfl) rfl (fun hc => ⟨_, OpenTo.upd (t := 35) rfl (by first | exact hc | simp_all) (OpenTo.refl _), pop_load ty9 rfl rfl rfl⟩) ?_
            refine ahg 11 rfl rfl (by kernel_rfl) (by kernel_rfl) rfl (fun hc => ⟨_, OpenTo.upd (t := 36) rfl (by first | exact hc | simp_all) (OpenTo.upd (t := 30) rfl (by first | exact hc | simp_all) (OpenTo.refl _)), pop_leqs rfl rfl⟩) ?_
            refine ahp 12 rfl rfl (by kernel_rfl) (by kernel_rfl) (pop_picko rfl (.inr ⟨_, rfl, fun h => by simp_all⟩) (.inl rfl)) ?_
            refine ahp 13 rfl rfl (by kernel_rfl) (by kernel_rfl) (pop_assign rfl) ?_
            refine ahz (by kernel_rfl) ?_
            refine hw_cond rfl (fun h9 => ?_) (fun h10 => ?_)
            · try simp at h9
              refine hw_reg ?_
              refine dp rfl (pop_assign rfl) ?_
              refine dn ?_
              refine hw_ret ?_
              refine ret_p rfl ?_
              show HVal.int .i64 _ = _
              first | (rw [checkPlaces, if_pos (by omega)]; done) | (rw [hg]; simp_all [placesGo, leS]; done) | (rw [hg]; rfl)
            · try simp at h10
              refine hw_skip ?_
              refine blockQ_n ?_
              refine blockQ_n ?_
              refine seqQ_n ?_
              refine hw_reg1 ?_
              refine dp rfl (pop_add64 rfl rfl (by omega) (by omega)) ?_
              refine dp rfl (pop_move rfl) ?_
              refine dn ?_
              refine ⟨k + 1, ?_, ?_, ⟨rfl, trivial⟩, (by repeat (first | exact keeps_refl | refine keeps_upd rfl ?_ | refine keeps_loop rfl rfl ?_)), List.Perm.refl _⟩
              · refine ⟨by omega, ?_⟩
                rw [hg]; simp_all [placesGo, leS]
              · dsimp only; omega
      · try simp at h4
        have hnk : l.length ≤ k := by omega
        obtain rfl : k = l.length := by omega
        rw [drop_all (Nat.le_refl _)] at hg
        refine hw_exit ?_
        refine seqQ_x ?_
        refine loopQ_x ?_
        refine blockQ_eq ?_
        refine seqQ_n ?_
        refine hw_reg ?_
        refine dp rfl (pop_assign rfl) ?_
        refine dn ?_
        refine hw_ret ?_
        refine ret_p rfl ?_
        show HVal.int .i64 _ = _
        first | (rw [checkPlaces, if_pos (by omega)]; done) | (rw [hg]; simp_all [placesGo, leS]; done) | (rw [hg]; rfl)

/-- benchwarmer/benchref1.of$1 -/
theorem c_benchref1_of_1 {x : Asset} {pos : Str}  : ConP Tryz.prog 83 [eAsset x, .vptr [.str pos] 0] (.bool (!(x.Position == pos))) := by
  refine Con.of_body Tryz.func83 rfl Tryz.ntmps83 rfl rfl ?_
  refine hw_reg ?_
  refine dp rfl (pop_box rfl rfl) ?_
  refine dp rfl (pop_assign rfl) ?_
  refine dn ?_
  refine hw_reg ?_
  refine dp rfl (pop_fieldAddr ty57 rfl ty9 (by decide) rfl) ?_
  refine dp rfl (pop_load ty9 rfl rfl rfl) ?_
  refine dp rfl (pop_load ty9 rfl rfl rfl) ?_
  refine dp rfl (pop_neqs rfl rfl) ?_
  refine dp rfl (pop_assign rfl) ?_
  refine dn ?_
  refine hw_ret ?_
  refine ret_p rfl ?_
  rfl

/-- benchwarmer/benchref1.of$2 -/
theorem c_benchref1_of_2 {x y : Asset}  : ConP Tryz.prog 85 [eAsset x, eAsset y] (.int .i64 (byVal x y)) := by
  refine Con.of_body Tryz.func85 rfl Tryz.ntmps85 rfl rfl ?_
  refine hw_reg ?_
  refine dp rfl (pop_box rfl rfl) ?_
  refine dp rfl (pop_box rfl rfl) ?_
  refine dp rfl (pop_assign rfl) ?_
  refine dn ?_
  refine hw_reg ?_
  refine dp rfl (pop_fieldAddr ty57 rfl ty3 (by decide) rfl) ?_
  refine dp rfl (pop_load ty3 rfl rfl rfl) ?_
  refine dp rfl (pop_fieldAddr ty57 rfl ty3 (by decide) rfl) ?_
  refine dp rfl (pop_load ty3 rfl rfl rfl) ?_
  refine dp rfl (pop_call ca41 rfl (WeakL.refl _) c_cmp_Compare_int) ?_
  refine dp rfl (pop_assign rfl) ?_
  refine dn ?_
  refine hw_ret ?_
  refine ret_p rfl ?_
  rfl

/-- benchwarmer/benchref1.of -/
theorem c_benchref1_of {l : List Asset} {pos : Str} (hl : l.length ≤ 12) : ConP Tryz.prog 62 [eAssets l, .str pos] (eAssets (ofR l pos)) := by
  refine Con.of_body Tryz.func62 rfl Tryz.ntmps62 rfl rfl ?_
  refine hw_reg ?_
  refine dp rfl (pop_box rfl rfl) ?_
  refine dp rfl (pop_assign rfl) ?_
  refine dn ?_
  refine hw_reg ?_
  refine dp rfl (pop_move rfl) ?_
  refine de rfl (eop_calla ca82 rfl (WeakL.refl _) (c_slices_Clone_api_Asset_api_Asset (by first | assumption | omega | (simp; omega) | simp_all)) fun v6 => ?_)
  refine dp rfl (pop_makeFunc rfl rfl) ?_
  refine de rfl (eop_callx (i := 0) ca81 rfl (WeakL.refl _) rfl (c_slices_DeleteFunc_api_Asset_api_Asset (l := l) (p := fun x => !(x.Position == pos)) ca83 (fun x => c_benchref1_of_1) (by omega)) ?_)
  rintro _ _ ⟨u8, rfl, rfl⟩
  refine dp rfl (pop_assign rfl) ?_
  refine dn ?_
  refine hw_ghost (Ghost.of_eq (M' := [.arr u8 3 ((atPos l pos).map eAsset)]) (by simp [atPos])) ?_
  refine hw_reg ?_
  refine dp rfl (pop_move rfl) ?_
  refine de rfl (eop_callx (i := 0) ca84 rfl (WeakL.refl _) rfl (c_slices_SortStableFunc_api_Asset_api_Asset (l := atPos l pos) (c := byVal) (caps := []) ca85 (fun x y => c_benchref1_of_2) (by have := atPos_le l pos; omega)) ?_)
  rintro _ _ ⟨rfl, rfl⟩
  refine dn ?_
  refine hw_reg ?_
  refine dp rfl (pop_move rfl) ?_
  refine dp rfl (pop_assign rfl) ?_
  refine dn ?_
  refine hw_ret ?_
  exact ret_fa (M := []) 4 rfl rfl rfl
end Go.Proofs.YtnlfcjoofdjpiaaGreatDoor
end
section
namespace Go.Proofs.YtnlfcjoofdjpiaaGreatDoor
open Go.HL
set_option maxRecDepth 100000
set_option linter.unusedVariables false
set_option linter.unusedSimpArgs false
set_option maxHeartbeats 2000000 in
/-- (*benchwarmer/benchmake.Stream).AssetList -/
theorem c_benchmake_Stream_AssetList {b : Nat} {l : List Int} {a : Nat} {fs : Str} (ha : a ≤ 800000) (hfs : fs.length ≤ 100) : Con Tryz.prog 4 [pAt b, .str fs] [St b l a] (fun x M' => ∃ k a', x = eAssets k ∧ GoodAs k ∧ a' ≤ a + 40 ∧ M' = [St b l a']) := by
  refine Con.of_body Tryz.func4 rfl Tryz.ntmps4 rfl rfl ?_
  refine hw_reg ?_
  refine dp rfl (pop_assign rfl) ?_
  refine dn ?_
  refine hw_reg ?_
  refine dp rfl (pop_assign rfl) ?_
  refine dn ?_
  refine hw_seq ?_
  refine hw_reg ?_
  refine dp rfl (pop_move rfl) ?_
  first
  | refine de rfl (eop_callx (i := 0) ca22 rfl (WeakL.refl _) rfl (c_benchmake_Stream_Range (by first | assumption | omega | (simp; omega) | simp_all) (by first | assumption | omega | (simp; omega) | simp_all) (by first | assumption | omega | (simp; omega) | simp_all) (by first | assumption | omega | (simp; omega) | simp_all)) ?_)
  | refine de rfl (eop_callx (i := 1) ca22 rfl (WeakL.refl _) rfl (c_benchmake_Stream_Range (by first | assumption | omega | (simp; omega) | simp_all) (by first | assumption | omega | (simp; omega) | simp_all) (by first | assumption | omega | (simp; omega) | simp_all) (by first | assumption | omega | (simp; omega) | simp_all)) ?_)
  | refine de rfl (eop_callx (i := 2) ca22 rfl (WeakL.refl _) rfl (c_benchmake_Stream_Range (by first | assumption | omega | (simp; omega) | simp_all) (by first | assumption | omega | (simp; omega) | simp_all) (by first | assumption | omega | (simp; omega) | simp_all) (by first | assumption | omega | (simp; omega) | simp_all)) ?_)
  | refine de rfl (eop_callx (i := 3) ca22 rfl (WeakL.refl _) rfl (c_benchmake_Stream_Range (by first | assumption | omega | (simp; omega) | simp_all) (by first | assumption | omega | (simp; omega) | simp_all) (by first | assumption | omega | (simp; omega) | simp_all) (by first | assumption | omega | (simp; omega) | simp_all)) ?_)
  rintro _ _ ⟨y9, rfl, hy9, rfl⟩
  refine dp rfl (pop_move rfl) ?_
  refine dn ?_
  refine hw_ghost (Ghost.perm (M' := [St b l (a + 1)]) (List.Perm.refl _)) ?_
  refine hw_ghost (Ghost.arr_nil 3) ?_
  refine hw_block ?_
  refine hw_loopw2 [5, 6, 10, 11, 12, 13, 14, 15, 16, 17, 18, 19, 20, 21, 22, 23, 24, 25, 26, 27] (fun (k : Nat) (q : GL Asset) => [(10, .int .i64 (k : Int)), (5, .raw q.u)]) (fun (k : Nat) (q : GL Asset) => [St b l q.a, .arr q.u 3 (q.out.map eAsset)]) (fun (k : Nat) (q : GL Asset) => k ≤ 7 ∧ GLok GoodA k (a + 1 + 2 * k) q) (fun (k : Nat) (q : GL Asset) => 7 - k) (0) (⟨.slice none 0 0, [], a + 1⟩) ?_ ?_ ?_ ?_
  · exact ⟨by omega, ⟨by simp, by simp, by dsimp only; omega⟩⟩
  · exact ⟨rfl, rfl, trivial⟩
  · repeat (first | exact List.Perm.nil | refine permTo 0 rfl ?_ | refine permTo 1 rfl ?_ | refine permTo 2 rfl ?_ | refine permTo 3 rfl ?_ | (refine permToE 0 rfl ?hq ?_; (case hq => simp [setL, hcells]; done)) | (refine permToE 1 rfl ?hq ?_; (case hq => simp [setL, hcells]; done)) | (refine permToE 2 rfl ?hq ?_; (case hq => simp [setL, hcells]; done)) | (refine permToE 3 rfl ?hq ?_; (case hq => simp [setL, hcells]; done)) | fail)
  · intro k q hinv
    obtain ⟨hk, hq⟩ := hinv
    obtain ⟨u, out, a2⟩ := q
    obtain ⟨g1, g2, g3⟩ := id hq
    dsimp only at g1 g2 g3
    refine hw_reg ?_
    refine dp rfl (pop_lss rfl rfl) ?_
    refine dn ?_
    refine hw_seq ?_
    refine hw_cond rfl (fun h1 => ?_) (fun h2 => ?_)
    · try simp at h1
      have hk7 : k < 7 := by omega
      refine hw_skip ?_
      refine seqQ_n ?_
      refine hw_seq ?_
      refine hw_block ?_
      refine hw_reg ?_
      refine dp rfl (pop_move rfl) ?_
      refine dp rfl (pop_assign rfl) ?_
      refine dn ?_
      refine hw_reg1 ?_
      refine dp rfl (pop_move rfl) ?_
      refine dp rfl (pop_move rfl) ?_
      refine dp rfl (pop_move rfl) ?_
      refine dp rfl (pop_call ca23 rfl (WeakL.refl _) (c_strconv_Itoa (i := k) (by omega))) ?_
      have hdl := dec_len (i := k) (by omega)
      refine dp rfl (pop_adds rfl rfl (by omega)) ?_
      refine dp rfl (pop_move rfl) ?_
      refine dp rfl (pop_buildSlice (hs := [_, _, _, _]) ty61 ty9 rfl rfl (by decide) (by decide) rfl) ?_
      first
      | refine de rfl (eop_callx (i := 0) ca24 rfl (WeakL.refl _) rfl (c_benchmake_Stream_Some (L := [_, _, _, _]) (by first | assumption | omega | (simp; omega) | simp_all) (by first | assumption | omega | (simp; omega) | simp_all) (by first | assumption | omega | (simp; omega) | simp_all)) ?_)
      | refine de rfl (eop_callx (i := 1) ca24 rfl (WeakL.refl _) rfl (c_benchmake_Stream_Some (L := [_, _, _, _]) (by first | assumption | omega | (simp; omega) | simp_all) (by first | assumption | omega | (simp; omega) | simp_all) (by first | assumption | omega | (simp; omega) | simp_all)) ?_)
      | refine de rfl (eop_callx (i := 2) ca24 rfl (WeakL.refl _) rfl (c_benchmake_Stream_Some (L := [_, _, _, _]) (by first | assumption | omega | (simp; omega) | simp_all) (by first | assumption | omega | (simp; omega) | simp_all) (by first | assumption | omega | (simp; omega) | simp_all)) ?_)
      | refine de rfl (eop_callx (i := 3) ca24 rfl (WeakL.refl _) rfl (c_benchmake_Stream_Some (L := [_, _, _, _]) (by first | assumption | omega | (simp; omega) | simp_all) (by first | assumption | omega | (simp; omega) | simp_all) (by first | assumption | omega | (simp; omega) | simp_all)) ?_)
      rintro _ _ ⟨y20, rfl, hy20, rfl⟩
      refine dp rfl (pop_move rfl) ?_
      refine dp rfl (pop_buildSlice (hs := [_, _, _, _, _, _, _, _]) ty22 ty3 rfl rfl (by decide) (by decide) rfl) ?_
      first
      | refine de rfl (eop_callx (i := 0) ca6 rfl (WeakL.refl _) rfl (c_benchmake_Stream_Pick (L := [_, _, _, _, _, _, _, _]) (by first | assumption | omega | (simp; omega) | simp_all) (by first | assumption | omega | (simp; omega) | simp_all) (by first | assumption | omega | (simp; omega) | simp_all)) ?_)
      | refine de rfl (eop_callx (i := 1) ca6 rfl (WeakL.refl _) rfl (c_benchmake_Stream_Pick (L := [_, _, _, _, _, _, _, _]) (by first | assumption | omega | (simp; omega) | simp_all) (by first | assumption | omega | (simp; omega) | simp_all) (by first | assumption | omega | (simp; omega) | simp_all)) ?_)
      | refine de rfl (eop_callx (i := 2) ca6 rfl (WeakL.refl _) rfl (c_benchmake_Stream_Pick (L := [_, _, _, _, _, _, _, _]) (by first | assumption | omega | (simp; omega) | simp_all) (by first | assumption | omega | (simp; omega) | simp_all) (by first | assumption | omega | (simp; omega) | simp_all)) ?_)
      | refine de rfl (eop_callx (i := 3) ca6 rfl (WeakL.refl _) rfl (c_benchmake_Stream_Pick (L := [_, _, _, _, _, _, _, _]) (by first | assumption | omega | (simp; omega) | simp_all) (by first | assumption | omega | (simp; omega) | simp_all) (by first | assumption | omega | (simp; omega) | simp_all)) ?_)
      rintro _ _ ⟨y23, rfl, hy23, rfl⟩
      refine dp rfl (pop_build (cs := [_, _, _]) ty57 pl57 rfl) ?_
      refine dp rfl (pop_buildSlice (hs := [_]) ty26 ty57 rfl rfl (by decide) (by decide) rfl) ?_
      first
      | refine de rfl (eop_append (i := 0) ty26 ty57 rfl rfl rfl rfl rfl (by simp [flat, hcells]) (by first | omega | (simp; omega)) fun v26 => ?_)
      | refine de rfl (eop_append (i := 1) ty26 ty57 rfl rfl rfl rfl rfl (by simp [flat, hcells]) (by first | omega | (simp; omega)) fun v26 => ?_)
      | refine de rfl (eop_append (i := 2) ty26 ty57 rfl rfl rfl rfl rfl (by simp [flat, hcells]) (by first | omega | (simp; omega)) fun v26 => ?_)
      | refine de rfl (eop_append (i := 3) ty26 ty57 rfl rfl rfl rfl rfl (by simp [flat, hcells]) (by first | omega | (simp; omega)) fun v26 => ?_)
      refine dp rfl (pop_assign rfl) ?_
      refine dn ?_
      refine blockQ_n ?_
      refine seqQ_n ?_
      refine hw_reg1 ?_
      refine dp rfl (pop_add64 rfl rfl (by omega) (by omega)) ?_
      refine dp rfl (pop_move rfl) ?_
      refine dn ?_
      exact ⟨k + 1, ⟨v26, out ++ [⟨fs ++ Lib.decDigits k, y20, y23⟩], a2 + 2⟩, ⟨by omega, hq.add ⟨by unfold Sh; simp; omega, by unfold Sh; simp at hy20; rcases hy20 with rfl | rfl | rfl <;> simp⟩ (by omega)⟩, by dsimp only; omega, ⟨rfl, rfl, trivial⟩, (by repeat (first | exact keeps_refl | refine keeps_upd rfl ?_ | refine keeps_loop rfl rfl ?_)), by repeat (first | exact List.Perm.nil | refine permTo 0 rfl ?_ | refine permTo 1 rfl ?_ | refine permTo 2 rfl ?_ | refine permTo 3 rfl ?_ | (refine permToE 0 rfl ?hq ?_; (case hq => simp [setL, hcells]; done)) | (refine permToE 1 rfl ?hq ?_; (case hq => simp [setL, hcells]; done)) | (refine permToE 2 rfl ?hq ?_; (case hq => simp [setL, hcells]; done)) | (refine permToE 3 rfl ?hq ?_; (case hq => simp [setL, hcells]; done)) | fail)⟩
    · try simp at h2
      refine hw_exit ?_
      refine seqQ_x ?_
      refine loopQ2_x ?_
      refine blockQ_eq ?_
      refine seqQ_n ?_
      refine hw_join [7, 28, 29, 30, 31, 32, 33, 34, 35, 36, 37, 38, 39, 40, 41, 42, 43, 44, 45, 46, 47, 48, 49, 50, 51, 52, 53, 54, 55, 56, 57, 58, 59, 60, 61, 62, 63, 64, 65, 66, 67] (fun (q : List Asset × Nat) => []) (fun (q : List Asset × Nat) => [St b l q.2, .arr u 3 (q.1.map eAsset)]) (fun (q : List Asset × Nat) => q.1.length ≤ 7 ∧ (∀ x ∈ q.1, Sh x.Player ∧ Sh x.Position) ∧ q.2 ≤ a + 40) ?_ ?_
      · skip
        refine hw_reg ?_
        refine dp rfl (pop_move rfl) ?_
        first
        | refine de rfl (eop_lenm (i := 0) ty26 rfl rfl ?_)
        | refine de rfl (eop_lenm (i := 1) ty26 rfl rfl ?_)
        | refine de rfl (eop_lenm (i := 2) ty26 rfl rfl ?_)
        | refine de rfl (eop_lenm (i := 3) ty26 rfl rfl ?_)
        refine dp rfl (pop_gtr rfl rfl) ?_
        refine dp rfl (pop_move rfl) ?_
        refine dg rfl rfl (fun hc => ⟨_, OpenTo.refl _, pop_move rfl⟩) ?_
        refine dgx (fun x M' => ∃ (y : Bool) (a3 : Nat), x = .bool y ∧ a3 ≤ a2 + 1 ∧ M' = [St b l a3, .arr u 3 (out.map eAsset)]) rfl rfl (fun hc => ⟨_, false, a2, rfl, by omega, rfl⟩) (fun hc => ⟨_, OpenTo.upd (t := 32) rfl (by first | exact hc | simp_all) (OpenTo.refl _), eop_callx (i := 0) ca25 rfl (WeakL.refl _) rfl (c_benchmake_Stream_Flip (a := a2) (by omega) (by omega)) (fun h M' hh => by
          obtain ⟨y, h1, h2⟩ := hh
          exact ⟨y, a2 + 1, h1, by omega, by rw [h2]; rfl⟩)⟩) ?_
        rintro _ _ ⟨y, a3, rfl, ha3, rfl⟩
        refine dp rfl (pop_picko rfl (.inr ⟨_, rfl, fun h => by simp_all⟩) (.inl rfl)) ?_
        refine dn ?_
        refine hw_cond rfl (fun h3 => ?_) (fun h4 => ?_)
        · try simp at h3
          have ho0 : 0 < out.length := by simp_all
          refine hw_arrc (i := 1) rfl (fun h0 he => ?_) (fun ob off cap hv hcap => ?_)
          · exfalso; have := congrArg List.length he; simp at this; subst this; simp at ho0
          subst hv
          refine hw_reg ?_
          refine dp rfl (pop_move rfl) ?_
          refine dp rfl (pop_move rfl) ?_
          refine dp rfl (pop_move rfl) ?_
          first
          | refine de rfl (eop_lenm (i := 0) ty26 rfl rfl ?_)
          | refine de rfl (eop_lenm (i := 1) ty26 rfl rfl ?_)
          | refine de rfl (eop_lenm (i := 2) ty26 rfl rfl ?_)
          | refine de rfl (eop_lenm (i := 3) ty26 rfl rfl ?_)
          first
          | refine de rfl (eop_callx (i := 0) ca26 rfl (WeakL.refl _) rfl (c_benchmake_Stream_Next (by first | assumption | omega | (simp; omega) | simp_all) (by first | assumption | omega | (simp; omega) | simp_all)) ?_)
          | refine de rfl (eop_callx (i := 1) ca26 rfl (WeakL.refl _) rfl (c_benchmake_Stream_Next (by first | assumption | omega | (simp; omega) | simp_all) (by first | assumption | omega | (simp; omega) | simp_all)) ?_)
          | refine de rfl (eop_callx (i := 2) ca26 rfl (WeakL.refl _) rfl (c_benchmake_Stream_Next (by first | assumption | omega | (simp; omega) | simp_all) (by first | assumption | omega | (simp; omega) | simp_all)) ?_)
          | refine de rfl (eop_callx (i := 3) ca26 rfl (WeakL.refl _) rfl (c_benchmake_Stream_Next (by first | assumption | omega | (simp; omega) | simp_all) (by first | assumption | omega | (simp; omega) | simp_all)) ?_)
          rintro _ _ ⟨y39, rfl, hy39, rfl⟩
          refine dp rfl (pop_idxraw (j := y39) ty26 ty57 rfl rfl rfl (by simp; omega)) ?_
          refine dp rfl (pop_assign rfl) ?_
          refine dn ?_
          obtain ⟨x, hx⟩ : ∃ x, out[y39]? = some x := ⟨_, List.getElem?_eq_getElem (by omega)⟩
          refine hw_draw1 (fun M => ∃ i : Nat, M[i]? = some (.arr (.slice (some ⟨ob, off, none⟩) (out.map eAsset).length cap) 3 (out.map eAsset))) [7, 16] mixed ?_
          refine ahp 0 rfl rfl (by kernel_rfl) (by kernel_rfl) (pop_move rfl) ?_
          refine ahp 1 rfl rfl (by kernel_rfl) (by kernel_rfl) (pop_move rfl) ?_
          refine ahp 2 rfl rfl (by kernel_rfl) (by kernel_rfl) (pop_move rfl) ?_
          refine ahp 3 rfl rfl (by kernel_rfl) (by kernel_rfl) (pop_move rfl) ?_
          refine ahp 4 rfl rfl (by kernel_rfl) (by kernel_rfl) (pop_move rfl) ?_
          refine ahp 5 rfl rfl (by kernel_rfl) (by kernel_rfl) ((by first | exact pop_nilCheck rfl | exact pop_nilCheck_raw rfl)) ?_
          refine ahp 6 rfl rfl (by kernel_rfl) (by kernel_rfl) ((by first | exact pop_fieldAddr ty57 rfl ty9 (by decide) rfl | exact pop_fieldAddr_raw ty57 rfl ty9 (by decide) rfl)) ?_
          refine ahl 7 rfl rfl (by kernel_rfl) (by kernel_rfl) (by simp) ⟨1, rfl⟩ (fun M hM => by obtain ⟨i, hi⟩ := hM; exact eop_load_el (i := i) (j := y39) 0 ty9 rfl (by omega) hi hx rfl rfl ⟨rfl, rfl⟩) ?_
          refine ahp 8 rfl rfl (by kernel_rfl) (by kernel_rfl) (pop_move rfl) ?_
          refine ahp 9 rfl rfl (by kernel_rfl) (by kernel_rfl) (pop_adds rfl rfl (by simp; omega)) ?_
          refine ahp 10 rfl rfl (by kernel_rfl) (by kernel_rfl) (pop_buildSlice (hs := [_, _, _]) ty61 ty9 rfl rfl (by decide) (by decide) rfl) ?_
          refine ahp 12 rfl rfl (by kernel_rfl) (by kernel_rfl) (pop_move rfl) ?_
          refine ahp 13 rfl rfl (by kernel_rfl) (by kernel_rfl) (pop_move rfl) ?_
          refine ahp 14 rfl rfl (by kernel_rfl) (by kernel_rfl) ((by first | exact pop_nilCheck rfl | exact pop_nilCheck_raw rfl)) ?_
          refine ahp 15 rfl rfl (by kernel_rfl) (by kernel_rfl) ((by first | exact pop_fieldAddr ty57 rfl ty9 (by decide) rfl | exact pop_fieldAddr_raw ty57 rfl ty9 (by decide) rfl)) ?_
          refine ahl 16 rfl rfl (by kernel_rfl) (by kernel_rfl) (by simp) ⟨1, rfl⟩ (fun M hM => by obtain ⟨i, hi⟩ := hM; exact eop_load_el (i := i) (j := y39) 1 ty9 rfl (by omega) hi hx rfl rfl ⟨rfl, rfl⟩) ?_
          refine ahp 17 rfl rfl (by kernel_rfl) (by kernel_rfl) (pop_buildSlice (hs := [_, _]) ty61 ty9 rfl rfl (by decide) (by decide) rfl) ?_
          refine ahp 19 rfl rfl (by kernel_rfl) (by kernel_rfl) (pop_move rfl) ?_
          refine ahe 11 rfl (by kernel_rfl) ?_
          first
          | refine hop_e rfl (eop_callx (i := 0) ca24 rfl (WeakL.refl _) rfl (c_benchmake_Stream_Some (L := [_, _, _]) (by first | assumption | omega | (simp; omega) | simp_all) (by first | assumption | omega | (simp; omega) | simp_all) (by first | assumption | omega | (simp; omega) | simp_all)) ?_)
          | refine hop_e rfl (eop_callx (i := 1) ca24 rfl (WeakL.refl _) rfl (c_benchmake_Stream_Some (L := [_, _, _]) (by first | assumption | omega | (simp; omega) | simp_all) (by first | assumption | omega | (simp; omega) | simp_all) (by first | assumption | omega | (simp; omega) | simp_all)) ?_)
          | refine hop_e rfl (eop_callx (i := 2) ca24 rfl (WeakL.refl _) rfl (c_benchmake_Stream_Some (L := [_, _, _]) (by first | assumption | omega | (simp; omega) | simp_all) (by first | assumption | omega | (simp; omega) | simp_all) (by first | assumption | omega | (simp; omega) | simp_all)) ?_)
          | refine hop_e rfl (eop_callx (i := 3) ca24 rfl (WeakL.refl _) rfl (c_benchmake_Stream_Some (L := [_, _, _]) (by first | assumption | omega | (simp; omega) | simp_all) (by first | assumption | omega | (simp; omega) | simp_all) (by first | assumption | omega | (simp; omega) | simp_all)) ?_)
          rintro _ _ ⟨y52, rfl, hy52, rfl⟩
          refine ⟨fun _ => by first | exact .inl ⟨0, rfl⟩ | exact .inl ⟨1, rfl⟩ | exact .inl ⟨2, rfl⟩ | exact .inr (by simp [Before, Region.binds]), ?_⟩
          refine ahe 18 rfl (by kernel_rfl) ?_
          first
          | refine hop_e rfl (eop_callx (i := 0) ca24 rfl (WeakL.refl _) rfl (c_benchmake_Stream_Some (L := [_, _]) (by first | assumption | omega | (simp; omega) | simp_all) (by first | assumption | omega | (simp; omega) | simp_all) (by first | assumption | omega | (simp; omega) | simp_all)) ?_)
          | refine hop_e rfl (eop_callx (i := 1) ca24 rfl (WeakL.refl _) rfl (c_benchmake_Stream_Some (L := [_, _]) (by first | assumption | omega | (simp; omega) | simp_all) (by first | assumption | omega | (simp; omega) | simp_all) (by first | assumption | omega | (simp; omega) | simp_all)) ?_)
          | refine hop_e rfl (eop_callx (i := 2) ca24 rfl (WeakL.refl _) rfl (c_benchmake_Stream_Some (L := [_, _]) (by first | assumption | omega | (simp; omega) | simp_all) (by first | assumption | omega | (simp; omega) | simp_all) (by first | assumption | omega | (simp; omega) | simp_all)) ?_)
          | refine hop_e rfl (eop_callx (i := 3) ca24 rfl (WeakL.refl _) rfl (c_benchmake_Stream_Some (L := [_, _]) (by first | assumption | omega | (simp; omega) | simp_all) (by first | assumption | omega | (simp; omega) | simp_all) (by first | assumption | omega | (simp; omega) | simp_all)) ?_)
          rintro _ _ ⟨y59, rfl, hy59, rfl⟩
          refine ⟨fun _ => by first | exact .inl ⟨0, rfl⟩ | exact .inl ⟨1, rfl⟩ | exact .inl ⟨2, rfl⟩ | exact .inr (by simp [Before, Region.binds]), ?_⟩
          refine ahe 20 rfl (by kernel_rfl) ?_
          first
          | refine hop_e rfl (eop_callx (i := 0) ca27 rfl (WeakL.refl _) rfl (c_benchmake_Stream_Odd (by first | assumption | omega | (simp; omega) | simp_all) (by first | assumption | omega | (simp; omega) | simp_all) (by first | assumption | omega | (simp; omega) | simp_all) (by first | assumption | omega | (simp; omega) | simp_all)) ?_)
          | refine hop_e rfl (eop_callx (i := 1) ca27 rfl (WeakL.refl _) rfl (c_benchmake_Stream_Odd (by first | assumption | omega | (simp; omega) | simp_all) (by first | assumption | omega | (simp; omega) | simp_all) (by first | assumption | omega | (simp; omega) | simp_all) (by first | assumption | omega | (simp; omega) | simp_all)) ?_)
          | refine hop_e rfl (eop_callx (i := 2) ca27 rfl (WeakL.refl _) rfl (c_benchmake_Stream_Odd (by first | assumption | omega | (simp; omega) | simp_all) (by first | assumption | omega | (simp; omega) | simp_all) (by first | assumption | omega | (simp; omega) | simp_all) (by first | assumption | omega | (simp; omega) | simp_all)) ?_)
          | refine hop_e rfl (eop_callx (i := 3) ca27 rfl (WeakL.refl _) rfl (c_benchmake_Stream_Odd (by first | assumption | omega | (simp; omega) | simp_all) (by first | assumption | omega | (simp; omega) | simp_all) (by first | assumption | omega | (simp; omega) | simp_all) (by first | assumption | omega | (simp; omega) | simp_all)) ?_)
          rintro _ _ ⟨y61, rfl, rfl⟩
          refine ⟨fun _ => by first | exact .inl ⟨0, rfl⟩ | exact .inl ⟨1, rfl⟩ | exact .inl ⟨2, rfl⟩ | exact .inr (by simp [Before, Region.binds]), ?_⟩
          refine ahp 21 rfl rfl (by kernel_rfl) (by kernel_rfl) ((by first | exact pop_nilCheck rfl | exact pop_nilCheck_raw rfl)) ?_
          refine ahp 22 rfl rfl (by kernel_rfl) (by kernel_rfl) ((by first | exact pop_fieldAddr ty57 rfl ty9 (by decide) rfl | exact pop_fieldAddr_raw ty57 rfl ty9 (by decide) rfl)) ?_
          refine ahe 23 rfl (by kernel_rfl) ?_
          refine hop_e0 (eop_store_arr (i := 1) (j := y39) (f := 0) (y := eAsset x) (y' := eAsset ⟨y52, x.Position, x.Value⟩) ty9 rfl (by omega) rfl rfl (map_get hx) rfl rfl (by simp [hcells]) rfl ?_)
          refine ⟨fun _ => .inr (by simp [Before, Region.binds]), ?_⟩
          refine ahp 24 rfl rfl (by kernel_rfl) (by kernel_rfl) ((by first | exact pop_nilCheck rfl | exact pop_nilCheck_raw rfl)) ?_
          refine ahp 25 rfl rfl (by kernel_rfl) (by kernel_rfl) ((by first | exact pop_fieldAddr ty57 rfl ty9 (by decide) rfl | exact pop_fieldAddr_raw ty57 rfl ty9 (by decide) rfl)) ?_
          refine ahe 26 rfl (by kernel_rfl) ?_
          refine hop_e0 (eop_store_arr (i := 1) (j := y39) (f := 1) (y := eAsset ⟨y52, x.Position, x.Value⟩) (y' := eAsset ⟨y52, y59, x.Value⟩) ty9 rfl (by omega) rfl rfl (set_self (map_get hx)) rfl rfl (by simp [hcells]) rfl ?_)
          refine ⟨fun _ => .inr (by simp [Before, Region.binds]), ?_⟩
          refine ahp 27 rfl rfl (by kernel_rfl) (by kernel_rfl) ((by first | exact pop_nilCheck rfl | exact pop_nilCheck_raw rfl)) ?_
          refine ahp 28 rfl rfl (by kernel_rfl) (by kernel_rfl) ((by first | exact pop_fieldAddr ty57 rfl ty3 (by decide) rfl | exact pop_fieldAddr_raw ty57 rfl ty3 (by decide) rfl)) ?_
          refine ahe 29 rfl (by kernel_rfl) ?_
          refine hop_e0 (eop_store_arr (i := 1) (j := y39) (f := 2) (y := eAsset ⟨y52, y59, x.Value⟩) (y' := eAsset ⟨y52, y59, y61⟩) ty3 rfl (by omega) rfl rfl (set_self (set_self (map_get hx))) rfl rfl (by simp [hcells]) rfl ?_)
          refine ⟨fun _ => .inr (by simp [Before, Region.binds]), ?_⟩
          refine ahz (by kernel_rfl) ?_
          exact ⟨(out.set y39 ⟨y52, y59, y61⟩, a3 + 5), ⟨by simp; omega, all_set (P := GoodA) g2 ⟨by simp at hy52; rcases hy52 with rfl | rfl | rfl; exact (g2 x (List.mem_of_getElem? hx)).1; exact nil_sh; (unfold Sh; simp; omega), by simp at hy59; rcases hy59 with rfl | rfl; exact (g2 x (List.mem_of_getElem? hx)).2; exact nil_sh⟩, by dsimp only; omega⟩, trivial, (by repeat (first | exact keeps_refl | refine keeps_upd rfl ?_ | refine keeps_loop rfl rfl ?_)), by repeat (first | exact List.Perm.nil | refine permTo 0 rfl ?_ | refine permTo 1 rfl ?_ | refine permTo 2 rfl ?_ | refine permTo 3 rfl ?_ | (refine permToE 0 rfl ?hq ?_; (case hq => simp [setL, hcells]; done)) | (refine permToE 1 rfl ?hq ?_; (case hq => simp [setL, hcells]; done)) | (refine permToE 2 rfl ?hq ?_; (case hq => simp [setL, hcells]; done)) | (refine permToE 3 rfl ?hq ?_; (case hq => simp [setL, hcells]; done)) | fail)⟩
        · try simp at h4
          refine hw_skip ?_
          exact ⟨(out, a3), ⟨by dsimp only; omega, g2, by dsimp only; omega⟩, trivial, (by repeat (first | exact keeps_refl | refine keeps_upd rfl ?_ | refine keeps_loop rfl rfl ?_)), by repeat (first | exact List.Perm.nil | refine permTo 0 rfl ?_ | refine permTo 1 rfl ?_ | refine permTo 2 rfl ?_ | refine permTo 3 rfl ?_ | (refine permToE 0 rfl ?hq ?_; (case hq => simp [setL, hcells]; done)) | (refine permToE 1 rfl ?hq ?_; (case hq => simp [setL, hcells]; done)) | (refine permToE 2 rfl ?hq ?_; (case hq => simp [setL, hcells]; done)) | (refine permToE 3 rfl ?hq ?_; (case hq => simp [setL, hcells]; done)) | fail)⟩
      · intro q hq3
        obtain ⟨k1, a4⟩ := q
        dsimp only at hq3
        obtain ⟨q1, q2, q3⟩ := hq3
        refine hw_reg ?_
        refine dp rfl (pop_move rfl) ?_
        refine dp rfl (pop_assign rfl) ?_
        refine dn ?_
        refine hw_ret ?_
        refine ret_g (Ghost.fa 4 (i := 1) rfl rfl) rfl ⟨k1, a4, rfl, ⟨by omega, q2⟩, by omega, rfl⟩

set_option maxHeartbeats 2000000 in
/-- (*benchwarmer/benchmake.Stream).PlaceList -/
theorem c_benchmake_Stream_PlaceList {b : Nat} {l : List Int} {a : Nat}  (ha : a ≤ 800000) : Con Tryz.prog 5 [pAt b] [St b l a] (fun x M' => ∃ k a', x = ePlaces k ∧ GoodPs k ∧ a' ≤ a + 40 ∧ M' = [St b l a']) := by
  refine Con.of_body Tryz.func5 rfl Tryz.ntmps5 rfl rfl ?_
  refine hw_reg ?_
  refine dp rfl (pop_assign rfl) ?_
  refine dn ?_
  refine hw_reg ?_
  refine dp rfl (pop_assign rfl) ?_
  refine dn ?_
  refine hw_seq ?_
  refine hw_reg ?_
  refine dp rfl (pop_buildSlice (hs := [_, _, _, _]) ty61 ty9 rfl rfl (by decide) (by decide) rfl) ?_
  refine dp rfl (pop_lenm (f := HVal.str) (l := place4) ty61 rfl) ?_
  refine dp rfl (pop_move rfl) ?_
  refine dn ?_
  refine hw_ghost (Ghost.arr_nil 2) ?_
  refine hw_block ?_
  refine hw_loopw2 [3, 5, 9, 10, 11, 12, 13, 14, 15, 16, 17, 18, 19, 20, 21, 22, 23, 24] (fun (k : Nat) (q : GL HL.Place) => [(9, .int .i64 k), (3, .raw q.u)]) (fun (k : Nat) (q : GL HL.Place) => [St b l q.a, .arr q.u 2 (q.out.map ePlace)]) (fun (k : Nat) (q : GL HL.Place) => k ≤ place4.length ∧ (GLok GoodP k (a + 2 * k) q)) (fun (k : Nat) (q : GL HL.Place) => place4.length - k) (0) (⟨.slice none 0 0, [], a⟩) ?_ ?_ ?_ ?_
  · exact ⟨by decide, ⟨by simp, by simp, by dsimp only; omega⟩⟩
  · exact ⟨rfl, rfl, trivial⟩
  · repeat (first | exact List.Perm.nil | refine permTo 0 rfl ?_ | refine permTo 1 rfl ?_ | refine permTo 2 rfl ?_ | refine permTo 3 rfl ?_ | (refine permToE 0 rfl ?hq ?_; (case hq => simp [setL, hcells]; done)) | (refine permToE 1 rfl ?hq ?_; (case hq => simp [setL, hcells]; done)) | (refine permToE 2 rfl ?hq ?_; (case hq => simp [setL, hcells]; done)) | (refine permToE 3 rfl ?hq ?_; (case hq => simp [setL, hcells]; done)) | fail)
  · intro k q hinv
    obtain ⟨hk, hq⟩ := hinv
    obtain ⟨u, out, a2⟩ := q
    obtain ⟨g1, g2, g3⟩ := id hq
    dsimp only at g1 g2 g3
    have h4 : place4.length = 4 := rfl
    refine hw_reg ?_
    refine dp rfl (pop_lss rfl rfl) ?_
    refine dn ?_
    refine hw_seq ?_
    refine hw_cond rfl (fun h1 => ?_) (fun h2 => ?_)
    · try simp at h1
      obtain ⟨x, hx⟩ : ∃ x, place4[k]? = some x := ⟨_, List.getElem?_eq_getElem h1⟩
      have hdx := drop_cons hx
      refine hw_skip ?_
      refine seqQ_n ?_
      refine hw_seq ?_
      refine hw_block ?_
      refine hw_reg ?_
      refine dp rfl (pop_idx (f := HVal.str) (l := place4) (j := k) (a := x) ty61 ty9 rfl rfl rfl hx) ?_
      refine dp rfl (pop_load ty9 rfl rfl rfl) ?_
      refine dp rfl (pop_assign rfl) ?_
      refine dn ?_
      refine hw_reg ?_
      refine dp rfl (pop_move rfl) ?_
      first
      | refine de rfl (eop_callx (i := 0) ca25 rfl (WeakL.refl _) rfl (c_benchmake_Stream_Flip (by first | assumption | omega | (simp; omega) | simp_all) (by first | assumption | omega | (simp; omega) | simp_all)) ?_)
      | refine de rfl (eop_callx (i := 1) ca25 rfl (WeakL.refl _) rfl (c_benchmake_Stream_Flip (by first | assumption | omega | (simp; omega) | simp_all) (by first | assumption | omega | (simp; omega) | simp_all)) ?_)
      | refine de rfl (eop_callx (i := 2) ca25 rfl (WeakL.refl _) rfl (c_benchmake_Stream_Flip (by first | assumption | omega | (simp; omega) | simp_all) (by first | assumption | omega | (simp; omega) | simp_all)) ?_)
      | refine de rfl (eop_callx (i := 3) ca25 rfl (WeakL.refl _) rfl (c_benchmake_Stream_Flip (by first | assumption | omega | (simp; omega) | simp_all) (by first | assumption | omega | (simp; omega) | simp_all)) ?_)
      rintro _ _ ⟨y14, rfl, rfl⟩
      refine dp rfl (pop_not rfl) ?_
      refine dn ?_
      refine hw_cond rfl (fun h3 => ?_) (fun h4 => ?_)
      · try simp at h3
        refine hw_reg1 ?_
        refine dp rfl (pop_move rfl) ?_
        refine dp rfl (pop_move rfl) ?_
        refine dp rfl (pop_move rfl) ?_
        refine dp rfl (pop_buildSlice (hs := [_, _, _, _, _]) ty22 ty3 rfl rfl (by decide) (by decide) rfl) ?_
        first
        | refine de rfl (eop_callx (i := 0) ca6 rfl (WeakL.refl _) rfl (c_benchmake_Stream_Pick (L := [_, _, _, _, _]) (by first | assumption | omega | (simp; omega) | simp_all) (by first | assumption | omega | (simp; omega) | simp_all) (by first | assumption | omega | (simp; omega) | simp_all)) ?_)
        | refine de rfl (eop_callx (i := 1) ca6 rfl (WeakL.refl _) rfl (c_benchmake_Stream_Pick (L := [_, _, _, _, _]) (by first | assumption | omega | (simp; omega) | simp_all) (by first | assumption | omega | (simp; omega) | simp_all) (by first | assumption | omega | (simp; omega) | simp_all)) ?_)
        | refine de rfl (eop_callx (i := 2) ca6 rfl (WeakL.refl _) rfl (c_benchmake_Stream_Pick (L := [_, _, _, _, _]) (by first | assumption | omega | (simp; omega) | simp_all) (by first | assumption | omega | (simp; omega) | simp_all) (by first | assumption | omega | (simp; omega) | simp_all)) ?_)
        | refine de rfl (eop_callx (i := 3) ca6 rfl (WeakL.refl _) rfl (c_benchmake_Stream_Pick (L := [_, _, _, _, _]) (by first | assumption | omega | (simp; omega) | simp_all) (by first | assumption | omega | (simp; omega) | simp_all) (by first | assumption | omega | (simp; omega) | simp_all)) ?_)
        rintro _ _ ⟨y20, rfl, hy20, rfl⟩
        refine dp rfl (pop_build (cs := [_, _]) ty63 pl63 rfl) ?_
        refine dp rfl (pop_buildSlice (hs := [_]) ty28 ty63 rfl rfl (by decide) (by decide) rfl) ?_
        first
        | refine de rfl (eop_append (i := 0) ty28 ty63 rfl rfl rfl rfl rfl (by simp [flat, hcells]) (by first | omega | (simp; omega)) fun v23 => ?_)
        | refine de rfl (eop_append (i := 1) ty28 ty63 rfl rfl rfl rfl rfl (by simp [flat, hcells]) (by first | omega | (simp; omega)) fun v23 => ?_)
        | refine de rfl (eop_append (i := 2) ty28 ty63 rfl rfl rfl rfl rfl (by simp [flat, hcells]) (by first | omega | (simp; omega)) fun v23 => ?_)
        | refine de rfl (eop_append (i := 3) ty28 ty63 rfl rfl rfl rfl rfl (by simp [flat, hcells]) (by first | omega | (simp; omega)) fun v23 => ?_)
        refine dp rfl (pop_assign rfl) ?_
        refine dn ?_
        refine blockQ_n ?_
        refine seqQ_n ?_
        refine hw_reg1 ?_
        refine dp rfl (pop_add64 rfl rfl (by omega) (by omega)) ?_
        refine dp rfl (pop_move rfl) ?_
        refine dn ?_
        exact ⟨k + 1, ⟨v23, out ++ [⟨x, y20⟩], a2 + 2⟩, ⟨by omega, hq.add (x := (⟨x, y20⟩ : HL.Place)) (place4_sh x (List.mem_of_getElem? hx)) (by omega)⟩, by dsimp only; omega, ⟨rfl, rfl, trivial⟩, (by repeat (first | exact keeps_refl | refine keeps_upd rfl ?_ | refine keeps_loop rfl rfl ?_)), by repeat (first | exact List.Perm.nil | refine permTo 0 rfl ?_ | refine permTo 1 rfl ?_ | refine permTo 2 rfl ?_ | refine permTo 3 rfl ?_ | (refine permToE 0 rfl ?hq ?_; (case hq => simp [setL, hcells]; done)) | (refine permToE 1 rfl ?hq ?_; (case hq => simp [setL, hcells]; done)) | (refine permToE 2 rfl ?hq ?_; (case hq => simp [setL, hcells]; done)) | (refine permToE 3 rfl ?hq ?_; (case hq => simp [setL, hcells]; done)) | fail)⟩
      · try simp at h4
        refine hw_skip ?_
        refine blockQ_n ?_
        refine seqQ_n ?_
        refine hw_reg1 ?_
        refine dp rfl (pop_add64 rfl rfl (by omega) (by omega)) ?_
        refine dp rfl (pop_move rfl) ?_
        refine dn ?_
        exact ⟨k + 1, ⟨u, out, a2 + 1⟩, ⟨by omega, hq.same (by omega)⟩, by dsimp only; omega, ⟨rfl, rfl, trivial⟩, (by repeat (first | exact keeps_refl | refine keeps_upd rfl ?_ | refine keeps_loop rfl rfl ?_)), by repeat (first | exact List.Perm.nil | refine permTo 0 rfl ?_ | refine permTo 1 rfl ?_ | refine permTo 2 rfl ?_ | refine permTo 3 rfl ?_ | (refine permToE 0 rfl ?hq ?_; (case hq => simp [setL, hcells]; done)) | (refine permToE 1 rfl ?hq ?_; (case hq => simp [setL, hcells]; done)) | (refine permToE 2 rfl ?hq ?_; (case hq => simp [setL, hcells]; done)) | (refine permToE 3 rfl ?hq ?_; (case hq => simp [setL, hcells]; done)) | fail)⟩
    · try simp at h2
      have hnk : place4.length ≤ k := by omega
      obtain rfl : k = place4.length := by omega
      refine hw_exit ?_
      refine seqQ_x ?_
      refine loopQ2_x ?_
      refine blockQ_eq ?_
      refine seqQ_n ?_
      refine hw_join [6, 25, 26, 27, 28, 29, 30, 31, 32, 33, 34, 35, 36, 37, 38, 39, 40, 41, 42, 43, 44, 45, 46, 47, 48, 49, 50, 51, 52] (fun (q : List HL.Place × Nat) => []) (fun (q : List HL.Place × Nat) => [St b l q.2, .arr u 2 (q.1.map ePlace)]) (fun (q : List HL.Place × Nat) => q.1.length ≤ 4 ∧ (∀ x ∈ q.1, Sh x.Position) ∧ q.2 ≤ a + 40) ?_ ?_
      · skip
        refine hw_reg ?_
        refine dp rfl (pop_move rfl) ?_
        first
        | refine de rfl (eop_lenm (i := 0) ty28 rfl rfl ?_)
        | refine de rfl (eop_lenm (i := 1) ty28 rfl rfl ?_)
        | refine de rfl (eop_lenm (i := 2) ty28 rfl rfl ?_)
        | refine de rfl (eop_lenm (i := 3) ty28 rfl rfl ?_)
        refine dp rfl (pop_gtr rfl rfl) ?_
        refine dp rfl (pop_move rfl) ?_
        refine dg rfl rfl (fun hc => ⟨_, OpenTo.refl _, pop_move rfl⟩) ?_
        refine dgx (fun x M' => ∃ (y : Bool) (a3 : Nat), x = .bool y ∧ a3 ≤ a2 + 1 ∧ M' = [St b l a3, .arr u 2 (out.map ePlace)]) rfl rfl (fun hc => ⟨_, false, a2, rfl, by omega, rfl⟩) (fun hc => ⟨_, OpenTo.upd (t := 29) rfl (by first | exact hc | simp_all) (OpenTo.refl _), eop_callx (i := 0) ca25 rfl (WeakL.refl _) rfl (c_benchmake_Stream_Flip (a := a2) (by omega) (by omega)) (fun h M' hh => by
          obtain ⟨y, h1, h2⟩ := hh
          exact ⟨y, a2 + 1, h1, by omega, by rw [h2]; rfl⟩)⟩) ?_
        rintro _ _ ⟨y, a3, rfl, ha3, rfl⟩
        refine dp rfl (pop_picko rfl (.inr ⟨_, rfl, fun h => by simp_all⟩) (.inl rfl)) ?_
        refine dn ?_
        refine hw_cond rfl (fun h5 => ?_) (fun h6 => ?_)
        · try simp at h5
          have ho0 : 0 < out.length := by simp_all
          refine hw_arrc (i := 1) rfl (fun h0 he => ?_) (fun ob off cap hv hcap => ?_)
          · exfalso; have := congrArg List.length he; simp at this; subst this; simp at ho0
          subst hv
          refine hw_reg ?_
          refine dp rfl (pop_move rfl) ?_
          refine dp rfl (pop_move rfl) ?_
          refine dp rfl (pop_move rfl) ?_
          first
          | refine de rfl (eop_lenm (i := 0) ty28 rfl rfl ?_)
          | refine de rfl (eop_lenm (i := 1) ty28 rfl rfl ?_)
          | refine de rfl (eop_lenm (i := 2) ty28 rfl rfl ?_)
          | refine de rfl (eop_lenm (i := 3) ty28 rfl rfl ?_)
          first
          | refine de rfl (eop_callx (i := 0) ca26 rfl (WeakL.refl _) rfl (c_benchmake_Stream_Next (by first | assumption | omega | (simp; omega) | simp_all) (by first | assumption | omega | (simp; omega) | simp_all)) ?_)
          | refine de rfl (eop_callx (i := 1) ca26 rfl (WeakL.refl _) rfl (c_benchmake_Stream_Next (by first | assumption | omega | (simp; omega) | simp_all) (by first | assumption | omega | (simp; omega) | simp_all)) ?_)
          | refine de rfl (eop_callx (i := 2) ca26 rfl (WeakL.refl _) rfl (c_benchmake_Stream_Next (by first | assumption | omega | (simp; omega) | simp_all) (by first | assumption | omega | (simp; omega) | simp_all)) ?_)
          | refine de rfl (eop_callx (i := 3) ca26 rfl (WeakL.refl _) rfl (c_benchmake_Stream_Next (by first | assumption | omega | (simp; omega) | simp_all) (by first | assumption | omega | (simp; omega) | simp_all)) ?_)
          rintro _ _ ⟨y36, rfl, hy36, rfl⟩
          refine dp rfl (pop_idxraw (j := y36) ty28 ty63 rfl rfl rfl (by simp; omega)) ?_
          refine dp rfl (pop_assign rfl) ?_
          refine dn ?_
          obtain ⟨x, hx⟩ : ∃ x, out[y36]? = some x := ⟨_, List.getElem?_eq_getElem (by omega)⟩
          refine hw_reg1 ?_
          refine dp rfl (pop_move rfl) ?_
          refine dp rfl (pop_move rfl) ?_
          refine dp rfl (pop_move rfl) ?_
          refine dp rfl (pop_move rfl) ?_
          refine dp rfl ((by first | exact pop_nilCheck rfl | exact pop_nilCheck_raw rfl)) ?_
          refine dp rfl ((by first | exact pop_fieldAddr ty63 rfl ty9 (by decide) rfl | exact pop_fieldAddr_raw ty63 rfl ty9 (by decide) rfl)) ?_
          refine de rfl (eop_load_el (i := 1) (j := y36) 0 ty9 rfl (by omega) rfl hx rfl rfl ?_)
          refine dp rfl (pop_buildSlice (hs := [_, _, _]) ty61 ty9 rfl rfl (by decide) (by decide) rfl) ?_
          first
          | refine de rfl (eop_callx (i := 0) ca24 rfl (WeakL.refl _) rfl (c_benchmake_Stream_Some (L := [_, _, _]) (by first | assumption | omega | (simp; omega) | simp_all) (by first | assumption | omega | (simp; omega) | simp_all) (by first | assumption | omega | (simp; omega) | simp_all)) ?_)
          | refine de rfl (eop_callx (i := 1) ca24 rfl (WeakL.refl _) rfl (c_benchmake_Stream_Some (L := [_, _, _]) (by first | assumption | omega | (simp; omega) | simp_all) (by first | assumption | omega | (simp; omega) | simp_all) (by first | assumption | omega | (simp; omega) | simp_all)) ?_)
          | refine de rfl (eop_callx (i := 2) ca24 rfl (WeakL.refl _) rfl (c_benchmake_Stream_Some (L := [_, _, _]) (by first | assumption | omega | (simp; omega) | simp_all) (by first | assumption | omega | (simp; omega) | simp_all) (by first | assumption | omega | (simp; omega) | simp_all)) ?_)
          | refine de rfl (eop_callx (i := 3) ca24 rfl (WeakL.refl _) rfl (c_benchmake_Stream_Some (L := [_, _, _]) (by first | assumption | omega | (simp; omega) | simp_all) (by first | assumption | omega | (simp; omega) | simp_all) (by first | assumption | omega | (simp; omega) | simp_all)) ?_)
          rintro _ _ ⟨y46, rfl, hy46, rfl⟩
          refine dp rfl (pop_move rfl) ?_
          first
          | refine de rfl (eop_callx (i := 0) ca27 rfl (WeakL.refl _) rfl (c_benchmake_Stream_Odd (by first | assumption | omega | (simp; omega) | simp_all) (by first | assumption | omega | (simp; omega) | simp_all) (by first | assumption | omega | (simp; omega) | simp_all) (by first | assumption | omega | (simp; omega) | simp_all)) ?_)
          | refine de rfl (eop_callx (i := 1) ca27 rfl (WeakL.refl _) rfl (c_benchmake_Stream_Odd (by first | assumption | omega | (simp; omega) | simp_all) (by first | assumption | omega | (simp; omega) | simp_all) (by first | assumption | omega | (simp; omega) | simp_all) (by first | assumption | omega | (simp; omega) | simp_all)) ?_)
          | refine de rfl (eop_callx (i := 2) ca27 rfl (WeakL.refl _) rfl (c_benchmake_Stream_Odd (by first | assumption | omega | (simp; omega) | simp_all) (by first | assumption | omega | (simp; omega) | simp_all) (by first | assumption | omega | (simp; omega) | simp_all) (by first | assumption | omega | (simp; omega) | simp_all)) ?_)
          | refine de rfl (eop_callx (i := 3) ca27 rfl (WeakL.refl _) rfl (c_benchmake_Stream_Odd (by first | assumption | omega | (simp; omega) | simp_all) (by first | assumption | omega | (simp; omega) | simp_all) (by first | assumption | omega | (simp; omega) | simp_all) (by first | assumption | omega | (simp; omega) | simp_all)) ?_)
          rintro _ _ ⟨y48, rfl, rfl⟩
          refine dp rfl ((by first | exact pop_nilCheck rfl | exact pop_nilCheck_raw rfl)) ?_
          refine dp rfl ((by first | exact pop_fieldAddr ty63 rfl ty9 (by decide) rfl | exact pop_fieldAddr_raw ty63 rfl ty9 (by decide) rfl)) ?_
          refine de0 (eop_store_arr (i := 1) (j := y36) (f := 0) (y := ePlace x) (y' := ePlace ⟨y46, x.Many⟩) ty9 rfl (by omega) rfl rfl (map_get hx) rfl rfl (by simp [hcells]) rfl ?_)
          refine dp rfl ((by first | exact pop_nilCheck rfl | exact pop_nilCheck_raw rfl)) ?_
          refine dp rfl ((by first | exact pop_fieldAddr ty63 rfl ty3 (by decide) rfl | exact pop_fieldAddr_raw ty63 rfl ty3 (by decide) rfl)) ?_
          refine de0 (eop_store_arr (i := 1) (j := y36) (f := 1) (y := ePlace ⟨y46, x.Many⟩) (y' := ePlace ⟨y46, y48⟩) ty3 rfl (by omega) rfl rfl (set_self (map_get hx)) rfl rfl (by simp [hcells]) rfl ?_)
          refine dn ?_
          exact ⟨(out.set y36 ⟨y46, y48⟩, a3 + 4), ⟨by simp; omega, all_set (P := GoodP) g2 (by simp at hy46; rcases hy46 with rfl | rfl | rfl; exact g2 x (List.mem_of_getElem? hx); exact nil_sh; (unfold GoodP Sh; simp)), by dsimp only; omega⟩, trivial, (by repeat (first | exact keeps_refl | refine keeps_upd rfl ?_ | refine keeps_loop rfl rfl ?_)), by repeat (first | exact List.Perm.nil | refine permTo 0 rfl ?_ | refine permTo 1 rfl ?_ | refine permTo 2 rfl ?_ | refine permTo 3 rfl ?_ | (refine permToE 0 rfl ?hq ?_; (case hq => simp [setL, hcells]; done)) | (refine permToE 1 rfl ?hq ?_; (case hq => simp [setL, hcells]; done)) | (refine permToE 2 rfl ?hq ?_; (case hq => simp [setL, hcells]; done)) | (refine permToE 3 rfl ?hq ?_; (case hq => simp [setL, hcells]; done)) | fail)⟩
        · try simp at h6
          refine hw_skip ?_
          exact ⟨(out, a3), ⟨by dsimp only; omega, g2, by dsimp only; omega⟩, trivial, (by repeat (first | exact keeps_refl | refine keeps_upd rfl ?_ | refine keeps_loop rfl rfl ?_)), by repeat (first | exact List.Perm.nil | refine permTo 0 rfl ?_ | refine permTo 1 rfl ?_ | refine permTo 2 rfl ?_ | refine permTo 3 rfl ?_ | (refine permToE 0 rfl ?hq ?_; (case hq => simp [setL, hcells]; done)) | (refine permToE 1 rfl ?hq ?_; (case hq => simp [setL, hcells]; done)) | (refine permToE 2 rfl ?hq ?_; (case hq => simp [setL, hcells]; done)) | (refine permToE 3 rfl ?hq ?_; (case hq => simp [setL, hcells]; done)) | fail)⟩
      · intro q hq3
        obtain ⟨k1, a4⟩ := q
        dsimp only at hq3
        obtain ⟨q1, q2, q3⟩ := hq3
        refine hw_reg ?_
        refine dp rfl (pop_move rfl) ?_
        refine dp rfl (pop_assign rfl) ?_
        refine dn ?_
        refine hw_ret ?_
        refine ret_g (Ghost.fa 2 (i := 1) rfl rfl) rfl ⟨k1, a4, rfl, ⟨by omega, q2⟩, by omega, rfl⟩
end Go.Proofs.YtnlfcjoofdjpiaaGreatDoor
end
section
namespace Go.HL
theorem ofP_mem {l : List Asset} {pos : Str} {y : Asset} (h : y ∈ ofP l pos) : y ∈ l := by
  unfold ofP atPos at h
  exact (List.mem_filter.1 ((isort_mem byValue).1 h)).1
theorem ofR_mem {l : List Asset} {pos : Str} {y : Asset} (h : y ∈ ofR l pos) : y ∈ l := by
  unfold ofR atPos at h
  exact (List.mem_filter.1 ((isort_mem byVal).1 h)).1
theorem levelOf_bd {o l : List Asset} (ho : ∀ y ∈ o, y ∈ l) (hv : ∀ x ∈ l, -1000000 ≤ x.Value ∧ x.Value ≤ 1000000) (m t : Int) : -1000000 ≤ levelOf o m t ∧ levelOf o m t ≤ 1000000 := by
  unfold levelOf
  split
  · omega
  · rename_i h
    by_cases hj : (min (m * t) ((o.length : Int) - 1)).toNat < o.length
    · have : o.getD (min (m * t) ((o.length : Int) - 1)).toNat asset0 ∈ o := by simp [List.getD, List.getElem?_eq_getElem hj]
      exact hv _ (ho _ this)
    · exfalso; apply hj; omega
theorem lfault_ok {l : List Asset} {p : List Place} {teams : Int} (h : lfault l p teams = 0) : okAP l p = 0 ∧ 1 ≤ teams ∧ teams ≤ 20 := by
  unfold lfault at h
  by_cases h1 : okAP l p = 0
  · rw [if_neg (by simp [h1])] at h
    by_cases h2 : out teams 1 20 = true
    · rw [if_pos h2] at h; omega
    · have := out_f (by simpa using h2); exact ⟨h1, this⟩
  · rw [if_pos (by simpa using h1)] at h; exact absurd h h1
theorem okAP_many {l : List Asset} {p : List Place} (h : okAP l p = 0) : ∀ x ∈ p, 0 ≤ x.Many ∧ x.Many ≤ 12 := (checkPlaces_ok (okAP_ok h).2).1
theorem overP_snoc (l : List Asset) {p : List Place} {i : Nat} {x : Place} (teams : Int) (h : p[i]? = some x) : overP l (p.take (i + 1)) teams = overP l (p.take i) teams ++ (ofP l x.Position).map fun y => ⟨y.Player, y.Value - levelP l x teams, 0⟩ := by
  rw [take_snoc' h]; simp [overP]
theorem overP_len {l : List Asset} (hl : l.length ≤ 12) (teams : Int) : ∀ p : List Place, (overP l p teams).length ≤ 12 * p.length
  | [] => by simp [overP]
  | x :: p => by
    have ih := overP_len hl teams p
    have h1 := ofP_len l x.Position
    have e : overP l (x :: p) teams = ((ofP l x.Position).map fun y => ⟨y.Player, y.Value - levelP l x teams, 0⟩) ++ overP l p teams := by simp [overP]
    rw [e, List.length_append, List.length_map, List.length_cons, Nat.mul_succ]; omega
theorem overP_small {l : List Asset} {p : List Place} (hp : SortedS (p.map (·.Position))) (teams : Int) : (overP l p teams).length ≤ l.length := by
  rw [(overP_perm l p teams).length_eq]
  have := (overM_players (sortedS_nodup hp) l teams l).length_le
  simpa using this
/-- The first k have their ranks. -/
def rankTo (W : List Over) (k : Nat) : List Over := W.mapIdx fun i x => if i < k then { x with Rank := rankAt W i } else x
theorem rankTo_zero (W : List Over) : rankTo W 0 = W := by
  unfold rankTo
  apply List.ext_getElem
  · simp
  · intro i h1 h2; simp
theorem rankTo_len (W : List Over) (k : Nat) : (rankTo W k).length = W.length := by simp [rankTo]
theorem rankTo_all (W : List Over) : rankTo W W.length = ranked W := by
  unfold rankTo ranked
  apply List.ext_getElem
  · simp
  · intro i h1 h2
    have : i < W.length := by simpa using h1
    simp [this]
theorem rankTo_get {W : List Over} {k i : Nat} {x : Over} (h : W[i]? = some x) : (rankTo W k)[i]? = some (if i < k then { x with Rank := rankAt W i } else x) := by
  unfold rankTo
  rw [List.getElem?_mapIdx, h]; rfl
theorem rankTo_succ {W : List Over} {k : Nat} {x : Over} (h : W[k]? = some x) : rankTo W (k + 1) = (rankTo W k).set k { x with Rank := rankAt W k } := by
  apply List.ext_getElem?
  intro i
  by_cases hi : i = k
  · subst hi
    rw [rankTo_get h, List.getElem?_set_self (by rw [rankTo_len]; exact lt_of_get h), if_pos (by omega)]
  · rw [List.getElem?_set_ne (Ne.symm hi)]
    cases hx : W[i]? with
    | none =>
      have hn : W.length ≤ i := by
        rcases Nat.lt_or_ge i W.length with h' | h'
        · rw [List.getElem?_eq_getElem h'] at hx; cases hx
        · exact h'
      rw [List.getElem?_eq_none (by rw [rankTo_len]; exact hn), List.getElem?_eq_none (by rw [rankTo_len]; exact hn)]
    | some y =>
      rw [rankTo_get hx, rankTo_get hx]
      by_cases hlt : i < k
      · rw [if_pos hlt, if_pos (by omega)]
      · rw [if_neg hlt, if_neg (by omega)]
theorem rankAt_new {W : List Over} {k : Nat} {x : Over} (hx : W[k]? = some x) (h : 0 < k → ¬ x.Worth = (W.getD (k - 1) over0).Worth) : rankAt W k = (k : Int) + 1 := by
  cases k with
  | zero => rfl
  | succ k =>
    have e : W.getD (k + 1) over0 = x := by simp [List.getD, hx]
    have := h (by omega)
    simp only [rankAt, e]
    rw [if_neg (by simpa using this)]; omega
theorem rankAt_old {W : List Over} {k : Nat} {x : Over} (hx : W[k]? = some x) (h0 : 0 < k) (h : x.Worth = (W.getD (k - 1) over0).Worth) : rankAt W k = rankAt W (k - 1) := by
  cases k with
  | zero => omega
  | succ k =>
    have e : W.getD (k + 1) over0 = x := by simp [List.getD, hx]
    simp only [rankAt, e]
    rw [if_pos (by simpa using h)]; rfl
end Go.HL
end
