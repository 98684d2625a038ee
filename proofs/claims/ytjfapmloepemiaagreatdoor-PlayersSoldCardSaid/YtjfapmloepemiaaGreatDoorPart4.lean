/- Part 4 of the proof: a program logic, contracts of functions and plain facts; no conditions. -/
import Derived.Test.YtjfapmloepemiaaGreatDoorPart3
section
namespace Go.Proofs.YtjfapmloepemiaaGreatDoor
open Go.HL
set_option maxRecDepth 100000
set_option linter.unusedVariables false
set_option linter.unusedSimpArgs false
set_option maxHeartbeats 1000000 in
/-- slices.insertionSortCmpFunc[benchwarmer/api.Sale] -/
theorem c_slices_insertionSortCmpFunc_api_Sale {l : List Sale} {v : Value} {fid : FuncId} {caps : List HVal} {c : Sale → Sale → Int} {n : Int} (hca : Callable Tryz.prog fid) (hp : ∀ x y, ConP Tryz.prog fid ([eSale x, eSale y] ++ caps) (.int .i64 (c x y))) (hn : n = l.length) (hl : l.length ≤ 1000000) : Con Tryz.prog 88 [.raw v, .int .i64 0, .int .i64 n, .fn (.func fid) [] caps] [.arr v 3 (l.map eSale)] (fun x M' => x = .tup [] ∧ M' = [.arr v 3 ((isort c l).map eSale)]) := by
  subst hn
  refine Con.of_body Tryz.func88 rfl Tryz.ntmps88 rfl rfl ?_
  refine hw_reg ?_
  refine dp rfl (pop_move rfl) ?_
  refine dp rfl (pop_add64 rfl rfl (by omega) (by omega)) ?_
  refine dp rfl (pop_assign rfl) ?_
  refine dn ?_
  refine hw_block ?_
  refine hw_loopw [8, 9, 12, 13, 14, 15, 16, 17, 18, 19, 20, 21, 22, 23, 24, 25, 26, 27, 28, 29, 30, 31, 32, 33, 34, 35, 36, 37, 38, 39, 40, 41, 42, 43, 44, 45, 46, 47, 48, 49, 50, 51, 52] (fun (k : Nat) => [(8, .int .i64 (k : Int))]) (fun (k : Nat) => [.arr v 3 ((isort c (l.take k) ++ l.drop k).map eSale)]) (fun (k : Nat) => 1 ≤ k) (fun (k : Nat) => l.length - k) (1) ?_ ?_ ?_ ?_
  · exact Nat.le_refl _
  · exact ⟨rfl, trivial⟩
  · exact perm_eq (by rw [isort_take1])
  · intro k hk
    refine hw_seq ?_
    refine hw_reg ?_
    refine dp rfl (pop_move rfl) ?_
    refine dp rfl (pop_move rfl) ?_
    refine dp rfl (pop_lss rfl rfl) ?_
    refine dn ?_
    refine hw_cond rfl (fun h1 => ?_) (fun h2 => ?_)
    · try simp at h1
      obtain ⟨x, hx⟩ : ∃ x, l[k]? = some x := ⟨_, List.getElem?_eq_getElem (by omega)⟩
      refine hw_arrc (i := 0) rfl (fun h0 he => ?_) (fun b off cap hv hcap => ?_)
      · exfalso; have := congrArg List.length he; simp [isort_len] at this; omega
      rw [show ((isort c (l.take k) ++ l.drop k).map eSale).length = l.length by simp [isort_len]; omega] at hv
      subst hv
      refine hw_skip ?_
      refine seqQ_n ?_
      refine hw_seq ?_
      refine hw_block ?_
      refine hw_reg ?_
      refine dp rfl (pop_move rfl) ?_
      refine dp rfl (pop_assign rfl) ?_
      refine dn ?_
      refine hw_block ?_
      refine hw_loopw2 [9, 18, 19, 20, 21, 22, 23, 24, 25, 26, 27, 28, 29, 30, 31, 32, 33, 34, 35, 36, 37, 38, 39, 40, 41, 42, 43, 44, 45, 46, 47, 48, 49, 50, 51, 52] (fun (A : List Sale) (B : List Sale) => [(9, .int .i64 (A.length : Int))]) (fun (A : List Sale) (B : List Sale) => [.arr (.slice (some ⟨b, off, none⟩) l.length cap) 3 ((A ++ x :: (B ++ l.drop (k + 1))).map eSale)]) (fun (A : List Sale) (B : List Sale) => A.length + B.length = k ∧ insB c x (isort c (l.take k)) = insB c x A ++ B) (fun (A : List Sale) (B : List Sale) => A.length) (isort c (l.take k)) ([]) ?_ ?_ ?_ ?_
      · exact ⟨by simp [isort_len]; omega, by simp⟩
      · exact ⟨some_int (by simp [isort_len]; omega), trivial⟩
      · exact perm_eq (by rw [drop_cons hx]; rfl)
      · intro A B hinv
        obtain ⟨hA, hB⟩ := hinv
        have hlA : A.length < l.length := by omega
        have hll : ((A ++ x :: (B ++ l.drop (k + 1)))).length = l.length := by simp; omega
        refine hw_seq ?_
        refine hw_draw (fun M => M = [.arr (.slice (some ⟨b, off, none⟩) l.length cap) 3 ((A ++ x :: (B ++ l.drop (k + 1))).map eSale)]) [8, 13] mixed ?_
        refine ahp 0 rfl rfl (by kernel_rfl) (by kernel_rfl) (pop_move rfl) ?_
        refine ahp 1 rfl rfl (by kernel_rfl) (by kernel_rfl) (pop_move rfl) ?_
        refine ahp 2 rfl rfl (by kernel_rfl) (by kernel_rfl) (pop_gtr rfl rfl) ?_
        refine ahp 3 rfl rfl (by kernel_rfl) (by kernel_rfl) (pop_move rfl) ?_
        refine ahg 4 rfl rfl (by kernel_rfl) (by kernel_rfl) rfl (fun hc => ⟨_, OpenTo.refl _, pop_move rfl⟩) ?_
        refine ahg 5 rfl rfl (by kernel_rfl) (by kernel_rfl) rfl (fun hc => ⟨_, OpenTo.refl _, pop_move rfl⟩) ?_
        refine ahg 6 rfl rfl (by kernel_rfl) (by kernel_rfl) rfl (fun hc => ⟨_, OpenTo.refl _, pop_move rfl⟩) ?_
        refine ahg 7 rfl rfl (by kernel_rfl) (by kernel_rfl) rfl (fun hc => by
            have hq : 0 < A.length := by simpa using hc
            exact ⟨_, OpenTo.upd (t := 24) rfl (by first | exact hc | simp_all) (OpenTo.upd (t := 23) rfl (by first | exact hc | simp_all) (OpenTo.refl _)), pop_idxraw (j := A.length) ty30 ty43 rfl rfl (by rfl) (by omega)⟩) ?_
        refine ahgl 8 rfl rfl (by kernel_rfl) (by kernel_rfl) (by simp) rfl rfl (fun hc => ⟨_, OpenTo.upd (t := 25) rfl (by first | exact hc | simp_all) (OpenTo.refl _), fun M hM => by
            subst hM; exact eop_load_elw (i := 0) (j := A.length) ty43 rfl rfl rfl get_mid rfl rfl rfl ⟨rfl, rfl⟩
          ⟩) ?_
        refine ahg 9 rfl rfl (by kernel_rfl) (by kernel_rfl) rfl (fun hc => ⟨_, OpenTo.refl _, pop_move rfl⟩) ?_
        refine ahg 10 rfl rfl (by kernel_rfl) (by kernel_rfl) rfl (fun hc => ⟨_, OpenTo.refl _, pop_move rfl⟩) ?_
        refine ahg 11 rfl rfl (by kernel_rfl) (by kernel_rfl) rfl (fun hc => by
            have hq : 0 < A.length := by simpa using hc
            exact ⟨_, OpenTo.upd (t := 28) rfl (by first | exact hc | simp_all) (OpenTo.refl _), pop_sub64 rfl rfl (by omega) (by omega)⟩) ?_
        refine ahg 12 rfl rfl (by kernel_rfl) (by kernel_rfl) rfl (fun hc => by
            have hq : 0 < A.length := by simpa using hc
            exact ⟨_, OpenTo.upd (t := 29) rfl (by first | exact hc | simp_all) (OpenTo.upd (t := 27) rfl (by first | exact hc | simp_all) (OpenTo.refl _)), pop_idxraw (j := A.length - 1) ty30 ty43 rfl rfl (by omega) (by omega)⟩) ?_
        refine ahgl 13 rfl rfl (by kernel_rfl) (by kernel_rfl) (by simp) rfl rfl (fun hc => ⟨_, OpenTo.upd (t := 30) rfl (by first | exact hc | simp_all) (OpenTo.refl _), fun M hM => by
            have hq : 0 < A.length := by simpa using hc
            subst hM; exact eop_load_elw (i := 0) (j := A.length - 1) ty43 rfl rfl rfl (get_before hq) rfl rfl rfl ⟨rfl, rfl⟩
          ⟩) ?_
        refine ahg 14 rfl rfl (by kernel_rfl) (by kernel_rfl) rfl (fun hc => ⟨_, OpenTo.upd (t := 31) rfl (by first | exact hc | simp_all) (OpenTo.upd (t := 26) rfl (by first | exact hc | simp_all) (OpenTo.upd (t := 22) rfl (by first | exact hc | simp_all) (OpenTo.refl _))), pop_callv hca rfl rfl (WeakL.refl _) (hp _ _)⟩) ?_
        refine ahg 15 rfl rfl (by kernel_rfl) (by kernel_rfl) rfl (fun hc => ⟨_, OpenTo.upd (t := 32) rfl (by first | exact hc | simp_all) (OpenTo.refl _), pop_lss rfl rfl⟩) ?_
        refine ahp 16 rfl rfl (by kernel_rfl) (by kernel_rfl) (pop_picko rfl (.inr ⟨_, rfl, fun h => by simp_all⟩) (.inl rfl)) ?_
        refine ahz (by kernel_rfl) ?_
        refine hw_cond rfl (fun h3 => ?_) (fun h4 => ?_)
        · try simp at h3
          obtain ⟨hA0, hcx⟩ := h3
          obtain ⟨A1, y, rfl⟩ := snoc_of hA0
          rw [getD_snoc] at hcx
          refine hw_skip ?_
          refine seqQ_n ?_
          refine hw_seq ?_
          refine hw_block ?_
          refine hw_draw1 (fun M => M = [.arr (.slice (some ⟨b, off, none⟩) l.length cap) 3 (((A1 ++ [y]) ++ x :: (B ++ l.drop (k + 1))).map eSale)]) [9, 13] mixed ?_
          refine ahp 0 rfl rfl (by kernel_rfl) (by kernel_rfl) (pop_move rfl) ?_
          refine ahp 1 rfl rfl (by kernel_rfl) (by kernel_rfl) (pop_move rfl) ?_
          refine ahp 2 rfl rfl (by kernel_rfl) (by kernel_rfl) (pop_move rfl) ?_
          refine ahp 3 rfl rfl (by kernel_rfl) (by kernel_rfl) (pop_move rfl) ?_
          refine ahp 4 rfl rfl (by kernel_rfl) (by kernel_rfl) (pop_sub64 rfl rfl (by omega) (by omega)) ?_
          refine ahp 5 rfl rfl (by kernel_rfl) (by kernel_rfl) (pop_move rfl) ?_
          refine ahp 6 rfl rfl (by kernel_rfl) (by kernel_rfl) (pop_move rfl) ?_
          refine ahp 7 rfl rfl (by kernel_rfl) (by kernel_rfl) (pop_sub64 rfl rfl (by omega) (by omega)) ?_
          refine ahp 8 rfl rfl (by kernel_rfl) (by kernel_rfl) (pop_idxraw (j := (A1 ++ [y]).length - 1) ty30 ty43 rfl rfl (by omega) (by omega)) ?_
          refine ahl 9 rfl rfl (by kernel_rfl) (by kernel_rfl) (by simp) rfl (fun M hM => by subst hM; exact eop_load_elw (i := 0) (j := (A1 ++ [y]).length - 1) ty43 rfl rfl rfl ((get_before hA0).trans (by rw [getD_snoc])) rfl rfl rfl ⟨rfl, rfl⟩) ?_
          refine ahp 10 rfl rfl (by kernel_rfl) (by kernel_rfl) (pop_move rfl) ?_
          refine ahp 11 rfl rfl (by kernel_rfl) (by kernel_rfl) (pop_move rfl) ?_
          refine ahp 12 rfl rfl (by kernel_rfl) (by kernel_rfl) (pop_idxraw (j := (A1 ++ [y]).length) ty30 ty43 rfl rfl rfl (by omega)) ?_
          refine ahl 13 rfl rfl (by kernel_rfl) (by kernel_rfl) (by simp) rfl (fun M hM => by subst hM; exact eop_load_elw (i := 0) (j := (A1 ++ [y]).length) ty43 rfl rfl rfl get_mid rfl rfl rfl ⟨rfl, rfl⟩) ?_
          refine ahp 14 rfl rfl (by kernel_rfl) (by kernel_rfl) (pop_idxraw (j := (A1 ++ [y]).length) ty30 ty43 rfl rfl rfl (by omega)) ?_
          refine ahe 15 rfl (by kernel_rfl) ?_
          refine hop_e0 (eop_store_elw (i := 0) (j := (A1 ++ [y]).length) (y := x) (y' := y) ty43 rfl rfl rfl rfl get_mid rfl rfl rfl ?_)
          refine ⟨fun _ => .inr (by simp [Before, Region.binds]), ?_⟩
          refine ahp 16 rfl rfl (by kernel_rfl) (by kernel_rfl) (pop_idxraw (j := (A1 ++ [y]).length - 1) ty30 ty43 rfl rfl (by omega) (by omega)) ?_
          refine ahe 17 rfl (by kernel_rfl) ?_
          refine hop_e0 (eop_store_elw (i := 0) (j := (A1 ++ [y]).length - 1) (y := y) (y' := x) ty43 rfl rfl rfl rfl (by rw [List.getElem?_set_ne (by simp)]; exact (get_before hA0).trans (by rw [getD_snoc])) rfl rfl rfl ?_)
          refine ⟨fun _ => .inr (by simp [Before, Region.binds]), ?_⟩
          refine ahz (by kernel_rfl) ?_
          refine blockQ_n ?_
          refine seqQ_n ?_
          refine hw_reg1 ?_
          refine dp rfl (pop_move rfl) ?_
          refine dp rfl (pop_sub64 rfl rfl (by omega) (by omega)) ?_
          refine dp rfl (pop_assign rfl) ?_
          refine dn ?_
          exact ⟨A1, y :: B, ⟨by simp at hA ⊢; omega, ins_step hB hcx⟩, by dsimp only; simp, ⟨some_int (by simp), trivial⟩, (by repeat (first | exact keeps_refl | refine keeps_upd rfl ?_ | refine keeps_loop rfl rfl ?_)), perm_eq (by rw [swap_mid]; rfl)⟩
        · try simp at h4
          have hins := ins_exit (l := l) (k := k) hx hB (by intro h0; have := h4 h0; omega)
          refine hw_exit ?_
          refine seqQ_x ?_
          refine loopQ2_x ?_
          refine blockQ_eq ?_
          refine blockQ_n ?_
          refine seqQ_n ?_
          refine hw_reg1 ?_
          refine dp rfl (pop_move rfl) ?_
          refine dp rfl (pop_add64 rfl rfl (by omega) (by omega)) ?_
          refine dp rfl (pop_assign rfl) ?_
          refine dn ?_
          refine ⟨k + 1, ?_, ?_, ⟨rfl, trivial⟩, (by repeat (first | exact keeps_refl | refine keeps_upd rfl ?_ | refine keeps_loop rfl rfl ?_)), perm_eq (by rw [hins])⟩
          · omega
          · dsimp only; omega
    · try simp at h2
      have hend : isort c (l.take k) ++ l.drop k = isort c l := by rw [List.take_of_length_le (by omega), drop_all (by omega)]; simp
      refine hw_exit ?_
      refine seqQ_x ?_
      refine loopQ_x ?_
      refine blockQ_eq ?_
      exact ⟨_, _, Ghost.sub (Sub.refl _), _, _, rfl, Weak.refl _, rfl, by rw [hend]⟩

/-- slices.stableCmpFunc[benchwarmer/api.Sale] -/
theorem c_slices_stableCmpFunc_api_Sale {l : List Sale} {v : Value} {fid : FuncId} {caps : List HVal} {c : Sale → Sale → Int} (hca : Callable Tryz.prog fid) (hp : ∀ x y, ConP Tryz.prog fid ([eSale x, eSale y] ++ caps) (.int .i64 (c x y))) (hl : l.length < 20) : Con Tryz.prog 70 [.raw v, .int .i64 (l.length : Int), .fn (.func fid) [] caps] [.arr v 3 (l.map eSale)] (fun x M' => x = .tup [] ∧ M' = [.arr v 3 ((isort c l).map eSale)]) := by
  refine Con.of_body Tryz.func70 rfl Tryz.ntmps70 rfl rfl ?_
  refine hw_reg ?_
  refine dp rfl (pop_assign rfl) ?_
  refine dn ?_
  refine hw_reg ?_
  refine dp rfl (pop_move rfl) ?_
  refine dp rfl (pop_assign rfl) ?_
  refine dp rfl (pop_assign rfl) ?_
  refine dn ?_
  refine hw_seq ?_
  refine hw_block ?_
  refine hw_loopw [7, 8, 11, 12, 13, 14, 15, 16, 17, 18, 19, 20, 21, 22] (fun (u : Unit) => [(7, .int .i64 0), (8, .int .i64 20)]) (fun (u : Unit) => [.arr v 3 (l.map eSale)]) (fun (u : Unit) => True) (fun (u : Unit) => 0) (()) ?_ ?_ ?_ ?_
  · trivial
  · exact ⟨rfl, rfl, trivial⟩
  · exact List.Perm.refl _
  · intro u hu
    refine hw_seq ?_
    refine hw_reg ?_
    refine dp rfl (pop_move rfl) ?_
    refine dp rfl (pop_move rfl) ?_
    refine dp rfl (pop_leq rfl rfl) ?_
    refine dn ?_
    refine hw_cond rfl (fun h1 => ?_) (fun h1 => ?_)
    · exfalso
      try simp at h1
      omega
    · try simp at h1
      refine hw_exit ?_
      refine seqQ_x ?_
      refine loopQ_x ?_
      refine blockQ_eq ?_
      refine seqQ_n ?_
      refine hw_reg ?_
      refine dp rfl (pop_move rfl) ?_
      refine dp rfl (pop_move rfl) ?_
      refine dp rfl (pop_move rfl) ?_
      refine dp rfl (pop_move rfl) ?_
      refine de rfl (eop_callx (i := 0) ca88 rfl (WeakL.refl _) rfl (c_slices_insertionSortCmpFunc_api_Sale (l := l) hca hp (by omega) (by omega)) ?_)
      rintro _ _ ⟨rfl, rfl⟩
      refine dn ?_
      refine hw_block ?_
      refine hw_loopw [6, 7, 8, 9, 28, 29, 30, 31, 32, 33, 34, 35, 36, 37, 38, 39, 40, 41, 42, 43, 44, 45, 46, 47, 48, 49, 50, 51, 52, 53, 54, 55, 56, 57, 58, 59, 60, 61, 62] (fun (u : Unit) => [(6, .int .i64 20)]) (fun (u : Unit) => [.arr v 3 ((isort c l).map eSale)]) (fun (u : Unit) => True) (fun (u : Unit) => 0) (()) ?_ ?_ ?_ ?_
      · trivial
      · exact ⟨rfl, trivial⟩
      · exact List.Perm.refl _
      · intro u hu
        refine hw_seq ?_
        refine hw_reg ?_
        refine dp rfl (pop_move rfl) ?_
        refine dp rfl (pop_move rfl) ?_
        refine dp rfl (pop_lss rfl rfl) ?_
        refine dn ?_
        refine hw_cond rfl (fun h2 => ?_) (fun h2 => ?_)
        · exfalso
          try simp at h2
          omega
        · try simp at h2
          refine hw_exit ?_
          refine seqQ_x ?_
          refine loopQ_x ?_
          refine blockQ_eq ?_
          exact ⟨_, _, Ghost.sub (Sub.refl _), _, _, rfl, Weak.refl _, rfl, rfl⟩

/-- slices.SortStableFunc[[]benchwarmer/api.Sale,benchwarmer/api.Sale] -/
theorem c_slices_SortStableFunc_api_Sale_api_Sale {l : List Sale} {v : Value} {fid : FuncId} {caps : List HVal} {c : Sale → Sale → Int} (hca : Callable Tryz.prog fid) (hp : ∀ x y, ConP Tryz.prog fid ([eSale x, eSale y] ++ caps) (.int .i64 (c x y))) (hl : l.length < 20) : Con Tryz.prog 50 [.raw v, .fn (.func fid) [] caps] [.arr v 3 (l.map eSale)] (fun x M' => x = .tup [] ∧ M' = [.arr v 3 ((isort c l).map eSale)]) := by
  refine Con.of_body Tryz.func50 rfl Tryz.ntmps50 rfl rfl ?_
  refine hw_reg1 ?_
  refine dp rfl (pop_move rfl) ?_
  refine dp rfl (pop_move rfl) ?_
  first
  | refine de rfl (eop_lenm (i := 0) ty30 rfl rfl ?_)
  | refine de rfl (eop_lenm (i := 1) ty30 rfl rfl ?_)
  | refine de rfl (eop_lenm (i := 2) ty30 rfl rfl ?_)
  | refine de rfl (eop_lenm (i := 3) ty30 rfl rfl ?_)
  refine dp rfl (pop_move rfl) ?_
  first
  | refine de rfl (eop_callx (i := 0) ca70 rfl (WeakL.refl _) rfl (c_slices_stableCmpFunc_api_Sale hca hp hl) ?_)
  | refine de rfl (eop_callx (i := 1) ca70 rfl (WeakL.refl _) rfl (c_slices_stableCmpFunc_api_Sale hca hp hl) ?_)
  | refine de rfl (eop_callx (i := 2) ca70 rfl (WeakL.refl _) rfl (c_slices_stableCmpFunc_api_Sale hca hp hl) ?_)
  | refine de rfl (eop_callx (i := 3) ca70 rfl (WeakL.refl _) rfl (c_slices_stableCmpFunc_api_Sale hca hp hl) ?_)
  rintro _ _ ⟨rfl, rfl⟩
  refine dn ?_
  exact ⟨_, _, Ghost.sub (Sub.refl _), _, _, rfl, Weak.refl _, rfl, rfl⟩

/-- slices.IndexFunc[[]benchwarmer/api.Sale,benchwarmer/api.Sale] -/
theorem c_slices_IndexFunc_api_Sale_api_Sale {l : List Sale} {fid : FuncId} {caps : List HVal} {p : Sale → Bool} (hca : Callable Tryz.prog fid) (hp : ∀ x, ConP Tryz.prog fid ([eSale x] ++ caps) (.bool (p x))) (hl : l.length ≤ 1000000) : ConP Tryz.prog 59 [.slice 3 (l.map eSale), .fn (.func fid) [] caps] (.int .i64 (idxF p l 0)) := by
  refine Con.of_body Tryz.func59 rfl Tryz.ntmps59 rfl rfl ?_
  refine hw_reg ?_
  refine dp rfl (pop_assign rfl) ?_
  refine dn ?_
  refine hw_seq ?_
  refine hw_reg ?_
  refine dp rfl (pop_move rfl) ?_
  refine dp rfl (pop_lenm ty30 rfl) ?_
  refine dp rfl (pop_move rfl) ?_
  refine dn ?_
  refine hw_block ?_
  refine hw_loopw [4, 5, 8, 9, 10, 11, 12, 13, 14, 15, 16, 17, 18] (fun (k : Nat) => [(8, .int .i64 k)]) (fun (k : Nat) => []) (fun (k : Nat) => k ≤ l.length ∧ (idxF p l 0 = idxF p (l.drop k) k)) (fun (k : Nat) => l.length - k) (0) ?_ ?_ ?_ ?_
  · exact ⟨Nat.zero_le _, rfl⟩
  · exact ⟨rfl, trivial⟩
  · exact List.Perm.refl _
  · intro k hinv
    obtain ⟨hk, hg⟩ := hinv
    refine hw_reg ?_
    refine dp rfl (pop_lss rfl rfl) ?_
    refine dn ?_
    refine hw_seq ?_
    refine hw_cond rfl (fun h1 => ?_) (fun h2 => ?_)
    · try simp at h1
      obtain ⟨x, hx⟩ : ∃ x, l[k]? = some x := ⟨_, List.getElem?_eq_getElem h1⟩
      have hdx := drop_cons hx
      rw [hdx] at hg
      refine hw_skip ?_
      refine seqQ_n ?_
      refine hw_seq ?_
      refine hw_block ?_
      refine hw_reg ?_
      refine dp rfl (pop_move rfl) ?_
      refine dp rfl (pop_assign rfl) ?_
      refine dn ?_
      refine hw_reg ?_
      refine dp rfl (pop_move rfl) ?_
      refine dp rfl (pop_move rfl) ?_
      refine dp rfl (pop_move rfl) ?_
      refine dp rfl (pop_idx ty30 ty43 rfl rfl rfl (by first | assumption | simp_all)) ?_
      refine dp rfl (pop_loadw ty43 rfl rfl rfl rfl) ?_
      refine dp rfl (pop_callv hca rfl rfl (WeakL.refl _) (hp _)) ?_
      refine dn ?_
      refine hw_cond rfl (fun h3 => ?_) (fun h4 => ?_)
      · try simp at h3
        refine hw_reg ?_
        refine dp rfl (pop_move rfl) ?_
        refine dp rfl (pop_assign rfl) ?_
        refine dn ?_
        refine hw_ret ?_
        refine ret_p rfl ?_
        show HVal.int .i64 _ = _
        first | (rw [hg]; rfl) | (rw [hg]; simp_all [idxF])
      · try simp at h4
        refine hw_skip ?_
        refine blockQ_n ?_
        refine seqQ_n ?_
        refine hw_reg1 ?_
        refine dp rfl (pop_add64 rfl rfl (by omega) (by omega)) ?_
        refine dp rfl (pop_move rfl) ?_
        refine dn ?_
        refine ⟨k + 1, ?_, ?_, ⟨rfl, trivial⟩, (by repeat (first | exact keeps_refl | refine keeps_upd rfl ?_ | refine keeps_loop rfl rfl ?_)), List.Perm.refl _⟩
        · refine ⟨by omega, ?_⟩
          rw [hg, idxF, if_neg (by simp_all)]; rfl
        · dsimp only; omega
    · try simp at h2
      have hnk : l.length ≤ k := by omega
      obtain rfl : k = l.length := by omega
      rw [drop_all (Nat.le_refl _)] at hg
      refine hw_exit ?_
      refine seqQ_x ?_
      refine loopQ_x ?_
      refine blockQ_eq ?_
      refine seqQ_n ?_
      refine hw_reg ?_
      refine dp rfl (pop_assign rfl) ?_
      refine dn ?_
      refine hw_ret ?_
      refine ret_p rfl ?_
      show HVal.int .i64 _ = _
      first | (rw [hg]; rfl) | (rw [hg]; simp_all [idxF])

/-- slices.ContainsFunc[[]benchwarmer/api.Sale,benchwarmer/api.Sale] -/
theorem c_slices_ContainsFunc_api_Sale_api_Sale {l : List Sale} {fid : FuncId} {caps : List HVal} {p : Sale → Bool} (hca : Callable Tryz.prog fid) (hp : ∀ x, ConP Tryz.prog fid ([eSale x] ++ caps) (.bool (p x))) (hl : l.length ≤ 1000000) : ConP Tryz.prog 35 [.slice 3 (l.map eSale), .fn (.func fid) [] caps] (.bool (l.any p)) := by
  refine Con.of_body Tryz.func35 rfl Tryz.ntmps35 rfl rfl ?_
  refine hw_reg ?_
  refine dp rfl (pop_assign rfl) ?_
  refine dn ?_
  refine hw_reg ?_
  refine dp rfl (pop_move rfl) ?_
  refine dp rfl (pop_move rfl) ?_
  refine dp rfl (pop_call ca59 rfl (WeakL.refl _) (c_slices_IndexFunc_api_Sale_api_Sale hca hp hl)) ?_
  refine dp rfl (pop_geq rfl rfl) ?_
  refine dp rfl (pop_assign rfl) ?_
  refine dn ?_
  refine hw_ret ?_
  refine ret_p rfl ?_
  congr 1; exact idxF_nonneg p l 0 (by omega)

/-- slices.IndexFunc[[]benchwarmer/api.Pair,benchwarmer/api.Pair] -/
theorem c_slices_IndexFunc_api_Pair_api_Pair {l : List PairS} {fid : FuncId} {caps : List HVal} {p : PairS → Bool} (hca : Callable Tryz.prog fid) (hp : ∀ x, ConP Tryz.prog fid ([ePair x] ++ caps) (.bool (p x))) (hl : l.length ≤ 1000000) : ConP Tryz.prog 69 [.slice 2 (l.map ePair), .fn (.func fid) [] caps] (.int .i64 (idxF p l 0)) := by
  refine Con.of_body Tryz.func69 rfl Tryz.ntmps69 rfl rfl ?_
  refine hw_reg ?_
  refine dp rfl (pop_assign rfl) ?_
  refine dn ?_
  refine hw_seq ?_
  refine hw_reg ?_
  refine dp rfl (pop_move rfl) ?_
  refine dp rfl (pop_lenm ty33 rfl) ?_
  refine dp rfl (pop_move rfl) ?_
  refine dn ?_
  refine hw_block ?_
  refine hw_loopw [4, 5, 8, 9, 10, 11, 12, 13, 14, 15, 16, 17, 18] (fun (k : Nat) => [(8, .int .i64 k)]) (fun (k : Nat) => []) (fun (k : Nat) => k ≤ l.length ∧ (idxF p l 0 = idxF p (l.drop k) k)) (fun (k : Nat) => l.length - k) (0) ?_ ?_ ?_ ?_
  · exact ⟨Nat.zero_le _, rfl⟩
  · exact ⟨rfl, trivial⟩
  · exact List.Perm.refl _
  · intro k hinv
    obtain ⟨hk, hg⟩ := hinv
    refine hw_reg ?_
    refine dp rfl (pop_lss rfl rfl) ?_
    refine dn ?_
    refine hw_seq ?_
    refine hw_cond rfl (fun h1 => ?_) (fun h2 => ?_)
    · try simp at h1
      obtain ⟨x, hx⟩ : ∃ x, l[k]? = some x := ⟨_, List.getElem?_eq_getElem h1⟩
      have hdx := drop_cons hx
      rw [hdx] at hg
      refine hw_skip ?_
      refine seqQ_n ?_
      refine hw_seq ?_
      refine hw_block ?_
      refine hw_reg ?_
      refine dp rfl (pop_move rfl) ?_
      refine dp rfl (pop_assign rfl) ?_
      refine dn ?_
      refine hw_reg ?_
      refine dp rfl (pop_move rfl) ?_
      refine dp rfl (pop_move rfl) ?_
      refine dp rfl (pop_move rfl) ?_
      refine dp rfl (pop_idx ty33 ty56 rfl rfl rfl (by first | assumption | simp_all)) ?_
      refine dp rfl (pop_loadw ty56 rfl rfl rfl rfl) ?_
      refine dp rfl (pop_callv hca rfl rfl (WeakL.refl _) (hp _)) ?_
      refine dn ?_
      refine hw_cond rfl (fun h3 => ?_) (fun h4 => ?_)
      · try simp at h3
        refine hw_reg ?_
        refine dp rfl (pop_move rfl) ?_
        refine dp rfl (pop_assign rfl) ?_
        refine dn ?_
        refine hw_ret ?_
        refine ret_p rfl ?_
        show HVal.int .i64 _ = _
        first | (rw [hg]; rfl) | (rw [hg]; simp_all [idxF])
      · try simp at h4
        refine hw_skip ?_
        refine blockQ_n ?_
        refine seqQ_n ?_
        refine hw_reg1 ?_
        refine dp rfl (pop_add64 rfl rfl (by omega) (by omega)) ?_
        refine dp rfl (pop_move rfl) ?_
        refine dn ?_
        refine ⟨k + 1, ?_, ?_, ⟨rfl, trivial⟩, (by repeat (first | exact keeps_refl | refine keeps_upd rfl ?_ | refine keeps_loop rfl rfl ?_)), List.Perm.refl _⟩
        · refine ⟨by omega, ?_⟩
          rw [hg, idxF, if_neg (by simp_all)]; rfl
        · dsimp only; omega
    · try simp at h2
      have hnk : l.length ≤ k := by omega
      obtain rfl : k = l.length := by omega
      rw [drop_all (Nat.le_refl _)] at hg
      refine hw_exit ?_
      refine seqQ_x ?_
      refine loopQ_x ?_
      refine blockQ_eq ?_
      refine seqQ_n ?_
      refine hw_reg ?_
      refine dp rfl (pop_assign rfl) ?_
      refine dn ?_
      refine hw_ret ?_
      refine ret_p rfl ?_
      show HVal.int .i64 _ = _
      first | (rw [hg]; rfl) | (rw [hg]; simp_all [idxF])

/-- slices.ContainsFunc[[]benchwarmer/api.Pair,benchwarmer/api.Pair] -/
theorem c_slices_ContainsFunc_api_Pair_api_Pair {l : List PairS} {fid : FuncId} {caps : List HVal} {p : PairS → Bool} (hca : Callable Tryz.prog fid) (hp : ∀ x, ConP Tryz.prog fid ([ePair x] ++ caps) (.bool (p x))) (hl : l.length ≤ 1000000) : ConP Tryz.prog 48 [.slice 2 (l.map ePair), .fn (.func fid) [] caps] (.bool (l.any p)) := by
  refine Con.of_body Tryz.func48 rfl Tryz.ntmps48 rfl rfl ?_
  refine hw_reg ?_
  refine dp rfl (pop_assign rfl) ?_
  refine dn ?_
  refine hw_reg ?_
  refine dp rfl (pop_move rfl) ?_
  refine dp rfl (pop_move rfl) ?_
  refine dp rfl (pop_call ca69 rfl (WeakL.refl _) (c_slices_IndexFunc_api_Pair_api_Pair hca hp hl)) ?_
  refine dp rfl (pop_geq rfl rfl) ?_
  refine dp rfl (pop_assign rfl) ?_
  refine dn ?_
  refine hw_ret ?_
  refine ret_p rfl ?_
  congr 1; exact idxF_nonneg p l 0 (by omega)

/-- slices.Equal[[]benchwarmer/api.Pair,benchwarmer/api.Pair] -/
theorem c_slices_Equal_api_Pair_api_Pair {l m : List PairS} (hl : l.length ≤ 1000000) : ConP Tryz.prog 22 [ePairs l, ePairs m] (.bool (eqSts ePair l m)) := by
  refine Con.of_body Tryz.func22 rfl Tryz.ntmps22 rfl rfl ?_
  refine hw_reg ?_
  refine dp rfl (pop_assign rfl) ?_
  refine dn ?_
  refine hw_seq ?_
  refine hw_reg ?_
  refine dp rfl (pop_move rfl) ?_
  refine dp rfl (pop_lenm ty33 rfl) ?_
  refine dp rfl (pop_move rfl) ?_
  refine dp rfl (pop_lenm ty33 rfl) ?_
  refine dp rfl (pop_neq rfl rfl) ?_
  refine dn ?_
  refine hw_cond rfl (fun h1 => ?_) (fun h2 => ?_)
  · try simp at h1
    refine hw_reg ?_
    refine dp rfl (pop_assign rfl) ?_
    refine dn ?_
    refine hw_ret ?_
    refine ret_p rfl ?_
    show HVal.bool _ = _
    first | (congr 1; symm; exact eqSts_len (by omega)) | (rw [hg.2, eqSts, show eqSt ePair x y = false from h5]; rfl) | (rw [hg.2, drop_all (Nat.le_of_eq hg.1.symm)]; rfl)
  · try simp at h2
    refine hw_skip ?_
    refine seqQ_n ?_
    refine hw_seq ?_
    refine hw_reg ?_
    refine dp rfl (pop_move rfl) ?_
    refine dp rfl (pop_lenm ty33 rfl) ?_
    refine dp rfl (pop_move rfl) ?_
    refine dn ?_
    refine hw_block ?_
    refine hw_loopw [4, 5, 13, 14, 15, 16, 17, 18, 19, 20, 21, 22, 23, 24, 25] (fun (k : Nat) => [(13, .int .i64 k)]) (fun (k : Nat) => []) (fun (k : Nat) => k ≤ l.length ∧ (l.length = m.length ∧ eqSts ePair l m = eqSts ePair (l.drop k) (m.drop k))) (fun (k : Nat) => l.length - k) (0) ?_ ?_ ?_ ?_
    · refine ⟨Nat.zero_le _, ?_, rfl⟩
      omega
    · exact ⟨rfl, trivial⟩
    · exact List.Perm.refl _
    · intro k hinv
      obtain ⟨hk, hg⟩ := hinv
      refine hw_reg ?_
      refine dp rfl (pop_lss rfl rfl) ?_
      refine dn ?_
      refine hw_seq ?_
      refine hw_cond rfl (fun h3 => ?_) (fun h4 => ?_)
      · try simp at h3
        obtain ⟨x, hx⟩ : ∃ x, l[k]? = some x := ⟨_, List.getElem?_eq_getElem h3⟩
        have hdx := drop_cons hx
        obtain ⟨y, hy⟩ : ∃ y, m[k]? = some y := ⟨_, List.getElem?_eq_getElem (by omega)⟩
        rw [hdx, drop_cons hy] at hg
        refine hw_skip ?_
        refine seqQ_n ?_
        refine hw_seq ?_
        refine hw_block ?_
        refine hw_reg ?_
        refine dp rfl (pop_move rfl) ?_
        refine dp rfl (pop_assign rfl) ?_
        refine dn ?_
        refine hw_draw (fun _ => True) [] mixed ?_
        refine ahp 0 rfl rfl (by kernel_rfl) (by kernel_rfl) (pop_move rfl) ?_
        refine ahp 1 rfl rfl (by kernel_rfl) (by kernel_rfl) (pop_move rfl) ?_
        refine ahp 2 rfl rfl (by kernel_rfl) (by kernel_rfl) (pop_idx ty33 ty56 rfl rfl rfl (by first | assumption | simp_all)) ?_
        refine ahp 3 rfl rfl (by kernel_rfl) (by kernel_rfl) (pop_loadw ty56 rfl rfl rfl rfl) ?_
        refine ahp 4 rfl rfl (by kernel_rfl) (by kernel_rfl) (pop_move rfl) ?_
        refine ahp 5 rfl rfl (by kernel_rfl) (by kernel_rfl) (pop_move rfl) ?_
        refine ahp 6 rfl rfl (by kernel_rfl) (by kernel_rfl) (pop_idx ty33 ty56 rfl rfl rfl (by first | assumption | simp_all)) ?_
        refine ahp 7 rfl rfl (by kernel_rfl) (by kernel_rfl) (pop_loadw ty56 rfl rfl rfl rfl) ?_
        refine ahp 8 rfl rfl (by kernel_rfl) (by kernel_rfl) (pop_neqst ty56 eq56 rfl rfl ⟨rfl, ⟨_, _, _, _, ty9, rfl⟩, ⟨rfl, ⟨_, _, _, _, ty9, rfl⟩, trivial⟩⟩) ?_
        refine ahz (by kernel_rfl) ?_
        refine hw_cond rfl (fun h5 => ?_) (fun h6 => ?_)
        · try simp at h5
          refine hw_reg ?_
          refine dp rfl (pop_assign rfl) ?_
          refine dn ?_
          refine hw_ret ?_
          refine ret_p rfl ?_
          show HVal.bool _ = _
          first | (congr 1; symm; exact eqSts_len (by omega)) | (rw [hg.2, eqSts, show eqSt ePair x y = false from h5]; rfl) | (rw [hg.2, drop_all (Nat.le_of_eq hg.1.symm)]; rfl)
        · try simp at h6
          refine hw_skip ?_
          refine blockQ_n ?_
          refine seqQ_n ?_
          refine hw_reg1 ?_
          refine dp rfl (pop_add64 rfl rfl (by omega) (by omega)) ?_
          refine dp rfl (pop_move rfl) ?_
          refine dn ?_
          refine ⟨k + 1, ?_, ?_, ⟨rfl, trivial⟩, (by repeat (first | exact keeps_refl | refine keeps_upd rfl ?_ | refine keeps_loop rfl rfl ?_)), List.Perm.refl _⟩
          · refine ⟨by omega, hg.1, ?_⟩
            rw [hg.2, eqSts, show eqSt ePair x y = true from h6]; rfl
          · dsimp only; omega
      · try simp at h4
        have hnk : l.length ≤ k := by omega
        obtain rfl : k = l.length := by omega
        rw [drop_all (Nat.le_refl _)] at hg
        refine hw_exit ?_
        refine seqQ_x ?_
        refine loopQ_x ?_
        refine blockQ_eq ?_
        refine seqQ_n ?_
        refine hw_reg ?_
        refine dp rfl (pop_assign rfl) ?_
        refine dn ?_
        refine hw_ret ?_
        refine ret_p rfl ?_
        show HVal.bool _ = _
        first | (congr 1; symm; exact eqSts_len (by omega)) | (rw [hg.2, eqSts, show eqSt ePair x y = false from h5]; rfl) | (rw [hg.2, drop_all (Nat.le_of_eq hg.1.symm)]; rfl)

/-- strconv.Itoa of any number -/
theorem c_Itoa {n : Int} (h0 : -9223372036854775808 ≤ n) (h1 : n ≤ 9223372036854775807) : ConP Tryz.prog 27 [.int .i64 n] (.str (Lib.itoa n)) :=
  conp_itoa (by kernel_rfl) fun w ht => Any.strconv_Itoa Tryz.laysm171 n h0 h1 w ht

theorem VL_two {I : Imm} {c d : HVal} {vs : List Value} (h : VL I [c, d] vs) : ∃ u v, vs = [u, v] ∧ V I c u ∧ V I d v := by
  have h1 := h.1
  rcases vs with _ | ⟨u, _ | ⟨v, _ | ⟨w, r⟩⟩⟩
  · simp at h1
  · simp at h1
  · exact ⟨u, v, rfl, h.head, h.tail.head⟩
  · simp at h1
theorem trimMinus (s : Str) : Lib.trimPrefix s [45] = cutMinus s := by
  unfold Lib.trimPrefix Lib.hasPrefix
  cases s with
  | nil => rfl
  | cons c r =>
    by_cases h : c = 45
    · subst h; simp [cutMinus]
    · have h' : ¬ (45 : UInt8) = c := fun e => h e.symm
      simp only [List.isPrefixOf, beq_iff_eq, h', Bool.and_eq_true, false_and, if_false]
      unfold cutMinus
      split
      · rename_i heq; simp at heq; exact absurd heq.1 h
      · rfl
/-- strings.TrimPrefix of a minus -/
theorem c_strings_TrimPrefix {s : Str} : ConP Tryz.prog 66 [.str s, .str [45]] (.str (cutMinus s)) :=
  conp_of_calls fun I w args ha => by
    obtain ⟨u, v, rfl, hu, hv⟩ := VL_two ha
    obtain rfl := hu.str_inv
    obtain rfl := hv.str_inv
    refine ⟨_, .str _, ?_⟩
    have := Any.strings_TrimPrefix Tryz.lays101 ⟨s.toArray⟩ ⟨[45].toArray⟩ w
    rw [show (⟨s.toArray⟩ : ByteArray).data.toList = s by simp, show (⟨[45].toArray⟩ : ByteArray).data.toList = [45] by simp, trimMinus] at this
    exact this
/-- strconv.Atoi of a short numeral -/
theorem c_strconv_Atoi {s : Str} (hl : s.length ≤ 18) (h : (Lib.atoi s).isSome = true) : ConP Tryz.prog 68 [.str s] (.tup [.int .i64 (numV s), .raw .nilIface]) :=
  conp_atoi fun w => Any.strconv_Atoi Tryz.lays172 ⟨s.toArray⟩ (numV s) (by simpa [ByteArray.size] using hl) (by
    obtain ⟨n, hn⟩ := Option.isSome_iff_exists.1 h
    simp [numV, hn]) w

/-- benchwarmer/draft.CheckHall -/
theorem c_draft_CheckHall {h : Hall} (ht : h.Teams.length ≤ 1000000) (hp : h.Players.length ≤ 1000000) : ConP Tryz.prog 10 [eHall h] (.int .i64 (hallFault h)) := by
  refine Con.of_body Tryz.func10 rfl Tryz.ntmps10 rfl rfl ?_
  refine hw_reg ?_
  refine dp rfl (pop_box rfl rfl) ?_
  refine dp rfl (pop_assign rfl) ?_
  refine dn ?_
  refine hw_seq ?_
  refine hw_draw (fun _ => True) [] mixed ?_
  refine ahp 0 rfl rfl (by kernel_rfl) (by kernel_rfl) (pop_fieldAddr ty28 rfl ty26 (by decide) rfl) ?_
  refine ahp 1 rfl rfl (by kernel_rfl) (by kernel_rfl) (pop_load ty26 rfl rfl rfl) ?_
  refine ahp 2 rfl rfl (by kernel_rfl) (by kernel_rfl) (pop_call ca38 rfl (WeakL.refl _) (c_draft_teamsFault (by first | assumption | omega | (simp; omega) | simp_all))) ?_
  refine ahp 3 rfl rfl (by kernel_rfl) (by kernel_rfl) (pop_fieldAddr ty28 rfl ty26 (by decide) rfl) ?_
  refine ahp 4 rfl rfl (by kernel_rfl) (by kernel_rfl) (pop_load ty26 rfl rfl rfl) ?_
  refine ahp 5 rfl rfl (by kernel_rfl) (by kernel_rfl) (pop_call ca39 rfl (WeakL.refl _) (c_draft_playersFault (by first | assumption | omega | (simp; omega) | simp_all))) ?_
  refine ahp 6 rfl rfl (by kernel_rfl) (by kernel_rfl) (pop_buildSlice (hs := [_, _]) ty87 ty35 rfl rfl (by decide) (by decide) rfl) ?_
  refine ahp 7 rfl rfl (by kernel_rfl) (by kernel_rfl) (pop_call ca37 rfl (WeakL.refl _) (c_base_First (l := [_, _]) (by simp))) ?_
  refine ahp 8 rfl rfl (by kernel_rfl) (by kernel_rfl) (pop_assign rfl) ?_
  refine ahz (by kernel_rfl) ?_
  refine hw_reg ?_
  refine dp rfl (pop_move rfl) ?_
  refine dp rfl (pop_neq rfl rfl) ?_
  refine dn ?_
  refine hw_cond rfl (fun h1 => ?_) (fun h2 => ?_)
  · try simp at h1
    refine hw_reg ?_
    refine dp rfl (pop_move rfl) ?_
    refine dp rfl (pop_assign rfl) ?_
    refine dn ?_
    refine hw_ret ?_
    refine ret_p rfl ?_
    show HVal.int .i64 _ = _
    simp_all [hallFault]
  · try simp at h2
    refine hw_skip ?_
    refine seqQ_n ?_
    refine hw_seq ?_
    refine hw_block ?_
    refine hw_reg ?_
    refine dp rfl (pop_fieldAddr ty28 rfl ty3 (by decide) rfl) ?_
    refine dp rfl (pop_load ty3 rfl rfl rfl) ?_
    refine dp rfl (pop_call ca40 rfl (WeakL.refl _) c_base_Out) ?_
    refine dp rfl (pop_move rfl) ?_
    refine dg rfl rfl (fun hc => ⟨_, OpenTo.refl _, pop_fieldAddr ty28 rfl ty3 (by decide) rfl⟩) ?_
    refine dg rfl rfl (fun hc => ⟨_, OpenTo.upd (t := 20) rfl (by first | exact hc | simp_all) (OpenTo.refl _), pop_load ty3 rfl rfl rfl⟩) ?_
    refine dg rfl rfl (fun hc => ⟨_, OpenTo.upd (t := 21) rfl (by first | exact hc | simp_all) (OpenTo.refl _), pop_call ca40 rfl (WeakL.refl _) c_base_Out⟩) ?_
    refine dp rfl (pop_picko rfl (.inl rfl) (.inr ⟨_, rfl, fun h => by simp_all⟩)) ?_
    refine dp rfl (pop_assign rfl) ?_
    refine dn ?_
    refine hw_cond rfl (fun h3 => ?_) (fun h4 => ?_)
    · try simp at h3
      refine hw_reg ?_
      refine dp rfl (pop_assign rfl) ?_
      refine dn ?_
      refine hw_ret ?_
      refine ret_p rfl ?_
      show HVal.int .i64 _ = _
      simp_all [hallFault]
    · try simp at h4
      refine hw_reg ?_
      refine dp rfl (pop_fieldAddr ty28 rfl ty26 (by decide) rfl) ?_
      refine dp rfl (pop_load ty26 rfl rfl rfl) ?_
      refine dp rfl (pop_lenm ty26 rfl) ?_
      refine dp rfl (pop_fieldAddr ty28 rfl ty26 (by decide) rfl) ?_
      refine dp rfl (pop_load ty26 rfl rfl rfl) ?_
      refine dp rfl (pop_lenm ty26 rfl) ?_
      refine dp rfl (pop_fieldAddr ty28 rfl ty3 (by decide) rfl) ?_
      refine dp rfl (pop_load ty3 rfl rfl rfl) ?_
      have hR := out_f (n := h.Places) (lo := 1) (hi := 30) (by simp_all)
      have hm := mul_bd (a := (h.Teams.length : Int)) (b := h.Places) (A := 1000000) (B := 30) (by omega) (by omega) (by omega) (by omega)
      refine dp rfl (pop_mul64 rfl rfl (by omega) (by omega)) ?_
      refine dp rfl (pop_lss rfl rfl) ?_
      refine dp rfl (pop_move rfl) ?_
      refine dg rfl rfl (fun hc => ⟨_, OpenTo.refl _, pop_fieldAddr ty28 rfl ty3 (by decide) rfl⟩) ?_
      refine dg rfl rfl (fun hc => ⟨_, OpenTo.upd (t := 36) rfl (by first | exact hc | simp_all) (OpenTo.refl _), pop_load ty3 rfl rfl rfl⟩) ?_
      refine dg rfl rfl (fun hc => ⟨_, OpenTo.refl _, pop_fieldAddr ty28 rfl ty3 (by decide) rfl⟩) ?_
      refine dg rfl rfl (fun hc => ⟨_, OpenTo.upd (t := 38) rfl (by first | exact hc | simp_all) (OpenTo.refl _), pop_load ty3 rfl rfl rfl⟩) ?_
      refine dg rfl rfl (fun hc => ⟨_, OpenTo.upd (t := 39) rfl (by first | exact hc | simp_all) (OpenTo.upd (t := 37) rfl (by first | exact hc | simp_all) (OpenTo.refl _)), pop_lss rfl rfl⟩) ?_
      refine dp rfl (pop_picko rfl (.inl rfl) (.inr ⟨_, rfl, fun h => by simp_all⟩)) ?_
      refine dp rfl (pop_assign rfl) ?_
      refine dn ?_
      refine hw_cond rfl (fun h5 => ?_) (fun h6 => ?_)
      · try simp at h5
        refine hw_reg ?_
        refine dp rfl (pop_assign rfl) ?_
        refine dn ?_
        refine hw_ret ?_
        refine ret_p rfl ?_
        show HVal.int .i64 _ = _
        simp_all [hallFault]
      · try simp at h6
        refine hw_skip ?_
        refine blockQ_n ?_
        refine seqQ_n ?_
        refine hw_reg ?_
        refine dp rfl (pop_assign rfl) ?_
        refine dn ?_
        refine hw_ret ?_
        refine ret_p rfl ?_
        show HVal.int .i64 _ = _
        simp_all [hallFault]

/-- benchwarmer/benchref1.HallFault -/
theorem c_benchref1_HallFault {h : Hall} (ht : h.Teams.length ≤ 1000000) (hp : h.Players.length ≤ 1000000) (hs1 : ∀ s ∈ h.Teams, s.length ≤ 1000000) (hs2 : ∀ s ∈ h.Players, s.length ≤ 1000000) : ConP Tryz.prog 8 [eHall h] (.int .i64 (hallFault h)) := by
  refine Con.of_body Tryz.func8 rfl Tryz.ntmps8 rfl rfl ?_
  refine hw_reg ?_
  refine dp rfl (pop_box rfl rfl) ?_
  refine dp rfl (pop_assign rfl) ?_
  refine dn ?_
  refine hw_seq ?_
  refine hw_draw (fun _ => True) [] mixed ?_
  refine ahp 0 rfl rfl (by kernel_rfl) (by kernel_rfl) (pop_fieldAddr ty28 rfl ty26 (by decide) rfl) ?_
  refine ahp 1 rfl rfl (by kernel_rfl) (by kernel_rfl) (pop_load ty26 rfl rfl rfl) ?_
  refine ahp 2 rfl rfl (by kernel_rfl) (by kernel_rfl) (pop_call ca31 rfl (WeakL.refl _) (c_benchref1_teamsFault (by first | assumption | omega | (simp; omega) | simp_all) (by first | assumption | omega | (simp; omega) | simp_all))) ?_
  refine ahp 3 rfl rfl (by kernel_rfl) (by kernel_rfl) (pop_fieldAddr ty28 rfl ty26 (by decide) rfl) ?_
  refine ahp 4 rfl rfl (by kernel_rfl) (by kernel_rfl) (pop_load ty26 rfl rfl rfl) ?_
  refine ahp 5 rfl rfl (by kernel_rfl) (by kernel_rfl) (pop_call ca32 rfl (WeakL.refl _) (c_benchref1_playersFault (by first | assumption | omega | (simp; omega) | simp_all) (by first | assumption | omega | (simp; omega) | simp_all))) ?_
  refine ahp 6 rfl rfl (by kernel_rfl) (by kernel_rfl) (pop_fieldAddr ty28 rfl ty3 (by decide) rfl) ?_
  refine ahp 7 rfl rfl (by kernel_rfl) (by kernel_rfl) (pop_load ty3 rfl rfl rfl) ?_
  refine ahp 8 rfl rfl (by kernel_rfl) (by kernel_rfl) (pop_call ca33 rfl (WeakL.refl _) c_benchref1_SpanFault) ?_
  refine ahp 9 rfl rfl (by kernel_rfl) (by kernel_rfl) (pop_fieldAddr ty28 rfl ty3 (by decide) rfl) ?_
  refine ahp 10 rfl rfl (by kernel_rfl) (by kernel_rfl) (pop_load ty3 rfl rfl rfl) ?_
  refine ahp 11 rfl rfl (by kernel_rfl) (by kernel_rfl) (pop_call ca33 rfl (WeakL.refl _) c_benchref1_SpanFault) ?_
  refine ahp 12 rfl rfl (by kernel_rfl) (by kernel_rfl) (pop_buildSlice (hs := [_, _, _, _]) ty87 ty35 rfl rfl (by decide) (by decide) rfl) ?_
  refine ahp 13 rfl rfl (by kernel_rfl) (by kernel_rfl) (pop_call ca15 rfl (WeakL.refl _) (c_cmp_Or_api_Errno (l := [_, _, _, _]) (by simp))) ?_
  refine ahp 14 rfl rfl (by kernel_rfl) (by kernel_rfl) (pop_assign rfl) ?_
  refine ahz (by kernel_rfl) ?_
  refine hw_reg ?_
  refine dp rfl (pop_move rfl) ?_
  refine dp rfl (pop_neq rfl rfl) ?_
  refine dn ?_
  refine hw_cond rfl (fun h1 => ?_) (fun h2 => ?_)
  · try simp at h1
    refine hw_reg ?_
    refine dp rfl (pop_move rfl) ?_
    refine dp rfl (pop_assign rfl) ?_
    refine dn ?_
    refine hw_ret ?_
    refine ret_p rfl ?_
    show HVal.int .i64 _ = _
    rw [← hall_ref]
    simp_all [spanI]
  · try simp at h2
    refine hw_skip ?_
    refine seqQ_n ?_
    refine hw_seq ?_
    refine hw_reg ?_
    refine dp rfl (pop_fieldAddr ty28 rfl ty26 (by decide) rfl) ?_
    refine dp rfl (pop_load ty26 rfl rfl rfl) ?_
    refine dp rfl (pop_lenm ty26 rfl) ?_
    refine dp rfl (pop_fieldAddr ty28 rfl ty26 (by decide) rfl) ?_
    refine dp rfl (pop_load ty26 rfl rfl rfl) ?_
    refine dp rfl (pop_lenm ty26 rfl) ?_
    refine dp rfl (pop_fieldAddr ty28 rfl ty3 (by decide) rfl) ?_
    refine dp rfl (pop_load ty3 rfl rfl rfl) ?_
    have hR := out_f (n := h.Places) (lo := 1) (hi := 30) (or4 h2)
    have hm := mul_bd (a := (h.Teams.length : Int)) (b := h.Places) (A := 1000000) (B := 30) (by omega) (by omega) (by omega) (by omega)
    refine dp rfl (pop_mul64 rfl rfl (by omega) (by omega)) ?_
    refine dp rfl (pop_lss rfl rfl) ?_
    refine dp rfl (pop_move rfl) ?_
    refine dg rfl rfl (fun hc => ⟨_, OpenTo.refl _, pop_fieldAddr ty28 rfl ty3 (by decide) rfl⟩) ?_
    refine dg rfl rfl (fun hc => ⟨_, OpenTo.upd (t := 32) rfl (by first | exact hc | simp_all) (OpenTo.refl _), pop_load ty3 rfl rfl rfl⟩) ?_
    refine dg rfl rfl (fun hc => ⟨_, OpenTo.refl _, pop_fieldAddr ty28 rfl ty3 (by decide) rfl⟩) ?_
    refine dg rfl rfl (fun hc => ⟨_, OpenTo.upd (t := 34) rfl (by first | exact hc | simp_all) (OpenTo.refl _), pop_load ty3 rfl rfl rfl⟩) ?_
    refine dg rfl rfl (fun hc => ⟨_, OpenTo.upd (t := 35) rfl (by first | exact hc | simp_all) (OpenTo.upd (t := 33) rfl (by first | exact hc | simp_all) (OpenTo.refl _)), pop_lss rfl rfl⟩) ?_
    refine dp rfl (pop_picko rfl (.inl rfl) (.inr ⟨_, rfl, fun h => by simp_all⟩)) ?_
    refine dn ?_
    refine hw_cond rfl (fun h3 => ?_) (fun h4 => ?_)
    · try simp at h3
      refine hw_reg ?_
      refine dp rfl (pop_assign rfl) ?_
      refine dn ?_
      refine hw_ret ?_
      refine ret_p rfl ?_
      show HVal.int .i64 _ = _
      rw [← hall_ref]
      simp_all [spanI]
    · try simp at h4
      refine hw_skip ?_
      refine seqQ_n ?_
      refine hw_reg ?_
      refine dp rfl (pop_assign rfl) ?_
      refine dn ?_
      refine hw_ret ?_
      refine ret_p rfl ?_
      show HVal.int .i64 _ = _
      rw [← hall_ref]
      simp_all [spanI]

/-- benchwarmer/benchref1.NoneFault -/
theorem c_benchref1_NoneFault {b : Bool}  : ConP Tryz.prog 16 [.bool b] (.int .i64 (if b then 8 else 0)) := by
  refine Con.of_body Tryz.func16 rfl Tryz.ntmps16 rfl rfl ?_
  refine hw_reg ?_
  refine dp rfl (pop_assign rfl) ?_
  refine dn ?_
  refine hw_seq ?_
  refine hw_reg ?_
  refine dp rfl (pop_move rfl) ?_
  refine dn ?_
  refine hw_cond rfl (fun h1 => ?_) (fun h2 => ?_)
  · try simp at h1
    refine hw_reg ?_
    refine dp rfl (pop_assign rfl) ?_
    refine dn ?_
    refine hw_ret ?_
    refine ret_p rfl ?_
    show HVal.int .i64 _ = _
    simp_all
  · try simp at h2
    refine hw_skip ?_
    refine seqQ_n ?_
    refine hw_reg ?_
    refine dp rfl (pop_assign rfl) ?_
    refine dn ?_
    refine hw_ret ?_
    refine ret_p rfl ?_
    show HVal.int .i64 _ = _
    simp_all

/-- benchwarmer/benchref1.stands -/
theorem c_benchref1_stands {h : Hall} {l : List Sale} {t : Str} (hl : l.length ≤ 1000) (hB : ∀ x ∈ l, -2000000 ≤ x.Price ∧ x.Price ≤ 2000000) (hbu : -2000000 ≤ h.Budget ∧ h.Budget ≤ 2000000) : ConP Tryz.prog 34 [eHall h, eSales l, .str t] (.tup [.int .i64 (h.Budget - spent l t), .int .i64 (many l t)]) := by
  refine Con.of_body Tryz.func34 rfl Tryz.ntmps34 rfl rfl ?_
  refine hw_reg ?_
  refine dp rfl (pop_box rfl rfl) ?_
  refine dp rfl (pop_assign rfl) ?_
  refine dp rfl (pop_assign rfl) ?_
  refine dn ?_
  refine hw_reg ?_
  refine dp rfl (pop_fieldAddr ty28 rfl ty3 (by decide) rfl) ?_
  refine dp rfl (pop_load ty3 rfl rfl rfl) ?_
  refine dp rfl (pop_assign rfl) ?_
  refine dn ?_
  refine hw_seq ?_
  refine hw_reg ?_
  refine dp rfl (pop_move rfl) ?_
  refine dp rfl (pop_lenm ty30 rfl) ?_
  refine dp rfl (pop_move rfl) ?_
  refine dn ?_
  refine hw_block ?_
  refine hw_loopw [6, 7, 9, 14, 15, 16, 17, 18, 19, 20, 21, 22, 23, 24, 25, 26, 27, 28] (fun (k : Nat) => [(14, .int .i64 k), (6, .int .i64 (h.Budget - spent (l.take k) t)), (7, .int .i64 (many (l.take k) t))]) (fun (k : Nat) => []) (fun (k : Nat) => k ≤ l.length ∧ (True)) (fun (k : Nat) => l.length - k) (0) ?_ ?_ ?_ ?_
  · exact ⟨Nat.zero_le _, trivial⟩
  · exact ⟨rfl, some_int (by simp [spent]), some_int (by simp [many]), trivial⟩
  · exact List.Perm.refl _
  · intro k hinv
    obtain ⟨hk, -⟩ := hinv
    refine hw_reg ?_
    refine dp rfl (pop_lss rfl rfl) ?_
    refine dn ?_
    refine hw_seq ?_
    refine hw_cond rfl (fun h1 => ?_) (fun h2 => ?_)
    · try simp at h1
      obtain ⟨x, hx⟩ : ∃ x, l[k]? = some x := ⟨_, List.getElem?_eq_getElem h1⟩
      have hdx := drop_cons hx
      have hsb := spent_bd (l := l.take k) (B := 2000000) (by decide) (fun y hy => hB y (List.mem_of_mem_take hy)) t
      have hmb := many_bd (l.take k) t
      have hln : (l.take k).length ≤ 1000 := by simp; omega
      have hpx := hB x (List.mem_of_getElem? hx)
      refine hw_skip ?_
      refine seqQ_n ?_
      refine hw_seq ?_
      refine hw_block ?_
      refine hw_reg ?_
      refine dp rfl (pop_idx ty30 ty43 rfl rfl rfl (by first | assumption | simp_all)) ?_
      refine dp rfl (pop_loadw ty43 rfl rfl rfl rfl) ?_
      refine de rfl (eop_alloc ty43 rfl fun b9 => ?_)
      refine de0 (eop_storew ty43 rfl rfl rfl rfl rfl ?_)
      refine dn ?_
      refine hw_ghost (Ghost.fc0 9 rfl) ?_
      refine hw_reg ?_
      refine dp rfl (pop_fieldAddr ty43 rfl ty9 (by decide) rfl) ?_
      refine dp rfl (pop_load ty9 rfl rfl rfl) ?_
      refine dp rfl (pop_move rfl) ?_
      refine dp rfl (pop_eqls rfl rfl) ?_
      refine dn ?_
      refine hw_cond rfl (fun h3 => ?_) (fun h4 => ?_)
      · try simp at h3
        refine hw_reg ?_
        refine dp rfl (pop_move rfl) ?_
        refine dp rfl (pop_fieldAddr ty43 rfl ty3 (by decide) rfl) ?_
        refine dp rfl (pop_load ty3 rfl rfl rfl) ?_
        refine dp rfl (pop_sub64 rfl rfl (by omega) (by omega)) ?_
        refine dp rfl (pop_assign rfl) ?_
        refine dn ?_
        refine hw_reg1 ?_
        refine dp rfl (pop_move rfl) ?_
        refine dp rfl (pop_add64 rfl rfl (by omega) (by omega)) ?_
        refine dp rfl (pop_assign rfl) ?_
        refine dn ?_
        refine blockQ_n ?_
        refine seqQ_n ?_
        refine hw_reg1 ?_
        refine dp rfl (pop_add64 rfl rfl (by omega) (by omega)) ?_
        refine dp rfl (pop_move rfl) ?_
        refine dn ?_
        exact ⟨k + 1, ⟨by omega, trivial⟩, by dsimp only; omega, ⟨rfl, some_int (by rw [take_snoc' hx, spent_snoc, if_pos (by simpa using h3)]; omega), some_int (by rw [take_snoc' hx, many_snoc, if_pos (by simpa using h3)]), trivial⟩, (by repeat (first | exact keeps_refl | refine keeps_upd rfl ?_ | refine keeps_loop rfl rfl ?_)), List.Perm.refl _⟩
      · try simp at h4
        refine hw_skip ?_
        refine blockQ_n ?_
        refine seqQ_n ?_
        refine hw_reg1 ?_
        refine dp rfl (pop_add64 rfl rfl (by omega) (by omega)) ?_
        refine dp rfl (pop_move rfl) ?_
        refine dn ?_
        exact ⟨k + 1, ⟨by omega, trivial⟩, by dsimp only; omega, ⟨rfl, some_int (by rw [take_snoc' hx, spent_snoc, if_neg (by simpa using h4)]; omega), some_int (by rw [take_snoc' hx, many_snoc, if_neg (by simpa using h4)]; omega), trivial⟩, (by repeat (first | exact keeps_refl | refine keeps_upd rfl ?_ | refine keeps_loop rfl rfl ?_)), List.Perm.refl _⟩
    · try simp at h2
      have hnk : l.length ≤ k := by omega
      obtain rfl : k = l.length := by omega
      rw [List.take_length]
      refine hw_exit ?_
      refine seqQ_x ?_
      refine loopQ_x ?_
      refine blockQ_eq ?_
      refine seqQ_n ?_
      refine hw_reg ?_
      refine dp rfl (pop_move rfl) ?_
      refine dp rfl (pop_move rfl) ?_
      refine dp rfl (pop_assign rfl) ?_
      refine dp rfl (pop_assign rfl) ?_
      refine dn ?_
      refine hw_ret ?_
      refine ret_p rfl ?_
      rfl

/-- benchwarmer/benchref1.MostOf -/
theorem c_benchref1_MostOf {h : Hall} {l : List Sale} {t : Str} (hl : l.length ≤ 1000) (hB : ∀ x ∈ l, -2000000 ≤ x.Price ∧ x.Price ≤ 2000000) (hbu : -2000000 ≤ h.Budget ∧ h.Budget ≤ 2000000) (hpl : -2000000 ≤ h.Places ∧ h.Places ≤ 2000000) : ConP Tryz.prog 19 [eHall h, eSales l, .str t] (.int .i64 (mostOf h l t)) := by
  have hsb := spent_bd (B := 2000000) (by decide) hB t
  have hmb := many_bd l t
  refine Con.of_body Tryz.func19 rfl Tryz.ntmps19 rfl rfl ?_
  refine hw_reg ?_
  refine dp rfl (pop_box rfl rfl) ?_
  refine dp rfl (pop_assign rfl) ?_
  refine dn ?_
  refine hw_reg ?_
  refine dp rfl (pop_loadw ty28 rfl rfl rfl rfl) ?_
  refine dp rfl (pop_move rfl) ?_
  refine dp rfl (pop_move rfl) ?_
  refine dp rfl (pop_call ca34 rfl (WeakL.refl _) (c_benchref1_stands (by first | assumption | omega | (simp; omega) | simp_all) (by first | assumption | omega | (simp; omega) | simp_all) (by first | assumption | omega | (simp; omega) | simp_all))) ?_
  refine dp rfl (pop_move rfl) ?_
  refine dp rfl (pop_extract rfl rfl) ?_
  refine dp rfl (pop_extract rfl rfl) ?_
  refine dp rfl (pop_assign rfl) ?_
  refine dp rfl (pop_assign rfl) ?_
  refine dn ?_
  refine hw_seq ?_
  refine hw_reg ?_
  refine dp rfl (pop_move rfl) ?_
  refine dp rfl (pop_fieldAddr ty28 rfl ty3 (by decide) rfl) ?_
  refine dp rfl (pop_load ty3 rfl rfl rfl) ?_
  refine dp rfl (pop_eql rfl rfl) ?_
  refine dn ?_
  refine hw_cond rfl (fun h1 => ?_) (fun h2 => ?_)
  · try simp at h1
    refine hw_reg ?_
    refine dp rfl (pop_assign rfl) ?_
    refine dn ?_
    refine hw_ret ?_
    refine ret_p rfl ?_
    show HVal.int .i64 _ = _
    simp_all [mostOf]
  · try simp at h2
    refine hw_skip ?_
    refine seqQ_n ?_
    refine hw_reg ?_
    refine dp rfl (pop_move rfl) ?_
    refine dp rfl (pop_fieldAddr ty28 rfl ty3 (by decide) rfl) ?_
    refine dp rfl (pop_load ty3 rfl rfl rfl) ?_
    refine dp rfl (pop_move rfl) ?_
    refine dp rfl (pop_sub64 rfl rfl (by omega) (by omega)) ?_
    refine dp rfl (pop_sub64 rfl rfl (by omega) (by omega)) ?_
    refine dp rfl (pop_sub64 rfl rfl (by omega) (by omega)) ?_
    refine dp rfl (pop_assign rfl) ?_
    refine dn ?_
    refine hw_ret ?_
    refine ret_p rfl ?_
    show HVal.int .i64 _ = _
    simp_all [mostOf]

/-- benchwarmer/benchref1.SalesFault$1 -/
theorem c_benchref1_SalesFault_1 {y x : Sale}  : ConP Tryz.prog 36 [eSale y, .vptr (hcells (eSale x)) 0] (.bool (y.Player == x.Player)) := by
  refine Con.of_body Tryz.func36 rfl Tryz.ntmps36 rfl rfl ?_
  refine hw_reg ?_
  refine dp rfl (pop_box rfl rfl) ?_
  refine dp rfl (pop_assign rfl) ?_
  refine dn ?_
  refine hw_reg ?_
  refine dp rfl (pop_fieldAddr ty43 rfl ty9 (by decide) rfl) ?_
  refine dp rfl (pop_load ty9 rfl rfl rfl) ?_
  refine dp rfl (pop_fieldAddr ty43 rfl ty9 (by decide) rfl) ?_
  refine dp rfl (pop_load ty9 rfl rfl rfl) ?_
  refine dp rfl (pop_eqls rfl rfl) ?_
  refine dp rfl (pop_assign rfl) ?_
  refine dn ?_
  refine hw_ret ?_
  refine ret_p rfl ?_
  rfl

/-- benchwarmer/benchref1.SalesFault -/
theorem c_benchref1_SalesFault {h : Hall} {l : List Sale} (hl : l.length ≤ 1000) (hB : ∀ x ∈ l, -2000000 ≤ x.Price ∧ x.Price ≤ 2000000) (hbu : -2000000 ≤ h.Budget ∧ h.Budget ≤ 2000000) (hpl : -2000000 ≤ h.Places ∧ h.Places ≤ 2000000) (ht : h.Teams.length ≤ 1000000) (hp : h.Players.length ≤ 1000000) : ConP Tryz.prog 9 [eHall h, eSales l] (.int .i64 (salesFault h l)) := by
  refine Con.of_body Tryz.func9 rfl Tryz.ntmps9 rfl rfl ?_
  refine hw_reg ?_
  refine dp rfl (pop_box rfl rfl) ?_
  refine dp rfl (pop_assign rfl) ?_
  refine dn ?_
  refine hw_seq ?_
  refine hw_reg ?_
  refine dp rfl (pop_move rfl) ?_
  refine dp rfl (pop_lenm ty30 rfl) ?_
  refine dp rfl (pop_gtr rfl rfl) ?_
  refine dn ?_
  refine hw_cond rfl (fun h1 => ?_) (fun h2 => ?_)
  · try simp at h1
    refine hw_reg ?_
    refine dp rfl (pop_assign rfl) ?_
    refine dn ?_
    refine hw_ret ?_
    refine ret_p rfl ?_
    show HVal.int .i64 _ = _
    first | (rw [salesFault, if_pos (by omega)]; done) | (rw [hg, sgo_ne (sf3 h6 h8 h9) (by decide)]; done) | (rw [hg, sgo_ne (sf4 h6 h8 h10 h11) (by decide)]; done) | (rw [hg, sgo_ne (sf5 h6 h8 h10 h12 h13) (by decide)]; done) | (rw [hg]; rfl) | (rw [hg]; simp_all [salesGo, saleFault]; done)
  · try simp at h2
    refine hw_skip ?_
    refine seqQ_n ?_
    refine hw_seq ?_
    refine hw_reg ?_
    refine dp rfl (pop_move rfl) ?_
    refine dp rfl (pop_lenm ty30 rfl) ?_
    refine dp rfl (pop_move rfl) ?_
    refine dn ?_
    refine hw_block ?_
    refine hw_loopw (4 :: 5 :: 6 :: 7 :: 8 :: 14 :: 15 :: 16 :: 17 :: 18 :: 19 :: 20 :: 21 :: 22 :: 23 :: 24 :: 25 :: 26 :: 27 :: 28 :: 29 :: 30 :: 31 :: 32 :: 33 :: 34 :: 35 :: 36 :: 37 :: 38 :: 39 :: 40 :: 41 :: 42 :: 43 :: 44 :: 45 :: 46 :: 47 :: 48 :: 49 :: 50 :: 51 :: 52 :: 53 :: 54 :: 55 :: 56 :: 57 :: 58 :: 59 :: 60 :: 61 :: 62 :: 63 :: 64 :: 65 :: 66 :: 67 :: 68 :: 69 :: 70 :: []) (fun (k : Nat) => [(14, .int .i64 k)]) (fun (k : Nat) => []) (fun (k : Nat) => k ≤ l.length ∧ (salesFault h l = salesGo h l k (l.drop k))) (fun (k : Nat) => l.length - k) (0) ?_ ?_ ?_ ?_
    · refine ⟨Nat.zero_le _, ?_⟩
      rw [salesFault, if_neg (by omega)]; rfl
    · exact ⟨rfl, trivial⟩
    · exact List.Perm.refl _
    · intro k hinv
      obtain ⟨hk, hg⟩ := hinv
      refine hw_reg ?_
      refine dp rfl (pop_lss rfl rfl) ?_
      refine dn ?_
      refine hw_seq ?_
      refine hw_cond rfl (fun h3 => ?_) (fun h4 => ?_)
      · try simp at h3
        obtain ⟨x, hx⟩ : ∃ x, l[k]? = some x := ⟨_, List.getElem?_eq_getElem h3⟩
        have hdx := drop_cons hx
        rw [hdx] at hg
        refine hw_skip ?_
        refine seqQ_n ?_
        refine hw_seq ?_
        refine hw_block ?_
        refine hw_reg ?_
        refine dp rfl (pop_move rfl) ?_
        refine dp rfl (pop_idx ty30 ty43 rfl rfl rfl (by first | assumption | simp_all)) ?_
        refine dp rfl (pop_loadw ty43 rfl rfl rfl rfl) ?_
        refine de rfl (eop_alloc ty43 rfl fun b6 => ?_)
        refine dp rfl (pop_assign rfl) ?_
        refine de0 (eop_storew ty43 rfl rfl rfl rfl rfl ?_)
        refine dn ?_
        refine hw_ghost (Ghost.fc0 6 rfl) ?_
        refine hw_draw (fun _ => True) [] mixed ?_
        refine ahp 0 rfl rfl (by kernel_rfl) (by kernel_rfl) (pop_loadw ty28 rfl rfl rfl rfl) ?_
        refine ahp 1 rfl rfl (by kernel_rfl) (by kernel_rfl) (pop_move rfl) ?_
        refine ahp 2 rfl rfl (by kernel_rfl) (by kernel_rfl) (pop_move rfl) ?_
        refine ahp 3 rfl rfl (by kernel_rfl) (by kernel_rfl) (pop_slicem ty30 ty43 rfl rfl ⟨_, _, rfl, rfl⟩ (by omega) (by omega)) ?_
        refine ahp 4 rfl rfl (by kernel_rfl) (by kernel_rfl) (pop_fieldAddr ty43 rfl ty9 (by decide) rfl) ?_
        refine ahp 5 rfl rfl (by kernel_rfl) (by kernel_rfl) (pop_load ty9 rfl rfl rfl) ?_
        refine ahp 6 rfl rfl (by kernel_rfl) (by kernel_rfl) (pop_call ca34 rfl (WeakL.refl _) (c_benchref1_stands (l := (l.take k).drop 0) (by simp; omega) (fun y hy => hB y (List.mem_of_mem_take (by simpa using hy))) hbu)) ?_
        refine ahp 7 rfl rfl (by kernel_rfl) (by kernel_rfl) (pop_move rfl) ?_
        refine ahp 8 rfl rfl (by kernel_rfl) (by kernel_rfl) (pop_extract rfl rfl) ?_
        refine ahp 9 rfl rfl (by kernel_rfl) (by kernel_rfl) (pop_extract rfl rfl) ?_
        refine ahp 10 rfl rfl (by kernel_rfl) (by kernel_rfl) (pop_assign rfl) ?_
        refine ahp 11 rfl rfl (by kernel_rfl) (by kernel_rfl) (pop_assign rfl) ?_
        refine ahz (by kernel_rfl) ?_
        refine hw_block ?_
        refine hw_reg ?_
        refine dp rfl (pop_fieldAddr ty28 rfl ty26 (by decide) rfl) ?_
        refine dp rfl (pop_load ty26 rfl rfl rfl) ?_
        refine dp rfl (pop_fieldAddr ty43 rfl ty9 (by decide) rfl) ?_
        refine dp rfl (pop_load ty9 rfl rfl rfl) ?_
        refine dp rfl (pop_call ca17 rfl (WeakL.refl _) (c_slices_Contains_string_string (by first | assumption | omega | (simp; omega) | simp_all))) ?_
        refine dp rfl (pop_not rfl) ?_
        refine dp rfl (pop_move rfl) ?_
        refine dg rfl rfl (fun hc => ⟨_, OpenTo.refl _, pop_fieldAddr ty28 rfl ty26 (by decide) rfl⟩) ?_
        refine dg rfl rfl (fun hc => ⟨_, OpenTo.upd (t := 37) rfl (by first | exact hc | simp_all) (OpenTo.refl _), pop_load ty26 rfl rfl rfl⟩) ?_
        refine dg rfl rfl (fun hc => ⟨_, OpenTo.refl _, pop_fieldAddr ty43 rfl ty9 (by decide) rfl⟩) ?_
        refine dg rfl rfl (fun hc => ⟨_, OpenTo.upd (t := 39) rfl (by first | exact hc | simp_all) (OpenTo.refl _), pop_load ty9 rfl rfl rfl⟩) ?_
        refine dg rfl rfl (fun hc => by have hq := hc; (try simp at hq); exact ⟨_, OpenTo.upd (t := 40) rfl (by first | exact hc | simp_all) (OpenTo.upd (t := 38) rfl (by first | exact hc | simp_all) (OpenTo.refl _)), pop_call ca17 rfl (WeakL.refl _) (c_slices_Contains_string_string (by first | assumption | omega | (simp; omega) | simp_all))⟩) ?_
        refine dg rfl rfl (fun hc => ⟨_, OpenTo.upd (t := 41) rfl (by first | exact hc | simp_all) (OpenTo.refl _), pop_not rfl⟩) ?_
        refine dp rfl (pop_picko rfl (.inl rfl) (.inr ⟨_, rfl, fun h => by simp_all⟩)) ?_
        refine dp rfl (pop_assign rfl) ?_
        refine dn ?_
        refine hw_cond rfl (fun h5 => ?_) (fun h6 => ?_)
        · try simp at h5
          refine hw_reg ?_
          refine dp rfl (pop_assign rfl) ?_
          refine dn ?_
          refine hw_ret ?_
          refine ret_p rfl ?_
          show HVal.int .i64 _ = _
          first | (rw [salesFault, if_pos (by omega)]; done) | (rw [hg, sgo_ne (sf3 h6 h8 h9) (by decide)]; done) | (rw [hg, sgo_ne (sf4 h6 h8 h10 h11) (by decide)]; done) | (rw [hg, sgo_ne (sf5 h6 h8 h10 h12 h13) (by decide)]; done) | (rw [hg]; rfl) | (rw [hg]; simp_all [salesGo, saleFault]; done)
        · try simp at h6
          refine hw_reg ?_
          refine dp rfl (pop_move rfl) ?_
          refine dp rfl (pop_move rfl) ?_
          refine dp rfl (pop_slicem ty30 ty43 rfl rfl ⟨_, _, rfl, rfl⟩ (by omega) (by omega)) ?_
          refine dp rfl (pop_makeFunc rfl rfl) ?_
          refine dp rfl (pop_call ca35 rfl (WeakL.refl _) (c_slices_ContainsFunc_api_Sale_api_Sale (p := fun y => y.Player == x.Player) ca36 (fun _ => c_benchref1_SalesFault_1) (by simp; omega))) ?_
          refine dp rfl (pop_assign rfl) ?_
          refine dn ?_
          refine hw_cond rfl (fun h7 => ?_) (fun h8 => ?_)
          · try simp at h7
            refine hw_reg ?_
            refine dp rfl (pop_assign rfl) ?_
            refine dn ?_
            refine hw_ret ?_
            refine ret_p rfl ?_
            show HVal.int .i64 _ = _
            first | (rw [salesFault, if_pos (by omega)]; done) | (rw [hg, sgo_ne (sf3 h6 h8 h9) (by decide)]; done) | (rw [hg, sgo_ne (sf4 h6 h8 h10 h11) (by decide)]; done) | (rw [hg, sgo_ne (sf5 h6 h8 h10 h12 h13) (by decide)]; done) | (rw [hg]; rfl) | (rw [hg]; simp_all [salesGo, saleFault]; done)
          · try simp at h8
            refine hw_reg ?_
            refine dp rfl (pop_fieldAddr ty43 rfl ty3 (by decide) rfl) ?_
            refine dp rfl (pop_load ty3 rfl rfl rfl) ?_
            refine dp rfl (pop_lss rfl rfl) ?_
            refine dp rfl (pop_assign rfl) ?_
            refine dn ?_
            refine hw_cond rfl (fun h9 => ?_) (fun h10 => ?_)
            · try simp at h9
              refine hw_reg ?_
              refine dp rfl (pop_assign rfl) ?_
              refine dn ?_
              refine hw_ret ?_
              refine ret_p rfl ?_
              show HVal.int .i64 _ = _
              first | (rw [salesFault, if_pos (by omega)]; done) | (rw [hg, sgo_ne (sf3 h6 h8 h9) (by decide)]; done) | (rw [hg, sgo_ne (sf4 h6 h8 h10 h11) (by decide)]; done) | (rw [hg, sgo_ne (sf5 h6 h8 h10 h12 h13) (by decide)]; done) | (rw [hg]; rfl) | (rw [hg]; simp_all [salesGo, saleFault]; done)
            · try simp at h10
              refine hw_reg ?_
              refine dp rfl (pop_move rfl) ?_
              refine dp rfl (pop_fieldAddr ty28 rfl ty3 (by decide) rfl) ?_
              refine dp rfl (pop_load ty3 rfl rfl rfl) ?_
              refine dp rfl (pop_eql rfl rfl) ?_
              refine dp rfl (pop_assign rfl) ?_
              refine dn ?_
              refine hw_cond rfl (fun h11 => ?_) (fun h12 => ?_)
              · try simp at h11
                refine hw_reg ?_
                refine dp rfl (pop_assign rfl) ?_
                refine dn ?_
                refine hw_ret ?_
                refine ret_p rfl ?_
                show HVal.int .i64 _ = _
                first | (rw [salesFault, if_pos (by omega)]; done) | (rw [hg, sgo_ne (sf3 h6 h8 h9) (by decide)]; done) | (rw [hg, sgo_ne (sf4 h6 h8 h10 h11) (by decide)]; done) | (rw [hg, sgo_ne (sf5 h6 h8 h10 h12 h13) (by decide)]; done) | (rw [hg]; rfl) | (rw [hg]; simp_all [salesGo, saleFault]; done)
              · try simp at h12
                refine hw_draw (fun _ => True) [] mixed ?_
                refine ahp 0 rfl rfl (by kernel_rfl) (by kernel_rfl) (pop_fieldAddr ty43 rfl ty3 (by decide) rfl) ?_
                refine ahp 1 rfl rfl (by kernel_rfl) (by kernel_rfl) (pop_load ty3 rfl rfl rfl) ?_
                refine ahp 2 rfl rfl (by kernel_rfl) (by kernel_rfl) (pop_loadw ty28 rfl rfl rfl rfl) ?_
                refine ahp 3 rfl rfl (by kernel_rfl) (by kernel_rfl) (pop_move rfl) ?_
                refine ahp 4 rfl rfl (by kernel_rfl) (by kernel_rfl) (pop_move rfl) ?_
                refine ahp 5 rfl rfl (by kernel_rfl) (by kernel_rfl) (pop_slicem ty30 ty43 rfl rfl ⟨_, _, rfl, rfl⟩ (by omega) (by omega)) ?_
                refine ahp 6 rfl rfl (by kernel_rfl) (by kernel_rfl) (pop_fieldAddr ty43 rfl ty9 (by decide) rfl) ?_
                refine ahp 7 rfl rfl (by kernel_rfl) (by kernel_rfl) (pop_load ty9 rfl rfl rfl) ?_
                refine ahp 8 rfl rfl (by kernel_rfl) (by kernel_rfl) (pop_call ca19 rfl (WeakL.refl _) (c_benchref1_MostOf (l := (l.take k).drop 0) (by simp; omega) (fun y hy => hB y (List.mem_of_mem_take (by simpa using hy))) hbu hpl)) ?_
                refine ahp 9 rfl rfl (by kernel_rfl) (by kernel_rfl) (pop_gtr rfl rfl) ?_
                refine ahp 10 rfl rfl (by kernel_rfl) (by kernel_rfl) (pop_assign rfl) ?_
                refine ahz (by kernel_rfl) ?_
                refine hw_cond rfl (fun h13 => ?_) (fun h14 => ?_)
                · try simp at h13
                  refine hw_reg ?_
                  refine dp rfl (pop_assign rfl) ?_
                  refine dn ?_
                  refine hw_ret ?_
                  refine ret_p rfl ?_
                  show HVal.int .i64 _ = _
                  first | (rw [salesFault, if_pos (by omega)]; done) | (rw [hg, sgo_ne (sf3 h6 h8 h9) (by decide)]; done) | (rw [hg, sgo_ne (sf4 h6 h8 h10 h11) (by decide)]; done) | (rw [hg, sgo_ne (sf5 h6 h8 h10 h12 h13) (by decide)]; done) | (rw [hg]; rfl) | (rw [hg]; simp_all [salesGo, saleFault]; done)
                · try simp at h14
                  refine hw_skip ?_
                  refine blockQ_n ?_
                  refine blockQ_n ?_
                  refine seqQ_n ?_
                  refine hw_reg1 ?_
                  refine dp rfl (pop_add64 rfl rfl (by omega) (by omega)) ?_
                  refine dp rfl (pop_move rfl) ?_
                  refine dn ?_
                  refine ⟨k + 1, ?_, ?_, ⟨rfl, trivial⟩, (by repeat (first | exact keeps_refl | refine keeps_upd rfl ?_ | refine keeps_loop rfl rfl ?_)), List.Perm.refl _⟩
                  · refine ⟨by omega, ?_⟩
                    rw [hg, sgo_z (sf0 h6 h8 h10 h12 h14)]
                  · dsimp only; omega
      · try simp at h4
        have hnk : l.length ≤ k := by omega
        obtain rfl : k = l.length := by omega
        rw [drop_all (Nat.le_refl _)] at hg
        refine hw_exit ?_
        refine seqQ_x ?_
        refine loopQ_x ?_
        refine blockQ_eq ?_
        refine seqQ_n ?_
        refine hw_reg ?_
        refine dp rfl (pop_assign rfl) ?_
        refine dn ?_
        refine hw_ret ?_
        refine ret_p rfl ?_
        show HVal.int .i64 _ = _
        first | (rw [salesFault, if_pos (by omega)]; done) | (rw [hg, sgo_ne (sf3 h6 h8 h9) (by decide)]; done) | (rw [hg, sgo_ne (sf4 h6 h8 h10 h11) (by decide)]; done) | (rw [hg, sgo_ne (sf5 h6 h8 h10 h12 h13) (by decide)]; done) | (rw [hg]; rfl) | (rw [hg]; simp_all [salesGo, saleFault]; done)

/-- benchwarmer/benchref1.MoneyOf -/
theorem c_benchref1_MoneyOf {h : Hall} {l : List Sale} (hl : l.length ≤ 1000) (hB : ∀ x ∈ l, -2000000 ≤ x.Price ∧ x.Price ≤ 2000000) (hbu : -2000000 ≤ h.Budget ∧ h.Budget ≤ 2000000) (ht : h.Teams.length ≤ 1000000) (hp : h.Players.length ≤ 1000000) : ConP Tryz.prog 20 [eHall h, eSales l] (ePairs (moneyL h l)) := by
  refine Con.of_body Tryz.func20 rfl Tryz.ntmps20 rfl rfl ?_
  refine hw_reg ?_
  refine dp rfl (pop_box rfl rfl) ?_
  refine dp rfl (pop_assign rfl) ?_
  refine dn ?_
  refine hw_reg ?_
  refine dp rfl (pop_assign rfl) ?_
  refine dn ?_
  refine hw_ghost (Ghost.arr_nil 2) ?_
  refine hw_seq ?_
  refine hw_reg ?_
  refine dp rfl (pop_fieldAddr ty28 rfl ty26 (by decide) rfl) ?_
  refine dp rfl (pop_load ty26 rfl rfl rfl) ?_
  refine dp rfl (pop_lenm ty26 rfl) ?_
  refine dp rfl (pop_move rfl) ?_
  refine dn ?_
  refine hw_block ?_
  refine hw_loopw2 [5, 7, 8, 9, 13, 14, 15, 16, 17, 18, 19, 20, 21, 22, 23, 24, 25, 26, 27, 28, 29, 30, 31] (fun (k : Nat) (u : Value) => [(13, .int .i64 k), (5, .raw u)]) (fun (k : Nat) (u : Value) => [.arr u 2 ((moneyL ⟨h.Teams.take k, h.Players, h.Budget, h.Places⟩ l).map ePair)]) (fun (k : Nat) (u : Value) => k ≤ h.Teams.length ∧ (True)) (fun (k : Nat) (u : Value) => h.Teams.length - k) (0) (.slice none 0 0) ?_ ?_ ?_ ?_
  · exact ⟨Nat.zero_le _, by simp_all⟩
  · exact ⟨rfl, rfl, trivial⟩
  · exact perm_eq (by simp [moneyL])
  · intro k u hinv
    obtain ⟨hk, -⟩ := hinv
    refine hw_reg ?_
    refine dp rfl (pop_lss rfl rfl) ?_
    refine dn ?_
    refine hw_seq ?_
    refine hw_cond rfl (fun h1 => ?_) (fun h2 => ?_)
    · try simp at h1
      obtain ⟨x, hx⟩ : ∃ x, h.Teams[k]? = some x := ⟨_, List.getElem?_eq_getElem h1⟩
      have hdx := drop_cons hx
      have hsb := spent_bd (B := 2000000) (by decide) hB x
      refine hw_skip ?_
      refine seqQ_n ?_
      refine hw_seq ?_
      refine hw_block ?_
      refine hw_reg ?_
      refine dp rfl (pop_idx ty26 ty9 rfl rfl rfl (by first | assumption | simp_all)) ?_
      refine dp rfl (pop_load ty9 rfl rfl rfl) ?_
      refine dp rfl (pop_assign rfl) ?_
      refine dn ?_
      refine hw_reg ?_
      refine dp rfl (pop_loadw ty28 rfl rfl rfl rfl) ?_
      refine dp rfl (pop_move rfl) ?_
      refine dp rfl (pop_move rfl) ?_
      refine dp rfl (pop_call ca34 rfl (WeakL.refl _) (c_benchref1_stands (by first | assumption | omega | (simp; omega) | simp_all) (by first | assumption | omega | (simp; omega) | simp_all) (by first | assumption | omega | (simp; omega) | simp_all))) ?_
      refine dp rfl (pop_move rfl) ?_
      refine dp rfl (pop_extract rfl rfl) ?_
      refine dp rfl (pop_extract rfl rfl) ?_
      refine dp rfl (pop_assign rfl) ?_
      refine dp rfl (pop_assign rfl) ?_
      refine dn ?_
      refine hw_reg1 ?_
      refine dp rfl (pop_move rfl) ?_
      refine dp rfl (pop_move rfl) ?_
      refine dp rfl (pop_move rfl) ?_
      refine dp rfl (pop_call ca27 rfl (WeakL.refl _) (c_Itoa (n := h.Budget - spent l x) (by omega) (by omega))) ?_
      refine dp rfl (pop_build (cs := [_, _]) ty56 pl56 rfl) ?_
      refine dp rfl (pop_buildSlice (hs := [_]) ty33 ty56 rfl rfl (by decide) (by decide) rfl) ?_
      refine de rfl (eop_append (i := 0) ty33 ty56 rfl rfl rfl rfl rfl (by simp [flat, hcells]) (by simp [moneyL]; omega) fun v30 => ?_)
      refine dp rfl (pop_assign rfl) ?_
      refine dn ?_
      refine blockQ_n ?_
      refine seqQ_n ?_
      refine hw_reg1 ?_
      refine dp rfl (pop_add64 rfl rfl (by omega) (by omega)) ?_
      refine dp rfl (pop_move rfl) ?_
      refine dn ?_
      refine ⟨k + 1, _, ?_, ?_, ⟨rfl, rfl, trivial⟩, (by repeat (first | exact keeps_refl | refine keeps_upd rfl ?_ | refine keeps_loop rfl rfl ?_)), perm_eq (by simp [moneyL, List.take_add_one, hx])⟩
      · exact ⟨by omega, trivial⟩
      · dsimp only; omega
    · try simp at h2
      have hnk : h.Teams.length ≤ k := by omega
      obtain rfl : k = h.Teams.length := by omega
      refine hw_exit ?_
      refine seqQ_x ?_
      refine loopQ2_x ?_
      refine blockQ_eq ?_
      refine seqQ_n ?_
      refine hw_reg ?_
      refine dp rfl (pop_move rfl) ?_
      refine dp rfl (pop_assign rfl) ?_
      refine dn ?_
      refine hw_ret ?_
      refine ret_fa (M := []) 4 rfl rfl ?_
      rw [List.take_length]

/-- benchwarmer/benchref1.SellFault$1 -/
theorem c_benchref1_SellFault_1 {y : Sale} {s : Str}  : ConP Tryz.prog 46 [eSale y, .vptr [.str s] 0] (.bool (y.Player == s)) := by
  refine Con.of_body Tryz.func46 rfl Tryz.ntmps46 rfl rfl ?_
  refine hw_reg ?_
  refine dp rfl (pop_box rfl rfl) ?_
  refine dp rfl (pop_assign rfl) ?_
  refine dn ?_
  refine hw_reg ?_
  refine dp rfl (pop_fieldAddr ty43 rfl ty9 (by decide) rfl) ?_
  refine dp rfl (pop_load ty9 rfl rfl rfl) ?_
  refine dp rfl (pop_load ty9 rfl rfl rfl) ?_
  refine dp rfl (pop_eqls rfl rfl) ?_
  refine dp rfl (pop_assign rfl) ?_
  refine dn ?_
  refine hw_ret ?_
  refine ret_p rfl ?_
  rfl

/-- benchwarmer/benchref1.SellFault$2 -/
theorem c_benchref1_SellFault_2 {y x : PairS}  : ConP Tryz.prog 49 [ePair y, .vptr (hcells (ePair x)) 0] (.bool (y.Name == x.Name)) := by
  refine Con.of_body Tryz.func49 rfl Tryz.ntmps49 rfl rfl ?_
  refine hw_reg ?_
  refine dp rfl (pop_box rfl rfl) ?_
  refine dp rfl (pop_assign rfl) ?_
  refine dn ?_
  refine hw_reg ?_
  refine dp rfl (pop_fieldAddr ty56 rfl ty9 (by decide) rfl) ?_
  refine dp rfl (pop_load ty9 rfl rfl rfl) ?_
  refine dp rfl (pop_fieldAddr ty56 rfl ty9 (by decide) rfl) ?_
  refine dp rfl (pop_load ty9 rfl rfl rfl) ?_
  refine dp rfl (pop_eqls rfl rfl) ?_
  refine dp rfl (pop_assign rfl) ?_
  refine dn ?_
  refine hw_ret ?_
  refine ret_p rfl ?_
  rfl

/-- benchwarmer/benchref1.SoldOf$1 -/
theorem c_benchref1_SoldOf_1 {x y : Sale}  : ConP Tryz.prog 51 [eSale x, eSale y] (.int .i64 (byPrice x y)) := by
  refine Con.of_body Tryz.func51 rfl Tryz.ntmps51 rfl rfl ?_
  refine hw_reg ?_
  refine dp rfl (pop_box rfl rfl) ?_
  refine dp rfl (pop_box rfl rfl) ?_
  refine dp rfl (pop_assign rfl) ?_
  refine dn ?_
  refine hw_reg ?_
  refine dp rfl (pop_fieldAddr ty43 rfl ty3 (by decide) rfl) ?_
  refine dp rfl (pop_load ty3 rfl rfl rfl) ?_
  refine dp rfl (pop_fieldAddr ty43 rfl ty3 (by decide) rfl) ?_
  refine dp rfl (pop_load ty3 rfl rfl rfl) ?_
  refine dp rfl (pop_call ca52 rfl (WeakL.refl _) c_cmp_Compare_int) ?_
  refine dp rfl (pop_assign rfl) ?_
  refine dn ?_
  refine hw_ret ?_
  refine ret_p rfl ?_
  rfl

/-- benchwarmer/base.Number -/
theorem c_base_Number {s : Str} (hs : s ∈ vals) : ConP Tryz.prog 65 [.str s, .int .i64 9] (.tup [.int .i64 (numR s 9), .bool (numB s 9)]) := by
  obtain ⟨q1, q2, q3, q4, q5, q6, hv18⟩ := vals_ok hs
  refine Con.of_body Tryz.func65 rfl Tryz.ntmps65 rfl rfl ?_
  refine hw_reg ?_
  refine dp rfl (pop_assign rfl) ?_
  refine dp rfl (pop_assign rfl) ?_
  refine dn ?_
  refine hw_reg ?_
  refine dp rfl (pop_move rfl) ?_
  refine dp rfl (pop_call ca66 rfl (WeakL.refl _) c_strings_TrimPrefix) ?_
  refine dp rfl (pop_assign rfl) ?_
  refine dn ?_
  refine hw_seq ?_
  refine hw_reg ?_
  refine dp rfl (pop_move rfl) ?_
  refine dp rfl (pop_eqls rfl rfl) ?_
  refine dp rfl (pop_move rfl) ?_
  refine dg rfl rfl (fun hc => ⟨_, OpenTo.refl _, pop_move rfl⟩) ?_
  refine dg rfl rfl (fun hc => ⟨_, OpenTo.upd (t := 15) rfl (by first | exact hc | simp_all) (OpenTo.refl _), pop_lens ty9 rfl⟩) ?_
  refine dg rfl rfl (fun hc => ⟨_, OpenTo.refl _, pop_move rfl⟩) ?_
  refine dg rfl rfl (fun hc => ⟨_, OpenTo.upd (t := 17) rfl (by first | exact hc | simp_all) (OpenTo.upd (t := 16) rfl (by first | exact hc | simp_all) (OpenTo.refl _)), pop_gtr rfl rfl⟩) ?_
  refine dp rfl (pop_picko rfl (.inl rfl) (.inr ⟨_, rfl, fun h => by simp_all⟩)) ?_
  refine dp rfl (pop_move rfl) ?_
  refine dg rfl rfl (fun hc => ⟨_, OpenTo.refl _, pop_move rfl⟩) ?_
  refine dg rfl rfl (fun hc => ⟨_, OpenTo.upd (t := 21) rfl (by first | exact hc | simp_all) (OpenTo.refl _), pop_indexs (j := 0) (b := (cutMinus s).headD 0) ty9 rfl rfl rfl (hd0 (by simp_all))⟩) ?_
  refine dg rfl rfl (fun hc => ⟨_, OpenTo.upd (t := 22) rfl (by first | exact hc | simp_all) (OpenTo.refl _), pop_eql rfl rfl⟩) ?_
  refine dg rfl rfl (fun hc => ⟨_, OpenTo.upd (t := 23) rfl (by first | exact hc | simp_all) (OpenTo.refl _), pop_move rfl⟩) ?_
  refine dg rfl rfl (fun hc => ⟨_, OpenTo.refl _, pop_move rfl⟩) ?_
  refine dg rfl rfl (fun hc => ⟨_, OpenTo.upd (t := 25) rfl (by first | exact hc | simp_all) (OpenTo.refl _), pop_lens ty9 rfl⟩) ?_
  refine dg rfl rfl (fun hc => ⟨_, OpenTo.upd (t := 26) rfl (by first | exact hc | simp_all) (OpenTo.refl _), pop_gtr rfl rfl⟩) ?_
  refine dg rfl rfl (fun hc => ⟨_, OpenTo.upd (t := 27) rfl (by first | exact hc | simp_all) (OpenTo.refl _), pop_move rfl⟩) ?_
  refine dg rfl rfl (fun hc => ⟨_, OpenTo.refl _, pop_move rfl⟩) ?_
  refine dg rfl rfl (fun hc => ⟨_, OpenTo.upd (t := 29) rfl (by first | exact hc | simp_all) (OpenTo.refl _), pop_lens ty9 rfl⟩) ?_
  refine dg rfl rfl (fun hc => ⟨_, OpenTo.refl _, pop_move rfl⟩) ?_
  refine dg rfl rfl (fun hc => ⟨_, OpenTo.upd (t := 31) rfl (by first | exact hc | simp_all) (OpenTo.refl _), pop_lens ty9 rfl⟩) ?_
  refine dg rfl rfl (fun hc => ⟨_, OpenTo.upd (t := 32) rfl (by first | exact hc | simp_all) (OpenTo.upd (t := 30) rfl (by first | exact hc | simp_all) (OpenTo.refl _)), pop_gtr rfl rfl⟩) ?_
  refine dg rfl rfl (fun hc => ⟨_, OpenTo.upd (t := 28) rfl (by first | exact hc | simp_all) (OpenTo.refl _), pop_picko rfl (.inl rfl) (.inr ⟨_, rfl, fun h => by simp_all⟩)⟩) ?_
  refine dg rfl rfl (fun hc => ⟨_, OpenTo.upd (t := 24) rfl (by first | exact hc | simp_all) (OpenTo.refl _), pop_picko rfl (.inr ⟨_, rfl, fun h => by simp_all⟩) (.inl rfl)⟩) ?_
  refine dp rfl (pop_picko rfl (.inl rfl) (.inr ⟨_, rfl, fun h => by simp_all⟩)) ?_
  refine dn ?_
  refine hw_cond rfl (fun h1 => ?_) (fun h2 => ?_)
  · try simp at h1
    refine hw_reg ?_
    refine dp rfl (pop_assign rfl) ?_
    refine dp rfl (pop_assign rfl) ?_
    refine dn ?_
    refine hw_ret ?_
    refine ret_p rfl ?_
    show HVal.tup _ = _
    first | (rw [numR, numB_1 h1]; rfl) | (rw [numR, show numB s 9 = false by rw [numB, hg, List.all_cons, dig_f h5]; simp]; rfl) | (rw [numR, hnb]; rfl)
  · try simp at h2
    refine hw_skip ?_
    refine seqQ_n ?_
    refine hw_seq ?_
    refine hw_reg ?_
    refine dp rfl (pop_move rfl) ?_
    refine dp rfl (pop_lens ty9 rfl) ?_
    refine dp rfl (pop_move rfl) ?_
    refine dn ?_
    refine hw_block ?_
    refine hw_loopw [4, 5, 7, 39, 40, 41, 42, 43, 44, 45, 46, 47, 48, 49, 50, 51, 52] (fun (k : Nat) => [(39, .int .i64 k)]) (fun (k : Nat) => []) (fun (k : Nat) => k ≤ (cutMinus s).length ∧ (cutMinus s).all dig = ((cutMinus s).drop k).all dig) (fun (k : Nat) => (cutMinus s).length - k) (0) ?_ ?_ ?_ ?_
    · exact ⟨Nat.zero_le _, rfl⟩
    · exact ⟨rfl, trivial⟩
    · exact List.Perm.refl _
    · intro k hinv
      obtain ⟨hk, hg⟩ := hinv
      refine hw_reg ?_
      refine dp rfl (pop_lss rfl rfl) ?_
      refine dn ?_
      refine hw_seq ?_
      refine hw_cond rfl (fun h3 => ?_) (fun h4 => ?_)
      · try simp at h3
        obtain ⟨x, hx⟩ : ∃ x, (cutMinus s)[k]? = some x := ⟨_, List.getElem?_eq_getElem h3⟩
        have hd := drop_cons hx
        rw [hd] at hg
        refine hw_skip ?_
        refine seqQ_n ?_
        refine hw_seq ?_
        refine hw_block ?_
        refine hw_reg ?_
        refine dp rfl (pop_move rfl) ?_
        refine dp rfl (pop_assign rfl) ?_
        refine dn ?_
        refine hw_reg ?_
        refine dp rfl (pop_move rfl) ?_
        refine dp rfl (pop_move rfl) ?_
        refine dp rfl (pop_indexs ty9 rfl rfl rfl (by first | assumption | simp_all)) ?_
        refine dp rfl (pop_lss rfl rfl) ?_
        refine dp rfl (pop_move rfl) ?_
        refine dg rfl rfl (fun hc => ⟨_, OpenTo.refl _, pop_move rfl⟩) ?_
        refine dg rfl rfl (fun hc => ⟨_, OpenTo.refl _, pop_move rfl⟩) ?_
        refine dg rfl rfl (fun hc => ⟨_, OpenTo.upd (t := 48) rfl (by first | exact hc | simp_all) (OpenTo.upd (t := 47) rfl (by first | exact hc | simp_all) (OpenTo.refl _)), pop_indexs ty9 rfl rfl rfl (by first | assumption | simp_all)⟩) ?_
        refine dg rfl rfl (fun hc => ⟨_, OpenTo.upd (t := 49) rfl (by first | exact hc | simp_all) (OpenTo.refl _), pop_gtr rfl rfl⟩) ?_
        refine dp rfl (pop_picko rfl (.inl rfl) (.inr ⟨_, rfl, fun h => by simp_all⟩)) ?_
        refine dn ?_
        refine hw_cond rfl (fun h5 => ?_) (fun h6 => ?_)
        · try simp at h5
          refine hw_reg ?_
          refine dp rfl (pop_assign rfl) ?_
          refine dp rfl (pop_assign rfl) ?_
          refine dn ?_
          refine hw_ret ?_
          refine ret_p rfl ?_
          show HVal.tup _ = _
          first | (rw [numR, numB_1 h1]; rfl) | (rw [numR, show numB s 9 = false by rw [numB, hg, List.all_cons, dig_f h5]; simp]; rfl) | (rw [numR, hnb]; rfl)
        · try simp at h6
          refine hw_skip ?_
          refine blockQ_n ?_
          refine seqQ_n ?_
          refine hw_reg1 ?_
          refine dp rfl (pop_add64 rfl rfl (by omega) (by omega)) ?_
          refine dp rfl (pop_move rfl) ?_
          refine dn ?_
          refine ⟨k + 1, ?_, ?_, ⟨rfl, trivial⟩, (by repeat (first | exact keeps_refl | refine keeps_upd rfl ?_ | refine keeps_loop rfl rfl ?_)), List.Perm.refl _⟩
          · refine ⟨by omega, ?_⟩
            rw [hg, List.all_cons, dig_t h6]; rfl
          · dsimp only; omega
      · try simp at h4
        rw [drop_all (by omega)] at hg
        refine hw_exit ?_
        refine seqQ_x ?_
        refine loopQ_x ?_
        refine blockQ_eq ?_
        refine seqQ_n ?_
        refine hw_reg ?_
        refine dp rfl (pop_move rfl) ?_
        have hnb : numB s 9 = true := by simp [numB, numC_2 h2, hg]
        have hvat := q3 hnb
        refine dp rfl (pop_call ca68 rfl (WeakL.refl _) (c_strconv_Atoi hv18 hvat)) ?_
        refine dp rfl (pop_move rfl) ?_
        refine dp rfl (pop_extract rfl rfl) ?_
        refine dp rfl (pop_extract rfl rfl) ?_
        refine dp rfl (pop_assign rfl) ?_
        refine dp rfl (pop_assign rfl) ?_
        refine dn ?_
        refine hw_draw (fun _ => True) [] mixed ?_
        refine ahp 0 rfl rfl (by kernel_rfl) (by kernel_rfl) (pop_move rfl) ?_
        refine ahp 1 rfl rfl (by kernel_rfl) (by kernel_rfl) (pop_move rfl) ?_
        refine ahp 2 rfl rfl (by kernel_rfl) (by kernel_rfl) (pop_eqnilI Tryz.underlying105 rfl) ?_
        refine ahp 3 rfl rfl (by kernel_rfl) (by kernel_rfl) (pop_assign rfl) ?_
        refine ahp 4 rfl rfl (by kernel_rfl) (by kernel_rfl) (pop_assign rfl) ?_
        refine ahz (by kernel_rfl) ?_
        refine hw_ret ?_
        refine ret_p rfl ?_
        show HVal.tup _ = _
        first | (rw [numR, numB_1 h1]; rfl) | (rw [numR, show numB s 9 = false by rw [numB, hg, List.all_cons, dig_f h5]; simp]; rfl) | (rw [numR, hnb]; rfl)

/-- benchwarmer/benchref1.Int -/
theorem c_benchref1_Int {s : Str} (hs : s ∈ vals) : ConP Tryz.prog 47 [.str s, .int .i64 9] (.tup [.int .i64 (intR s 9), .bool (intB s 9)]) := by
  obtain ⟨q1, q2, q3, q4, q5, q6, hv18⟩ := vals_ok hs
  have hcl := cutMinus_len s
  refine Con.of_body Tryz.func47 rfl Tryz.ntmps47 rfl rfl ?_
  refine hw_reg ?_
  refine dp rfl (pop_assign rfl) ?_
  refine dp rfl (pop_assign rfl) ?_
  refine dn ?_
  refine hw_reg ?_
  refine dp rfl (pop_move rfl) ?_
  refine dp rfl (pop_call ca66 rfl (WeakL.refl _) c_strings_TrimPrefix) ?_
  refine dp rfl (pop_assign rfl) ?_
  refine dn ?_
  refine hw_seq ?_
  refine hw_reg ?_
  refine dp rfl (pop_move rfl) ?_
  refine dp rfl (pop_lens ty9 rfl) ?_
  refine dp rfl (pop_move rfl) ?_
  refine dp rfl (pop_call ca58 rfl (WeakL.refl _) c_benchref1_in) ?_
  refine dp rfl (pop_not rfl) ?_
  refine dp rfl (pop_move rfl) ?_
  refine dg rfl rfl (fun hc => ⟨_, OpenTo.refl _, pop_move rfl⟩) ?_
  refine dg rfl rfl (fun hc => by have hq := hc; (try simp at hq); exact ⟨_, OpenTo.upd (t := 17) rfl (by first | exact hc | simp_all) (OpenTo.refl _), pop_call ca67 rfl (WeakL.refl _) (c_strings_Trim (l := dig10) (by omega) (by decide) (by decide) (by decide))⟩) ?_
  refine dg rfl rfl (fun hc => ⟨_, OpenTo.upd (t := 18) rfl (by first | exact hc | simp_all) (OpenTo.refl _), pop_neqs rfl rfl⟩) ?_
  refine dp rfl (pop_picko rfl (.inl rfl) (.inr ⟨_, rfl, fun h => by simp_all⟩)) ?_
  refine dn ?_
  refine hw_cond rfl (fun h1 => ?_) (fun h2 => ?_)
  · try simp at h1
    refine hw_reg ?_
    refine dp rfl (pop_assign rfl) ?_
    refine dp rfl (pop_assign rfl) ?_
    refine dn ?_
    refine hw_ret ?_
    refine ret_p rfl ?_
    show HVal.tup _ = _
    first | (simp [intR, intB, hic]; done) | (have hic : intC s 9 = true := (by simpa [intC, trim10] using h1); simp [intR, intB, hic, ofVal, ofVal1]; done)
  · try simp at h2
    refine hw_skip ?_
    refine seqQ_n ?_
    refine hw_reg ?_
    refine dp rfl (pop_move rfl) ?_
    have hic : intC s 9 = false := by simpa [intC, trim10] using h2
    have hvat := q4 hic
    refine dp rfl (pop_call ca68 rfl (WeakL.refl _) (c_strconv_Atoi hv18 hvat)) ?_
    refine dp rfl (pop_move rfl) ?_
    refine dp rfl (pop_extract rfl rfl) ?_
    refine dp rfl (pop_extract rfl rfl) ?_
    refine dp rfl (pop_assign rfl) ?_
    refine dp rfl (pop_assign rfl) ?_
    refine dn ?_
    refine hw_reg ?_
    refine dp rfl (pop_move rfl) ?_
    refine dp rfl (pop_move rfl) ?_
    refine dp rfl (pop_eqnilI Tryz.underlying105 rfl) ?_
    refine dp rfl (pop_move rfl) ?_
    refine dg rfl rfl (fun hc => ⟨_, OpenTo.refl _, pop_move rfl⟩) ?_
    refine dg rfl rfl (fun hc => by have hq := hc; (try simp at hq); exact ⟨_, OpenTo.upd (t := 30) rfl (by first | exact hc | simp_all) (OpenTo.refl _), pop_call ca27 rfl (WeakL.refl _) (c_Itoa (n := numV s) (by omega) (by omega))⟩) ?_
    refine dg rfl rfl (fun hc => ⟨_, OpenTo.refl _, pop_move rfl⟩) ?_
    refine dg rfl rfl (fun hc => ⟨_, OpenTo.upd (t := 32) rfl (by first | exact hc | simp_all) (OpenTo.upd (t := 31) rfl (by first | exact hc | simp_all) (OpenTo.refl _)), pop_eqls rfl rfl⟩) ?_
    refine dp rfl (pop_picko rfl (.inr ⟨_, rfl, fun h => by simp_all⟩) (.inl rfl)) ?_
    refine dp rfl (pop_assign rfl) ?_
    refine dp rfl (pop_assign rfl) ?_
    refine dn ?_
    refine hw_ret ?_
    refine ret_p rfl ?_
    show HVal.tup _ = _
    first | (simp [intR, intB, hic]; done) | (have hic : intC s 9 = true := (by simpa [intC, trim10] using h1); simp [intR, intB, hic, ofVal, ofVal1]; done)

/-- benchwarmer/benchref1.SellFault -/
theorem c_benchref1_SellFault {h : Hall} {l : List Sale} {player : Str} {lim : List PairS} (hl : l.length ≤ 1000) (hlim : lim.length ≤ 1000) (hv : ∀ x ∈ lim, x.Val ∈ vals) (ht : h.Teams.length ≤ 1000000) (hp : h.Players.length ≤ 1000000) : ConP Tryz.prog 18 [eHall h, eSales l, .str player, ePairs lim] (.int .i64 (sellR h l player lim)) := by
  refine Con.of_body Tryz.func18 rfl Tryz.ntmps18 rfl rfl ?_
  refine hw_reg ?_
  refine dp rfl (pop_box rfl rfl) ?_
  refine dp rfl (pop_box rfl rfl) ?_
  refine dp rfl (pop_assign rfl) ?_
  refine dn ?_
  refine hw_seq ?_
  refine hw_block ?_
  refine hw_reg ?_
  refine dp rfl (pop_fieldAddr ty28 rfl ty26 (by decide) rfl) ?_
  refine dp rfl (pop_load ty26 rfl rfl rfl) ?_
  refine dp rfl (pop_load ty9 rfl rfl rfl) ?_
  refine dp rfl (pop_call ca17 rfl (WeakL.refl _) (c_slices_Contains_string_string (by first | assumption | omega | (simp; omega) | simp_all))) ?_
  refine dp rfl (pop_not rfl) ?_
  refine dp rfl (pop_assign rfl) ?_
  refine dn ?_
  refine hw_cond rfl (fun h1 => ?_) (fun h2 => ?_)
  · try simp at h1
    refine hw_reg ?_
    refine dp rfl (pop_assign rfl) ?_
    refine dn ?_
    refine hw_ret ?_
    refine ret_p rfl ?_
    show HVal.int .i64 _ = _
    first | (rw [sellR, if_neg (by simp_all), if_neg (by simp_all), if_pos (by omega)]; done) | (simp_all [sellR]; done) | (rw [hg]; simp_all [limGoR]; done)
  · try simp at h2
    refine hw_reg ?_
    refine dp rfl (pop_move rfl) ?_
    refine dp rfl (pop_makeFunc rfl rfl) ?_
    refine dp rfl (pop_call ca35 rfl (WeakL.refl _) (c_slices_ContainsFunc_api_Sale_api_Sale (p := fun y => y.Player == player) ca46 (fun _ => c_benchref1_SellFault_1) (by omega))) ?_
    refine dp rfl (pop_assign rfl) ?_
    refine dn ?_
    refine hw_cond rfl (fun h3 => ?_) (fun h4 => ?_)
    · try simp at h3
      refine hw_reg ?_
      refine dp rfl (pop_assign rfl) ?_
      refine dn ?_
      refine hw_ret ?_
      refine ret_p rfl ?_
      show HVal.int .i64 _ = _
      first | (rw [sellR, if_neg (by simp_all), if_neg (by simp_all), if_pos (by omega)]; done) | (simp_all [sellR]; done) | (rw [hg]; simp_all [limGoR]; done)
    · try simp at h4
      refine hw_reg ?_
      refine dp rfl (pop_move rfl) ?_
      refine dp rfl (pop_lenm ty33 rfl) ?_
      refine dp rfl (pop_gtr rfl rfl) ?_
      refine dp rfl (pop_assign rfl) ?_
      refine dn ?_
      refine hw_cond rfl (fun h5 => ?_) (fun h6 => ?_)
      · try simp at h5
        refine hw_reg ?_
        refine dp rfl (pop_assign rfl) ?_
        refine dn ?_
        refine hw_ret ?_
        refine ret_p rfl ?_
        show HVal.int .i64 _ = _
        first | (rw [sellR, if_neg (by simp_all), if_neg (by simp_all), if_pos (by omega)]; done) | (simp_all [sellR]; done) | (rw [hg]; simp_all [limGoR]; done)
      · try simp at h6
        refine hw_skip ?_
        refine blockQ_n ?_
        refine seqQ_n ?_
        refine hw_seq ?_
        refine hw_reg ?_
        refine dp rfl (pop_move rfl) ?_
        refine dp rfl (pop_lenm ty33 rfl) ?_
        refine dp rfl (pop_move rfl) ?_
        refine dn ?_
        refine hw_block ?_
        refine hw_loopw [8, 9, 10, 11, 12, 29, 30, 31, 32, 33, 34, 35, 36, 37, 38, 39, 40, 41, 42, 43, 44, 45, 46, 47, 48, 49, 50, 51, 52, 53, 54, 55, 56] (fun (k : Nat) => [(29, .int .i64 k)]) (fun (k : Nat) => []) (fun (k : Nat) => k ≤ lim.length ∧ (sellR h l player lim = limGoR h lim k (lim.drop k))) (fun (k : Nat) => lim.length - k) (0) ?_ ?_ ?_ ?_
        · refine ⟨Nat.zero_le _, ?_⟩
          rw [sellR, if_neg (by simp_all), if_neg (by simp_all), if_neg (by omega)]; rfl
        · exact ⟨rfl, trivial⟩
        · exact List.Perm.refl _
        · intro k hinv
          obtain ⟨hk, hg⟩ := hinv
          refine hw_reg ?_
          refine dp rfl (pop_lss rfl rfl) ?_
          refine dn ?_
          refine hw_seq ?_
          refine hw_cond rfl (fun h7 => ?_) (fun h8 => ?_)
          · try simp at h7
            obtain ⟨x, hx⟩ : ∃ x, lim[k]? = some x := ⟨_, List.getElem?_eq_getElem h7⟩
            have hdx := drop_cons hx
            rw [hdx] at hg
            refine hw_skip ?_
            refine seqQ_n ?_
            refine hw_seq ?_
            refine hw_block ?_
            refine hw_reg ?_
            refine dp rfl (pop_move rfl) ?_
            refine dp rfl (pop_idx ty33 ty56 rfl rfl rfl (by first | assumption | simp_all)) ?_
            refine dp rfl (pop_loadw ty56 rfl rfl rfl rfl) ?_
            refine de rfl (eop_alloc ty56 rfl fun b10 => ?_)
            refine dp rfl (pop_assign rfl) ?_
            refine de0 (eop_storew ty56 rfl rfl rfl rfl rfl ?_)
            refine dn ?_
            refine hw_ghost (Ghost.fc0 10 rfl) ?_
            refine hw_reg ?_
            refine dp rfl (pop_fieldAddr ty56 rfl ty9 (by decide) rfl) ?_
            refine dp rfl (pop_load ty9 rfl rfl rfl) ?_
            refine dp rfl (pop_call ca47 rfl (WeakL.refl _) (c_benchref1_Int (hv x (List.mem_of_getElem? hx)))) ?_
            refine dp rfl (pop_move rfl) ?_
            refine dp rfl (pop_extract rfl rfl) ?_
            refine dp rfl (pop_extract rfl rfl) ?_
            refine dp rfl (pop_assign rfl) ?_
            refine dp rfl (pop_assign rfl) ?_
            refine dn ?_
            refine hw_block ?_
            refine hw_reg ?_
            refine dp rfl (pop_fieldAddr ty28 rfl ty26 (by decide) rfl) ?_
            refine dp rfl (pop_load ty26 rfl rfl rfl) ?_
            refine dp rfl (pop_fieldAddr ty56 rfl ty9 (by decide) rfl) ?_
            refine dp rfl (pop_load ty9 rfl rfl rfl) ?_
            refine dp rfl (pop_call ca17 rfl (WeakL.refl _) (c_slices_Contains_string_string (by first | assumption | omega | (simp; omega) | simp_all))) ?_
            refine dp rfl (pop_not rfl) ?_
            refine dp rfl (pop_assign rfl) ?_
            refine dn ?_
            refine hw_cond rfl (fun h9 => ?_) (fun h10 => ?_)
            · try simp at h9
              refine hw_reg ?_
              refine dp rfl (pop_assign rfl) ?_
              refine dn ?_
              refine hw_ret ?_
              refine ret_p rfl ?_
              show HVal.int .i64 _ = _
              first | (rw [sellR, if_neg (by simp_all), if_neg (by simp_all), if_pos (by omega)]; done) | (simp_all [sellR]; done) | (rw [hg]; simp_all [limGoR]; done)
            · try simp at h10
              refine hw_reg ?_
              refine dp rfl (pop_move rfl) ?_
              refine dp rfl (pop_move rfl) ?_
              refine dp rfl (pop_slicem ty33 ty56 rfl rfl ⟨_, _, rfl, rfl⟩ (by omega) (by omega)) ?_
              refine dp rfl (pop_makeFunc rfl rfl) ?_
              refine dp rfl (pop_call ca48 rfl (WeakL.refl _) (c_slices_ContainsFunc_api_Pair_api_Pair (p := fun y => y.Name == x.Name) ca49 (fun _ => c_benchref1_SellFault_2) (by simp; omega))) ?_
              refine dp rfl (pop_assign rfl) ?_
              refine dn ?_
              refine hw_cond rfl (fun h11 => ?_) (fun h12 => ?_)
              · try simp at h11
                refine hw_reg ?_
                refine dp rfl (pop_assign rfl) ?_
                refine dn ?_
                refine hw_ret ?_
                refine ret_p rfl ?_
                show HVal.int .i64 _ = _
                first | (rw [sellR, if_neg (by simp_all), if_neg (by simp_all), if_pos (by omega)]; done) | (simp_all [sellR]; done) | (rw [hg]; simp_all [limGoR]; done)
              · try simp at h12
                refine hw_reg ?_
                refine dp rfl (pop_move rfl) ?_
                refine dp rfl (pop_not rfl) ?_
                refine dp rfl (pop_assign rfl) ?_
                refine dn ?_
                refine hw_cond rfl (fun h13 => ?_) (fun h14 => ?_)
                · try simp at h13
                  refine hw_reg ?_
                  refine dp rfl (pop_assign rfl) ?_
                  refine dn ?_
                  refine hw_ret ?_
                  refine ret_p rfl ?_
                  show HVal.int .i64 _ = _
                  first | (rw [sellR, if_neg (by simp_all), if_neg (by simp_all), if_pos (by omega)]; done) | (simp_all [sellR]; done) | (rw [hg]; simp_all [limGoR]; done)
                · try simp at h14
                  refine hw_skip ?_
                  refine blockQ_n ?_
                  refine blockQ_n ?_
                  refine seqQ_n ?_
                  refine hw_reg1 ?_
                  refine dp rfl (pop_add64 rfl rfl (by omega) (by omega)) ?_
                  refine dp rfl (pop_move rfl) ?_
                  refine dn ?_
                  refine ⟨k + 1, ?_, ?_, ⟨rfl, trivial⟩, (by repeat (first | exact keeps_refl | refine keeps_upd rfl ?_ | refine keeps_loop rfl rfl ?_)), List.Perm.refl _⟩
                  · refine ⟨by omega, ?_⟩
                    rw [hg]; simp_all [limGoR]
                  · dsimp only; omega
          · try simp at h8
            have hnk : lim.length ≤ k := by omega
            obtain rfl : k = lim.length := by omega
            rw [drop_all (Nat.le_refl _)] at hg
            refine hw_exit ?_
            refine seqQ_x ?_
            refine loopQ_x ?_
            refine blockQ_eq ?_
            refine seqQ_n ?_
            refine hw_reg ?_
            refine dp rfl (pop_assign rfl) ?_
            refine dn ?_
            refine hw_ret ?_
            refine ret_p rfl ?_
            show HVal.int .i64 _ = _
            first | (rw [sellR, if_neg (by simp_all), if_neg (by simp_all), if_pos (by omega)]; done) | (simp_all [sellR]; done) | (rw [hg]; simp_all [limGoR]; done)

set_option maxHeartbeats 2000000 in
/-- benchwarmer/benchref1.SoldOf -/
theorem c_benchref1_SoldOf {h : Hall} {l : List Sale} {player : Str} {lim : List PairS} (hl : l.length ≤ 1000) (hB : ∀ x ∈ l, -2000000 ≤ x.Price ∧ x.Price ≤ 2000000) (hbu : -2000000 ≤ h.Budget ∧ h.Budget ≤ 2000000) (hpl : -2000000 ≤ h.Places ∧ h.Places ≤ 2000000) (ht : h.Teams.length ≤ 4) (hlim : lim.length ≤ 4) (hv : ∀ x ∈ lim, x.Val ∈ vals) : ConP Tryz.prog 21 [eHall h, eSales l, .str player, ePairs lim] (.tup [eSale (soldS (isort byPrice (bidsR h l player lim h.Teams))), .bool (soldB (isort byPrice (bidsR h l player lim h.Teams)))]) := by
  refine Con.of_bodyc Tryz.func21 rfl Tryz.ntmps21 rfl rfl ?_
  refine hw_reg ?_
  refine dp rfl (pop_box rfl rfl) ?_
  refine de rfl (eop_alloc ty43 rfl fun b8 => ?_)
  refine dp rfl (pop_assign rfl) ?_
  refine dn ?_
  refine hw_reg ?_
  refine dp rfl (pop_assign rfl) ?_
  refine dn ?_
  refine hw_ghost (Ghost.arr_nil 3) ?_
  refine hw_seq ?_
  refine hw_reg ?_
  refine dp rfl ((by first | exact pop_fieldAddr ty28 rfl ty26 (by decide) rfl | exact pop_fieldAddr_raw ty28 rfl ty26 (by decide) rfl)) ?_
  refine dp rfl (pop_load ty26 rfl rfl rfl) ?_
  refine dp rfl (pop_lenm ty26 rfl) ?_
  refine dp rfl (pop_move rfl) ?_
  refine dn ?_
  refine hw_block ?_
  refine hw_loopw2 [10, 12, 14, 15, 16, 20, 21, 22, 23, 24, 25, 26, 27, 28, 29, 30, 31, 32, 33, 34, 35, 36, 37, 38, 39, 40, 41, 42, 43, 44, 45, 46, 47, 48, 49, 50, 51, 52, 53, 54, 55, 56, 57, 58] (fun (k : Nat) (u : Value) => [(20, .int .i64 k), (10, .raw u)]) (fun (k : Nat) (u : Value) => [.arr u 3 ((bidsR h l player lim (h.Teams.take k)).map eSale), .cells b8 (hcells (eSale sale0))]) (fun (k : Nat) (u : Value) => k ≤ h.Teams.length ∧ (True)) (fun (k : Nat) (u : Value) => h.Teams.length - k) (0) (.slice none 0 0) ?_ ?_ ?_ ?_
  · exact ⟨Nat.zero_le _, by simp_all⟩
  · exact ⟨rfl, rfl, trivial⟩
  · exact perm_eq rfl
  · intro k u hinv
    obtain ⟨hk, -⟩ := hinv
    refine hw_reg ?_
    refine dp rfl (pop_lss rfl rfl) ?_
    refine dn ?_
    refine hw_seq ?_
    refine hw_cond rfl (fun h1 => ?_) (fun h2 => ?_)
    · try simp at h1
      obtain ⟨x, hx⟩ : ∃ x, h.Teams[k]? = some x := ⟨_, List.getElem?_eq_getElem h1⟩
      have hdx := drop_cons hx
      have hb1 := bidsR_len h l player lim (h.Teams.take k)
      have hb2 : (h.Teams.take k).length ≤ 4 := by simp; omega
      have hb3 := Nat.mul_le_mul hb2 hlim
      refine hw_skip ?_
      refine seqQ_n ?_
      refine hw_seq ?_
      refine hw_block ?_
      refine hw_reg ?_
      refine dp rfl (pop_idx ty26 ty9 rfl rfl rfl (by first | assumption | simp_all)) ?_
      refine dp rfl (pop_load ty9 rfl rfl rfl) ?_
      refine dp rfl (pop_assign rfl) ?_
      refine dn ?_
      refine hw_reg ?_
      refine dp rfl (pop_move rfl) ?_
      refine dp rfl (pop_lenm ty33 rfl) ?_
      refine dp rfl (pop_move rfl) ?_
      refine dn ?_
      refine hw_block ?_
      refine hw_loopw2 [10, 14, 15, 16, 26, 27, 28, 29, 30, 31, 32, 33, 34, 35, 36, 37, 38, 39, 40, 41, 42, 43, 44, 45, 46, 47, 48, 49, 50, 51, 52, 53, 54, 55, 56, 57] (fun (j : Nat) (u : Value) => [(26, .int .i64 j), (10, .raw u)]) (fun (j : Nat) (u : Value) => [.arr u 3 ((bidsR h l player lim (h.Teams.take k) ++ (lim.take j).flatMap (bidR h l player x)).map eSale), .cells b8 (hcells (eSale sale0))]) (fun (j : Nat) (u : Value) => j ≤ lim.length ∧ (True)) (fun (j : Nat) (u : Value) => lim.length - j) (0) (u) ?_ ?_ ?_ ?_
      · exact ⟨Nat.zero_le _, by simp_all⟩
      · exact ⟨rfl, rfl, trivial⟩
      · exact perm_eq (by simp)
      · intro j u hinv
        obtain ⟨hj, -⟩ := hinv
        refine hw_reg ?_
        refine dp rfl (pop_lss rfl rfl) ?_
        refine dn ?_
        refine hw_seq ?_
        refine hw_cond rfl (fun h3 => ?_) (fun h4 => ?_)
        · try simp at h3
          obtain ⟨y, hy⟩ : ∃ y, lim[j]? = some y := ⟨_, List.getElem?_eq_getElem h3⟩
          have hdy := drop_cons hy
          have hb4 := flatR_len h l player x (lim.take j)
          have hb5 : (lim.take j).length ≤ 4 := by simp; omega
          have hb6 := mostOf_bd hl hB hbu hpl x
          refine hw_skip ?_
          refine seqQ_n ?_
          refine hw_seq ?_
          refine hw_block ?_
          refine hw_reg ?_
          refine dp rfl (pop_idx ty33 ty56 rfl rfl rfl (by first | assumption | simp_all)) ?_
          refine dp rfl (pop_loadw ty56 rfl rfl rfl rfl) ?_
          refine de rfl (eop_alloc ty56 rfl fun b14 => ?_)
          refine de0 (eop_storew ty56 rfl rfl rfl rfl rfl ?_)
          refine dn ?_
          refine hw_ghost (Ghost.fc0 14 rfl) ?_
          refine hw_reg ?_
          refine dp rfl ((by first | exact pop_fieldAddr ty56 rfl ty9 (by decide) rfl | exact pop_fieldAddr_raw ty56 rfl ty9 (by decide) rfl)) ?_
          refine dp rfl (pop_load ty9 rfl rfl rfl) ?_
          refine dp rfl (pop_call ca47 rfl (WeakL.refl _) (c_benchref1_Int (hv y (List.mem_of_getElem? hy)))) ?_
          refine dp rfl (pop_move rfl) ?_
          refine dp rfl (pop_extract rfl rfl) ?_
          refine dp rfl (pop_extract rfl rfl) ?_
          refine dp rfl (pop_assign rfl) ?_
          refine dp rfl (pop_assign rfl) ?_
          refine dn ?_
          refine hw_reg ?_
          refine dp rfl (pop_move rfl) ?_
          refine dp rfl (pop_loadw ty28 rfl rfl rfl rfl) ?_
          refine dp rfl (pop_move rfl) ?_
          refine dp rfl (pop_move rfl) ?_
          refine dp rfl (pop_call ca19 rfl (WeakL.refl _) (c_benchref1_MostOf (by first | assumption | omega | (simp; omega) | simp_all) (by first | assumption | omega | (simp; omega) | simp_all) (by first | assumption | omega | (simp; omega) | simp_all) (by first | assumption | omega | (simp; omega) | simp_all))) ?_
          refine dp rfl (pop_eq (pop_min rfl rfl) (congrArg (HVal.int .i64) (mn_eq _ _))) ?_
          refine dp rfl (pop_assign rfl) ?_
          refine dn ?_
          refine hw_reg ?_
          refine dp rfl ((by first | exact pop_fieldAddr ty56 rfl ty9 (by decide) rfl | exact pop_fieldAddr_raw ty56 rfl ty9 (by decide) rfl)) ?_
          refine dp rfl (pop_load ty9 rfl rfl rfl) ?_
          refine dp rfl (pop_move rfl) ?_
          refine dp rfl (pop_eqls rfl rfl) ?_
          refine dp rfl (pop_move rfl) ?_
          refine dg rfl rfl (fun hc => ⟨_, OpenTo.refl _, pop_move rfl⟩) ?_
          refine dg rfl rfl (fun hc => ⟨_, OpenTo.upd (t := 47) rfl (by first | exact hc | simp_all) (OpenTo.refl _), pop_geq rfl rfl⟩) ?_
          refine dp rfl (pop_picko rfl (.inr ⟨_, rfl, fun h => by simp_all⟩) (.inl rfl)) ?_
          refine dn ?_
          refine hw_cond rfl (fun h5 => ?_) (fun h6 => ?_)
          · try simp at h5
            refine hw_reg1 ?_
            refine dp rfl (pop_move rfl) ?_
            refine dp rfl (pop_move rfl) ?_
            refine dp rfl (pop_move rfl) ?_
            refine dp rfl (pop_move rfl) ?_
            refine dp rfl (pop_build (cs := [_, _, _]) ty43 pl43 rfl) ?_
            refine dp rfl (pop_buildSlice (hs := [_]) ty30 ty43 rfl rfl (by decide) (by decide) rfl) ?_
            refine de rfl (eop_append (i := 0) ty30 ty43 rfl rfl rfl rfl rfl (by simp [flat, hcells]) (by simp only [List.length_map, List.length_append, List.length_cons, List.length_nil]; omega) fun v56 => ?_)
            refine dp rfl (pop_assign rfl) ?_
            refine dn ?_
            refine blockQ_n ?_
            refine seqQ_n ?_
            refine hw_reg1 ?_
            refine dp rfl (pop_add64 rfl rfl (by omega) (by omega)) ?_
            refine dp rfl (pop_move rfl) ?_
            refine dn ?_
            exact ⟨j + 1, _, ⟨by omega, trivial⟩, by dsimp only; omega, ⟨rfl, rfl, trivial⟩, (by repeat (first | exact keeps_refl | refine keeps_upd rfl ?_ | refine keeps_loop rfl rfl ?_)), perm_eq (by dsimp only; rw [flatR_snoc h l player x hy, bidR_yes h5.1 h5.2]; simp)⟩
          · try simp at h6
            refine hw_skip ?_
            refine blockQ_n ?_
            refine seqQ_n ?_
            refine hw_reg1 ?_
            refine dp rfl (pop_add64 rfl rfl (by omega) (by omega)) ?_
            refine dp rfl (pop_move rfl) ?_
            refine dn ?_
            exact ⟨j + 1, _, ⟨by omega, trivial⟩, by dsimp only; omega, ⟨rfl, rfl, trivial⟩, (by repeat (first | exact keeps_refl | refine keeps_upd rfl ?_ | refine keeps_loop rfl rfl ?_)), perm_eq (by dsimp only; rw [flatR_snoc h l player x hy, bidR_no h6]; simp)⟩
        · try simp at h4
          have hnj : lim.length ≤ j := by omega
          obtain rfl : j = lim.length := by omega
          refine hw_exit ?_
          refine seqQ_x ?_
          refine loopQ2_x ?_
          refine blockQ_eq ?_
          refine blockQ_n ?_
          refine seqQ_n ?_
          refine hw_reg1 ?_
          refine dp rfl (pop_add64 rfl rfl (by omega) (by omega)) ?_
          refine dp rfl (pop_move rfl) ?_
          refine dn ?_
          exact ⟨k + 1, u, ⟨by omega, trivial⟩, by dsimp only; omega, ⟨rfl, rfl, trivial⟩, (by repeat (first | exact keeps_refl | refine keeps_upd rfl ?_ | refine keeps_loop rfl rfl ?_)), perm_eq (by dsimp only; rw [bidsR_snoc h l player lim hx, List.take_length])⟩
    · try simp at h2
      have hnk : h.Teams.length ≤ k := by omega
      obtain rfl : k = h.Teams.length := by omega
      rw [List.take_length]
      refine hw_exit ?_
      refine seqQ_x ?_
      refine loopQ2_x ?_
      refine blockQ_eq ?_
      refine seqQ_n ?_
      have hBl : (bidsR h l player lim h.Teams).length < 20 := Nat.lt_of_le_of_lt (bidsR_len h l player lim h.Teams) (Nat.lt_of_le_of_lt (Nat.mul_le_mul ht hlim) (by decide))
      refine hw_reg ?_
      refine dp rfl (pop_move rfl) ?_
      refine de rfl (eop_callx (i := 0) ca50 rfl (WeakL.refl _) rfl (c_slices_SortStableFunc_api_Sale_api_Sale (l := bidsR h l player lim h.Teams) (c := byPrice) ca51 (fun x y => c_benchref1_SoldOf_1) hBl) ?_)
      rintro _ _ ⟨rfl, rfl⟩
      refine dn ?_
      have hSb := bidsR_bd (player := player) (lim := lim) (T := h.Teams) (fun t => (mostOf_bd hl hB hbu hpl t).2)
      generalize isort byPrice (bidsR h l player lim h.Teams) = S at hSb ⊢
      refine hw_seq ?_
      refine hw_reg ?_
      refine dp rfl (pop_move rfl) ?_
      first
      | refine de rfl (eop_lenm (i := 0) ty30 rfl rfl ?_)
      | refine de rfl (eop_lenm (i := 1) ty30 rfl rfl ?_)
      | refine de rfl (eop_lenm (i := 2) ty30 rfl rfl ?_)
      | refine de rfl (eop_lenm (i := 3) ty30 rfl rfl ?_)
      refine dn ?_
      refine hw_block ?_
      refine hw_reg ?_
      refine dp rfl (pop_eql rfl rfl) ?_
      refine dp rfl (pop_assign rfl) ?_
      refine dn ?_
      refine hw_cond rfl (fun h7 => ?_) (fun h8 => ?_)
      · try simp at h7
        refine hw_reg ?_
        refine dp rfl (pop_build (cs := [_, _, _]) ty43 pl43 rfl) ?_
        first
        | refine de0 (eop_store (i := 0) ty43 rfl rfl rfl rfl rfl (Nat.le_of_ble_eq_true rfl) ?_)
        | refine de0 (eop_store (i := 1) ty43 rfl rfl rfl rfl rfl (Nat.le_of_ble_eq_true rfl) ?_)
        | refine de0 (eop_store (i := 2) ty43 rfl rfl rfl rfl rfl (Nat.le_of_ble_eq_true rfl) ?_)
        | refine de0 (eop_store (i := 3) ty43 rfl rfl rfl rfl rfl (Nat.le_of_ble_eq_true rfl) ?_)
        refine dp rfl (pop_assign rfl) ?_
        refine dn ?_
        refine hw_ret ?_
        refine ⟨_, _, (Ghost.drop).trans (Ghost.fc0 8 rfl), [_, _], _, ⟨⟨_, _, _, _, _, rfl, ty43, .inr ⟨rfl, rfl, rfl⟩⟩, ⟨rfl, trivial⟩⟩, Weak.refl _, ?_, rfl⟩
        first | rfl | (subst h7; rfl)
      · try simp at h8
        refine hw_reg ?_
        refine dp rfl (pop_eql rfl rfl) ?_
        refine dp rfl (pop_assign rfl) ?_
        refine dn ?_
        refine hw_cond rfl (fun h9 => ?_) (fun h10 => ?_)
        · try simp at h9
          obtain ⟨sa, rfl⟩ := len1 h9
          refine hw_arrc (i := 0) rfl (fun h0 he => ?_) (fun ob off cap hv2 hcap => ?_)
          · exfalso; simp at he
          subst hv2
          refine hw_reg1 ?_
          refine dp rfl (pop_move rfl) ?_
          refine dp rfl (pop_idxraw (j := 0) ty30 ty43 rfl rfl rfl (by simp)) ?_
          refine dp rfl ((by first | exact pop_fieldAddr ty43 rfl ty3 (by decide) rfl | exact pop_fieldAddr_raw ty43 rfl ty3 (by decide) rfl)) ?_
          refine de0 (eop_store_arr (i := 0) (j := 0) (f := 2) (y := eSale sa) (y' := eSale ⟨sa.Player, sa.Team, 1⟩) ty3 rfl (by omega) rfl rfl rfl rfl rfl (by simp [hcells]) rfl ?_)
          refine dn ?_
          refine blockQ_n ?_
          refine seqQ_n ?_
          refine hw_reg ?_
          refine dp rfl (pop_move rfl) ?_
          refine dp rfl (pop_idxraw (j := 0) ty30 ty43 rfl rfl rfl (by simp)) ?_
          first
          | refine de rfl (eop_load_elw (i := 0) (j := 0) (f := eSale) (es := [⟨sa.Player, sa.Team, 1⟩]) ty43 rfl rfl rfl rfl rfl rfl rfl ?_)
          | refine de rfl (eop_load_elw (i := 0) (j := 0) (f := eSale) (es := ⟨sa.Player, sa.Team, min sa.Price (sb.Price + 1)⟩ :: sb :: sr) ty43 rfl rfl rfl rfl rfl rfl rfl ?_)
          first
          | refine de0 (eop_store (i := 0) ty43 rfl rfl rfl rfl rfl (Nat.le_of_ble_eq_true rfl) ?_)
          | refine de0 (eop_store (i := 1) ty43 rfl rfl rfl rfl rfl (Nat.le_of_ble_eq_true rfl) ?_)
          | refine de0 (eop_store (i := 2) ty43 rfl rfl rfl rfl rfl (Nat.le_of_ble_eq_true rfl) ?_)
          | refine de0 (eop_store (i := 3) ty43 rfl rfl rfl rfl rfl (Nat.le_of_ble_eq_true rfl) ?_)
          refine dp rfl (pop_assign rfl) ?_
          refine dn ?_
          refine hw_ret ?_
          refine ⟨_, _, (Ghost.drop).trans (Ghost.fc0 8 rfl), [_, _], _, ⟨⟨_, _, _, _, _, rfl, ty43, .inr ⟨rfl, rfl, rfl⟩⟩, ⟨rfl, trivial⟩⟩, Weak.refl _, ?_, rfl⟩
          first | rfl | (subst h7; rfl)
        · try simp at h10
          obtain ⟨sa, sb, sr, rfl⟩ := len2 h8 h10
          have hsb1 := hSb sb (by simp)
          refine hw_arrc (i := 0) rfl (fun h0 he => ?_) (fun ob off cap hv2 hcap => ?_)
          · exfalso; simp at he
          subst hv2
          refine hw_draw1 (fun M => ∃ i : Nat, M[i]? = some (.arr (.slice (some ⟨ob, off, none⟩) ((sa :: sb :: sr).map eSale).length cap) 3 ((sa :: sb :: sr).map eSale))) [4, 8] mixed ?_
          refine ahp 0 rfl rfl (by kernel_rfl) (by kernel_rfl) (pop_move rfl) ?_
          refine ahp 1 rfl rfl (by kernel_rfl) (by kernel_rfl) (pop_move rfl) ?_
          refine ahp 2 rfl rfl (by kernel_rfl) (by kernel_rfl) (pop_idxraw (j := 0) ty30 ty43 rfl rfl rfl (by simp)) ?_
          refine ahp 3 rfl rfl (by kernel_rfl) (by kernel_rfl) ((by first | exact pop_fieldAddr ty43 rfl ty3 (by decide) rfl | exact pop_fieldAddr_raw ty43 rfl ty3 (by decide) rfl)) ?_
          refine ahl 4 rfl rfl (by kernel_rfl) (by kernel_rfl) (by simp) ⟨0, rfl⟩ (fun M hM => by obtain ⟨i, hi⟩ := hM; exact eop_load_el (i := i) (j := 0) 2 ty3 rfl (by omega) hi rfl rfl rfl ⟨rfl, rfl⟩) ?_
          refine ahp 5 rfl rfl (by kernel_rfl) (by kernel_rfl) (pop_move rfl) ?_
          refine ahp 6 rfl rfl (by kernel_rfl) (by kernel_rfl) (pop_idxraw (j := 1) ty30 ty43 rfl rfl rfl (by simp)) ?_
          refine ahp 7 rfl rfl (by kernel_rfl) (by kernel_rfl) ((by first | exact pop_fieldAddr ty43 rfl ty3 (by decide) rfl | exact pop_fieldAddr_raw ty43 rfl ty3 (by decide) rfl)) ?_
          refine ahl 8 rfl rfl (by kernel_rfl) (by kernel_rfl) (by simp) ⟨0, rfl⟩ (fun M hM => by obtain ⟨i, hi⟩ := hM; exact eop_load_el (i := i) (j := 1) 2 ty3 rfl (by omega) hi rfl rfl rfl ⟨rfl, rfl⟩) ?_
          refine ahp 9 rfl rfl (by kernel_rfl) (by kernel_rfl) (pop_add64 rfl rfl (by omega) (by omega)) ?_
          refine ahp 10 rfl rfl (by kernel_rfl) (by kernel_rfl) (pop_eq (pop_min rfl rfl) (congrArg (HVal.int .i64) (mn_eq _ _))) ?_
          refine ahp 11 rfl rfl (by kernel_rfl) (by kernel_rfl) (pop_idxraw (j := 0) ty30 ty43 rfl rfl rfl (by simp)) ?_
          refine ahp 12 rfl rfl (by kernel_rfl) (by kernel_rfl) ((by first | exact pop_fieldAddr ty43 rfl ty3 (by decide) rfl | exact pop_fieldAddr_raw ty43 rfl ty3 (by decide) rfl)) ?_
          refine ahe 13 rfl (by kernel_rfl) ?_
          refine hop_e0 (eop_store_arr (i := 0) (j := 0) (f := 2) (y := eSale sa) (y' := eSale ⟨sa.Player, sa.Team, min sa.Price (sb.Price + 1)⟩) ty3 rfl (by omega) rfl rfl rfl rfl rfl (by simp [hcells]) rfl ?_)
          refine ⟨fun _ => .inr (by simp [Before, Region.binds]), ?_⟩
          refine ahz (by kernel_rfl) ?_
          refine blockQ_n ?_
          refine seqQ_n ?_
          refine hw_reg ?_
          refine dp rfl (pop_move rfl) ?_
          refine dp rfl (pop_idxraw (j := 0) ty30 ty43 rfl rfl rfl (by simp)) ?_
          first
          | refine de rfl (eop_load_elw (i := 0) (j := 0) (f := eSale) (es := [⟨sa.Player, sa.Team, 1⟩]) ty43 rfl rfl rfl rfl rfl rfl rfl ?_)
          | refine de rfl (eop_load_elw (i := 0) (j := 0) (f := eSale) (es := ⟨sa.Player, sa.Team, min sa.Price (sb.Price + 1)⟩ :: sb :: sr) ty43 rfl rfl rfl rfl rfl rfl rfl ?_)
          first
          | refine de0 (eop_store (i := 0) ty43 rfl rfl rfl rfl rfl (Nat.le_of_ble_eq_true rfl) ?_)
          | refine de0 (eop_store (i := 1) ty43 rfl rfl rfl rfl rfl (Nat.le_of_ble_eq_true rfl) ?_)
          | refine de0 (eop_store (i := 2) ty43 rfl rfl rfl rfl rfl (Nat.le_of_ble_eq_true rfl) ?_)
          | refine de0 (eop_store (i := 3) ty43 rfl rfl rfl rfl rfl (Nat.le_of_ble_eq_true rfl) ?_)
          refine dp rfl (pop_assign rfl) ?_
          refine dn ?_
          refine hw_ret ?_
          refine ⟨_, _, (Ghost.drop).trans (Ghost.fc0 8 rfl), [_, _], _, ⟨⟨_, _, _, _, _, rfl, ty43, .inr ⟨rfl, rfl, rfl⟩⟩, ⟨rfl, trivial⟩⟩, Weak.refl _, ?_, rfl⟩
          first | rfl | (subst h7; rfl)
end Go.Proofs.YtjfapmloepemiaaGreatDoor
end
section
namespace Go.HL
theorem Ghost.clear {e : Env} : ∀ {M : List MObj}, Ghost e M e []
  | [] => Ghost.perm (List.Perm.refl _)
  | _ :: _ => Ghost.trans Ghost.drop Ghost.clear
theorem Ghost.last {e : Env} {m : MObj} : ∀ {R : List MObj}, Ghost e (R ++ [m]) e [m]
  | [] => Ghost.perm (List.Perm.refl _)
  | x :: R => Ghost.trans (M' := R ++ [m]) Ghost.drop Ghost.last
theorem Ghost.only {e : Env} {M : List MObj} {i : Nat} {m : MObj} (h : M[i]? = some m) : Ghost e M e [m] :=
  Ghost.trans (Ghost.perm ((perm_erase h).trans (List.perm_append_comm (l₁ := [m]) (l₂ := M.eraseIdx i)))) Ghost.last
abbrev AucM (b b1 b2 b3 : Nat) (h : Hall) (S : List Str) (L H : SMap) : List MObj :=
  [.cells b [.vptr (hcells (eHall h)) 0, .raw (.map (some b1)), .raw (.map (some b2)), .raw (.map (some b3))], .map b1 (sk (mset S)), .map b2 (sk L), .map b3 (sk H)]
theorem take_contains {T : List Str} {k : Nat} {x t : Str} (hx : T[k]? = some x) (h : (T.take (k + 1)).contains t = true) (hn : ¬ t = x) : (T.take k).contains t = true := by
  rw [take_snoc' hx] at h
  simp only [List.contains_eq_mem, List.mem_append, List.mem_singleton, decide_eq_true_eq] at h ⊢
  rcases h with h | h
  · exact h
  · exact absurd h hn
theorem players_sorted {l : List Str} (h : playersFault l = 0) : SortedS l := by
  unfold playersFault at h
  split at h
  · omega
  · exact rising1_sorted h
theorem saleFault_team {h : Hall} {l : List Sale} {x : Sale} (e : saleFault h l x = 0) : h.Teams.contains x.Team = true := by
  unfold saleFault at e
  split at e
  · omega
  · rename_i hc
    simp only [Bool.or_eq_true, Bool.not_eq_true', not_or, Bool.not_eq_false] at hc
    exact hc.2
end Go.HL
end
section
namespace Go.Proofs.YtjfapmloepemiaaGreatDoor
open Go.HL
set_option maxRecDepth 100000
set_option linter.unusedVariables false
set_option linter.unusedSimpArgs false
/-- benchwarmer/draft.newAuction -/
theorem c_draft_newAuction {h : Hall} (ht : h.Teams.length ≤ 1000000) : Con Tryz.prog 62 [.vptr (hcells (eHall h)) 0] [] (fun x M' => ∃ b b1 b2 b3 L, x = pAt b ∧ (∀ t, h.Teams.contains t = true → lkI L t = .int .i64 h.Budget) ∧ M' = AucM b b1 b2 b3 h [] L []) := by
  refine Con.of_body Tryz.func62 rfl Tryz.ntmps62 rfl rfl ?_
  refine hw_reg ?_
  refine dp rfl (pop_assign rfl) ?_
  refine dn ?_
  refine hw_reg ?_
  refine dp rfl (pop_move rfl) ?_
  refine de rfl (eop_makeMap fun m7 => ?_)
  refine de rfl (eop_makeMap fun m8 => ?_)
  refine de rfl (eop_makeMap fun m9 => ?_)
  refine dp rfl (pop_build (cs := [_, _, _, _]) ty82 pl82 rfl) ?_
  refine de rfl (eop_box rfl rfl fun b => ?_)
  refine dp rfl (pop_assign rfl) ?_
  refine dn ?_
  refine hw_ghost (Ghost.perm (M' := AucM b m7 m8 m9 h [] [] []) (by repeat (first | exact List.Perm.nil | refine permTo 0 rfl ?_ | refine permTo 1 rfl ?_ | refine permTo 2 rfl ?_ | refine permTo 3 rfl ?_ | (refine permToE 0 rfl ?hq ?_; (case hq => simp [setL, hcells]; done)) | (refine permToE 1 rfl ?hq ?_; (case hq => simp [setL, hcells]; done)) | (refine permToE 2 rfl ?hq ?_; (case hq => simp [setL, hcells]; done)) | (refine permToE 3 rfl ?hq ?_; (case hq => simp [setL, hcells]; done)) | fail))) ?_
  refine hw_seq ?_
  refine hw_reg ?_
  refine dp rfl (pop_move rfl) ?_
  refine dp rfl ((by first | exact pop_nilCheck rfl | exact pop_nilCheck_raw rfl)) ?_
  refine dp rfl (pop_fieldAddr ty28 rfl ty26 (by decide) rfl) ?_
  refine dp rfl (pop_load ty26 rfl rfl rfl) ?_
  refine dp rfl (pop_lenm ty26 rfl) ?_
  refine dp rfl (pop_move rfl) ?_
  refine dn ?_
  refine hw_block ?_
  refine hw_loopw2 [5, 17, 18, 19, 20, 21, 22, 23, 24, 25, 26, 27, 28, 29, 30] (fun (k : Nat) (L : SMap) => [(17, .int .i64 k)]) (fun (k : Nat) (L : SMap) => AucM b m7 m8 m9 h [] L []) (fun (k : Nat) (L : SMap) => k ≤ h.Teams.length ∧ (∀ t, (h.Teams.take k).contains t = true → lkI L t = .int .i64 h.Budget)) (fun (k : Nat) (L : SMap) => h.Teams.length - k) (0) ([]) ?_ ?_ ?_ ?_
  · exact ⟨Nat.zero_le _, by simp⟩
  · exact ⟨rfl, trivial⟩
  · exact List.Perm.refl _
  · intro k L hinv
    obtain ⟨hk, hg⟩ := hinv
    refine hw_reg ?_
    refine dp rfl (pop_lss rfl rfl) ?_
    refine dn ?_
    refine hw_seq ?_
    refine hw_cond rfl (fun h1 => ?_) (fun h2 => ?_)
    · try simp at h1
      obtain ⟨x, hx⟩ : ∃ x, h.Teams[k]? = some x := ⟨_, List.getElem?_eq_getElem h1⟩
      have hdx := drop_cons hx
      refine hw_skip ?_
      refine seqQ_n ?_
      refine hw_seq ?_
      refine hw_block ?_
      refine hw_reg ?_
      refine dp rfl (pop_idx ty26 ty9 rfl rfl rfl (by first | assumption | simp_all)) ?_
      refine dp rfl (pop_load ty9 rfl rfl rfl) ?_
      refine dp rfl (pop_assign rfl) ?_
      refine dn ?_
      refine hw_draw1 (fun M => M = AucM b m7 m8 m9 h [] L []) [3] mixed ?_
      refine ahp 0 rfl rfl (by kernel_rfl) (by kernel_rfl) (pop_move rfl) ?_
      refine ahp 1 rfl rfl (by kernel_rfl) (by kernel_rfl) ((by first | exact pop_nilCheck rfl | exact pop_nilCheck_raw rfl)) ?_
      refine ahp 2 rfl rfl (by kernel_rfl) (by kernel_rfl) (pop_fieldAddr_raw ty82 rfl ty80 (by decide) rfl) ?_
      refine ahl 3 rfl rfl (by kernel_rfl) (by kernel_rfl) (by simp) rfl (fun M hM => by subst hM; exact eop_load (i := 0) ty80 rfl rfl (.inl ⟨rfl, rfl⟩) ⟨rfl, rfl⟩) ?_
      refine ahp 4 rfl rfl (by kernel_rfl) (by kernel_rfl) (pop_move rfl) ?_
      refine ahp 5 rfl rfl (by kernel_rfl) (by kernel_rfl) (pop_move rfl) ?_
      refine ahp 6 rfl rfl (by kernel_rfl) (by kernel_rfl) ((by first | exact pop_nilCheck rfl | exact pop_nilCheck_raw rfl)) ?_
      refine ahp 7 rfl rfl (by kernel_rfl) (by kernel_rfl) (pop_fieldAddr ty28 rfl ty3 (by decide) rfl) ?_
      refine ahp 8 rfl rfl (by kernel_rfl) (by kernel_rfl) (pop_load ty3 rfl rfl rfl) ?_
      refine ahe 9 rfl (by kernel_rfl) ?_
      first
      | refine hop_e0 (eop_mapUpdate (i := 0) ty80 ty9 rfl rfl rfl rfl ?_)
      | refine hop_e0 (eop_mapUpdate (i := 1) ty80 ty9 rfl rfl rfl rfl ?_)
      | refine hop_e0 (eop_mapUpdate (i := 2) ty80 ty9 rfl rfl rfl rfl ?_)
      | refine hop_e0 (eop_mapUpdate (i := 3) ty80 ty9 rfl rfl rfl rfl ?_)
      refine ⟨fun _ => by first | exact .inl ⟨0, rfl⟩ | exact .inl ⟨1, rfl⟩ | exact .inl ⟨2, rfl⟩ | exact .inr (by simp [Before, Region.binds]), ?_⟩
      refine ahz (by kernel_rfl) ?_
      refine blockQ_n ?_
      refine seqQ_n ?_
      refine hw_reg1 ?_
      refine dp rfl (pop_add64 rfl rfl (by omega) (by omega)) ?_
      refine dp rfl (pop_move rfl) ?_
      refine dn ?_
      refine ⟨k + 1, _, ?_, ?_, ⟨rfl, trivial⟩, (by repeat (first | exact keeps_refl | refine keeps_upd rfl ?_ | refine keeps_loop rfl rfl ?_)), List.Perm.refl _⟩
      · refine ⟨by omega, fun t ht2 => ?_⟩
        rw [lkI_put]
        by_cases e : t = x
        · rw [if_pos e]
        · rw [if_neg e]; exact hg t (take_contains hx ht2 e)
      · dsimp only; omega
    · try simp at h2
      have hnk : h.Teams.length ≤ k := by omega
      obtain rfl : k = h.Teams.length := by omega
      rw [List.take_length] at hg
      refine hw_exit ?_
      refine seqQ_x ?_
      refine loopQ2_x ?_
      refine blockQ_eq ?_
      refine seqQ_n ?_
      refine hw_reg ?_
      refine dp rfl (pop_move rfl) ?_
      refine dp rfl (pop_assign rfl) ?_
      refine dn ?_
      refine hw_ret ?_
      exact ret_q rfl ⟨b, m7, m8, m9, L, rfl, hg, rfl⟩

/-- (*benchwarmer/draft.auction).most -/
theorem c_draft_auction_most {b b1 b2 b3 : Nat} {h : Hall} {l : List Sale} {S : List Str} {L H : SMap} {team : Str} (ok : AucOk h l S L H) (htm : h.Teams.contains team = true) (hl : l.length ≤ 1000) (hB : ∀ x ∈ l, -2000000 ≤ x.Price ∧ x.Price ≤ 2000000) (hbu : -2000000 ≤ h.Budget ∧ h.Budget ≤ 2000000) (hpl : -2000000 ≤ h.Places ∧ h.Places ≤ 2000000) : Con Tryz.prog 42 [pAt b, .str team] (AucM b b1 b2 b3 h S L H) (fun res M' => res = .int .i64 (mostOf h l team) ∧ M' = (AucM b b1 b2 b3 h S L H)) := by
  have hsb := spent_bd (B := 2000000) (by decide) hB team
  have hmb := many_bd l team
  refine Con.of_body Tryz.func42 rfl Tryz.ntmps42 rfl rfl ?_
  refine hw_reg ?_
  refine dp rfl (pop_assign rfl) ?_
  refine dn ?_
  refine hw_seq ?_
  refine hw_draw (fun M => M = (AucM b b1 b2 b3 h S L H)) [3, 5, 9] mixed ?_
  refine ahp 0 rfl rfl (by kernel_rfl) (by kernel_rfl) (pop_move rfl) ?_
  refine ahp 1 rfl rfl (by kernel_rfl) (by kernel_rfl) ((by first | exact pop_nilCheck rfl | exact pop_nilCheck_raw rfl)) ?_
  refine ahp 2 rfl rfl (by kernel_rfl) (by kernel_rfl) (pop_fieldAddr_raw ty82 rfl ty80 (by decide) rfl) ?_
  refine ahl 3 rfl rfl (by kernel_rfl) (by kernel_rfl) (by simp) rfl (fun M hM => by subst hM; exact eop_load (i := 0) ty80 rfl rfl (.inl ⟨rfl, rfl⟩) ⟨rfl, rfl⟩) ?_
  refine ahp 4 rfl rfl (by kernel_rfl) (by kernel_rfl) (pop_move rfl) ?_
  refine ahl 5 rfl rfl (by kernel_rfl) (by kernel_rfl) (by simp) rfl (fun M hM => by subst hM; exact eop_lookup (i := 3) ty80 ty9 ty3 rfl rfl rfl ⟨ok.got team, rfl⟩) ?_
  refine ahp 6 rfl rfl (by kernel_rfl) (by kernel_rfl) (pop_move rfl) ?_
  refine ahp 7 rfl rfl (by kernel_rfl) (by kernel_rfl) ((by first | exact pop_nilCheck rfl | exact pop_nilCheck_raw rfl)) ?_
  refine ahp 8 rfl rfl (by kernel_rfl) (by kernel_rfl) (pop_fieldAddr_raw ty82 rfl ty77 (by decide) rfl) ?_
  refine ahl 9 rfl rfl (by kernel_rfl) (by kernel_rfl) (by simp) rfl (fun M hM => by subst hM; exact eop_load (i := 0) ty77 rfl rfl (.inl ⟨rfl, rfl⟩) ⟨rfl, rfl⟩) ?_
  refine ahp 10 rfl rfl (by kernel_rfl) (by kernel_rfl) ((by first | exact pop_nilCheck rfl | exact pop_nilCheck_raw rfl)) ?_
  refine ahp 11 rfl rfl (by kernel_rfl) (by kernel_rfl) ((by first | exact pop_fieldAddr ty28 rfl ty3 (by decide) rfl | exact pop_fieldAddr_raw ty28 rfl ty3 (by decide) rfl)) ?_
  refine ahp 12 rfl rfl (by kernel_rfl) (by kernel_rfl) (pop_load ty3 rfl rfl rfl) ?_
  refine ahp 13 rfl rfl (by kernel_rfl) (by kernel_rfl) (pop_eql rfl rfl) ?_
  refine ahz (by kernel_rfl) ?_
  refine hw_cond rfl (fun h1 => ?_) (fun h2 => ?_)
  · try simp at h1
    refine hw_reg ?_
    refine dp rfl (pop_assign rfl) ?_
    refine dn ?_
    refine hw_ret ?_
    refine ret_q rfl ⟨?_, rfl⟩
    show HVal.int .i64 _ = _
    simp_all [mostOf]
  · try simp at h2
    refine hw_skip ?_
    refine seqQ_n ?_
    refine hw_draw (fun M => M = (AucM b b1 b2 b3 h S L H)) [3, 5, 9, 16, 18] mixed ?_
    refine ahp 0 rfl rfl (by kernel_rfl) (by kernel_rfl) (pop_move rfl) ?_
    refine ahp 1 rfl rfl (by kernel_rfl) (by kernel_rfl) ((by first | exact pop_nilCheck rfl | exact pop_nilCheck_raw rfl)) ?_
    refine ahp 2 rfl rfl (by kernel_rfl) (by kernel_rfl) (pop_fieldAddr_raw ty82 rfl ty80 (by decide) rfl) ?_
    refine ahl 3 rfl rfl (by kernel_rfl) (by kernel_rfl) (by simp) rfl (fun M hM => by subst hM; exact eop_load (i := 0) ty80 rfl rfl (.inl ⟨rfl, rfl⟩) ⟨rfl, rfl⟩) ?_
    refine ahp 4 rfl rfl (by kernel_rfl) (by kernel_rfl) (pop_move rfl) ?_
    refine ahl 5 rfl rfl (by kernel_rfl) (by kernel_rfl) (by simp) rfl (fun M hM => by subst hM; exact eop_lookup (i := 2) ty80 ty9 ty3 rfl rfl rfl ⟨ok.left team htm, rfl⟩) ?_
    refine ahp 6 rfl rfl (by kernel_rfl) (by kernel_rfl) (pop_move rfl) ?_
    refine ahp 7 rfl rfl (by kernel_rfl) (by kernel_rfl) ((by first | exact pop_nilCheck rfl | exact pop_nilCheck_raw rfl)) ?_
    refine ahp 8 rfl rfl (by kernel_rfl) (by kernel_rfl) (pop_fieldAddr_raw ty82 rfl ty77 (by decide) rfl) ?_
    refine ahl 9 rfl rfl (by kernel_rfl) (by kernel_rfl) (by simp) rfl (fun M hM => by subst hM; exact eop_load (i := 0) ty77 rfl rfl (.inl ⟨rfl, rfl⟩) ⟨rfl, rfl⟩) ?_
    refine ahp 10 rfl rfl (by kernel_rfl) (by kernel_rfl) ((by first | exact pop_nilCheck rfl | exact pop_nilCheck_raw rfl)) ?_
    refine ahp 11 rfl rfl (by kernel_rfl) (by kernel_rfl) ((by first | exact pop_fieldAddr ty28 rfl ty3 (by decide) rfl | exact pop_fieldAddr_raw ty28 rfl ty3 (by decide) rfl)) ?_
    refine ahp 12 rfl rfl (by kernel_rfl) (by kernel_rfl) (pop_load ty3 rfl rfl rfl) ?_
    refine ahp 13 rfl rfl (by kernel_rfl) (by kernel_rfl) (pop_move rfl) ?_
    refine ahp 14 rfl rfl (by kernel_rfl) (by kernel_rfl) ((by first | exact pop_nilCheck rfl | exact pop_nilCheck_raw rfl)) ?_
    refine ahp 15 rfl rfl (by kernel_rfl) (by kernel_rfl) (pop_fieldAddr_raw ty82 rfl ty80 (by decide) rfl) ?_
    refine ahl 16 rfl rfl (by kernel_rfl) (by kernel_rfl) (by simp) rfl (fun M hM => by subst hM; exact eop_load (i := 0) ty80 rfl rfl (.inl ⟨rfl, rfl⟩) ⟨rfl, rfl⟩) ?_
    refine ahp 17 rfl rfl (by kernel_rfl) (by kernel_rfl) (pop_move rfl) ?_
    refine ahl 18 rfl rfl (by kernel_rfl) (by kernel_rfl) (by simp) rfl (fun M hM => by subst hM; exact eop_lookup (i := 3) ty80 ty9 ty3 rfl rfl rfl ⟨ok.got team, rfl⟩) ?_
    refine ahp 19 rfl rfl (by kernel_rfl) (by kernel_rfl) (pop_sub64 rfl rfl (by omega) (by omega)) ?_
    refine ahp 20 rfl rfl (by kernel_rfl) (by kernel_rfl) (pop_sub64 rfl rfl (by omega) (by omega)) ?_
    refine ahp 21 rfl rfl (by kernel_rfl) (by kernel_rfl) (pop_sub64 rfl rfl (by omega) (by omega)) ?_
    refine ahp 22 rfl rfl (by kernel_rfl) (by kernel_rfl) (pop_assign rfl) ?_
    refine ahz (by kernel_rfl) ?_
    refine hw_ret ?_
    refine ret_q rfl ⟨?_, rfl⟩
    show HVal.int .i64 _ = _
    simp_all [mostOf]

/-- (*benchwarmer/draft.auction).can -/
theorem c_draft_auction_can {b b1 b2 b3 : Nat} {h : Hall} {S : List Str} {L H : SMap} {s : Str} (hp : h.Players.length ≤ 1000000) (hso : SortedS h.Players) : Con Tryz.prog 43 [pAt b, .str s] (AucM b b1 b2 b3 h S L H) (fun res M' => res = .bool (h.Players.contains s) ∧ M' = (AucM b b1 b2 b3 h S L H)) := by
  refine Con.of_body Tryz.func43 rfl Tryz.ntmps43 rfl rfl ?_
  refine hw_reg ?_
  refine dp rfl (pop_assign rfl) ?_
  refine dn ?_
  refine hw_reg ?_
  refine dp rfl (pop_move rfl) ?_
  refine dp rfl ((by first | exact pop_nilCheck rfl | exact pop_nilCheck_raw rfl)) ?_
  refine dp rfl (pop_fieldAddr_raw ty82 rfl ty77 (by decide) rfl) ?_
  first
  | refine de rfl (eop_load (i := 0) ty77 rfl rfl (.inl ⟨rfl, rfl⟩) ?_)
  | refine de rfl (eop_load (i := 1) ty77 rfl rfl (.inl ⟨rfl, rfl⟩) ?_)
  | refine de rfl (eop_load (i := 2) ty77 rfl rfl (.inl ⟨rfl, rfl⟩) ?_)
  | refine de rfl (eop_load (i := 3) ty77 rfl rfl (.inl ⟨rfl, rfl⟩) ?_)
  refine dp rfl ((by first | exact pop_nilCheck rfl | exact pop_nilCheck_raw rfl)) ?_
  refine dp rfl ((by first | exact pop_fieldAddr ty28 rfl ty26 (by decide) rfl | exact pop_fieldAddr_raw ty28 rfl ty26 (by decide) rfl)) ?_
  refine dp rfl (pop_load ty26 rfl rfl rfl) ?_
  refine dp rfl (pop_move rfl) ?_
  refine dp rfl (pop_call ca64 rfl (WeakL.refl _) (c_slices_BinarySearch_string_string (by first | assumption | omega | (simp; omega) | simp_all) (by first | assumption | omega | (simp; omega) | simp_all))) ?_
  refine dp rfl (pop_move rfl) ?_
  refine dp rfl (pop_extract rfl rfl) ?_
  refine dp rfl (pop_extract rfl rfl) ?_
  refine dp rfl (pop_assign rfl) ?_
  refine dp rfl (pop_assign rfl) ?_
  refine dn ?_
  refine hw_reg ?_
  refine dp rfl (pop_move rfl) ?_
  refine dp rfl (pop_assign rfl) ?_
  refine dn ?_
  refine hw_ret ?_
  exact ret_q rfl ⟨rfl, rfl⟩

/-- (*benchwarmer/draft.auction).fault -/
theorem c_draft_auction_fault {b b1 b2 b3 : Nat} {h : Hall} {l : List Sale} {S : List Str} {L H : SMap} {x : Sale} (ok : AucOk h l S L H) (hso : SortedS h.Players) (hl : l.length ≤ 1000) (hB : ∀ x ∈ l, -2000000 ≤ x.Price ∧ x.Price ≤ 2000000) (hbu : -2000000 ≤ h.Budget ∧ h.Budget ≤ 2000000) (hpl : -2000000 ≤ h.Places ∧ h.Places ≤ 2000000) (ht : h.Teams.length ≤ 1000000) (hp : h.Players.length ≤ 1000000) : Con Tryz.prog 63 [pAt b, eSale x] (AucM b b1 b2 b3 h S L H) (fun res M' => res = .int .i64 (saleFault h l x) ∧ M' = (AucM b b1 b2 b3 h S L H)) := by
  refine Con.of_body Tryz.func63 rfl Tryz.ntmps63 rfl rfl ?_
  refine hw_reg ?_
  refine dp rfl (pop_box rfl rfl) ?_
  refine dp rfl (pop_assign rfl) ?_
  refine dn ?_
  refine hw_seq ?_
  refine hw_block ?_
  refine hw_draw (fun M => M = (AucM b b1 b2 b3 h S L H)) [3, 9] mixed ?_
  refine ahp 0 rfl rfl (by kernel_rfl) (by kernel_rfl) (pop_move rfl) ?_
  refine ahp 1 rfl rfl (by kernel_rfl) (by kernel_rfl) ((by first | exact pop_fieldAddr ty43 rfl ty9 (by decide) rfl | exact pop_fieldAddr_raw ty43 rfl ty9 (by decide) rfl)) ?_
  refine ahp 2 rfl rfl (by kernel_rfl) (by kernel_rfl) (pop_load ty9 rfl rfl rfl) ?_
  refine ahl 3 rfl rfl (by kernel_rfl) (by kernel_rfl) (by simp) rfl (fun M hM => by subst hM; exact eop_callf (M1 := (AucM b b1 b2 b3 h S L H)) (R := []) ca43 rfl (WeakL.refl _) (List.Perm.refl _) (c_draft_auction_can hp hso) (fun _ _ hh => ⟨hh.1, by rw [hh.2]; rfl⟩)) ?_
  refine ahp 4 rfl rfl (by kernel_rfl) (by kernel_rfl) (pop_not rfl) ?_
  refine ahp 5 rfl rfl (by kernel_rfl) (by kernel_rfl) (pop_move rfl) ?_
  refine ahg 6 rfl rfl (by kernel_rfl) (by kernel_rfl) rfl (fun hc => ⟨_, OpenTo.refl _, pop_move rfl⟩) ?_
  refine ahg 7 rfl rfl (by kernel_rfl) (by kernel_rfl) rfl (fun hc => ⟨_, OpenTo.upd (t := 12) rfl (by first | exact hc | simp_all) (OpenTo.refl _), (by first | exact pop_nilCheck rfl | exact pop_nilCheck_raw rfl)⟩) ?_
  refine ahg 8 rfl rfl (by kernel_rfl) (by kernel_rfl) rfl (fun hc => ⟨_, OpenTo.upd (t := 13) rfl (by first | exact hc | simp_all) (OpenTo.refl _), pop_fieldAddr_raw ty82 rfl ty77 (by decide) rfl⟩) ?_
  refine ahgl 9 rfl rfl (by kernel_rfl) (by kernel_rfl) (by simp) rfl rfl (fun hc => ⟨_, OpenTo.upd (t := 14) rfl (by first | exact hc | simp_all) (OpenTo.refl _), fun M hM => by
      subst hM; exact eop_load (i := 0) ty77 rfl rfl (.inl ⟨rfl, rfl⟩) ⟨rfl, rfl⟩
    ⟩) ?_
  refine ahg 10 rfl rfl (by kernel_rfl) (by kernel_rfl) rfl (fun hc => ⟨_, OpenTo.upd (t := 15) rfl (by first | exact hc | simp_all) (OpenTo.refl _), (by first | exact pop_nilCheck rfl | exact pop_nilCheck_raw rfl)⟩) ?_
  refine ahg 11 rfl rfl (by kernel_rfl) (by kernel_rfl) rfl (fun hc => ⟨_, OpenTo.upd (t := 16) rfl (by first | exact hc | simp_all) (OpenTo.refl _), (by first | exact pop_fieldAddr ty28 rfl ty26 (by decide) rfl | exact pop_fieldAddr_raw ty28 rfl ty26 (by decide) rfl)⟩) ?_
  refine ahg 12 rfl rfl (by kernel_rfl) (by kernel_rfl) rfl (fun hc => ⟨_, OpenTo.upd (t := 17) rfl (by first | exact hc | simp_all) (OpenTo.refl _), pop_load ty26 rfl rfl rfl⟩) ?_
  refine ahg 13 rfl rfl (by kernel_rfl) (by kernel_rfl) rfl (fun hc => ⟨_, OpenTo.refl _, (by first | exact pop_fieldAddr ty43 rfl ty9 (by decide) rfl | exact pop_fieldAddr_raw ty43 rfl ty9 (by decide) rfl)⟩) ?_
  refine ahg 14 rfl rfl (by kernel_rfl) (by kernel_rfl) rfl (fun hc => ⟨_, OpenTo.upd (t := 19) rfl (by first | exact hc | simp_all) (OpenTo.refl _), pop_load ty9 rfl rfl rfl⟩) ?_
  refine ahg 15 rfl rfl (by kernel_rfl) (by kernel_rfl) rfl (fun hc => by have hq := hc; (try simp at hq); exact ⟨_, OpenTo.upd (t := 20) rfl (by first | exact hc | simp_all) (OpenTo.upd (t := 18) rfl (by first | exact hc | simp_all) (OpenTo.refl _)), pop_call ca17 rfl (WeakL.refl _) (c_slices_Contains_string_string (by first | assumption | omega | (simp; omega) | simp_all))⟩) ?_
  refine ahg 16 rfl rfl (by kernel_rfl) (by kernel_rfl) rfl (fun hc => ⟨_, OpenTo.upd (t := 21) rfl (by first | exact hc | simp_all) (OpenTo.refl _), pop_not rfl⟩) ?_
  refine ahp 17 rfl rfl (by kernel_rfl) (by kernel_rfl) (pop_picko rfl (.inl rfl) (.inr ⟨_, rfl, fun h => by simp_all⟩)) ?_
  refine ahp 18 rfl rfl (by kernel_rfl) (by kernel_rfl) (pop_assign rfl) ?_
  refine ahz (by kernel_rfl) ?_
  refine hw_cond rfl (fun h1 => ?_) (fun h2 => ?_)
  · try simp at h1
    refine hw_reg ?_
    refine dp rfl (pop_assign rfl) ?_
    refine dn ?_
    refine hw_ret ?_
    refine ret_q rfl ⟨?_, rfl⟩
    show HVal.int .i64 _ = _
    first | (rw [sf3 h2 h4 h5]; done) | (rw [sf4 h2 h4 h6 h7]; done) | (rw [sf5 h2 h4 h6 h8 h9]; done) | (rw [sf0 h2 h4 h6 h8 h10]; done) | (simp_all [saleFault]; done)
  · try simp at h2
    refine hw_draw (fun M => M = (AucM b b1 b2 b3 h S L H)) [3, 6] mixed ?_
    refine ahp 0 rfl rfl (by kernel_rfl) (by kernel_rfl) (pop_move rfl) ?_
    refine ahp 1 rfl rfl (by kernel_rfl) (by kernel_rfl) ((by first | exact pop_nilCheck rfl | exact pop_nilCheck_raw rfl)) ?_
    refine ahp 2 rfl rfl (by kernel_rfl) (by kernel_rfl) (pop_fieldAddr_raw ty82 rfl ty79 (by decide) rfl) ?_
    refine ahl 3 rfl rfl (by kernel_rfl) (by kernel_rfl) (by simp) rfl (fun M hM => by subst hM; exact eop_load (i := 0) ty79 rfl rfl (.inl ⟨rfl, rfl⟩) ⟨rfl, rfl⟩) ?_
    refine ahp 4 rfl rfl (by kernel_rfl) (by kernel_rfl) ((by first | exact pop_fieldAddr ty43 rfl ty9 (by decide) rfl | exact pop_fieldAddr_raw ty43 rfl ty9 (by decide) rfl)) ?_
    refine ahp 5 rfl rfl (by kernel_rfl) (by kernel_rfl) (pop_load ty9 rfl rfl rfl) ?_
    refine ahl 6 rfl rfl (by kernel_rfl) (by kernel_rfl) (by simp) rfl (fun M hM => by subst hM; exact eop_lookup_set (i := 1) ty79 ty9 ty4 rfl rfl rfl ⟨congrArg HVal.bool (ok.sold x.Player), rfl⟩) ?_
    refine ahp 7 rfl rfl (by kernel_rfl) (by kernel_rfl) (pop_assign rfl) ?_
    refine ahz (by kernel_rfl) ?_
    refine hw_cond rfl (fun h3 => ?_) (fun h4 => ?_)
    · try simp at h3
      refine hw_reg ?_
      refine dp rfl (pop_assign rfl) ?_
      refine dn ?_
      refine hw_ret ?_
      refine ret_q rfl ⟨?_, rfl⟩
      show HVal.int .i64 _ = _
      first | (rw [sf3 h2 h4 h5]; done) | (rw [sf4 h2 h4 h6 h7]; done) | (rw [sf5 h2 h4 h6 h8 h9]; done) | (rw [sf0 h2 h4 h6 h8 h10]; done) | (simp_all [saleFault]; done)
    · try simp at h4
      refine hw_reg ?_
      refine dp rfl ((by first | exact pop_fieldAddr ty43 rfl ty3 (by decide) rfl | exact pop_fieldAddr_raw ty43 rfl ty3 (by decide) rfl)) ?_
      refine dp rfl (pop_load ty3 rfl rfl rfl) ?_
      refine dp rfl (pop_lss rfl rfl) ?_
      refine dp rfl (pop_assign rfl) ?_
      refine dn ?_
      refine hw_cond rfl (fun h5 => ?_) (fun h6 => ?_)
      · try simp at h5
        refine hw_reg ?_
        refine dp rfl (pop_assign rfl) ?_
        refine dn ?_
        refine hw_ret ?_
        refine ret_q rfl ⟨?_, rfl⟩
        show HVal.int .i64 _ = _
        first | (rw [sf3 h2 h4 h5]; done) | (rw [sf4 h2 h4 h6 h7]; done) | (rw [sf5 h2 h4 h6 h8 h9]; done) | (rw [sf0 h2 h4 h6 h8 h10]; done) | (simp_all [saleFault]; done)
      · try simp at h6
        refine hw_draw (fun M => M = (AucM b b1 b2 b3 h S L H)) [3, 6, 10] mixed ?_
        refine ahp 0 rfl rfl (by kernel_rfl) (by kernel_rfl) (pop_move rfl) ?_
        refine ahp 1 rfl rfl (by kernel_rfl) (by kernel_rfl) ((by first | exact pop_nilCheck rfl | exact pop_nilCheck_raw rfl)) ?_
        refine ahp 2 rfl rfl (by kernel_rfl) (by kernel_rfl) (pop_fieldAddr_raw ty82 rfl ty80 (by decide) rfl) ?_
        refine ahl 3 rfl rfl (by kernel_rfl) (by kernel_rfl) (by simp) rfl (fun M hM => by subst hM; exact eop_load (i := 0) ty80 rfl rfl (.inl ⟨rfl, rfl⟩) ⟨rfl, rfl⟩) ?_
        refine ahp 4 rfl rfl (by kernel_rfl) (by kernel_rfl) ((by first | exact pop_fieldAddr ty43 rfl ty9 (by decide) rfl | exact pop_fieldAddr_raw ty43 rfl ty9 (by decide) rfl)) ?_
        refine ahp 5 rfl rfl (by kernel_rfl) (by kernel_rfl) (pop_load ty9 rfl rfl rfl) ?_
        refine ahl 6 rfl rfl (by kernel_rfl) (by kernel_rfl) (by simp) rfl (fun M hM => by subst hM; exact eop_lookup (i := 3) ty80 ty9 ty3 rfl rfl rfl ⟨ok.got x.Team, rfl⟩) ?_
        refine ahp 7 rfl rfl (by kernel_rfl) (by kernel_rfl) (pop_move rfl) ?_
        refine ahp 8 rfl rfl (by kernel_rfl) (by kernel_rfl) ((by first | exact pop_nilCheck rfl | exact pop_nilCheck_raw rfl)) ?_
        refine ahp 9 rfl rfl (by kernel_rfl) (by kernel_rfl) (pop_fieldAddr_raw ty82 rfl ty77 (by decide) rfl) ?_
        refine ahl 10 rfl rfl (by kernel_rfl) (by kernel_rfl) (by simp) rfl (fun M hM => by subst hM; exact eop_load (i := 0) ty77 rfl rfl (.inl ⟨rfl, rfl⟩) ⟨rfl, rfl⟩) ?_
        refine ahp 11 rfl rfl (by kernel_rfl) (by kernel_rfl) ((by first | exact pop_nilCheck rfl | exact pop_nilCheck_raw rfl)) ?_
        refine ahp 12 rfl rfl (by kernel_rfl) (by kernel_rfl) ((by first | exact pop_fieldAddr ty28 rfl ty3 (by decide) rfl | exact pop_fieldAddr_raw ty28 rfl ty3 (by decide) rfl)) ?_
        refine ahp 13 rfl rfl (by kernel_rfl) (by kernel_rfl) (pop_load ty3 rfl rfl rfl) ?_
        refine ahp 14 rfl rfl (by kernel_rfl) (by kernel_rfl) (pop_eql rfl rfl) ?_
        refine ahp 15 rfl rfl (by kernel_rfl) (by kernel_rfl) (pop_assign rfl) ?_
        refine ahz (by kernel_rfl) ?_
        refine hw_cond rfl (fun h7 => ?_) (fun h8 => ?_)
        · try simp at h7
          refine hw_reg ?_
          refine dp rfl (pop_assign rfl) ?_
          refine dn ?_
          refine hw_ret ?_
          refine ret_q rfl ⟨?_, rfl⟩
          show HVal.int .i64 _ = _
          first | (rw [sf3 h2 h4 h5]; done) | (rw [sf4 h2 h4 h6 h7]; done) | (rw [sf5 h2 h4 h6 h8 h9]; done) | (rw [sf0 h2 h4 h6 h8 h10]; done) | (simp_all [saleFault]; done)
        · try simp at h8
          have htm : h.Teams.contains x.Team = true := by simp_all
          refine hw_draw (fun M => M = (AucM b b1 b2 b3 h S L H)) [5] mixed ?_
          refine ahp 0 rfl rfl (by kernel_rfl) (by kernel_rfl) ((by first | exact pop_fieldAddr ty43 rfl ty3 (by decide) rfl | exact pop_fieldAddr_raw ty43 rfl ty3 (by decide) rfl)) ?_
          refine ahp 1 rfl rfl (by kernel_rfl) (by kernel_rfl) (pop_load ty3 rfl rfl rfl) ?_
          refine ahp 2 rfl rfl (by kernel_rfl) (by kernel_rfl) (pop_move rfl) ?_
          refine ahp 3 rfl rfl (by kernel_rfl) (by kernel_rfl) ((by first | exact pop_fieldAddr ty43 rfl ty9 (by decide) rfl | exact pop_fieldAddr_raw ty43 rfl ty9 (by decide) rfl)) ?_
          refine ahp 4 rfl rfl (by kernel_rfl) (by kernel_rfl) (pop_load ty9 rfl rfl rfl) ?_
          refine ahl 5 rfl rfl (by kernel_rfl) (by kernel_rfl) (by simp) rfl (fun M hM => by subst hM; exact eop_callf (M1 := (AucM b b1 b2 b3 h S L H)) (R := []) ca42 rfl (WeakL.refl _) (List.Perm.refl _) (c_draft_auction_most ok htm hl hB hbu hpl) (fun _ _ hh => ⟨hh.1, by rw [hh.2]; rfl⟩)) ?_
          refine ahp 6 rfl rfl (by kernel_rfl) (by kernel_rfl) (pop_gtr rfl rfl) ?_
          refine ahp 7 rfl rfl (by kernel_rfl) (by kernel_rfl) (pop_assign rfl) ?_
          refine ahz (by kernel_rfl) ?_
          refine hw_cond rfl (fun h9 => ?_) (fun h10 => ?_)
          · try simp at h9
            refine hw_reg ?_
            refine dp rfl (pop_assign rfl) ?_
            refine dn ?_
            refine hw_ret ?_
            refine ret_q rfl ⟨?_, rfl⟩
            show HVal.int .i64 _ = _
            first | (rw [sf3 h2 h4 h5]; done) | (rw [sf4 h2 h4 h6 h7]; done) | (rw [sf5 h2 h4 h6 h8 h9]; done) | (rw [sf0 h2 h4 h6 h8 h10]; done) | (simp_all [saleFault]; done)
          · try simp at h10
            refine hw_skip ?_
            refine blockQ_n ?_
            refine seqQ_n ?_
            refine hw_reg ?_
            refine dp rfl (pop_assign rfl) ?_
            refine dn ?_
            refine hw_ret ?_
            refine ret_q rfl ⟨?_, rfl⟩
            show HVal.int .i64 _ = _
            first | (rw [sf3 h2 h4 h5]; done) | (rw [sf4 h2 h4 h6 h7]; done) | (rw [sf5 h2 h4 h6 h8 h9]; done) | (rw [sf0 h2 h4 h6 h8 h10]; done) | (simp_all [saleFault]; done)

/-- benchwarmer/draft.sales -/
theorem c_draft_sales {h : Hall} {l : List Sale} (hl : l.length ≤ 1000) (hB : ∀ x ∈ l, -2000000 ≤ x.Price ∧ x.Price ≤ 2000000) (ht : h.Teams.length ≤ 1000000) (hp : h.Players.length ≤ 1000000) : Con Tryz.prog 41 [.vptr (hcells (eHall h)) 0, eSales l] [] (fun res M' => ∃ v, res = .tup [.raw v, .int .i64 (salesE h l)] ∧ (salesE h l = 0 → ∃ b b1 b2 b3 S L H, v = .pointer (some ⟨b, 0, none⟩) ∧ AucOk h l S L H ∧ M' = (AucM b b1 b2 b3 h S L H))) := by
  refine Con.of_body Tryz.func41 rfl Tryz.ntmps41 rfl rfl ?_
  refine hw_reg ?_
  refine dp rfl (pop_assign rfl) ?_
  refine dp rfl (pop_assign rfl) ?_
  refine dn ?_
  refine hw_seq ?_
  refine hw_reg ?_
  refine dp rfl (pop_move rfl) ?_
  refine dp rfl ((by first | exact pop_nilCheck rfl | exact pop_nilCheck_raw rfl)) ?_
  refine dp rfl (pop_loadw ty28 rfl rfl rfl rfl) ?_
  refine dp rfl (pop_call ca10 rfl (WeakL.refl _) (c_draft_CheckHall (by first | assumption | omega | (simp; omega) | simp_all) (by first | assumption | omega | (simp; omega) | simp_all))) ?_
  refine dp rfl (pop_assign rfl) ?_
  refine dn ?_
  refine hw_reg ?_
  refine dp rfl (pop_move rfl) ?_
  refine dp rfl (pop_neq rfl rfl) ?_
  refine dn ?_
  refine hw_cond rfl (fun h1 => ?_) (fun h2 => ?_)
  · try simp at h1
    refine hw_reg ?_
    refine dp rfl (pop_move rfl) ?_
    refine dp rfl (pop_assign rfl) ?_
    refine dp rfl (pop_assign rfl) ?_
    refine dn ?_
    refine hw_ret ?_
    first
    | (refine ret_g Ghost.clear rfl ⟨.pointer none, ?_, fun h0 => ?_⟩
       · show HVal.tup _ = _
         first
         | (rw [salesE, if_pos (by simpa using h1)]; rfl)
         | (rw [salesE, if_neg (by simpa using h2), salesFault, if_pos (by omega)]; rfl)
         | (rw [salesE, if_neg (by simpa using h2), hg, sgo_ne rfl (by simpa using h7)]; rfl)
       · exfalso
         first
         | (rw [salesE, if_pos (by simpa using h1)] at h0; simp_all; done)
         | (rw [salesE, if_neg (by simpa using h2), salesFault, if_pos (by omega)] at h0; simp at h0; done)
         | (rw [salesE, if_neg (by simpa using h2), hg, sgo_ne rfl (by simpa using h7)] at h0; simp_all; done))
    | (have hz : salesE h l = 0 := by rw [salesE, if_neg (by simpa using h2), hg]; rfl
       rw [hz]
       exact ret_q rfl ⟨_, rfl, fun _ => ⟨b, b1, b2, b3, S, L, H, rfl, ok, rfl⟩⟩)
  · try simp at h2
    refine hw_skip ?_
    refine seqQ_n ?_
    refine hw_seq ?_
    refine hw_reg ?_
    refine dp rfl (pop_move rfl) ?_
    refine dp rfl (pop_lenm ty30 rfl) ?_
    refine dp rfl (pop_gtr rfl rfl) ?_
    refine dn ?_
    refine hw_cond rfl (fun h3 => ?_) (fun h4 => ?_)
    · try simp at h3
      refine hw_reg ?_
      refine dp rfl (pop_assign rfl) ?_
      refine dp rfl (pop_assign rfl) ?_
      refine dn ?_
      refine hw_ret ?_
      first
      | (refine ret_g Ghost.clear rfl ⟨.pointer none, ?_, fun h0 => ?_⟩
         · show HVal.tup _ = _
           first
           | (rw [salesE, if_pos (by simpa using h1)]; rfl)
           | (rw [salesE, if_neg (by simpa using h2), salesFault, if_pos (by omega)]; rfl)
           | (rw [salesE, if_neg (by simpa using h2), hg, sgo_ne rfl (by simpa using h7)]; rfl)
         · exfalso
           first
           | (rw [salesE, if_pos (by simpa using h1)] at h0; simp_all; done)
           | (rw [salesE, if_neg (by simpa using h2), salesFault, if_pos (by omega)] at h0; simp at h0; done)
           | (rw [salesE, if_neg (by simpa using h2), hg, sgo_ne rfl (by simpa using h7)] at h0; simp_all; done))
      | (have hz : salesE h l = 0 := by rw [salesE, if_neg (by simpa using h2), hg]; rfl
         rw [hz]
         exact ret_q rfl ⟨_, rfl, fun _ => ⟨b, b1, b2, b3, S, L, H, rfl, ok, rfl⟩⟩)
    · try simp at h4
      refine hw_skip ?_
      refine seqQ_n ?_
      obtain ⟨f1, f2, f3, f4⟩ := hallFault_ok (h := h) (by simpa using h2)
      have hso := players_sorted f2
      refine hw_reg ?_
      refine dp rfl (pop_move rfl) ?_
      refine de rfl (eop_callf (M1 := []) (R := []) ca62 rfl (WeakL.refl _) (List.Perm.refl _) (c_draft_newAuction ht) ?_)
      rintro _ _ ⟨b, b1, b2, b3, L0, rfl, hL0, rfl⟩
      refine dp rfl (pop_assign rfl) ?_
      refine dn ?_
      refine hw_seq ?_
      refine hw_reg ?_
      refine dp rfl (pop_move rfl) ?_
      refine dp rfl (pop_lenm ty30 rfl) ?_
      refine dp rfl (pop_move rfl) ?_
      refine dn ?_
      refine hw_block ?_
      refine hw_loopw3 [4, 5, 9, 10, 25, 26, 27, 28, 29, 30, 31, 32, 33, 34, 35, 36, 37, 38, 39, 40, 41, 42, 43, 44, 45, 46, 47, 48, 49, 50, 51, 52, 53, 54, 55, 56, 57, 58, 59] (fun (k : Nat) (S : List Str) (q : SMap × SMap) => [(25, .int .i64 k)]) (fun (k : Nat) (S : List Str) (q : SMap × SMap) => (AucM b b1 b2 b3 h S q.1 q.2)) (fun (k : Nat) (S : List Str) (q : SMap × SMap) => k ≤ l.length ∧ (AucOk h (l.take k) S q.1 q.2 ∧ salesFault h l = salesGo h l k (l.drop k))) (fun (k : Nat) (S : List Str) (q : SMap × SMap) => l.length - k) (0) ([]) ((L0, [])) ?_ ?_ ?_ ?_
      · refine ⟨Nat.zero_le _, ⟨by simp, fun t ht2 => by rw [hL0 t ht2]; simp [spent], fun t => by simp [lkI, sfind, many]⟩, ?_⟩
        rw [salesFault, if_neg (by omega)]; rfl
      · exact ⟨rfl, trivial⟩
      · exact List.Perm.refl _
      · intro k S q hinv
        obtain ⟨hk, ok, hg⟩ := hinv
        obtain ⟨L, H⟩ := q
        dsimp only at ok
        refine hw_reg ?_
        refine dp rfl (pop_lss rfl rfl) ?_
        refine dn ?_
        refine hw_seq ?_
        refine hw_cond rfl (fun h5 => ?_) (fun h6 => ?_)
        · try simp at h5
          obtain ⟨x, hx⟩ : ∃ x, l[k]? = some x := ⟨_, List.getElem?_eq_getElem h5⟩
          have hdx := drop_cons hx
          rw [hdx] at hg
          refine hw_skip ?_
          refine seqQ_n ?_
          refine hw_seq ?_
          refine hw_block ?_
          refine hw_reg ?_
          refine dp rfl (pop_idx ty30 ty43 rfl rfl rfl (by first | assumption | simp_all)) ?_
          refine dp rfl (pop_loadw ty43 rfl rfl rfl rfl) ?_
          refine de rfl (eop_alloc ty43 rfl fun b9 => ?_)
          refine de0 (eop_storew ty43 rfl rfl rfl rfl rfl ?_)
          refine dn ?_
          refine hw_ghost (Ghost.fc0 9 rfl) ?_
          refine hw_seq ?_
          refine hw_reg ?_
          refine dp rfl (pop_move rfl) ?_
          refine dp rfl (pop_loadw ty43 rfl rfl rfl rfl) ?_
          refine de rfl (eop_callf (M1 := (AucM b b1 b2 b3 h S L H)) (R := []) ca63 rfl (WeakL.refl _) (List.Perm.refl _) (c_draft_auction_fault (x := x) ok hso (by simp; omega) (fun y hy => hB y (List.mem_of_mem_take hy)) (by omega) (by omega) ht hp) ?_)
          rintro _ _ ⟨rfl, rfl⟩
          refine dp rfl (pop_assign rfl) ?_
          refine dn ?_
          refine hw_reg ?_
          refine dp rfl (pop_move rfl) ?_
          refine dp rfl (pop_neq rfl rfl) ?_
          refine dn ?_
          refine hw_cond rfl (fun h7 => ?_) (fun h8 => ?_)
          · try simp at h7
            refine hw_reg ?_
            refine dp rfl (pop_move rfl) ?_
            refine dp rfl (pop_assign rfl) ?_
            refine dp rfl (pop_assign rfl) ?_
            refine dn ?_
            refine hw_ret ?_
            first
            | (refine ret_g Ghost.clear rfl ⟨.pointer none, ?_, fun h0 => ?_⟩
               · show HVal.tup _ = _
                 first
                 | (rw [salesE, if_pos (by simpa using h1)]; rfl)
                 | (rw [salesE, if_neg (by simpa using h2), salesFault, if_pos (by omega)]; rfl)
                 | (rw [salesE, if_neg (by simpa using h2), hg, sgo_ne rfl (by simpa using h7)]; rfl)
               · exfalso
                 first
                 | (rw [salesE, if_pos (by simpa using h1)] at h0; simp_all; done)
                 | (rw [salesE, if_neg (by simpa using h2), salesFault, if_pos (by omega)] at h0; simp at h0; done)
                 | (rw [salesE, if_neg (by simpa using h2), hg, sgo_ne rfl (by simpa using h7)] at h0; simp_all; done))
            | (have hz : salesE h l = 0 := by rw [salesE, if_neg (by simpa using h2), hg]; rfl
               rw [hz]
               exact ret_q rfl ⟨_, rfl, fun _ => ⟨b, b1, b2, b3, S, L, H, rfl, ok, rfl⟩⟩)
          · try simp at h8
            refine hw_skip ?_
            refine seqQ_n ?_
            have htm : h.Teams.contains x.Team = true := saleFault_team (by simpa using h8)
            have hsb := spent_bd (l := l.take k) (B := 2000000) (by decide) (fun y hy => hB y (List.mem_of_mem_take hy)) x.Team
            have hmb := many_bd (l.take k) x.Team
            have hln : (l.take k).length ≤ 1000 := by simp; omega
            have hpx := hB x (List.mem_of_getElem? hx)
            refine hw_draw (fun M => M = (AucM b b1 b2 b3 h S L H)) [3] mixed ?_
            refine ahp 0 rfl rfl (by kernel_rfl) (by kernel_rfl) (pop_move rfl) ?_
            refine ahp 1 rfl rfl (by kernel_rfl) (by kernel_rfl) ((by first | exact pop_nilCheck rfl | exact pop_nilCheck_raw rfl)) ?_
            refine ahp 2 rfl rfl (by kernel_rfl) (by kernel_rfl) (pop_fieldAddr_raw ty82 rfl ty79 (by decide) rfl) ?_
            refine ahl 3 rfl rfl (by kernel_rfl) (by kernel_rfl) (by simp) rfl (fun M hM => by subst hM; exact eop_load (i := 0) ty79 rfl rfl (.inl ⟨rfl, rfl⟩) ⟨rfl, rfl⟩) ?_
            refine ahp 4 rfl rfl (by kernel_rfl) (by kernel_rfl) (pop_fieldAddr ty43 rfl ty9 (by decide) rfl) ?_
            refine ahp 5 rfl rfl (by kernel_rfl) (by kernel_rfl) (pop_load ty9 rfl rfl rfl) ?_
            refine ahe 6 rfl (by kernel_rfl) ?_
            first
            | refine hop_e0 (eop_update_set (i := 0) ty79 ty9 rfl rfl rfl rfl ?_)
            | refine hop_e0 (eop_update_set (i := 1) ty79 ty9 rfl rfl rfl rfl ?_)
            | refine hop_e0 (eop_update_set (i := 2) ty79 ty9 rfl rfl rfl rfl ?_)
            | refine hop_e0 (eop_update_set (i := 3) ty79 ty9 rfl rfl rfl rfl ?_)
            refine ⟨fun _ => by first | exact .inl ⟨0, rfl⟩ | exact .inl ⟨1, rfl⟩ | exact .inl ⟨2, rfl⟩ | exact .inr (by simp [Before, Region.binds]), ?_⟩
            refine ahz (by kernel_rfl) ?_
            refine hw_draw (fun M => M = (AucM b b1 b2 b3 h (sadd x.Player S) L H)) [3, 6] mixed ?_
            refine ahp 0 rfl rfl (by kernel_rfl) (by kernel_rfl) (pop_move rfl) ?_
            refine ahp 1 rfl rfl (by kernel_rfl) (by kernel_rfl) ((by first | exact pop_nilCheck rfl | exact pop_nilCheck_raw rfl)) ?_
            refine ahp 2 rfl rfl (by kernel_rfl) (by kernel_rfl) (pop_fieldAddr_raw ty82 rfl ty80 (by decide) rfl) ?_
            refine ahl 3 rfl rfl (by kernel_rfl) (by kernel_rfl) (by simp) rfl (fun M hM => by subst hM; exact eop_load (i := 0) ty80 rfl rfl (.inl ⟨rfl, rfl⟩) ⟨rfl, rfl⟩) ?_
            refine ahp 4 rfl rfl (by kernel_rfl) (by kernel_rfl) (pop_fieldAddr ty43 rfl ty9 (by decide) rfl) ?_
            refine ahp 5 rfl rfl (by kernel_rfl) (by kernel_rfl) (pop_load ty9 rfl rfl rfl) ?_
            refine ahl 6 rfl rfl (by kernel_rfl) (by kernel_rfl) (by simp) rfl (fun M hM => by subst hM; exact eop_lookup (i := 2) ty80 ty9 ty3 rfl rfl rfl ⟨ok.left x.Team htm, rfl⟩) ?_
            refine ahp 7 rfl rfl (by kernel_rfl) (by kernel_rfl) (pop_fieldAddr ty43 rfl ty3 (by decide) rfl) ?_
            refine ahp 8 rfl rfl (by kernel_rfl) (by kernel_rfl) (pop_load ty3 rfl rfl rfl) ?_
            refine ahp 9 rfl rfl (by kernel_rfl) (by kernel_rfl) (pop_sub64 rfl rfl (by omega) (by omega)) ?_
            refine ahe 10 rfl (by kernel_rfl) ?_
            first
            | refine hop_e0 (eop_mapUpdate (i := 0) ty80 ty9 rfl rfl rfl rfl ?_)
            | refine hop_e0 (eop_mapUpdate (i := 1) ty80 ty9 rfl rfl rfl rfl ?_)
            | refine hop_e0 (eop_mapUpdate (i := 2) ty80 ty9 rfl rfl rfl rfl ?_)
            | refine hop_e0 (eop_mapUpdate (i := 3) ty80 ty9 rfl rfl rfl rfl ?_)
            refine ⟨fun _ => by first | exact .inl ⟨0, rfl⟩ | exact .inl ⟨1, rfl⟩ | exact .inl ⟨2, rfl⟩ | exact .inr (by simp [Before, Region.binds]), ?_⟩
            refine ahz (by kernel_rfl) ?_
            refine hw_draw1 (fun M => M = (AucM b b1 b2 b3 h (sadd x.Player S) (sput x.Team (.int .i64 (h.Budget - spent (l.take k) x.Team - x.Price)) L) H)) [3, 6] mixed ?_
            refine ahp 0 rfl rfl (by kernel_rfl) (by kernel_rfl) (pop_move rfl) ?_
            refine ahp 1 rfl rfl (by kernel_rfl) (by kernel_rfl) ((by first | exact pop_nilCheck rfl | exact pop_nilCheck_raw rfl)) ?_
            refine ahp 2 rfl rfl (by kernel_rfl) (by kernel_rfl) (pop_fieldAddr_raw ty82 rfl ty80 (by decide) rfl) ?_
            refine ahl 3 rfl rfl (by kernel_rfl) (by kernel_rfl) (by simp) rfl (fun M hM => by subst hM; exact eop_load (i := 0) ty80 rfl rfl (.inl ⟨rfl, rfl⟩) ⟨rfl, rfl⟩) ?_
            refine ahp 4 rfl rfl (by kernel_rfl) (by kernel_rfl) (pop_fieldAddr ty43 rfl ty9 (by decide) rfl) ?_
            refine ahp 5 rfl rfl (by kernel_rfl) (by kernel_rfl) (pop_load ty9 rfl rfl rfl) ?_
            refine ahl 6 rfl rfl (by kernel_rfl) (by kernel_rfl) (by simp) rfl (fun M hM => by subst hM; exact eop_lookup (i := 3) ty80 ty9 ty3 rfl rfl rfl ⟨ok.got x.Team, rfl⟩) ?_
            refine ahp 7 rfl rfl (by kernel_rfl) (by kernel_rfl) (pop_add64 rfl rfl (by omega) (by omega)) ?_
            refine ahe 8 rfl (by kernel_rfl) ?_
            first
            | refine hop_e0 (eop_mapUpdate (i := 0) ty80 ty9 rfl rfl rfl rfl ?_)
            | refine hop_e0 (eop_mapUpdate (i := 1) ty80 ty9 rfl rfl rfl rfl ?_)
            | refine hop_e0 (eop_mapUpdate (i := 2) ty80 ty9 rfl rfl rfl rfl ?_)
            | refine hop_e0 (eop_mapUpdate (i := 3) ty80 ty9 rfl rfl rfl rfl ?_)
            refine ⟨fun _ => by first | exact .inl ⟨0, rfl⟩ | exact .inl ⟨1, rfl⟩ | exact .inl ⟨2, rfl⟩ | exact .inr (by simp [Before, Region.binds]), ?_⟩
            refine ahz (by kernel_rfl) ?_
            refine blockQ_n ?_
            refine seqQ_n ?_
            refine hw_reg1 ?_
            refine dp rfl (pop_add64 rfl rfl (by omega) (by omega)) ?_
            refine dp rfl (pop_move rfl) ?_
            refine dn ?_
            refine ⟨k + 1, _, (_, _), ?_, ?_, ⟨rfl, trivial⟩, (by repeat (first | exact keeps_refl | refine keeps_upd rfl ?_ | refine keeps_loop rfl rfl ?_)), List.Perm.refl _⟩
            · refine ⟨by omega, ?_, ?_⟩
              · rw [take_snoc' hx]; exact ok.add x htm
              · rw [hg, sgo_z (by simpa using h8)]
            · dsimp only; omega
        · try simp at h6
          have hnk : l.length ≤ k := by omega
          obtain rfl : k = l.length := by omega
          rw [drop_all (Nat.le_refl _)] at hg
          rw [List.take_length] at ok
          refine hw_exit ?_
          refine seqQ_x ?_
          refine loopQ3_x ?_
          refine blockQ_eq ?_
          refine seqQ_n ?_
          refine hw_reg ?_
          refine dp rfl (pop_move rfl) ?_
          refine dp rfl (pop_assign rfl) ?_
          refine dp rfl (pop_assign rfl) ?_
          refine dn ?_
          refine hw_ret ?_
          first
          | (refine ret_g Ghost.clear rfl ⟨.pointer none, ?_, fun h0 => ?_⟩
             · show HVal.tup _ = _
               first
               | (rw [salesE, if_pos (by simpa using h1)]; rfl)
               | (rw [salesE, if_neg (by simpa using h2), salesFault, if_pos (by omega)]; rfl)
               | (rw [salesE, if_neg (by simpa using h2), hg, sgo_ne rfl (by simpa using h7)]; rfl)
             · exfalso
               first
               | (rw [salesE, if_pos (by simpa using h1)] at h0; simp_all; done)
               | (rw [salesE, if_neg (by simpa using h2), salesFault, if_pos (by omega)] at h0; simp at h0; done)
               | (rw [salesE, if_neg (by simpa using h2), hg, sgo_ne rfl (by simpa using h7)] at h0; simp_all; done))
          | (have hz : salesE h l = 0 := by rw [salesE, if_neg (by simpa using h2), hg]; rfl
             rw [hz]
             exact ret_q rfl ⟨_, rfl, fun _ => ⟨b, b1, b2, b3, S, L, H, rfl, ok, rfl⟩⟩)
end Go.Proofs.YtjfapmloepemiaaGreatDoor
end
section
namespace Go.HL
theorem Ghost.suffix {e : Env} {M : List MObj} : ∀ {R : List MObj}, Ghost e (R ++ M) e M
  | [] => Ghost.perm (List.Perm.refl _)
  | x :: R => Ghost.trans (M' := R ++ M) Ghost.drop Ghost.suffix
section
variable {P : Program} {e : Env} {dst : Option Tmp} {ty : TypeId} {pos : String} {af : Array Edge} {g : Option (Nat × Bool)} {M : List MObj} {K : HVal → List MObj → Prop}
theorem eop_lookupI {x y : Operand} {t kt et : TypeId} {size bytes s2 b2 s3 b3 : Nat} {zero z2 : Value} {d : TD} {i b : Nat} {ls : SMap} {s : Str} {h : HVal}
    (hf : Fits P t (.map kt et) size bytes zero) (hkt : Fits P kt .str s2 b2 z2) (het : Fits P et d s3 b3 (.int .i64 0)) (hx : evalO e x = some (.raw (.map (some b)))) (hy : evalO e y = some (.str s)) (hm : M[i]? = some (.map b (sk ls)))
    (hv : lkI ls s = h) (hk : K h M) : EOp P e M ⟨dst, .lookup t x y false, ty, pos, af, g⟩ K := by
  refine eop_lookup hf hkt het hx hy hm ?_
  show K (lkI ls s) M
  rw [hv]; exact hk
theorem eop_lookup2I {x y : Operand} {t kt et : TypeId} {size bytes s2 b2 s3 b3 : Nat} {zero z2 : Value} {d : TD} {i b : Nat} {ls : SMap} {s : Str} {h : HVal} {o : Bool}
    (hf : Fits P t (.map kt et) size bytes zero) (hkt : Fits P kt .str s2 b2 z2) (het : Fits P et d s3 b3 (.int .i64 0)) (hx : evalO e x = some (.raw (.map (some b)))) (hy : evalO e y = some (.str s)) (hm : M[i]? = some (.map b (sk ls)))
    (hv : lkI ls s = h) (ho : (sfind s ls).isSome = o) (hk : K (.tup [h, .bool o]) M) : EOp P e M ⟨dst, .lookup t x y true, ty, pos, af, g⟩ K := by
  refine eop_lookup2 hf hkt het hx hy hm ?_
  show K (.tup [lkI ls s, .bool (sfind s ls).isSome]) M
  rw [hv, ho]; exact hk
end
def limN (lim : List PairS) (t : Str) : Int := match lim.find? (fun p => p.Name == t) with | some p => numR p.Val 9 | none => 0
theorem LimOk.lk {l : List PairS} {L : SMap} (ok : LimOk l L) (t : Str) : lkI L t = .int .i64 (limN l t) := by
  rw [lkI_eq, ok t]; unfold limN
  cases l.find? (fun p => p.Name == t) <;> rfl
theorem limN_bd {lim : List PairS} (hv : ∀ x ∈ lim, x.Val ∈ vals) (t : Str) : -100 ≤ limN lim t ∧ limN lim t ≤ 100 := by
  unfold limN
  cases hf : lim.find? (fun p => p.Name == t) with
  | none => simp
  | some p => exact (vals_ok (hv p (List.mem_of_find?_eq_some hf))).2.2.2.2.1
theorem bid_none {h : Hall} {l : List Sale} {lim : List PairS} {t : Str} (hc : lim.any (fun y => y.Name == t) = true → min (limN lim t) (mostOf h l t) < 1) : bid h l lim t = none := by
  unfold bid limN at *
  cases hf : lim.find? (fun p => p.Name == t) with
  | none => rfl
  | some p =>
    rw [hf] at hc
    simp only at hc ⊢
    rw [if_pos (hc ?_)]
    rw [List.any_eq_true]
    exact ⟨p, List.mem_of_find?_eq_some hf, by have h := List.find?_some hf; exact h⟩
theorem bid_some {h : Hall} {l : List Sale} {lim : List PairS} {t : Str} (hc : lim.any (fun y => y.Name == t) = true) (hn : 1 ≤ min (limN lim t) (mostOf h l t)) : bid h l lim t = some (min (limN lim t) (mostOf h l t)) := by
  unfold bid limN at *
  cases hf : lim.find? (fun p => p.Name == t) with
  | none =>
    exfalso
    obtain ⟨y, hy, he⟩ := List.any_eq_true.1 hc
    have := List.find?_eq_none.1 hf y hy
    exact this he
  | some p =>
    rw [hf] at hn
    simp only at hn ⊢
    rw [if_neg (by omega)]
theorem bid_none' {h : Hall} {l : List Sale} {lim : List PairS} {t : Str} (hc : (∀ y, y ∈ lim → ¬ y.Name = t) ∨ min (limN lim t) (mostOf h l t) < 1) : bid h l lim t = none :=
  bid_none fun ha => by
    rcases hc with hc | hc
    · obtain ⟨y, hy, he⟩ := List.any_eq_true.1 ha
      exact absurd (by simpa using he) (hc y hy)
    · exact hc
theorem bid_some' {h : Hall} {l : List Sale} {lim : List PairS} {t : Str} (hc : ∃ y, y ∈ lim ∧ y.Name = t) (hn : 1 ≤ min (limN lim t) (mostOf h l t)) : bid h l lim t = some (min (limN lim t) (mostOf h l t)) :=
  bid_some (by obtain ⟨y, hy, he⟩ := hc; rw [List.any_eq_true]; exact ⟨y, hy, by simpa using he⟩) hn
theorem topGo_cons (f : Str → Option Int) (q : Top) (t : Str) (r : List Str) : topGo f q (t :: r) = topGo f (match f t with | none => q | some n => q.step t n) r := rfl
theorem salesE_hall {h : Hall} {l : List Sale} (e : salesE h l = 0) : hallFault h = 0 := by
  unfold salesE at e
  by_cases h1 : hallFault h = 0
  · exact h1
  · rw [if_pos (by simpa using h1)] at e; exact e
theorem lgo_ne {h : Hall} {l : List PairS} {k : Nat} {x : PairS} {r : List PairS} (hc : h.Teams.contains x.Name = true) (ha : (l.take k).any (fun y => y.Name == x.Name) = false) (hn : numB x.Val 9 = true) : limGo h l k (x :: r) = limGo h l (k + 1) r := by
  simp only [limGo, hc, ha, hn]; simp
end Go.HL
end
section
namespace Go.Proofs.YtjfapmloepemiaaGreatDoor
open Go.HL
set_option maxRecDepth 100000
set_option linter.unusedVariables false
set_option linter.unusedSimpArgs false
/-- benchwarmer/draft.CheckSales -/
theorem c_draft_CheckSales {h : Hall} {l : List Sale} (hl : l.length ≤ 1000) (hB : ∀ x ∈ l, -2000000 ≤ x.Price ∧ x.Price ≤ 2000000) (ht : h.Teams.length ≤ 1000000) (hp : h.Players.length ≤ 1000000) : ConP Tryz.prog 11 [eHall h, eSales l] (.int .i64 (salesE h l)) := by
  refine Con.of_body Tryz.func11 rfl Tryz.ntmps11 rfl rfl ?_
  refine hw_reg ?_
  refine dp rfl (pop_box rfl rfl) ?_
  refine dp rfl (pop_assign rfl) ?_
  refine dn ?_
  refine hw_reg ?_
  refine dp rfl (pop_move rfl) ?_
  refine de rfl (eop_callf (M1 := []) (R := []) ca41 rfl (WeakL.refl _) (List.Perm.refl _) (c_draft_sales hl hB ht hp) ?_)
  rintro _ M9 ⟨v9, rfl, hv9⟩
  refine dp rfl (pop_move rfl) ?_
  refine dp rfl (pop_extract rfl rfl) ?_
  refine dp rfl (pop_extract rfl rfl) ?_
  refine dp rfl (pop_assign rfl) ?_
  refine dp rfl (pop_assign rfl) ?_
  refine dn ?_
  refine hw_reg ?_
  refine dp rfl (pop_move rfl) ?_
  refine dp rfl (pop_assign rfl) ?_
  refine dn ?_
  refine hw_ret ?_
  exact ret_g Ghost.clear rfl ⟨rfl, rfl⟩

/-- benchwarmer/draft.MostBid -/
theorem c_draft_MostBid {h : Hall} {l : List Sale} {team : Str} (hl : l.length ≤ 1000) (hB : ∀ x ∈ l, -2000000 ≤ x.Price ∧ x.Price ≤ 2000000) (ht : h.Teams.length ≤ 1000000) (hp : h.Players.length ≤ 1000000) : ConP Tryz.prog 12 [eHall h, eSales l, .str team] (.tup [.int .i64 (if mostE h l team != 0 then 0 else mostOf h l team), .int .i64 (mostE h l team)]) := by
  refine Con.of_body Tryz.func12 rfl Tryz.ntmps12 rfl rfl ?_
  refine hw_reg ?_
  refine dp rfl (pop_box rfl rfl) ?_
  refine dp rfl (pop_assign rfl) ?_
  refine dp rfl (pop_assign rfl) ?_
  refine dn ?_
  refine hw_reg ?_
  refine dp rfl (pop_move rfl) ?_
  refine de rfl (eop_callf (M1 := []) (R := []) ca41 rfl (WeakL.refl _) (List.Perm.refl _) (c_draft_sales hl hB ht hp) ?_)
  rintro _ M12 ⟨v12, rfl, hv12⟩
  refine dp rfl (pop_move rfl) ?_
  refine dp rfl (pop_extract rfl rfl) ?_
  refine dp rfl (pop_extract rfl rfl) ?_
  refine dp rfl (pop_assign rfl) ?_
  refine dp rfl (pop_assign rfl) ?_
  refine dn ?_
  refine hw_seq ?_
  refine hw_block ?_
  refine hw_reg ?_
  refine dp rfl (pop_move rfl) ?_
  refine dp rfl (pop_neq rfl rfl) ?_
  refine dp rfl (pop_assign rfl) ?_
  refine dn ?_
  refine hw_cond rfl (fun h1 => ?_) (fun h2 => ?_)
  · try simp at h1
    refine hw_reg ?_
    refine dp rfl (pop_move rfl) ?_
    refine dp rfl (pop_assign rfl) ?_
    refine dp rfl (pop_assign rfl) ?_
    refine dn ?_
    refine hw_ret ?_
    refine ret_g Ghost.clear rfl ⟨?_, rfl⟩
    show HVal.tup _ = _
    simp_all [mostE, ofVal, ofVal1]
  · try simp at h2
    refine hw_reg ?_
    refine dp rfl (pop_fieldAddr ty28 rfl ty26 (by decide) rfl) ?_
    refine dp rfl (pop_load ty26 rfl rfl rfl) ?_
    refine dp rfl (pop_move rfl) ?_
    refine dp rfl (pop_call ca17 rfl (WeakL.refl _) (c_slices_Contains_string_string (by first | assumption | omega | (simp; omega) | simp_all))) ?_
    refine dp rfl (pop_not rfl) ?_
    refine dp rfl (pop_assign rfl) ?_
    refine dn ?_
    refine hw_cond rfl (fun h3 => ?_) (fun h4 => ?_)
    · try simp at h3
      refine hw_reg ?_
      refine dp rfl (pop_assign rfl) ?_
      refine dp rfl (pop_assign rfl) ?_
      refine dn ?_
      refine hw_ret ?_
      refine ret_g Ghost.clear rfl ⟨?_, rfl⟩
      show HVal.tup _ = _
      simp_all [mostE, ofVal, ofVal1]
    · try simp at h4
      refine hw_skip ?_
      refine blockQ_n ?_
      refine seqQ_n ?_
      obtain ⟨b, b1, b2, b3, S, L, H, rfl, ok, rfl⟩ := hv12 (by simpa using h2)
      obtain ⟨f1, f2, f3, f4⟩ := hallFault_ok (salesE_hall (by simpa using h2))
      have hso := players_sorted f2
      refine hw_reg ?_
      refine dp rfl (pop_move rfl) ?_
      refine dp rfl (pop_move rfl) ?_
      refine de rfl (eop_callf (M1 := (AucM b b1 b2 b3 h S L H)) (R := []) ca42 rfl (WeakL.refl _) (List.Perm.refl _) (c_draft_auction_most (team := team) ok (by simp_all) hl hB (by omega) (by omega)) ?_)
      rintro _ _ ⟨rfl, rfl⟩
      refine dp rfl (pop_assign rfl) ?_
      refine dp rfl (pop_assign rfl) ?_
      refine dn ?_
      refine hw_ret ?_
      refine ret_g Ghost.clear rfl ⟨?_, rfl⟩
      show HVal.tup _ = _
      simp_all [mostE, ofVal, ofVal1]

/-- benchwarmer/draft.Money -/
theorem c_draft_Money {h : Hall} {l : List Sale} (hl : l.length ≤ 1000) (hB : ∀ x ∈ l, -2000000 ≤ x.Price ∧ x.Price ≤ 2000000) (ht : h.Teams.length ≤ 1000000) (hp : h.Players.length ≤ 1000000) : ConP Tryz.prog 13 [eHall h, eSales l] (.tup [ePairs (if salesE h l != 0 then [] else moneyL h l), .int .i64 (salesE h l)]) := by
  refine Con.of_body Tryz.func13 rfl Tryz.ntmps13 rfl rfl ?_
  refine hw_reg ?_
  refine dp rfl (pop_box rfl rfl) ?_
  refine dp rfl (pop_assign rfl) ?_
  refine dp rfl (pop_assign rfl) ?_
  refine dn ?_
  refine hw_reg ?_
  refine dp rfl (pop_move rfl) ?_
  refine de rfl (eop_callf (M1 := []) (R := []) ca41 rfl (WeakL.refl _) (List.Perm.refl _) (c_draft_sales hl hB ht hp) ?_)
  rintro _ M13 ⟨v13, rfl, hv13⟩
  refine dp rfl (pop_move rfl) ?_
  refine dp rfl (pop_extract rfl rfl) ?_
  refine dp rfl (pop_extract rfl rfl) ?_
  refine dp rfl (pop_assign rfl) ?_
  refine dp rfl (pop_assign rfl) ?_
  refine dn ?_
  refine hw_seq ?_
  refine hw_reg ?_
  refine dp rfl (pop_move rfl) ?_
  refine dp rfl (pop_neq rfl rfl) ?_
  refine dn ?_
  refine hw_cond rfl (fun h1 => ?_) (fun h2 => ?_)
  · try simp at h1
    refine hw_reg ?_
    refine dp rfl (pop_move rfl) ?_
    refine dp rfl (pop_assign rfl) ?_
    refine dp rfl (pop_assign rfl) ?_
    refine dn ?_
    refine hw_ret ?_
    first
    | exact ⟨_, [], Ghost.clear, _, _, rfl, weak_tup2 (weak_nil 2) (Weak.refl _), by rw [if_pos (by simpa using h1)]; rfl, rfl⟩
    | (refine ret_g ((Ghost.fa0 4 rfl).trans Ghost.clear) rfl ⟨?_, rfl⟩
       rw [List.take_length, if_neg (by simpa using h2), h2]; rfl)
  · try simp at h2
    refine hw_skip ?_
    refine seqQ_n ?_
    obtain ⟨b, b1, b2, b3, S, L, H, rfl, ok, rfl⟩ := hv13 (by simpa using h2)
    obtain ⟨f1, f2, f3, f4⟩ := hallFault_ok (salesE_hall (by simpa using h2))
    have hso := players_sorted f2
    refine hw_reg ?_
    refine dp rfl (pop_assign rfl) ?_
    refine dn ?_
    refine hw_ghost (Ghost.arr_nil 2) ?_
    refine hw_seq ?_
    refine hw_reg ?_
    refine dp rfl (pop_fieldAddr ty28 rfl ty26 (by decide) rfl) ?_
    refine dp rfl (pop_load ty26 rfl rfl rfl) ?_
    refine dp rfl (pop_lenm ty26 rfl) ?_
    refine dp rfl (pop_move rfl) ?_
    refine dn ?_
    refine hw_block ?_
    refine hw_loopw2 [8, 10, 22, 23, 24, 25, 26, 27, 28, 29, 30, 31, 32, 33, 34, 35, 36, 37, 38] (fun (k : Nat) (u : Value) => [(22, .int .i64 k), (8, .raw u)]) (fun (k : Nat) (u : Value) => (.arr u 2 ((moneyL ⟨h.Teams.take k, h.Players, h.Budget, h.Places⟩ l).map ePair) :: (AucM b b1 b2 b3 h S L H))) (fun (k : Nat) (u : Value) => k ≤ h.Teams.length ∧ (True)) (fun (k : Nat) (u : Value) => h.Teams.length - k) (0) (.slice none 0 0) ?_ ?_ ?_ ?_
    · exact ⟨Nat.zero_le _, by simp_all⟩
    · exact ⟨rfl, rfl, trivial⟩
    · exact perm_eq (by simp [moneyL])
    · intro k u hinv
      obtain ⟨hk, -⟩ := hinv
      refine hw_reg ?_
      refine dp rfl (pop_lss rfl rfl) ?_
      refine dn ?_
      refine hw_seq ?_
      refine hw_cond rfl (fun h3 => ?_) (fun h4 => ?_)
      · try simp at h3
        obtain ⟨x, hx⟩ : ∃ x, h.Teams[k]? = some x := ⟨_, List.getElem?_eq_getElem h3⟩
        have hdx := drop_cons hx
        have hsb := spent_bd (B := 2000000) (by decide) hB x
        refine hw_skip ?_
        refine seqQ_n ?_
        refine hw_seq ?_
        refine hw_block ?_
        refine hw_reg ?_
        refine dp rfl (pop_idx ty26 ty9 rfl rfl rfl (by first | assumption | simp_all)) ?_
        refine dp rfl (pop_load ty9 rfl rfl rfl) ?_
        refine dp rfl (pop_assign rfl) ?_
        refine dn ?_
        refine hw_reg1 ?_
        refine dp rfl (pop_move rfl) ?_
        refine dp rfl (pop_move rfl) ?_
        refine dp rfl (pop_move rfl) ?_
        refine dp rfl ((by first | exact pop_nilCheck rfl | exact pop_nilCheck_raw rfl)) ?_
        refine dp rfl (pop_fieldAddr_raw ty82 rfl ty80 (by decide) rfl) ?_
        refine de rfl (eop_load (i := 1) ty80 rfl rfl (.inl ⟨rfl, rfl⟩) ?_)
        refine dp rfl (pop_move rfl) ?_
        refine de rfl (eop_lookupI (i := 3) ty80 ty9 ty3 rfl rfl rfl (ok.left x (by simpa using List.mem_of_getElem? hx)) ?_)
        refine dp rfl (pop_call ca27 rfl (WeakL.refl _) (c_Itoa (n := h.Budget - spent l x) (by omega) (by omega))) ?_
        refine dp rfl (pop_build (cs := [_, _]) ty56 pl56 rfl) ?_
        refine dp rfl (pop_buildSlice (hs := [_]) ty33 ty56 rfl rfl (by decide) (by decide) rfl) ?_
        refine de rfl (eop_append (i := 0) ty33 ty56 rfl rfl rfl rfl rfl (by simp [flat, hcells]) (by simp [moneyL]; omega) fun v37 => ?_)
        refine dp rfl (pop_assign rfl) ?_
        refine dn ?_
        refine blockQ_n ?_
        refine seqQ_n ?_
        refine hw_reg1 ?_
        refine dp rfl (pop_add64 rfl rfl (by omega) (by omega)) ?_
        refine dp rfl (pop_move rfl) ?_
        refine dn ?_
        refine ⟨k + 1, _, ?_, ?_, ⟨rfl, rfl, trivial⟩, (by repeat (first | exact keeps_refl | refine keeps_upd rfl ?_ | refine keeps_loop rfl rfl ?_)), perm_eq (by simp [moneyL, List.take_add_one, hx])⟩
        · exact ⟨by omega, trivial⟩
        · dsimp only; omega
      · try simp at h4
        have hnk : h.Teams.length ≤ k := by omega
        obtain rfl : k = h.Teams.length := by omega
        refine hw_exit ?_
        refine seqQ_x ?_
        refine loopQ2_x ?_
        refine blockQ_eq ?_
        refine seqQ_n ?_
        refine hw_reg ?_
        refine dp rfl (pop_move rfl) ?_
        refine dp rfl (pop_assign rfl) ?_
        refine dp rfl (pop_assign rfl) ?_
        refine dn ?_
        refine hw_ret ?_
        first
        | exact ⟨_, [], Ghost.clear, _, _, rfl, weak_tup2 (weak_nil 2) (Weak.refl _), by rw [if_pos (by simpa using h1)]; rfl, rfl⟩
        | (refine ret_g ((Ghost.fa0 4 rfl).trans Ghost.clear) rfl ⟨?_, rfl⟩
           rw [List.take_length, if_neg (by simpa using h2), h2]; rfl)

/-- benchwarmer/draft.limits -/
theorem c_draft_limits {h : Hall} {lim : List PairS} (hlim : lim.length ≤ 1000) (hv : ∀ x ∈ lim, x.Val ∈ vals) (ht : h.Teams.length ≤ 1000000) : Con Tryz.prog 44 [.vptr (hcells (eHall h)) 0, ePairs lim] [] (fun res M' => ∃ v, res = .tup [.raw v, .int .i64 (limE h lim)] ∧ (limE h lim = 0 → ∃ m L, v = .map (some m) ∧ LimOk lim L ∧ M' = [.map m (sk L)])) := by
  refine Con.of_body Tryz.func44 rfl Tryz.ntmps44 rfl rfl ?_
  refine hw_reg ?_
  refine dp rfl (pop_assign rfl) ?_
  refine dp rfl (pop_assign rfl) ?_
  refine dn ?_
  refine hw_seq ?_
  refine hw_reg ?_
  refine dp rfl (pop_move rfl) ?_
  refine dp rfl (pop_lenm ty33 rfl) ?_
  refine dp rfl (pop_gtr rfl rfl) ?_
  refine dn ?_
  refine hw_cond rfl (fun h1 => ?_) (fun h2 => ?_)
  · try simp at h1
    refine hw_reg ?_
    refine dp rfl (pop_assign rfl) ?_
    refine dp rfl (pop_assign rfl) ?_
    refine dn ?_
    refine hw_ret ?_
    first
    | (have hz : limE h lim = 0 := by rw [hg]; rfl
       rw [hz]
       exact ret_q rfl ⟨_, rfl, fun _ => ⟨m16, L, rfl, hL, rfl⟩⟩)
    | (refine ret_g Ghost.clear rfl ⟨.map none, ?_, fun h0 => ?_⟩
       · show HVal.tup _ = _
         first
         | (rw [limE, if_pos (by omega)]; rfl)
         | (rw [hg]; simp_all [limGo, ofVal, ofVal1]; done)
       · exfalso
         first
         | (rw [limE, if_pos (by omega)] at h0; simp at h0; done)
         | (rw [hg] at h0; simp_all [limGo]; done)
         | (rw [hg] at h0; simp_all [limGo]; split at h0 <;> omega))
  · try simp at h2
    refine hw_skip ?_
    refine seqQ_n ?_
    refine hw_reg ?_
    refine de rfl (eop_makeMap fun m16 => ?_)
    refine dp rfl (pop_assign rfl) ?_
    refine dn ?_
    refine hw_seq ?_
    refine hw_reg ?_
    refine dp rfl (pop_move rfl) ?_
    refine dp rfl (pop_lenm ty33 rfl) ?_
    refine dp rfl (pop_move rfl) ?_
    refine dn ?_
    refine hw_block ?_
    refine hw_loopw2 [4, 5, 8, 9, 10, 11, 12, 19, 20, 21, 22, 23, 24, 25, 26, 27, 28, 29, 30, 31, 32, 33, 34, 35, 36, 37, 38, 39, 40, 41, 42, 43, 44, 45, 46, 47, 48, 49, 50, 51] (fun (k : Nat) (L : SMap) => [(19, .int .i64 k)]) (fun (k : Nat) (L : SMap) => [.map m16 (sk L)]) (fun (k : Nat) (L : SMap) => k ≤ lim.length ∧ (LimOk (lim.take k) L ∧ limE h lim = limGo h lim k (lim.drop k))) (fun (k : Nat) (L : SMap) => lim.length - k) (0) ([]) ?_ ?_ ?_ ?_
    · refine ⟨Nat.zero_le _, fun t => by simp [sfind], ?_⟩
      rw [limE, if_neg (by omega)]; rfl
    · exact ⟨rfl, trivial⟩
    · exact List.Perm.refl _
    · intro k L hinv
      obtain ⟨hk, hL, hg⟩ := hinv
      refine hw_reg ?_
      refine dp rfl (pop_lss rfl rfl) ?_
      refine dn ?_
      refine hw_seq ?_
      refine hw_cond rfl (fun h3 => ?_) (fun h4 => ?_)
      · try simp at h3
        obtain ⟨x, hx⟩ : ∃ x, lim[k]? = some x := ⟨_, List.getElem?_eq_getElem h3⟩
        have hdx := drop_cons hx
        rw [hdx] at hg
        refine hw_skip ?_
        refine seqQ_n ?_
        refine hw_seq ?_
        refine hw_block ?_
        refine hw_reg ?_
        refine dp rfl (pop_idx ty33 ty56 rfl rfl rfl (by first | assumption | simp_all)) ?_
        refine dp rfl (pop_loadw ty56 rfl rfl rfl rfl) ?_
        refine de rfl (eop_alloc ty56 rfl fun b8 => ?_)
        refine de0 (eop_storew ty56 rfl rfl rfl rfl rfl ?_)
        refine dn ?_
        refine hw_ghost (Ghost.fc0 8 rfl) ?_
        refine hw_seq ?_
        refine hw_draw (fun _ => True) [] mixed ?_
        refine ahp 0 rfl rfl (by kernel_rfl) (by kernel_rfl) (pop_move rfl) ?_
        refine ahp 1 rfl rfl (by kernel_rfl) (by kernel_rfl) ((by first | exact pop_nilCheck rfl | exact pop_nilCheck_raw rfl)) ?_
        refine ahp 2 rfl rfl (by kernel_rfl) (by kernel_rfl) (pop_fieldAddr ty28 rfl ty26 (by decide) rfl) ?_
        refine ahp 3 rfl rfl (by kernel_rfl) (by kernel_rfl) (pop_load ty26 rfl rfl rfl) ?_
        refine ahp 4 rfl rfl (by kernel_rfl) (by kernel_rfl) (pop_fieldAddr ty56 rfl ty9 (by decide) rfl) ?_
        refine ahp 5 rfl rfl (by kernel_rfl) (by kernel_rfl) (pop_load ty9 rfl rfl rfl) ?_
        refine ahp 6 rfl rfl (by kernel_rfl) (by kernel_rfl) (pop_call ca17 rfl (WeakL.refl _) (c_slices_Contains_string_string (by first | assumption | omega | (simp; omega) | simp_all))) ?_
        refine ahp 7 rfl rfl (by kernel_rfl) (by kernel_rfl) (pop_not rfl) ?_
        refine ahz (by kernel_rfl) ?_
        refine hw_cond rfl (fun h5 => ?_) (fun h6 => ?_)
        · try simp at h5
          refine hw_reg ?_
          refine dp rfl (pop_assign rfl) ?_
          refine dp rfl (pop_assign rfl) ?_
          refine dn ?_
          refine hw_ret ?_
          first
          | (have hz : limE h lim = 0 := by rw [hg]; rfl
             rw [hz]
             exact ret_q rfl ⟨_, rfl, fun _ => ⟨m16, L, rfl, hL, rfl⟩⟩)
          | (refine ret_g Ghost.clear rfl ⟨.map none, ?_, fun h0 => ?_⟩
             · show HVal.tup _ = _
               first
               | (rw [limE, if_pos (by omega)]; rfl)
               | (rw [hg]; simp_all [limGo, ofVal, ofVal1]; done)
             · exfalso
               first
               | (rw [limE, if_pos (by omega)] at h0; simp at h0; done)
               | (rw [hg] at h0; simp_all [limGo]; done)
               | (rw [hg] at h0; simp_all [limGo]; split at h0 <;> omega))
        · try simp at h6
          refine hw_skip ?_
          refine seqQ_n ?_
          refine hw_seq ?_
          refine hw_reg ?_
          refine dp rfl (pop_move rfl) ?_
          refine dp rfl (pop_fieldAddr ty56 rfl ty9 (by decide) rfl) ?_
          refine dp rfl (pop_load ty9 rfl rfl rfl) ?_
          refine de rfl (eop_lookup2I (i := 0) ty80 ty9 ty3 rfl rfl rfl rfl (hL.is x.Name) ?_)
          refine dp rfl (pop_move rfl) ?_
          refine dp rfl (pop_extract rfl rfl) ?_
          refine dp rfl (pop_extract rfl rfl) ?_
          refine dp rfl (pop_assign rfl) ?_
          refine dp rfl (pop_assign rfl) ?_
          refine dn ?_
          refine hw_reg ?_
          refine dp rfl (pop_move rfl) ?_
          refine dn ?_
          refine hw_cond rfl (fun h7 => ?_) (fun h8 => ?_)
          · try simp at h7
            refine hw_reg ?_
            refine dp rfl (pop_assign rfl) ?_
            refine dp rfl (pop_assign rfl) ?_
            refine dn ?_
            refine hw_ret ?_
            first
            | (have hz : limE h lim = 0 := by rw [hg]; rfl
               rw [hz]
               exact ret_q rfl ⟨_, rfl, fun _ => ⟨m16, L, rfl, hL, rfl⟩⟩)
            | (refine ret_g Ghost.clear rfl ⟨.map none, ?_, fun h0 => ?_⟩
               · show HVal.tup _ = _
                 first
                 | (rw [limE, if_pos (by omega)]; rfl)
                 | (rw [hg]; simp_all [limGo, ofVal, ofVal1]; done)
               · exfalso
                 first
                 | (rw [limE, if_pos (by omega)] at h0; simp at h0; done)
                 | (rw [hg] at h0; simp_all [limGo]; done)
                 | (rw [hg] at h0; simp_all [limGo]; split at h0 <;> omega))
          · try simp at h8
            refine hw_skip ?_
            refine seqQ_n ?_
            refine hw_reg ?_
            refine dp rfl (pop_fieldAddr ty56 rfl ty9 (by decide) rfl) ?_
            refine dp rfl (pop_load ty9 rfl rfl rfl) ?_
            refine dp rfl (pop_call ca65 rfl (WeakL.refl _) (c_base_Number (hv x (List.mem_of_getElem? hx)))) ?_
            refine dp rfl (pop_move rfl) ?_
            refine dp rfl (pop_extract rfl rfl) ?_
            refine dp rfl (pop_extract rfl rfl) ?_
            refine dp rfl (pop_assign rfl) ?_
            refine dp rfl (pop_assign rfl) ?_
            refine dn ?_
            refine hw_seq ?_
            refine hw_reg ?_
            refine dp rfl (pop_move rfl) ?_
            refine dp rfl (pop_not rfl) ?_
            refine dn ?_
            refine hw_cond rfl (fun h9 => ?_) (fun h10 => ?_)
            · try simp at h9
              refine hw_reg ?_
              refine dp rfl (pop_assign rfl) ?_
              refine dp rfl (pop_assign rfl) ?_
              refine dn ?_
              refine hw_ret ?_
              first
              | (have hz : limE h lim = 0 := by rw [hg]; rfl
                 rw [hz]
                 exact ret_q rfl ⟨_, rfl, fun _ => ⟨m16, L, rfl, hL, rfl⟩⟩)
              | (refine ret_g Ghost.clear rfl ⟨.map none, ?_, fun h0 => ?_⟩
                 · show HVal.tup _ = _
                   first
                   | (rw [limE, if_pos (by omega)]; rfl)
                   | (rw [hg]; simp_all [limGo, ofVal, ofVal1]; done)
                 · exfalso
                   first
                   | (rw [limE, if_pos (by omega)] at h0; simp at h0; done)
                   | (rw [hg] at h0; simp_all [limGo]; done)
                   | (rw [hg] at h0; simp_all [limGo]; split at h0 <;> omega))
            · try simp at h10
              refine hw_skip ?_
              refine seqQ_n ?_
              refine hw_reg1 ?_
              refine dp rfl (pop_move rfl) ?_
              refine dp rfl (pop_fieldAddr ty56 rfl ty9 (by decide) rfl) ?_
              refine dp rfl (pop_load ty9 rfl rfl rfl) ?_
              refine dp rfl (pop_move rfl) ?_
              first
              | refine de0 (eop_mapUpdate (i := 0) ty80 ty9 rfl rfl rfl rfl ?_)
              | refine de0 (eop_mapUpdate (i := 1) ty80 ty9 rfl rfl rfl rfl ?_)
              | refine de0 (eop_mapUpdate (i := 2) ty80 ty9 rfl rfl rfl rfl ?_)
              | refine de0 (eop_mapUpdate (i := 3) ty80 ty9 rfl rfl rfl rfl ?_)
              refine dn ?_
              refine blockQ_n ?_
              refine seqQ_n ?_
              refine hw_reg1 ?_
              refine dp rfl (pop_add64 rfl rfl (by omega) (by omega)) ?_
              refine dp rfl (pop_move rfl) ?_
              refine dn ?_
              refine ⟨k + 1, _, ?_, ?_, ⟨rfl, trivial⟩, (by repeat (first | exact keeps_refl | refine keeps_upd rfl ?_ | refine keeps_loop rfl rfl ?_)), List.Perm.refl _⟩
              · refine ⟨by omega, ?_, ?_⟩
                · rw [take_snoc' hx]; exact hL.add x (by simpa using h8)
                · rw [hg, lgo_ne (by simpa using h6) (by simpa using h8) (by simpa using h10)]
              · dsimp only; omega
      · try simp at h4
        have hnk : lim.length ≤ k := by omega
        obtain rfl : k = lim.length := by omega
        rw [drop_all (Nat.le_refl _)] at hg
        rw [List.take_length] at hL
        refine hw_exit ?_
        refine seqQ_x ?_
        refine loopQ2_x ?_
        refine blockQ_eq ?_
        refine seqQ_n ?_
        refine hw_reg ?_
        refine dp rfl (pop_move rfl) ?_
        refine dp rfl (pop_assign rfl) ?_
        refine dp rfl (pop_assign rfl) ?_
        refine dn ?_
        refine hw_ret ?_
        first
        | (have hz : limE h lim = 0 := by rw [hg]; rfl
           rw [hz]
           exact ret_q rfl ⟨_, rfl, fun _ => ⟨m16, L, rfl, hL, rfl⟩⟩)
        | (refine ret_g Ghost.clear rfl ⟨.map none, ?_, fun h0 => ?_⟩
           · show HVal.tup _ = _
             first
             | (rw [limE, if_pos (by omega)]; rfl)
             | (rw [hg]; simp_all [limGo, ofVal, ofVal1]; done)
           · exfalso
             first
             | (rw [limE, if_pos (by omega)] at h0; simp at h0; done)
             | (rw [hg] at h0; simp_all [limGo]; done)
             | (rw [hg] at h0; simp_all [limGo]; split at h0 <;> omega))
end Go.Proofs.YtjfapmloepemiaaGreatDoor
end
section
namespace Go.Proofs.YtjfapmloepemiaaGreatDoor
open Go.HL
set_option maxRecDepth 100000
set_option linter.unusedVariables false
set_option linter.unusedSimpArgs false
set_option maxHeartbeats 2000000 in
/-- benchwarmer/draft.Sell -/
theorem c_draft_Sell {h : Hall} {l : List Sale} {player : Str} {lim : List PairS} (hl : l.length ≤ 1000) (hB : ∀ x ∈ l, -2000000 ≤ x.Price ∧ x.Price ≤ 2000000) (ht : h.Teams.length ≤ 1000000) (hp : h.Players.length ≤ 1000000) (hlim : lim.length ≤ 1000) (hv : ∀ x ∈ lim, x.Val ∈ vals) : ConP Tryz.prog 14 [eHall h, eSales l, .str player, ePairs lim] (.tup [eSale (if sellE h l player lim != 0 then sale0 else sellS player (sellT h l lim)), .bool (if sellE h l player lim != 0 then false else decide ((sellT h l lim).team ≠ [])), .int .i64 (sellE h l player lim)]) := by
  refine Con.of_bodyc Tryz.func14 rfl Tryz.ntmps14 rfl rfl ?_
  refine hw_reg ?_
  refine dp rfl (pop_box rfl rfl) ?_
  refine de rfl (eop_alloc ty43 rfl fun b8 => ?_)
  refine dp rfl (pop_assign rfl) ?_
  refine dp rfl (pop_assign rfl) ?_
  refine dn ?_
  refine hw_reg ?_
  refine dp rfl (pop_move rfl) ?_
  refine de rfl (eop_callf (M1 := []) (R := [_]) ca41 rfl (WeakL.refl _) (List.Perm.refl _) (c_draft_sales hl hB ht hp) ?_)
  rintro _ M23 ⟨v23, rfl, hv23⟩
  refine dp rfl (pop_move rfl) ?_
  refine dp rfl (pop_extract rfl rfl) ?_
  refine dp rfl (pop_extract rfl rfl) ?_
  refine dp rfl (pop_assign rfl) ?_
  refine dp rfl (pop_assign rfl) ?_
  refine dn ?_
  refine hw_seq ?_
  refine hw_block ?_
  refine hw_reg ?_
  refine dp rfl (pop_move rfl) ?_
  refine dp rfl (pop_neq rfl rfl) ?_
  refine dp rfl (pop_assign rfl) ?_
  refine dn ?_
  refine hw_cond rfl (fun h1 => ?_) (fun h2 => ?_)
  · try simp at h1
    refine hw_ghost Ghost.last ?_
    refine hw_reg ?_
    refine dp rfl (pop_build (cs := [_, _, _]) ty43 pl43 rfl) ?_
    refine dp rfl (pop_move rfl) ?_
    first
    | refine de0 (eop_store (i := 0) ty43 rfl rfl rfl rfl rfl (Nat.le_of_ble_eq_true rfl) ?_)
    | refine de0 (eop_store (i := 1) ty43 rfl rfl rfl rfl rfl (Nat.le_of_ble_eq_true rfl) ?_)
    | refine de0 (eop_store (i := 2) ty43 rfl rfl rfl rfl rfl (Nat.le_of_ble_eq_true rfl) ?_)
    | refine de0 (eop_store (i := 3) ty43 rfl rfl rfl rfl rfl (Nat.le_of_ble_eq_true rfl) ?_)
    refine dp rfl (pop_assign rfl) ?_
    refine dp rfl (pop_assign rfl) ?_
    refine dn ?_
    refine hw_ret ?_
    refine ⟨_, _, Ghost.fc0 8 rfl, [_, _, _], _, ⟨⟨_, _, _, _, _, rfl, ty43, .inr ⟨rfl, rfl, rfl⟩⟩, ⟨rfl, ⟨rfl, trivial⟩⟩⟩, Weak.refl _, ?_, rfl⟩
    first
    | (have e : sellE h l player lim = salesE h l := by rw [sellE, if_pos (by simpa using h1)]
       rw [e, if_pos (by simpa using h1), if_pos (by simpa using h1)]; rfl)
    | (have e : sellE h l player lim = 8 := by rw [sellE, if_neg (by simpa using h2), if_pos (by simpa using h3)]
       rw [e]; rfl)
    | (have e : sellE h l player lim = 6 := by rw [sellE, if_neg (by simpa using h2), if_neg (by simpa using h4), if_pos (by simpa using h5)]
       rw [e]; rfl)
    | (have e : sellE h l player lim = limE h lim := by rw [sellE, if_neg (by simpa using h2), if_neg (by simpa using h4), if_neg (by simpa using h6)]
       rw [e, if_pos (by simpa using h7), if_pos (by simpa using h7)]; rfl)
    | (have e : sellE h l player lim = 0 := by rw [sellE, if_neg (by simpa using h2), if_neg (by simpa using h4), if_neg (by simpa using h6), h8]
       rw [e, if_neg (by decide), if_neg (by decide), hg]
       subst h15; rfl)
    | (have e : sellE h l player lim = 0 := by rw [sellE, if_neg (by simpa using h2), if_neg (by simpa using h4), if_neg (by simpa using h6), h8]
       rw [e, if_neg (by decide), if_neg (by decide), hg, sellS, if_neg h16, decide_eq_true (show (⟨qt, qf, qs⟩ : Top).team ≠ [] from h16)]; rfl)
  · try simp at h2
    obtain ⟨b, b1, b2, b3, S, L, H, rfl, ok, rfl⟩ := hv23 (by simpa using h2)
    obtain ⟨f1, f2, f3, f4⟩ := hallFault_ok (salesE_hall (by simpa using h2))
    have hso := players_sorted f2
    refine hw_reg ?_
    refine dp rfl (pop_move rfl) ?_
    refine dp rfl (pop_move rfl) ?_
    refine de rfl (eop_callf (M1 := (AucM b b1 b2 b3 h S L H)) (R := [.cells b8 (hcells (eSale sale0))]) ca43 rfl (WeakL.refl _) (List.Perm.refl _) (c_draft_auction_can (s := player) hp hso) ?_)
    rintro _ _ ⟨rfl, rfl⟩
    refine dp rfl (pop_not rfl) ?_
    refine dp rfl (pop_assign rfl) ?_
    refine dn ?_
    refine hw_cond rfl (fun h3 => ?_) (fun h4 => ?_)
    · try simp at h3
      refine hw_ghost (Ghost.only (i := 4) (m := .cells b8 (hcells (eSale sale0))) rfl) ?_
      refine hw_reg ?_
      refine dp rfl (pop_build (cs := [_, _, _]) ty43 pl43 rfl) ?_
      first
      | refine de0 (eop_store (i := 0) ty43 rfl rfl rfl rfl rfl (Nat.le_of_ble_eq_true rfl) ?_)
      | refine de0 (eop_store (i := 1) ty43 rfl rfl rfl rfl rfl (Nat.le_of_ble_eq_true rfl) ?_)
      | refine de0 (eop_store (i := 2) ty43 rfl rfl rfl rfl rfl (Nat.le_of_ble_eq_true rfl) ?_)
      | refine de0 (eop_store (i := 3) ty43 rfl rfl rfl rfl rfl (Nat.le_of_ble_eq_true rfl) ?_)
      refine dp rfl (pop_assign rfl) ?_
      refine dp rfl (pop_assign rfl) ?_
      refine dn ?_
      refine hw_ret ?_
      refine ⟨_, _, Ghost.fc0 8 rfl, [_, _, _], _, ⟨⟨_, _, _, _, _, rfl, ty43, .inr ⟨rfl, rfl, rfl⟩⟩, ⟨rfl, ⟨rfl, trivial⟩⟩⟩, Weak.refl _, ?_, rfl⟩
      first
      | (have e : sellE h l player lim = salesE h l := by rw [sellE, if_pos (by simpa using h1)]
         rw [e, if_pos (by simpa using h1), if_pos (by simpa using h1)]; rfl)
      | (have e : sellE h l player lim = 8 := by rw [sellE, if_neg (by simpa using h2), if_pos (by simpa using h3)]
         rw [e]; rfl)
      | (have e : sellE h l player lim = 6 := by rw [sellE, if_neg (by simpa using h2), if_neg (by simpa using h4), if_pos (by simpa using h5)]
         rw [e]; rfl)
      | (have e : sellE h l player lim = limE h lim := by rw [sellE, if_neg (by simpa using h2), if_neg (by simpa using h4), if_neg (by simpa using h6)]
         rw [e, if_pos (by simpa using h7), if_pos (by simpa using h7)]; rfl)
      | (have e : sellE h l player lim = 0 := by rw [sellE, if_neg (by simpa using h2), if_neg (by simpa using h4), if_neg (by simpa using h6), h8]
         rw [e, if_neg (by decide), if_neg (by decide), hg]
         subst h15; rfl)
      | (have e : sellE h l player lim = 0 := by rw [sellE, if_neg (by simpa using h2), if_neg (by simpa using h4), if_neg (by simpa using h6), h8]
         rw [e, if_neg (by decide), if_neg (by decide), hg, sellS, if_neg h16, decide_eq_true (show (⟨qt, qf, qs⟩ : Top).team ≠ [] from h16)]; rfl)
    · try simp at h4
      refine hw_reg ?_
      refine dp rfl (pop_move rfl) ?_
      refine dp rfl ((by first | exact pop_nilCheck rfl | exact pop_nilCheck_raw rfl)) ?_
      refine dp rfl (pop_fieldAddr_raw ty82 rfl ty79 (by decide) rfl) ?_
      first
      | refine de rfl (eop_load (i := 0) ty79 rfl rfl (.inl ⟨rfl, rfl⟩) ?_)
      | refine de rfl (eop_load (i := 1) ty79 rfl rfl (.inl ⟨rfl, rfl⟩) ?_)
      | refine de rfl (eop_load (i := 2) ty79 rfl rfl (.inl ⟨rfl, rfl⟩) ?_)
      | refine de rfl (eop_load (i := 3) ty79 rfl rfl (.inl ⟨rfl, rfl⟩) ?_)
      refine dp rfl (pop_move rfl) ?_
      refine de rfl (eop_lookup_set (i := 1) ty79 ty9 ty4 rfl rfl rfl ?_)
      rw [ok.sold player]
      refine dp rfl (pop_assign rfl) ?_
      refine dn ?_
      refine hw_cond rfl (fun h5 => ?_) (fun h6 => ?_)
      · try simp at h5
        refine hw_ghost (Ghost.only (i := 4) (m := .cells b8 (hcells (eSale sale0))) rfl) ?_
        refine hw_reg ?_
        refine dp rfl (pop_build (cs := [_, _, _]) ty43 pl43 rfl) ?_
        first
        | refine de0 (eop_store (i := 0) ty43 rfl rfl rfl rfl rfl (Nat.le_of_ble_eq_true rfl) ?_)
        | refine de0 (eop_store (i := 1) ty43 rfl rfl rfl rfl rfl (Nat.le_of_ble_eq_true rfl) ?_)
        | refine de0 (eop_store (i := 2) ty43 rfl rfl rfl rfl rfl (Nat.le_of_ble_eq_true rfl) ?_)
        | refine de0 (eop_store (i := 3) ty43 rfl rfl rfl rfl rfl (Nat.le_of_ble_eq_true rfl) ?_)
        refine dp rfl (pop_assign rfl) ?_
        refine dp rfl (pop_assign rfl) ?_
        refine dn ?_
        refine hw_ret ?_
        refine ⟨_, _, Ghost.fc0 8 rfl, [_, _, _], _, ⟨⟨_, _, _, _, _, rfl, ty43, .inr ⟨rfl, rfl, rfl⟩⟩, ⟨rfl, ⟨rfl, trivial⟩⟩⟩, Weak.refl _, ?_, rfl⟩
        first
        | (have e : sellE h l player lim = salesE h l := by rw [sellE, if_pos (by simpa using h1)]
           rw [e, if_pos (by simpa using h1), if_pos (by simpa using h1)]; rfl)
        | (have e : sellE h l player lim = 8 := by rw [sellE, if_neg (by simpa using h2), if_pos (by simpa using h3)]
           rw [e]; rfl)
        | (have e : sellE h l player lim = 6 := by rw [sellE, if_neg (by simpa using h2), if_neg (by simpa using h4), if_pos (by simpa using h5)]
           rw [e]; rfl)
        | (have e : sellE h l player lim = limE h lim := by rw [sellE, if_neg (by simpa using h2), if_neg (by simpa using h4), if_neg (by simpa using h6)]
           rw [e, if_pos (by simpa using h7), if_pos (by simpa using h7)]; rfl)
        | (have e : sellE h l player lim = 0 := by rw [sellE, if_neg (by simpa using h2), if_neg (by simpa using h4), if_neg (by simpa using h6), h8]
           rw [e, if_neg (by decide), if_neg (by decide), hg]
           subst h15; rfl)
        | (have e : sellE h l player lim = 0 := by rw [sellE, if_neg (by simpa using h2), if_neg (by simpa using h4), if_neg (by simpa using h6), h8]
           rw [e, if_neg (by decide), if_neg (by decide), hg, sellS, if_neg h16, decide_eq_true (show (⟨qt, qf, qs⟩ : Top).team ≠ [] from h16)]; rfl)
      · try simp at h6
        refine hw_skip ?_
        refine blockQ_n ?_
        refine seqQ_n ?_
        refine hw_reg ?_
        refine dp rfl (pop_move rfl) ?_
        refine de rfl (eop_callf (M1 := []) (R := (AucM b b1 b2 b3 h S L H ++ [.cells b8 (hcells (eSale sale0))])) ca44 rfl (WeakL.refl _) (List.Perm.refl _) (c_draft_limits hlim hv ht) ?_)
        rintro _ M47 ⟨v47, rfl, hv47⟩
        refine dp rfl (pop_move rfl) ?_
        refine dp rfl (pop_extract rfl rfl) ?_
        refine dp rfl (pop_extract rfl rfl) ?_
        refine dp rfl (pop_assign rfl) ?_
        refine dp rfl (pop_assign rfl) ?_
        refine dn ?_
        refine hw_seq ?_
        refine hw_reg ?_
        refine dp rfl (pop_move rfl) ?_
        refine dp rfl (pop_neq rfl rfl) ?_
        refine dn ?_
        refine hw_cond rfl (fun h7 => ?_) (fun h8 => ?_)
        · try simp at h7
          refine hw_ghost (Ghost.suffix.trans (Ghost.only (i := 4) (m := .cells b8 (hcells (eSale sale0))) rfl)) ?_
          refine hw_reg ?_
          refine dp rfl (pop_build (cs := [_, _, _]) ty43 pl43 rfl) ?_
          refine dp rfl (pop_move rfl) ?_
          first
          | refine de0 (eop_store (i := 0) ty43 rfl rfl rfl rfl rfl (Nat.le_of_ble_eq_true rfl) ?_)
          | refine de0 (eop_store (i := 1) ty43 rfl rfl rfl rfl rfl (Nat.le_of_ble_eq_true rfl) ?_)
          | refine de0 (eop_store (i := 2) ty43 rfl rfl rfl rfl rfl (Nat.le_of_ble_eq_true rfl) ?_)
          | refine de0 (eop_store (i := 3) ty43 rfl rfl rfl rfl rfl (Nat.le_of_ble_eq_true rfl) ?_)
          refine dp rfl (pop_assign rfl) ?_
          refine dp rfl (pop_assign rfl) ?_
          refine dn ?_
          refine hw_ret ?_
          refine ⟨_, _, Ghost.fc0 8 rfl, [_, _, _], _, ⟨⟨_, _, _, _, _, rfl, ty43, .inr ⟨rfl, rfl, rfl⟩⟩, ⟨rfl, ⟨rfl, trivial⟩⟩⟩, Weak.refl _, ?_, rfl⟩
          first
          | (have e : sellE h l player lim = salesE h l := by rw [sellE, if_pos (by simpa using h1)]
             rw [e, if_pos (by simpa using h1), if_pos (by simpa using h1)]; rfl)
          | (have e : sellE h l player lim = 8 := by rw [sellE, if_neg (by simpa using h2), if_pos (by simpa using h3)]
             rw [e]; rfl)
          | (have e : sellE h l player lim = 6 := by rw [sellE, if_neg (by simpa using h2), if_neg (by simpa using h4), if_pos (by simpa using h5)]
             rw [e]; rfl)
          | (have e : sellE h l player lim = limE h lim := by rw [sellE, if_neg (by simpa using h2), if_neg (by simpa using h4), if_neg (by simpa using h6)]
             rw [e, if_pos (by simpa using h7), if_pos (by simpa using h7)]; rfl)
          | (have e : sellE h l player lim = 0 := by rw [sellE, if_neg (by simpa using h2), if_neg (by simpa using h4), if_neg (by simpa using h6), h8]
             rw [e, if_neg (by decide), if_neg (by decide), hg]
             subst h15; rfl)
          | (have e : sellE h l player lim = 0 := by rw [sellE, if_neg (by simpa using h2), if_neg (by simpa using h4), if_neg (by simpa using h6), h8]
             rw [e, if_neg (by decide), if_neg (by decide), hg, sellS, if_neg h16, decide_eq_true (show (⟨qt, qf, qs⟩ : Top).team ≠ [] from h16)]; rfl)
        · try simp at h8
          refine hw_skip ?_
          refine seqQ_n ?_
          obtain ⟨m, Lm, rfl, hLm, rfl⟩ := hv47 (by simpa using h8)
          refine hw_reg ?_
          refine dp rfl (pop_assign rfl) ?_
          refine dp rfl (pop_assign rfl) ?_
          refine dp rfl (pop_assign rfl) ?_
          refine dn ?_
          refine hw_seq ?_
          refine hw_reg ?_
          refine dp rfl (pop_fieldAddr ty28 rfl ty26 (by decide) rfl) ?_
          refine dp rfl (pop_load ty26 rfl rfl rfl) ?_
          refine dp rfl (pop_lenm ty26 rfl) ?_
          refine dp rfl (pop_move rfl) ?_
          refine dn ?_
          refine hw_block ?_
          refine hw_loopw2 [14, 15, 16, 18, 19, 20, 57, 58, 59, 60, 61, 62, 63, 64, 65, 66, 67, 68, 69, 70, 71, 72, 73, 74, 75, 76, 77, 78, 79, 80, 81, 82, 83, 84, 85, 86, 87] (fun (k : Nat) (q : Top) => [(57, .int .i64 k), (14, .str q.team), (15, .int .i64 q.first), (16, .int .i64 q.second)]) (fun (k : Nat) (q : Top) => (AucM b b1 b2 b3 h S L H ++ [.cells b8 (hcells (eSale sale0)), .map m (sk Lm)])) (fun (k : Nat) (q : Top) => k ≤ h.Teams.length ∧ ((0 ≤ q.first ∧ q.first ≤ 100) ∧ (0 ≤ q.second ∧ q.second ≤ 100) ∧ sellT h l lim = topGo (bid h l lim) q (h.Teams.drop k))) (fun (k : Nat) (q : Top) => h.Teams.length - k) (0) (⟨[], 0, 0⟩) ?_ ?_ ?_ ?_
          · exact ⟨Nat.zero_le _, by decide, by decide, rfl⟩
          · exact ⟨rfl, rfl, rfl, rfl, trivial⟩
          · exact List.perm_append_comm
          · intro k q hinv
            obtain ⟨hk, hq1, hq2, hg⟩ := hinv
            obtain ⟨qt, qf, qs⟩ := q
            dsimp only at hq1 hq2 hg
            refine hw_reg ?_
            refine dp rfl (pop_lss rfl rfl) ?_
            refine dn ?_
            refine hw_seq ?_
            refine hw_cond rfl (fun h9 => ?_) (fun h10 => ?_)
            · try simp at h9
              obtain ⟨x, hx⟩ : ∃ x, h.Teams[k]? = some x := ⟨_, List.getElem?_eq_getElem h9⟩
              have hdx := drop_cons hx
              rw [hdx, topGo_cons] at hg
              have hlb := limN_bd hv x
              refine hw_skip ?_
              refine seqQ_n ?_
              refine hw_seq ?_
              refine hw_block ?_
              refine hw_reg ?_
              refine dp rfl (pop_idx ty26 ty9 rfl rfl rfl (by first | assumption | simp_all)) ?_
              refine dp rfl (pop_load ty9 rfl rfl rfl) ?_
              refine dp rfl (pop_assign rfl) ?_
              refine dn ?_
              refine hw_reg ?_
              refine dp rfl (pop_move rfl) ?_
              refine dp rfl (pop_move rfl) ?_
              refine de rfl (eop_lookup2I (i := 5) ty80 ty9 ty3 rfl rfl rfl (hLm.lk x) (hLm.is x) ?_)
              refine dp rfl (pop_move rfl) ?_
              refine dp rfl (pop_extract rfl rfl) ?_
              refine dp rfl (pop_extract rfl rfl) ?_
              refine dp rfl (pop_assign rfl) ?_
              refine dp rfl (pop_assign rfl) ?_
              refine dn ?_
              refine hw_seq ?_
              refine hw_reg ?_
              refine dp rfl (pop_move rfl) ?_
              refine dp rfl (pop_move rfl) ?_
              refine dp rfl (pop_move rfl) ?_
              refine de rfl (eop_callf (M1 := (AucM b b1 b2 b3 h S L H)) (R := [.cells b8 (hcells (eSale sale0)), .map m (sk Lm)]) ca42 rfl (WeakL.refl _) (List.Perm.refl _) (c_draft_auction_most (team := x) ok (by simpa using List.mem_of_getElem? hx) hl hB (by omega) (by omega)) ?_)
              rintro _ _ ⟨rfl, rfl⟩
              refine dp rfl (pop_eq (pop_min rfl rfl) (congrArg (HVal.int .i64) (mn_eq _ _))) ?_
              refine dp rfl (pop_assign rfl) ?_
              refine dn ?_
              refine hw_reg ?_
              refine dp rfl (pop_move rfl) ?_
              refine dp rfl (pop_not rfl) ?_
              refine dp rfl (pop_move rfl) ?_
              refine dg rfl rfl (fun hc => ⟨_, OpenTo.refl _, pop_move rfl⟩) ?_
              refine dg rfl rfl (fun hc => ⟨_, OpenTo.upd (t := 75) rfl (by first | exact hc | simp_all) (OpenTo.refl _), pop_lss rfl rfl⟩) ?_
              refine dp rfl (pop_picko rfl (.inl rfl) (.inr ⟨_, rfl, fun h => by simp_all⟩)) ?_
              refine dn ?_
              refine hw_cond rfl (fun h11 => ?_) (fun h12 => ?_)
              · try simp at h11
                refine hw_exit ?_
                refine seqQ_x ?_
                refine blockQ_eq ?_
                refine seqQ_n ?_
                refine hw_reg1 ?_
                refine dp rfl (pop_add64 rfl rfl (by omega) (by omega)) ?_
                refine dp rfl (pop_move rfl) ?_
                refine dn ?_
                exact ⟨k + 1, ⟨qt, qf, qs⟩, ⟨by omega, hq1, hq2, by rw [hg, bid_none' h11]⟩, by dsimp only; omega, ⟨rfl, rfl, rfl, rfl, trivial⟩, (by repeat (first | exact keeps_refl | refine keeps_upd rfl ?_ | refine keeps_loop rfl rfl ?_)), perm_eq rfl⟩
              · try simp at h12
                refine hw_skip ?_
                refine seqQ_n ?_
                refine hw_reg ?_
                refine dp rfl (pop_move rfl) ?_
                refine dp rfl (pop_move rfl) ?_
                refine dp rfl (pop_gtr rfl rfl) ?_
                refine dn ?_
                refine hw_cond rfl (fun h13 => ?_) (fun h14 => ?_)
                · try simp at h13
                  refine hw_reg1 ?_
                  refine dp rfl (pop_move rfl) ?_
                  refine dp rfl (pop_move rfl) ?_
                  refine dp rfl (pop_move rfl) ?_
                  refine dp rfl (pop_assign rfl) ?_
                  refine dp rfl (pop_assign rfl) ?_
                  refine dp rfl (pop_assign rfl) ?_
                  refine dn ?_
                  refine blockQ_n ?_
                  refine seqQ_n ?_
                  refine hw_reg1 ?_
                  refine dp rfl (pop_add64 rfl rfl (by omega) (by omega)) ?_
                  refine dp rfl (pop_move rfl) ?_
                  refine dn ?_
                  exact ⟨k + 1, ⟨x, min (limN lim x) (mostOf h l x), qf⟩, ⟨by omega, by dsimp only; omega, hq1, by rw [hg, bid_some' h12.1 h12.2]; simp only [Top.step]; rw [if_pos (by simpa using h13)]⟩, by dsimp only; omega, ⟨rfl, rfl, rfl, rfl, trivial⟩, (by repeat (first | exact keeps_refl | refine keeps_upd rfl ?_ | refine keeps_loop rfl rfl ?_)), perm_eq rfl⟩
                · try simp at h14
                  refine hw_reg1 ?_
                  refine dp rfl (pop_move rfl) ?_
                  refine dp rfl (pop_move rfl) ?_
                  refine dp rfl (pop_eq (pop_max rfl rfl) (congrArg (HVal.int .i64) (mx_eq _ _))) ?_
                  refine dp rfl (pop_assign rfl) ?_
                  refine dn ?_
                  refine blockQ_n ?_
                  refine seqQ_n ?_
                  refine hw_reg1 ?_
                  refine dp rfl (pop_add64 rfl rfl (by omega) (by omega)) ?_
                  refine dp rfl (pop_move rfl) ?_
                  refine dn ?_
                  exact ⟨k + 1, ⟨qt, qf, max qs (min (limN lim x) (mostOf h l x))⟩, ⟨by omega, hq1, by dsimp only; omega, by rw [hg, bid_some' h12.1 h12.2]; simp only [Top.step]; rw [if_neg (by simpa using h14)]⟩, by dsimp only; omega, ⟨rfl, rfl, rfl, rfl, trivial⟩, (by repeat (first | exact keeps_refl | refine keeps_upd rfl ?_ | refine keeps_loop rfl rfl ?_)), perm_eq rfl⟩
            · try simp at h10
              have hnk : h.Teams.length ≤ k := by omega
              obtain rfl : k = h.Teams.length := by omega
              rw [drop_all (Nat.le_refl _)] at hg
              change sellT h l lim = ⟨qt, qf, qs⟩ at hg
              refine hw_exit ?_
              refine seqQ_x ?_
              refine loopQ2_x ?_
              refine blockQ_eq ?_
              refine seqQ_n ?_
              refine hw_seq ?_
              refine hw_reg ?_
              refine dp rfl (pop_move rfl) ?_
              refine dp rfl (pop_eqls rfl rfl) ?_
              refine dn ?_
              refine hw_cond rfl (fun h15 => ?_) (fun h16 => ?_)
              · try simp at h15
                refine hw_ghost (Ghost.only (i := 4) (m := .cells b8 (hcells (eSale sale0))) rfl) ?_
                refine hw_reg ?_
                refine dp rfl (pop_build (cs := [_, _, _]) ty43 pl43 rfl) ?_
                first
                | refine de0 (eop_store (i := 0) ty43 rfl rfl rfl rfl rfl (Nat.le_of_ble_eq_true rfl) ?_)
                | refine de0 (eop_store (i := 1) ty43 rfl rfl rfl rfl rfl (Nat.le_of_ble_eq_true rfl) ?_)
                | refine de0 (eop_store (i := 2) ty43 rfl rfl rfl rfl rfl (Nat.le_of_ble_eq_true rfl) ?_)
                | refine de0 (eop_store (i := 3) ty43 rfl rfl rfl rfl rfl (Nat.le_of_ble_eq_true rfl) ?_)
                refine dp rfl (pop_assign rfl) ?_
                refine dp rfl (pop_assign rfl) ?_
                refine dn ?_
                refine hw_ret ?_
                refine ⟨_, _, Ghost.fc0 8 rfl, [_, _, _], _, ⟨⟨_, _, _, _, _, rfl, ty43, .inr ⟨rfl, rfl, rfl⟩⟩, ⟨rfl, ⟨rfl, trivial⟩⟩⟩, Weak.refl _, ?_, rfl⟩
                first
                | (have e : sellE h l player lim = salesE h l := by rw [sellE, if_pos (by simpa using h1)]
                   rw [e, if_pos (by simpa using h1), if_pos (by simpa using h1)]; rfl)
                | (have e : sellE h l player lim = 8 := by rw [sellE, if_neg (by simpa using h2), if_pos (by simpa using h3)]
                   rw [e]; rfl)
                | (have e : sellE h l player lim = 6 := by rw [sellE, if_neg (by simpa using h2), if_neg (by simpa using h4), if_pos (by simpa using h5)]
                   rw [e]; rfl)
                | (have e : sellE h l player lim = limE h lim := by rw [sellE, if_neg (by simpa using h2), if_neg (by simpa using h4), if_neg (by simpa using h6)]
                   rw [e, if_pos (by simpa using h7), if_pos (by simpa using h7)]; rfl)
                | (have e : sellE h l player lim = 0 := by rw [sellE, if_neg (by simpa using h2), if_neg (by simpa using h4), if_neg (by simpa using h6), h8]
                   rw [e, if_neg (by decide), if_neg (by decide), hg]
                   subst h15; rfl)
                | (have e : sellE h l player lim = 0 := by rw [sellE, if_neg (by simpa using h2), if_neg (by simpa using h4), if_neg (by simpa using h6), h8]
                   rw [e, if_neg (by decide), if_neg (by decide), hg, sellS, if_neg h16, decide_eq_true (show (⟨qt, qf, qs⟩ : Top).team ≠ [] from h16)]; rfl)
              · try simp at h16
                refine hw_skip ?_
                refine seqQ_n ?_
                refine hw_ghost (Ghost.only (i := 4) (m := .cells b8 (hcells (eSale sale0))) rfl) ?_
                refine hw_reg ?_
                refine dp rfl (pop_move rfl) ?_
                refine dp rfl (pop_move rfl) ?_
                refine dp rfl (pop_move rfl) ?_
                refine dp rfl (pop_move rfl) ?_
                refine dp rfl (pop_add64 rfl rfl (by dsimp only; omega) (by dsimp only; omega)) ?_
                refine dp rfl (pop_eq (pop_min rfl rfl) (congrArg (HVal.int .i64) (mn_eq _ _))) ?_
                refine dp rfl (pop_build (cs := [_, _, _]) ty43 pl43 rfl) ?_
                first
                | refine de0 (eop_store (i := 0) ty43 rfl rfl rfl rfl rfl (Nat.le_of_ble_eq_true rfl) ?_)
                | refine de0 (eop_store (i := 1) ty43 rfl rfl rfl rfl rfl (Nat.le_of_ble_eq_true rfl) ?_)
                | refine de0 (eop_store (i := 2) ty43 rfl rfl rfl rfl rfl (Nat.le_of_ble_eq_true rfl) ?_)
                | refine de0 (eop_store (i := 3) ty43 rfl rfl rfl rfl rfl (Nat.le_of_ble_eq_true rfl) ?_)
                refine dp rfl (pop_assign rfl) ?_
                refine dp rfl (pop_assign rfl) ?_
                refine dn ?_
                refine hw_ret ?_
                refine ⟨_, _, Ghost.fc0 8 rfl, [_, _, _], _, ⟨⟨_, _, _, _, _, rfl, ty43, .inr ⟨rfl, rfl, rfl⟩⟩, ⟨rfl, ⟨rfl, trivial⟩⟩⟩, Weak.refl _, ?_, rfl⟩
                first
                | (have e : sellE h l player lim = salesE h l := by rw [sellE, if_pos (by simpa using h1)]
                   rw [e, if_pos (by simpa using h1), if_pos (by simpa using h1)]; rfl)
                | (have e : sellE h l player lim = 8 := by rw [sellE, if_neg (by simpa using h2), if_pos (by simpa using h3)]
                   rw [e]; rfl)
                | (have e : sellE h l player lim = 6 := by rw [sellE, if_neg (by simpa using h2), if_neg (by simpa using h4), if_pos (by simpa using h5)]
                   rw [e]; rfl)
                | (have e : sellE h l player lim = limE h lim := by rw [sellE, if_neg (by simpa using h2), if_neg (by simpa using h4), if_neg (by simpa using h6)]
                   rw [e, if_pos (by simpa using h7), if_pos (by simpa using h7)]; rfl)
                | (have e : sellE h l player lim = 0 := by rw [sellE, if_neg (by simpa using h2), if_neg (by simpa using h4), if_neg (by simpa using h6), h8]
                   rw [e, if_neg (by decide), if_neg (by decide), hg]
                   subst h15; rfl)
                | (have e : sellE h l player lim = 0 := by rw [sellE, if_neg (by simpa using h2), if_neg (by simpa using h4), if_neg (by simpa using h6), h8]
                   rw [e, if_neg (by decide), if_neg (by decide), hg, sellS, if_neg h16, decide_eq_true (show (⟨qt, qf, qs⟩ : Top).team ≠ [] from h16)]; rfl)
end Go.Proofs.YtjfapmloepemiaaGreatDoor
end
section
namespace Go.HL
abbrev HallC (b : Nat) (t p : HVal) (B P : Int) : MObj := .cells b [t, p, .int .i64 B, .int .i64 P]
structure GoodHall (h : Hall) : Prop where
  t0 : 0 < h.Teams.length
  t4 : h.Teams.length ≤ 4
  p20 : h.Players.length ≤ 20
  ts : ∀ s ∈ h.Teams, s.length ≤ 1000000
  ps : ∀ s ∈ h.Players, s.length ≤ 1000000
theorem good_hall {T Pl : List Str} {B P : Int} {k : Nat} (hT : 1 ≤ T.length ∧ T.length ≤ 3) (hP : Pl.length = k) (hk : k ≤ 19) (h1 : ∀ s ∈ T, s.length ≤ 100) (h2 : ∀ s ∈ Pl, s.length ≤ 100) : GoodHall ⟨T, Pl, B, P⟩ :=
  ⟨by dsimp only; omega, by dsimp only; omega, by dsimp only; omega, fun s hs => by have := h1 s hs; omega, fun s hs => by have := h2 s hs; omega⟩
theorem good_hallP {T Pl : List Str} {B P : Int} {k : Nat} {y : Str} (hT : 1 ≤ T.length ∧ T.length ≤ 3) (hP : Pl.length = k) (hk : k ≤ 19) (h1 : ∀ s ∈ T, s.length ≤ 100) (h2 : ∀ s ∈ Pl, s.length ≤ 100) (hy : y.length ≤ 100) : GoodHall ⟨T, Pl ++ [y], B, P⟩ :=
  ⟨by dsimp only; omega, by dsimp only; omega, by simp; omega, fun s hs => by have := h1 s hs; omega, fun s hs => by
    rcases List.mem_append.1 hs with h | h
    · have := h2 s h; omega
    · simp at h; subst h; omega⟩
theorem itoa_vals {y : Int} (h : y ∈ [0, 1, 3, 3, 9, 100, -2]) : Lib.itoa y ∈ vals := by
  have h1 : (([0, 1, 3, 3, 9, 100, -2] : List Int).all fun y => vals.contains (Lib.itoa y)) = true := by kernel_rfl
  simpa using List.all_eq_true.1 h1 y h
theorem mostOf_le {h : Hall} {l : List Sale} (hB : ∀ x ∈ l, 0 ≤ x.Price ∧ x.Price ≤ 1000100) (hl : l.length ≤ 100) (hbu : h.Budget ≤ 1000000) (hpl : 1 ≤ h.Places) (t : Str) : mostOf h l t ≤ 1000100 := by
  have h1 : 0 ≤ spent l t := by
    clear hl
    induction l with
    | nil => simp [spent]
    | cons y r ih =>
      have := ih fun x hx => hB x (List.mem_cons_of_mem _ hx)
      have := (hB y List.mem_cons_self).1
      simp only [spent]; split <;> omega
  have h2 := many_bd l t
  unfold mostOf; split <;> omega
structure GoodSales (l : List Sale) : Prop where
  len : l.length ≤ 20
  all : ∀ x ∈ l, 0 ≤ x.Price ∧ x.Price ≤ 1000101
structure GoodLims (l : List PairS) : Prop where
  len : l.length ≤ 4
  all : ∀ x ∈ l, x.Val ∈ vals
abbrev GoodS (x : Sale) : Prop := 0 ≤ x.Price ∧ x.Price ≤ 1000100
abbrev GoodL (x : PairS) : Prop := x.Val ∈ vals
theorem hall_players {h : Hall} (e : hallFault h = 0) : 1 ≤ h.Players.length := by
  obtain ⟨f1, f2, f3, f4⟩ := hallFault_ok e
  unfold hallFault at e
  rw [if_neg (by simp [orI, f1, f2]), if_neg (by simp [out]; omega)] at e
  split at e
  · omega
  · rename_i hc
    simp only [Bool.or_eq_true, decide_eq_true_eq, not_or] at hc
    have ht : 1 ≤ h.Teams.length := by
      unfold teamsFault at f1
      split at f1
      · omega
      · omega
    have := mul_bd (a := 1) (b := h.Places) (A := (h.Teams.length : Int)) (B := h.Places) (by omega) (by omega) (by omega) (by omega)
    omega
end Go.HL
end
