/- Contracts of functions of the program, by the rules of the logic; printed by gen.py. -/
import Derived.Test.YtfeimpgcpjoilaaGreatDoorCMake1
import Derived.Test.YtfeimpgcpjoilaaGreatDoorHl17
import Derived.Test.YtfeimpgcpjoilaaGreatDoorPure21
namespace Go.Proofs.YtfeimpgcpjoilaaGreatDoor
open Go.HL
set_option maxRecDepth 100000
set_option linter.unusedVariables false
set_option linter.unusedSimpArgs false
/-- math/bits.Len64 -/
theorem c_bits_Len64_s {x : Nat} (hx : x < 16) : Con Tryz.prog 87 [.int .u64 (x : Int)] [] (fun y M' => ∃ n : Int, y = .int .i64 n ∧ M' = []) := by
  refine Con.of_body Tryz.func87 rfl Tryz.ntmps87 rfl rfl ?_
  refine hw_reg ?_
  refine dp rfl (pop_assign rfl) ?_
  refine dn ?_
  refine hw_seq ?_
  refine hw_reg ?_
  refine dp rfl (pop_move rfl) ?_
  refine dp rfl (pop_geq rfl rfl) ?_
  refine dn ?_
  refine hw_cond rfl (fun h1 => ?_) (fun h1 => ?_)
  · exfalso
    try simp at h1
    omega
  · try simp at h1
    refine hw_skip ?_
    refine seqQ_n ?_
    refine hw_seq ?_
    refine hw_reg ?_
    refine dp rfl (pop_move rfl) ?_
    refine dp rfl (pop_geq rfl rfl) ?_
    refine dn ?_
    refine hw_cond rfl (fun h2 => ?_) (fun h2 => ?_)
    · exfalso
      try simp at h2
      omega
    · try simp at h2
      refine hw_skip ?_
      refine seqQ_n ?_
      refine hw_seq ?_
      refine hw_reg ?_
      refine dp rfl (pop_move rfl) ?_
      refine dp rfl (pop_geq rfl rfl) ?_
      refine dn ?_
      refine hw_cond rfl (fun h3 => ?_) (fun h3 => ?_)
      · exfalso
        try simp at h3
        omega
      · try simp at h3
        refine hw_skip ?_
        refine seqQ_n ?_
        refine hw_reg ?_
        refine dp rfl (pop_move rfl) ?_
        refine dp rfl (pop_move rfl) ?_
        refine dp rfl (pop_conv ty107 ty5 rfl) ?_
        refine dp rfl (pop_indexs (j := x) ty9 rfl rfl (wrap8 hx) (List.getElem?_eq_getElem (Nat.lt_of_lt_of_le hx (Nat.le_of_ble_eq_true (by kernel_rfl))))) ?_
        refine dp rfl (pop_conv ty5 ty3 rfl) ?_
        refine dp rfl (pop_add rfl rfl) ?_
        refine dp rfl (pop_assign rfl) ?_
        refine dn ?_
        refine hw_ret ?_
        exact ret_q rfl ⟨_, rfl, rfl⟩

/-- math/bits.Len -/
theorem c_bits_Len_s {x : Nat} (hx : x < 16) : Con Tryz.prog 60 [.int .u64 (x : Int)] [] (fun y M' => ∃ n : Int, y = .int .i64 n ∧ M' = []) := by
  refine Con.of_body Tryz.func60 rfl Tryz.ntmps60 rfl rfl ?_
  refine hw_reg ?_
  refine dp rfl (pop_assign rfl) ?_
  refine dn ?_
  refine hw_seq ?_
  refine hw_cond_f rfl ?_
  refine hw_skip ?_
  refine seqQ_n ?_
  refine hw_reg ?_
  refine dp rfl (pop_move rfl) ?_
  refine de rfl (eop_callf (M1 := []) (R := []) ca87 rfl (WeakL.refl _) (List.Perm.refl _) (c_bits_Len64_s hx) ?_)
  rintro _ _ ⟨n7, rfl, rfl⟩
  refine dp rfl (pop_assign rfl) ?_
  refine dn ?_
  refine hw_ret ?_
  exact ret_q rfl ⟨_, rfl, rfl⟩

set_option maxHeartbeats 1000000 in
/-- slices.insertionSortCmpFunc[benchwarmer/api.Asset] -/
theorem c_slices_insertionSortCmpFunc_api_Asset {l : List Asset} {v : Value} {fid : FuncId} {caps : List HVal} {c : Asset → Asset → Int} {n : Int} (hca : Callable Tryz.prog fid) (hp : ∀ x y, ConP Tryz.prog fid ([eAsset x, eAsset y] ++ caps) (.int .i64 (c x y))) (hn : n = l.length) (hl : l.length ≤ 1000000) : Con Tryz.prog 98 [.raw v, .int .i64 0, .int .i64 n, .fn (.func fid) [] caps] [.arr v 3 (l.map eAsset)] (fun x M' => x = .tup [] ∧ M' = [.arr v 3 ((isort c l).map eAsset)]) := by
  subst hn
  refine Con.of_body Tryz.func98 rfl Tryz.ntmps98 rfl rfl ?_
  refine hw_reg ?_
  refine dp rfl (pop_move rfl) ?_
  refine dp rfl (pop_add64 rfl rfl (by omega) (by omega)) ?_
  refine dp rfl (pop_assign rfl) ?_
  refine dn ?_
  refine hw_block ?_
  refine hw_loopw [8, 9, 12, 13, 14, 15, 16, 17, 18, 19, 20, 21, 22, 23, 24, 25, 26, 27, 28, 29, 30, 31, 32, 33, 34, 35, 36, 37, 38, 39, 40, 41, 42, 43, 44, 45, 46, 47, 48, 49, 50, 51, 52] (fun (k : Nat) => [(8, .int .i64 (k : Int))]) (fun (k : Nat) => [.arr v 3 ((isort c (l.take k) ++ l.drop k).map eAsset)]) (fun (k : Nat) => 1 ≤ k) (fun (k : Nat) => l.length - k) (1) ?_ ?_ ?_ ?_
  · exact Nat.le_refl _
  · exact ⟨rfl, trivial⟩
  · exact perm_eq (by rw [isort_take1])
  · intro k hk
    refine hw_seq ?_
    refine hw_reg ?_
    refine dp rfl (pop_move rfl) ?_
    refine dp rfl (pop_move rfl) ?_
    refine dp rfl (pop_lss rfl rfl) ?_
    refine dn ?_
    refine hw_cond rfl (fun h1 => ?_) (fun h2 => ?_)
    · try simp at h1
      obtain ⟨x, hx⟩ : ∃ x, l[k]? = some x := ⟨_, List.getElem?_eq_getElem (by omega)⟩
      refine hw_arrc (i := 0) rfl (fun h0 he => ?_) (fun b off cap hv hcap => ?_)
      · exfalso; have := congrArg List.length he; simp [isort_len] at this; omega
      rw [show ((isort c (l.take k) ++ l.drop k).map eAsset).length = l.length by simp [isort_len]; omega] at hv
      subst hv
      refine hw_skip ?_
      refine seqQ_n ?_
      refine hw_seq ?_
      refine hw_block ?_
      refine hw_reg ?_
      refine dp rfl (pop_move rfl) ?_
      refine dp rfl (pop_assign rfl) ?_
      refine dn ?_
      refine hw_block ?_
      refine hw_loopw2 [9, 18, 19, 20, 21, 22, 23, 24, 25, 26, 27, 28, 29, 30, 31, 32, 33, 34, 35, 36, 37, 38, 39, 40, 41, 42, 43, 44, 45, 46, 47, 48, 49, 50, 51, 52] (fun (A : List Asset) (B : List Asset) => [(9, .int .i64 (A.length : Int))]) (fun (A : List Asset) (B : List Asset) => [.arr (.slice (some ⟨b, off, none⟩) l.length cap) 3 ((A ++ x :: (B ++ l.drop (k + 1))).map eAsset)]) (fun (A : List Asset) (B : List Asset) => A.length + B.length = k ∧ insB c x (isort c (l.take k)) = insB c x A ++ B) (fun (A : List Asset) (B : List Asset) => A.length) (isort c (l.take k)) ([]) ?_ ?_ ?_ ?_
      · exact ⟨by simp [isort_len]; omega, by simp⟩
      · exact ⟨some_int (by simp [isort_len]; omega), trivial⟩
      · exact perm_eq (by rw [drop_cons hx]; rfl)
      · intro A B hinv
        obtain ⟨hA, hB⟩ := hinv
        have hlA : A.length < l.length := by omega
        have hll : ((A ++ x :: (B ++ l.drop (k + 1)))).length = l.length := by simp; omega
        refine hw_seq ?_
        refine hw_draw (fun M => M = [.arr (.slice (some ⟨b, off, none⟩) l.length cap) 3 ((A ++ x :: (B ++ l.drop (k + 1))).map eAsset)]) [8, 13] mixed ?_
        refine ahp 0 rfl rfl (by kernel_rfl) (by kernel_rfl) (pop_move rfl) ?_
        refine ahp 1 rfl rfl (by kernel_rfl) (by kernel_rfl) (pop_move rfl) ?_
        refine ahp 2 rfl rfl (by kernel_rfl) (by kernel_rfl) (pop_gtr rfl rfl) ?_
        refine ahp 3 rfl rfl (by kernel_rfl) (by kernel_rfl) (pop_move rfl) ?_
        refine ahg 4 rfl rfl (by kernel_rfl) (by kernel_rfl) rfl (fun hc => ⟨_, OpenTo.refl _, pop_move rfl⟩) ?_
        refine ahg 5 rfl rfl (by kernel_rfl) (by kernel_rfl) rfl (fun hc => ⟨_, OpenTo.refl _, pop_move rfl⟩) ?_
        refine ahg 6 rfl rfl (by kernel_rfl) (by kernel_rfl) rfl (fun hc => ⟨_, OpenTo.refl _, pop_move rfl⟩) ?_
        refine ahg 7 rfl rfl (by kernel_rfl) (by kernel_rfl) rfl (fun hc => by
            have hq : 0 < A.length := by simpa using hc
            exact ⟨_, OpenTo.upd (t := 24) rfl (by first | exact hc | simp_all) (OpenTo.upd (t := 23) rfl (by first | exact hc | simp_all) (OpenTo.refl _)), pop_idxraw (j := A.length) ty26 ty32 rfl rfl (by rfl) (by omega)⟩) ?_
        refine ahgl 8 rfl rfl (by kernel_rfl) (by kernel_rfl) (by simp) rfl rfl (fun hc => ⟨_, OpenTo.upd (t := 25) rfl (by first | exact hc | simp_all) (OpenTo.refl _), fun M hM => by
            subst hM; exact eop_load_elw (i := 0) (j := A.length) ty32 rfl rfl rfl get_mid rfl rfl rfl ⟨rfl, rfl⟩
          ⟩) ?_
        refine ahg 9 rfl rfl (by kernel_rfl) (by kernel_rfl) rfl (fun hc => ⟨_, OpenTo.refl _, pop_move rfl⟩) ?_
        refine ahg 10 rfl rfl (by kernel_rfl) (by kernel_rfl) rfl (fun hc => ⟨_, OpenTo.refl _, pop_move rfl⟩) ?_
        refine ahg 11 rfl rfl (by kernel_rfl) (by kernel_rfl) rfl (fun hc => by
            have hq : 0 < A.length := by simpa using hc
            exact ⟨_, OpenTo.upd (t := 28) rfl (by first | exact hc | simp_all) (OpenTo.refl _), pop_sub64 rfl rfl (by omega) (by omega)⟩) ?_
        refine ahg 12 rfl rfl (by kernel_rfl) (by kernel_rfl) rfl (fun hc => by
            have hq : 0 < A.length := by simpa using hc
            exact ⟨_, OpenTo.upd (t := 29) rfl (by first | exact hc | simp_all) (OpenTo.upd (t := 27) rfl (by first | exact hc | simp_all) (OpenTo.refl _)), pop_idxraw (j := A.length - 1) ty26 ty32 rfl rfl (by omega) (by omega)⟩) ?_
        refine ahgl 13 rfl rfl (by kernel_rfl) (by kernel_rfl) (by simp) rfl rfl (fun hc => ⟨_, OpenTo.upd (t := 30) rfl (by first | exact hc | simp_all) (OpenTo.refl _), fun M hM => by
            have hq : 0 < A.length := by simpa using hc
            subst hM; exact eop_load_elw (i := 0) (j := A.length - 1) ty32 rfl rfl rfl (get_before hq) rfl rfl rfl ⟨rfl, rfl⟩
          ⟩) ?_
        refine ahg 14 rfl rfl (by kernel_rfl) (by kernel_rfl) rfl (fun hc => ⟨_, OpenTo.upd (t := 31) rfl (by first | exact hc | simp_all) (OpenTo.upd (t := 26) rfl (by first | exact hc | simp_all) (OpenTo.upd (t := 22) rfl (by first | exact hc | simp_all) (OpenTo.refl _))), pop_callv hca rfl rfl (WeakL.refl _) (hp _ _)⟩) ?_
        refine ahg 15 rfl rfl (by kernel_rfl) (by kernel_rfl) rfl (fun hc => ⟨_, OpenTo.upd (t := 32) rfl (by first | exact hc | simp_all) (OpenTo.refl _), pop_lss rfl rfl⟩) ?_
        refine ahp 16 rfl rfl (by kernel_rfl) (by kernel_rfl) (pop_picko rfl (.inr ⟨_, rfl, fun h => by simp_all⟩) (.inl rfl)) ?_
        refine ahz (by kernel_rfl) ?_
        refine hw_cond rfl (fun h3 => ?_) (fun h4 => ?_)
        · try simp at h3
          obtain ⟨hA0, hcx⟩ := h3
          obtain ⟨A1, y, rfl⟩ := snoc_of hA0
          rw [getD_snoc] at hcx
          refine hw_skip ?_
          refine seqQ_n ?_
          refine hw_seq ?_
          refine hw_block ?_
          refine hw_draw1 (fun M => M = [.arr (.slice (some ⟨b, off, none⟩) l.length cap) 3 (((A1 ++ [y]) ++ x :: (B ++ l.drop (k + 1))).map eAsset)]) [9, 13] mixed ?_
          refine ahp 0 rfl rfl (by kernel_rfl) (by kernel_rfl) (pop_move rfl) ?_
          refine ahp 1 rfl rfl (by kernel_rfl) (by kernel_rfl) (pop_move rfl) ?_
          refine ahp 2 rfl rfl (by kernel_rfl) (by kernel_rfl) (pop_move rfl) ?_
          refine ahp 3 rfl rfl (by kernel_rfl) (by kernel_rfl) (pop_move rfl) ?_
          refine ahp 4 rfl rfl (by kernel_rfl) (by kernel_rfl) (pop_sub64 rfl rfl (by omega) (by omega)) ?_
          refine ahp 5 rfl rfl (by kernel_rfl) (by kernel_rfl) (pop_move rfl) ?_
          refine ahp 6 rfl rfl (by kernel_rfl) (by kernel_rfl) (pop_move rfl) ?_
          refine ahp 7 rfl rfl (by kernel_rfl) (by kernel_rfl) (pop_sub64 rfl rfl (by omega) (by omega)) ?_
          refine ahp 8 rfl rfl (by kernel_rfl) (by kernel_rfl) (pop_idxraw (j := (A1 ++ [y]).length - 1) ty26 ty32 rfl rfl (by omega) (by omega)) ?_
          refine ahl 9 rfl rfl (by kernel_rfl) (by kernel_rfl) (by simp) rfl (fun M hM => by subst hM; exact eop_load_elw (i := 0) (j := (A1 ++ [y]).length - 1) ty32 rfl rfl rfl ((get_before hA0).trans (by rw [getD_snoc])) rfl rfl rfl ⟨rfl, rfl⟩) ?_
          refine ahp 10 rfl rfl (by kernel_rfl) (by kernel_rfl) (pop_move rfl) ?_
          refine ahp 11 rfl rfl (by kernel_rfl) (by kernel_rfl) (pop_move rfl) ?_
          refine ahp 12 rfl rfl (by kernel_rfl) (by kernel_rfl) (pop_idxraw (j := (A1 ++ [y]).length) ty26 ty32 rfl rfl rfl (by omega)) ?_
          refine ahl 13 rfl rfl (by kernel_rfl) (by kernel_rfl) (by simp) rfl (fun M hM => by subst hM; exact eop_load_elw (i := 0) (j := (A1 ++ [y]).length) ty32 rfl rfl rfl get_mid rfl rfl rfl ⟨rfl, rfl⟩) ?_
          refine ahp 14 rfl rfl (by kernel_rfl) (by kernel_rfl) (pop_idxraw (j := (A1 ++ [y]).length) ty26 ty32 rfl rfl rfl (by omega)) ?_
          refine ahe 15 rfl (by kernel_rfl) ?_
          refine hop_e0 (eop_store_elw (i := 0) (j := (A1 ++ [y]).length) (y := x) (y' := y) ty32 rfl rfl rfl rfl get_mid rfl rfl rfl ?_)
          refine ⟨fun _ => .inr (by simp [Before, Region.binds]), ?_⟩
          refine ahp 16 rfl rfl (by kernel_rfl) (by kernel_rfl) (pop_idxraw (j := (A1 ++ [y]).length - 1) ty26 ty32 rfl rfl (by omega) (by omega)) ?_
          refine ahe 17 rfl (by kernel_rfl) ?_
          refine hop_e0 (eop_store_elw (i := 0) (j := (A1 ++ [y]).length - 1) (y := y) (y' := x) ty32 rfl rfl rfl rfl (by rw [List.getElem?_set_ne (by simp)]; exact (get_before hA0).trans (by rw [getD_snoc])) rfl rfl rfl ?_)
          refine ⟨fun _ => .inr (by simp [Before, Region.binds]), ?_⟩
          refine ahz (by kernel_rfl) ?_
          refine blockQ_n ?_
          refine seqQ_n ?_
          refine hw_reg1 ?_
          refine dp rfl (pop_move rfl) ?_
          refine dp rfl (pop_sub64 rfl rfl (by omega) (by omega)) ?_
          refine dp rfl (pop_assign rfl) ?_
          refine dn ?_
          exact ⟨A1, y :: B, ⟨by simp at hA ⊢; omega, ins_step hB hcx⟩, by dsimp only; simp, ⟨some_int (by simp), trivial⟩, (by repeat (first | exact keeps_refl | refine keeps_upd rfl ?_ | refine keeps_loop rfl rfl ?_)), perm_eq (by rw [swap_mid]; rfl)⟩
        · try simp at h4
          have hins := ins_exit (l := l) (k := k) hx hB (by intro h0; have := h4 h0; omega)
          refine hw_exit ?_
          refine seqQ_x ?_
          refine loopQ2_x ?_
          refine blockQ_eq ?_
          refine blockQ_n ?_
          refine seqQ_n ?_
          refine hw_reg1 ?_
          refine dp rfl (pop_move rfl) ?_
          refine dp rfl (pop_add64 rfl rfl (by omega) (by omega)) ?_
          refine dp rfl (pop_assign rfl) ?_
          refine dn ?_
          refine ⟨k + 1, ?_, ?_, ⟨rfl, trivial⟩, (by repeat (first | exact keeps_refl | refine keeps_upd rfl ?_ | refine keeps_loop rfl rfl ?_)), perm_eq (by rw [hins])⟩
          · omega
          · dsimp only; omega
    · try simp at h2
      have hend : isort c (l.take k) ++ l.drop k = isort c l := by rw [List.take_of_length_le (by omega), drop_all (by omega)]; simp
      refine hw_exit ?_
      refine seqQ_x ?_
      refine loopQ_x ?_
      refine blockQ_eq ?_
      exact ⟨_, _, Ghost.sub (Sub.refl _), _, _, rfl, Weak.refl _, rfl, by rw [hend]⟩

/-- slices.pdqsortCmpFunc[benchwarmer/api.Asset] -/
theorem c_slices_pdqsortCmpFunc_api_Asset {l : List Asset} {v : Value} {fid : FuncId} {caps : List HVal} {c : Asset → Asset → Int} {lim : Int} (hca : Callable Tryz.prog fid) (hp : ∀ x y, ConP Tryz.prog fid ([eAsset x, eAsset y] ++ caps) (.int .i64 (c x y))) (hl : l.length ≤ 12) : Con Tryz.prog 74 [.raw v, .int .i64 0, .int .i64 (l.length : Int), .int .i64 lim, .fn (.func fid) [] caps] [.arr v 3 (l.map eAsset)] (fun x M' => x = .tup [] ∧ M' = [.arr v 3 ((isort c l).map eAsset)]) := by
  refine Con.of_body Tryz.func74 rfl Tryz.ntmps74 rfl rfl ?_
  refine hw_reg ?_
  refine dp rfl (pop_assign rfl) ?_
  refine dn ?_
  refine hw_reg ?_
  refine dp rfl (pop_assign rfl) ?_
  refine dn ?_
  refine hw_block ?_
  refine hw_loopw (1 :: 2 :: 3 :: 10 :: 11 :: 12 :: 13 :: 14 :: 15 :: 16 :: 17 :: 18 :: 19 :: 20 :: 21 :: 22 :: 23 :: 24 :: 25 :: 26 :: 27 :: 28 :: 29 :: 30 :: 31 :: 32 :: 33 :: 34 :: 35 :: 36 :: 37 :: 38 :: 39 :: 40 :: 41 :: 42 :: 43 :: 44 :: 45 :: 46 :: 47 :: 48 :: 49 :: 50 :: 51 :: 52 :: 53 :: 54 :: 55 :: 56 :: 57 :: 58 :: 59 :: 60 :: 61 :: 62 :: 63 :: 64 :: 65 :: 66 :: 67 :: 68 :: 69 :: 70 :: 71 :: 72 :: 73 :: 74 :: 75 :: 76 :: 77 :: 78 :: 79 :: 80 :: 81 :: 82 :: 83 :: 84 :: 85 :: 86 :: 87 :: 88 :: 89 :: 90 :: 91 :: 92 :: 93 :: 94 :: 95 :: 96 :: 97 :: 98 :: 99 :: 100 :: 101 :: 102 :: 103 :: 104 :: 105 :: 106 :: 107 :: 108 :: 109 :: 110 :: 111 :: 112 :: 113 :: 114 :: 115 :: 116 :: 117 :: 118 :: 119 :: 120 :: 121 :: 122 :: 123 :: 124 :: 125 :: 126 :: 127 :: 128 :: 129 :: 130 :: 131 :: 132 :: 133 :: 134 :: 135 :: 136 :: 137 :: 138 :: 139 :: 140 :: 141 :: 142 :: 143 :: 144 :: 145 :: 146 :: 147 :: []) (fun (u : Unit) => [(1, .int .i64 0), (2, .int .i64 (l.length : Int))]) (fun (u : Unit) => [.arr v 3 (l.map eAsset)]) (fun (u : Unit) => True) (fun (u : Unit) => 0) (()) ?_ ?_ ?_ ?_
  · trivial
  · exact ⟨rfl, rfl, trivial⟩
  · exact List.Perm.refl _
  · intro u hu
    refine hw_block ?_
    refine hw_reg ?_
    refine dp rfl (pop_move rfl) ?_
    refine dp rfl (pop_move rfl) ?_
    refine dp rfl (pop_sub64 rfl rfl (by omega) (by omega)) ?_
    refine dp rfl (pop_assign rfl) ?_
    refine dn ?_
    refine hw_seq ?_
    refine hw_reg ?_
    refine dp rfl (pop_move rfl) ?_
    refine dp rfl (pop_leq rfl rfl) ?_
    refine dn ?_
    refine hw_cond rfl (fun h1 => ?_) (fun h1 => ?_)
    · try simp at h1
      refine hw_reg ?_
      refine dp rfl (pop_move rfl) ?_
      refine dp rfl (pop_move rfl) ?_
      refine dp rfl (pop_move rfl) ?_
      refine dp rfl (pop_move rfl) ?_
      refine de rfl (eop_callx (i := 0) ca98 rfl (WeakL.refl _) rfl (c_slices_insertionSortCmpFunc_api_Asset (l := l) hca hp (by omega) (by omega)) ?_)
      rintro _ _ ⟨rfl, rfl⟩
      refine dn ?_
      refine hw_ret ?_
      exact ret_q rfl ⟨rfl, rfl⟩
    · exfalso
      try simp at h1
      omega

/-- slices.SortFunc[[]benchwarmer/api.Asset,benchwarmer/api.Asset] -/
theorem c_slices_SortFunc_api_Asset_api_Asset {l : List Asset} {v : Value} {fid : FuncId} {caps : List HVal} {c : Asset → Asset → Int} (hca : Callable Tryz.prog fid) (hp : ∀ x y, ConP Tryz.prog fid ([eAsset x, eAsset y] ++ caps) (.int .i64 (c x y))) (hl : l.length ≤ 12) : Con Tryz.prog 52 [.raw v, .fn (.func fid) [] caps] [.arr v 3 (l.map eAsset)] (fun x M' => x = .tup [] ∧ M' = [.arr v 3 ((isort c l).map eAsset)]) := by
  refine Con.of_body Tryz.func52 rfl Tryz.ntmps52 rfl rfl ?_
  refine hw_reg ?_
  refine dp rfl (pop_move rfl) ?_
  first
  | refine de rfl (eop_lenm (i := 0) ty26 rfl rfl ?_)
  | refine de rfl (eop_lenm (i := 1) ty26 rfl rfl ?_)
  | refine de rfl (eop_lenm (i := 2) ty26 rfl rfl ?_)
  | refine de rfl (eop_lenm (i := 3) ty26 rfl rfl ?_)
  refine dp rfl (pop_assign rfl) ?_
  refine dn ?_
  refine hw_reg1 ?_
  refine dp rfl (pop_move rfl) ?_
  refine dp rfl (pop_move rfl) ?_
  refine dp rfl (pop_move rfl) ?_
  refine dp rfl (pop_eq (pop_conv ty3 ty83 rfl) (congrArg _ (wrapu64 (by omega)))) ?_
  refine de rfl (eop_callf (M1 := []) (R := [_]) ca60 rfl (WeakL.refl _) (List.Perm.refl _) (c_bits_Len_s (x := l.length) (by omega)) ?_)
  rintro _ _ ⟨n11, rfl, rfl⟩
  refine dp rfl (pop_move rfl) ?_
  first
  | refine de rfl (eop_callx (i := 0) ca74 rfl (WeakL.refl _) rfl (c_slices_pdqsortCmpFunc_api_Asset hca hp hl) ?_)
  | refine de rfl (eop_callx (i := 1) ca74 rfl (WeakL.refl _) rfl (c_slices_pdqsortCmpFunc_api_Asset hca hp hl) ?_)
  | refine de rfl (eop_callx (i := 2) ca74 rfl (WeakL.refl _) rfl (c_slices_pdqsortCmpFunc_api_Asset hca hp hl) ?_)
  | refine de rfl (eop_callx (i := 3) ca74 rfl (WeakL.refl _) rfl (c_slices_pdqsortCmpFunc_api_Asset hca hp hl) ?_)
  rintro _ _ ⟨rfl, rfl⟩
  refine dn ?_
  exact ⟨_, _, Ghost.sub (Sub.refl _), _, _, rfl, Weak.refl _, rfl, rfl⟩

/-- slices.stableCmpFunc[benchwarmer/api.Asset] -/
theorem c_slices_stableCmpFunc_api_Asset {l : List Asset} {v : Value} {fid : FuncId} {caps : List HVal} {c : Asset → Asset → Int} (hca : Callable Tryz.prog fid) (hp : ∀ x y, ConP Tryz.prog fid ([eAsset x, eAsset y] ++ caps) (.int .i64 (c x y))) (hl : l.length < 20) : Con Tryz.prog 76 [.raw v, .int .i64 (l.length : Int), .fn (.func fid) [] caps] [.arr v 3 (l.map eAsset)] (fun x M' => x = .tup [] ∧ M' = [.arr v 3 ((isort c l).map eAsset)]) := by
  refine Con.of_body Tryz.func76 rfl Tryz.ntmps76 rfl rfl ?_
  refine hw_reg ?_
  refine dp rfl (pop_assign rfl) ?_
  refine dn ?_
  refine hw_reg ?_
  refine dp rfl (pop_move rfl) ?_
  refine dp rfl (pop_assign rfl) ?_
  refine dp rfl (pop_assign rfl) ?_
  refine dn ?_
  refine hw_seq ?_
  refine hw_block ?_
  refine hw_loopw [7, 8, 11, 12, 13, 14, 15, 16, 17, 18, 19, 20, 21, 22] (fun (u : Unit) => [(7, .int .i64 0), (8, .int .i64 20)]) (fun (u : Unit) => [.arr v 3 (l.map eAsset)]) (fun (u : Unit) => True) (fun (u : Unit) => 0) (()) ?_ ?_ ?_ ?_
  · trivial
  · exact ⟨rfl, rfl, trivial⟩
  · exact List.Perm.refl _
  · intro u hu
    refine hw_seq ?_
    refine hw_reg ?_
    refine dp rfl (pop_move rfl) ?_
    refine dp rfl (pop_move rfl) ?_
    refine dp rfl (pop_leq rfl rfl) ?_
    refine dn ?_
    refine hw_cond rfl (fun h1 => ?_) (fun h1 => ?_)
    · exfalso
      try simp at h1
      omega
    · try simp at h1
      refine hw_exit ?_
      refine seqQ_x ?_
      refine loopQ_x ?_
      refine blockQ_eq ?_
      refine seqQ_n ?_
      refine hw_reg ?_
      refine dp rfl (pop_move rfl) ?_
      refine dp rfl (pop_move rfl) ?_
      refine dp rfl (pop_move rfl) ?_
      refine dp rfl (pop_move rfl) ?_
      refine de rfl (eop_callx (i := 0) ca98 rfl (WeakL.refl _) rfl (c_slices_insertionSortCmpFunc_api_Asset (l := l) hca hp (by omega) (by omega)) ?_)
      rintro _ _ ⟨rfl, rfl⟩
      refine dn ?_
      refine hw_block ?_
      refine hw_loopw [6, 7, 8, 9, 28, 29, 30, 31, 32, 33, 34, 35, 36, 37, 38, 39, 40, 41, 42, 43, 44, 45, 46, 47, 48, 49, 50, 51, 52, 53, 54, 55, 56, 57, 58, 59, 60, 61, 62] (fun (u : Unit) => [(6, .int .i64 20)]) (fun (u : Unit) => [.arr v 3 ((isort c l).map eAsset)]) (fun (u : Unit) => True) (fun (u : Unit) => 0) (()) ?_ ?_ ?_ ?_
      · trivial
      · exact ⟨rfl, trivial⟩
      · exact List.Perm.refl _
      · intro u hu
        refine hw_seq ?_
        refine hw_reg ?_
        refine dp rfl (pop_move rfl) ?_
        refine dp rfl (pop_move rfl) ?_
        refine dp rfl (pop_lss rfl rfl) ?_
        refine dn ?_
        refine hw_cond rfl (fun h2 => ?_) (fun h2 => ?_)
        · exfalso
          try simp at h2
          omega
        · try simp at h2
          refine hw_exit ?_
          refine seqQ_x ?_
          refine loopQ_x ?_
          refine blockQ_eq ?_
          exact ⟨_, _, Ghost.sub (Sub.refl _), _, _, rfl, Weak.refl _, rfl, rfl⟩

/-- slices.SortStableFunc[[]benchwarmer/api.Asset,benchwarmer/api.Asset] -/
theorem c_slices_SortStableFunc_api_Asset_api_Asset {l : List Asset} {v : Value} {fid : FuncId} {caps : List HVal} {c : Asset → Asset → Int} (hca : Callable Tryz.prog fid) (hp : ∀ x y, ConP Tryz.prog fid ([eAsset x, eAsset y] ++ caps) (.int .i64 (c x y))) (hl : l.length < 20) : Con Tryz.prog 57 [.raw v, .fn (.func fid) [] caps] [.arr v 3 (l.map eAsset)] (fun x M' => x = .tup [] ∧ M' = [.arr v 3 ((isort c l).map eAsset)]) := by
  refine Con.of_body Tryz.func57 rfl Tryz.ntmps57 rfl rfl ?_
  refine hw_reg1 ?_
  refine dp rfl (pop_move rfl) ?_
  refine dp rfl (pop_move rfl) ?_
  first
  | refine de rfl (eop_lenm (i := 0) ty26 rfl rfl ?_)
  | refine de rfl (eop_lenm (i := 1) ty26 rfl rfl ?_)
  | refine de rfl (eop_lenm (i := 2) ty26 rfl rfl ?_)
  | refine de rfl (eop_lenm (i := 3) ty26 rfl rfl ?_)
  refine dp rfl (pop_move rfl) ?_
  first
  | refine de rfl (eop_callx (i := 0) ca76 rfl (WeakL.refl _) rfl (c_slices_stableCmpFunc_api_Asset hca hp hl) ?_)
  | refine de rfl (eop_callx (i := 1) ca76 rfl (WeakL.refl _) rfl (c_slices_stableCmpFunc_api_Asset hca hp hl) ?_)
  | refine de rfl (eop_callx (i := 2) ca76 rfl (WeakL.refl _) rfl (c_slices_stableCmpFunc_api_Asset hca hp hl) ?_)
  | refine de rfl (eop_callx (i := 3) ca76 rfl (WeakL.refl _) rfl (c_slices_stableCmpFunc_api_Asset hca hp hl) ?_)
  rintro _ _ ⟨rfl, rfl⟩
  refine dn ?_
  exact ⟨_, _, Ghost.sub (Sub.refl _), _, _, rfl, Weak.refl _, rfl, rfl⟩

/-- slices.IndexFunc[[]benchwarmer/api.Asset,benchwarmer/api.Asset] -/
theorem c_slices_IndexFunc_api_Asset_api_Asset {l : List Asset} {fid : FuncId} {caps : List HVal} {p : Asset → Bool} (hca : Callable Tryz.prog fid) (hp : ∀ x, ConP Tryz.prog fid ([eAsset x] ++ caps) (.bool (p x))) (hl : l.length ≤ 1000000) : ConP Tryz.prog 51 [.slice 3 (l.map eAsset), .fn (.func fid) [] caps] (.int .i64 (idxF p l 0)) := by
  refine Con.of_body Tryz.func51 rfl Tryz.ntmps51 rfl rfl ?_
  refine hw_reg ?_
  refine dp rfl (pop_assign rfl) ?_
  refine dn ?_
  refine hw_seq ?_
  refine hw_reg ?_
  refine dp rfl (pop_move rfl) ?_
  refine dp rfl (pop_lenm ty26 rfl) ?_
  refine dp rfl (pop_move rfl) ?_
  refine dn ?_
  refine hw_block ?_
  refine hw_loopw [4, 5, 8, 9, 10, 11, 12, 13, 14, 15, 16, 17, 18] (fun (k : Nat) => [(8, .int .i64 k)]) (fun (k : Nat) => []) (fun (k : Nat) => k ≤ l.length ∧ (idxF p l 0 = idxF p (l.drop k) k)) (fun (k : Nat) => l.length - k) (0) ?_ ?_ ?_ ?_
  · exact ⟨Nat.zero_le _, rfl⟩
  · exact ⟨rfl, trivial⟩
  · exact List.Perm.refl _
  · intro k hinv
    obtain ⟨hk, hg⟩ := hinv
    refine hw_reg ?_
    refine dp rfl (pop_lss rfl rfl) ?_
    refine dn ?_
    refine hw_seq ?_
    refine hw_cond rfl (fun h1 => ?_) (fun h2 => ?_)
    · try simp at h1
      obtain ⟨x, hx⟩ : ∃ x, l[k]? = some x := ⟨_, List.getElem?_eq_getElem h1⟩
      have hdx := drop_cons hx
      rw [hdx] at hg
      refine hw_skip ?_
      refine seqQ_n ?_
      refine hw_seq ?_
      refine hw_block ?_
      refine hw_reg ?_
      refine dp rfl (pop_move rfl) ?_
      refine dp rfl (pop_assign rfl) ?_
      refine dn ?_
      refine hw_reg ?_
      refine dp rfl (pop_move rfl) ?_
      refine dp rfl (pop_move rfl) ?_
      refine dp rfl (pop_move rfl) ?_
      refine dp rfl (pop_idx ty26 ty32 rfl rfl rfl (by first | assumption | simp_all)) ?_
      refine dp rfl (pop_loadw ty32 rfl rfl rfl rfl) ?_
      refine dp rfl (pop_callv hca rfl rfl (WeakL.refl _) (hp _)) ?_
      refine dn ?_
      refine hw_cond rfl (fun h3 => ?_) (fun h4 => ?_)
      · try simp at h3
        refine hw_reg ?_
        refine dp rfl (pop_move rfl) ?_
        refine dp rfl (pop_assign rfl) ?_
        refine dn ?_
        refine hw_ret ?_
        refine ret_p rfl ?_
        show HVal.int .i64 _ = _
        first | (rw [hg]; rfl) | (rw [hg]; simp_all [idxF])
      · try simp at h4
        refine hw_skip ?_
        refine blockQ_n ?_
        refine seqQ_n ?_
        refine hw_reg1 ?_
        refine dp rfl (pop_add64 rfl rfl (by omega) (by omega)) ?_
        refine dp rfl (pop_move rfl) ?_
        refine dn ?_
        refine ⟨k + 1, ?_, ?_, ⟨rfl, trivial⟩, (by repeat (first | exact keeps_refl | refine keeps_upd rfl ?_ | refine keeps_loop rfl rfl ?_)), List.Perm.refl _⟩
        · refine ⟨by omega, ?_⟩
          rw [hg, idxF, if_neg (by simp_all)]; rfl
        · dsimp only; omega
    · try simp at h2
      have hnk : l.length ≤ k := by omega
      obtain rfl : k = l.length := by omega
      rw [drop_all (Nat.le_refl _)] at hg
      refine hw_exit ?_
      refine seqQ_x ?_
      refine loopQ_x ?_
      refine blockQ_eq ?_
      refine seqQ_n ?_
      refine hw_reg ?_
      refine dp rfl (pop_assign rfl) ?_
      refine dn ?_
      refine hw_ret ?_
      refine ret_p rfl ?_
      show HVal.int .i64 _ = _
      first | (rw [hg]; rfl) | (rw [hg]; simp_all [idxF])

/-- slices.ContainsFunc[[]benchwarmer/api.Asset,benchwarmer/api.Asset] -/
theorem c_slices_ContainsFunc_api_Asset_api_Asset {l : List Asset} {fid : FuncId} {caps : List HVal} {p : Asset → Bool} (hca : Callable Tryz.prog fid) (hp : ∀ x, ConP Tryz.prog fid ([eAsset x] ++ caps) (.bool (p x))) (hl : l.length ≤ 1000000) : ConP Tryz.prog 35 [.slice 3 (l.map eAsset), .fn (.func fid) [] caps] (.bool (l.any p)) := by
  refine Con.of_body Tryz.func35 rfl Tryz.ntmps35 rfl rfl ?_
  refine hw_reg ?_
  refine dp rfl (pop_assign rfl) ?_
  refine dn ?_
  refine hw_reg ?_
  refine dp rfl (pop_move rfl) ?_
  refine dp rfl (pop_move rfl) ?_
  refine dp rfl (pop_call ca51 rfl (WeakL.refl _) (c_slices_IndexFunc_api_Asset_api_Asset hca hp hl)) ?_
  refine dp rfl (pop_geq rfl rfl) ?_
  refine dp rfl (pop_assign rfl) ?_
  refine dn ?_
  refine hw_ret ?_
  refine ret_p rfl ?_
  congr 1; exact idxF_nonneg p l 0 (by omega)

/-- slices.Clone[[]benchwarmer/api.Asset,benchwarmer/api.Asset] -/
theorem c_slices_Clone_api_Asset_api_Asset {l : List Asset} (hl : l.length ≤ 1000000) : ConA Tryz.prog 33 [.slice 3 (l.map eAsset)] 3 (l.map eAsset) := by
  refine Con.of_body Tryz.func33 rfl Tryz.ntmps33 rfl rfl ?_
  refine hw_reg ?_
  refine dp rfl (pop_assign rfl) ?_
  refine dn ?_
  refine hw_seq ?_
  refine hw_reg ?_
  refine dp rfl (pop_move rfl) ?_
  refine de rfl (eop_eqnil ty26 rfl rfl fun b4 hb4 => ?_)
  refine dn ?_
  refine hw_cond rfl (fun h1 => ?_) (fun h2 => ?_)
  · try simp at h1
    refine hw_reg ?_
    refine dp rfl (pop_assign rfl) ?_
    refine dn ?_
    refine hw_ret ?_
    first | exact ret_a rfl rfl | exact ret_g (Ghost.arr_nil 3) rfl ⟨_, rfl, by simp_all⟩
  · try simp at h2
    refine hw_skip ?_
    refine seqQ_n ?_
    refine hw_reg ?_
    refine de rfl (eop_mk0 ty26 ty32 fun v5 => ?_)
    refine dp rfl (pop_move rfl) ?_
    refine de rfl (eop_append (i := 0) ty26 ty32 rfl rfl rfl rfl rfl (by simp [flat, hcells]) (by first | omega | (simp; omega)) fun v7 => ?_)
    refine dp rfl (pop_assign rfl) ?_
    refine dn ?_
    refine hw_ret ?_
    first | exact ret_a rfl rfl | exact ret_g (Ghost.arr_nil 3) rfl ⟨_, rfl, by simp_all⟩

/-- slices.DeleteFunc[[]benchwarmer/api.Asset,benchwarmer/api.Asset] -/
theorem c_slices_DeleteFunc_api_Asset_api_Asset {l : List Asset} {fid : FuncId} {caps : List HVal} {p : Asset → Bool} {v : Value} (hca : Callable Tryz.prog fid) (hp : ∀ x, ConP Tryz.prog fid ([eAsset x] ++ caps) (.bool (p x))) (hl : l.length ≤ 1000000) : Con Tryz.prog 55 [.raw v, .fn (.func fid) [] caps] [.arr v 3 (l.map eAsset)] (fun x M' => ∃ u, x = .raw u ∧ M' = [.arr u 3 ((l.filter (fun x => !p x)).map eAsset)]) := by
  refine Con.of_body Tryz.func55 rfl Tryz.ntmps55 rfl rfl ?_
  refine hw_reg ?_
  refine dp rfl (pop_assign rfl) ?_
  refine dn ?_
  refine hw_reg ?_
  refine dp rfl (pop_move rfl) ?_
  refine dp rfl (pop_move rfl) ?_
  refine de rfl (eop_callb (hs' := [.slice 3 (l.map eAsset), .fn (.func fid) [] caps]) ca51 rfl ⟨.arr (i := 0) rfl, .weak (Weak.refl _), trivial⟩ (c_slices_IndexFunc_api_Asset_api_Asset (p := p) hca hp hl) rfl ?_)
  refine dp rfl (pop_assign rfl) ?_
  refine dn ?_
  refine hw_seq ?_
  refine hw_reg ?_
  refine dp rfl (pop_move rfl) ?_
  refine dp rfl (pop_eql rfl rfl) ?_
  refine dn ?_
  refine hw_cond rfl (fun h1 => ?_) (fun h2 => ?_)
  · try simp at h1
    refine hw_reg ?_
    refine dp rfl (pop_move rfl) ?_
    refine dp rfl (pop_assign rfl) ?_
    refine dn ?_
    refine hw_ret ?_
    first
    | (refine ret_q rfl ⟨_, rfl, ?_⟩
       rw [idxF_none p l 0 (by omega) h1]
       done)
    | (refine ret_q rfl ⟨_, rfl, ?_⟩
       rw [List.take_length, ← List.map_take, hend]; rfl)
  · try simp at h2
    refine hw_skip ?_
    refine seqQ_n ?_
    refine hw_seq ?_
    obtain ⟨i0, hi0, hil, ⟨x0, hx0, hp0⟩, hb0⟩ := idxF_found p l 0 (by omega) h2
    rw [Int.zero_add] at hi0
    obtain ⟨hD0, hn0⟩ := DelInv.start (p := p) hil hx0 hp0 hb0
    refine hw_arrc (i := 0) rfl (fun h0 he => ?_) (fun b off cap hv hcap => ?_)
    · exfalso; have := congrArg List.length he; simp at this; subst this; simp at hil
    rw [List.length_map] at hv hcap
    subst hv
    refine hw_reg ?_
    refine dp rfl (pop_move rfl) ?_
    refine dp rfl (pop_eq (pop_add64 rfl rfl (by rw [hi0]; omega) (by rw [hi0]; omega)) (congrArg _ (by rw [hi0]))) ?_
    refine dp rfl (pop_assign rfl) ?_
    refine dn ?_
    refine hw_block ?_
    refine hw_loopw2 [5, 6, 7, 16, 17, 18, 19, 20, 21, 22, 23, 24, 25, 26, 27, 28, 29, 30, 31, 32, 33, 34, 35] (fun (j : Nat) (D : List Asset) => [(6, .int .i64 (j : Int)), (5, .int .i64 (((l.take j).filter (fun x => !p x)).length : Int))]) (fun (j : Nat) (D : List Asset) => [.arr (.slice (some ⟨b, off, none⟩) l.length cap) 3 (D.map eAsset)]) (fun (j : Nat) (D : List Asset) => DelInv p l j D) (fun (j : Nat) (D : List Asset) => l.length - j) (i0 + 1) (l) ?_ ?_ ?_ ?_
    · exact hD0
    · exact ⟨rfl, some_int (by rw [hn0, hi0]), trivial⟩
    · exact List.Perm.refl _
    · intro j D hD
      have hlt0 := hD.lt
      have hle0 := hD.len
      refine hw_seq ?_
      refine hw_reg ?_
      refine dp rfl (pop_move rfl) ?_
      refine dp rfl (pop_move rfl) ?_
      first
      | refine de rfl (eop_lenm (i := 0) ty26 rfl rfl ?_)
      | refine de rfl (eop_lenm (i := 1) ty26 rfl rfl ?_)
      | refine de rfl (eop_lenm (i := 2) ty26 rfl rfl ?_)
      | refine de rfl (eop_lenm (i := 3) ty26 rfl rfl ?_)
      refine dp rfl (pop_lss rfl rfl) ?_
      refine dn ?_
      refine hw_cond rfl (fun h3 => ?_) (fun h4 => ?_)
      · try simp at h3
        obtain ⟨x, hx⟩ : ∃ x, l[j]? = some x := ⟨_, List.getElem?_eq_getElem (by omega)⟩
        refine hw_skip ?_
        refine seqQ_n ?_
        refine hw_seq ?_
        refine hw_block ?_
        refine hw_reg ?_
        refine dp rfl (pop_move rfl) ?_
        refine dp rfl (pop_move rfl) ?_
        refine dp rfl (pop_idxraw (j := j) ty26 ty32 rfl rfl rfl (by omega)) ?_
        refine de rfl (eop_load_elw (i := 0) (j := j) ty32 rfl rfl rfl (hD.get hx) rfl rfl rfl ?_)
        refine de rfl (eop_alloc ty32 rfl fun b7 => ?_)
        refine de0 (eop_storew ty32 rfl rfl rfl rfl rfl ?_)
        refine dn ?_
        refine hw_ghost (Ghost.fc0 7 rfl) ?_
        refine hw_reg ?_
        refine dp rfl (pop_move rfl) ?_
        refine dp rfl (pop_loadw ty32 rfl rfl rfl rfl) ?_
        refine dp rfl (pop_callv hca rfl rfl (WeakL.refl _) (hp _)) ?_
        refine dp rfl (pop_not rfl) ?_
        refine dn ?_
        refine hw_cond rfl (fun h5 => ?_) (fun h6 => ?_)
        · try simp at h5
          refine hw_reg ?_
          refine dp rfl (pop_move rfl) ?_
          refine dp rfl (pop_move rfl) ?_
          refine dp rfl (pop_loadw ty32 rfl rfl rfl rfl) ?_
          refine dp rfl (pop_idxraw (j := ((l.take j).filter (fun x => !p x)).length) ty26 ty32 rfl rfl rfl (by have := hD.lt; omega)) ?_
          refine de0 (eop_store_elw (i := 0) (j := ((l.take j).filter (fun x => !p x)).length) (y := D[((l.take j).filter (fun x => !p x)).length]'(by have := hD.lt; have := hD.len; omega)) (y' := x) ty32 rfl rfl rfl rfl (List.getElem?_eq_getElem _) rfl rfl rfl ?_)
          refine dn ?_
          refine hw_reg1 ?_
          refine dp rfl (pop_move rfl) ?_
          refine dp rfl (pop_add64 rfl rfl (by omega) (by have := hD.lt; omega)) ?_
          refine dp rfl (pop_assign rfl) ?_
          refine dn ?_
          refine blockQ_n ?_
          refine seqQ_n ?_
          refine hw_reg1 ?_
          refine dp rfl (pop_move rfl) ?_
          refine dp rfl (pop_add64 rfl rfl (by omega) (by omega)) ?_
          refine dp rfl (pop_assign rfl) ?_
          refine dn ?_
          first
          | exact ⟨j + 1, _, (hD.keep hx (by simp_all)).1, by dsimp only; omega, ⟨rfl, some_int (by rw [(hD.keep hx (by simp_all)).2]; rfl), trivial⟩, (by repeat (first | exact keeps_refl | refine keeps_upd rfl ?_ | refine keeps_loop rfl rfl ?_)), List.Perm.refl _⟩
          | exact ⟨j + 1, _, (hD.skip hx (by simp_all)).1, by dsimp only; omega, ⟨rfl, some_int (by rw [(hD.skip hx (by simp_all)).2]), trivial⟩, (by repeat (first | exact keeps_refl | refine keeps_upd rfl ?_ | refine keeps_loop rfl rfl ?_)), List.Perm.refl _⟩
        · try simp at h6
          refine hw_skip ?_
          refine blockQ_n ?_
          refine seqQ_n ?_
          refine hw_reg1 ?_
          refine dp rfl (pop_move rfl) ?_
          refine dp rfl (pop_add64 rfl rfl (by omega) (by omega)) ?_
          refine dp rfl (pop_assign rfl) ?_
          refine dn ?_
          first
          | exact ⟨j + 1, _, (hD.keep hx (by simp_all)).1, by dsimp only; omega, ⟨rfl, some_int (by rw [(hD.keep hx (by simp_all)).2]; rfl), trivial⟩, (by repeat (first | exact keeps_refl | refine keeps_upd rfl ?_ | refine keeps_loop rfl rfl ?_)), List.Perm.refl _⟩
          | exact ⟨j + 1, _, (hD.skip hx (by simp_all)).1, by dsimp only; omega, ⟨rfl, some_int (by rw [(hD.skip hx (by simp_all)).2]), trivial⟩, (by repeat (first | exact keeps_refl | refine keeps_upd rfl ?_ | refine keeps_loop rfl rfl ?_)), List.Perm.refl _⟩
      · try simp at h4
        obtain rfl : j = l.length := by have := hD.jle; omega
        have hend := hD.done
        refine hw_exit ?_
        refine seqQ_x ?_
        refine loopQ2_x ?_
        refine blockQ_eq ?_
        refine seqQ_n ?_
        refine hw_reg ?_
        refine dp rfl (pop_move rfl) ?_
        refine dp rfl (pop_move rfl) ?_
        refine dp rfl (pop_slraw (l := ((l.take l.length).filter (fun x => !p x)).length) ty26 ty32 rfl ⟨_, _, rfl, rfl⟩ rfl (by omega) (by omega) hcap) ?_
        refine de0 (eop_clear_at (i := 0) (m := ((l.take l.length).filter (fun x => !p x)).length) (((l.take l.length).filter (fun x => !p x)).length) ty26 ty32 rfl rfl rfl (slOff_or (by omega) hcap) rfl (by omega) (Nat.le_refl _) (by rw [List.length_map, hD.len]; omega) ?_)
        refine dn ?_
        refine hw_reg ?_
        refine dp rfl (pop_move rfl) ?_
        refine dp rfl (pop_move rfl) ?_
        refine dp rfl (pop_slraw0 (h := ((l.take l.length).filter (fun x => !p x)).length) ty26 ty32 rfl ⟨_, _, rfl, rfl⟩ (by omega)) ?_
        refine dp rfl (pop_assign rfl) ?_
        refine dn ?_
        refine hw_ret ?_
        first
        | (refine ret_q rfl ⟨_, rfl, ?_⟩
           rw [idxF_none p l 0 (by omega) h1]
           done)
        | (refine ret_q rfl ⟨_, rfl, ?_⟩
           rw [List.take_length, ← List.map_take, hend]; rfl)

/-- slices.Delete[[]benchwarmer/api.Asset,benchwarmer/api.Asset] -/
theorem c_slices_Delete_api_Asset_api_Asset {l : List Asset} {v : Value} {k : Nat} (hk : k < l.length) (hl : l.length ≤ 1000000) : Con Tryz.prog 34 [.raw v, .int .i64 (k : Int), .int .i64 ((k : Int) + 1)] [.arr v 3 (l.map eAsset)] (fun x M' => ∃ u, x = .raw u ∧ M' = [.arr u 3 ((l.eraseIdx k).map eAsset)]) := by
  refine Con.of_body Tryz.func34 rfl Tryz.ntmps34 rfl rfl ?_
  refine hw_reg ?_
  refine dp rfl (pop_assign rfl) ?_
  refine dn ?_
  refine hw_arrc (i := 0) rfl (fun h0 he => ?_) (fun b off cap hv hcap => ?_)
  · exfalso; have := congrArg List.length he; simp at this; subst this; simp at hk
  rw [List.length_map] at hv hcap
  subst hv
  refine hw_reg ?_
  refine dp rfl (pop_move rfl) ?_
  refine dp rfl (pop_move rfl) ?_
  refine dp rfl (pop_move rfl) ?_
  refine dp rfl (pop_move rfl) ?_
  first
  | refine de rfl (eop_lenm (i := 0) ty26 rfl rfl ?_)
  | refine de rfl (eop_lenm (i := 1) ty26 rfl rfl ?_)
  | refine de rfl (eop_lenm (i := 2) ty26 rfl rfl ?_)
  | refine de rfl (eop_lenm (i := 3) ty26 rfl rfl ?_)
  refine dp rfl (pop_sl3 (l := k) (h := k + 1) (m := l.length) ty26 ty32 rfl rfl rfl rfl (by omega) (by omega) hcap) ?_
  refine dn ?_
  refine hw_seq ?_
  refine hw_reg ?_
  refine dp rfl (pop_move rfl) ?_
  refine dp rfl (pop_move rfl) ?_
  refine dp rfl (pop_eql rfl rfl) ?_
  refine dn ?_
  refine hw_cond rfl (fun h1 => ?_) (fun h1 => ?_)
  · exfalso
    try simp at h1
    omega
  · try simp at h1
    refine hw_skip ?_
    refine seqQ_n ?_
    refine hw_reg ?_
    refine dp rfl (pop_move rfl) ?_
    first
    | refine de rfl (eop_lenm (i := 0) ty26 rfl rfl ?_)
    | refine de rfl (eop_lenm (i := 1) ty26 rfl rfl ?_)
    | refine de rfl (eop_lenm (i := 2) ty26 rfl rfl ?_)
    | refine de rfl (eop_lenm (i := 3) ty26 rfl rfl ?_)
    refine dp rfl (pop_assign rfl) ?_
    refine dn ?_
    refine hw_draw (fun _ => True) [] mixed ?_
    refine ahp 0 rfl rfl (by kernel_rfl) (by kernel_rfl) (pop_move rfl) ?_
    refine ahp 1 rfl rfl (by kernel_rfl) (by kernel_rfl) (pop_move rfl) ?_
    refine ahp 2 rfl rfl (by kernel_rfl) (by kernel_rfl) (pop_slraw0 (h := k) ty26 ty32 rfl ⟨_, _, rfl, rfl⟩ (by omega)) ?_
    refine ahp 3 rfl rfl (by kernel_rfl) (by kernel_rfl) (pop_move rfl) ?_
    refine ahp 4 rfl rfl (by kernel_rfl) (by kernel_rfl) (pop_move rfl) ?_
    refine ahp 5 rfl rfl (by kernel_rfl) (by kernel_rfl) (pop_slraw (l := k + 1) ty26 ty32 rfl ⟨_, _, rfl, rfl⟩ rfl (by omega) (by omega) hcap) ?_
    refine ahe 6 rfl (by kernel_rfl) ?_
    refine hop_e rfl (eop_append_self (k := 0) (i := k) (j := k + 1) ty26 ty32 rfl rfl rfl (by simp) (by omega) (by omega) (by simp [flat, hcells]) ?_)
    refine ⟨fun _ => .inl trivial, ?_⟩
    refine ahp 7 rfl rfl (by kernel_rfl) (by kernel_rfl) (pop_assign rfl) ?_
    refine ahz (by kernel_rfl) ?_
    refine hw_reg ?_
    refine dp rfl (pop_move rfl) ?_
    refine dp rfl (pop_move rfl) ?_
    refine de rfl (eop_len (i := 0) ty26 rfl rfl ?_)
    refine dp rfl (pop_move rfl) ?_
    refine dp rfl (pop_slrawc (l := ((l.map eAsset).take k ++ (l.map eAsset).drop (k + 1)).length) (h := l.length) ty26 ty32 rfl ⟨_, _, rfl, rfl⟩ ⟨_, _, rfl, rfl⟩ (by simp; omega) hcap) ?_
    refine de0 (eop_clear_at (i := 0) (m := ((l.map eAsset).take k ++ (l.map eAsset).drop (k + 1)).length) ((l.map eAsset).take k ++ (l.map eAsset).drop (k + 1)).length ty26 ty32 rfl rfl rfl (slOff_or (by simp; omega) hcap) rfl (by simp; omega) (Nat.le_refl _) (Nat.le_refl _) ?_)
    refine dn ?_
    refine hw_reg ?_
    refine dp rfl (pop_move rfl) ?_
    refine dp rfl (pop_assign rfl) ?_
    refine dn ?_
    refine hw_ret ?_
    refine ret_q rfl ⟨_, rfl, ?_⟩
    rw [List.take_length, List.eraseIdx_eq_take_drop_succ, List.map_append, List.map_take, List.map_drop]
    congr 2; simp; omega
end Go.Proofs.YtfeimpgcpjoilaaGreatDoor
