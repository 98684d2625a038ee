/- Contracts of functions of the program, by the rules of the logic; printed by gen.py. -/
import Derived.Test.YthkidikfikijhaaGreatDoorCLib2
import Derived.Test.YthkidikfikijhaaGreatDoorPure8
namespace Go.Proofs.YthkidikfikijhaaGreatDoor
open Go.HL
set_option maxRecDepth 100000
set_option linter.unusedVariables false
set_option linter.unusedSimpArgs false
/-- benchwarmer/benchref1.SwapsFault -/
theorem c_benchref1_SwapsFault {r : Room} {l : List Swap} (ht : r.Teams.length ≤ 1000000) (hp : r.Players.length ≤ 1000000) (hl : l.length ≤ 1000000) : ConP Tryz.prog 10 [eRoom r, eSwaps l] (.int .i64 (refSwaps r l)) := by
  refine Con.of_body Tryz.func10 rfl Tryz.ntmps10 rfl rfl ?_
  refine hw_reg ?_
  refine dp rfl (pop_box rfl rfl) ?_
  refine dp rfl (pop_assign rfl) ?_
  refine dn ?_
  refine hw_seq ?_
  refine hw_reg ?_
  refine dp rfl (pop_move rfl) ?_
  refine dp rfl (pop_lenm ty32 rfl) ?_
  refine dp rfl (pop_gtr rfl rfl) ?_
  refine dn ?_
  refine hw_cond rfl (fun h1 => ?_) (fun h2 => ?_)
  · try simp at h1
    refine hw_reg ?_
    refine dp rfl (pop_assign rfl) ?_
    refine dn ?_
    refine hw_ret ?_
    refine ret_p rfl ?_
    show HVal.int .i64 _ = _
    first | (rw [refSwaps, if_pos (by omega)]; done) | (rw [hg, swapsGo]; simp_all; done) | (rw [hg]; rfl)
  · try simp at h2
    refine hw_skip ?_
    refine seqQ_n ?_
    refine hw_seq ?_
    refine hw_reg ?_
    refine dp rfl (pop_move rfl) ?_
    refine dp rfl (pop_lenm ty32 rfl) ?_
    refine dp rfl (pop_move rfl) ?_
    refine dn ?_
    refine hw_block ?_
    refine hw_loopw [4, 5, 6, 12, 13, 14, 15, 16, 17, 18, 19, 20, 21, 22, 23, 24, 25, 26, 27, 28, 29, 30, 31, 32, 33, 34, 35, 36, 37, 38, 39, 40, 41, 42, 43, 44, 45, 46, 47, 48, 49, 50, 51, 52, 53, 54, 55, 56, 57, 58, 59, 60, 61, 62, 63, 64, 65] (fun (k : Nat) => [(12, .int .i64 k)]) (fun (k : Nat) => []) (fun (k : Nat) => k ≤ l.length ∧ (refSwaps r l = swapsGo r l k (l.drop k))) (fun (k : Nat) => l.length - k) (0) ?_ ?_ ?_ ?_
    · refine ⟨Nat.zero_le _, ?_⟩
      rw [refSwaps, if_neg (by omega)]; rfl
    · exact ⟨rfl, trivial⟩
    · exact List.Perm.refl _
    · intro k hinv
      obtain ⟨hk, hg⟩ := hinv
      refine hw_reg ?_
      refine dp rfl (pop_lss rfl rfl) ?_
      refine dn ?_
      refine hw_seq ?_
      refine hw_cond rfl (fun h3 => ?_) (fun h4 => ?_)
      · try simp at h3
        obtain ⟨x, hx⟩ : ∃ x, l[k]? = some x := ⟨_, List.getElem?_eq_getElem h3⟩
        have hdx := drop_cons hx
        rw [hdx] at hg
        refine hw_skip ?_
        refine seqQ_n ?_
        refine hw_seq ?_
        refine hw_block ?_
        refine hw_reg ?_
        refine dp rfl (pop_move rfl) ?_
        refine dp rfl (pop_idx ty32 ty65 rfl rfl rfl (by first | assumption | simp_all)) ?_
        refine dp rfl (pop_loadw ty65 rfl rfl rfl rfl) ?_
        refine de rfl (eop_alloc ty65 rfl fun b6 => ?_)
        refine dp rfl (pop_assign rfl) ?_
        refine de0 (eop_storew ty65 rfl rfl rfl rfl rfl ?_)
        refine dn ?_
        refine hw_ghost (Ghost.fc0 6 rfl) ?_
        refine hw_block ?_
        refine hw_reg ?_
        refine dp rfl (pop_fieldAddr ty65 rfl ty3 (by decide) rfl) ?_
        refine dp rfl (pop_load ty3 rfl rfl rfl) ?_
        refine dp rfl (pop_fieldAddr ty28 rfl ty3 (by decide) rfl) ?_
        refine dp rfl (pop_load ty3 rfl rfl rfl) ?_
        refine dp rfl (pop_call ca33 rfl (WeakL.refl _) c_benchref1_in) ?_
        refine dp rfl (pop_not rfl) ?_
        refine dp rfl (pop_assign rfl) ?_
        refine dn ?_
        refine hw_cond rfl (fun h5 => ?_) (fun h6 => ?_)
        · try simp at h5
          refine hw_reg ?_
          refine dp rfl (pop_assign rfl) ?_
          refine dn ?_
          refine hw_ret ?_
          refine ret_p rfl ?_
          show HVal.int .i64 _ = _
          first | (rw [refSwaps, if_pos (by omega)]; done) | (rw [hg, swapsGo]; simp_all; done) | (rw [hg]; rfl)
        · try simp at h6
          refine hw_reg ?_
          refine dp rfl (pop_fieldAddr ty28 rfl ty26 (by decide) rfl) ?_
          refine dp rfl (pop_load ty26 rfl rfl rfl) ?_
          refine dp rfl (pop_fieldAddr ty65 rfl ty9 (by decide) rfl) ?_
          refine dp rfl (pop_load ty9 rfl rfl rfl) ?_
          refine dp rfl (pop_call ca38 rfl (WeakL.refl _) (c_slices_Contains_string_string (by first | assumption | omega | (simp; omega) | simp_all))) ?_
          refine dp rfl (pop_not rfl) ?_
          refine dp rfl (pop_move rfl) ?_
          refine dg rfl rfl (fun hc => ⟨_, OpenTo.refl _, pop_fieldAddr ty28 rfl ty26 (by decide) rfl⟩) ?_
          refine dg rfl rfl (fun hc => ⟨_, OpenTo.upd (t := 32) rfl (by first | exact hc | simp_all) (OpenTo.refl _), pop_load ty26 rfl rfl rfl⟩) ?_
          refine dg rfl rfl (fun hc => ⟨_, OpenTo.refl _, pop_fieldAddr ty65 rfl ty9 (by decide) rfl⟩) ?_
          refine dg rfl rfl (fun hc => ⟨_, OpenTo.upd (t := 34) rfl (by first | exact hc | simp_all) (OpenTo.refl _), pop_load ty9 rfl rfl rfl⟩) ?_
          refine dg rfl rfl (fun hc => by have hq := hc; (try simp at hq); exact ⟨_, OpenTo.upd (t := 35) rfl (by first | exact hc | simp_all) (OpenTo.upd (t := 33) rfl (by first | exact hc | simp_all) (OpenTo.refl _)), pop_call ca38 rfl (WeakL.refl _) (c_slices_Contains_string_string (by first | assumption | omega | (simp; omega) | simp_all))⟩) ?_
          refine dg rfl rfl (fun hc => ⟨_, OpenTo.upd (t := 36) rfl (by first | exact hc | simp_all) (OpenTo.refl _), pop_not rfl⟩) ?_
          refine dp rfl (pop_picko rfl (.inl rfl) (.inr ⟨_, rfl, fun h => by simp_all⟩)) ?_
          refine dp rfl (pop_assign rfl) ?_
          refine dn ?_
          refine hw_cond rfl (fun h7 => ?_) (fun h8 => ?_)
          · try simp at h7
            refine hw_reg ?_
            refine dp rfl (pop_assign rfl) ?_
            refine dn ?_
            refine hw_ret ?_
            refine ret_p rfl ?_
            show HVal.int .i64 _ = _
            first | (rw [refSwaps, if_pos (by omega)]; done) | (rw [hg, swapsGo]; simp_all; done) | (rw [hg]; rfl)
          · try simp at h8
            refine hw_draw (fun _ => True) [] mixed ?_
            refine ahp 0 rfl rfl (by kernel_rfl) (by kernel_rfl) (pop_move rfl) ?_
            refine ahp 1 rfl rfl (by kernel_rfl) (by kernel_rfl) (pop_gtr rfl rfl) ?_
            refine ahp 2 rfl rfl (by kernel_rfl) (by kernel_rfl) (pop_move rfl) ?_
            refine ahg 3 rfl rfl (by kernel_rfl) (by kernel_rfl) rfl (fun hc => ⟨_, OpenTo.refl _, pop_move rfl⟩) ?_
            refine ahg 4 rfl rfl (by kernel_rfl) (by kernel_rfl) rfl (fun hc => ⟨_, OpenTo.refl _, pop_move rfl⟩) ?_
            refine ahg 5 rfl rfl (by kernel_rfl) (by kernel_rfl) rfl (fun hc => by have hq := hc; (try simp at hq); exact ⟨_, OpenTo.upd (t := 44) rfl (by first | exact hc | simp_all) (OpenTo.refl _), pop_sub64 rfl rfl (by omega) (by omega)⟩) ?_
            refine ahg 6 rfl rfl (by kernel_rfl) (by kernel_rfl) rfl (fun hc => by have hq := hc; (try simp at hq); exact ⟨_, OpenTo.upd (t := 45) rfl (by first | exact hc | simp_all) (OpenTo.upd (t := 43) rfl (by first | exact hc | simp_all) (OpenTo.refl _)), pop_idx (j := k - 1) (a := l.getD (k - 1) swap0) ty32 ty65 rfl rfl (by omega) (getD_some (by omega))⟩) ?_
            refine ahg 7 rfl rfl (by kernel_rfl) (by kernel_rfl) rfl (fun hc => ⟨_, OpenTo.upd (t := 46) rfl (by first | exact hc | simp_all) (OpenTo.refl _), pop_fieldAddr ty65 rfl ty3 (by decide) rfl⟩) ?_
            refine ahg 8 rfl rfl (by kernel_rfl) (by kernel_rfl) rfl (fun hc => ⟨_, OpenTo.upd (t := 47) rfl (by first | exact hc | simp_all) (OpenTo.refl _), pop_load ty3 rfl rfl rfl⟩) ?_
            refine ahg 9 rfl rfl (by kernel_rfl) (by kernel_rfl) rfl (fun hc => ⟨_, OpenTo.refl _, pop_fieldAddr ty65 rfl ty3 (by decide) rfl⟩) ?_
            refine ahg 10 rfl rfl (by kernel_rfl) (by kernel_rfl) rfl (fun hc => ⟨_, OpenTo.upd (t := 49) rfl (by first | exact hc | simp_all) (OpenTo.refl _), pop_load ty3 rfl rfl rfl⟩) ?_
            refine ahg 11 rfl rfl (by kernel_rfl) (by kernel_rfl) rfl (fun hc => ⟨_, OpenTo.upd (t := 50) rfl (by first | exact hc | simp_all) (OpenTo.upd (t := 48) rfl (by first | exact hc | simp_all) (OpenTo.refl _)), pop_call ca41 rfl (WeakL.refl _) c_cmp_Compare_int⟩) ?_
            refine ahg 12 rfl rfl (by kernel_rfl) (by kernel_rfl) rfl (fun hc => ⟨_, OpenTo.refl _, pop_move rfl⟩) ?_
            refine ahg 13 rfl rfl (by kernel_rfl) (by kernel_rfl) rfl (fun hc => ⟨_, OpenTo.refl _, pop_move rfl⟩) ?_
            refine ahg 14 rfl rfl (by kernel_rfl) (by kernel_rfl) rfl (fun hc => by have hq := hc; (try simp at hq); exact ⟨_, OpenTo.upd (t := 53) rfl (by first | exact hc | simp_all) (OpenTo.refl _), pop_sub64 rfl rfl (by omega) (by omega)⟩) ?_
            refine ahg 15 rfl rfl (by kernel_rfl) (by kernel_rfl) rfl (fun hc => by have hq := hc; (try simp at hq); exact ⟨_, OpenTo.upd (t := 54) rfl (by first | exact hc | simp_all) (OpenTo.upd (t := 52) rfl (by first | exact hc | simp_all) (OpenTo.refl _)), pop_idx (j := k - 1) (a := l.getD (k - 1) swap0) ty32 ty65 rfl rfl (by omega) (getD_some (by omega))⟩) ?_
            refine ahg 16 rfl rfl (by kernel_rfl) (by kernel_rfl) rfl (fun hc => ⟨_, OpenTo.upd (t := 55) rfl (by first | exact hc | simp_all) (OpenTo.refl _), pop_fieldAddr ty65 rfl ty9 (by decide) rfl⟩) ?_
            refine ahg 17 rfl rfl (by kernel_rfl) (by kernel_rfl) rfl (fun hc => ⟨_, OpenTo.upd (t := 56) rfl (by first | exact hc | simp_all) (OpenTo.refl _), pop_load ty9 rfl rfl rfl⟩) ?_
            refine ahg 18 rfl rfl (by kernel_rfl) (by kernel_rfl) rfl (fun hc => ⟨_, OpenTo.refl _, pop_fieldAddr ty65 rfl ty9 (by decide) rfl⟩) ?_
            refine ahg 19 rfl rfl (by kernel_rfl) (by kernel_rfl) rfl (fun hc => ⟨_, OpenTo.upd (t := 58) rfl (by first | exact hc | simp_all) (OpenTo.refl _), pop_load ty9 rfl rfl rfl⟩) ?_
            refine ahg 20 rfl rfl (by kernel_rfl) (by kernel_rfl) rfl (fun hc => ⟨_, OpenTo.upd (t := 59) rfl (by first | exact hc | simp_all) (OpenTo.upd (t := 57) rfl (by first | exact hc | simp_all) (OpenTo.refl _)), pop_call ca40 rfl (WeakL.refl _) c_strings_Compare⟩) ?_
            refine ahg 21 rfl rfl (by kernel_rfl) (by kernel_rfl) rfl (fun hc => ⟨_, OpenTo.upd (t := 60) rfl (by first | exact hc | simp_all) (OpenTo.upd (t := 51) rfl (by first | exact hc | simp_all) (OpenTo.refl _)), pop_buildSlice (hs := [_, _]) ty22 ty3 rfl rfl (by decide) (by decide) rfl⟩) ?_
            refine ahg 22 rfl rfl (by kernel_rfl) (by kernel_rfl) rfl (fun hc => ⟨_, OpenTo.upd (t := 61) rfl (by first | exact hc | simp_all) (OpenTo.refl _), pop_call ca39 rfl (WeakL.refl _) (c_cmp_Or_int (l := [_, _]) (by simp))⟩) ?_
            refine ahg 23 rfl rfl (by kernel_rfl) (by kernel_rfl) rfl (fun hc => ⟨_, OpenTo.upd (t := 62) rfl (by first | exact hc | simp_all) (OpenTo.refl _), pop_geq rfl rfl⟩) ?_
            refine ahp 24 rfl rfl (by kernel_rfl) (by kernel_rfl) (pop_picko rfl (.inr ⟨_, rfl, fun h => by simp_all⟩) (.inl rfl)) ?_
            refine ahp 25 rfl rfl (by kernel_rfl) (by kernel_rfl) (pop_assign rfl) ?_
            refine ahz (by kernel_rfl) ?_
            refine hw_cond rfl (fun h9 => ?_) (fun h10 => ?_)
            · rw [ord_is] at h9
              try simp at h9
              refine hw_reg ?_
              refine dp rfl (pop_assign rfl) ?_
              refine dn ?_
              refine hw_ret ?_
              refine ret_p rfl ?_
              show HVal.int .i64 _ = _
              first | (rw [refSwaps, if_pos (by omega)]; done) | (rw [hg, swapsGo]; simp_all; done) | (rw [hg]; rfl)
            · rw [ord_is] at h10
              try simp at h10
              refine hw_skip ?_
              refine blockQ_n ?_
              refine blockQ_n ?_
              refine seqQ_n ?_
              refine hw_reg1 ?_
              refine dp rfl (pop_add64 rfl rfl (by omega) (by omega)) ?_
              refine dp rfl (pop_move rfl) ?_
              refine dn ?_
              refine ⟨k + 1, ?_, ?_, ⟨rfl, trivial⟩, (by repeat (first | exact keeps_refl | refine keeps_upd rfl ?_ | refine keeps_loop rfl rfl ?_)), List.Perm.refl _⟩
              · refine ⟨by omega, ?_⟩
                rw [hg, swapsGo]; simp_all
                try (intro h1 h2; have := h10 h1; omega)
              · dsimp only; omega
      · try simp at h4
        have hnk : l.length ≤ k := by omega
        obtain rfl : k = l.length := by omega
        rw [drop_all (Nat.le_refl _)] at hg
        refine hw_exit ?_
        refine seqQ_x ?_
        refine loopQ_x ?_
        refine blockQ_eq ?_
        refine seqQ_n ?_
        refine hw_reg ?_
        refine dp rfl (pop_assign rfl) ?_
        refine dn ?_
        refine hw_ret ?_
        refine ret_p rfl ?_
        show HVal.int .i64 _ = _
        first | (rw [refSwaps, if_pos (by omega)]; done) | (rw [hg, swapsGo]; simp_all; done) | (rw [hg]; rfl)

/-- benchwarmer/benchref1.KeepsFault -/
theorem c_benchref1_KeepsFault {r : Room} {l : List Keep} (ht : r.Teams.length ≤ 1000000) (hp : r.Players.length ≤ 1000000) (hl : l.length ≤ 1000000) : ConP Tryz.prog 9 [eRoom r, eKeeps l] (.int .i64 (refKeeps r l)) := by
  refine Con.of_body Tryz.func9 rfl Tryz.ntmps9 rfl rfl ?_
  refine hw_reg ?_
  refine dp rfl (pop_box rfl rfl) ?_
  refine dp rfl (pop_assign rfl) ?_
  refine dn ?_
  refine hw_seq ?_
  refine hw_reg ?_
  refine dp rfl (pop_move rfl) ?_
  refine dp rfl (pop_lenm ty30 rfl) ?_
  refine dp rfl (pop_gtr rfl rfl) ?_
  refine dn ?_
  refine hw_cond rfl (fun h1 => ?_) (fun h2 => ?_)
  · try simp at h1
    refine hw_reg ?_
    refine dp rfl (pop_assign rfl) ?_
    refine dn ?_
    refine hw_ret ?_
    first
    | (refine ret_p rfl ?_
       show HVal.int .i64 _ = _
       first | (rw [refKeeps, if_pos (by omega)]; done) | (rw [hg, refKeepsGo]; simp_all [isTwice]; done))
    | (refine ret_g Ghost.drop rfl ⟨?_, rfl⟩
       show HVal.int .i64 _ = _
       rw [hg, refKeepsGo]; simp_all; done)
  · try simp at h2
    refine hw_skip ?_
    refine seqQ_n ?_
    refine hw_reg ?_
    refine dp rfl (pop_assign rfl) ?_
    refine dn ?_
    refine hw_ghost (Ghost.arr_nil 1) ?_
    refine hw_seq ?_
    refine hw_reg ?_
    refine dp rfl (pop_move rfl) ?_
    refine dp rfl (pop_lenm ty30 rfl) ?_
    refine dp rfl (pop_move rfl) ?_
    refine dn ?_
    refine hw_block ?_
    refine hw_loopw2 (4 :: 5 :: 6 :: 7 :: 13 :: 14 :: 15 :: 16 :: 17 :: 18 :: 19 :: 20 :: 21 :: 22 :: 23 :: 24 :: 25 :: 26 :: 27 :: 28 :: 29 :: 30 :: 31 :: 32 :: 33 :: 34 :: 35 :: 36 :: 37 :: 38 :: 39 :: 40 :: 41 :: 42 :: 43 :: 44 :: 45 :: 46 :: 47 :: 48 :: 49 :: 50 :: 51 :: 52 :: 53 :: 54 :: 55 :: 56 :: 57 :: 58 :: 59 :: 60 :: 61 :: 62 :: 63 :: 64 :: 65 :: 66 :: 67 :: 68 :: 69 :: 70 :: 71 :: []) (fun (k : Nat) (u : Value) => [(13, .int .i64 k), (5, .raw u)]) (fun (k : Nat) (u : Value) => [.arr u 1 (((l.take k).map (·.Player)).map .str)]) (fun (k : Nat) (u : Value) => k ≤ l.length ∧ (refKeeps r l = refKeepsGo r l k ((l.take k).map (·.Player)) (l.drop k))) (fun (k : Nat) (u : Value) => l.length - k) (0) (.slice none 0 0) ?_ ?_ ?_ ?_
    · refine ⟨Nat.zero_le _, ?_⟩
      rw [refKeeps, if_neg (by omega)]; rfl
    · exact ⟨rfl, rfl, trivial⟩
    · exact perm_eq (by simp)
    · intro k u hinv
      obtain ⟨hk, hg⟩ := hinv
      refine hw_reg ?_
      refine dp rfl (pop_lss rfl rfl) ?_
      refine dn ?_
      refine hw_seq ?_
      refine hw_cond rfl (fun h3 => ?_) (fun h4 => ?_)
      · try simp at h3
        obtain ⟨x, hx⟩ : ∃ x, l[k]? = some x := ⟨_, List.getElem?_eq_getElem h3⟩
        have hdx := drop_cons hx
        rw [hdx] at hg
        refine hw_skip ?_
        refine seqQ_n ?_
        refine hw_seq ?_
        refine hw_block ?_
        refine hw_reg ?_
        refine dp rfl (pop_move rfl) ?_
        refine dp rfl (pop_idx ty30 ty61 rfl rfl rfl (by first | assumption | simp_all)) ?_
        refine dp rfl (pop_loadw ty61 rfl rfl rfl rfl) ?_
        refine de rfl (eop_alloc ty61 rfl fun b7 => ?_)
        refine dp rfl (pop_assign rfl) ?_
        refine de0 (eop_storew ty61 rfl rfl rfl rfl rfl ?_)
        refine dn ?_
        refine hw_ghost (Ghost.fc0 7 rfl) ?_
        refine hw_seq ?_
        refine hw_block ?_
        refine hw_reg ?_
        refine dp rfl (pop_fieldAddr ty28 rfl ty26 (by decide) rfl) ?_
        refine dp rfl (pop_load ty26 rfl rfl rfl) ?_
        refine dp rfl (pop_fieldAddr ty61 rfl ty9 (by decide) rfl) ?_
        refine dp rfl (pop_load ty9 rfl rfl rfl) ?_
        refine dp rfl (pop_call ca38 rfl (WeakL.refl _) (c_slices_Contains_string_string (by first | assumption | omega | (simp; omega) | simp_all))) ?_
        refine dp rfl (pop_not rfl) ?_
        refine dp rfl (pop_move rfl) ?_
        refine dg rfl rfl (fun hc => ⟨_, OpenTo.refl _, pop_fieldAddr ty28 rfl ty26 (by decide) rfl⟩) ?_
        refine dg rfl rfl (fun hc => ⟨_, OpenTo.upd (t := 26) rfl (by first | exact hc | simp_all) (OpenTo.refl _), pop_load ty26 rfl rfl rfl⟩) ?_
        refine dg rfl rfl (fun hc => ⟨_, OpenTo.refl _, pop_fieldAddr ty61 rfl ty9 (by decide) rfl⟩) ?_
        refine dg rfl rfl (fun hc => ⟨_, OpenTo.upd (t := 28) rfl (by first | exact hc | simp_all) (OpenTo.refl _), pop_load ty9 rfl rfl rfl⟩) ?_
        refine dg rfl rfl (fun hc => by have hq := hc; (try simp at hq); exact ⟨_, OpenTo.upd (t := 29) rfl (by first | exact hc | simp_all) (OpenTo.upd (t := 27) rfl (by first | exact hc | simp_all) (OpenTo.refl _)), pop_call ca38 rfl (WeakL.refl _) (c_slices_Contains_string_string (by first | assumption | omega | (simp; omega) | simp_all))⟩) ?_
        refine dg rfl rfl (fun hc => ⟨_, OpenTo.upd (t := 30) rfl (by first | exact hc | simp_all) (OpenTo.refl _), pop_not rfl⟩) ?_
        refine dp rfl (pop_picko rfl (.inl rfl) (.inr ⟨_, rfl, fun h => by simp_all⟩)) ?_
        refine dp rfl (pop_assign rfl) ?_
        refine dn ?_
        refine hw_cond rfl (fun h5 => ?_) (fun h6 => ?_)
        · try simp at h5
          refine hw_reg ?_
          refine dp rfl (pop_assign rfl) ?_
          refine dn ?_
          refine hw_ret ?_
          first
          | (refine ret_p rfl ?_
             show HVal.int .i64 _ = _
             first | (rw [refKeeps, if_pos (by omega)]; done) | (rw [hg, refKeepsGo]; simp_all [isTwice]; done))
          | (refine ret_g Ghost.drop rfl ⟨?_, rfl⟩
             show HVal.int .i64 _ = _
             rw [hg, refKeepsGo]; simp_all; done)
        · try simp at h6
          refine hw_reg ?_
          refine dp rfl (pop_fieldAddr ty61 rfl ty3 (by decide) rfl) ?_
          refine dp rfl (pop_load ty3 rfl rfl rfl) ?_
          refine dp rfl (pop_fieldAddr ty28 rfl ty3 (by decide) rfl) ?_
          refine dp rfl (pop_load ty3 rfl rfl rfl) ?_
          refine dp rfl (pop_call ca33 rfl (WeakL.refl _) c_benchref1_in) ?_
          refine dp rfl (pop_not rfl) ?_
          refine dp rfl (pop_assign rfl) ?_
          refine dn ?_
          refine hw_cond rfl (fun h7 => ?_) (fun h8 => ?_)
          · try simp at h7
            refine hw_reg ?_
            refine dp rfl (pop_assign rfl) ?_
            refine dn ?_
            refine hw_ret ?_
            first
            | (refine ret_p rfl ?_
               show HVal.int .i64 _ = _
               first | (rw [refKeeps, if_pos (by omega)]; done) | (rw [hg, refKeepsGo]; simp_all [isTwice]; done))
            | (refine ret_g Ghost.drop rfl ⟨?_, rfl⟩
               show HVal.int .i64 _ = _
               rw [hg, refKeepsGo]; simp_all; done)
          · try simp at h8
            refine hw_draw (fun _ => True) [] mixed ?_
            refine ahp 0 rfl rfl (by kernel_rfl) (by kernel_rfl) (pop_move rfl) ?_
            refine ahp 1 rfl rfl (by kernel_rfl) (by kernel_rfl) (pop_gtr rfl rfl) ?_
            refine ahp 2 rfl rfl (by kernel_rfl) (by kernel_rfl) (pop_move rfl) ?_
            refine ahg 3 rfl rfl (by kernel_rfl) (by kernel_rfl) rfl (fun hc => ⟨_, OpenTo.refl _, pop_move rfl⟩) ?_
            refine ahg 4 rfl rfl (by kernel_rfl) (by kernel_rfl) rfl (fun hc => ⟨_, OpenTo.refl _, pop_move rfl⟩) ?_
            refine ahg 5 rfl rfl (by kernel_rfl) (by kernel_rfl) rfl (fun hc => by have hq := hc; (try simp at hq); exact ⟨_, OpenTo.upd (t := 45) rfl (by first | exact hc | simp_all) (OpenTo.refl _), pop_sub64 rfl rfl (by omega) (by omega)⟩) ?_
            refine ahg 6 rfl rfl (by kernel_rfl) (by kernel_rfl) rfl (fun hc => by have hq := hc; (try simp at hq); exact ⟨_, OpenTo.upd (t := 46) rfl (by first | exact hc | simp_all) (OpenTo.upd (t := 44) rfl (by first | exact hc | simp_all) (OpenTo.refl _)), pop_idx (j := k - 1) (a := l.getD (k - 1) keep0) ty30 ty61 rfl rfl (by omega) (getD_some (by omega))⟩) ?_
            refine ahg 7 rfl rfl (by kernel_rfl) (by kernel_rfl) rfl (fun hc => ⟨_, OpenTo.upd (t := 47) rfl (by first | exact hc | simp_all) (OpenTo.refl _), pop_fieldAddr ty61 rfl ty9 (by decide) rfl⟩) ?_
            refine ahg 8 rfl rfl (by kernel_rfl) (by kernel_rfl) rfl (fun hc => ⟨_, OpenTo.upd (t := 48) rfl (by first | exact hc | simp_all) (OpenTo.refl _), pop_load ty9 rfl rfl rfl⟩) ?_
            refine ahg 9 rfl rfl (by kernel_rfl) (by kernel_rfl) rfl (fun hc => ⟨_, OpenTo.refl _, pop_fieldAddr ty61 rfl ty9 (by decide) rfl⟩) ?_
            refine ahg 10 rfl rfl (by kernel_rfl) (by kernel_rfl) rfl (fun hc => ⟨_, OpenTo.upd (t := 50) rfl (by first | exact hc | simp_all) (OpenTo.refl _), pop_load ty9 rfl rfl rfl⟩) ?_
            refine ahg 11 rfl rfl (by kernel_rfl) (by kernel_rfl) rfl (fun hc => ⟨_, OpenTo.upd (t := 51) rfl (by first | exact hc | simp_all) (OpenTo.upd (t := 49) rfl (by first | exact hc | simp_all) (OpenTo.refl _)), pop_call ca40 rfl (WeakL.refl _) c_strings_Compare⟩) ?_
            refine ahg 12 rfl rfl (by kernel_rfl) (by kernel_rfl) rfl (fun hc => ⟨_, OpenTo.refl _, pop_move rfl⟩) ?_
            refine ahg 13 rfl rfl (by kernel_rfl) (by kernel_rfl) rfl (fun hc => ⟨_, OpenTo.refl _, pop_move rfl⟩) ?_
            refine ahg 14 rfl rfl (by kernel_rfl) (by kernel_rfl) rfl (fun hc => by have hq := hc; (try simp at hq); exact ⟨_, OpenTo.upd (t := 54) rfl (by first | exact hc | simp_all) (OpenTo.refl _), pop_sub64 rfl rfl (by omega) (by omega)⟩) ?_
            refine ahg 15 rfl rfl (by kernel_rfl) (by kernel_rfl) rfl (fun hc => by have hq := hc; (try simp at hq); exact ⟨_, OpenTo.upd (t := 55) rfl (by first | exact hc | simp_all) (OpenTo.upd (t := 53) rfl (by first | exact hc | simp_all) (OpenTo.refl _)), pop_idx (j := k - 1) (a := l.getD (k - 1) keep0) ty30 ty61 rfl rfl (by omega) (getD_some (by omega))⟩) ?_
            refine ahg 16 rfl rfl (by kernel_rfl) (by kernel_rfl) rfl (fun hc => ⟨_, OpenTo.upd (t := 56) rfl (by first | exact hc | simp_all) (OpenTo.refl _), pop_fieldAddr ty61 rfl ty3 (by decide) rfl⟩) ?_
            refine ahg 17 rfl rfl (by kernel_rfl) (by kernel_rfl) rfl (fun hc => ⟨_, OpenTo.upd (t := 57) rfl (by first | exact hc | simp_all) (OpenTo.refl _), pop_load ty3 rfl rfl rfl⟩) ?_
            refine ahg 18 rfl rfl (by kernel_rfl) (by kernel_rfl) rfl (fun hc => ⟨_, OpenTo.refl _, pop_fieldAddr ty61 rfl ty3 (by decide) rfl⟩) ?_
            refine ahg 19 rfl rfl (by kernel_rfl) (by kernel_rfl) rfl (fun hc => ⟨_, OpenTo.upd (t := 59) rfl (by first | exact hc | simp_all) (OpenTo.refl _), pop_load ty3 rfl rfl rfl⟩) ?_
            refine ahg 20 rfl rfl (by kernel_rfl) (by kernel_rfl) rfl (fun hc => ⟨_, OpenTo.upd (t := 60) rfl (by first | exact hc | simp_all) (OpenTo.upd (t := 58) rfl (by first | exact hc | simp_all) (OpenTo.refl _)), pop_call ca41 rfl (WeakL.refl _) c_cmp_Compare_int⟩) ?_
            refine ahg 21 rfl rfl (by kernel_rfl) (by kernel_rfl) rfl (fun hc => ⟨_, OpenTo.upd (t := 61) rfl (by first | exact hc | simp_all) (OpenTo.upd (t := 52) rfl (by first | exact hc | simp_all) (OpenTo.refl _)), pop_buildSlice (hs := [_, _]) ty22 ty3 rfl rfl (by decide) (by decide) rfl⟩) ?_
            refine ahg 22 rfl rfl (by kernel_rfl) (by kernel_rfl) rfl (fun hc => ⟨_, OpenTo.upd (t := 62) rfl (by first | exact hc | simp_all) (OpenTo.refl _), pop_call ca39 rfl (WeakL.refl _) (c_cmp_Or_int (l := [_, _]) (by simp))⟩) ?_
            refine ahg 23 rfl rfl (by kernel_rfl) (by kernel_rfl) rfl (fun hc => ⟨_, OpenTo.upd (t := 63) rfl (by first | exact hc | simp_all) (OpenTo.refl _), pop_geq rfl rfl⟩) ?_
            refine ahp 24 rfl rfl (by kernel_rfl) (by kernel_rfl) (pop_picko rfl (.inr ⟨_, rfl, fun h => by simp_all⟩) (.inl rfl)) ?_
            refine ahp 25 rfl rfl (by kernel_rfl) (by kernel_rfl) (pop_assign rfl) ?_
            refine ahz (by kernel_rfl) ?_
            refine hw_cond rfl (fun h9 => ?_) (fun h10 => ?_)
            · rw [ord_si] at h9
              try simp at h9
              refine hw_reg ?_
              refine dp rfl (pop_assign rfl) ?_
              refine dn ?_
              refine hw_ret ?_
              first
              | (refine ret_p rfl ?_
                 show HVal.int .i64 _ = _
                 first | (rw [refKeeps, if_pos (by omega)]; done) | (rw [hg, refKeepsGo]; simp_all [isTwice]; done))
              | (refine ret_g Ghost.drop rfl ⟨?_, rfl⟩
                 show HVal.int .i64 _ = _
                 rw [hg, refKeepsGo]; simp_all; done)
            · rw [ord_si] at h10
              try simp at h10
              refine hw_skip ?_
              refine blockQ_n ?_
              refine seqQ_n ?_
              refine hw_reg1 ?_
              refine dp rfl (pop_move rfl) ?_
              refine dp rfl (pop_fieldAddr ty61 rfl ty9 (by decide) rfl) ?_
              refine dp rfl (pop_load ty9 rfl rfl rfl) ?_
              refine dp rfl (pop_buildSlice (hs := [_]) ty26 ty9 rfl rfl (by decide) (by decide) rfl) ?_
              refine de rfl (eop_append (i := 0) ty26 ty9 rfl rfl rfl rfl rfl (by simp [flat, hcells]) (by first | omega | (simp; omega)) fun v70 => ?_)
              refine dp rfl (pop_assign rfl) ?_
              refine dn ?_
              refine blockQ_n ?_
              refine seqQ_n ?_
              refine hw_reg1 ?_
              refine dp rfl (pop_add64 rfl rfl (by omega) (by omega)) ?_
              refine dp rfl (pop_move rfl) ?_
              refine dn ?_
              refine ⟨k + 1, _, ?_, ?_, ⟨rfl, rfl, trivial⟩, (by repeat (first | exact keeps_refl | refine keeps_upd rfl ?_ | refine keeps_loop rfl rfl ?_)), perm_eq (by simp [List.take_add_one, hx])⟩
              · refine ⟨by omega, ?_⟩
                rw [hg, refKeepsGo, take_map_snoc _ hx]; simp_all
                try (intro h1 h2; have := h10 h1; omega)
              · dsimp only; omega
      · try simp at h4
        have hnk : l.length ≤ k := by omega
        obtain rfl : k = l.length := by omega
        rw [drop_all (Nat.le_refl _), List.take_length] at hg
        rw [List.take_length]
        refine hw_exit ?_
        refine seqQ_x ?_
        refine loopQ2_x ?_
        refine blockQ_eq ?_
        refine seqQ_n ?_
        refine hw_seq ?_
        refine hw_ghost (Ghost.fa0 5 rfl) ?_
        refine hw_reg ?_
        refine dp rfl (pop_move rfl) ?_
        refine dp rfl (pop_call ca42 rfl (WeakL.refl _) (c_benchref1_twice (l := l.map (·.Player)) (by simpa using hl))) ?_
        refine dn ?_
        refine hw_cond rfl (fun h11 => ?_) (fun h12 => ?_)
        · try simp at h11
          refine hw_reg ?_
          refine dp rfl (pop_assign rfl) ?_
          refine dn ?_
          refine hw_ret ?_
          first
          | (refine ret_p rfl ?_
             show HVal.int .i64 _ = _
             first | (rw [refKeeps, if_pos (by omega)]; done) | (rw [hg, refKeepsGo]; simp_all [isTwice]; done))
          | (refine ret_g Ghost.drop rfl ⟨?_, rfl⟩
             show HVal.int .i64 _ = _
             rw [hg, refKeepsGo]; simp_all; done)
        · try simp at h12
          refine hw_skip ?_
          refine seqQ_n ?_
          refine hw_reg ?_
          refine dp rfl (pop_assign rfl) ?_
          refine dn ?_
          refine hw_ret ?_
          first
          | (refine ret_p rfl ?_
             show HVal.int .i64 _ = _
             first | (rw [refKeeps, if_pos (by omega)]; done) | (rw [hg, refKeepsGo]; simp_all [isTwice]; done))
          | (refine ret_g Ghost.drop rfl ⟨?_, rfl⟩
             show HVal.int .i64 _ = _
             rw [hg, refKeepsGo]; simp_all; done)

/-- benchwarmer/benchref1.DraftFault -/
theorem c_benchref1_DraftFault {r : Room} {k : List Keep} {s : List Swap} (ht : r.Teams.length ≤ 1000000) (hp : r.Players.length ≤ 1000000) (hs1 : ∀ s ∈ r.Teams, s.length ≤ 1000000) (hs2 : ∀ s ∈ r.Players, s.length ≤ 1000000) (hk0 : k.length ≤ 1000000) (hl : s.length ≤ 1000000) : ConP Tryz.prog 36 [eRoom r, eKeeps k, eSwaps s] (.int .i64 (draftFault r k s)) := by
  refine Con.of_body Tryz.func36 rfl Tryz.ntmps36 rfl rfl ?_
  refine hw_reg ?_
  refine dp rfl (pop_box rfl rfl) ?_
  refine dp rfl (pop_assign rfl) ?_
  refine dn ?_
  refine hw_seq ?_
  refine hw_reg ?_
  refine dp rfl (pop_loadw ty28 rfl rfl rfl rfl) ?_
  refine dp rfl (pop_call ca7 rfl (WeakL.refl _) (c_benchref1_RoomFault (by first | assumption | omega | (simp; omega) | simp_all) (by first | assumption | omega | (simp; omega) | simp_all) (by first | assumption | omega | (simp; omega) | simp_all) (by first | assumption | omega | (simp; omega) | simp_all))) ?_
  refine dp rfl (pop_assign rfl) ?_
  refine dn ?_
  refine hw_reg ?_
  refine dp rfl (pop_move rfl) ?_
  refine dp rfl (pop_neq rfl rfl) ?_
  refine dn ?_
  refine hw_cond rfl (fun h1 => ?_) (fun h2 => ?_)
  · try simp at h1
    refine hw_reg ?_
    refine dp rfl (pop_move rfl) ?_
    refine dp rfl (pop_assign rfl) ?_
    refine dn ?_
    refine hw_ret ?_
    refine ret_p rfl ?_
    show HVal.int .i64 _ = _
    simp_all [draftFault]
  · try simp at h2
    refine hw_skip ?_
    refine seqQ_n ?_
    refine hw_draw (fun _ => True) [] mixed ?_
    refine ahp 0 rfl rfl (by kernel_rfl) (by kernel_rfl) (pop_loadw ty28 rfl rfl rfl rfl) ?_
    refine ahp 1 rfl rfl (by kernel_rfl) (by kernel_rfl) (pop_move rfl) ?_
    refine ahp 2 rfl rfl (by kernel_rfl) (by kernel_rfl) (pop_call ca9 rfl (WeakL.refl _) (c_benchref1_KeepsFault (by first | assumption | omega | (simp; omega) | simp_all) (by first | assumption | omega | (simp; omega) | simp_all) (by first | assumption | omega | (simp; omega) | simp_all))) ?_
    refine ahp 3 rfl rfl (by kernel_rfl) (by kernel_rfl) (pop_loadw ty28 rfl rfl rfl rfl) ?_
    refine ahp 4 rfl rfl (by kernel_rfl) (by kernel_rfl) (pop_move rfl) ?_
    refine ahp 5 rfl rfl (by kernel_rfl) (by kernel_rfl) (pop_call ca10 rfl (WeakL.refl _) (c_benchref1_SwapsFault (by first | assumption | omega | (simp; omega) | simp_all) (by first | assumption | omega | (simp; omega) | simp_all) (by first | assumption | omega | (simp; omega) | simp_all))) ?_
    refine ahp 6 rfl rfl (by kernel_rfl) (by kernel_rfl) (pop_buildSlice (hs := [_, _]) ty112 ty34 rfl rfl (by decide) (by decide) rfl) ?_
    refine ahp 7 rfl rfl (by kernel_rfl) (by kernel_rfl) (pop_call ca58 rfl (WeakL.refl _) (c_cmp_Or_api_Errno (l := [_, _]) (by simp))) ?_
    refine ahp 8 rfl rfl (by kernel_rfl) (by kernel_rfl) (pop_assign rfl) ?_
    refine ahz (by kernel_rfl) ?_
    refine hw_ret ?_
    refine ret_p rfl ?_
    show HVal.int .i64 _ = _
    simp_all [draftFault]

/-- benchwarmer/benchref1.OpenFault -/
theorem c_benchref1_OpenFault {r : Room} {k : List Keep} {s : List Swap} (ht : r.Teams.length ≤ 1000000) (hp : r.Players.length ≤ 1000000) (hs1 : ∀ s ∈ r.Teams, s.length ≤ 1000000) (hs2 : ∀ s ∈ r.Players, s.length ≤ 1000000) (hk0 : k.length ≤ 1000000) (hl : s.length ≤ 1000000) : ConP Tryz.prog 8 [eRoom r, eKeeps k, eSwaps s] (.int .i64 (refOpenFault r k s)) := by
  refine Con.of_body Tryz.func8 rfl Tryz.ntmps8 rfl rfl ?_
  refine hw_reg ?_
  refine dp rfl (pop_box rfl rfl) ?_
  refine dp rfl (pop_assign rfl) ?_
  refine dn ?_
  refine hw_seq ?_
  refine hw_reg ?_
  refine dp rfl (pop_loadw ty28 rfl rfl rfl rfl) ?_
  refine dp rfl (pop_move rfl) ?_
  refine dp rfl (pop_move rfl) ?_
  refine dp rfl (pop_call ca36 rfl (WeakL.refl _) (c_benchref1_DraftFault (by first | assumption | omega | (simp; omega) | simp_all) (by first | assumption | omega | (simp; omega) | simp_all) (by first | assumption | omega | (simp; omega) | simp_all) (by first | assumption | omega | (simp; omega) | simp_all) (by first | assumption | omega | (simp; omega) | simp_all) (by first | assumption | omega | (simp; omega) | simp_all))) ?_
  refine dp rfl (pop_assign rfl) ?_
  refine dn ?_
  refine hw_reg ?_
  refine dp rfl (pop_move rfl) ?_
  refine dp rfl (pop_neq rfl rfl) ?_
  refine dn ?_
  refine hw_cond rfl (fun h1 => ?_) (fun h2 => ?_)
  · try simp at h1
    refine hw_reg ?_
    refine dp rfl (pop_move rfl) ?_
    refine dp rfl (pop_assign rfl) ?_
    refine dn ?_
    refine hw_ret ?_
    refine ret_p rfl ?_
    show HVal.int .i64 _ = _
    first | (rw [refOpenFault, if_pos (by simp_all)]; done) | (rw [hg, clashGo]; simp_all [clash]; done) | (rw [hg]; rfl)
  · try simp at h2
    refine hw_skip ?_
    refine seqQ_n ?_
    refine hw_seq ?_
    refine hw_reg ?_
    refine dp rfl (pop_move rfl) ?_
    refine dp rfl (pop_lenm ty30 rfl) ?_
    refine dp rfl (pop_move rfl) ?_
    refine dn ?_
    refine hw_block ?_
    refine hw_loopw [6, 9, 10, 11, 21, 22, 23, 24, 25, 26, 27, 28, 29, 30, 31, 32, 33, 34, 35] (fun (i : Nat) => [(21, .int .i64 i)]) (fun (i : Nat) => []) (fun (i : Nat) => i ≤ k.length ∧ (refOpenFault r k s = clashGo s (k.drop i))) (fun (i : Nat) => k.length - i) (0) ?_ ?_ ?_ ?_
    · refine ⟨Nat.zero_le _, ?_⟩
      rw [refOpenFault, if_neg (by simp_all)]; rfl
    · exact ⟨rfl, trivial⟩
    · exact List.Perm.refl _
    · intro i hinv
      obtain ⟨hi, hg⟩ := hinv
      refine hw_reg ?_
      refine dp rfl (pop_lss rfl rfl) ?_
      refine dn ?_
      refine hw_seq ?_
      refine hw_cond rfl (fun h3 => ?_) (fun h4 => ?_)
      · try simp at h3
        obtain ⟨x, hx⟩ : ∃ x, k[i]? = some x := ⟨_, List.getElem?_eq_getElem h3⟩
        have hdx := drop_cons hx
        rw [hdx] at hg
        refine hw_skip ?_
        refine seqQ_n ?_
        refine hw_seq ?_
        refine hw_block ?_
        refine hw_reg ?_
        refine dp rfl (pop_idx ty30 ty61 rfl rfl rfl (by first | assumption | simp_all)) ?_
        refine dp rfl (pop_loadw ty61 rfl rfl rfl rfl) ?_
        refine de rfl (eop_alloc ty61 rfl fun b9 => ?_)
        refine de0 (eop_storew ty61 rfl rfl rfl rfl rfl ?_)
        refine dn ?_
        refine hw_ghost (Ghost.fc0 9 rfl) ?_
        refine hw_reg ?_
        refine dp rfl (pop_move rfl) ?_
        refine dp rfl (pop_fieldAddr ty61 rfl ty3 (by decide) rfl) ?_
        refine dp rfl (pop_load ty3 rfl rfl rfl) ?_
        refine dp rfl (pop_fieldAddr ty61 rfl ty9 (by decide) rfl) ?_
        refine dp rfl (pop_load ty9 rfl rfl rfl) ?_
        refine dp rfl (pop_call ca37 rfl (WeakL.refl _) (c_benchref1_swapped (by first | assumption | omega | (simp; omega) | simp_all))) ?_
        refine dp rfl (pop_move rfl) ?_
        refine dp rfl (pop_extract rfl rfl) ?_
        refine dp rfl (pop_extract rfl rfl) ?_
        refine dp rfl (pop_assign rfl) ?_
        refine dp rfl (pop_assign rfl) ?_
        refine dn ?_
        refine hw_reg ?_
        refine dp rfl (pop_move rfl) ?_
        refine dn ?_
        refine hw_cond rfl (fun h5 => ?_) (fun h6 => ?_)
        · try simp at h5
          refine hw_reg ?_
          refine dp rfl (pop_assign rfl) ?_
          refine dn ?_
          refine hw_ret ?_
          refine ret_p rfl ?_
          show HVal.int .i64 _ = _
          first | (rw [refOpenFault, if_pos (by simp_all)]; done) | (rw [hg, clashGo]; simp_all [clash]; done) | (rw [hg]; rfl)
        · try simp at h6
          refine hw_skip ?_
          refine blockQ_n ?_
          refine seqQ_n ?_
          refine hw_reg1 ?_
          refine dp rfl (pop_add64 rfl rfl (by omega) (by omega)) ?_
          refine dp rfl (pop_move rfl) ?_
          refine dn ?_
          refine ⟨i + 1, ?_, ?_, ⟨rfl, trivial⟩, (by repeat (first | exact keeps_refl | refine keeps_upd rfl ?_ | refine keeps_loop rfl rfl ?_)), List.Perm.refl _⟩
          · refine ⟨by omega, ?_⟩
            rw [hg, clashGo]; simp_all [clash]
          · dsimp only; omega
      · try simp at h4
        have hni : k.length ≤ i := by omega
        obtain rfl : i = k.length := by omega
        rw [drop_all (Nat.le_refl _)] at hg
        refine hw_exit ?_
        refine seqQ_x ?_
        refine loopQ_x ?_
        refine blockQ_eq ?_
        refine seqQ_n ?_
        refine hw_reg ?_
        refine dp rfl (pop_assign rfl) ?_
        refine dn ?_
        refine hw_ret ?_
        refine ret_p rfl ?_
        show HVal.int .i64 _ = _
        first | (rw [refOpenFault, if_pos (by simp_all)]; done) | (rw [hg, clashGo]; simp_all [clash]; done) | (rw [hg]; rfl)

/-- benchwarmer/benchref1.TurnsFor -/
theorem c_benchref1_TurnsFor {r : Room} {s : List Swap} (ht0 : 0 < r.Teams.length) (ht : r.Teams.length ≤ 20) (hr0 : 1 ≤ r.Rounds) (hr : r.Rounds ≤ 30) (hl : s.length ≤ 1000000) : ConP Tryz.prog 17 [eRoom r, eSwaps s] (eSs ((turns r s).map (·.team))) := by
  have ho := ownFrom_len r r.Rounds.toNat
  have hm := Nat.mul_le_mul (show r.Rounds.toNat ≤ 30 by omega) ht
  have ho6 : (ownTurns r).length ≤ 600 := by unfold ownTurns; omega
  refine Con.of_body Tryz.func17 rfl Tryz.ntmps17 rfl rfl ?_
  refine hw_reg ?_
  refine dp rfl (pop_box rfl rfl) ?_
  refine dp rfl (pop_assign rfl) ?_
  refine dn ?_
  refine hw_reg ?_
  refine dp rfl (pop_assign rfl) ?_
  refine dn ?_
  refine hw_ghost (Ghost.arr_nil 1) ?_
  refine hw_seq ?_
  refine hw_reg ?_
  refine dp rfl (pop_loadw ty28 rfl rfl rfl rfl) ?_
  refine dp rfl (pop_call ca51 rfl (WeakL.refl _) (c_benchref1_ownTurns (by first | assumption | omega | (simp; omega) | simp_all) (by first | assumption | omega | (simp; omega) | simp_all) (by first | assumption | omega | (simp; omega) | simp_all))) ?_
  refine dp rfl (pop_lenm ty26 rfl) ?_
  refine dp rfl (pop_move rfl) ?_
  refine dn ?_
  refine hw_block ?_
  refine hw_loopw2 [5, 6, 7, 8, 9, 13, 14, 15, 16, 17, 18, 19, 20, 21, 22, 23, 24, 25, 26, 27, 28, 29, 30, 31, 32, 33, 34] (fun (k : Nat) (u : Value) => [(13, .int .i64 k), (5, .raw u)]) (fun (k : Nat) (u : Value) => [.arr u 1 ((((tfor r s 0 (ownTurns r)).take k).map (·.team)).map .str)]) (fun (k : Nat) (u : Value) => k ≤ (ownTurns r).length ∧ (True)) (fun (k : Nat) (u : Value) => (ownTurns r).length - k) (0) (.slice none 0 0) ?_ ?_ ?_ ?_
  · exact ⟨Nat.zero_le _, by simp_all⟩
  · exact ⟨rfl, rfl, trivial⟩
  · exact perm_eq (by simp)
  · intro k u hinv
    obtain ⟨hk, -⟩ := hinv
    refine hw_reg ?_
    refine dp rfl (pop_lss rfl rfl) ?_
    refine dn ?_
    refine hw_seq ?_
    refine hw_cond rfl (fun h1 => ?_) (fun h2 => ?_)
    · try simp at h1
      obtain ⟨x, hx⟩ : ∃ x, (ownTurns r)[k]? = some x := ⟨_, List.getElem?_eq_getElem h1⟩
      have hdx := drop_cons hx
      refine hw_skip ?_
      refine seqQ_n ?_
      refine hw_seq ?_
      refine hw_block ?_
      refine hw_reg ?_
      refine dp rfl (pop_move rfl) ?_
      refine dp rfl (pop_idx ty26 ty9 rfl rfl rfl (by first | assumption | simp_all)) ?_
      refine dp rfl (pop_load ty9 rfl rfl rfl) ?_
      refine dp rfl (pop_assign rfl) ?_
      refine dp rfl (pop_assign rfl) ?_
      refine dn ?_
      refine hw_reg ?_
      refine dp rfl (pop_move rfl) ?_
      refine dp rfl (pop_move rfl) ?_
      refine dp rfl (pop_fieldAddr ty28 rfl ty26 (by decide) rfl) ?_
      refine dp rfl (pop_load ty26 rfl rfl rfl) ?_
      refine dp rfl (pop_lenm ty26 rfl) ?_
      refine dp rfl (pop_eq (pop_quo64 rfl rfl (by omega) (by omega) (by omega)) (congrArg _ (tdiv_nat _ _))) ?_
      have hdl := Nat.div_le_self k r.Teams.length
      have hdn : (0:Int) ≤ ((k / r.Teams.length : Nat) : Int) := Int.natCast_nonneg _
      refine dp rfl (pop_add64 rfl rfl (by omega) (by omega)) ?_
      refine dp rfl (pop_move rfl) ?_
      refine dp rfl (pop_call ca37 rfl (WeakL.refl _) (c_benchref1_swapped (by first | assumption | omega | (simp; omega) | simp_all))) ?_
      refine dp rfl (pop_move rfl) ?_
      refine dp rfl (pop_extract rfl rfl) ?_
      refine dp rfl (pop_extract rfl rfl) ?_
      refine dp rfl (pop_assign rfl) ?_
      refine dp rfl (pop_assign rfl) ?_
      refine dn ?_
      refine hw_reg1 ?_
      refine dp rfl (pop_move rfl) ?_
      refine dp rfl (pop_move rfl) ?_
      refine dp rfl (pop_buildSlice (hs := [_]) ty26 ty9 rfl rfl (by decide) (by decide) rfl) ?_
      refine de rfl (eop_append (i := 0) ty26 ty9 rfl rfl rfl rfl rfl (by simp [flat, hcells]) (by first | omega | (simp; omega)) fun v33 => ?_)
      refine dp rfl (pop_assign rfl) ?_
      refine dn ?_
      refine blockQ_n ?_
      refine seqQ_n ?_
      refine hw_reg1 ?_
      refine dp rfl (pop_add64 rfl rfl (by omega) (by omega)) ?_
      refine dp rfl (pop_move rfl) ?_
      refine dn ?_
      refine ⟨k + 1, _, ?_, ?_, ⟨rfl, rfl, trivial⟩, (by repeat (first | exact keeps_refl | refine keeps_upd rfl ?_ | refine keeps_loop rfl rfl ?_)), perm_eq (by dsimp only; rw [take_map_snoc _ (tfor_get r s _ 0 k x hx)]; simp)⟩
      · exact ⟨by omega, trivial⟩
      · dsimp only; omega
    · try simp at h2
      have hnk : (ownTurns r).length ≤ k := by omega
      obtain rfl : k = (ownTurns r).length := by omega
      refine hw_exit ?_
      refine seqQ_x ?_
      refine loopQ2_x ?_
      refine blockQ_eq ?_
      refine seqQ_n ?_
      refine hw_reg ?_
      refine dp rfl (pop_move rfl) ?_
      refine dp rfl (pop_assign rfl) ?_
      refine dn ?_
      refine hw_ret ?_
      refine ret_fa (M := []) 4 rfl rfl ?_
      rw [← ref_turns, ← tfor_len r s 0 (ownTurns r), List.take_length]

/-- benchwarmer/benchref1.OpenOf -/
theorem c_benchref1_OpenOf {r : Room} {l : List Keep} {s : List Swap} (ht0 : 0 < r.Teams.length) (ht : r.Teams.length ≤ 20) (hr0 : 1 ≤ r.Rounds) (hr : r.Rounds ≤ 30) (hk0 : l.length ≤ 1000000) (hl : s.length ≤ 1000000) (hlen : (turns r s).length ≤ 600) : ConP Tryz.prog 20 [eRoom r, eKeeps l, eSwaps s] (ePicks (open1 r l s)) := by
  have ho := ownFrom_len r r.Rounds.toNat
  have hm := Nat.mul_le_mul (show r.Rounds.toNat ≤ 30 by omega) ht
  have ho6 : (ownTurns r).length ≤ 600 := by unfold ownTurns; omega
  have hot : (ownTurns r).length = (turns r s).length := by rw [← ref_turns, tfor_len]
  refine Con.of_body Tryz.func20 rfl Tryz.ntmps20 rfl rfl ?_
  refine hw_reg ?_
  refine dp rfl (pop_box rfl rfl) ?_
  refine dp rfl (pop_assign rfl) ?_
  refine dn ?_
  refine hw_reg ?_
  refine dp rfl (pop_loadw ty28 rfl rfl rfl rfl) ?_
  refine dp rfl (pop_call ca51 rfl (WeakL.refl _) (c_benchref1_ownTurns (by first | assumption | omega | (simp; omega) | simp_all) (by first | assumption | omega | (simp; omega) | simp_all) (by first | assumption | omega | (simp; omega) | simp_all))) ?_
  refine dp rfl (pop_assign rfl) ?_
  refine dn ?_
  refine hw_reg ?_
  refine dp rfl (pop_assign rfl) ?_
  refine dn ?_
  refine hw_ghost (Ghost.arr_nil 5) ?_
  refine hw_seq ?_
  refine hw_reg ?_
  refine dp rfl (pop_loadw ty28 rfl rfl rfl rfl) ?_
  refine dp rfl (pop_move rfl) ?_
  refine dp rfl (pop_call ca17 rfl (WeakL.refl _) (c_benchref1_TurnsFor (by first | assumption | omega | (simp; omega) | simp_all) (by first | assumption | omega | (simp; omega) | simp_all) (by first | assumption | omega | (simp; omega) | simp_all) (by first | assumption | omega | (simp; omega) | simp_all) (by first | assumption | omega | (simp; omega) | simp_all))) ?_
  refine dp rfl (pop_lenm ty26 rfl) ?_
  refine dp rfl (pop_move rfl) ?_
  refine dn ?_
  refine hw_block ?_
  refine hw_loopw2 [8, 9, 10, 11, 13, 20, 21, 22, 23, 24, 25, 26, 27, 28, 29, 30, 31, 32, 33, 34, 35, 36, 37, 38, 39, 40, 41, 42, 43, 44, 45, 46, 47, 48, 49, 50, 51, 52, 53, 54, 55, 56, 57, 58, 59, 60, 61, 62, 63] (fun (i : Nat) (u : Value) => [(20, .int .i64 i), (8, .raw u)]) (fun (i : Nat) (u : Value) => [.arr u 5 ((openFrom r l 0 ((turns r s).take i)).map ePick)]) (fun (i : Nat) (u : Value) => i ≤ (turns r s).length ∧ (True)) (fun (i : Nat) (u : Value) => (turns r s).length - i) (0) (.slice none 0 0) ?_ ?_ ?_ ?_
  · exact ⟨Nat.zero_le _, by simp_all⟩
  · exact ⟨rfl, rfl, trivial⟩
  · exact perm_eq (by simp [openFrom])
  · intro i u hinv
    obtain ⟨hi, -⟩ := hinv
    refine hw_reg ?_
    refine dp rfl (pop_lss rfl rfl) ?_
    refine dn ?_
    refine hw_seq ?_
    refine hw_cond rfl (fun h1 => ?_) (fun h2 => ?_)
    · try simp at h1
      obtain ⟨t, ht⟩ : ∃ t, (turns r s)[i]? = some t := ⟨_, List.getElem?_eq_getElem h1⟩
      have hdt := drop_cons ht
      obtain ⟨w, hw⟩ : ∃ w, (ownTurns r)[i]? = some w := ⟨_, List.getElem?_eq_getElem (by omega)⟩
      have htw := tfor_get r s _ 0 i w hw
      rw [ref_turns, ht, Nat.zero_add] at htw
      obtain rfl := Option.some.inj htw
      have hdl := Nat.div_le_self i r.Teams.length
      have hdn : (0:Int) ≤ ((i / r.Teams.length : Nat) : Int) := Int.natCast_nonneg _
      refine hw_skip ?_
      refine seqQ_n ?_
      refine hw_seq ?_
      refine hw_block ?_
      refine hw_reg ?_
      refine dp rfl (pop_move rfl) ?_
      refine dp rfl (pop_idx (j := i) (a := owner (((i / r.Teams.length : Nat) : Int) + 1) w s) ty26 ty9 rfl rfl rfl (by rw [List.getElem?_map, ht]; rfl)) ?_
      refine dp rfl (pop_load ty9 rfl rfl rfl) ?_
      refine dp rfl (pop_assign rfl) ?_
      refine dp rfl (pop_assign rfl) ?_
      refine dn ?_
      refine hw_reg ?_
      refine dp rfl (pop_move rfl) ?_
      refine dp rfl (pop_move rfl) ?_
      refine dp rfl (pop_build (cs := [_, _, _, _, _]) ty49 pl49 rfl) ?_
      refine de rfl (eop_alloc ty49 rfl fun b11 => ?_)
      refine de0 (eop_storew ty49 rfl rfl rfl rfl rfl ?_)
      refine dn ?_
      refine hw_seq ?_
      refine hw_reg ?_
      refine dp rfl (pop_move rfl) ?_
      refine dp rfl (pop_lenm ty30 rfl) ?_
      refine dp rfl (pop_move rfl) ?_
      refine dn ?_
      refine hw_block ?_
      refine hw_loopw2 [13, 30, 31, 32, 33, 34, 35, 36, 37, 38, 39, 40, 41, 42, 43, 44, 45, 46, 47, 48, 49, 50, 51, 52, 53, 54, 55, 56, 57, 58] (fun (k : Nat) (p : Pick) => [(30, .int .i64 k)]) (fun (k : Nat) (p : Pick) => [.cells b11 (hcells (ePick p)), .arr u 5 ((openFrom r l 0 ((turns r s).take i)).map ePick)]) (fun (k : Nat) (p : Pick) => k ≤ l.length ∧ (p = keepIn r (⟨((i / r.Teams.length : Nat) : Int) + 1, w, owner (((i / r.Teams.length : Nat) : Int) + 1) w s⟩ : Turn) ⟨i, (⟨((i / r.Teams.length : Nat) : Int) + 1, w, owner (((i / r.Teams.length : Nat) : Int) + 1) w s⟩ : Turn).team, [], 0, false⟩ (l.take k))) (fun (k : Nat) (p : Pick) => l.length - k) (0) (⟨i, owner (((i / r.Teams.length : Nat) : Int) + 1) w s, [], 0, false⟩) ?_ ?_ ?_ ?_
      · exact ⟨Nat.zero_le _, by simp [keepIn]⟩
      · exact ⟨rfl, trivial⟩
      · exact List.Perm.refl _
      · intro k p hinv
        obtain ⟨hk, hp⟩ := hinv
        refine hw_reg ?_
        refine dp rfl (pop_lss rfl rfl) ?_
        refine dn ?_
        refine hw_seq ?_
        refine hw_cond rfl (fun h3 => ?_) (fun h4 => ?_)
        · try simp at h3
          obtain ⟨x, hx⟩ : ∃ x, l[k]? = some x := ⟨_, List.getElem?_eq_getElem h3⟩
          have hdx := drop_cons hx
          refine hw_skip ?_
          refine seqQ_n ?_
          refine hw_seq ?_
          refine hw_block ?_
          refine hw_reg ?_
          refine dp rfl (pop_idx ty30 ty61 rfl rfl rfl (by first | assumption | simp_all)) ?_
          refine dp rfl (pop_loadw ty61 rfl rfl rfl rfl) ?_
          refine de rfl (eop_alloc ty61 rfl fun b13 => ?_)
          refine de0 (eop_storew ty61 rfl rfl rfl rfl rfl ?_)
          refine dn ?_
          refine hw_ghost (Ghost.fc0 13 rfl) ?_
          refine hw_draw (fun _ => True) [] mixed ?_
          refine ahp 0 rfl rfl (by kernel_rfl) (by kernel_rfl) (pop_fieldAddr ty61 rfl ty9 (by decide) rfl) ?_
          refine ahp 1 rfl rfl (by kernel_rfl) (by kernel_rfl) (pop_load ty9 rfl rfl rfl) ?_
          refine ahp 2 rfl rfl (by kernel_rfl) (by kernel_rfl) (pop_move rfl) ?_
          refine ahp 3 rfl rfl (by kernel_rfl) (by kernel_rfl) (pop_move rfl) ?_
          refine ahp 4 rfl rfl (by kernel_rfl) (by kernel_rfl) (pop_idx (j := i) (a := w) ty26 ty9 rfl rfl rfl hw) ?_
          refine ahp 5 rfl rfl (by kernel_rfl) (by kernel_rfl) (pop_load ty9 rfl rfl rfl) ?_
          refine ahp 6 rfl rfl (by kernel_rfl) (by kernel_rfl) (pop_eqls rfl rfl) ?_
          refine ahp 7 rfl rfl (by kernel_rfl) (by kernel_rfl) (pop_move rfl) ?_
          refine ahg 8 rfl rfl (by kernel_rfl) (by kernel_rfl) rfl (fun hc => ⟨_, OpenTo.refl _, pop_fieldAddr ty61 rfl ty3 (by decide) rfl⟩) ?_
          refine ahg 9 rfl rfl (by kernel_rfl) (by kernel_rfl) rfl (fun hc => ⟨_, OpenTo.upd (t := 42) rfl (by first | exact hc | simp_all) (OpenTo.refl _), pop_load ty3 rfl rfl rfl⟩) ?_
          refine ahg 10 rfl rfl (by kernel_rfl) (by kernel_rfl) rfl (fun hc => ⟨_, OpenTo.refl _, pop_move rfl⟩) ?_
          refine ahg 11 rfl rfl (by kernel_rfl) (by kernel_rfl) rfl (fun hc => ⟨_, OpenTo.refl _, pop_fieldAddr ty28 rfl ty26 (by decide) rfl⟩) ?_
          refine ahg 12 rfl rfl (by kernel_rfl) (by kernel_rfl) rfl (fun hc => ⟨_, OpenTo.upd (t := 45) rfl (by first | exact hc | simp_all) (OpenTo.refl _), pop_load ty26 rfl rfl rfl⟩) ?_
          refine ahg 13 rfl rfl (by kernel_rfl) (by kernel_rfl) rfl (fun hc => ⟨_, OpenTo.upd (t := 46) rfl (by first | exact hc | simp_all) (OpenTo.refl _), pop_lenm ty26 rfl⟩) ?_
          refine ahg 14 rfl rfl (by kernel_rfl) (by kernel_rfl) rfl (fun hc => by have hq := hc; (try simp at hq); exact ⟨_, OpenTo.upd (t := 47) rfl (by first | exact hc | simp_all) (OpenTo.upd (t := 44) rfl (by first | exact hc | simp_all) (OpenTo.refl _)), pop_eq (pop_quo64 rfl rfl (by omega) (by omega) (by omega)) (congrArg _ (tdiv_nat _ _))⟩) ?_
          refine ahg 15 rfl rfl (by kernel_rfl) (by kernel_rfl) rfl (fun hc => by have hq := hc; (try simp at hq); exact ⟨_, OpenTo.upd (t := 48) rfl (by first | exact hc | simp_all) (OpenTo.refl _), pop_add64 rfl rfl (by omega) (by omega)⟩) ?_
          refine ahg 16 rfl rfl (by kernel_rfl) (by kernel_rfl) rfl (fun hc => ⟨_, OpenTo.upd (t := 49) rfl (by first | exact hc | simp_all) (OpenTo.upd (t := 43) rfl (by first | exact hc | simp_all) (OpenTo.refl _)), pop_eql rfl rfl⟩) ?_
          refine ahp 17 rfl rfl (by kernel_rfl) (by kernel_rfl) (pop_picko rfl (.inr ⟨_, rfl, fun h => by simp_all⟩) (.inl rfl)) ?_
          refine ahz (by kernel_rfl) ?_
          refine hw_cond rfl (fun h5 => ?_) (fun h6 => ?_)
          · try simp at h5
            refine hw_draw1 (fun _ => True) [] mixed ?_
            refine ahp 0 rfl rfl (by kernel_rfl) (by kernel_rfl) (pop_fieldAddr ty61 rfl ty9 (by decide) rfl) ?_
            refine ahp 1 rfl rfl (by kernel_rfl) (by kernel_rfl) (pop_load ty9 rfl rfl rfl) ?_
            refine ahp 2 rfl rfl (by kernel_rfl) (by kernel_rfl) (pop_fieldAddr ty28 rfl ty3 (by decide) rfl) ?_
            refine ahp 3 rfl rfl (by kernel_rfl) (by kernel_rfl) (pop_load ty3 rfl rfl rfl) ?_
            refine ahp 4 rfl rfl (by kernel_rfl) (by kernel_rfl) (pop_fieldAddr_raw ty49 rfl ty9 (by decide) rfl) ?_
            refine ahe 5 rfl (by kernel_rfl) ?_
            refine hop_e0 (eop_store (i := 0) ty9 rfl rfl rfl rfl rfl (Nat.le_of_ble_eq_true rfl) ?_)
            refine ⟨fun _ => .inl trivial, ?_⟩
            refine ahp 6 rfl rfl (by kernel_rfl) (by kernel_rfl) (pop_fieldAddr_raw ty49 rfl ty3 (by decide) rfl) ?_
            refine ahe 7 rfl (by kernel_rfl) ?_
            refine hop_e0 (eop_store (i := 0) ty3 rfl rfl rfl rfl rfl (Nat.le_of_ble_eq_true rfl) ?_)
            refine ⟨fun _ => .inl trivial, ?_⟩
            refine ahz (by kernel_rfl) ?_
            refine blockQ_n ?_
            refine seqQ_n ?_
            refine hw_reg1 ?_
            refine dp rfl (pop_add64 rfl rfl (by omega) (by omega)) ?_
            refine dp rfl (pop_move rfl) ?_
            refine dn ?_
            first
            | exact ⟨k + 1, { p with Player := x.Player, At := r.Start }, ⟨by omega, by rw [List.take_add_one, hx, hp]; exact (keepIn_snoc r _ _ x _).symm ▸ (by simp_all)⟩, by dsimp only; omega, ⟨rfl, trivial⟩, (by repeat (first | exact keeps_refl | refine keeps_upd rfl ?_ | refine keeps_loop rfl rfl ?_)), List.Perm.refl _⟩
            | exact ⟨k + 1, p, ⟨by omega, by rw [List.take_add_one, hx, hp]; exact (keepIn_snoc r _ _ x _).symm ▸ (by simp_all)⟩, by dsimp only; omega, ⟨rfl, trivial⟩, (by repeat (first | exact keeps_refl | refine keeps_upd rfl ?_ | refine keeps_loop rfl rfl ?_)), List.Perm.refl _⟩
          · try simp at h6
            refine hw_skip ?_
            refine blockQ_n ?_
            refine seqQ_n ?_
            refine hw_reg1 ?_
            refine dp rfl (pop_add64 rfl rfl (by omega) (by omega)) ?_
            refine dp rfl (pop_move rfl) ?_
            refine dn ?_
            first
            | exact ⟨k + 1, { p with Player := x.Player, At := r.Start }, ⟨by omega, by rw [List.take_add_one, hx, hp]; exact (keepIn_snoc r _ _ x _).symm ▸ (by simp_all)⟩, by dsimp only; omega, ⟨rfl, trivial⟩, (by repeat (first | exact keeps_refl | refine keeps_upd rfl ?_ | refine keeps_loop rfl rfl ?_)), List.Perm.refl _⟩
            | exact ⟨k + 1, p, ⟨by omega, by rw [List.take_add_one, hx, hp]; exact (keepIn_snoc r _ _ x _).symm ▸ (by simp_all)⟩, by dsimp only; omega, ⟨rfl, trivial⟩, (by repeat (first | exact keeps_refl | refine keeps_upd rfl ?_ | refine keeps_loop rfl rfl ?_)), List.Perm.refl _⟩
        · try simp at h4
          have hnk : l.length ≤ k := by omega
          obtain rfl : k = l.length := by omega
          rw [List.take_length] at hp
          subst hp
          refine hw_exit ?_
          refine seqQ_x ?_
          refine loopQ2_x ?_
          refine blockQ_eq ?_
          refine seqQ_n ?_
          have ho7 : (openFrom r l 0 ((turns r s).take i)).length ≤ 600 := by rw [openFrom_len]; simp; omega
          refine hw_reg1 ?_
          refine dp rfl (pop_move rfl) ?_
          refine de rfl (eop_loadw (i := 0) ty49 rfl rfl rfl rfl rfl ?_)
          refine dp rfl (pop_buildSlice (hs := [_]) ty41 ty49 rfl rfl (by decide) (by decide) rfl) ?_
          refine de rfl (eop_append (i := 1) ty41 ty49 rfl rfl rfl rfl rfl (by simp [flat, hcells]) (by first | omega | (simp; omega)) fun v62 => ?_)
          refine dp rfl (pop_assign rfl) ?_
          refine dn ?_
          refine blockQ_n ?_
          refine seqQ_n ?_
          refine hw_ghost Ghost.drop ?_
          refine hw_reg1 ?_
          refine dp rfl (pop_add64 rfl rfl (by omega) (by omega)) ?_
          refine dp rfl (pop_move rfl) ?_
          refine dn ?_
          refine ⟨i + 1, _, ?_, ?_, ⟨rfl, rfl, trivial⟩, (by repeat (first | exact keeps_refl | refine keeps_upd rfl ?_ | refine keeps_loop rfl rfl ?_)), perm_eq (by simp [List.take_add_one, ht, openFrom_snoc, Nat.min_eq_left hi])⟩
          · exact ⟨by omega, trivial⟩
          · dsimp only; omega
    · try simp at h2
      have hni : (turns r s).length ≤ i := by omega
      obtain rfl : i = (turns r s).length := by omega
      refine hw_exit ?_
      refine seqQ_x ?_
      refine loopQ2_x ?_
      refine blockQ_eq ?_
      refine seqQ_n ?_
      refine hw_reg ?_
      refine dp rfl (pop_move rfl) ?_
      refine dp rfl (pop_assign rfl) ?_
      refine dn ?_
      refine hw_ret ?_
      exact ret_fa (M := []) 6 rfl rfl (by simp [open1])
end Go.Proofs.YthkidikfikijhaaGreatDoor
