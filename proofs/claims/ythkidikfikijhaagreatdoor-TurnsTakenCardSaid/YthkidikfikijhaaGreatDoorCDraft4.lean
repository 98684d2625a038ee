/- Contracts of functions of the program, by the rules of the logic; printed by gen.py. -/
import Derived.Test.YthkidikfikijhaaGreatDoorCDraft3
import Derived.Test.YthkidikfikijhaaGreatDoorPure5
namespace Go.Proofs.YthkidikfikijhaaGreatDoor
open Go.HL
set_option maxRecDepth 100000
set_option linter.unusedVariables false
set_option linter.unusedSimpArgs false
/-- benchwarmer/draft.has -/
theorem c_draft_has {r : Room} {s : Str} (hp : r.Players.length ≤ 1000000) (hs : SortedS r.Players) : ConP Tryz.prog 47 [.vptr (hcells (eRoom r)) 0, .str s] (.bool (r.Players.contains s)) := by
  refine Con.of_body Tryz.func47 rfl Tryz.ntmps47 rfl rfl ?_
  refine hw_reg ?_
  refine dp rfl (pop_assign rfl) ?_
  refine dn ?_
  refine hw_reg ?_
  refine dp rfl (pop_move rfl) ?_
  refine dp rfl ((by first | exact pop_nilCheck rfl | exact pop_nilCheck_raw rfl)) ?_
  refine dp rfl (pop_fieldAddr ty28 rfl ty26 (by decide) rfl) ?_
  refine dp rfl (pop_load ty26 rfl rfl rfl) ?_
  refine dp rfl (pop_move rfl) ?_
  refine dp rfl (pop_call ca65 rfl (WeakL.refl _) (c_slices_BinarySearch_string_string (by first | assumption | omega | (simp; omega) | simp_all) (by first | assumption | omega | (simp; omega) | simp_all))) ?_
  refine dp rfl (pop_move rfl) ?_
  refine dp rfl (pop_extract rfl rfl) ?_
  refine dp rfl (pop_extract rfl rfl) ?_
  refine dp rfl (pop_assign rfl) ?_
  refine dp rfl (pop_assign rfl) ?_
  refine dn ?_
  refine hw_reg ?_
  refine dp rfl (pop_move rfl) ?_
  refine dp rfl (pop_assign rfl) ?_
  refine dn ?_
  refine hw_ret ?_
  refine ret_p rfl ?_
  rfl

/-- benchwarmer/draft.CheckKeeps -/
theorem c_draft_CheckKeeps {r : Room} {l : List Keep} (ht : r.Teams.length ≤ 1000000) (hp : r.Players.length ≤ 1000000) (hl : l.length ≤ 1000000) : ConP Tryz.prog 12 [eRoom r, eKeeps l] (.int .i64 (checkKeeps r l)) := by
  refine Con.of_body Tryz.func12 rfl Tryz.ntmps12 rfl rfl ?_
  refine hw_reg ?_
  refine dp rfl (pop_box rfl rfl) ?_
  refine dp rfl (pop_assign rfl) ?_
  refine dn ?_
  refine hw_seq ?_
  refine hw_reg ?_
  refine dp rfl (pop_loadw ty28 rfl rfl rfl rfl) ?_
  refine dp rfl (pop_call ca11 rfl (WeakL.refl _) (c_draft_CheckRoom (by first | assumption | omega | (simp; omega) | simp_all) (by first | assumption | omega | (simp; omega) | simp_all))) ?_
  refine dp rfl (pop_assign rfl) ?_
  refine dn ?_
  refine hw_reg ?_
  refine dp rfl (pop_move rfl) ?_
  refine dp rfl (pop_neq rfl rfl) ?_
  refine dn ?_
  refine hw_cond rfl (fun h1 => ?_) (fun h2 => ?_)
  · try simp at h1
    refine hw_reg ?_
    refine dp rfl (pop_move rfl) ?_
    refine dp rfl (pop_assign rfl) ?_
    refine dn ?_
    refine hw_ret ?_
    first
    | (refine ret_p rfl ?_
       show HVal.int .i64 _ = _
       first | (rw [checkKeeps, if_pos (by simp_all)]; done) | (rw [checkKeeps, if_neg (by simp_all), if_pos (by omega)]; done))
    | (refine ret_g Ghost.drop rfl ⟨?_, rfl⟩
       show HVal.int .i64 _ = _
       first | (rw [hg, keepsGo]; simp_all; done))
  · try simp at h2
    refine hw_skip ?_
    refine seqQ_n ?_
    refine hw_seq ?_
    refine hw_reg ?_
    refine dp rfl (pop_move rfl) ?_
    refine dp rfl (pop_lenm ty30 rfl) ?_
    refine dp rfl (pop_gtr rfl rfl) ?_
    refine dn ?_
    refine hw_cond rfl (fun h3 => ?_) (fun h4 => ?_)
    · try simp at h3
      refine hw_reg ?_
      refine dp rfl (pop_assign rfl) ?_
      refine dn ?_
      refine hw_ret ?_
      first
      | (refine ret_p rfl ?_
         show HVal.int .i64 _ = _
         first | (rw [checkKeeps, if_pos (by simp_all)]; done) | (rw [checkKeeps, if_neg (by simp_all), if_pos (by omega)]; done))
      | (refine ret_g Ghost.drop rfl ⟨?_, rfl⟩
         show HVal.int .i64 _ = _
         first | (rw [hg, keepsGo]; simp_all; done))
    · try simp at h4
      refine hw_skip ?_
      refine seqQ_n ?_
      refine hw_reg ?_
      refine de rfl (eop_makeMap fun m18 => ?_)
      refine dp rfl (pop_assign rfl) ?_
      refine dn ?_
      refine hw_reg ?_
      refine dp rfl (pop_assign rfl) ?_
      refine dn ?_
      refine hw_seq ?_
      refine hw_reg ?_
      refine dp rfl (pop_move rfl) ?_
      refine dp rfl (pop_lenm ty30 rfl) ?_
      refine dp rfl (pop_move rfl) ?_
      refine dn ?_
      refine hw_block ?_
      refine hw_loopw3 (4 :: 7 :: 8 :: 9 :: 21 :: 22 :: 23 :: 24 :: 25 :: 26 :: 27 :: 28 :: 29 :: 30 :: 31 :: 32 :: 33 :: 34 :: 35 :: 36 :: 37 :: 38 :: 39 :: 40 :: 41 :: 42 :: 43 :: 44 :: 45 :: 46 :: 47 :: 48 :: 49 :: 50 :: 51 :: 52 :: 53 :: 54 :: 55 :: 56 :: 57 :: 58 :: 59 :: 60 :: 61 :: 62 :: 63 :: 64 :: 65 :: 66 :: 67 :: 68 :: 69 :: 70 :: 71 :: 72 :: 73 :: 74 :: 75 :: 76 :: 77 :: 78 :: 79 :: 80 :: 81 :: []) (fun (k : Nat) (kept : List Str) (tw : Bool) => [(21, .int .i64 k), (7, .bool tw)]) (fun (k : Nat) (kept : List Str) (tw : Bool) => [.map m18 (sk (mset kept))]) (fun (k : Nat) (kept : List Str) (tw : Bool) => k ≤ l.length ∧ (checkKeeps r l = keepsGo r l k kept tw (l.drop k))) (fun (k : Nat) (kept : List Str) (tw : Bool) => l.length - k) (0) ([]) (false) ?_ ?_ ?_ ?_
      · refine ⟨Nat.zero_le _, ?_⟩
        rw [checkKeeps, if_neg (by simp_all), if_neg (by omega)]; rfl
      · exact ⟨rfl, rfl, trivial⟩
      · exact List.Perm.refl _
      · intro k kept tw hinv
        obtain ⟨hk, hg⟩ := hinv
        have hs := (checkRoom_ok (r := r) (by simp_all)).1
        refine hw_reg ?_
        refine dp rfl (pop_lss rfl rfl) ?_
        refine dn ?_
        refine hw_seq ?_
        refine hw_cond rfl (fun h5 => ?_) (fun h6 => ?_)
        · try simp at h5
          obtain ⟨x, hx⟩ : ∃ x, l[k]? = some x := ⟨_, List.getElem?_eq_getElem h5⟩
          have hdx := drop_cons hx
          rw [hdx] at hg
          refine hw_skip ?_
          refine seqQ_n ?_
          refine hw_seq ?_
          refine hw_block ?_
          refine hw_reg ?_
          refine dp rfl (pop_move rfl) ?_
          refine dp rfl (pop_idx ty30 ty61 rfl rfl rfl (by first | assumption | simp_all)) ?_
          refine dp rfl (pop_loadw ty61 rfl rfl rfl rfl) ?_
          refine de rfl (eop_alloc ty61 rfl fun b9 => ?_)
          refine dp rfl (pop_assign rfl) ?_
          refine de0 (eop_storew ty61 rfl rfl rfl rfl rfl ?_)
          refine dn ?_
          refine hw_ghost (Ghost.fc0 9 rfl) ?_
          refine hw_seq ?_
          refine hw_block ?_
          refine hw_reg ?_
          refine dp rfl (pop_fieldAddr ty28 rfl ty26 (by decide) rfl) ?_
          refine dp rfl (pop_load ty26 rfl rfl rfl) ?_
          refine dp rfl (pop_fieldAddr ty61 rfl ty9 (by decide) rfl) ?_
          refine dp rfl (pop_load ty9 rfl rfl rfl) ?_
          refine dp rfl (pop_call ca38 rfl (WeakL.refl _) (c_slices_Contains_string_string (by first | assumption | omega | (simp; omega) | simp_all))) ?_
          refine dp rfl (pop_not rfl) ?_
          refine dp rfl (pop_move rfl) ?_
          refine dg rfl rfl (fun hc => ⟨_, OpenTo.refl _, pop_fieldAddr ty61 rfl ty9 (by decide) rfl⟩) ?_
          refine dg rfl rfl (fun hc => ⟨_, OpenTo.upd (t := 34) rfl (by first | exact hc | simp_all) (OpenTo.refl _), pop_load ty9 rfl rfl rfl⟩) ?_
          refine dg rfl rfl (fun hc => by have hq := hc; (try simp at hq); exact ⟨_, OpenTo.upd (t := 35) rfl (by first | exact hc | simp_all) (OpenTo.refl _), pop_call ca47 rfl (WeakL.refl _) (c_draft_has (by first | assumption | omega | (simp; omega) | simp_all) (by first | assumption | omega | (simp; omega) | simp_all))⟩) ?_
          refine dg rfl rfl (fun hc => ⟨_, OpenTo.upd (t := 36) rfl (by first | exact hc | simp_all) (OpenTo.refl _), pop_not rfl⟩) ?_
          refine dp rfl (pop_picko rfl (.inl rfl) (.inr ⟨_, rfl, fun h => by simp_all⟩)) ?_
          refine dp rfl (pop_assign rfl) ?_
          refine dn ?_
          refine hw_cond rfl (fun h7 => ?_) (fun h8 => ?_)
          · try simp at h7
            refine hw_reg ?_
            refine dp rfl (pop_assign rfl) ?_
            refine dn ?_
            refine hw_ret ?_
            first
            | (refine ret_p rfl ?_
               show HVal.int .i64 _ = _
               first | (rw [checkKeeps, if_pos (by simp_all)]; done) | (rw [checkKeeps, if_neg (by simp_all), if_pos (by omega)]; done))
            | (refine ret_g Ghost.drop rfl ⟨?_, rfl⟩
               show HVal.int .i64 _ = _
               first | (rw [hg, keepsGo]; simp_all; done))
          · try simp at h8
            refine hw_reg ?_
            refine dp rfl (pop_fieldAddr ty61 rfl ty3 (by decide) rfl) ?_
            refine dp rfl (pop_load ty3 rfl rfl rfl) ?_
            refine dp rfl (pop_fieldAddr ty28 rfl ty3 (by decide) rfl) ?_
            refine dp rfl (pop_load ty3 rfl rfl rfl) ?_
            refine dp rfl (pop_call ca44 rfl (WeakL.refl _) c_base_Out) ?_
            refine dp rfl (pop_assign rfl) ?_
            refine dn ?_
            refine hw_cond rfl (fun h9 => ?_) (fun h10 => ?_)
            · try simp at h9
              refine hw_reg ?_
              refine dp rfl (pop_assign rfl) ?_
              refine dn ?_
              refine hw_ret ?_
              first
              | (refine ret_p rfl ?_
                 show HVal.int .i64 _ = _
                 first | (rw [checkKeeps, if_pos (by simp_all)]; done) | (rw [checkKeeps, if_neg (by simp_all), if_pos (by omega)]; done))
              | (refine ret_g Ghost.drop rfl ⟨?_, rfl⟩
                 show HVal.int .i64 _ = _
                 first | (rw [hg, keepsGo]; simp_all; done))
            · try simp at h10
              refine hw_draw (fun _ => True) [] mixed ?_
              refine ahp 0 rfl rfl (by kernel_rfl) (by kernel_rfl) (pop_move rfl) ?_
              refine ahp 1 rfl rfl (by kernel_rfl) (by kernel_rfl) (pop_gtr rfl rfl) ?_
              refine ahp 2 rfl rfl (by kernel_rfl) (by kernel_rfl) (pop_move rfl) ?_
              refine ahg 3 rfl rfl (by kernel_rfl) (by kernel_rfl) rfl (fun hc => ⟨_, OpenTo.refl _, pop_fieldAddr ty61 rfl ty9 (by decide) rfl⟩) ?_
              refine ahg 4 rfl rfl (by kernel_rfl) (by kernel_rfl) rfl (fun hc => ⟨_, OpenTo.upd (t := 49) rfl (by first | exact hc | simp_all) (OpenTo.refl _), pop_load ty9 rfl rfl rfl⟩) ?_
              refine ahg 5 rfl rfl (by kernel_rfl) (by kernel_rfl) rfl (fun hc => ⟨_, OpenTo.refl _, pop_move rfl⟩) ?_
              refine ahg 6 rfl rfl (by kernel_rfl) (by kernel_rfl) rfl (fun hc => ⟨_, OpenTo.refl _, pop_move rfl⟩) ?_
              refine ahg 7 rfl rfl (by kernel_rfl) (by kernel_rfl) rfl (fun hc => by have hq := hc; (try simp at hq); exact ⟨_, OpenTo.upd (t := 52) rfl (by first | exact hc | simp_all) (OpenTo.refl _), pop_sub64 rfl rfl (by omega) (by omega)⟩) ?_
              refine ahg 8 rfl rfl (by kernel_rfl) (by kernel_rfl) rfl (fun hc => by have hq := hc; (try simp at hq); exact ⟨_, OpenTo.upd (t := 53) rfl (by first | exact hc | simp_all) (OpenTo.upd (t := 51) rfl (by first | exact hc | simp_all) (OpenTo.refl _)), pop_idx (j := k - 1) (a := l.getD (k - 1) keep0) ty30 ty61 rfl rfl (by omega) (getD_some (by omega))⟩) ?_
              refine ahg 9 rfl rfl (by kernel_rfl) (by kernel_rfl) rfl (fun hc => ⟨_, OpenTo.upd (t := 54) rfl (by first | exact hc | simp_all) (OpenTo.refl _), pop_fieldAddr ty61 rfl ty9 (by decide) rfl⟩) ?_
              refine ahg 10 rfl rfl (by kernel_rfl) (by kernel_rfl) rfl (fun hc => ⟨_, OpenTo.upd (t := 55) rfl (by first | exact hc | simp_all) (OpenTo.refl _), pop_load ty9 rfl rfl rfl⟩) ?_
              refine ahg 11 rfl rfl (by kernel_rfl) (by kernel_rfl) rfl (fun hc => ⟨_, OpenTo.upd (t := 56) rfl (by first | exact hc | simp_all) (OpenTo.upd (t := 50) rfl (by first | exact hc | simp_all) (OpenTo.refl _)), pop_call ca40 rfl (WeakL.refl _) c_strings_Compare⟩) ?_
              refine ahg 12 rfl rfl (by kernel_rfl) (by kernel_rfl) rfl (fun hc => ⟨_, OpenTo.refl _, pop_fieldAddr ty61 rfl ty3 (by decide) rfl⟩) ?_
              refine ahg 13 rfl rfl (by kernel_rfl) (by kernel_rfl) rfl (fun hc => ⟨_, OpenTo.upd (t := 58) rfl (by first | exact hc | simp_all) (OpenTo.refl _), pop_load ty3 rfl rfl rfl⟩) ?_
              refine ahg 14 rfl rfl (by kernel_rfl) (by kernel_rfl) rfl (fun hc => ⟨_, OpenTo.refl _, pop_move rfl⟩) ?_
              refine ahg 15 rfl rfl (by kernel_rfl) (by kernel_rfl) rfl (fun hc => ⟨_, OpenTo.refl _, pop_move rfl⟩) ?_
              refine ahg 16 rfl rfl (by kernel_rfl) (by kernel_rfl) rfl (fun hc => by have hq := hc; (try simp at hq); exact ⟨_, OpenTo.upd (t := 61) rfl (by first | exact hc | simp_all) (OpenTo.refl _), pop_sub64 rfl rfl (by omega) (by omega)⟩) ?_
              refine ahg 17 rfl rfl (by kernel_rfl) (by kernel_rfl) rfl (fun hc => by have hq := hc; (try simp at hq); exact ⟨_, OpenTo.upd (t := 62) rfl (by first | exact hc | simp_all) (OpenTo.upd (t := 60) rfl (by first | exact hc | simp_all) (OpenTo.refl _)), pop_idx (j := k - 1) (a := l.getD (k - 1) keep0) ty30 ty61 rfl rfl (by omega) (getD_some (by omega))⟩) ?_
              refine ahg 18 rfl rfl (by kernel_rfl) (by kernel_rfl) rfl (fun hc => ⟨_, OpenTo.upd (t := 63) rfl (by first | exact hc | simp_all) (OpenTo.refl _), pop_fieldAddr ty61 rfl ty3 (by decide) rfl⟩) ?_
              refine ahg 19 rfl rfl (by kernel_rfl) (by kernel_rfl) rfl (fun hc => ⟨_, OpenTo.upd (t := 64) rfl (by first | exact hc | simp_all) (OpenTo.refl _), pop_load ty3 rfl rfl rfl⟩) ?_
              refine ahg 20 rfl rfl (by kernel_rfl) (by kernel_rfl) rfl (fun hc => ⟨_, OpenTo.upd (t := 65) rfl (by first | exact hc | simp_all) (OpenTo.upd (t := 59) rfl (by first | exact hc | simp_all) (OpenTo.refl _)), pop_call ca41 rfl (WeakL.refl _) c_cmp_Compare_int⟩) ?_
              refine ahg 21 rfl rfl (by kernel_rfl) (by kernel_rfl) rfl (fun hc => ⟨_, OpenTo.upd (t := 66) rfl (by first | exact hc | simp_all) (OpenTo.upd (t := 57) rfl (by first | exact hc | simp_all) (OpenTo.refl _)), pop_buildSlice (hs := [_, _]) ty22 ty3 rfl rfl (by decide) (by decide) rfl⟩) ?_
              refine ahg 22 rfl rfl (by kernel_rfl) (by kernel_rfl) rfl (fun hc => ⟨_, OpenTo.upd (t := 67) rfl (by first | exact hc | simp_all) (OpenTo.refl _), pop_call ca39 rfl (WeakL.refl _) (c_cmp_Or_int (l := [_, _]) (by simp))⟩) ?_
              refine ahg 23 rfl rfl (by kernel_rfl) (by kernel_rfl) rfl (fun hc => ⟨_, OpenTo.upd (t := 68) rfl (by first | exact hc | simp_all) (OpenTo.refl _), pop_leq rfl rfl⟩) ?_
              refine ahp 24 rfl rfl (by kernel_rfl) (by kernel_rfl) (pop_picko rfl (.inr ⟨_, rfl, fun h => by simp_all⟩) (.inl rfl)) ?_
              refine ahp 25 rfl rfl (by kernel_rfl) (by kernel_rfl) (pop_assign rfl) ?_
              refine ahz (by kernel_rfl) ?_
              refine hw_cond rfl (fun h11 => ?_) (fun h12 => ?_)
              · try simp at h11
                refine hw_reg ?_
                refine dp rfl (pop_assign rfl) ?_
                refine dn ?_
                refine hw_ret ?_
                first
                | (refine ret_p rfl ?_
                   show HVal.int .i64 _ = _
                   first | (rw [checkKeeps, if_pos (by simp_all)]; done) | (rw [checkKeeps, if_neg (by simp_all), if_pos (by omega)]; done))
                | (refine ret_g Ghost.drop rfl ⟨?_, rfl⟩
                   show HVal.int .i64 _ = _
                   first | (rw [hg, keepsGo]; simp_all; done))
              · try simp at h12
                refine hw_skip ?_
                refine blockQ_n ?_
                refine seqQ_n ?_
                refine hw_reg ?_
                refine dp rfl (pop_move rfl) ?_
                refine dp rfl (pop_move rfl) ?_
                refine dg rfl rfl (fun hc => ⟨_, OpenTo.refl _, pop_move rfl⟩) ?_
                refine dg rfl rfl (fun hc => ⟨_, OpenTo.refl _, pop_fieldAddr ty61 rfl ty9 (by decide) rfl⟩) ?_
                refine dg rfl rfl (fun hc => ⟨_, OpenTo.upd (t := 74) rfl (by first | exact hc | simp_all) (OpenTo.refl _), pop_load ty9 rfl rfl rfl⟩) ?_
                refine dgl rfl rfl (fun hc => ⟨_, OpenTo.upd (t := 75) rfl (by first | exact hc | simp_all) (OpenTo.upd (t := 73) rfl (by first | exact hc | simp_all) (OpenTo.refl _)), eop_lookup_set (i := 0) ty75 ty9 ty4 rfl rfl rfl ⟨rfl, rfl⟩⟩) ?_
                refine dp rfl (pop_picko rfl (.inl rfl) (.inr ⟨_, rfl, fun h => by simp_all⟩)) ?_
                refine dp rfl (pop_assign rfl) ?_
                refine dn ?_
                refine hw_reg1 ?_
                refine dp rfl (pop_move rfl) ?_
                refine dp rfl (pop_fieldAddr ty61 rfl ty9 (by decide) rfl) ?_
                refine dp rfl (pop_load ty9 rfl rfl rfl) ?_
                refine de0 (eop_update_set (i := 0) ty75 ty9 rfl rfl rfl rfl ?_)
                refine dn ?_
                refine blockQ_n ?_
                refine seqQ_n ?_
                refine hw_reg1 ?_
                refine dp rfl (pop_add64 rfl rfl (by omega) (by omega)) ?_
                refine dp rfl (pop_move rfl) ?_
                refine dn ?_
                refine ⟨k + 1, sadd x.Player kept, tw || kept.contains x.Player, ?_, ?_, ⟨rfl, rfl, trivial⟩, (by repeat (first | exact keeps_refl | refine keeps_upd rfl ?_ | refine keeps_loop rfl rfl ?_)), List.Perm.refl _⟩
                · refine ⟨by omega, ?_⟩
                  rw [hg, keepsGo]; simp_all
                  intro h1 h2; have := h12 h1; omega
                · dsimp only; omega
        · try simp at h6
          have hnk : l.length ≤ k := by omega
          obtain rfl : k = l.length := by omega
          rw [drop_all (Nat.le_refl _)] at hg
          refine hw_exit ?_
          refine seqQ_x ?_
          refine loopQ3_x ?_
          refine blockQ_eq ?_
          refine seqQ_n ?_
          refine hw_seq ?_
          refine hw_reg ?_
          refine dp rfl (pop_move rfl) ?_
          refine dn ?_
          refine hw_cond rfl (fun h13 => ?_) (fun h14 => ?_)
          · try simp at h13
            refine hw_reg ?_
            refine dp rfl (pop_assign rfl) ?_
            refine dn ?_
            refine hw_ret ?_
            first
            | (refine ret_p rfl ?_
               show HVal.int .i64 _ = _
               first | (rw [checkKeeps, if_pos (by simp_all)]; done) | (rw [checkKeeps, if_neg (by simp_all), if_pos (by omega)]; done))
            | (refine ret_g Ghost.drop rfl ⟨?_, rfl⟩
               show HVal.int .i64 _ = _
               first | (rw [hg, keepsGo]; simp_all; done))
          · try simp at h14
            refine hw_skip ?_
            refine seqQ_n ?_
            refine hw_reg ?_
            refine dp rfl (pop_assign rfl) ?_
            refine dn ?_
            refine hw_ret ?_
            first
            | (refine ret_p rfl ?_
               show HVal.int .i64 _ = _
               first | (rw [checkKeeps, if_pos (by simp_all)]; done) | (rw [checkKeeps, if_neg (by simp_all), if_pos (by omega)]; done))
            | (refine ret_g Ghost.drop rfl ⟨?_, rfl⟩
               show HVal.int .i64 _ = _
               first | (rw [hg, keepsGo]; simp_all; done))

/-- benchwarmer/draft.turns -/
theorem c_draft_turns {r : Room} {s : List Swap} (ht : r.Teams.length ≤ 20) (hr0 : 1 ≤ r.Rounds) (hr : r.Rounds ≤ 30) (hl : s.length ≤ 1000000) : ConP Tryz.prog 48 [.vptr (hcells (eRoom r)) 0, eSwaps s] (eTurns (turns r s)) := by
  refine Con.of_body Tryz.func48 rfl Tryz.ntmps48 rfl rfl ?_
  refine hw_reg ?_
  refine dp rfl (pop_assign rfl) ?_
  refine dn ?_
  refine hw_reg ?_
  refine dp rfl (pop_assign rfl) ?_
  refine dn ?_
  refine hw_ghost (Ghost.arr_nil 3) ?_
  refine hw_seq ?_
  refine hw_reg ?_
  refine dp rfl (pop_assign rfl) ?_
  refine dn ?_
  refine hw_block ?_
  refine hw_loopw2 [5, 6, 7, 9, 10, 11, 12, 13, 14, 15, 16, 17, 18, 19, 20, 21, 22, 23, 24, 25, 26, 27, 28, 29, 30, 31, 32, 33, 34, 35, 36, 37, 38, 39, 40, 41, 42, 43, 44, 45, 46, 47] (fun (n : Nat) (v : Value) => [(6, .int .i64 ((n : Int) + 1)), (5, .raw v)]) (fun (n : Nat) (v : Value) => [.arr v 3 ((turnsFrom r s n).map eTurn)]) (fun (n : Nat) (v : Value) => n ≤ r.Rounds.toNat) (fun (n : Nat) (v : Value) => r.Rounds.toNat - n) (0) (.slice none 0 0) ?_ ?_ ?_ ?_
  · exact Nat.zero_le _
  · exact ⟨rfl, rfl, trivial⟩
  · exact List.Perm.refl _
  · intro n v hn
    refine hw_seq ?_
    refine hw_reg ?_
    refine dp rfl (pop_move rfl) ?_
    refine dp rfl (pop_move rfl) ?_
    refine dp rfl ((by first | exact pop_nilCheck rfl | exact pop_nilCheck_raw rfl)) ?_
    refine dp rfl (pop_fieldAddr ty28 rfl ty3 (by decide) rfl) ?_
    refine dp rfl (pop_load ty3 rfl rfl rfl) ?_
    refine dp rfl (pop_leq rfl rfl) ?_
    refine dn ?_
    refine hw_cond rfl (fun h1 => ?_) (fun h2 => ?_)
    · try simp at h1
      have hn30 : n < r.Rounds.toNat := by omega
      refine hw_skip ?_
      refine seqQ_n ?_
      refine hw_seq ?_
      refine hw_block ?_
      refine hw_reg ?_
      refine dp rfl (pop_move rfl) ?_
      refine dp rfl ((by first | exact pop_nilCheck rfl | exact pop_nilCheck_raw rfl)) ?_
      refine dp rfl (pop_fieldAddr ty28 rfl ty26 (by decide) rfl) ?_
      refine dp rfl (pop_load ty26 rfl rfl rfl) ?_
      refine de rfl (eop_calla ca26 rfl (WeakL.refl _) (c_slices_Clone_string_string (by first | assumption | omega | (simp; omega) | simp_all)) fun v22 => ?_)
      refine dp rfl (pop_assign rfl) ?_
      refine dn ?_
      refine hw_join [23, 24, 25, 26, 27, 28, 29, 30] (fun (L : List Str) => []) (fun (L : List Str) => [.arr v22 1 (L.map .str), .arr v 3 ((turnsFrom r s n).map eTurn)]) (fun (L : List Str) => L = if backwards r.Way ((n : Int) + 1) then r.Teams.reverse else r.Teams) ?_ ?_
      · skip
        refine hw_reg ?_
        refine dp rfl (pop_move rfl) ?_
        refine dp rfl ((by first | exact pop_nilCheck rfl | exact pop_nilCheck_raw rfl)) ?_
        refine dp rfl (pop_fieldAddr ty28 rfl ty3 (by decide) rfl) ?_
        refine dp rfl (pop_load ty3 rfl rfl rfl) ?_
        refine dp rfl (pop_move rfl) ?_
        refine dp rfl (pop_call ca66 rfl (WeakL.refl _) c_draft_backwards) ?_
        refine dn ?_
        refine hw_cond rfl (fun h3 => ?_) (fun h4 => ?_)
        · try simp at h3
          refine hw_reg1 ?_
          refine dp rfl (pop_move rfl) ?_
          refine de rfl (eop_callf (M1 := [_]) (R := [_]) ca67 rfl (WeakL.refl _) (List.Perm.refl _) (c_slices_Reverse_string_string (l := r.Teams) (by omega)) ?_)
          rintro _ _ ⟨rfl, rfl⟩
          refine dn ?_
          refine ⟨_, ?_, trivial, (by repeat (first | exact keeps_refl | refine keeps_upd rfl ?_ | refine keeps_loop rfl rfl ?_)), List.Perm.refl _⟩
          · simp_all
        · try simp at h4
          refine hw_skip ?_
          refine ⟨_, ?_, trivial, (by repeat (first | exact keeps_refl | refine keeps_upd rfl ?_ | refine keeps_loop rfl rfl ?_)), List.Perm.refl _⟩
          · simp_all
      · intro L hL
        have hLl : L.length = r.Teams.length := by rw [hL]; split <;> simp
        have hb := turnsFrom_len r s n
        have hm := Nat.mul_le_mul (show n ≤ 30 by omega) (show r.Teams.length ≤ 20 by omega)
        refine hw_ghost (Ghost.fa0 7 rfl) ?_
        refine hw_reg ?_
        refine dp rfl (pop_move rfl) ?_
        refine dp rfl (pop_lenm ty26 rfl) ?_
        refine dp rfl (pop_move rfl) ?_
        refine dn ?_
        refine hw_block ?_
        refine hw_loopw2 [5, 9, 33, 34, 35, 36, 37, 38, 39, 40, 41, 42, 43, 44, 45, 46, 47] (fun (k : Nat) (u : Value) => [(33, .int .i64 k), (5, .raw u)]) (fun (k : Nat) (u : Value) => [.arr u 3 ((turnsFrom r s n).map eTurn ++ (L.take k).map fun t => eTurn ⟨(n : Int) + 1, t, owner ((n : Int) + 1) t s⟩)]) (fun (k : Nat) (u : Value) => k ≤ L.length ∧ (True)) (fun (k : Nat) (u : Value) => L.length - k) (0) (v) ?_ ?_ ?_ ?_
        · exact ⟨Nat.zero_le _, by simp_all⟩
        · exact ⟨rfl, rfl, trivial⟩
        · exact perm_eq (by simp)
        · intro k u hinv
          obtain ⟨hk, -⟩ := hinv
          refine hw_reg ?_
          refine dp rfl (pop_lss rfl rfl) ?_
          refine dn ?_
          refine hw_seq ?_
          refine hw_cond rfl (fun h5 => ?_) (fun h6 => ?_)
          · try simp at h5
            obtain ⟨x, hx⟩ : ∃ x, L[k]? = some x := ⟨_, List.getElem?_eq_getElem h5⟩
            have hdx := drop_cons hx
            refine hw_skip ?_
            refine seqQ_n ?_
            refine hw_seq ?_
            refine hw_block ?_
            refine hw_reg ?_
            refine dp rfl (pop_idx ty26 ty9 rfl rfl rfl (by first | assumption | simp_all)) ?_
            refine dp rfl (pop_load ty9 rfl rfl rfl) ?_
            refine dp rfl (pop_assign rfl) ?_
            refine dn ?_
            refine hw_reg1 ?_
            refine dp rfl (pop_move rfl) ?_
            refine dp rfl (pop_move rfl) ?_
            refine dp rfl (pop_move rfl) ?_
            refine dp rfl (pop_move rfl) ?_
            refine dp rfl (pop_move rfl) ?_
            refine dp rfl (pop_move rfl) ?_
            refine dp rfl (pop_call ca68 rfl (WeakL.refl _) (c_draft_owner (by first | assumption | omega | (simp; omega) | simp_all))) ?_
            refine dp rfl (pop_build (cs := [_, _, _]) ty81 pl81 rfl) ?_
            refine dp rfl (pop_buildSlice (hs := [_]) ty78 ty81 rfl rfl (by decide) (by decide) rfl) ?_
            refine de rfl (eop_append (i := 0) ty78 ty81 rfl rfl rfl rfl rfl (by simp [flat, hcells]) (by first | omega | (simp; omega)) fun v46 => ?_)
            refine dp rfl (pop_assign rfl) ?_
            refine dn ?_
            refine blockQ_n ?_
            refine seqQ_n ?_
            refine hw_reg1 ?_
            refine dp rfl (pop_add64 rfl rfl (by omega) (by omega)) ?_
            refine dp rfl (pop_move rfl) ?_
            refine dn ?_
            refine ⟨k + 1, _, ?_, ?_, ⟨rfl, rfl, trivial⟩, (by repeat (first | exact keeps_refl | refine keeps_upd rfl ?_ | refine keeps_loop rfl rfl ?_)), perm_eq (by simp [List.take_add_one, hx])⟩
            · exact ⟨by omega, trivial⟩
            · dsimp only; omega
          · try simp at h6
            have hnk : L.length ≤ k := by omega
            obtain rfl : k = L.length := by omega
            refine hw_exit ?_
            refine seqQ_x ?_
            refine loopQ2_x ?_
            refine blockQ_eq ?_
            refine blockQ_n ?_
            refine seqQ_n ?_
            refine hw_reg1 ?_
            refine dp rfl (pop_move rfl) ?_
            refine dp rfl (pop_add64 rfl rfl (by omega) (by omega)) ?_
            refine dp rfl (pop_assign rfl) ?_
            refine dn ?_
            refine ⟨n + 1, _, ?_, ?_, ⟨rfl, rfl, trivial⟩, (by repeat (first | exact keeps_refl | refine keeps_upd rfl ?_ | refine keeps_loop rfl rfl ?_)), perm_eq (by simp [turnsFrom, roundTurns, hL, List.map_append, Function.comp_def])⟩
            · omega
            · dsimp only; omega
    · try simp at h2
      obtain rfl : n = r.Rounds.toNat := by omega
      refine hw_exit ?_
      refine seqQ_x ?_
      refine loopQ2_x ?_
      refine blockQ_eq ?_
      refine seqQ_n ?_
      refine hw_reg ?_
      refine dp rfl (pop_move rfl) ?_
      refine dp rfl (pop_assign rfl) ?_
      refine dn ?_
      refine hw_ret ?_
      exact ret_fa (M := []) 4 rfl rfl rfl

/-- benchwarmer/draft.Turns -/
theorem c_draft_Turns {r : Room} {s : List Swap} (ht : r.Teams.length ≤ 1000000) (hp : r.Players.length ≤ 1000000) (hl : s.length ≤ 1000000) : ConP Tryz.prog 14 [eRoom r, eSwaps s] (.tup [eSs (turnTeams r s), .int .i64 (checkSwaps r s)]) := by
  refine Con.of_body Tryz.func14 rfl Tryz.ntmps14 rfl rfl ?_
  refine hw_reg ?_
  refine dp rfl (pop_box rfl rfl) ?_
  refine dp rfl (pop_assign rfl) ?_
  refine dp rfl (pop_assign rfl) ?_
  refine dn ?_
  refine hw_seq ?_
  refine hw_reg ?_
  refine dp rfl (pop_loadw ty28 rfl rfl rfl rfl) ?_
  refine dp rfl (pop_move rfl) ?_
  refine dp rfl (pop_call ca13 rfl (WeakL.refl _) (c_draft_CheckSwaps (by first | assumption | omega | (simp; omega) | simp_all) (by first | assumption | omega | (simp; omega) | simp_all) (by first | assumption | omega | (simp; omega) | simp_all))) ?_
  refine dp rfl (pop_assign rfl) ?_
  refine dn ?_
  refine hw_reg ?_
  refine dp rfl (pop_move rfl) ?_
  refine dp rfl (pop_neq rfl rfl) ?_
  refine dn ?_
  refine hw_cond rfl (fun h1 => ?_) (fun h2 => ?_)
  · try simp at h1
    refine hw_reg ?_
    refine dp rfl (pop_move rfl) ?_
    refine dp rfl (pop_assign rfl) ?_
    refine dp rfl (pop_assign rfl) ?_
    refine dn ?_
    refine hw_ret ?_
    first
    | exact ret_w rfl (weak_tup2 (by rw [turnTeams, if_pos (by simp_all)]; exact weak_nil 1) (Weak.refl _))
    | (refine ret_fa (M := []) 4 rfl rfl ?_
       simp_all [turnTeams, eSs, Function.comp_def, ofVal, ofVal1])
  · try simp at h2
    refine hw_skip ?_
    refine seqQ_n ?_
    refine hw_reg ?_
    refine dp rfl (pop_assign rfl) ?_
    refine dn ?_
    refine hw_ghost (Ghost.arr_nil 1) ?_
    refine hw_seq ?_
    refine hw_reg ?_
    obtain ⟨_, hq1, _, hq2, hq3, _⟩ := checkRoom_ok (r := r) ((checkSwaps_ok (l := s) h2).1)
    have hlen := turns_len (r := r) (s := s) (checkSwaps_ok h2).1
    refine dp rfl (pop_move rfl) ?_
    refine dp rfl (pop_call ca48 rfl (WeakL.refl _) (c_draft_turns (by first | assumption | omega | (simp; omega) | simp_all) (by first | assumption | omega | (simp; omega) | simp_all) (by first | assumption | omega | (simp; omega) | simp_all) (by first | assumption | omega | (simp; omega) | simp_all))) ?_
    refine dp rfl (pop_lenm ty78 rfl) ?_
    refine dp rfl (pop_move rfl) ?_
    refine dn ?_
    refine hw_block ?_
    refine hw_loopw2 [7, 9, 19, 20, 21, 22, 23, 24, 25, 26, 27, 28] (fun (k : Nat) (u : Value) => [(19, .int .i64 k), (7, .raw u)]) (fun (k : Nat) (u : Value) => [.arr u 1 (((turns r s).take k).map fun t => .str t.team)]) (fun (k : Nat) (u : Value) => k ≤ (turns r s).length ∧ (True)) (fun (k : Nat) (u : Value) => (turns r s).length - k) (0) (.slice none 0 0) ?_ ?_ ?_ ?_
    · exact ⟨Nat.zero_le _, by simp_all⟩
    · exact ⟨rfl, rfl, trivial⟩
    · exact perm_eq (by simp)
    · intro k u hinv
      obtain ⟨hk, -⟩ := hinv
      refine hw_reg ?_
      refine dp rfl (pop_lss rfl rfl) ?_
      refine dn ?_
      refine hw_seq ?_
      refine hw_cond rfl (fun h3 => ?_) (fun h4 => ?_)
      · try simp at h3
        obtain ⟨x, hx⟩ : ∃ x, (turns r s)[k]? = some x := ⟨_, List.getElem?_eq_getElem h3⟩
        have hdx := drop_cons hx
        refine hw_skip ?_
        refine seqQ_n ?_
        refine hw_seq ?_
        refine hw_block ?_
        refine hw_reg ?_
        refine dp rfl (pop_idx ty78 ty81 rfl rfl rfl (by first | assumption | simp_all)) ?_
        refine dp rfl (pop_loadw ty81 rfl rfl rfl rfl) ?_
        refine de rfl (eop_alloc ty81 rfl fun b9 => ?_)
        refine de0 (eop_storew ty81 rfl rfl rfl rfl rfl ?_)
        refine dn ?_
        refine hw_ghost (Ghost.fc0 9 rfl) ?_
        refine hw_reg1 ?_
        refine dp rfl (pop_move rfl) ?_
        refine dp rfl (pop_fieldAddr ty81 rfl ty9 (by decide) rfl) ?_
        refine dp rfl (pop_load ty9 rfl rfl rfl) ?_
        refine dp rfl (pop_buildSlice (hs := [_]) ty26 ty9 rfl rfl (by decide) (by decide) rfl) ?_
        refine de rfl (eop_append (i := 0) ty26 ty9 rfl rfl rfl rfl rfl (by simp [flat, hcells]) (by first | omega | (simp; omega)) fun v27 => ?_)
        refine dp rfl (pop_assign rfl) ?_
        refine dn ?_
        refine blockQ_n ?_
        refine seqQ_n ?_
        refine hw_reg1 ?_
        refine dp rfl (pop_add64 rfl rfl (by omega) (by omega)) ?_
        refine dp rfl (pop_move rfl) ?_
        refine dn ?_
        refine ⟨k + 1, _, ?_, ?_, ⟨rfl, rfl, trivial⟩, (by repeat (first | exact keeps_refl | refine keeps_upd rfl ?_ | refine keeps_loop rfl rfl ?_)), perm_eq (by simp [List.take_add_one, hx])⟩
        · exact ⟨by omega, trivial⟩
        · dsimp only; omega
      · try simp at h4
        have hnk : (turns r s).length ≤ k := by omega
        obtain rfl : k = (turns r s).length := by omega
        refine hw_exit ?_
        refine seqQ_x ?_
        refine loopQ2_x ?_
        refine blockQ_eq ?_
        refine seqQ_n ?_
        refine hw_reg ?_
        refine dp rfl (pop_move rfl) ?_
        refine dp rfl (pop_assign rfl) ?_
        refine dp rfl (pop_assign rfl) ?_
        refine dn ?_
        refine hw_ret ?_
        first
        | exact ret_w rfl (weak_tup2 (by rw [turnTeams, if_pos (by simp_all)]; exact weak_nil 1) (Weak.refl _))
        | (refine ret_fa (M := []) 4 rfl rfl ?_
           simp_all [turnTeams, eSs, Function.comp_def, ofVal, ofVal1])

/-- benchwarmer/draft.openFault -/
theorem c_draft_openFault {r : Room} {k : List Keep} {s : List Swap} (ht : r.Teams.length ≤ 1000000) (hp : r.Players.length ≤ 1000000) (hk0 : k.length ≤ 1000000) (hl : s.length ≤ 1000000) : ConP Tryz.prog 49 [eRoom r, eKeeps k, eSwaps s] (.int .i64 (openFault r k s)) := by
  refine Con.of_body Tryz.func49 rfl Tryz.ntmps49 rfl rfl ?_
  refine hw_reg ?_
  refine dp rfl (pop_box rfl rfl) ?_
  refine dp rfl (pop_assign rfl) ?_
  refine dn ?_
  refine hw_seq ?_
  refine hw_draw (fun _ => True) [] mixed ?_
  refine ahp 0 rfl rfl (by kernel_rfl) (by kernel_rfl) (pop_loadw ty28 rfl rfl rfl rfl) ?_
  refine ahp 1 rfl rfl (by kernel_rfl) (by kernel_rfl) (pop_move rfl) ?_
  refine ahp 2 rfl rfl (by kernel_rfl) (by kernel_rfl) (pop_call ca12 rfl (WeakL.refl _) (c_draft_CheckKeeps (by first | assumption | omega | (simp; omega) | simp_all) (by first | assumption | omega | (simp; omega) | simp_all) (by first | assumption | omega | (simp; omega) | simp_all))) ?_
  refine ahp 3 rfl rfl (by kernel_rfl) (by kernel_rfl) (pop_loadw ty28 rfl rfl rfl rfl) ?_
  refine ahp 4 rfl rfl (by kernel_rfl) (by kernel_rfl) (pop_move rfl) ?_
  refine ahp 5 rfl rfl (by kernel_rfl) (by kernel_rfl) (pop_call ca13 rfl (WeakL.refl _) (c_draft_CheckSwaps (by first | assumption | omega | (simp; omega) | simp_all) (by first | assumption | omega | (simp; omega) | simp_all) (by first | assumption | omega | (simp; omega) | simp_all))) ?_
  refine ahp 6 rfl rfl (by kernel_rfl) (by kernel_rfl) (pop_buildSlice (hs := [_, _]) ty112 ty34 rfl rfl (by decide) (by decide) rfl) ?_
  refine ahp 7 rfl rfl (by kernel_rfl) (by kernel_rfl) (pop_call ca69 rfl (WeakL.refl _) (c_base_First (l := [_, _]) (by simp))) ?_
  refine ahp 8 rfl rfl (by kernel_rfl) (by kernel_rfl) (pop_assign rfl) ?_
  refine ahz (by kernel_rfl) ?_
  refine hw_reg ?_
  refine dp rfl (pop_move rfl) ?_
  refine dp rfl (pop_neq rfl rfl) ?_
  refine dn ?_
  refine hw_cond rfl (fun h1 => ?_) (fun h2 => ?_)
  · try simp at h1
    refine hw_reg ?_
    refine dp rfl (pop_move rfl) ?_
    refine dp rfl (pop_assign rfl) ?_
    refine dn ?_
    refine hw_ret ?_
    refine ret_p rfl ?_
    show HVal.int .i64 _ = _
    first | (rw [openFault, if_pos (by simp_all)]; done) | (rw [hg, clashGo]; simp_all; done) | (rw [hg]; rfl)
  · try simp at h2
    refine hw_skip ?_
    refine seqQ_n ?_
    refine hw_seq ?_
    refine hw_reg ?_
    refine dp rfl (pop_move rfl) ?_
    refine dp rfl (pop_lenm ty30 rfl) ?_
    refine dp rfl (pop_move rfl) ?_
    refine dn ?_
    refine hw_block ?_
    refine hw_loopw [6, 9, 23, 24, 25, 26, 27, 28, 29, 30] (fun (i : Nat) => [(23, .int .i64 i)]) (fun (i : Nat) => []) (fun (i : Nat) => i ≤ k.length ∧ (openFault r k s = clashGo s (k.drop i))) (fun (i : Nat) => k.length - i) (0) ?_ ?_ ?_ ?_
    · refine ⟨Nat.zero_le _, ?_⟩
      rw [openFault, if_neg (by simp_all)]; rfl
    · exact ⟨rfl, trivial⟩
    · exact List.Perm.refl _
    · intro i hinv
      obtain ⟨hi, hg⟩ := hinv
      refine hw_reg ?_
      refine dp rfl (pop_lss rfl rfl) ?_
      refine dn ?_
      refine hw_seq ?_
      refine hw_cond rfl (fun h3 => ?_) (fun h4 => ?_)
      · try simp at h3
        obtain ⟨x, hx⟩ : ∃ x, k[i]? = some x := ⟨_, List.getElem?_eq_getElem h3⟩
        have hdx := drop_cons hx
        rw [hdx] at hg
        refine hw_skip ?_
        refine seqQ_n ?_
        refine hw_seq ?_
        refine hw_block ?_
        refine hw_reg ?_
        refine dp rfl (pop_idx ty30 ty61 rfl rfl rfl (by first | assumption | simp_all)) ?_
        refine dp rfl (pop_loadw ty61 rfl rfl rfl rfl) ?_
        refine de rfl (eop_alloc ty61 rfl fun b9 => ?_)
        refine de0 (eop_storew ty61 rfl rfl rfl rfl rfl ?_)
        refine dn ?_
        refine hw_ghost (Ghost.fc0 9 rfl) ?_
        refine hw_reg ?_
        refine dp rfl (pop_move rfl) ?_
        refine dp rfl (pop_makeFunc rfl rfl) ?_
        refine dp rfl (pop_call ca70 rfl (WeakL.refl _) (c_slices_ContainsFunc_api_Swap_api_Swap (p := clash x) ca71 (fun _ => c_draft_openFault_1) hl)) ?_
        refine dn ?_
        refine hw_cond rfl (fun h5 => ?_) (fun h6 => ?_)
        · try simp at h5
          refine hw_reg ?_
          refine dp rfl (pop_assign rfl) ?_
          refine dn ?_
          refine hw_ret ?_
          refine ret_p rfl ?_
          show HVal.int .i64 _ = _
          first | (rw [openFault, if_pos (by simp_all)]; done) | (rw [hg, clashGo]; simp_all; done) | (rw [hg]; rfl)
        · try simp at h6
          refine hw_skip ?_
          refine blockQ_n ?_
          refine seqQ_n ?_
          refine hw_reg1 ?_
          refine dp rfl (pop_add64 rfl rfl (by omega) (by omega)) ?_
          refine dp rfl (pop_move rfl) ?_
          refine dn ?_
          refine ⟨i + 1, ?_, ?_, ⟨rfl, trivial⟩, (by repeat (first | exact keeps_refl | refine keeps_upd rfl ?_ | refine keeps_loop rfl rfl ?_)), List.Perm.refl _⟩
          · refine ⟨by omega, ?_⟩
            rw [hg, clashGo]; simp_all
          · dsimp only; omega
      · try simp at h4
        have hni : k.length ≤ i := by omega
        obtain rfl : i = k.length := by omega
        rw [drop_all (Nat.le_refl _)] at hg
        refine hw_exit ?_
        refine seqQ_x ?_
        refine loopQ_x ?_
        refine blockQ_eq ?_
        refine seqQ_n ?_
        refine hw_reg ?_
        refine dp rfl (pop_assign rfl) ?_
        refine dn ?_
        refine hw_ret ?_
        refine ret_p rfl ?_
        show HVal.int .i64 _ = _
        first | (rw [openFault, if_pos (by simp_all)]; done) | (rw [hg, clashGo]; simp_all; done) | (rw [hg]; rfl)

/-- benchwarmer/draft.open -/
theorem c_draft_open {r : Room} {l : List Keep} {s : List Swap} (ht : r.Teams.length ≤ 20) (hr0 : 1 ≤ r.Rounds) (hr : r.Rounds ≤ 30) (hk0 : l.length ≤ 1000000) (hl : s.length ≤ 1000000) (hlen : (turns r s).length ≤ 600) : ConP Tryz.prog 50 [.vptr (hcells (eRoom r)) 0, eKeeps l, eSwaps s] (ePicks (open1 r l s)) := by
  refine Con.of_body Tryz.func50 rfl Tryz.ntmps50 rfl rfl ?_
  refine hw_reg ?_
  refine dp rfl (pop_assign rfl) ?_
  refine dn ?_
  refine hw_reg ?_
  refine dp rfl (pop_assign rfl) ?_
  refine dn ?_
  refine hw_ghost (Ghost.arr_nil 5) ?_
  refine hw_seq ?_
  refine hw_reg ?_
  refine dp rfl (pop_move rfl) ?_
  refine dp rfl (pop_move rfl) ?_
  refine dp rfl (pop_call ca48 rfl (WeakL.refl _) (c_draft_turns (by first | assumption | omega | (simp; omega) | simp_all) (by first | assumption | omega | (simp; omega) | simp_all) (by first | assumption | omega | (simp; omega) | simp_all) (by first | assumption | omega | (simp; omega) | simp_all))) ?_
  refine dp rfl (pop_lenm ty78 rfl) ?_
  refine dp rfl (pop_move rfl) ?_
  refine dn ?_
  refine hw_block ?_
  refine hw_loopw2 [7, 8, 9, 10, 12, 17, 18, 19, 20, 21, 22, 23, 24, 25, 26, 27, 28, 29, 30, 31, 32, 33, 34, 35, 36, 37, 38, 39, 40, 41, 42, 43, 44, 45, 46, 47, 48, 49, 50, 51, 52, 53, 54, 55, 56, 57] (fun (i : Nat) (u : Value) => [(17, .int .i64 i), (7, .raw u)]) (fun (i : Nat) (u : Value) => [.arr u 5 ((openFrom r l 0 ((turns r s).take i)).map ePick)]) (fun (i : Nat) (u : Value) => i ≤ (turns r s).length ∧ (True)) (fun (i : Nat) (u : Value) => (turns r s).length - i) (0) (.slice none 0 0) ?_ ?_ ?_ ?_
  · exact ⟨Nat.zero_le _, by simp_all⟩
  · exact ⟨rfl, rfl, trivial⟩
  · exact perm_eq (by simp [openFrom])
  · intro i u hinv
    obtain ⟨hi, -⟩ := hinv
    refine hw_reg ?_
    refine dp rfl (pop_lss rfl rfl) ?_
    refine dn ?_
    refine hw_seq ?_
    refine hw_cond rfl (fun h1 => ?_) (fun h2 => ?_)
    · try simp at h1
      obtain ⟨t, ht⟩ : ∃ t, (turns r s)[i]? = some t := ⟨_, List.getElem?_eq_getElem h1⟩
      have hdt := drop_cons ht
      refine hw_skip ?_
      refine seqQ_n ?_
      refine hw_seq ?_
      refine hw_block ?_
      refine hw_reg ?_
      refine dp rfl (pop_move rfl) ?_
      refine dp rfl (pop_idx ty78 ty81 rfl rfl rfl (by first | assumption | simp_all)) ?_
      refine dp rfl (pop_loadw ty81 rfl rfl rfl rfl) ?_
      refine de rfl (eop_alloc ty81 rfl fun b9 => ?_)
      refine dp rfl (pop_assign rfl) ?_
      refine de0 (eop_storew ty81 rfl rfl rfl rfl rfl ?_)
      refine dn ?_
      refine hw_ghost (Ghost.fc0 9 rfl) ?_
      refine hw_reg ?_
      refine dp rfl (pop_move rfl) ?_
      refine dp rfl (pop_fieldAddr ty81 rfl ty9 (by decide) rfl) ?_
      refine dp rfl (pop_load ty9 rfl rfl rfl) ?_
      refine dp rfl (pop_build (cs := [_, _, _, _, _]) ty49 pl49 rfl) ?_
      refine de rfl (eop_alloc ty49 rfl fun b10 => ?_)
      refine de0 (eop_storew ty49 rfl rfl rfl rfl rfl ?_)
      refine dn ?_
      refine hw_seq ?_
      refine hw_reg ?_
      refine dp rfl (pop_move rfl) ?_
      refine dp rfl (pop_lenm ty30 rfl) ?_
      refine dp rfl (pop_move rfl) ?_
      refine dn ?_
      refine hw_block ?_
      refine hw_loopw2 [12, 28, 29, 30, 31, 32, 33, 34, 35, 36, 37, 38, 39, 40, 41, 42, 43, 44, 45, 46, 47, 48, 49, 50, 51, 52] (fun (k : Nat) (p : Pick) => [(28, .int .i64 k)]) (fun (k : Nat) (p : Pick) => [.cells b10 (hcells (ePick p)), .arr u 5 ((openFrom r l 0 ((turns r s).take i)).map ePick)]) (fun (k : Nat) (p : Pick) => k ≤ l.length ∧ (p = keepIn r t ⟨i, t.team, [], 0, false⟩ (l.take k))) (fun (k : Nat) (p : Pick) => l.length - k) (0) (⟨i, t.team, [], 0, false⟩) ?_ ?_ ?_ ?_
      · exact ⟨Nat.zero_le _, by simp [keepIn]⟩
      · exact ⟨rfl, trivial⟩
      · exact List.Perm.refl _
      · intro k p hinv
        obtain ⟨hk, hp⟩ := hinv
        refine hw_reg ?_
        refine dp rfl (pop_lss rfl rfl) ?_
        refine dn ?_
        refine hw_seq ?_
        refine hw_cond rfl (fun h3 => ?_) (fun h4 => ?_)
        · try simp at h3
          obtain ⟨x, hx⟩ : ∃ x, l[k]? = some x := ⟨_, List.getElem?_eq_getElem h3⟩
          have hdx := drop_cons hx
          refine hw_skip ?_
          refine seqQ_n ?_
          refine hw_seq ?_
          refine hw_block ?_
          refine hw_reg ?_
          refine dp rfl (pop_idx ty30 ty61 rfl rfl rfl (by first | assumption | simp_all)) ?_
          refine dp rfl (pop_loadw ty61 rfl rfl rfl rfl) ?_
          refine de rfl (eop_alloc ty61 rfl fun b12 => ?_)
          refine de0 (eop_storew ty61 rfl rfl rfl rfl rfl ?_)
          refine dn ?_
          refine hw_ghost (Ghost.fc0 12 rfl) ?_
          refine hw_reg ?_
          refine dp rfl (pop_fieldAddr ty61 rfl ty9 (by decide) rfl) ?_
          refine dp rfl (pop_load ty9 rfl rfl rfl) ?_
          refine dp rfl (pop_fieldAddr ty81 rfl ty9 (by decide) rfl) ?_
          refine dp rfl (pop_load ty9 rfl rfl rfl) ?_
          refine dp rfl (pop_eqls rfl rfl) ?_
          refine dp rfl (pop_move rfl) ?_
          refine dg rfl rfl (fun hc => ⟨_, OpenTo.refl _, pop_fieldAddr ty61 rfl ty3 (by decide) rfl⟩) ?_
          refine dg rfl rfl (fun hc => ⟨_, OpenTo.upd (t := 38) rfl (by first | exact hc | simp_all) (OpenTo.refl _), pop_load ty3 rfl rfl rfl⟩) ?_
          refine dg rfl rfl (fun hc => ⟨_, OpenTo.refl _, pop_fieldAddr ty81 rfl ty3 (by decide) rfl⟩) ?_
          refine dg rfl rfl (fun hc => ⟨_, OpenTo.upd (t := 40) rfl (by first | exact hc | simp_all) (OpenTo.refl _), pop_load ty3 rfl rfl rfl⟩) ?_
          refine dg rfl rfl (fun hc => ⟨_, OpenTo.upd (t := 41) rfl (by first | exact hc | simp_all) (OpenTo.upd (t := 39) rfl (by first | exact hc | simp_all) (OpenTo.refl _)), pop_eql rfl rfl⟩) ?_
          refine dp rfl (pop_picko rfl (.inr ⟨_, rfl, fun h => by simp_all⟩) (.inl rfl)) ?_
          refine dn ?_
          refine hw_cond rfl (fun h5 => ?_) (fun h6 => ?_)
          · try simp at h5
            refine hw_draw1 (fun _ => True) [] mixed ?_
            refine ahp 0 rfl rfl (by kernel_rfl) (by kernel_rfl) (pop_fieldAddr ty61 rfl ty9 (by decide) rfl) ?_
            refine ahp 1 rfl rfl (by kernel_rfl) (by kernel_rfl) (pop_load ty9 rfl rfl rfl) ?_
            refine ahp 2 rfl rfl (by kernel_rfl) (by kernel_rfl) (pop_move rfl) ?_
            refine ahp 3 rfl rfl (by kernel_rfl) (by kernel_rfl) ((by first | exact pop_nilCheck rfl | exact pop_nilCheck_raw rfl)) ?_
            refine ahp 4 rfl rfl (by kernel_rfl) (by kernel_rfl) (pop_fieldAddr ty28 rfl ty3 (by decide) rfl) ?_
            refine ahp 5 rfl rfl (by kernel_rfl) (by kernel_rfl) (pop_load ty3 rfl rfl rfl) ?_
            refine ahp 6 rfl rfl (by kernel_rfl) (by kernel_rfl) (pop_fieldAddr_raw ty49 rfl ty9 (by decide) rfl) ?_
            refine ahe 7 rfl (by kernel_rfl) ?_
            refine hop_e0 (eop_store (i := 0) ty9 rfl rfl rfl rfl rfl (Nat.le_of_ble_eq_true rfl) ?_)
            refine ⟨fun _ => .inl trivial, ?_⟩
            refine ahp 8 rfl rfl (by kernel_rfl) (by kernel_rfl) (pop_fieldAddr_raw ty49 rfl ty3 (by decide) rfl) ?_
            refine ahe 9 rfl (by kernel_rfl) ?_
            refine hop_e0 (eop_store (i := 0) ty3 rfl rfl rfl rfl rfl (Nat.le_of_ble_eq_true rfl) ?_)
            refine ⟨fun _ => .inl trivial, ?_⟩
            refine ahz (by kernel_rfl) ?_
            refine blockQ_n ?_
            refine seqQ_n ?_
            refine hw_reg1 ?_
            refine dp rfl (pop_add64 rfl rfl (by omega) (by omega)) ?_
            refine dp rfl (pop_move rfl) ?_
            refine dn ?_
            first
            | exact ⟨k + 1, { p with Player := x.Player, At := r.Start }, ⟨by omega, by rw [List.take_add_one, hx, hp]; exact (keepIn_snoc r t _ x _).symm ▸ (by simp_all)⟩, by dsimp only; omega, ⟨rfl, trivial⟩, (by repeat (first | exact keeps_refl | refine keeps_upd rfl ?_ | refine keeps_loop rfl rfl ?_)), List.Perm.refl _⟩
            | exact ⟨k + 1, p, ⟨by omega, by rw [List.take_add_one, hx, hp]; exact (keepIn_snoc r t _ x _).symm ▸ (by simp_all)⟩, by dsimp only; omega, ⟨rfl, trivial⟩, (by repeat (first | exact keeps_refl | refine keeps_upd rfl ?_ | refine keeps_loop rfl rfl ?_)), List.Perm.refl _⟩
          · try simp at h6
            refine hw_skip ?_
            refine blockQ_n ?_
            refine seqQ_n ?_
            refine hw_reg1 ?_
            refine dp rfl (pop_add64 rfl rfl (by omega) (by omega)) ?_
            refine dp rfl (pop_move rfl) ?_
            refine dn ?_
            first
            | exact ⟨k + 1, { p with Player := x.Player, At := r.Start }, ⟨by omega, by rw [List.take_add_one, hx, hp]; exact (keepIn_snoc r t _ x _).symm ▸ (by simp_all)⟩, by dsimp only; omega, ⟨rfl, trivial⟩, (by repeat (first | exact keeps_refl | refine keeps_upd rfl ?_ | refine keeps_loop rfl rfl ?_)), List.Perm.refl _⟩
            | exact ⟨k + 1, p, ⟨by omega, by rw [List.take_add_one, hx, hp]; exact (keepIn_snoc r t _ x _).symm ▸ (by simp_all)⟩, by dsimp only; omega, ⟨rfl, trivial⟩, (by repeat (first | exact keeps_refl | refine keeps_upd rfl ?_ | refine keeps_loop rfl rfl ?_)), List.Perm.refl _⟩
        · try simp at h4
          have hnk : l.length ≤ k := by omega
          obtain rfl : k = l.length := by omega
          rw [List.take_length] at hp
          subst hp
          refine hw_exit ?_
          refine seqQ_x ?_
          refine loopQ2_x ?_
          refine blockQ_eq ?_
          refine seqQ_n ?_
          have ho : (openFrom r l 0 ((turns r s).take i)).length ≤ 600 := by rw [openFrom_len]; simp; omega
          refine hw_reg1 ?_
          refine dp rfl (pop_move rfl) ?_
          refine de rfl (eop_loadw (i := 0) ty49 rfl rfl rfl rfl rfl ?_)
          refine dp rfl (pop_buildSlice (hs := [_]) ty41 ty49 rfl rfl (by decide) (by decide) rfl) ?_
          refine de rfl (eop_append (i := 1) ty41 ty49 rfl rfl rfl rfl rfl (by simp [flat, hcells]) (by first | omega | (simp; omega)) fun v56 => ?_)
          refine dp rfl (pop_assign rfl) ?_
          refine dn ?_
          refine blockQ_n ?_
          refine seqQ_n ?_
          refine hw_ghost Ghost.drop ?_
          refine hw_reg1 ?_
          refine dp rfl (pop_add64 rfl rfl (by omega) (by omega)) ?_
          refine dp rfl (pop_move rfl) ?_
          refine dn ?_
          refine ⟨i + 1, _, ?_, ?_, ⟨rfl, rfl, trivial⟩, (by repeat (first | exact keeps_refl | refine keeps_upd rfl ?_ | refine keeps_loop rfl rfl ?_)), perm_eq (by simp [List.take_add_one, ht, openFrom_snoc, Nat.min_eq_left hi])⟩
          · exact ⟨by omega, trivial⟩
          · dsimp only; omega
    · try simp at h2
      have hni : (turns r s).length ≤ i := by omega
      obtain rfl : i = (turns r s).length := by omega
      refine hw_exit ?_
      refine seqQ_x ?_
      refine loopQ2_x ?_
      refine blockQ_eq ?_
      refine seqQ_n ?_
      refine hw_reg ?_
      refine dp rfl (pop_move rfl) ?_
      refine dp rfl (pop_assign rfl) ?_
      refine dn ?_
      refine hw_ret ?_
      exact ret_fa (M := []) 6 rfl rfl (by simp [open1])

/-- benchwarmer/draft.Open -/
theorem c_draft_Open {r : Room} {l : List Keep} {s : List Swap} (ht : r.Teams.length ≤ 1000000) (hp : r.Players.length ≤ 1000000) (hk0 : l.length ≤ 1000000) (hl : s.length ≤ 1000000) : ConP Tryz.prog 15 [eRoom r, eKeeps l, eSwaps s] (.tup [ePicks (opened r l s), .int .i64 (openFault r l s)]) := by
  refine Con.of_body Tryz.func15 rfl Tryz.ntmps15 rfl rfl ?_
  refine hw_reg ?_
  refine dp rfl (pop_box rfl rfl) ?_
  refine dp rfl (pop_assign rfl) ?_
  refine dp rfl (pop_assign rfl) ?_
  refine dn ?_
  refine hw_seq ?_
  refine hw_reg ?_
  refine dp rfl (pop_loadw ty28 rfl rfl rfl rfl) ?_
  refine dp rfl (pop_move rfl) ?_
  refine dp rfl (pop_move rfl) ?_
  refine dp rfl (pop_call ca49 rfl (WeakL.refl _) (c_draft_openFault (by first | assumption | omega | (simp; omega) | simp_all) (by first | assumption | omega | (simp; omega) | simp_all) (by first | assumption | omega | (simp; omega) | simp_all) (by first | assumption | omega | (simp; omega) | simp_all))) ?_
  refine dp rfl (pop_assign rfl) ?_
  refine dn ?_
  refine hw_reg ?_
  refine dp rfl (pop_move rfl) ?_
  refine dp rfl (pop_neq rfl rfl) ?_
  refine dn ?_
  refine hw_cond rfl (fun h1 => ?_) (fun h2 => ?_)
  · try simp at h1
    refine hw_reg ?_
    refine dp rfl (pop_move rfl) ?_
    refine dp rfl (pop_assign rfl) ?_
    refine dp rfl (pop_assign rfl) ?_
    refine dn ?_
    refine hw_ret ?_
    first
    | exact ret_w rfl (weak_tup2 (by rw [opened, if_pos (by simp_all)]; exact weak_nil 5) (Weak.refl _))
    | (refine ret_p rfl ?_
       simp_all [opened, ePicks, ofVal, ofVal1])
  · try simp at h2
    refine hw_skip ?_
    refine seqQ_n ?_
    obtain ⟨_, hq1, _, hq2, hq3, _⟩ := checkRoom_ok (r := r) ((openFault_ok h2).1)
    have hlen := turns_len (r := r) (s := s) (openFault_ok h2).1
    refine hw_reg ?_
    refine dp rfl (pop_move rfl) ?_
    refine dp rfl (pop_move rfl) ?_
    refine dp rfl (pop_call ca50 rfl (WeakL.refl _) (c_draft_open (by first | assumption | omega | (simp; omega) | simp_all) (by first | assumption | omega | (simp; omega) | simp_all) (by first | assumption | omega | (simp; omega) | simp_all) (by first | assumption | omega | (simp; omega) | simp_all) (by first | assumption | omega | (simp; omega) | simp_all) (by first | assumption | omega | (simp; omega) | simp_all))) ?_
    refine dp rfl (pop_assign rfl) ?_
    refine dp rfl (pop_assign rfl) ?_
    refine dn ?_
    refine hw_ret ?_
    first
    | exact ret_w rfl (weak_tup2 (by rw [opened, if_pos (by simp_all)]; exact weak_nil 5) (Weak.refl _))
    | (refine ret_p rfl ?_
       simp_all [opened, ePicks, ofVal, ofVal1])
end Go.Proofs.YthkidikfikijhaaGreatDoor
