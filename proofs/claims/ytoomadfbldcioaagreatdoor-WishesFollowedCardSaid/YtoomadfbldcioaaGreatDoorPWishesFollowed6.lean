/- The statement is proved: the card of the law, out of its function's contract; no conditions. -/
import Derived.Test.YtoomadfbldcioaaGreatDoorPWishesFollowed5
import Derived.LaidMore
import Derived.Lay
import Derived.OpenShut
import Derived.ProofKit
import Derived.SevenTiedAt
import Derived.Stop.Joined
import Derived.Test.YtoomadfbldcioaaGreatDoorCards
import Derived.Test.YtoomadfbldcioaaGreatDoorTie
section
namespace Go.Proofs.YtoomadfbldcioaaGreatDoor
open Go.HL
set_option maxRecDepth 100000
set_option linter.unusedVariables false
set_option linter.unusedSimpArgs false
/-- benchwarmer/benchref1.PicksFault -/
theorem c_benchref1_PicksFault {r : Room} {k : List Keep} {s : List Swap} {l : List Pick}  (ht : r.Teams.length ≤ 1000000) (hp : r.Players.length ≤ 1000000) (hk0 : k.length ≤ 1000000) (hl : s.length ≤ 1000000) (hs1 : ∀ s ∈ r.Teams, s.length ≤ 1000000) (hs2 : ∀ s ∈ r.Players, s.length ≤ 1000000) (hll : l.length ≤ 1000) : ConP Tryz.prog 15 [eRoom r, eKeeps k, eSwaps s, ePicks l] (.int .i64 (picksE r k s l)) := by
  refine Con.of_body Tryz.func15 rfl Tryz.ntmps15 rfl rfl ?_
  refine hw_reg ?_
  refine dp rfl (pop_box rfl rfl) ?_
  refine dp rfl (pop_assign rfl) ?_
  refine dn ?_
  refine hw_seq ?_
  refine hw_reg ?_
  refine dp rfl (pop_loadw ty28 rfl rfl rfl rfl) ?_
  refine dp rfl (pop_move rfl) ?_
  refine dp rfl (pop_move rfl) ?_
  refine dp rfl (pop_eq (pop_call ca49 rfl (WeakL.refl _) (c_benchref1_OpenFault ht hp hs1 hs2 hk0 hl)) (congrArg (HVal.int .i64) (openFault_ref r k s))) ?_
  refine dp rfl (pop_assign rfl) ?_
  refine dn ?_
  refine hw_reg ?_
  refine dp rfl (pop_move rfl) ?_
  refine dp rfl (pop_neq rfl rfl) ?_
  refine dn ?_
  refine hw_cond rfl (fun h1 => ?_) (fun h2 => ?_)
  · try simp at h1
    refine hw_reg ?_
    refine dp rfl (pop_move rfl) ?_
    refine dp rfl (pop_assign rfl) ?_
    refine dn ?_
    refine hw_ret ?_
    refine ret_p rfl ?_
    show HVal.int .i64 _ = _
    first | (rw [picksE, if_pos (by simpa using h1)]; done) | (rw [picksE, if_neg (by simpa using h2), pksR, if_pos (by omega)]; done) | (rw [picksE, if_neg (by simpa using h2), hg, pgo_ne (by rw [pf1 h7]; decide), pf1 h7]; done) | (rw [picksE, if_neg (by simpa using h2), hg, pgo_ne (by rw [pf2 h8 (by rw [hti]; exact h9)]; decide), pf2 h8 (by rw [hti]; exact h9)]; done) | (rw [picksE, if_neg (by simpa using h2), hg, pgo_ne (by rw [pf3 h8 (by rw [hti]; exact h10) (by rw [hti]; exact h11)]; decide), pf3 h8 (by rw [hti]; exact h10) (by rw [hti]; exact h11)]; done) | (rw [picksE, if_neg (by simpa using h2), hg, pgo_ne (by rw [pf4 h8 (by rw [hti]; exact h10) (by rw [hti]; exact h12) h13]; decide), pf4 h8 (by rw [hti]; exact h10) (by rw [hti]; exact h12) h13]; done) | (rw [picksE, if_neg (by simpa using h2), hg, pgo_ne (by rw [pf5 h8 (by rw [hti]; exact h10) (by rw [hti]; exact h12) h14 (b_true fun q => h15 (by simpa using (left_mem h14).2 q))]; decide), pf5 h8 (by rw [hti]; exact h10) (by rw [hti]; exact h12) h14 (b_true fun q => h15 (by simpa using (left_mem h14).2 q))]; done) | (rw [picksE, if_neg (by simpa using h2), hg, pgo_ne (by rw [pf6 h8 (by rw [hti]; exact h10) (by rw [hti]; exact h12) h14 hgo (by omega)]; decide), pf6 h8 (by rw [hti]; exact h10) (by rw [hti]; exact h12) h14 hgo (by omega)]; done) | (rw [picksE, if_neg (by simpa using h2), hg]; rfl)
  · try simp at h2
    refine hw_skip ?_
    refine seqQ_n ?_
    have hof : openFault r k s = 0 := by simpa using h2
    have hfl : (freeP r k s).length ≤ 600 := by have h5 := free_len hof; have h6 := turns_len (r := r) (s := s) (openFault_ok hof).1; omega
    refine hw_reg ?_
    refine dp rfl (pop_loadw ty28 rfl rfl rfl rfl) ?_
    refine dp rfl (pop_move rfl) ?_
    refine dp rfl (pop_move rfl) ?_
    refine dp rfl (pop_call ca56 rfl (WeakL.refl _) (c_benchref1_free hof hk0 hl)) ?_
    refine dp rfl (pop_assign rfl) ?_
    refine dn ?_
    refine hw_seq ?_
    refine hw_reg ?_
    refine dp rfl (pop_move rfl) ?_
    refine dp rfl (pop_lenm ty36 rfl) ?_
    refine dp rfl (pop_move rfl) ?_
    refine dp rfl (pop_lenm ty36 rfl) ?_
    refine dp rfl (pop_gtr rfl rfl) ?_
    refine dn ?_
    refine hw_cond rfl (fun h3 => ?_) (fun h4 => ?_)
    · try simp at h3
      refine hw_reg ?_
      refine dp rfl (pop_assign rfl) ?_
      refine dn ?_
      refine hw_ret ?_
      refine ret_p rfl ?_
      show HVal.int .i64 _ = _
      first | (rw [picksE, if_pos (by simpa using h1)]; done) | (rw [picksE, if_neg (by simpa using h2), pksR, if_pos (by omega)]; done) | (rw [picksE, if_neg (by simpa using h2), hg, pgo_ne (by rw [pf1 h7]; decide), pf1 h7]; done) | (rw [picksE, if_neg (by simpa using h2), hg, pgo_ne (by rw [pf2 h8 (by rw [hti]; exact h9)]; decide), pf2 h8 (by rw [hti]; exact h9)]; done) | (rw [picksE, if_neg (by simpa using h2), hg, pgo_ne (by rw [pf3 h8 (by rw [hti]; exact h10) (by rw [hti]; exact h11)]; decide), pf3 h8 (by rw [hti]; exact h10) (by rw [hti]; exact h11)]; done) | (rw [picksE, if_neg (by simpa using h2), hg, pgo_ne (by rw [pf4 h8 (by rw [hti]; exact h10) (by rw [hti]; exact h12) h13]; decide), pf4 h8 (by rw [hti]; exact h10) (by rw [hti]; exact h12) h13]; done) | (rw [picksE, if_neg (by simpa using h2), hg, pgo_ne (by rw [pf5 h8 (by rw [hti]; exact h10) (by rw [hti]; exact h12) h14 (b_true fun q => h15 (by simpa using (left_mem h14).2 q))]; decide), pf5 h8 (by rw [hti]; exact h10) (by rw [hti]; exact h12) h14 (b_true fun q => h15 (by simpa using (left_mem h14).2 q))]; done) | (rw [picksE, if_neg (by simpa using h2), hg, pgo_ne (by rw [pf6 h8 (by rw [hti]; exact h10) (by rw [hti]; exact h12) h14 hgo (by omega)]; decide), pf6 h8 (by rw [hti]; exact h10) (by rw [hti]; exact h12) h14 hgo (by omega)]; done) | (rw [picksE, if_neg (by simpa using h2), hg]; rfl)
    · try simp at h4
      refine hw_skip ?_
      refine seqQ_n ?_
      refine hw_reg ?_
      refine dp rfl (pop_fieldAddr ty28 rfl ty3 (by decide) rfl) ?_
      refine dp rfl (pop_load ty3 rfl rfl rfl) ?_
      refine dp rfl (pop_assign rfl) ?_
      refine dn ?_
      refine hw_seq ?_
      refine hw_reg ?_
      refine dp rfl (pop_move rfl) ?_
      refine dp rfl (pop_lenm ty36 rfl) ?_
      refine dp rfl (pop_move rfl) ?_
      refine dn ?_
      refine hw_block ?_
      refine hw_loopw [8, 11, 12, 13, 34, 35, 36, 37, 38, 39, 40, 41, 42, 43, 44, 45, 46, 47, 48, 49, 50, 51, 52, 53, 54, 55, 56, 57, 58, 59, 60, 61, 62, 63, 64, 65, 66, 67, 68, 69, 70, 71, 72, 73, 74, 75, 76, 77, 78, 79, 80, 81, 82, 83, 84, 85, 86, 87] (fun (i : Nat) => [(34, .int .i64 i), (11, .int .i64 (lastAt r (l.take i)))]) (fun (i : Nat) => []) (fun (i : Nat) => i ≤ l.length ∧ (pksR r k s l = pksGo r k (freeP r k s) l i (l.drop i))) (fun (i : Nat) => l.length - i) (0) ?_ ?_ ?_ ?_
      · refine ⟨Nat.zero_le _, ?_⟩
        rw [pksR, if_neg (by omega)]; rfl
      · exact ⟨rfl, rfl, trivial⟩
      · exact List.Perm.refl _
      · intro i hinv
        obtain ⟨hi, hg⟩ := hinv
        refine hw_reg ?_
        refine dp rfl (pop_lss rfl rfl) ?_
        refine dn ?_
        refine hw_seq ?_
        refine hw_cond rfl (fun h5 => ?_) (fun h6 => ?_)
        · try simp at h5
          obtain ⟨x, hx⟩ : ∃ x, l[i]? = some x := ⟨_, List.getElem?_eq_getElem h5⟩
          have hdx := drop_cons hx
          rw [hdx] at hg
          refine hw_skip ?_
          refine seqQ_n ?_
          refine hw_seq ?_
          refine hw_block ?_
          refine hw_reg ?_
          refine dp rfl (pop_move rfl) ?_
          refine dp rfl (pop_idx ty36 ty55 rfl rfl rfl (by first | assumption | simp_all)) ?_
          refine dp rfl (pop_loadw ty55 rfl rfl rfl rfl) ?_
          refine de rfl (eop_alloc ty55 rfl fun b13 => ?_)
          refine dp rfl (pop_assign rfl) ?_
          refine de0 (eop_storew ty55 rfl rfl rfl rfl rfl ?_)
          refine dn ?_
          refine hw_ghost (Ghost.fc0 13 rfl) ?_
          refine hw_seq ?_
          refine hw_block ?_
          refine hw_reg ?_
          refine dp rfl (pop_fieldAddr ty55 rfl ty3 (by decide) rfl) ?_
          refine dp rfl (pop_load ty3 rfl rfl rfl) ?_
          refine dp rfl (pop_call ca20 rfl (WeakL.refl _) c_benchref1_MomentFault) ?_
          refine dp rfl (pop_neq rfl rfl) ?_
          refine dp rfl (pop_assign rfl) ?_
          refine dn ?_
          refine hw_cond rfl (fun h7 => ?_) (fun h8 => ?_)
          · try simp at h7
            refine hw_reg ?_
            refine dp rfl (pop_assign rfl) ?_
            refine dn ?_
            refine hw_ret ?_
            refine ret_p rfl ?_
            show HVal.int .i64 _ = _
            first | (rw [picksE, if_pos (by simpa using h1)]; done) | (rw [picksE, if_neg (by simpa using h2), pksR, if_pos (by omega)]; done) | (rw [picksE, if_neg (by simpa using h2), hg, pgo_ne (by rw [pf1 h7]; decide), pf1 h7]; done) | (rw [picksE, if_neg (by simpa using h2), hg, pgo_ne (by rw [pf2 h8 (by rw [hti]; exact h9)]; decide), pf2 h8 (by rw [hti]; exact h9)]; done) | (rw [picksE, if_neg (by simpa using h2), hg, pgo_ne (by rw [pf3 h8 (by rw [hti]; exact h10) (by rw [hti]; exact h11)]; decide), pf3 h8 (by rw [hti]; exact h10) (by rw [hti]; exact h11)]; done) | (rw [picksE, if_neg (by simpa using h2), hg, pgo_ne (by rw [pf4 h8 (by rw [hti]; exact h10) (by rw [hti]; exact h12) h13]; decide), pf4 h8 (by rw [hti]; exact h10) (by rw [hti]; exact h12) h13]; done) | (rw [picksE, if_neg (by simpa using h2), hg, pgo_ne (by rw [pf5 h8 (by rw [hti]; exact h10) (by rw [hti]; exact h12) h14 (b_true fun q => h15 (by simpa using (left_mem h14).2 q))]; decide), pf5 h8 (by rw [hti]; exact h10) (by rw [hti]; exact h12) h14 (b_true fun q => h15 (by simpa using (left_mem h14).2 q))]; done) | (rw [picksE, if_neg (by simpa using h2), hg, pgo_ne (by rw [pf6 h8 (by rw [hti]; exact h10) (by rw [hti]; exact h12) h14 hgo (by omega)]; decide), pf6 h8 (by rw [hti]; exact h10) (by rw [hti]; exact h12) h14 hgo (by omega)]; done) | (rw [picksE, if_neg (by simpa using h2), hg]; rfl)
          · try simp at h8
            have hti : (l.take i).length = i := by simp; omega
            refine hw_draw (fun _ => True) [] mixed ?_
            refine ahp 0 rfl rfl (by kernel_rfl) (by kernel_rfl) (pop_fieldAddr ty55 rfl ty3 (by decide) rfl) ?_
            refine ahp 1 rfl rfl (by kernel_rfl) (by kernel_rfl) (pop_load ty3 rfl rfl rfl) ?_
            refine ahp 2 rfl rfl (by kernel_rfl) (by kernel_rfl) (pop_move rfl) ?_
            refine ahp 3 rfl rfl (by kernel_rfl) (by kernel_rfl) (pop_move rfl) ?_
            refine ahp 4 rfl rfl (by kernel_rfl) (by kernel_rfl) (pop_idx (j := i) (a := (freeP r k s).getD i pick0) ty36 ty55 rfl rfl rfl (getD_some (by omega))) ?_
            refine ahp 5 rfl rfl (by kernel_rfl) (by kernel_rfl) (pop_fieldAddr ty55 rfl ty3 (by decide) rfl) ?_
            refine ahp 6 rfl rfl (by kernel_rfl) (by kernel_rfl) (pop_load ty3 rfl rfl rfl) ?_
            refine ahp 7 rfl rfl (by kernel_rfl) (by kernel_rfl) (pop_neq rfl rfl) ?_
            refine ahp 8 rfl rfl (by kernel_rfl) (by kernel_rfl) (pop_assign rfl) ?_
            refine ahz (by kernel_rfl) ?_
            refine hw_cond rfl (fun h9 => ?_) (fun h10 => ?_)
            · try simp at h9
              refine hw_reg ?_
              refine dp rfl (pop_assign rfl) ?_
              refine dn ?_
              refine hw_ret ?_
              refine ret_p rfl ?_
              show HVal.int .i64 _ = _
              first | (rw [picksE, if_pos (by simpa using h1)]; done) | (rw [picksE, if_neg (by simpa using h2), pksR, if_pos (by omega)]; done) | (rw [picksE, if_neg (by simpa using h2), hg, pgo_ne (by rw [pf1 h7]; decide), pf1 h7]; done) | (rw [picksE, if_neg (by simpa using h2), hg, pgo_ne (by rw [pf2 h8 (by rw [hti]; exact h9)]; decide), pf2 h8 (by rw [hti]; exact h9)]; done) | (rw [picksE, if_neg (by simpa using h2), hg, pgo_ne (by rw [pf3 h8 (by rw [hti]; exact h10) (by rw [hti]; exact h11)]; decide), pf3 h8 (by rw [hti]; exact h10) (by rw [hti]; exact h11)]; done) | (rw [picksE, if_neg (by simpa using h2), hg, pgo_ne (by rw [pf4 h8 (by rw [hti]; exact h10) (by rw [hti]; exact h12) h13]; decide), pf4 h8 (by rw [hti]; exact h10) (by rw [hti]; exact h12) h13]; done) | (rw [picksE, if_neg (by simpa using h2), hg, pgo_ne (by rw [pf5 h8 (by rw [hti]; exact h10) (by rw [hti]; exact h12) h14 (b_true fun q => h15 (by simpa using (left_mem h14).2 q))]; decide), pf5 h8 (by rw [hti]; exact h10) (by rw [hti]; exact h12) h14 (b_true fun q => h15 (by simpa using (left_mem h14).2 q))]; done) | (rw [picksE, if_neg (by simpa using h2), hg, pgo_ne (by rw [pf6 h8 (by rw [hti]; exact h10) (by rw [hti]; exact h12) h14 hgo (by omega)]; decide), pf6 h8 (by rw [hti]; exact h10) (by rw [hti]; exact h12) h14 hgo (by omega)]; done) | (rw [picksE, if_neg (by simpa using h2), hg]; rfl)
            · try simp at h10
              refine hw_draw (fun _ => True) [] mixed ?_
              refine ahp 0 rfl rfl (by kernel_rfl) (by kernel_rfl) (pop_fieldAddr ty55 rfl ty9 (by decide) rfl) ?_
              refine ahp 1 rfl rfl (by kernel_rfl) (by kernel_rfl) (pop_load ty9 rfl rfl rfl) ?_
              refine ahp 2 rfl rfl (by kernel_rfl) (by kernel_rfl) (pop_move rfl) ?_
              refine ahp 3 rfl rfl (by kernel_rfl) (by kernel_rfl) (pop_move rfl) ?_
              refine ahp 4 rfl rfl (by kernel_rfl) (by kernel_rfl) (pop_idx (j := i) (a := (freeP r k s).getD i pick0) ty36 ty55 rfl rfl rfl (getD_some (by omega))) ?_
              refine ahp 5 rfl rfl (by kernel_rfl) (by kernel_rfl) (pop_fieldAddr ty55 rfl ty9 (by decide) rfl) ?_
              refine ahp 6 rfl rfl (by kernel_rfl) (by kernel_rfl) (pop_load ty9 rfl rfl rfl) ?_
              refine ahp 7 rfl rfl (by kernel_rfl) (by kernel_rfl) (pop_neqs rfl rfl) ?_
              refine ahp 8 rfl rfl (by kernel_rfl) (by kernel_rfl) (pop_assign rfl) ?_
              refine ahz (by kernel_rfl) ?_
              refine hw_cond rfl (fun h11 => ?_) (fun h12 => ?_)
              · try simp at h11
                refine hw_reg ?_
                refine dp rfl (pop_assign rfl) ?_
                refine dn ?_
                refine hw_ret ?_
                refine ret_p rfl ?_
                show HVal.int .i64 _ = _
                first | (rw [picksE, if_pos (by simpa using h1)]; done) | (rw [picksE, if_neg (by simpa using h2), pksR, if_pos (by omega)]; done) | (rw [picksE, if_neg (by simpa using h2), hg, pgo_ne (by rw [pf1 h7]; decide), pf1 h7]; done) | (rw [picksE, if_neg (by simpa using h2), hg, pgo_ne (by rw [pf2 h8 (by rw [hti]; exact h9)]; decide), pf2 h8 (by rw [hti]; exact h9)]; done) | (rw [picksE, if_neg (by simpa using h2), hg, pgo_ne (by rw [pf3 h8 (by rw [hti]; exact h10) (by rw [hti]; exact h11)]; decide), pf3 h8 (by rw [hti]; exact h10) (by rw [hti]; exact h11)]; done) | (rw [picksE, if_neg (by simpa using h2), hg, pgo_ne (by rw [pf4 h8 (by rw [hti]; exact h10) (by rw [hti]; exact h12) h13]; decide), pf4 h8 (by rw [hti]; exact h10) (by rw [hti]; exact h12) h13]; done) | (rw [picksE, if_neg (by simpa using h2), hg, pgo_ne (by rw [pf5 h8 (by rw [hti]; exact h10) (by rw [hti]; exact h12) h14 (b_true fun q => h15 (by simpa using (left_mem h14).2 q))]; decide), pf5 h8 (by rw [hti]; exact h10) (by rw [hti]; exact h12) h14 (b_true fun q => h15 (by simpa using (left_mem h14).2 q))]; done) | (rw [picksE, if_neg (by simpa using h2), hg, pgo_ne (by rw [pf6 h8 (by rw [hti]; exact h10) (by rw [hti]; exact h12) h14 hgo (by omega)]; decide), pf6 h8 (by rw [hti]; exact h10) (by rw [hti]; exact h12) h14 hgo (by omega)]; done) | (rw [picksE, if_neg (by simpa using h2), hg]; rfl)
              · try simp at h12
                refine hw_reg ?_
                refine dp rfl (pop_fieldAddr ty28 rfl ty26 (by decide) rfl) ?_
                refine dp rfl (pop_load ty26 rfl rfl rfl) ?_
                refine dp rfl (pop_fieldAddr ty55 rfl ty9 (by decide) rfl) ?_
                refine dp rfl (pop_load ty9 rfl rfl rfl) ?_
                refine dp rfl (pop_call ca53 rfl (WeakL.refl _) (c_slices_Contains_string_string (by first | assumption | omega | (simp; omega) | simp_all))) ?_
                refine dp rfl (pop_not rfl) ?_
                refine dp rfl (pop_assign rfl) ?_
                refine dn ?_
                refine hw_cond rfl (fun h13 => ?_) (fun h14 => ?_)
                · try simp at h13
                  refine hw_reg ?_
                  refine dp rfl (pop_assign rfl) ?_
                  refine dn ?_
                  refine hw_ret ?_
                  refine ret_p rfl ?_
                  show HVal.int .i64 _ = _
                  first | (rw [picksE, if_pos (by simpa using h1)]; done) | (rw [picksE, if_neg (by simpa using h2), pksR, if_pos (by omega)]; done) | (rw [picksE, if_neg (by simpa using h2), hg, pgo_ne (by rw [pf1 h7]; decide), pf1 h7]; done) | (rw [picksE, if_neg (by simpa using h2), hg, pgo_ne (by rw [pf2 h8 (by rw [hti]; exact h9)]; decide), pf2 h8 (by rw [hti]; exact h9)]; done) | (rw [picksE, if_neg (by simpa using h2), hg, pgo_ne (by rw [pf3 h8 (by rw [hti]; exact h10) (by rw [hti]; exact h11)]; decide), pf3 h8 (by rw [hti]; exact h10) (by rw [hti]; exact h11)]; done) | (rw [picksE, if_neg (by simpa using h2), hg, pgo_ne (by rw [pf4 h8 (by rw [hti]; exact h10) (by rw [hti]; exact h12) h13]; decide), pf4 h8 (by rw [hti]; exact h10) (by rw [hti]; exact h12) h13]; done) | (rw [picksE, if_neg (by simpa using h2), hg, pgo_ne (by rw [pf5 h8 (by rw [hti]; exact h10) (by rw [hti]; exact h12) h14 (b_true fun q => h15 (by simpa using (left_mem h14).2 q))]; decide), pf5 h8 (by rw [hti]; exact h10) (by rw [hti]; exact h12) h14 (b_true fun q => h15 (by simpa using (left_mem h14).2 q))]; done) | (rw [picksE, if_neg (by simpa using h2), hg, pgo_ne (by rw [pf6 h8 (by rw [hti]; exact h10) (by rw [hti]; exact h12) h14 hgo (by omega)]; decide), pf6 h8 (by rw [hti]; exact h10) (by rw [hti]; exact h12) h14 hgo (by omega)]; done) | (rw [picksE, if_neg (by simpa using h2), hg]; rfl)
                · try simp at h14
                  refine hw_draw (fun _ => True) [] mixed ?_
                  refine ahp 0 rfl rfl (by kernel_rfl) (by kernel_rfl) (pop_loadw ty28 rfl rfl rfl rfl) ?_
                  refine ahp 1 rfl rfl (by kernel_rfl) (by kernel_rfl) (pop_move rfl) ?_
                  refine ahp 2 rfl rfl (by kernel_rfl) (by kernel_rfl) (pop_move rfl) ?_
                  refine ahp 3 rfl rfl (by kernel_rfl) (by kernel_rfl) (pop_move rfl) ?_
                  refine ahp 4 rfl rfl (by kernel_rfl) (by kernel_rfl) (pop_slicem ty36 ty55 rfl rfl ⟨_, _, rfl, rfl⟩ (by omega) (by omega)) ?_
                  refine ahp 5 rfl rfl (by kernel_rfl) (by kernel_rfl) (pop_call ca35 rfl (WeakL.refl _) (c_benchref1_LeftOf (l := (l.take i).drop 0) hp hk0 (by simp; omega))) ?_
                  refine ahp 6 rfl rfl (by kernel_rfl) (by kernel_rfl) (pop_fieldAddr ty55 rfl ty9 (by decide) rfl) ?_
                  refine ahp 7 rfl rfl (by kernel_rfl) (by kernel_rfl) (pop_load ty9 rfl rfl rfl) ?_
                  refine ahp 8 rfl rfl (by kernel_rfl) (by kernel_rfl) (pop_call ca53 rfl (WeakL.refl _) (c_slices_Contains_string_string (Nat.le_trans (List.length_filter_le _ _) (by omega)))) ?_
                  refine ahp 9 rfl rfl (by kernel_rfl) (by kernel_rfl) (pop_not rfl) ?_
                  refine ahp 10 rfl rfl (by kernel_rfl) (by kernel_rfl) (pop_assign rfl) ?_
                  refine ahz (by kernel_rfl) ?_
                  refine hw_cond rfl (fun h15 => ?_) (fun h16 => ?_)
                  · try simp at h15
                    refine hw_reg ?_
                    refine dp rfl (pop_assign rfl) ?_
                    refine dn ?_
                    refine hw_ret ?_
                    refine ret_p rfl ?_
                    show HVal.int .i64 _ = _
                    first | (rw [picksE, if_pos (by simpa using h1)]; done) | (rw [picksE, if_neg (by simpa using h2), pksR, if_pos (by omega)]; done) | (rw [picksE, if_neg (by simpa using h2), hg, pgo_ne (by rw [pf1 h7]; decide), pf1 h7]; done) | (rw [picksE, if_neg (by simpa using h2), hg, pgo_ne (by rw [pf2 h8 (by rw [hti]; exact h9)]; decide), pf2 h8 (by rw [hti]; exact h9)]; done) | (rw [picksE, if_neg (by simpa using h2), hg, pgo_ne (by rw [pf3 h8 (by rw [hti]; exact h10) (by rw [hti]; exact h11)]; decide), pf3 h8 (by rw [hti]; exact h10) (by rw [hti]; exact h11)]; done) | (rw [picksE, if_neg (by simpa using h2), hg, pgo_ne (by rw [pf4 h8 (by rw [hti]; exact h10) (by rw [hti]; exact h12) h13]; decide), pf4 h8 (by rw [hti]; exact h10) (by rw [hti]; exact h12) h13]; done) | (rw [picksE, if_neg (by simpa using h2), hg, pgo_ne (by rw [pf5 h8 (by rw [hti]; exact h10) (by rw [hti]; exact h12) h14 (b_true fun q => h15 (by simpa using (left_mem h14).2 q))]; decide), pf5 h8 (by rw [hti]; exact h10) (by rw [hti]; exact h12) h14 (b_true fun q => h15 (by simpa using (left_mem h14).2 q))]; done) | (rw [picksE, if_neg (by simpa using h2), hg, pgo_ne (by rw [pf6 h8 (by rw [hti]; exact h10) (by rw [hti]; exact h12) h14 hgo (by omega)]; decide), pf6 h8 (by rw [hti]; exact h10) (by rw [hti]; exact h12) h14 hgo (by omega)]; done) | (rw [picksE, if_neg (by simpa using h2), hg]; rfl)
                  · try simp at h16
                    have hgo : goneB k (l.take i) x.Player = false := (left_mem h14).1 (by simpa using h16)
                    refine hw_reg ?_
                    refine dp rfl (pop_fieldAddr ty55 rfl ty3 (by decide) rfl) ?_
                    refine dp rfl (pop_load ty3 rfl rfl rfl) ?_
                    refine dp rfl (pop_move rfl) ?_
                    refine dp rfl (pop_lss rfl rfl) ?_
                    refine dp rfl (pop_assign rfl) ?_
                    refine dn ?_
                    refine hw_cond rfl (fun h17 => ?_) (fun h18 => ?_)
                    · try simp at h17
                      refine hw_reg ?_
                      refine dp rfl (pop_assign rfl) ?_
                      refine dn ?_
                      refine hw_ret ?_
                      refine ret_p rfl ?_
                      show HVal.int .i64 _ = _
                      first | (rw [picksE, if_pos (by simpa using h1)]; done) | (rw [picksE, if_neg (by simpa using h2), pksR, if_pos (by omega)]; done) | (rw [picksE, if_neg (by simpa using h2), hg, pgo_ne (by rw [pf1 h7]; decide), pf1 h7]; done) | (rw [picksE, if_neg (by simpa using h2), hg, pgo_ne (by rw [pf2 h8 (by rw [hti]; exact h9)]; decide), pf2 h8 (by rw [hti]; exact h9)]; done) | (rw [picksE, if_neg (by simpa using h2), hg, pgo_ne (by rw [pf3 h8 (by rw [hti]; exact h10) (by rw [hti]; exact h11)]; decide), pf3 h8 (by rw [hti]; exact h10) (by rw [hti]; exact h11)]; done) | (rw [picksE, if_neg (by simpa using h2), hg, pgo_ne (by rw [pf4 h8 (by rw [hti]; exact h10) (by rw [hti]; exact h12) h13]; decide), pf4 h8 (by rw [hti]; exact h10) (by rw [hti]; exact h12) h13]; done) | (rw [picksE, if_neg (by simpa using h2), hg, pgo_ne (by rw [pf5 h8 (by rw [hti]; exact h10) (by rw [hti]; exact h12) h14 (b_true fun q => h15 (by simpa using (left_mem h14).2 q))]; decide), pf5 h8 (by rw [hti]; exact h10) (by rw [hti]; exact h12) h14 (b_true fun q => h15 (by simpa using (left_mem h14).2 q))]; done) | (rw [picksE, if_neg (by simpa using h2), hg, pgo_ne (by rw [pf6 h8 (by rw [hti]; exact h10) (by rw [hti]; exact h12) h14 hgo (by omega)]; decide), pf6 h8 (by rw [hti]; exact h10) (by rw [hti]; exact h12) h14 hgo (by omega)]; done) | (rw [picksE, if_neg (by simpa using h2), hg]; rfl)
                    · try simp at h18
                      refine hw_skip ?_
                      refine blockQ_n ?_
                      refine seqQ_n ?_
                      refine hw_reg1 ?_
                      refine dp rfl (pop_fieldAddr ty55 rfl ty3 (by decide) rfl) ?_
                      refine dp rfl (pop_load ty3 rfl rfl rfl) ?_
                      refine dp rfl (pop_assign rfl) ?_
                      refine dn ?_
                      refine blockQ_n ?_
                      refine seqQ_n ?_
                      refine hw_reg1 ?_
                      refine dp rfl (pop_add64 rfl rfl (by omega) (by omega)) ?_
                      refine dp rfl (pop_move rfl) ?_
                      refine dn ?_
                      exact ⟨i + 1, ⟨by omega, by rw [hg, pgo_z (pf0 h8 (by rw [hti]; exact h10) (by rw [hti]; exact h12) h14 hgo (by omega))]⟩, by dsimp only; omega, ⟨rfl, some_int (by rw [take_snoc' hx, lastAt_snoc]), trivial⟩, (by repeat (first | exact keeps_refl | refine keeps_upd rfl ?_ | refine keeps_loop rfl rfl ?_)), List.Perm.refl _⟩
        · try simp at h6
          have hni : l.length ≤ i := by omega
          obtain rfl : i = l.length := by omega
          rw [drop_all (Nat.le_refl _)] at hg
          refine hw_exit ?_
          refine seqQ_x ?_
          refine loopQ_x ?_
          refine blockQ_eq ?_
          refine seqQ_n ?_
          refine hw_reg ?_
          refine dp rfl (pop_assign rfl) ?_
          refine dn ?_
          refine hw_ret ?_
          refine ret_p rfl ?_
          show HVal.int .i64 _ = _
          first | (rw [picksE, if_pos (by simpa using h1)]; done) | (rw [picksE, if_neg (by simpa using h2), pksR, if_pos (by omega)]; done) | (rw [picksE, if_neg (by simpa using h2), hg, pgo_ne (by rw [pf1 h7]; decide), pf1 h7]; done) | (rw [picksE, if_neg (by simpa using h2), hg, pgo_ne (by rw [pf2 h8 (by rw [hti]; exact h9)]; decide), pf2 h8 (by rw [hti]; exact h9)]; done) | (rw [picksE, if_neg (by simpa using h2), hg, pgo_ne (by rw [pf3 h8 (by rw [hti]; exact h10) (by rw [hti]; exact h11)]; decide), pf3 h8 (by rw [hti]; exact h10) (by rw [hti]; exact h11)]; done) | (rw [picksE, if_neg (by simpa using h2), hg, pgo_ne (by rw [pf4 h8 (by rw [hti]; exact h10) (by rw [hti]; exact h12) h13]; decide), pf4 h8 (by rw [hti]; exact h10) (by rw [hti]; exact h12) h13]; done) | (rw [picksE, if_neg (by simpa using h2), hg, pgo_ne (by rw [pf5 h8 (by rw [hti]; exact h10) (by rw [hti]; exact h12) h14 (b_true fun q => h15 (by simpa using (left_mem h14).2 q))]; decide), pf5 h8 (by rw [hti]; exact h10) (by rw [hti]; exact h12) h14 (b_true fun q => h15 (by simpa using (left_mem h14).2 q))]; done) | (rw [picksE, if_neg (by simpa using h2), hg, pgo_ne (by rw [pf6 h8 (by rw [hti]; exact h10) (by rw [hti]; exact h12) h14 hgo (by omega)]; decide), pf6 h8 (by rw [hti]; exact h10) (by rw [hti]; exact h12) h14 hgo (by omega)]; done) | (rw [picksE, if_neg (by simpa using h2), hg]; rfl)

/-- benchwarmer/benchref1.WishesFault$1 -/
theorem c_benchref1_WishesFault_1 {y x : Wish}  : ConP Tryz.prog 55 [eWish y, .vptr (hcells (eWish x)) 0] (.bool (y.Team == x.Team)) := by
  refine Con.of_body Tryz.func55 rfl Tryz.ntmps55 rfl rfl ?_
  refine hw_reg ?_
  refine dp rfl (pop_box rfl rfl) ?_
  refine dp rfl (pop_assign rfl) ?_
  refine dn ?_
  refine hw_reg ?_
  refine dp rfl (pop_fieldAddr ty78 rfl ty9 (by decide) rfl) ?_
  refine dp rfl (pop_load ty9 rfl rfl rfl) ?_
  refine dp rfl (pop_fieldAddr ty78 rfl ty9 (by decide) rfl) ?_
  refine dp rfl (pop_load ty9 rfl rfl rfl) ?_
  refine dp rfl (pop_eqls rfl rfl) ?_
  refine dp rfl (pop_assign rfl) ?_
  refine dn ?_
  refine hw_ret ?_
  refine ret_p rfl ?_
  rfl

/-- benchwarmer/benchref1.WishesFault -/
theorem c_benchref1_WishesFault {r : Room} {w : List Wish} (ht : r.Teams.length ≤ 1000000) (hp : r.Players.length ≤ 1000000) (hw : w.length ≤ 1000000) (hwp : ∀ y ∈ w, y.Players.length ≤ 1000000) : ConP Tryz.prog 13 [eRoom r, eWishes w] (.int .i64 (wishesR r w)) := by
  refine Con.of_body Tryz.func13 rfl Tryz.ntmps13 rfl rfl ?_
  refine hw_reg ?_
  refine dp rfl (pop_box rfl rfl) ?_
  refine dp rfl (pop_assign rfl) ?_
  refine dn ?_
  refine hw_seq ?_
  refine hw_reg ?_
  refine dp rfl (pop_move rfl) ?_
  refine dp rfl (pop_lenm ty34 rfl) ?_
  refine dp rfl (pop_gtr rfl rfl) ?_
  refine dn ?_
  refine hw_cond rfl (fun h1 => ?_) (fun h2 => ?_)
  · try simp at h1
    refine hw_reg ?_
    refine dp rfl (pop_assign rfl) ?_
    refine dn ?_
    refine hw_ret ?_
    refine ret_p rfl ?_
    show HVal.int .i64 _ = _
    first | (rw [wishesR, if_pos (by omega)]; done) | (rw [hg, ws8 h5]; done) | (rw [hg, ws6 h6 (by simpa using h7)]; done) | (rw [hg, ws2 h6 (by simpa using h8) (by omega)]; done) | (rw [hg, wsP h6 (by simpa using h8) (by omega) (hg2.trans (wp8 h13)) (by decide)]; done) | (rw [hg, wsP h6 (by simpa using h8) (by omega) (hg2.trans (wp6 h14 (by simpa using h15))) (by decide)]; done) | (rw [hg]; rfl)
  · try simp at h2
    refine hw_skip ?_
    refine seqQ_n ?_
    refine hw_seq ?_
    refine hw_reg ?_
    refine dp rfl (pop_move rfl) ?_
    refine dp rfl (pop_lenm ty34 rfl) ?_
    refine dp rfl (pop_move rfl) ?_
    refine dn ?_
    refine hw_block ?_
    refine hw_loopw [4, 5, 6, 7, 8, 14, 15, 16, 17, 18, 19, 20, 21, 22, 23, 24, 25, 26, 27, 28, 29, 30, 31, 32, 33, 34, 35, 36, 37, 38, 39, 40, 41, 42, 43, 44, 45, 46, 47, 48, 49, 50, 51, 52, 53, 54, 55, 56, 57, 58, 59] (fun (k : Nat) => [(14, .int .i64 k)]) (fun (k : Nat) => []) (fun (k : Nat) => k ≤ w.length ∧ (wishesR r w = wsGo r w k (w.drop k))) (fun (k : Nat) => w.length - k) (0) ?_ ?_ ?_ ?_
    · refine ⟨Nat.zero_le _, ?_⟩
      rw [wishesR, if_neg (by omega)]; rfl
    · exact ⟨rfl, trivial⟩
    · exact List.Perm.refl _
    · intro k hinv
      obtain ⟨hk, hg⟩ := hinv
      refine hw_reg ?_
      refine dp rfl (pop_lss rfl rfl) ?_
      refine dn ?_
      refine hw_seq ?_
      refine hw_cond rfl (fun h3 => ?_) (fun h4 => ?_)
      · try simp at h3
        obtain ⟨x, hx⟩ : ∃ x, w[k]? = some x := ⟨_, List.getElem?_eq_getElem h3⟩
        have hdx := drop_cons hx
        rw [hdx] at hg
        refine hw_skip ?_
        refine seqQ_n ?_
        refine hw_seq ?_
        refine hw_block ?_
        refine hw_reg ?_
        refine dp rfl (pop_move rfl) ?_
        refine dp rfl (pop_idx ty34 ty78 rfl rfl rfl (by first | assumption | simp_all)) ?_
        refine dp rfl (pop_loadw ty78 rfl rfl rfl rfl) ?_
        refine de rfl (eop_alloc ty78 rfl fun b6 => ?_)
        refine dp rfl (pop_assign rfl) ?_
        refine de0 (eop_storew ty78 rfl rfl rfl rfl rfl ?_)
        refine dn ?_
        refine hw_ghost (Ghost.fc0 6 rfl) ?_
        refine hw_seq ?_
        refine hw_block ?_
        refine hw_reg ?_
        refine dp rfl (pop_fieldAddr ty28 rfl ty26 (by decide) rfl) ?_
        refine dp rfl (pop_load ty26 rfl rfl rfl) ?_
        refine dp rfl (pop_fieldAddr ty78 rfl ty9 (by decide) rfl) ?_
        refine dp rfl (pop_load ty9 rfl rfl rfl) ?_
        refine dp rfl (pop_call ca53 rfl (WeakL.refl _) (c_slices_Contains_string_string (by first | assumption | omega | (simp; omega) | simp_all))) ?_
        refine dp rfl (pop_not rfl) ?_
        refine dp rfl (pop_assign rfl) ?_
        refine dn ?_
        refine hw_cond rfl (fun h5 => ?_) (fun h6 => ?_)
        · try simp at h5
          refine hw_reg ?_
          refine dp rfl (pop_assign rfl) ?_
          refine dn ?_
          refine hw_ret ?_
          refine ret_p rfl ?_
          show HVal.int .i64 _ = _
          first | (rw [wishesR, if_pos (by omega)]; done) | (rw [hg, ws8 h5]; done) | (rw [hg, ws6 h6 (by simpa using h7)]; done) | (rw [hg, ws2 h6 (by simpa using h8) (by omega)]; done) | (rw [hg, wsP h6 (by simpa using h8) (by omega) (hg2.trans (wp8 h13)) (by decide)]; done) | (rw [hg, wsP h6 (by simpa using h8) (by omega) (hg2.trans (wp6 h14 (by simpa using h15))) (by decide)]; done) | (rw [hg]; rfl)
        · try simp at h6
          refine hw_reg ?_
          refine dp rfl (pop_move rfl) ?_
          refine dp rfl (pop_move rfl) ?_
          refine dp rfl (pop_slicem ty34 ty78 rfl rfl ⟨_, _, rfl, rfl⟩ (by omega) (by omega)) ?_
          refine dp rfl (pop_makeFunc rfl rfl) ?_
          refine dp rfl (pop_call ca54 rfl (WeakL.refl _) (c_slices_ContainsFunc_api_Wishes_api_Wishes (p := fun y => y.Team == x.Team) ca55 (fun _ => c_benchref1_WishesFault_1) (by simp; omega))) ?_
          refine dp rfl (pop_assign rfl) ?_
          refine dn ?_
          refine hw_cond rfl (fun h7 => ?_) (fun h8 => ?_)
          · try simp at h7
            refine hw_reg ?_
            refine dp rfl (pop_assign rfl) ?_
            refine dn ?_
            refine hw_ret ?_
            refine ret_p rfl ?_
            show HVal.int .i64 _ = _
            first | (rw [wishesR, if_pos (by omega)]; done) | (rw [hg, ws8 h5]; done) | (rw [hg, ws6 h6 (by simpa using h7)]; done) | (rw [hg, ws2 h6 (by simpa using h8) (by omega)]; done) | (rw [hg, wsP h6 (by simpa using h8) (by omega) (hg2.trans (wp8 h13)) (by decide)]; done) | (rw [hg, wsP h6 (by simpa using h8) (by omega) (hg2.trans (wp6 h14 (by simpa using h15))) (by decide)]; done) | (rw [hg]; rfl)
          · try simp at h8
            have hxp := hwp x (List.mem_of_getElem? hx)
            refine hw_reg ?_
            refine dp rfl (pop_fieldAddr ty78 rfl ty26 (by decide) rfl) ?_
            refine dp rfl (pop_load ty26 rfl rfl rfl) ?_
            refine dp rfl (pop_lenm ty26 rfl) ?_
            refine dp rfl (pop_gtr rfl rfl) ?_
            refine dp rfl (pop_assign rfl) ?_
            refine dn ?_
            refine hw_cond rfl (fun h9 => ?_) (fun h10 => ?_)
            · try simp at h9
              refine hw_reg ?_
              refine dp rfl (pop_assign rfl) ?_
              refine dn ?_
              refine hw_ret ?_
              refine ret_p rfl ?_
              show HVal.int .i64 _ = _
              first | (rw [wishesR, if_pos (by omega)]; done) | (rw [hg, ws8 h5]; done) | (rw [hg, ws6 h6 (by simpa using h7)]; done) | (rw [hg, ws2 h6 (by simpa using h8) (by omega)]; done) | (rw [hg, wsP h6 (by simpa using h8) (by omega) (hg2.trans (wp8 h13)) (by decide)]; done) | (rw [hg, wsP h6 (by simpa using h8) (by omega) (hg2.trans (wp6 h14 (by simpa using h15))) (by decide)]; done) | (rw [hg]; rfl)
            · try simp at h10
              refine hw_skip ?_
              refine blockQ_n ?_
              refine seqQ_n ?_
              refine hw_reg ?_
              refine dp rfl (pop_fieldAddr ty78 rfl ty26 (by decide) rfl) ?_
              refine dp rfl (pop_load ty26 rfl rfl rfl) ?_
              refine dp rfl (pop_lenm ty26 rfl) ?_
              refine dp rfl (pop_move rfl) ?_
              refine dn ?_
              refine hw_block ?_
              refine hw_loopw [4, 7, 8, 40, 41, 42, 43, 44, 45, 46, 47, 48, 49, 50, 51, 52, 53, 54, 55, 56, 57, 58] (fun (j : Nat) => [(40, .int .i64 j)]) (fun (j : Nat) => []) (fun (j : Nat) => j ≤ x.Players.length ∧ (wpGo r x.Players 0 x.Players = wpGo r x.Players j (x.Players.drop j))) (fun (j : Nat) => x.Players.length - j) (0) ?_ ?_ ?_ ?_
              · exact ⟨Nat.zero_le _, rfl⟩
              · exact ⟨rfl, trivial⟩
              · exact List.Perm.refl _
              · intro j hinv
                obtain ⟨hj, hg2⟩ := hinv
                refine hw_reg ?_
                refine dp rfl (pop_lss rfl rfl) ?_
                refine dn ?_
                refine hw_seq ?_
                refine hw_cond rfl (fun h11 => ?_) (fun h12 => ?_)
                · try simp at h11
                  obtain ⟨y, hy⟩ : ∃ y, x.Players[j]? = some y := ⟨_, List.getElem?_eq_getElem h11⟩
                  have hdy := drop_cons hy
                  rw [hdy] at hg2
                  refine hw_skip ?_
                  refine seqQ_n ?_
                  refine hw_seq ?_
                  refine hw_block ?_
                  refine hw_reg ?_
                  refine dp rfl (pop_move rfl) ?_
                  refine dp rfl (pop_idx ty26 ty9 rfl rfl rfl (by first | assumption | simp_all)) ?_
                  refine dp rfl (pop_load ty9 rfl rfl rfl) ?_
                  refine dp rfl (pop_assign rfl) ?_
                  refine dp rfl (pop_assign rfl) ?_
                  refine dn ?_
                  refine hw_block ?_
                  refine hw_reg ?_
                  refine dp rfl (pop_fieldAddr ty28 rfl ty26 (by decide) rfl) ?_
                  refine dp rfl (pop_load ty26 rfl rfl rfl) ?_
                  refine dp rfl (pop_move rfl) ?_
                  refine dp rfl (pop_call ca53 rfl (WeakL.refl _) (c_slices_Contains_string_string (by first | assumption | omega | (simp; omega) | simp_all))) ?_
                  refine dp rfl (pop_not rfl) ?_
                  refine dp rfl (pop_assign rfl) ?_
                  refine dn ?_
                  refine hw_cond rfl (fun h13 => ?_) (fun h14 => ?_)
                  · try simp at h13
                    refine hw_reg ?_
                    refine dp rfl (pop_assign rfl) ?_
                    refine dn ?_
                    refine hw_ret ?_
                    refine ret_p rfl ?_
                    show HVal.int .i64 _ = _
                    first | (rw [wishesR, if_pos (by omega)]; done) | (rw [hg, ws8 h5]; done) | (rw [hg, ws6 h6 (by simpa using h7)]; done) | (rw [hg, ws2 h6 (by simpa using h8) (by omega)]; done) | (rw [hg, wsP h6 (by simpa using h8) (by omega) (hg2.trans (wp8 h13)) (by decide)]; done) | (rw [hg, wsP h6 (by simpa using h8) (by omega) (hg2.trans (wp6 h14 (by simpa using h15))) (by decide)]; done) | (rw [hg]; rfl)
                  · try simp at h14
                    refine hw_reg ?_
                    refine dp rfl (pop_fieldAddr ty78 rfl ty26 (by decide) rfl) ?_
                    refine dp rfl (pop_load ty26 rfl rfl rfl) ?_
                    refine dp rfl (pop_move rfl) ?_
                    refine dp rfl (pop_slicem ty26 ty9 rfl rfl ⟨_, _, rfl, rfl⟩ (by omega) (by omega)) ?_
                    refine dp rfl (pop_move rfl) ?_
                    refine dp rfl (pop_call ca53 rfl (WeakL.refl _) (c_slices_Contains_string_string (by first | assumption | omega | (simp; omega) | simp_all))) ?_
                    refine dp rfl (pop_assign rfl) ?_
                    refine dn ?_
                    refine hw_cond rfl (fun h15 => ?_) (fun h16 => ?_)
                    · try simp at h15
                      refine hw_reg ?_
                      refine dp rfl (pop_assign rfl) ?_
                      refine dn ?_
                      refine hw_ret ?_
                      refine ret_p rfl ?_
                      show HVal.int .i64 _ = _
                      first | (rw [wishesR, if_pos (by omega)]; done) | (rw [hg, ws8 h5]; done) | (rw [hg, ws6 h6 (by simpa using h7)]; done) | (rw [hg, ws2 h6 (by simpa using h8) (by omega)]; done) | (rw [hg, wsP h6 (by simpa using h8) (by omega) (hg2.trans (wp8 h13)) (by decide)]; done) | (rw [hg, wsP h6 (by simpa using h8) (by omega) (hg2.trans (wp6 h14 (by simpa using h15))) (by decide)]; done) | (rw [hg]; rfl)
                    · try simp at h16
                      refine hw_skip ?_
                      refine blockQ_n ?_
                      refine blockQ_n ?_
                      refine seqQ_n ?_
                      refine hw_reg1 ?_
                      refine dp rfl (pop_add64 rfl rfl (by omega) (by omega)) ?_
                      refine dp rfl (pop_move rfl) ?_
                      refine dn ?_
                      refine ⟨j + 1, ?_, ?_, ⟨rfl, trivial⟩, (by repeat (first | exact keeps_refl | refine keeps_upd rfl ?_ | refine keeps_loop rfl rfl ?_)), List.Perm.refl _⟩
                      · refine ⟨by omega, ?_⟩
                        rw [hg2, wp0 h14 (by simpa using h16)]
                      · dsimp only; omega
                · try simp at h12
                  have hnj : x.Players.length ≤ j := by omega
                  obtain rfl : j = x.Players.length := by omega
                  rw [drop_all (Nat.le_refl _)] at hg2
                  replace hg2 : wpGo r x.Players 0 x.Players = 0 := hg2
                  refine hw_exit ?_
                  refine seqQ_x ?_
                  refine loopQ_x ?_
                  refine blockQ_eq ?_
                  refine blockQ_n ?_
                  refine seqQ_n ?_
                  refine hw_reg1 ?_
                  refine dp rfl (pop_add64 rfl rfl (by omega) (by omega)) ?_
                  refine dp rfl (pop_move rfl) ?_
                  refine dn ?_
                  refine ⟨k + 1, ?_, ?_, ⟨rfl, trivial⟩, (by repeat (first | exact keeps_refl | refine keeps_upd rfl ?_ | refine keeps_loop rfl rfl ?_)), List.Perm.refl _⟩
                  · refine ⟨by omega, ?_⟩
                    rw [hg, ws0 h6 (by simpa using h8) (by omega) hg2]
                  · dsimp only; omega
      · try simp at h4
        have hnk : w.length ≤ k := by omega
        obtain rfl : k = w.length := by omega
        rw [drop_all (Nat.le_refl _)] at hg
        refine hw_exit ?_
        refine seqQ_x ?_
        refine loopQ_x ?_
        refine blockQ_eq ?_
        refine seqQ_n ?_
        refine hw_reg ?_
        refine dp rfl (pop_assign rfl) ?_
        refine dn ?_
        refine hw_ret ?_
        refine ret_p rfl ?_
        show HVal.int .i64 _ = _
        first | (rw [wishesR, if_pos (by omega)]; done) | (rw [hg, ws8 h5]; done) | (rw [hg, ws6 h6 (by simpa using h7)]; done) | (rw [hg, ws2 h6 (by simpa using h8) (by omega)]; done) | (rw [hg, wsP h6 (by simpa using h8) (by omega) (hg2.trans (wp8 h13)) (by decide)]; done) | (rw [hg, wsP h6 (by simpa using h8) (by omega) (hg2.trans (wp6 h14 (by simpa using h15))) (by decide)]; done) | (rw [hg]; rfl)

/-- benchwarmer/benchref1.wish -/
theorem c_benchref1_wish {r : Room} {k : List Keep} {l : List Pick} {w : List Wish} {team : Str} (hp : r.Players.length ≤ 1000000) (hk0 : k.length ≤ 1000000) (hll : l.length ≤ 1000000) (hw : w.length ≤ 1000000) (hwp : ∀ y ∈ w, y.Players.length ≤ 1000000) (hwin : ∀ y ∈ w, ∀ x ∈ y.Players, x ∈ r.Players) (hne : 0 < (leftL r k l).length) : ConP Tryz.prog 70 [eRoom r, eKeeps k, ePicks l, eWishes w, .str team] (.str (wishOf r (goneB k l) w team)) := by
  have hlp : (leftL r k l).length ≤ r.Players.length := List.length_filter_le _ _
  refine Con.of_body Tryz.func70 rfl Tryz.ntmps70 rfl rfl ?_
  refine hw_reg ?_
  refine dp rfl (pop_box rfl rfl) ?_
  refine dp rfl (pop_assign rfl) ?_
  refine dn ?_
  refine hw_reg ?_
  refine dp rfl (pop_loadw ty28 rfl rfl rfl rfl) ?_
  refine dp rfl (pop_move rfl) ?_
  refine dp rfl (pop_move rfl) ?_
  refine dp rfl (pop_call ca35 rfl (WeakL.refl _) (c_benchref1_LeftOf hp hk0 hll)) ?_
  refine dp rfl (pop_assign rfl) ?_
  refine dn ?_
  refine hw_seq ?_
  refine hw_reg ?_
  refine dp rfl (pop_move rfl) ?_
  refine dp rfl (pop_lenm ty34 rfl) ?_
  refine dp rfl (pop_move rfl) ?_
  refine dn ?_
  refine hw_block ?_
  refine hw_loopw [10, 13, 15, 22, 23, 24, 25, 26, 27, 28, 29, 30, 31, 32, 33, 34, 35, 36, 37, 38, 39, 40, 41, 42, 43, 44] (fun (i : Nat) => [(22, .int .i64 i)]) (fun (i : Nat) => []) (fun (i : Nat) => i ≤ w.length ∧ (wishGo (goneB k l) team w = wishGo (goneB k l) team (w.drop i))) (fun (i : Nat) => w.length - i) (0) ?_ ?_ ?_ ?_
  · exact ⟨Nat.zero_le _, rfl⟩
  · exact ⟨rfl, trivial⟩
  · exact List.Perm.refl _
  · intro i hinv
    obtain ⟨hi, hg⟩ := hinv
    refine hw_reg ?_
    refine dp rfl (pop_lss rfl rfl) ?_
    refine dn ?_
    refine hw_seq ?_
    refine hw_cond rfl (fun h1 => ?_) (fun h2 => ?_)
    · try simp at h1
      obtain ⟨x, hx⟩ : ∃ x, w[i]? = some x := ⟨_, List.getElem?_eq_getElem h1⟩
      have hdx := drop_cons hx
      rw [hdx] at hg
      refine hw_skip ?_
      refine seqQ_n ?_
      refine hw_seq ?_
      refine hw_block ?_
      refine hw_reg ?_
      refine dp rfl (pop_idx ty34 ty78 rfl rfl rfl (by first | assumption | simp_all)) ?_
      refine dp rfl (pop_loadw ty78 rfl rfl rfl rfl) ?_
      refine de rfl (eop_alloc ty78 rfl fun b13 => ?_)
      refine de0 (eop_storew ty78 rfl rfl rfl rfl rfl ?_)
      refine dn ?_
      refine hw_ghost (Ghost.fc0 13 rfl) ?_
      have hxp := hwp x (List.mem_of_getElem? hx)
      have hxin := hwin x (List.mem_of_getElem? hx)
      refine hw_reg ?_
      refine dp rfl (pop_fieldAddr ty78 rfl ty26 (by decide) rfl) ?_
      refine dp rfl (pop_load ty26 rfl rfl rfl) ?_
      refine dp rfl (pop_lenm ty26 rfl) ?_
      refine dp rfl (pop_move rfl) ?_
      refine dn ?_
      refine hw_block ?_
      refine hw_loopw [10, 15, 29, 30, 31, 32, 33, 34, 35, 36, 37, 38, 39, 40, 41, 42, 43] (fun (j : Nat) => [(29, .int .i64 j)]) (fun (j : Nat) => []) (fun (j : Nat) => j ≤ x.Players.length ∧ (x.Team = team → x.Players.find? (fun s => !(goneB k l s)) = (x.Players.drop j).find? (fun s => !(goneB k l s)))) (fun (j : Nat) => x.Players.length - j) (0) ?_ ?_ ?_ ?_
      · exact ⟨Nat.zero_le _, fun _ => rfl⟩
      · exact ⟨rfl, trivial⟩
      · exact List.Perm.refl _
      · intro j hinv
        obtain ⟨hj, hg2⟩ := hinv
        refine hw_reg ?_
        refine dp rfl (pop_lss rfl rfl) ?_
        refine dn ?_
        refine hw_seq ?_
        refine hw_cond rfl (fun h3 => ?_) (fun h4 => ?_)
        · try simp at h3
          obtain ⟨y, hy⟩ : ∃ y, x.Players[j]? = some y := ⟨_, List.getElem?_eq_getElem h3⟩
          have hdy := drop_cons hy
          rw [hdy] at hg2
          have hyin := hxin y (List.mem_of_getElem? hy)
          refine hw_skip ?_
          refine seqQ_n ?_
          refine hw_seq ?_
          refine hw_block ?_
          refine hw_reg ?_
          refine dp rfl (pop_idx ty26 ty9 rfl rfl rfl (by first | assumption | simp_all)) ?_
          refine dp rfl (pop_load ty9 rfl rfl rfl) ?_
          refine dp rfl (pop_assign rfl) ?_
          refine dn ?_
          refine hw_reg ?_
          refine dp rfl (pop_fieldAddr ty78 rfl ty9 (by decide) rfl) ?_
          refine dp rfl (pop_load ty9 rfl rfl rfl) ?_
          refine dp rfl (pop_move rfl) ?_
          refine dp rfl (pop_eqls rfl rfl) ?_
          refine dp rfl (pop_move rfl) ?_
          refine dg rfl rfl (fun hc => ⟨_, OpenTo.refl _, pop_move rfl⟩) ?_
          refine dg rfl rfl (fun hc => ⟨_, OpenTo.refl _, pop_move rfl⟩) ?_
          refine dg rfl rfl (fun hc => by have hq := hc; (try simp at hq); exact ⟨_, OpenTo.upd (t := 39) rfl (by first | exact hc | simp_all) (OpenTo.upd (t := 38) rfl (by first | exact hc | simp_all) (OpenTo.refl _)), pop_call ca53 rfl (WeakL.refl _) (c_slices_Contains_string_string (by omega))⟩) ?_
          refine dp rfl (pop_picko rfl (.inr ⟨_, rfl, fun h => by simp_all⟩) (.inl rfl)) ?_
          refine dn ?_
          refine hw_cond rfl (fun h5 => ?_) (fun h6 => ?_)
          · try simp at h5
            refine hw_reg ?_
            refine dp rfl (pop_move rfl) ?_
            refine dp rfl (pop_assign rfl) ?_
            refine dn ?_
            refine hw_ret ?_
            refine ret_p rfl ?_
            show HVal.str _ = _
            first | (have hgy : goneB k l y = false := (left_mem hyin).1 h5.2; rw [wishOf, hg, wish_1 h5.1 (s := y) (by rw [hg2 h5.1, List.find?_cons]; simp [hgy])]; done) | (rw [wishOf, hg]; rfl)
          · try simp at h6
            refine hw_skip ?_
            refine blockQ_n ?_
            refine seqQ_n ?_
            refine hw_reg1 ?_
            refine dp rfl (pop_add64 rfl rfl (by omega) (by omega)) ?_
            refine dp rfl (pop_move rfl) ?_
            refine dn ?_
            refine ⟨j + 1, ?_, ?_, ⟨rfl, trivial⟩, (by repeat (first | exact keeps_refl | refine keeps_upd rfl ?_ | refine keeps_loop rfl rfl ?_)), List.Perm.refl _⟩
            · refine ⟨by omega, fun e => ?_⟩
              have hgy : goneB k l y = true := b_true fun q => h6 e ((left_mem hyin).2 q)
              rw [hg2 e, List.find?_cons]; simp [hgy]
            · dsimp only; omega
        · try simp at h4
          have hnj : x.Players.length ≤ j := by omega
          obtain rfl : j = x.Players.length := by omega
          rw [drop_all (Nat.le_refl _)] at hg2
          refine hw_exit ?_
          refine seqQ_x ?_
          refine loopQ_x ?_
          refine blockQ_eq ?_
          refine blockQ_n ?_
          refine seqQ_n ?_
          refine hw_reg1 ?_
          refine dp rfl (pop_add64 rfl rfl (by omega) (by omega)) ?_
          refine dp rfl (pop_move rfl) ?_
          refine dn ?_
          refine ⟨i + 1, ?_, ?_, ⟨rfl, trivial⟩, (by repeat (first | exact keeps_refl | refine keeps_upd rfl ?_ | refine keeps_loop rfl rfl ?_)), List.Perm.refl _⟩
          · refine ⟨by omega, ?_⟩
            rw [hg, wishGo]
            by_cases e : x.Team = team
            · rw [if_pos e, hg2 e]; rfl
            · rw [if_neg e]
          · dsimp only; omega
    · try simp at h2
      have hni : w.length ≤ i := by omega
      obtain rfl : i = w.length := by omega
      rw [drop_all (Nat.le_refl _)] at hg
      refine hw_exit ?_
      refine seqQ_x ?_
      refine loopQ_x ?_
      refine blockQ_eq ?_
      refine seqQ_n ?_
      refine hw_reg ?_
      refine dp rfl (pop_move rfl) ?_
      refine dp rfl (pop_idx (j := 0) (a := (r.Players.find? (fun s => !(goneB k l s))).getD []) ty26 ty9 rfl rfl rfl (left_head hne)) ?_
      refine dp rfl (pop_load ty9 rfl rfl rfl) ?_
      refine dp rfl (pop_assign rfl) ?_
      refine dn ?_
      refine hw_ret ?_
      refine ret_p rfl ?_
      show HVal.str _ = _
      first | (have hgy : goneB k l y = false := (left_mem hyin).1 h5.2; rw [wishOf, hg, wish_1 h5.1 (s := y) (by rw [hg2 h5.1, List.find?_cons]; simp [hgy])]; done) | (rw [wishOf, hg]; rfl)
end Go.Proofs.YtoomadfbldcioaaGreatDoor
end
section
namespace Go.Proofs.YtoomadfbldcioaaGreatDoor
open Go.HL
set_option maxRecDepth 100000
set_option linter.unusedVariables false
set_option linter.unusedSimpArgs false
/-- benchwarmer/benchref1.AutoOf -/
theorem c_benchref1_AutoOf {r : Room} {k : List Keep} {s : List Swap} {l : List Pick} {w : List Wish} {n : Int} (h : openFault r k s = 0) (hk0 : k.length ≤ 1000000) (hl : s.length ≤ 1000000) (hlf : l.length ≤ (freeP r k s).length) (hm0 : moment (lastAt r l) = true) (hp : r.Players.length ≤ 1000000) (hw : w.length ≤ 1000000) (hwp : ∀ y ∈ w, y.Players.length ≤ 1000000) (hwin : ∀ y ∈ w, ∀ x ∈ y.Players, x ∈ r.Players) : ConP Tryz.prog 21 [eRoom r, eKeeps k, eSwaps s, ePicks l, eWishes w, .int .i64 n] (ePicks (autoL r k s w n l)) := by
  have hro := room_ok (openFault_ok h).1
  have ht0 := hro.t0
  have ht := hro.t20
  have hr0 := hro.r1
  have hr := hro.r30
  have hlen := turns_len (r := r) (s := s) (openFault_ok h).1
  have hol : (open1 r k s).length ≤ 600 := by unfold open1; rw [openFrom_len]; exact hlen
  have hfl : (freeP r k s).length ≤ 600 := Nat.le_trans (List.length_filter_le _ _) hol
  refine Con.of_body Tryz.func21 rfl Tryz.ntmps21 rfl rfl ?_
  refine hw_reg ?_
  refine dp rfl (pop_box rfl rfl) ?_
  refine dp rfl (pop_assign rfl) ?_
  refine dn ?_
  refine hw_reg ?_
  refine dp rfl (pop_move rfl) ?_
  refine de rfl (eop_calla ca69 rfl (WeakL.refl _) (c_slices_Clone_api_Pick_api_Pick (by first | assumption | omega | (simp; omega) | simp_all)) fun v18 => ?_)
  refine dp rfl (pop_assign rfl) ?_
  refine dn ?_
  refine hw_block ?_
  refine hw_loopw2 [12, 13, 14, 15, 16, 19, 20, 21, 22, 23, 24, 25, 26, 27, 28, 29, 30, 31, 32, 33, 34, 35, 36, 37, 38, 39, 40, 41, 42, 43, 44, 45, 46, 47, 48, 49, 50, 51, 52, 53, 54] (fun (v : Value) (L : List Pick) => [(13, .raw v)]) (fun (v : Value) (L : List Pick) => [.arr v 5 (L.map ePick)]) (fun (v : Value) (L : List Pick) => autoL r k s w n l = autoGo r k (freeP r k s) w n ((freeP r k s).length - L.length) L ∧ L.length ≤ (freeP r k s).length ∧ moment (lastAt r L) = true) (fun (v : Value) (L : List Pick) => (freeP r k s).length - L.length) (v18) (l) ?_ ?_ ?_ ?_
  · exact ⟨rfl, hlf, hm0⟩
  · exact ⟨rfl, trivial⟩
  · exact List.Perm.refl _
  · intro v L hinv
    obtain ⟨hg, hLf, hm⟩ := hinv
    refine hw_block ?_
    refine hw_reg ?_
    refine dp rfl (pop_loadw ty28 rfl rfl rfl rfl) ?_
    refine dp rfl (pop_move rfl) ?_
    refine dp rfl (pop_move rfl) ?_
    refine dp rfl (pop_move rfl) ?_
    refine de rfl (eop_callw (hs' := [eRoom r, eKeeps k, eSwaps s, ePicks L]) ca33 rfl ⟨.refl, .refl, .refl, .arr (i := 0) rfl, trivial⟩ (c_benchref1_DueOf h hk0 hl hLf hm) rfl ?_)
    refine dp rfl (pop_assign rfl) ?_
    refine dn ?_
    refine hw_seq ?_
    refine hw_reg ?_
    refine dp rfl (pop_move rfl) ?_
    refine dp rfl (pop_lss rfl rfl) ?_
    refine dp rfl (pop_move rfl) ?_
    refine dg rfl rfl (fun hc => ⟨_, OpenTo.refl _, pop_move rfl⟩) ?_
    refine dg rfl rfl (fun hc => ⟨_, OpenTo.refl _, pop_move rfl⟩) ?_
    refine dg rfl rfl (fun hc => ⟨_, OpenTo.upd (t := 28) rfl (by first | exact hc | simp_all) (OpenTo.upd (t := 27) rfl (by first | exact hc | simp_all) (OpenTo.refl _)), pop_gtr rfl rfl⟩) ?_
    refine dp rfl (pop_picko rfl (.inl rfl) (.inr ⟨_, rfl, fun h => by simp_all⟩)) ?_
    refine dn ?_
    refine hw_cond rfl (fun h1 => ?_) (fun h2 => ?_)
    · try simp at h1
      refine hw_reg ?_
      refine dp rfl (pop_move rfl) ?_
      refine dp rfl (pop_assign rfl) ?_
      refine dn ?_
      refine hw_ret ?_
      refine ret_fa (M := []) 12 rfl rfl ?_
      rw [hg, auto_stopN h1]
    · try simp at h2
      refine hw_skip ?_
      refine seqQ_n ?_
      obtain ⟨hLl, hdn, hmm, hnx, hgo⟩ := auto_goN (w := w) h2.1 h2.2
      refine hw_reg ?_
      refine dp rfl (pop_loadw ty28 rfl rfl rfl rfl) ?_
      refine dp rfl (pop_move rfl) ?_
      refine dp rfl (pop_move rfl) ?_
      refine dp rfl (pop_move rfl) ?_
      refine de rfl (eop_callw (hs' := [eRoom r, eKeeps k, eSwaps s, ePicks L]) ca32 rfl ⟨.refl, .refl, .refl, .arr (i := 0) rfl, trivial⟩ (c_benchref1_NextOf h hk0 hl hLf) rfl ?_)
      refine dp rfl (pop_move rfl) ?_
      refine dp rfl (pop_extract rfl rfl) ?_
      refine dp rfl (pop_extract rfl rfl) ?_
      refine de rfl (eop_alloc ty55 rfl fun b15 => ?_)
      first
      | refine de0 (eop_store (i := 0) ty55 rfl rfl rfl rfl rfl (Nat.le_of_ble_eq_true rfl) ?_)
      | refine de0 (eop_store (i := 1) ty55 rfl rfl rfl rfl rfl (Nat.le_of_ble_eq_true rfl) ?_)
      | refine de0 (eop_store (i := 2) ty55 rfl rfl rfl rfl rfl (Nat.le_of_ble_eq_true rfl) ?_)
      | refine de0 (eop_store (i := 3) ty55 rfl rfl rfl rfl rfl (Nat.le_of_ble_eq_true rfl) ?_)
      refine dp rfl (pop_assign rfl) ?_
      refine dn ?_
      refine hw_reg ?_
      refine dp rfl (pop_loadw ty28 rfl rfl rfl rfl) ?_
      refine dp rfl (pop_move rfl) ?_
      refine dp rfl (pop_move rfl) ?_
      refine dp rfl (pop_move rfl) ?_
      refine dp rfl (pop_fieldAddr_raw ty55 rfl ty9 (by decide) rfl) ?_
      first
      | refine de rfl (eop_load (i := 0) ty9 rfl rfl (.inl ⟨rfl, rfl⟩) ?_)
      | refine de rfl (eop_load (i := 1) ty9 rfl rfl (.inl ⟨rfl, rfl⟩) ?_)
      | refine de rfl (eop_load (i := 2) ty9 rfl rfl (.inl ⟨rfl, rfl⟩) ?_)
      | refine de rfl (eop_load (i := 3) ty9 rfl rfl (.inl ⟨rfl, rfl⟩) ?_)
      refine de rfl (eop_callw (hs' := [eRoom r, eKeeps k, ePicks L, eWishes w, .str (nextP r k s L).Team]) ca70 rfl ⟨.refl, .refl, .arr (i := 1) rfl, .refl, .refl, trivial⟩ (c_benchref1_wish hp hk0 (by omega) hw hwp hwin (left_ne h hLl)) rfl ?_)
      refine dp rfl (pop_move rfl) ?_
      refine dp rfl (pop_fieldAddr_raw ty55 rfl ty9 (by decide) rfl) ?_
      first
      | refine de0 (eop_store (i := 0) ty9 rfl rfl rfl rfl rfl (Nat.le_of_ble_eq_true rfl) ?_)
      | refine de0 (eop_store (i := 1) ty9 rfl rfl rfl rfl rfl (Nat.le_of_ble_eq_true rfl) ?_)
      | refine de0 (eop_store (i := 2) ty9 rfl rfl rfl rfl rfl (Nat.le_of_ble_eq_true rfl) ?_)
      | refine de0 (eop_store (i := 3) ty9 rfl rfl rfl rfl rfl (Nat.le_of_ble_eq_true rfl) ?_)
      refine dp rfl (pop_fieldAddr_raw ty55 rfl ty3 (by decide) rfl) ?_
      first
      | refine de0 (eop_store (i := 0) ty3 rfl rfl rfl rfl rfl (Nat.le_of_ble_eq_true rfl) ?_)
      | refine de0 (eop_store (i := 1) ty3 rfl rfl rfl rfl rfl (Nat.le_of_ble_eq_true rfl) ?_)
      | refine de0 (eop_store (i := 2) ty3 rfl rfl rfl rfl rfl (Nat.le_of_ble_eq_true rfl) ?_)
      | refine de0 (eop_store (i := 3) ty3 rfl rfl rfl rfl rfl (Nat.le_of_ble_eq_true rfl) ?_)
      refine dp rfl (pop_fieldAddr_raw ty55 rfl ty4 (by decide) rfl) ?_
      first
      | refine de0 (eop_store (i := 0) ty4 rfl rfl rfl rfl rfl (Nat.le_of_ble_eq_true rfl) ?_)
      | refine de0 (eop_store (i := 1) ty4 rfl rfl rfl rfl rfl (Nat.le_of_ble_eq_true rfl) ?_)
      | refine de0 (eop_store (i := 2) ty4 rfl rfl rfl rfl rfl (Nat.le_of_ble_eq_true rfl) ?_)
      | refine de0 (eop_store (i := 3) ty4 rfl rfl rfl rfl rfl (Nat.le_of_ble_eq_true rfl) ?_)
      refine dn ?_
      refine hw_ghost (Ghost.of_eq (M' := [.cells b15 (hcells (ePick ⟨(nextP r k s L).No, (nextP r k s L).Team, wishOf r (goneB k L) w (nextP r k s L).Team, dueN r k s L, true⟩)), .arr v 5 (L.map ePick)]) rfl) ?_
      refine hw_ghost (Ghost.fc0 15 rfl) ?_
      refine hw_reg1 ?_
      refine dp rfl (pop_move rfl) ?_
      refine dp rfl (pop_loadw ty55 rfl rfl rfl rfl) ?_
      refine dp rfl (pop_buildSlice (hs := [_]) ty36 ty55 rfl rfl (by decide) (by decide) rfl) ?_
      refine de rfl (eop_append (i := 0) ty36 ty55 rfl rfl rfl rfl rfl (by simp [flat, hcells]) (by simp; omega) fun v54 => ?_)
      refine dp rfl (pop_assign rfl) ?_
      refine dn ?_
      refine blockQ_n ?_
      exact ⟨v54, L ++ [autoP r k (freeP r k s) w L (lastAt r L + r.Clock)], ⟨by rw [hg, hgo, List.length_append]; rfl, by simp; omega, by rw [lastAt_snoc]; exact hmm⟩, by dsimp only; simp; omega, ⟨rfl, trivial⟩, (by repeat (first | exact keeps_refl | refine keeps_upd rfl ?_ | refine keeps_loop rfl rfl ?_)), perm_eq (by dsimp only; rw [hnx]; simp [autoP, hdn])⟩

/-- benchwarmer/benchref1.FinishOf -/
theorem c_benchref1_FinishOf {r : Room} {k : List Keep} {s : List Swap} {l : List Pick} {w : List Wish} (h : openFault r k s = 0) (hk0 : k.length ≤ 1000000) (hl : s.length ≤ 1000000) (hlf : l.length ≤ (freeP r k s).length) (hp : r.Players.length ≤ 1000000) (hw : w.length ≤ 1000000) (hwp : ∀ y ∈ w, y.Players.length ≤ 1000000) (hwin : ∀ y ∈ w, ∀ x ∈ y.Players, x ∈ r.Players) : ConP Tryz.prog 24 [eRoom r, eKeeps k, eSwaps s, ePicks l, eWishes w] (ePicks (finL r k s w l)) := by
  have hro := room_ok (openFault_ok h).1
  have ht0 := hro.t0
  have ht := hro.t20
  have hr0 := hro.r1
  have hr := hro.r30
  have hlen := turns_len (r := r) (s := s) (openFault_ok h).1
  have hol : (open1 r k s).length ≤ 600 := by unfold open1; rw [openFrom_len]; exact hlen
  have hfl : (freeP r k s).length ≤ 600 := Nat.le_trans (List.length_filter_le _ _) hol
  refine Con.of_body Tryz.func24 rfl Tryz.ntmps24 rfl rfl ?_
  refine hw_reg ?_
  refine dp rfl (pop_box rfl rfl) ?_
  refine dp rfl (pop_assign rfl) ?_
  refine dn ?_
  refine hw_reg ?_
  refine dp rfl (pop_move rfl) ?_
  refine de rfl (eop_calla ca69 rfl (WeakL.refl _) (c_slices_Clone_api_Pick_api_Pick (by first | assumption | omega | (simp; omega) | simp_all)) fun v15 => ?_)
  refine dp rfl (pop_assign rfl) ?_
  refine dn ?_
  refine hw_block ?_
  refine hw_loopw2 [10, 11, 12, 13, 16, 17, 18, 19, 20, 21, 22, 23, 24, 25, 26, 27, 28, 29, 30, 31, 32, 33, 34, 35, 36, 37, 38, 39, 40, 41, 42, 43] (fun (v : Value) (L : List Pick) => [(11, .raw v)]) (fun (v : Value) (L : List Pick) => [.arr v 5 (L.map ePick)]) (fun (v : Value) (L : List Pick) => finL r k s w l = finGo r k (freeP r k s) w ((freeP r k s).length - L.length) L ∧ L.length ≤ (freeP r k s).length) (fun (v : Value) (L : List Pick) => (freeP r k s).length - L.length) (v15) (l) ?_ ?_ ?_ ?_
  · exact ⟨rfl, hlf⟩
  · exact ⟨rfl, trivial⟩
  · exact List.Perm.refl _
  · intro v L hinv
    obtain ⟨hg, hLf⟩ := hinv
    refine hw_block ?_
    refine hw_reg ?_
    refine dp rfl (pop_loadw ty28 rfl rfl rfl rfl) ?_
    refine dp rfl (pop_move rfl) ?_
    refine dp rfl (pop_move rfl) ?_
    refine dp rfl (pop_move rfl) ?_
    refine de rfl (eop_callw (hs' := [eRoom r, eKeeps k, eSwaps s, ePicks L]) ca32 rfl ⟨.refl, .refl, .refl, .arr (i := 0) rfl, trivial⟩ (c_benchref1_NextOf h hk0 hl hLf) rfl ?_)
    refine dp rfl (pop_move rfl) ?_
    refine dp rfl (pop_extract rfl rfl) ?_
    refine dp rfl (pop_extract rfl rfl) ?_
    refine de rfl (eop_alloc ty55 rfl fun b12 => ?_)
    first
    | refine de0 (eop_store (i := 0) ty55 rfl rfl rfl rfl rfl (Nat.le_of_ble_eq_true rfl) ?_)
    | refine de0 (eop_store (i := 1) ty55 rfl rfl rfl rfl rfl (Nat.le_of_ble_eq_true rfl) ?_)
    | refine de0 (eop_store (i := 2) ty55 rfl rfl rfl rfl rfl (Nat.le_of_ble_eq_true rfl) ?_)
    | refine de0 (eop_store (i := 3) ty55 rfl rfl rfl rfl rfl (Nat.le_of_ble_eq_true rfl) ?_)
    refine dp rfl (pop_assign rfl) ?_
    refine dn ?_
    refine hw_seq ?_
    refine hw_reg ?_
    refine dp rfl (pop_move rfl) ?_
    refine dp rfl (pop_not rfl) ?_
    refine dn ?_
    refine hw_cond rfl (fun h1 => ?_) (fun h2 => ?_)
    · try simp at h1
      refine hw_reg ?_
      refine dp rfl (pop_move rfl) ?_
      refine dp rfl (pop_assign rfl) ?_
      refine dn ?_
      refine hw_ret ?_
      refine ret_g (Ghost.drop.trans (Ghost.fa0 10 rfl)) rfl ⟨?_, rfl⟩
      rw [hg, fin_stop (by omega)]
    · try simp at h2
      refine hw_skip ?_
      refine seqQ_n ?_
      have hLl : L.length < (freeP r k s).length := by omega
      have hnx : nextP r k s L = (freeP r k s).getD L.length pick0 := by unfold nextP; rw [if_pos hLl]
      refine hw_draw (fun _ => True) [] mixed ?_
      refine ahp 0 rfl rfl (by kernel_rfl) (by kernel_rfl) (pop_loadw ty28 rfl rfl rfl rfl) ?_
      refine ahp 1 rfl rfl (by kernel_rfl) (by kernel_rfl) (pop_move rfl) ?_
      refine ahp 2 rfl rfl (by kernel_rfl) (by kernel_rfl) (pop_move rfl) ?_
      refine ahp 3 rfl rfl (by kernel_rfl) (by kernel_rfl) (pop_move rfl) ?_
      refine ahp 4 rfl rfl (by kernel_rfl) (by kernel_rfl) (pop_fieldAddr_raw ty55 rfl ty9 (by decide) rfl) ?_
      refine ahp 7 rfl rfl (by kernel_rfl) (by kernel_rfl) (pop_loadw ty28 rfl rfl rfl rfl) ?_
      refine ahp 8 rfl rfl (by kernel_rfl) (by kernel_rfl) (pop_move rfl) ?_
      refine ahe 5 rfl (by kernel_rfl) ?_
      first
      | refine hop_e rfl (eop_load (i := 0) ty9 rfl rfl (.inl ⟨rfl, rfl⟩) ?_)
      | refine hop_e rfl (eop_load (i := 1) ty9 rfl rfl (.inl ⟨rfl, rfl⟩) ?_)
      | refine hop_e rfl (eop_load (i := 2) ty9 rfl rfl (.inl ⟨rfl, rfl⟩) ?_)
      | refine hop_e rfl (eop_load (i := 3) ty9 rfl rfl (.inl ⟨rfl, rfl⟩) ?_)
      refine ⟨fun _ => .inl trivial, ?_⟩
      refine ahe 6 rfl (by kernel_rfl) ?_
      refine hop_e rfl (eop_callw (hs' := [eRoom r, eKeeps k, ePicks L, eWishes w, .str (nextP r k s L).Team]) ca70 rfl ⟨.refl, .refl, .arr (i := 1) rfl, .refl, .refl, trivial⟩ (c_benchref1_wish hp hk0 (by omega) hw hwp hwin (left_ne h hLl)) rfl ?_)
      refine ⟨fun _ => .inl trivial, ?_⟩
      refine ahp 10 rfl rfl (by kernel_rfl) (by kernel_rfl) (pop_fieldAddr_raw ty55 rfl ty9 (by decide) rfl) ?_
      refine ahe 9 rfl (by kernel_rfl) ?_
      refine hop_e rfl (eop_callw (hs' := [eRoom r, ePicks L]) ca72 rfl ⟨.refl, .arr (i := 1) rfl, trivial⟩ (c_benchref1_lastAt (by omega)) rfl ?_)
      refine ⟨fun _ => .inl trivial, ?_⟩
      refine ahe 11 rfl (by kernel_rfl) ?_
      first
      | refine hop_e0 (eop_store (i := 0) ty9 rfl rfl rfl rfl rfl (Nat.le_of_ble_eq_true rfl) ?_)
      | refine hop_e0 (eop_store (i := 1) ty9 rfl rfl rfl rfl rfl (Nat.le_of_ble_eq_true rfl) ?_)
      | refine hop_e0 (eop_store (i := 2) ty9 rfl rfl rfl rfl rfl (Nat.le_of_ble_eq_true rfl) ?_)
      | refine hop_e0 (eop_store (i := 3) ty9 rfl rfl rfl rfl rfl (Nat.le_of_ble_eq_true rfl) ?_)
      refine ⟨fun _ => .inl trivial, ?_⟩
      refine ahp 12 rfl rfl (by kernel_rfl) (by kernel_rfl) (pop_fieldAddr_raw ty55 rfl ty3 (by decide) rfl) ?_
      refine ahe 13 rfl (by kernel_rfl) ?_
      first
      | refine hop_e0 (eop_store (i := 0) ty3 rfl rfl rfl rfl rfl (Nat.le_of_ble_eq_true rfl) ?_)
      | refine hop_e0 (eop_store (i := 1) ty3 rfl rfl rfl rfl rfl (Nat.le_of_ble_eq_true rfl) ?_)
      | refine hop_e0 (eop_store (i := 2) ty3 rfl rfl rfl rfl rfl (Nat.le_of_ble_eq_true rfl) ?_)
      | refine hop_e0 (eop_store (i := 3) ty3 rfl rfl rfl rfl rfl (Nat.le_of_ble_eq_true rfl) ?_)
      refine ⟨fun _ => .inl trivial, ?_⟩
      refine ahp 14 rfl rfl (by kernel_rfl) (by kernel_rfl) (pop_fieldAddr_raw ty55 rfl ty4 (by decide) rfl) ?_
      refine ahe 15 rfl (by kernel_rfl) ?_
      first
      | refine hop_e0 (eop_store (i := 0) ty4 rfl rfl rfl rfl rfl (Nat.le_of_ble_eq_true rfl) ?_)
      | refine hop_e0 (eop_store (i := 1) ty4 rfl rfl rfl rfl rfl (Nat.le_of_ble_eq_true rfl) ?_)
      | refine hop_e0 (eop_store (i := 2) ty4 rfl rfl rfl rfl rfl (Nat.le_of_ble_eq_true rfl) ?_)
      | refine hop_e0 (eop_store (i := 3) ty4 rfl rfl rfl rfl rfl (Nat.le_of_ble_eq_true rfl) ?_)
      refine ⟨fun _ => .inl trivial, ?_⟩
      refine ahz (by kernel_rfl) ?_
      refine hw_ghost (Ghost.of_eq (M' := [.cells b12 (hcells (ePick ⟨(nextP r k s L).No, (nextP r k s L).Team, wishOf r (goneB k L) w (nextP r k s L).Team, lastAt r L, true⟩)), .arr v 5 (L.map ePick)]) rfl) ?_
      refine hw_ghost (Ghost.fc0 12 rfl) ?_
      refine hw_reg1 ?_
      refine dp rfl (pop_move rfl) ?_
      refine dp rfl (pop_loadw ty55 rfl rfl rfl rfl) ?_
      refine dp rfl (pop_buildSlice (hs := [_]) ty36 ty55 rfl rfl (by decide) (by decide) rfl) ?_
      refine de rfl (eop_append (i := 0) ty36 ty55 rfl rfl rfl rfl rfl (by simp [flat, hcells]) (by simp; omega) fun v43 => ?_)
      refine dp rfl (pop_assign rfl) ?_
      refine dn ?_
      refine blockQ_n ?_
      exact ⟨v43, L ++ [autoP r k (freeP r k s) w L (lastAt r L)], ⟨by rw [hg, fin_go hLl, List.length_append]; rfl, by simp; omega⟩, by dsimp only; simp; omega, ⟨rfl, trivial⟩, (by repeat (first | exact keeps_refl | refine keeps_upd rfl ?_ | refine keeps_loop rfl rfl ?_)), perm_eq (by dsimp only; rw [hnx]; simp [autoP])⟩

/-- benchwarmer/benchref1.RegretOf -/
theorem c_benchref1_RegretOf {r : Room} {k : List Keep} {l : List Pick} {w : List Wish} (ht : r.Teams.length ≤ 1000000) (hk0 : k.length ≤ 1000000) (hll : l.length ≤ 1000) (hne : ∀ i, i < l.length → 0 < (leftL r k (l.take i)).length) (hp : r.Players.length ≤ 1000000) (hw : w.length ≤ 1000000) (hwp : ∀ y ∈ w, y.Players.length ≤ 1000000) (hwin : ∀ y ∈ w, ∀ x ∈ y.Players, x ∈ r.Players) : ConP Tryz.prog 26 [eRoom r, eKeeps k, ePicks l, eWishes w] (ePairs (regL r k w l)) := by
  refine Con.of_body Tryz.func26 rfl Tryz.ntmps26 rfl rfl ?_
  refine hw_reg ?_
  refine dp rfl (pop_box rfl rfl) ?_
  refine dp rfl (pop_assign rfl) ?_
  refine dn ?_
  refine hw_reg ?_
  refine dp rfl (pop_assign rfl) ?_
  refine dn ?_
  refine hw_ghost (Ghost.arr_nil 2) ?_
  refine hw_seq ?_
  refine hw_reg ?_
  refine dp rfl (pop_fieldAddr ty28 rfl ty26 (by decide) rfl) ?_
  refine dp rfl (pop_load ty26 rfl rfl rfl) ?_
  refine dp rfl (pop_lenm ty26 rfl) ?_
  refine dp rfl (pop_move rfl) ?_
  refine dn ?_
  refine hw_block ?_
  refine hw_loopw2 [9, 11, 12, 13, 14, 18, 19, 20, 21, 22, 23, 24, 25, 26, 27, 28, 29, 30, 31, 32, 33, 34, 35, 36, 37, 38, 39, 40, 41, 42, 43, 44, 45, 46, 47, 48, 49, 50, 51, 52, 53, 54, 55, 56] (fun (j : Nat) (u : Value) => [(18, .int .i64 j), (9, .raw u)]) (fun (j : Nat) (u : Value) => [.arr u 2 (((r.Teams.take j).map fun t => (⟨t, Lib.itoa (regN r k w l t l.length)⟩ : PairS)).map ePair)]) (fun (j : Nat) (u : Value) => j ≤ r.Teams.length ∧ (True)) (fun (j : Nat) (u : Value) => r.Teams.length - j) (0) (.slice none 0 0) ?_ ?_ ?_ ?_
  · exact ⟨Nat.zero_le _, by simp_all⟩
  · exact ⟨rfl, rfl, trivial⟩
  · exact perm_eq (by simp)
  · intro j u hinv
    obtain ⟨hj, -⟩ := hinv
    refine hw_reg ?_
    refine dp rfl (pop_lss rfl rfl) ?_
    refine dn ?_
    refine hw_seq ?_
    refine hw_cond rfl (fun h1 => ?_) (fun h2 => ?_)
    · try simp at h1
      obtain ⟨x, hx⟩ : ∃ x, r.Teams[j]? = some x := ⟨_, List.getElem?_eq_getElem h1⟩
      have hdx := drop_cons hx
      refine hw_skip ?_
      refine seqQ_n ?_
      refine hw_seq ?_
      refine hw_block ?_
      refine hw_reg ?_
      refine dp rfl (pop_idx ty26 ty9 rfl rfl rfl (by first | assumption | simp_all)) ?_
      refine dp rfl (pop_load ty9 rfl rfl rfl) ?_
      refine dp rfl (pop_assign rfl) ?_
      refine dn ?_
      refine hw_reg ?_
      refine dp rfl (pop_assign rfl) ?_
      refine dn ?_
      refine hw_seq ?_
      refine hw_reg ?_
      refine dp rfl (pop_move rfl) ?_
      refine dp rfl (pop_lenm ty36 rfl) ?_
      refine dp rfl (pop_move rfl) ?_
      refine dn ?_
      refine hw_block ?_
      refine hw_loopw [12, 13, 14, 24, 25, 26, 27, 28, 29, 30, 31, 32, 33, 34, 35, 36, 37, 38, 39, 40, 41, 42, 43, 44, 45, 46, 47, 48] (fun (i : Nat) => [(24, .int .i64 i), (12, .int .i64 (regN r k w l x i))]) (fun (i : Nat) => [.arr u 2 (((r.Teams.take j).map fun t => (⟨t, Lib.itoa (regN r k w l t l.length)⟩ : PairS)).map ePair)]) (fun (i : Nat) => i ≤ l.length ∧ (True)) (fun (i : Nat) => l.length - i) (0) ?_ ?_ ?_ ?_
      · exact ⟨Nat.zero_le _, trivial⟩
      · exact ⟨rfl, rfl, trivial⟩
      · exact List.Perm.refl _
      · intro i hinv
        obtain ⟨hi, -⟩ := hinv
        refine hw_reg ?_
        refine dp rfl (pop_lss rfl rfl) ?_
        refine dn ?_
        refine hw_seq ?_
        refine hw_cond rfl (fun h3 => ?_) (fun h4 => ?_)
        · try simp at h3
          obtain ⟨y, hy⟩ : ∃ y, l[i]? = some y := ⟨_, List.getElem?_eq_getElem h3⟩
          have hdy := drop_cons hy
          refine hw_skip ?_
          refine seqQ_n ?_
          refine hw_seq ?_
          refine hw_block ?_
          refine hw_reg ?_
          refine dp rfl (pop_move rfl) ?_
          refine dp rfl (pop_idx ty36 ty55 rfl rfl rfl (by first | assumption | simp_all)) ?_
          refine dp rfl (pop_loadw ty55 rfl rfl rfl rfl) ?_
          refine de rfl (eop_alloc ty55 rfl fun b14 => ?_)
          refine dp rfl (pop_assign rfl) ?_
          refine de0 (eop_storew ty55 rfl rfl rfl rfl rfl ?_)
          refine dn ?_
          refine hw_ghost (Ghost.fc0 14 rfl) ?_
          refine hw_draw (fun _ => True) [] mixed ?_
          refine ahp 0 rfl rfl (by kernel_rfl) (by kernel_rfl) (pop_fieldAddr ty55 rfl ty9 (by decide) rfl) ?_
          refine ahp 1 rfl rfl (by kernel_rfl) (by kernel_rfl) (pop_load ty9 rfl rfl rfl) ?_
          refine ahp 2 rfl rfl (by kernel_rfl) (by kernel_rfl) (pop_move rfl) ?_
          refine ahp 3 rfl rfl (by kernel_rfl) (by kernel_rfl) (pop_eqls rfl rfl) ?_
          refine ahp 4 rfl rfl (by kernel_rfl) (by kernel_rfl) (pop_move rfl) ?_
          refine ahg 5 rfl rfl (by kernel_rfl) (by kernel_rfl) rfl (fun hc => ⟨_, OpenTo.refl _, pop_loadw ty28 rfl rfl rfl rfl⟩) ?_
          refine ahg 6 rfl rfl (by kernel_rfl) (by kernel_rfl) rfl (fun hc => ⟨_, OpenTo.refl _, pop_move rfl⟩) ?_
          refine ahg 7 rfl rfl (by kernel_rfl) (by kernel_rfl) rfl (fun hc => ⟨_, OpenTo.refl _, pop_move rfl⟩) ?_
          refine ahg 8 rfl rfl (by kernel_rfl) (by kernel_rfl) rfl (fun hc => ⟨_, OpenTo.refl _, pop_move rfl⟩) ?_
          refine ahg 9 rfl rfl (by kernel_rfl) (by kernel_rfl) rfl (fun hc => by have hq := hc; (try simp at hq); exact ⟨_, OpenTo.upd (t := 37) rfl (by first | exact hc | simp_all) (OpenTo.upd (t := 36) rfl (by first | exact hc | simp_all) (OpenTo.refl _)), pop_slicem ty36 ty55 rfl rfl ⟨_, _, rfl, rfl⟩ (by omega) (by omega)⟩) ?_
          refine ahg 10 rfl rfl (by kernel_rfl) (by kernel_rfl) rfl (fun hc => ⟨_, OpenTo.refl _, pop_move rfl⟩) ?_
          refine ahg 11 rfl rfl (by kernel_rfl) (by kernel_rfl) rfl (fun hc => ⟨_, OpenTo.refl _, pop_move rfl⟩) ?_
          refine ahg 12 rfl rfl (by kernel_rfl) (by kernel_rfl) rfl (fun hc => by have hq := hc; (try simp at hq); exact ⟨_, OpenTo.upd (t := 40) rfl (by first | exact hc | simp_all) (OpenTo.upd (t := 39) rfl (by first | exact hc | simp_all) (OpenTo.upd (t := 38) rfl (by first | exact hc | simp_all) (OpenTo.upd (t := 35) rfl (by first | exact hc | simp_all) (OpenTo.upd (t := 34) rfl (by first | exact hc | simp_all) (OpenTo.refl _))))), pop_call ca70 rfl (WeakL.refl _) (c_benchref1_wish (l := (l.take i).drop 0) hp hk0 (by simp; omega) hw hwp hwin (by simpa using hne i (by omega)))⟩) ?_
          refine ahg 13 rfl rfl (by kernel_rfl) (by kernel_rfl) rfl (fun hc => ⟨_, OpenTo.refl _, pop_fieldAddr ty55 rfl ty9 (by decide) rfl⟩) ?_
          refine ahg 14 rfl rfl (by kernel_rfl) (by kernel_rfl) rfl (fun hc => ⟨_, OpenTo.upd (t := 42) rfl (by first | exact hc | simp_all) (OpenTo.refl _), pop_load ty9 rfl rfl rfl⟩) ?_
          refine ahg 15 rfl rfl (by kernel_rfl) (by kernel_rfl) rfl (fun hc => ⟨_, OpenTo.upd (t := 43) rfl (by first | exact hc | simp_all) (OpenTo.upd (t := 41) rfl (by first | exact hc | simp_all) (OpenTo.refl _)), pop_neqs rfl rfl⟩) ?_
          refine ahp 16 rfl rfl (by kernel_rfl) (by kernel_rfl) (pop_picko rfl (.inr ⟨_, rfl, fun h => by simp_all⟩) (.inl rfl)) ?_
          refine ahz (by kernel_rfl) ?_
          refine hw_cond rfl (fun h5 => ?_) (fun h6 => ?_)
          · try simp at h5
            refine hw_reg1 ?_
            refine dp rfl (pop_move rfl) ?_
            have hrb := regN_bd r k w l x i
            refine dp rfl (pop_add64 rfl rfl (by omega) (by omega)) ?_
            refine dp rfl (pop_assign rfl) ?_
            refine dn ?_
            refine blockQ_n ?_
            refine seqQ_n ?_
            refine hw_reg1 ?_
            refine dp rfl (pop_add64 rfl rfl (by omega) (by omega)) ?_
            refine dp rfl (pop_move rfl) ?_
            refine dn ?_
            exact ⟨i + 1, ⟨by omega, trivial⟩, by dsimp only; omega, ⟨rfl, some_int (by rw [regN_succ hy, if_pos (by simpa using h5)]), trivial⟩, (by repeat (first | exact keeps_refl | refine keeps_upd rfl ?_ | refine keeps_loop rfl rfl ?_)), List.Perm.refl _⟩
          · try simp at h6
            refine hw_skip ?_
            refine blockQ_n ?_
            refine seqQ_n ?_
            refine hw_reg1 ?_
            refine dp rfl (pop_add64 rfl rfl (by omega) (by omega)) ?_
            refine dp rfl (pop_move rfl) ?_
            refine dn ?_
            exact ⟨i + 1, ⟨by omega, trivial⟩, by dsimp only; omega, ⟨rfl, some_int (by rw [regN_succ hy, if_neg (by simpa using h6)]; simp), trivial⟩, (by repeat (first | exact keeps_refl | refine keeps_upd rfl ?_ | refine keeps_loop rfl rfl ?_)), List.Perm.refl _⟩
        · try simp at h4
          have hni : l.length ≤ i := by omega
          obtain rfl : i = l.length := by omega
          refine hw_exit ?_
          refine seqQ_x ?_
          refine loopQ_x ?_
          refine blockQ_eq ?_
          refine seqQ_n ?_
          refine hw_reg1 ?_
          refine dp rfl (pop_move rfl) ?_
          refine dp rfl (pop_move rfl) ?_
          refine dp rfl (pop_move rfl) ?_
          have hrb := regN_bd r k w l x l.length
          refine dp rfl (pop_call ca40 rfl (WeakL.refl _) (c_Itoa (n := regN r k w l x l.length) (by omega) (by omega))) ?_
          refine dp rfl (pop_build (cs := [_, _]) ty60 pl60 rfl) ?_
          refine dp rfl (pop_buildSlice (hs := [_]) ty48 ty60 rfl rfl (by decide) (by decide) rfl) ?_
          refine de rfl (eop_append (i := 0) ty48 ty60 rfl rfl rfl rfl rfl (by simp [flat, hcells]) (by simp; omega) fun v55 => ?_)
          refine dp rfl (pop_assign rfl) ?_
          refine dn ?_
          refine blockQ_n ?_
          refine seqQ_n ?_
          refine hw_reg1 ?_
          refine dp rfl (pop_add64 rfl rfl (by omega) (by omega)) ?_
          refine dp rfl (pop_move rfl) ?_
          refine dn ?_
          refine ⟨j + 1, _, ?_, ?_, ⟨rfl, rfl, trivial⟩, (by repeat (first | exact keeps_refl | refine keeps_upd rfl ?_ | refine keeps_loop rfl rfl ?_)), perm_eq (by simp [List.take_add_one, hx])⟩
          · exact ⟨by omega, trivial⟩
          · dsimp only; omega
    · try simp at h2
      have hnj : r.Teams.length ≤ j := by omega
      obtain rfl : j = r.Teams.length := by omega
      refine hw_exit ?_
      refine seqQ_x ?_
      refine loopQ2_x ?_
      refine blockQ_eq ?_
      refine seqQ_n ?_
      refine hw_reg ?_
      refine dp rfl (pop_move rfl) ?_
      refine dp rfl (pop_assign rfl) ?_
      refine dn ?_
      refine hw_ret ?_
      refine ret_fa (M := []) 8 rfl rfl ?_
      rw [List.take_length]; rfl
end Go.Proofs.YtoomadfbldcioaaGreatDoor
end
section
namespace Go.HL
variable {P : Program}
theorem EOp.fz {e : Env} {M : List MObj} {o : Oper} {K : HVal → List MObj → Prop} {sz : Nat} {es : List HVal} (h : EOp P e M o fun x M' => ∃ v, x = .raw v ∧ M' = .arr v sz es :: M) (hk : K (.slice sz es) M) : EOp P e M o K := fun I F a w ho hs =>
  Oper.wp_noQ (fun _ _ ⟨v, x, M', J, h1, h2, ⟨u, h3, h4⟩, h5, h6⟩ => by
    subst h3 h4
    obtain ⟨J', g1, g2, g3⟩ := Sat.freeze_arr (M := M ++ F) h6
    exact ⟨v, _, M, J', h1, h2.trans g1, hk, by rw [h5.raw_inv]; exact g3, g2⟩) (h I F a w ho hs)
theorem EOp.fzi {e : Env} {M N : List MObj} {o : Oper} {K : HVal → List MObj → Prop} {sz : Nat} {es : List HVal} (i : Nat) (h : EOp P e M o fun x M' => ∃ v, x = .raw v ∧ M'[i]? = some (.arr v sz es) ∧ M'.eraseIdx i = N) (hk : K (.slice sz es) N) : EOp P e M o K := fun I F a w ho hs =>
  Oper.wp_noQ (fun _ _ ⟨v, x, M', J, h1, h2, ⟨u, h3, h4, h5⟩, h6, h7⟩ => by
    subst h3 h5
    obtain ⟨J', g1, g2, g3⟩ := (h7.pull h4).freeze_arr
    exact ⟨v, _, _, J', h1, h2.trans g1, hk, by rw [h6.raw_inv]; exact g3, g2⟩) (h I F a w ho hs)
end Go.HL
end
section
namespace Go.Proofs.YtoomadfbldcioaaGreatDoor
open Go.HL
set_option maxRecDepth 100000
set_option linter.unusedVariables false
set_option linter.unusedSimpArgs false
set_option maxHeartbeats 2000000 in
/-- (*benchwarmer/benchmake.Stream).Order -/
theorem c_benchmake_Stream_Order {b : Nat} {l : List Int} {a : Nat} {n : Nat} (ha : a ≤ 800000) (hn1 : 1 ≤ n) (hn2 : n ≤ 1000) : Con Tryz.prog 48 [pAt b, .int .i64 (n : Int)] [St b l a] (fun x M' => ∃ (L : List Int) (a' : Nat), x = .slice 1 (L.map (.int .i64)) ∧ (L.length = n ∧ ∀ i ∈ L, (0 : Int) ≤ i ∧ i < n) ∧ a' ≤ a + n ∧ M' = [St b l a']) := by
  refine Con.of_body Tryz.func48 rfl Tryz.ntmps48 rfl rfl ?_
  refine hw_reg ?_
  refine dp rfl (pop_assign rfl) ?_
  refine dn ?_
  refine hw_reg ?_
  refine dp rfl (pop_assign rfl) ?_
  refine dn ?_
  refine hw_ghost (Ghost.arr_nil 1) ?_
  refine hw_seq ?_
  refine hw_reg ?_
  refine dp rfl (pop_move rfl) ?_
  refine dp rfl (pop_move rfl) ?_
  refine dn ?_
  refine hw_block ?_
  refine hw_loopw3 [5, 6, 10, 11, 12, 13, 14, 15, 16, 17] (fun (k : Nat) (u : Value) (L : List Int) => [(10, .int .i64 (k : Int)), (5, .raw u)]) (fun (k : Nat) (u : Value) (L : List Int) => [.arr u 1 (L.map (HVal.int .i64)), St b l a]) (fun (k : Nat) (u : Value) (L : List Int) => k ≤ n ∧ L.length = k ∧ ∀ i ∈ L, (0 : Int) ≤ i ∧ i < n) (fun (k : Nat) (u : Value) (L : List Int) => n - k) (0) (.slice none 0 0) ([]) ?_ ?_ ?_ ?_
  · exact ⟨by omega, rfl, by simp⟩
  · exact ⟨rfl, rfl, trivial⟩
  · exact perm_eq rfl
  · intro k u L hinv
    obtain ⟨hk, hL, hLb⟩ := hinv
    refine hw_reg ?_
    refine dp rfl (pop_lss rfl rfl) ?_
    refine dn ?_
    refine hw_seq ?_
    refine hw_cond rfl (fun h1 => ?_) (fun h2 => ?_)
    · try simp at h1
      have hkn : k < n := by omega
      refine hw_skip ?_
      refine seqQ_n ?_
      refine hw_seq ?_
      refine hw_block ?_
      refine hw_reg ?_
      refine dp rfl (pop_move rfl) ?_
      refine dp rfl (pop_assign rfl) ?_
      refine dn ?_
      refine hw_reg1 ?_
      refine dp rfl (pop_move rfl) ?_
      refine dp rfl (pop_move rfl) ?_
      refine dp rfl (pop_buildSlice (hs := [_]) ty22 ty3 rfl rfl (by decide) (by decide) rfl) ?_
      refine de rfl (eop_append (i := 0) ty22 ty3 rfl rfl rfl rfl rfl (by simp [flat, hcells]) (by simp; omega) fun v16 => ?_)
      refine dp rfl (pop_assign rfl) ?_
      refine dn ?_
      refine blockQ_n ?_
      refine seqQ_n ?_
      refine hw_reg1 ?_
      refine dp rfl (pop_add64 rfl rfl (by omega) (by omega)) ?_
      refine dp rfl (pop_move rfl) ?_
      refine dn ?_
      exact ⟨k + 1, v16, L ++ [(k : Int)], ⟨by omega, by simp [hL], fun i hi => by rcases List.mem_append.1 hi with h | h; exact hLb i h; (simp at h; omega)⟩, by dsimp only; omega, ⟨rfl, rfl, trivial⟩, (by repeat (first | exact keeps_refl | refine keeps_upd rfl ?_ | refine keeps_loop rfl rfl ?_)), perm_eq (by simp)⟩
    · try simp at h2
      obtain rfl : n = k := by omega
      refine hw_exit ?_
      refine seqQ_x ?_
      refine loopQ3_x ?_
      refine blockQ_eq ?_
      refine seqQ_n ?_
      refine hw_seq ?_
      refine hw_ghost (Ghost.perm (M' := [St b l a, .arr u 1 (L.map (.int .i64))]) (by repeat (first | exact List.Perm.nil | refine permTo 0 rfl ?_ | refine permTo 1 rfl ?_ | refine permTo 2 rfl ?_ | refine permTo 3 rfl ?_ | (refine permToE 0 rfl ?hq ?_; (case hq => simp [setL, hcells]; done)) | (refine permToE 1 rfl ?hq ?_; (case hq => simp [setL, hcells]; done)) | (refine permToE 2 rfl ?hq ?_; (case hq => simp [setL, hcells]; done)) | (refine permToE 3 rfl ?hq ?_; (case hq => simp [setL, hcells]; done)) | fail))) ?_
      refine hw_arrc (i := 1) rfl (fun h0 he => ?_) (fun ob off cap hv hcap => ?_)
      · exfalso; have := congrArg List.length he; simp at this; subst this; simp at hL; omega
      rw [List.length_map, hL] at hv hcap
      subst hv
      refine hw_reg ?_
      refine dp rfl (pop_move rfl) ?_
      refine dp rfl (pop_sub64 rfl rfl (by omega) (by omega)) ?_
      refine dp rfl (pop_assign rfl) ?_
      refine dn ?_
      refine hw_block ?_
      refine hw_loopw3 [7, 8, 20, 21, 22, 23, 24, 25, 26, 27, 28, 29, 30, 31, 32, 33, 34, 35, 36, 37, 38, 39, 40, 41] (fun (m : Nat) (L : List Int) (a2 : Nat) => [(7, .int .i64 (m : Int))]) (fun (m : Nat) (L : List Int) (a2 : Nat) => [St b l a2, .arr (.slice (some ⟨ob, off, none⟩) n cap) 1 (L.map (HVal.int .i64))]) (fun (m : Nat) (L : List Int) (a2 : Nat) => m < n ∧ (L.length = n ∧ ∀ i ∈ L, (0 : Int) ≤ i ∧ i < n) ∧ a2 + m ≤ a + n) (fun (m : Nat) (L : List Int) (a2 : Nat) => m) (n - 1) (L) (a) ?_ ?_ ?_ ?_
      · exact ⟨by omega, ⟨hL, hLb⟩, by omega⟩
      · exact ⟨some_int (by omega), trivial⟩
      · exact List.Perm.refl _
      · intro m L a2 hinv
        obtain ⟨hm, ⟨hL, hLb⟩, ha2⟩ := hinv
        refine hw_seq ?_
        refine hw_reg ?_
        refine dp rfl (pop_move rfl) ?_
        refine dp rfl (pop_gtr rfl rfl) ?_
        refine dn ?_
        refine hw_cond rfl (fun h3 => ?_) (fun h4 => ?_)
        · try simp at h3
          have hm0 : 0 < m := by omega
          refine hw_skip ?_
          refine seqQ_n ?_
          refine hw_seq ?_
          refine hw_block ?_
          refine hw_reg ?_
          refine dp rfl (pop_move rfl) ?_
          refine dp rfl (pop_move rfl) ?_
          refine dp rfl (pop_add64 rfl rfl (by omega) (by omega)) ?_
          first
          | refine de rfl (eop_callx (i := 0) ca41 rfl (WeakL.refl _) rfl (c_benchmake_Stream_Next (by first | assumption | omega | (simp; omega) | simp_all) (by first | assumption | omega | (simp; omega) | simp_all)) ?_)
          | refine de rfl (eop_callx (i := 1) ca41 rfl (WeakL.refl _) rfl (c_benchmake_Stream_Next (by first | assumption | omega | (simp; omega) | simp_all) (by first | assumption | omega | (simp; omega) | simp_all)) ?_)
          | refine de rfl (eop_callx (i := 2) ca41 rfl (WeakL.refl _) rfl (c_benchmake_Stream_Next (by first | assumption | omega | (simp; omega) | simp_all) (by first | assumption | omega | (simp; omega) | simp_all)) ?_)
          | refine de rfl (eop_callx (i := 3) ca41 rfl (WeakL.refl _) rfl (c_benchmake_Stream_Next (by first | assumption | omega | (simp; omega) | simp_all) (by first | assumption | omega | (simp; omega) | simp_all)) ?_)
          rintro _ _ ⟨y27, rfl, hy27, rfl⟩
          refine dp rfl (pop_assign rfl) ?_
          refine dn ?_
          obtain ⟨z1, hz1⟩ : ∃ z, L[y27]? = some z := ⟨_, List.getElem?_eq_getElem (by omega)⟩
          obtain ⟨z2, hz2⟩ : ∃ z, L[m]? = some z := ⟨_, List.getElem?_eq_getElem (by omega)⟩
          obtain ⟨z3, hz3⟩ : ∃ z, (L.set m z1)[y27]? = some z := ⟨_, List.getElem?_eq_getElem (by simp; omega)⟩
          refine hw_draw1 (fun M => ∃ i : Nat, M[i]? = some (.arr (.slice (some ⟨ob, off, none⟩) n cap) 1 (L.map (HVal.int .i64)))) [7, 11] mixed ?_
          refine ahp 0 rfl rfl (by kernel_rfl) (by kernel_rfl) (pop_move rfl) ?_
          refine ahp 1 rfl rfl (by kernel_rfl) (by kernel_rfl) (pop_move rfl) ?_
          refine ahp 2 rfl rfl (by kernel_rfl) (by kernel_rfl) (pop_move rfl) ?_
          refine ahp 3 rfl rfl (by kernel_rfl) (by kernel_rfl) (pop_move rfl) ?_
          refine ahp 4 rfl rfl (by kernel_rfl) (by kernel_rfl) (pop_move rfl) ?_
          refine ahp 5 rfl rfl (by kernel_rfl) (by kernel_rfl) (pop_move rfl) ?_
          refine ahp 6 rfl rfl (by kernel_rfl) (by kernel_rfl) (pop_idxraw (j := y27) ty22 ty3 rfl rfl rfl (by omega)) ?_
          refine ahl 7 rfl rfl (by kernel_rfl) (by kernel_rfl) (by simp) (by first | exact ⟨0, rfl⟩ | exact ⟨1, rfl⟩) (fun M hM => by obtain ⟨i, hi⟩ := hM; exact eop_load_el (i := i) (j := y27) 0 ty3 rfl (by omega) hi hz1 rfl rfl ⟨rfl, rfl⟩) ?_
          refine ahp 8 rfl rfl (by kernel_rfl) (by kernel_rfl) (pop_move rfl) ?_
          refine ahp 9 rfl rfl (by kernel_rfl) (by kernel_rfl) (pop_move rfl) ?_
          refine ahp 10 rfl rfl (by kernel_rfl) (by kernel_rfl) (pop_idxraw (j := m) ty22 ty3 rfl rfl rfl (by omega)) ?_
          refine ahl 11 rfl rfl (by kernel_rfl) (by kernel_rfl) (by simp) (by first | exact ⟨0, rfl⟩ | exact ⟨1, rfl⟩) (fun M hM => by obtain ⟨i, hi⟩ := hM; exact eop_load_el (i := i) (j := m) 0 ty3 rfl (by omega) hi hz2 rfl rfl ⟨rfl, rfl⟩) ?_
          refine ahp 12 rfl rfl (by kernel_rfl) (by kernel_rfl) (pop_idxraw (j := m) ty22 ty3 rfl rfl rfl (by omega)) ?_
          refine ahe 13 rfl (by kernel_rfl) ?_
          refine hop_e0 (eop_store_elw (i := 1) (f := HVal.int .i64) (es := L) (j := m) (y := z2) (y' := z1) ty3 rfl rfl rfl rfl hz2 rfl rfl rfl ?_)
          refine ⟨fun _ => .inr (by simp [Before, Region.binds]), ?_⟩
          refine ahp 14 rfl rfl (by kernel_rfl) (by kernel_rfl) (pop_idxraw (j := y27) ty22 ty3 rfl rfl rfl (by omega)) ?_
          refine ahe 15 rfl (by kernel_rfl) ?_
          refine hop_e0 (eop_store_elw (i := 1) (f := HVal.int .i64) (es := L.set m z1) (j := y27) (y := z3) (y' := z2) ty3 rfl rfl rfl rfl hz3 rfl rfl rfl ?_)
          refine ⟨fun _ => .inr (by simp [Before, Region.binds]), ?_⟩
          refine ahz (by kernel_rfl) ?_
          refine blockQ_n ?_
          refine seqQ_n ?_
          refine hw_reg1 ?_
          refine dp rfl (pop_move rfl) ?_
          refine dp rfl (pop_sub64 rfl rfl (by omega) (by omega)) ?_
          refine dp rfl (pop_assign rfl) ?_
          refine dn ?_
          exact ⟨m - 1, (L.set m z1).set y27 z2, a2 + 1, ⟨by omega, ⟨by simp [hL], all_set (P := fun i : Int => 0 ≤ i ∧ i < n) (all_set (P := fun i : Int => 0 ≤ i ∧ i < n) hLb (hLb z1 (List.mem_of_getElem? hz1))) (hLb z2 (List.mem_of_getElem? hz2))⟩, by omega⟩, by dsimp only; omega, ⟨some_int (by omega), trivial⟩, (by repeat (first | exact keeps_refl | refine keeps_upd rfl ?_ | refine keeps_loop rfl rfl ?_)), perm_eq (by simp [List.map_set])⟩
        · try simp at h4
          refine hw_exit ?_
          refine seqQ_x ?_
          refine loopQ3_x ?_
          refine blockQ_eq ?_
          refine seqQ_n ?_
          refine hw_reg ?_
          refine dp rfl (pop_move rfl) ?_
          refine dp rfl (pop_assign rfl) ?_
          refine dn ?_
          refine hw_ret ?_
          refine ret_g (Ghost.fa 4 (i := 1) rfl rfl) rfl ⟨L, a2, rfl, ⟨hL, hLb⟩, by omega, rfl⟩

/-- benchwarmer/benchref1.LeftOf -/
theorem c_benchref1_LeftOf_a {r : Room} {k : List Keep} {l : List Pick} (hp : r.Players.length ≤ 1000000) (hk0 : k.length ≤ 1000000) (hll : l.length ≤ 1000000) : ConA Tryz.prog 35 [eRoom r, eKeeps k, ePicks l] 1 ((leftL r k l).map .str) := by
  refine Con.of_body Tryz.func35 rfl Tryz.ntmps35 rfl rfl ?_
  refine hw_reg ?_
  refine dp rfl (pop_box rfl rfl) ?_
  refine dp rfl (pop_box rfl rfl) ?_
  refine dp rfl (pop_box rfl rfl) ?_
  refine dp rfl (pop_assign rfl) ?_
  refine dn ?_
  refine hw_reg ?_
  refine dp rfl ((by first | exact pop_fieldAddr ty28 rfl ty26 (by decide) rfl | exact pop_fieldAddr_raw ty28 rfl ty26 (by decide) rfl)) ?_
  refine dp rfl (pop_load ty26 rfl rfl rfl) ?_
  refine de rfl (eop_calla ca42 rfl (WeakL.refl _) (c_slices_Clone_string_string (by first | assumption | omega | (simp; omega) | simp_all)) fun v9 => ?_)
  refine dp rfl (pop_makeFunc rfl rfl) ?_
  first
  | refine de rfl (eop_callx (i := 0) ca74 rfl (WeakL.refl _) rfl (c_slices_DeleteFunc_string_string (l := r.Players) (p := goneB k l) ca76 (fun _ => c_benchref1_LeftOf_1 hk0 hll) hp) ?_)
  | refine de rfl (eop_callx (i := 1) ca74 rfl (WeakL.refl _) rfl (c_slices_DeleteFunc_string_string (l := r.Players) (p := goneB k l) ca76 (fun _ => c_benchref1_LeftOf_1 hk0 hll) hp) ?_)
  | refine de rfl (eop_callx (i := 2) ca74 rfl (WeakL.refl _) rfl (c_slices_DeleteFunc_string_string (l := r.Players) (p := goneB k l) ca76 (fun _ => c_benchref1_LeftOf_1 hk0 hll) hp) ?_)
  | refine de rfl (eop_callx (i := 3) ca74 rfl (WeakL.refl _) rfl (c_slices_DeleteFunc_string_string (l := r.Players) (p := goneB k l) ca76 (fun _ => c_benchref1_LeftOf_1 hk0 hll) hp) ?_)
  rintro _ _ ⟨u11, rfl, rfl⟩
  refine dp rfl (pop_assign rfl) ?_
  refine dn ?_
  refine hw_ret ?_
  exact ret_a rfl rfl

set_option maxHeartbeats 4000000 in
/-- (*benchwarmer/benchmake.Stream).PickList -/
theorem c_benchmake_Stream_PickList {b : Nat} {l : List Int} {a : Nat} {r : Room} {ks : List Keep} {ss : List Swap} (ha : a ≤ 700000) (hr : GoodRoom r) (hk0 : ks.length ≤ 1000000) (hl0 : ss.length ≤ 1000000) : Con Tryz.prog 9 [pAt b, eRoom r, eKeeps ks, eSwaps ss] [St b l a] (fun x M' => ∃ k a', x = ePicks k ∧ GoodPicks k ∧ a' ≤ a + 100 ∧ M' = [St b l a']) := by
  have ht := hr.t4
  have hp := hr.p20
  refine Con.of_body Tryz.func9 rfl Tryz.ntmps9 rfl rfl ?_
  refine hw_reg ?_
  refine dp rfl (pop_box rfl rfl) ?_
  refine dp rfl (pop_assign rfl) ?_
  refine dn ?_
  refine hw_seq ?_
  refine hw_reg ?_
  refine dp rfl (pop_loadw ty28 rfl rfl rfl rfl) ?_
  refine dp rfl (pop_move rfl) ?_
  refine dp rfl (pop_move rfl) ?_
  refine dp rfl (pop_eq (pop_call ca49 rfl (WeakL.refl _) (c_benchref1_OpenFault (by omega) (by omega) hr.ts hr.ps hk0 hl0)) (congrArg (HVal.int .i64) (openFault_ref r ks ss))) ?_
  refine dp rfl (pop_neq rfl rfl) ?_
  refine dn ?_
  refine hw_cond rfl (fun h1 => ?_) (fun h2 => ?_)
  · try simp at h1
    refine hw_reg ?_
    refine dp rfl (pop_assign rfl) ?_
    refine dn ?_
    refine hw_ret ?_
    first
    | exact ⟨_, _, Ghost.sub (Sub.refl _), _, .slice 5 [], rfl, weak_nil 5, [], a, rfl, ⟨by simp⟩, by omega, rfl⟩
    | refine ret_g (Ghost.fa 8 (i := 1) rfl rfl) rfl ⟨k1, a4, rfl, ⟨by omega⟩, by omega, rfl⟩
  · try simp at h2
    refine hw_skip ?_
    refine seqQ_n ?_
    refine hw_reg ?_
    refine dp rfl (pop_assign rfl) ?_
    refine dn ?_
    have hof : openFault r ks ss = 0 := by simpa using h2
    refine hw_ghost (Ghost.arr_nil 5) ?_
    refine hw_reg ?_
    refine dp rfl ((by first | exact pop_fieldAddr ty28 rfl ty3 (by decide) rfl | exact pop_fieldAddr_raw ty28 rfl ty3 (by decide) rfl)) ?_
    refine dp rfl (pop_load ty3 rfl rfl rfl) ?_
    refine dp rfl (pop_assign rfl) ?_
    refine dn ?_
    refine hw_joing [9, 10, 11, 12, 21, 22, 23, 24, 25, 26, 27, 28, 29, 30, 31, 32, 33, 34, 35, 36, 37, 38, 39, 40, 41, 42, 43, 44, 45, 46, 47, 48, 49, 50, 51, 52, 53, 54, 55, 56] (fun (q : GL Pick) => [(9, .raw q.u)]) (fun (q : GL Pick) => [St b l q.a, .arr q.u 5 (q.out.map ePick)]) (fun (q : GL Pick) => q.out.length ≤ 8 ∧ q.a ≤ a + 30) ?_ ?_
    · skip
      refine hw_reg ?_
      refine dp rfl (pop_move rfl) ?_
      first
      | refine de rfl (eop_callx (i := 0) ca39 rfl (WeakL.refl _) rfl (c_benchmake_Stream_Range (by first | assumption | omega | (simp; omega) | simp_all) (by first | assumption | omega | (simp; omega) | simp_all) (by first | assumption | omega | (simp; omega) | simp_all) (by first | assumption | omega | (simp; omega) | simp_all)) ?_)
      | refine de rfl (eop_callx (i := 1) ca39 rfl (WeakL.refl _) rfl (c_benchmake_Stream_Range (by first | assumption | omega | (simp; omega) | simp_all) (by first | assumption | omega | (simp; omega) | simp_all) (by first | assumption | omega | (simp; omega) | simp_all) (by first | assumption | omega | (simp; omega) | simp_all)) ?_)
      | refine de rfl (eop_callx (i := 2) ca39 rfl (WeakL.refl _) rfl (c_benchmake_Stream_Range (by first | assumption | omega | (simp; omega) | simp_all) (by first | assumption | omega | (simp; omega) | simp_all) (by first | assumption | omega | (simp; omega) | simp_all) (by first | assumption | omega | (simp; omega) | simp_all)) ?_)
      | refine de rfl (eop_callx (i := 3) ca39 rfl (WeakL.refl _) rfl (c_benchmake_Stream_Range (by first | assumption | omega | (simp; omega) | simp_all) (by first | assumption | omega | (simp; omega) | simp_all) (by first | assumption | omega | (simp; omega) | simp_all) (by first | assumption | omega | (simp; omega) | simp_all)) ?_)
      rintro _ _ ⟨y22, rfl, hy22, rfl⟩
      refine dp rfl (pop_move rfl) ?_
      refine dn ?_
      refine hw_block ?_
      refine hw_loopw3 [9, 10, 11, 12, 23, 24, 25, 26, 27, 28, 29, 30, 31, 32, 33, 34, 35, 36, 37, 38, 39, 40, 41, 42, 43, 44, 45, 46, 47, 48, 49, 50, 51, 52, 53, 54, 55, 56] (fun (k : Nat) (at1 : Int) (q : GL Pick) => [(23, .int .i64 (k : Int)), (9, .raw q.u), (10, .int .i64 at1)]) (fun (k : Nat) (at1 : Int) (q : GL Pick) => [St b l q.a, .arr q.u 5 (q.out.map ePick)]) (fun (k : Nat) (at1 : Int) (q : GL Pick) => k ≤ 8 ∧ (q.out.length ≤ k ∧ q.out.length ≤ (freeP r ks ss).length) ∧ q.a ≤ a + 1 + 3 * k) (fun (k : Nat) (at1 : Int) (q : GL Pick) => 8 - k) (0) (r.Start) (⟨.slice none 0 0, [], a + 1⟩) ?_ ?_ ?_ ?_
      · exact ⟨by omega, ⟨by simp, by simp⟩, by dsimp only; omega⟩
      · exact ⟨rfl, rfl, rfl, trivial⟩
      · repeat (first | exact List.Perm.nil | refine permTo 0 rfl ?_ | refine permTo 1 rfl ?_ | refine permTo 2 rfl ?_ | refine permTo 3 rfl ?_ | (refine permToE 0 rfl ?hq ?_; (case hq => simp [setL, hcells]; done)) | (refine permToE 1 rfl ?hq ?_; (case hq => simp [setL, hcells]; done)) | (refine permToE 2 rfl ?hq ?_; (case hq => simp [setL, hcells]; done)) | (refine permToE 3 rfl ?hq ?_; (case hq => simp [setL, hcells]; done)) | fail)
      · intro k at1 q hinv
        obtain ⟨hk, hq, hqa⟩ := hinv
        obtain ⟨u, out, a2⟩ := q
        dsimp only at hq hqa
        obtain ⟨g1, g2⟩ := hq
        refine hw_reg ?_
        refine dp rfl (pop_lss rfl rfl) ?_
        refine dn ?_
        refine hw_seq ?_
        refine hw_cond rfl (fun h3 => ?_) (fun h4 => ?_)
        · try simp at h3
          have hk8 : k < 8 := by omega
          refine hw_skip ?_
          refine seqQ_n ?_
          refine hw_seq ?_
          refine hw_block ?_
          refine hw_reg ?_
          refine dp rfl (pop_loadw ty28 rfl rfl rfl rfl) ?_
          refine dp rfl (pop_move rfl) ?_
          refine dp rfl (pop_move rfl) ?_
          refine dp rfl (pop_move rfl) ?_
          refine de rfl (eop_callw (hs' := [eRoom r, eKeeps ks, eSwaps ss, ePicks out]) ca32 rfl ⟨.refl, .refl, .refl, .arr (i := 1) rfl, trivial⟩ (c_benchref1_NextOf hof hk0 hl0 g2) rfl ?_)
          refine dp rfl (pop_move rfl) ?_
          refine dp rfl (pop_extract rfl rfl) ?_
          refine dp rfl (pop_extract rfl rfl) ?_
          refine de rfl (eop_alloc ty55 rfl fun b11 => ?_)
          first
          | refine de0 (eop_store (i := 0) ty55 rfl rfl rfl rfl rfl (Nat.le_of_ble_eq_true rfl) ?_)
          | refine de0 (eop_store (i := 1) ty55 rfl rfl rfl rfl rfl (Nat.le_of_ble_eq_true rfl) ?_)
          | refine de0 (eop_store (i := 2) ty55 rfl rfl rfl rfl rfl (Nat.le_of_ble_eq_true rfl) ?_)
          | refine de0 (eop_store (i := 3) ty55 rfl rfl rfl rfl rfl (Nat.le_of_ble_eq_true rfl) ?_)
          refine dp rfl (pop_assign rfl) ?_
          refine dn ?_
          refine hw_seq ?_
          refine hw_reg ?_
          refine dp rfl (pop_move rfl) ?_
          refine dp rfl (pop_not rfl) ?_
          refine dn ?_
          refine hw_cond rfl (fun h5 => ?_) (fun h6 => ?_)
          · try simp at h5
            refine hw_exit ?_
            refine seqQ_x ?_
            refine blockQ_ne rfl ?_
            refine seqQ_x ?_
            refine loopQ3_x ?_
            refine blockQ_eq ?_
            refine joinG_n Ghost.drop ?_
            refine joinG_z ⟨u, out, a2⟩ ⟨by dsimp only; omega, by dsimp only; omega⟩ ⟨rfl, trivial⟩ (by repeat (first | exact keeps_refl | refine keeps_upd rfl ?_ | refine keeps_loop rfl rfl ?_)) ?_
            repeat (first | exact List.Perm.nil | refine permTo 0 rfl ?_ | refine permTo 1 rfl ?_ | refine permTo 2 rfl ?_ | refine permTo 3 rfl ?_ | (refine permToE 0 rfl ?hq ?_; (case hq => simp [setL, hcells]; done)) | (refine permToE 1 rfl ?hq ?_; (case hq => simp [setL, hcells]; done)) | (refine permToE 2 rfl ?hq ?_; (case hq => simp [setL, hcells]; done)) | (refine permToE 3 rfl ?hq ?_; (case hq => simp [setL, hcells]; done)) | fail)
          · try simp at h6
            refine hw_skip ?_
            refine seqQ_n ?_
            have hLl : out.length < (freeP r ks ss).length := by omega
            have hln := left_ne hof hLl
            have hlm : (leftL r ks out).length ≤ r.Players.length := List.length_filter_le _ _
            refine hw_reg ?_
            refine dp rfl (pop_move rfl) ?_
            refine dp rfl (pop_move rfl) ?_
            refine dp rfl (pop_buildSlice (hs := [_, _, _]) ty22 ty3 rfl rfl (by decide) (by decide) rfl) ?_
            first
            | refine de rfl (eop_callx (i := 0) ca10 rfl (WeakL.refl _) rfl (c_benchmake_Stream_Pick (L := [_, _, _]) (by first | assumption | omega | (simp; omega) | simp_all) (by first | assumption | omega | (simp; omega) | simp_all) (by first | assumption | omega | (simp; omega) | simp_all)) ?_)
            | refine de rfl (eop_callx (i := 1) ca10 rfl (WeakL.refl _) rfl (c_benchmake_Stream_Pick (L := [_, _, _]) (by first | assumption | omega | (simp; omega) | simp_all) (by first | assumption | omega | (simp; omega) | simp_all) (by first | assumption | omega | (simp; omega) | simp_all)) ?_)
            | refine de rfl (eop_callx (i := 2) ca10 rfl (WeakL.refl _) rfl (c_benchmake_Stream_Pick (L := [_, _, _]) (by first | assumption | omega | (simp; omega) | simp_all) (by first | assumption | omega | (simp; omega) | simp_all) (by first | assumption | omega | (simp; omega) | simp_all)) ?_)
            | refine de rfl (eop_callx (i := 3) ca10 rfl (WeakL.refl _) rfl (c_benchmake_Stream_Pick (L := [_, _, _]) (by first | assumption | omega | (simp; omega) | simp_all) (by first | assumption | omega | (simp; omega) | simp_all) (by first | assumption | omega | (simp; omega) | simp_all)) ?_)
            rintro _ _ ⟨y38, rfl, hy38, rfl⟩
            refine dp rfl (pop_add rfl rfl) ?_
            refine dp rfl (pop_assign rfl) ?_
            refine dn ?_
            refine hw_reg ?_
            refine dp rfl (pop_move rfl) ?_
            refine dp rfl (pop_loadw ty28 rfl rfl rfl rfl) ?_
            refine dp rfl (pop_move rfl) ?_
            refine dp rfl (pop_move rfl) ?_
            refine de rfl (EOp.fz (eop_callba (hs' := [eRoom r, eKeeps ks, ePicks out]) ca35 rfl ⟨.weak (Weak.refl _), .weak (Weak.refl _), .arr (i := 2) rfl, trivial⟩ (c_benchref1_LeftOf_a (by omega) hk0 (by omega)) (fun y hy => by obtain ⟨z, _, rfl⟩ := List.mem_map.1 hy; rfl) fun v => ⟨v, rfl, rfl⟩) ?_)
            first
            | refine de rfl (eop_callx (i := 0) ca43 rfl (WeakL.refl _) rfl (c_benchmake_Stream_Some (by first | assumption | omega | (simp; omega) | simp_all) (by first | assumption | omega | (simp; omega) | simp_all) (by first | assumption | omega | (simp; omega) | simp_all)) ?_)
            | refine de rfl (eop_callx (i := 1) ca43 rfl (WeakL.refl _) rfl (c_benchmake_Stream_Some (by first | assumption | omega | (simp; omega) | simp_all) (by first | assumption | omega | (simp; omega) | simp_all) (by first | assumption | omega | (simp; omega) | simp_all)) ?_)
            | refine de rfl (eop_callx (i := 2) ca43 rfl (WeakL.refl _) rfl (c_benchmake_Stream_Some (by first | assumption | omega | (simp; omega) | simp_all) (by first | assumption | omega | (simp; omega) | simp_all) (by first | assumption | omega | (simp; omega) | simp_all)) ?_)
            | refine de rfl (eop_callx (i := 3) ca43 rfl (WeakL.refl _) rfl (c_benchmake_Stream_Some (by first | assumption | omega | (simp; omega) | simp_all) (by first | assumption | omega | (simp; omega) | simp_all) (by first | assumption | omega | (simp; omega) | simp_all)) ?_)
            rintro _ _ ⟨y45, rfl, hy45, rfl⟩
            refine dp rfl (pop_move rfl) ?_
            refine dp rfl (pop_move rfl) ?_
            first
            | refine de rfl (eop_callx (i := 0) ca11 rfl (WeakL.refl _) rfl (c_benchmake_Stream_Flip (by first | assumption | omega | (simp; omega) | simp_all) (by first | assumption | omega | (simp; omega) | simp_all)) ?_)
            | refine de rfl (eop_callx (i := 1) ca11 rfl (WeakL.refl _) rfl (c_benchmake_Stream_Flip (by first | assumption | omega | (simp; omega) | simp_all) (by first | assumption | omega | (simp; omega) | simp_all)) ?_)
            | refine de rfl (eop_callx (i := 2) ca11 rfl (WeakL.refl _) rfl (c_benchmake_Stream_Flip (by first | assumption | omega | (simp; omega) | simp_all) (by first | assumption | omega | (simp; omega) | simp_all)) ?_)
            | refine de rfl (eop_callx (i := 3) ca11 rfl (WeakL.refl _) rfl (c_benchmake_Stream_Flip (by first | assumption | omega | (simp; omega) | simp_all) (by first | assumption | omega | (simp; omega) | simp_all)) ?_)
            rintro _ _ ⟨y48, rfl, rfl⟩
            refine dp rfl (pop_fieldAddr_raw ty55 rfl ty9 (by decide) rfl) ?_
            first
            | refine de0 (eop_store (i := 0) ty9 rfl rfl rfl rfl rfl (Nat.le_of_ble_eq_true rfl) ?_)
            | refine de0 (eop_store (i := 1) ty9 rfl rfl rfl rfl rfl (Nat.le_of_ble_eq_true rfl) ?_)
            | refine de0 (eop_store (i := 2) ty9 rfl rfl rfl rfl rfl (Nat.le_of_ble_eq_true rfl) ?_)
            | refine de0 (eop_store (i := 3) ty9 rfl rfl rfl rfl rfl (Nat.le_of_ble_eq_true rfl) ?_)
            refine dp rfl (pop_fieldAddr_raw ty55 rfl ty3 (by decide) rfl) ?_
            first
            | refine de0 (eop_store (i := 0) ty3 rfl rfl rfl rfl rfl (Nat.le_of_ble_eq_true rfl) ?_)
            | refine de0 (eop_store (i := 1) ty3 rfl rfl rfl rfl rfl (Nat.le_of_ble_eq_true rfl) ?_)
            | refine de0 (eop_store (i := 2) ty3 rfl rfl rfl rfl rfl (Nat.le_of_ble_eq_true rfl) ?_)
            | refine de0 (eop_store (i := 3) ty3 rfl rfl rfl rfl rfl (Nat.le_of_ble_eq_true rfl) ?_)
            refine dp rfl (pop_fieldAddr_raw ty55 rfl ty4 (by decide) rfl) ?_
            first
            | refine de0 (eop_store (i := 0) ty4 rfl rfl rfl rfl rfl (Nat.le_of_ble_eq_true rfl) ?_)
            | refine de0 (eop_store (i := 1) ty4 rfl rfl rfl rfl rfl (Nat.le_of_ble_eq_true rfl) ?_)
            | refine de0 (eop_store (i := 2) ty4 rfl rfl rfl rfl rfl (Nat.le_of_ble_eq_true rfl) ?_)
            | refine de0 (eop_store (i := 3) ty4 rfl rfl rfl rfl rfl (Nat.le_of_ble_eq_true rfl) ?_)
            refine dn ?_
            refine hw_ghost (Ghost.of_eq (M' := [St b l (a2 + 1 + 1 + 1), .cells b11 (hcells (ePick ⟨(nextP r ks ss out).No, (nextP r ks ss out).Team, y45, IntKind.wrap .i64 (at1 + y38), y48⟩)), .arr u 5 (out.map ePick)]) rfl) ?_
            refine hw_ghost (Ghost.fc 11 (i := 1) rfl rfl) ?_
            refine hw_reg1 ?_
            refine dp rfl (pop_move rfl) ?_
            refine dp rfl (pop_loadw ty55 rfl rfl rfl rfl) ?_
            refine dp rfl (pop_buildSlice (hs := [_]) ty36 ty55 rfl rfl (by decide) (by decide) rfl) ?_
            refine de rfl (eop_append (i := 1) ty36 ty55 rfl rfl rfl rfl rfl (by simp [flat, hcells]) (by simp; omega) fun v55 => ?_)
            refine dp rfl (pop_assign rfl) ?_
            refine dn ?_
            refine blockQ_n ?_
            refine seqQ_n ?_
            refine hw_reg1 ?_
            refine dp rfl (pop_add64 rfl rfl (by omega) (by omega)) ?_
            refine dp rfl (pop_move rfl) ?_
            refine dn ?_
            exact ⟨k + 1, IntKind.wrap .i64 (at1 + y38), ⟨v55, out ++ [⟨(nextP r ks ss out).No, (nextP r ks ss out).Team, y45, IntKind.wrap .i64 (at1 + y38), y48⟩], a2 + 3⟩, ⟨by omega, ⟨by simp; omega, by simp; omega⟩, by dsimp only; omega⟩, by dsimp only; omega, ⟨rfl, rfl, rfl, trivial⟩, (by repeat (first | exact keeps_refl | refine keeps_upd rfl ?_ | refine keeps_loop rfl rfl ?_)), by repeat (first | exact List.Perm.nil | refine permTo 0 rfl ?_ | refine permTo 1 rfl ?_ | refine permTo 2 rfl ?_ | refine permTo 3 rfl ?_ | (refine permToE 0 rfl ?hq ?_; (case hq => simp [setL, hcells]; done)) | (refine permToE 1 rfl ?hq ?_; (case hq => simp [setL, hcells]; done)) | (refine permToE 2 rfl ?hq ?_; (case hq => simp [setL, hcells]; done)) | (refine permToE 3 rfl ?hq ?_; (case hq => simp [setL, hcells]; done)) | fail)⟩
        · try simp at h4
          refine hw_exit ?_
          refine seqQ_x ?_
          refine loopQ3_x ?_
          refine blockQ_eq ?_
          refine joinG_z ⟨u, out, a2⟩ ⟨by dsimp only; omega, by dsimp only; omega⟩ ⟨rfl, trivial⟩ (by repeat (first | exact keeps_refl | refine keeps_upd rfl ?_ | refine keeps_loop rfl rfl ?_)) ?_
          repeat (first | exact List.Perm.nil | refine permTo 0 rfl ?_ | refine permTo 1 rfl ?_ | refine permTo 2 rfl ?_ | refine permTo 3 rfl ?_ | (refine permToE 0 rfl ?hq ?_; (case hq => simp [setL, hcells]; done)) | (refine permToE 1 rfl ?hq ?_; (case hq => simp [setL, hcells]; done)) | (refine permToE 2 rfl ?hq ?_; (case hq => simp [setL, hcells]; done)) | (refine permToE 3 rfl ?hq ?_; (case hq => simp [setL, hcells]; done)) | fail)
    · intro q hq3
      obtain ⟨u, out, a2⟩ := q
      dsimp only at hq3
      obtain ⟨g1, g3⟩ := hq3
      refine hw_join (13 :: 57 :: 58 :: 59 :: 60 :: 61 :: 62 :: 63 :: 64 :: 65 :: 66 :: 67 :: 68 :: 69 :: 70 :: 71 :: 72 :: 73 :: 74 :: 75 :: 76 :: 77 :: 78 :: 79 :: 80 :: 81 :: 82 :: 83 :: 84 :: 85 :: 86 :: 87 :: 88 :: 89 :: 90 :: 91 :: 92 :: 93 :: 94 :: 95 :: 96 :: 97 :: 98 :: 99 :: 100 :: 101 :: 102 :: 103 :: 104 :: 105 :: 106 :: 107 :: 108 :: 109 :: 110 :: 111 :: 112 :: 113 :: 114 :: 115 :: 116 :: 117 :: 118 :: 119 :: 120 :: 121 :: 122 :: 123 :: 124 :: 125 :: []) (fun (q : List Pick × Nat) => []) (fun (q : List Pick × Nat) => [St b l q.2, .arr u 5 (q.1.map ePick)]) (fun (q : List Pick × Nat) => q.1.length ≤ 8 ∧ q.2 ≤ a + 100) ?_ ?_
      · skip
        refine hw_reg ?_
        refine dp rfl (pop_move rfl) ?_
        first
        | refine de rfl (eop_lenm (i := 0) ty36 rfl rfl ?_)
        | refine de rfl (eop_lenm (i := 1) ty36 rfl rfl ?_)
        | refine de rfl (eop_lenm (i := 2) ty36 rfl rfl ?_)
        | refine de rfl (eop_lenm (i := 3) ty36 rfl rfl ?_)
        refine dp rfl (pop_gtr rfl rfl) ?_
        refine dp rfl (pop_move rfl) ?_
        refine dg rfl rfl (fun hc => ⟨_, OpenTo.refl _, pop_move rfl⟩) ?_
        refine dgx (fun x M' => ∃ (y : Bool) (a3 : Nat), x = .bool y ∧ a3 ≤ a2 + 1 ∧ M' = [St b l a3, .arr u 5 (out.map ePick)]) rfl rfl (fun hc => ⟨_, false, a2, rfl, by omega, rfl⟩) (fun hc => ⟨_, OpenTo.upd (t := 61) rfl (by first | exact hc | simp_all) (OpenTo.refl _), eop_callx (i := 0) ca11 rfl (WeakL.refl _) rfl (c_benchmake_Stream_Flip (a := a2) (by omega) (by omega)) (fun h M' hh => by
          obtain ⟨y, h1, h2⟩ := hh
          exact ⟨y, a2 + 1, h1, by omega, by rw [h2]; rfl⟩)⟩) ?_
        rintro _ _ ⟨y, a3, rfl, ha3, rfl⟩
        refine dp rfl (pop_picko rfl (.inr ⟨_, rfl, fun h => by simp_all⟩) (.inl rfl)) ?_
        refine dn ?_
        refine hw_cond rfl (fun h7 => ?_) (fun h8 => ?_)
        · try simp at h7
          have ho0 : 0 < out.length := by simp_all
          refine hw_arrc (i := 1) rfl (fun h0 he => ?_) (fun ob off cap hv hcap => ?_)
          · exfalso; have := congrArg List.length he; simp at this; subst this; simp at ho0
          subst hv
          refine hw_reg ?_
          refine dp rfl (pop_move rfl) ?_
          refine dp rfl (pop_move rfl) ?_
          refine dp rfl (pop_move rfl) ?_
          first
          | refine de rfl (eop_lenm (i := 0) ty36 rfl rfl ?_)
          | refine de rfl (eop_lenm (i := 1) ty36 rfl rfl ?_)
          | refine de rfl (eop_lenm (i := 2) ty36 rfl rfl ?_)
          | refine de rfl (eop_lenm (i := 3) ty36 rfl rfl ?_)
          first
          | refine de rfl (eop_callx (i := 0) ca41 rfl (WeakL.refl _) rfl (c_benchmake_Stream_Next (by first | assumption | omega | (simp; omega) | simp_all) (by first | assumption | omega | (simp; omega) | simp_all)) ?_)
          | refine de rfl (eop_callx (i := 1) ca41 rfl (WeakL.refl _) rfl (c_benchmake_Stream_Next (by first | assumption | omega | (simp; omega) | simp_all) (by first | assumption | omega | (simp; omega) | simp_all)) ?_)
          | refine de rfl (eop_callx (i := 2) ca41 rfl (WeakL.refl _) rfl (c_benchmake_Stream_Next (by first | assumption | omega | (simp; omega) | simp_all) (by first | assumption | omega | (simp; omega) | simp_all)) ?_)
          | refine de rfl (eop_callx (i := 3) ca41 rfl (WeakL.refl _) rfl (c_benchmake_Stream_Next (by first | assumption | omega | (simp; omega) | simp_all) (by first | assumption | omega | (simp; omega) | simp_all)) ?_)
          rintro _ _ ⟨y68, rfl, hy68, rfl⟩
          refine dp rfl (pop_idxraw (j := y68) ty36 ty55 rfl rfl rfl (by simp; omega)) ?_
          refine dp rfl (pop_assign rfl) ?_
          refine dn ?_
          obtain ⟨x, hx⟩ : ∃ x, out[y68]? = some x := ⟨_, List.getElem?_eq_getElem (by omega)⟩
          obtain ⟨x0, hx0⟩ : ∃ x, out[0]? = some x := ⟨_, List.getElem?_eq_getElem (by omega)⟩
          refine hw_reg ?_
          refine dp rfl (pop_move rfl) ?_
          first
          | refine de rfl (eop_callx (i := 0) ca41 rfl (WeakL.refl _) rfl (c_benchmake_Stream_Next (by first | assumption | omega | (simp; omega) | simp_all) (by first | assumption | omega | (simp; omega) | simp_all)) ?_)
          | refine de rfl (eop_callx (i := 1) ca41 rfl (WeakL.refl _) rfl (c_benchmake_Stream_Next (by first | assumption | omega | (simp; omega) | simp_all) (by first | assumption | omega | (simp; omega) | simp_all)) ?_)
          | refine de rfl (eop_callx (i := 2) ca41 rfl (WeakL.refl _) rfl (c_benchmake_Stream_Next (by first | assumption | omega | (simp; omega) | simp_all) (by first | assumption | omega | (simp; omega) | simp_all)) ?_)
          | refine de rfl (eop_callx (i := 3) ca41 rfl (WeakL.refl _) rfl (c_benchmake_Stream_Next (by first | assumption | omega | (simp; omega) | simp_all) (by first | assumption | omega | (simp; omega) | simp_all)) ?_)
          rintro _ _ ⟨y71, rfl, hy71, rfl⟩
          refine dn ?_
          refine hw_block ?_
          refine hw_reg ?_
          refine dp rfl (pop_eql rfl rfl) ?_
          refine dp rfl (pop_assign rfl) ?_
          refine dn ?_
          refine hw_cond rfl (fun h9 => ?_) (fun h10 => ?_)
          · try simp at h9
            refine hw_draw1 (fun M => ∃ i : Nat, M[i]? = some (.arr (.slice (some ⟨ob, off, none⟩) (out.map ePick).length cap) 5 (out.map ePick))) [6, 10, 18] mixed ?_
            refine ahp 0 rfl rfl (by kernel_rfl) (by kernel_rfl) (pop_move rfl) ?_
            refine ahp 1 rfl rfl (by kernel_rfl) (by kernel_rfl) (pop_move rfl) ?_
            refine ahp 2 rfl rfl (by kernel_rfl) (by kernel_rfl) (pop_move rfl) ?_
            refine ahp 3 rfl rfl (by kernel_rfl) (by kernel_rfl) (pop_move rfl) ?_
            refine ahp 4 rfl rfl (by kernel_rfl) (by kernel_rfl) ((by first | exact pop_nilCheck rfl | exact pop_nilCheck_raw rfl)) ?_
            refine ahp 5 rfl rfl (by kernel_rfl) (by kernel_rfl) ((by first | exact pop_fieldAddr ty55 rfl ty3 (by decide) rfl | exact pop_fieldAddr_raw ty55 rfl ty3 (by decide) rfl)) ?_
            refine ahl 6 rfl rfl (by kernel_rfl) (by kernel_rfl) (by simp) ⟨1, rfl⟩ (fun M hM => by obtain ⟨i, hi⟩ := hM; exact eop_load_el (i := i) (j := y68) 0 ty3 rfl (by omega) hi hx rfl rfl ⟨rfl, rfl⟩) ?_
            refine ahp 7 rfl rfl (by kernel_rfl) (by kernel_rfl) (pop_move rfl) ?_
            refine ahp 8 rfl rfl (by kernel_rfl) (by kernel_rfl) ((by first | exact pop_nilCheck rfl | exact pop_nilCheck_raw rfl)) ?_
            refine ahp 9 rfl rfl (by kernel_rfl) (by kernel_rfl) ((by first | exact pop_fieldAddr ty55 rfl ty3 (by decide) rfl | exact pop_fieldAddr_raw ty55 rfl ty3 (by decide) rfl)) ?_
            refine ahl 10 rfl rfl (by kernel_rfl) (by kernel_rfl) (by simp) ⟨1, rfl⟩ (fun M hM => by obtain ⟨i, hi⟩ := hM; exact eop_load_el (i := i) (j := y68) 0 ty3 rfl (by omega) hi hx rfl rfl ⟨rfl, rfl⟩) ?_
            refine ahp 11 rfl rfl (by kernel_rfl) (by kernel_rfl) (pop_add rfl rfl) ?_
            refine ahp 12 rfl rfl (by kernel_rfl) (by kernel_rfl) (pop_buildSlice (hs := [_, _, _]) ty22 ty3 rfl rfl (by decide) (by decide) rfl) ?_
            refine ahp 14 rfl rfl (by kernel_rfl) (by kernel_rfl) (pop_move rfl) ?_
            refine ahp 15 rfl rfl (by kernel_rfl) (by kernel_rfl) (pop_move rfl) ?_
            refine ahp 16 rfl rfl (by kernel_rfl) (by kernel_rfl) ((by first | exact pop_nilCheck rfl | exact pop_nilCheck_raw rfl)) ?_
            refine ahp 17 rfl rfl (by kernel_rfl) (by kernel_rfl) ((by first | exact pop_fieldAddr ty55 rfl ty9 (by decide) rfl | exact pop_fieldAddr_raw ty55 rfl ty9 (by decide) rfl)) ?_
            refine ahl 18 rfl rfl (by kernel_rfl) (by kernel_rfl) (by simp) ⟨1, rfl⟩ (fun M hM => by obtain ⟨i, hi⟩ := hM; exact eop_load_el (i := i) (j := y68) 1 ty9 rfl (by omega) hi hx rfl rfl ⟨rfl, rfl⟩) ?_
            refine ahp 19 rfl rfl (by kernel_rfl) (by kernel_rfl) (pop_buildSlice (hs := [_, _, _]) ty26 ty9 rfl rfl (by decide) (by decide) rfl) ?_
            refine ahe 13 rfl (by kernel_rfl) ?_
            first
            | refine hop_e rfl (eop_callx (i := 0) ca10 rfl (WeakL.refl _) rfl (c_benchmake_Stream_Pick (L := [_, _, _]) (by first | assumption | omega | (simp; omega) | simp_all) (by first | assumption | omega | (simp; omega) | simp_all) (by first | assumption | omega | (simp; omega) | simp_all)) ?_)
            | refine hop_e rfl (eop_callx (i := 1) ca10 rfl (WeakL.refl _) rfl (c_benchmake_Stream_Pick (L := [_, _, _]) (by first | assumption | omega | (simp; omega) | simp_all) (by first | assumption | omega | (simp; omega) | simp_all) (by first | assumption | omega | (simp; omega) | simp_all)) ?_)
            | refine hop_e rfl (eop_callx (i := 2) ca10 rfl (WeakL.refl _) rfl (c_benchmake_Stream_Pick (L := [_, _, _]) (by first | assumption | omega | (simp; omega) | simp_all) (by first | assumption | omega | (simp; omega) | simp_all) (by first | assumption | omega | (simp; omega) | simp_all)) ?_)
            | refine hop_e rfl (eop_callx (i := 3) ca10 rfl (WeakL.refl _) rfl (c_benchmake_Stream_Pick (L := [_, _, _]) (by first | assumption | omega | (simp; omega) | simp_all) (by first | assumption | omega | (simp; omega) | simp_all) (by first | assumption | omega | (simp; omega) | simp_all)) ?_)
            rintro _ _ ⟨y102, rfl, hy102, rfl⟩
            refine ⟨fun _ => by first | exact .inl ⟨0, rfl⟩ | exact .inl ⟨1, rfl⟩ | exact .inl ⟨2, rfl⟩ | exact .inr (by simp [Before, Region.binds]), ?_⟩
            refine ahe 20 rfl (by kernel_rfl) ?_
            first
            | refine hop_e rfl (eop_callx (i := 0) ca43 rfl (WeakL.refl _) rfl (c_benchmake_Stream_Some (L := [_, _, _]) (by first | assumption | omega | (simp; omega) | simp_all) (by first | assumption | omega | (simp; omega) | simp_all) (by first | assumption | omega | (simp; omega) | simp_all)) ?_)
            | refine hop_e rfl (eop_callx (i := 1) ca43 rfl (WeakL.refl _) rfl (c_benchmake_Stream_Some (L := [_, _, _]) (by first | assumption | omega | (simp; omega) | simp_all) (by first | assumption | omega | (simp; omega) | simp_all) (by first | assumption | omega | (simp; omega) | simp_all)) ?_)
            | refine hop_e rfl (eop_callx (i := 2) ca43 rfl (WeakL.refl _) rfl (c_benchmake_Stream_Some (L := [_, _, _]) (by first | assumption | omega | (simp; omega) | simp_all) (by first | assumption | omega | (simp; omega) | simp_all) (by first | assumption | omega | (simp; omega) | simp_all)) ?_)
            | refine hop_e rfl (eop_callx (i := 3) ca43 rfl (WeakL.refl _) rfl (c_benchmake_Stream_Some (L := [_, _, _]) (by first | assumption | omega | (simp; omega) | simp_all) (by first | assumption | omega | (simp; omega) | simp_all) (by first | assumption | omega | (simp; omega) | simp_all)) ?_)
            rintro _ _ ⟨y109, rfl, hy109, rfl⟩
            refine ⟨fun _ => by first | exact .inl ⟨0, rfl⟩ | exact .inl ⟨1, rfl⟩ | exact .inl ⟨2, rfl⟩ | exact .inr (by simp [Before, Region.binds]), ?_⟩
            refine ahp 21 rfl rfl (by kernel_rfl) (by kernel_rfl) ((by first | exact pop_nilCheck rfl | exact pop_nilCheck_raw rfl)) ?_
            refine ahp 22 rfl rfl (by kernel_rfl) (by kernel_rfl) ((by first | exact pop_fieldAddr ty55 rfl ty3 (by decide) rfl | exact pop_fieldAddr_raw ty55 rfl ty3 (by decide) rfl)) ?_
            refine ahe 23 rfl (by kernel_rfl) ?_
            refine hop_e0 (eop_store_arr (i := 1) (j := y68) (f := 0) (y := ePick x) (y' := ePick ⟨y102, x.Team, x.Player, x.At, x.Auto⟩) ty3 rfl (by omega) rfl rfl (map_get hx) rfl rfl (by simp [hcells]) rfl ?_)
            refine ⟨fun _ => .inr (by simp [Before, Region.binds]), ?_⟩
            refine ahp 24 rfl rfl (by kernel_rfl) (by kernel_rfl) ((by first | exact pop_nilCheck rfl | exact pop_nilCheck_raw rfl)) ?_
            refine ahp 25 rfl rfl (by kernel_rfl) (by kernel_rfl) ((by first | exact pop_fieldAddr ty55 rfl ty9 (by decide) rfl | exact pop_fieldAddr_raw ty55 rfl ty9 (by decide) rfl)) ?_
            refine ahe 26 rfl (by kernel_rfl) ?_
            refine hop_e0 (eop_store_arr (i := 1) (j := y68) (f := 1) (y := ePick ⟨y102, x.Team, x.Player, x.At, x.Auto⟩) (y' := ePick ⟨y102, y109, x.Player, x.At, x.Auto⟩) ty9 rfl (by omega) rfl rfl (set_self (map_get hx)) rfl rfl (by simp [hcells]) rfl ?_)
            refine ⟨fun _ => .inr (by simp [Before, Region.binds]), ?_⟩
            refine ahz (by kernel_rfl) ?_
            refine blockQ_n ?_
            exact ⟨(out.set y68 ⟨y102, y109, x.Player, x.At, x.Auto⟩, a3 + 4), ⟨by simp; omega, by dsimp only; omega⟩, trivial, (by repeat (first | exact keeps_refl | refine keeps_upd rfl ?_ | refine keeps_loop rfl rfl ?_)), by repeat (first | exact List.Perm.nil | refine permTo 0 rfl ?_ | refine permTo 1 rfl ?_ | refine permTo 2 rfl ?_ | refine permTo 3 rfl ?_ | (refine permToE 0 rfl ?hq ?_; (case hq => simp [setL, hcells]; done)) | (refine permToE 1 rfl ?hq ?_; (case hq => simp [setL, hcells]; done)) | (refine permToE 2 rfl ?hq ?_; (case hq => simp [setL, hcells]; done)) | (refine permToE 3 rfl ?hq ?_; (case hq => simp [setL, hcells]; done)) | fail)⟩
          · try simp at h10
            refine hw_reg ?_
            refine dp rfl (pop_eql rfl rfl) ?_
            refine dp rfl (pop_assign rfl) ?_
            refine dn ?_
            refine hw_cond rfl (fun h11 => ?_) (fun h12 => ?_)
            · try simp at h11
              refine hw_reg1 ?_
              refine dp rfl (pop_move rfl) ?_
              refine dp rfl (pop_move rfl) ?_
              refine dp rfl (pop_move rfl) ?_
              refine dp rfl (pop_idxraw (j := 0) ty36 ty55 rfl rfl rfl (by simp; omega)) ?_
              refine dp rfl ((by first | exact pop_fieldAddr ty55 rfl ty9 (by decide) rfl | exact pop_fieldAddr_raw ty55 rfl ty9 (by decide) rfl)) ?_
              refine de rfl (eop_load_el (i := 1) (j := 0) 2 ty9 rfl (by omega) rfl hx0 rfl rfl ?_)
              refine dp rfl (pop_buildSlice (hs := [_, _]) ty26 ty9 rfl rfl (by decide) (by decide) rfl) ?_
              first
              | refine de rfl (eop_callx (i := 0) ca43 rfl (WeakL.refl _) rfl (c_benchmake_Stream_Some (L := [_, _]) (by first | assumption | omega | (simp; omega) | simp_all) (by first | assumption | omega | (simp; omega) | simp_all) (by first | assumption | omega | (simp; omega) | simp_all)) ?_)
              | refine de rfl (eop_callx (i := 1) ca43 rfl (WeakL.refl _) rfl (c_benchmake_Stream_Some (L := [_, _]) (by first | assumption | omega | (simp; omega) | simp_all) (by first | assumption | omega | (simp; omega) | simp_all) (by first | assumption | omega | (simp; omega) | simp_all)) ?_)
              | refine de rfl (eop_callx (i := 2) ca43 rfl (WeakL.refl _) rfl (c_benchmake_Stream_Some (L := [_, _]) (by first | assumption | omega | (simp; omega) | simp_all) (by first | assumption | omega | (simp; omega) | simp_all) (by first | assumption | omega | (simp; omega) | simp_all)) ?_)
              | refine de rfl (eop_callx (i := 3) ca43 rfl (WeakL.refl _) rfl (c_benchmake_Stream_Some (L := [_, _]) (by first | assumption | omega | (simp; omega) | simp_all) (by first | assumption | omega | (simp; omega) | simp_all) (by first | assumption | omega | (simp; omega) | simp_all)) ?_)
              rintro _ _ ⟨y123, rfl, hy123, rfl⟩
              refine dp rfl ((by first | exact pop_nilCheck rfl | exact pop_nilCheck_raw rfl)) ?_
              refine dp rfl ((by first | exact pop_fieldAddr ty55 rfl ty9 (by decide) rfl | exact pop_fieldAddr_raw ty55 rfl ty9 (by decide) rfl)) ?_
              refine de0 (eop_store_arr (i := 1) (j := y68) (f := 2) (y := ePick x) (y' := ePick ⟨x.No, x.Team, y123, x.At, x.Auto⟩) ty9 rfl (by omega) rfl rfl (map_get hx) rfl rfl (by simp [hcells]) rfl ?_)
              refine dn ?_
              refine blockQ_n ?_
              exact ⟨(out.set y68 ⟨x.No, x.Team, y123, x.At, x.Auto⟩, a3 + 3), ⟨by simp; omega, by dsimp only; omega⟩, trivial, (by repeat (first | exact keeps_refl | refine keeps_upd rfl ?_ | refine keeps_loop rfl rfl ?_)), by repeat (first | exact List.Perm.nil | refine permTo 0 rfl ?_ | refine permTo 1 rfl ?_ | refine permTo 2 rfl ?_ | refine permTo 3 rfl ?_ | (refine permToE 0 rfl ?hq ?_; (case hq => simp [setL, hcells]; done)) | (refine permToE 1 rfl ?hq ?_; (case hq => simp [setL, hcells]; done)) | (refine permToE 2 rfl ?hq ?_; (case hq => simp [setL, hcells]; done)) | (refine permToE 3 rfl ?hq ?_; (case hq => simp [setL, hcells]; done)) | fail)⟩
            · try simp at h12
              refine hw_draw1 (fun M => ∃ i : Nat, M[i]? = some (.arr (.slice (some ⟨ob, off, none⟩) (out.map ePick).length cap) 5 (out.map ePick))) [5, 10] mixed ?_
              refine ahp 0 rfl rfl (by kernel_rfl) (by kernel_rfl) (pop_move rfl) ?_
              refine ahp 1 rfl rfl (by kernel_rfl) (by kernel_rfl) (pop_move rfl) ?_
              refine ahp 2 rfl rfl (by kernel_rfl) (by kernel_rfl) (pop_move rfl) ?_
              refine ahp 3 rfl rfl (by kernel_rfl) (by kernel_rfl) ((by first | exact pop_nilCheck rfl | exact pop_nilCheck_raw rfl)) ?_
              refine ahp 4 rfl rfl (by kernel_rfl) (by kernel_rfl) ((by first | exact pop_fieldAddr ty55 rfl ty3 (by decide) rfl | exact pop_fieldAddr_raw ty55 rfl ty3 (by decide) rfl)) ?_
              refine ahl 5 rfl rfl (by kernel_rfl) (by kernel_rfl) (by simp) ⟨1, rfl⟩ (fun M hM => by obtain ⟨i, hi⟩ := hM; exact eop_load_el (i := i) (j := y68) 3 ty3 rfl (by omega) hi hx rfl rfl ⟨rfl, rfl⟩) ?_
              refine ahp 6 rfl rfl (by kernel_rfl) (by kernel_rfl) (pop_sub rfl rfl) ?_
              refine ahp 7 rfl rfl (by kernel_rfl) (by kernel_rfl) (pop_move rfl) ?_
              refine ahp 8 rfl rfl (by kernel_rfl) (by kernel_rfl) ((by first | exact pop_nilCheck rfl | exact pop_nilCheck_raw rfl)) ?_
              refine ahp 9 rfl rfl (by kernel_rfl) (by kernel_rfl) ((by first | exact pop_fieldAddr ty55 rfl ty3 (by decide) rfl | exact pop_fieldAddr_raw ty55 rfl ty3 (by decide) rfl)) ?_
              refine ahl 10 rfl rfl (by kernel_rfl) (by kernel_rfl) (by simp) ⟨1, rfl⟩ (fun M hM => by obtain ⟨i, hi⟩ := hM; exact eop_load_el (i := i) (j := y68) 3 ty3 rfl (by omega) hi hx rfl rfl ⟨rfl, rfl⟩) ?_
              refine ahp 11 rfl rfl (by kernel_rfl) (by kernel_rfl) (pop_buildSlice (hs := [_, _, _]) ty22 ty3 rfl rfl (by decide) (by decide) rfl) ?_
              refine ahe 12 rfl (by kernel_rfl) ?_
              first
              | refine hop_e rfl (eop_callx (i := 0) ca10 rfl (WeakL.refl _) rfl (c_benchmake_Stream_Pick (L := [_, _, _]) (by first | assumption | omega | (simp; omega) | simp_all) (by first | assumption | omega | (simp; omega) | simp_all) (by first | assumption | omega | (simp; omega) | simp_all)) ?_)
              | refine hop_e rfl (eop_callx (i := 1) ca10 rfl (WeakL.refl _) rfl (c_benchmake_Stream_Pick (L := [_, _, _]) (by first | assumption | omega | (simp; omega) | simp_all) (by first | assumption | omega | (simp; omega) | simp_all) (by first | assumption | omega | (simp; omega) | simp_all)) ?_)
              | refine hop_e rfl (eop_callx (i := 2) ca10 rfl (WeakL.refl _) rfl (c_benchmake_Stream_Pick (L := [_, _, _]) (by first | assumption | omega | (simp; omega) | simp_all) (by first | assumption | omega | (simp; omega) | simp_all) (by first | assumption | omega | (simp; omega) | simp_all)) ?_)
              | refine hop_e rfl (eop_callx (i := 3) ca10 rfl (WeakL.refl _) rfl (c_benchmake_Stream_Pick (L := [_, _, _]) (by first | assumption | omega | (simp; omega) | simp_all) (by first | assumption | omega | (simp; omega) | simp_all) (by first | assumption | omega | (simp; omega) | simp_all)) ?_)
              rintro _ _ ⟨y84, rfl, hy84, rfl⟩
              refine ⟨fun _ => by first | exact .inl ⟨0, rfl⟩ | exact .inl ⟨1, rfl⟩ | exact .inl ⟨2, rfl⟩ | exact .inr (by simp [Before, Region.binds]), ?_⟩
              refine ahp 13 rfl rfl (by kernel_rfl) (by kernel_rfl) ((by first | exact pop_nilCheck rfl | exact pop_nilCheck_raw rfl)) ?_
              refine ahp 14 rfl rfl (by kernel_rfl) (by kernel_rfl) ((by first | exact pop_fieldAddr ty55 rfl ty3 (by decide) rfl | exact pop_fieldAddr_raw ty55 rfl ty3 (by decide) rfl)) ?_
              refine ahe 15 rfl (by kernel_rfl) ?_
              refine hop_e0 (eop_store_arr (i := 1) (j := y68) (f := 3) (y := ePick x) (y' := ePick ⟨x.No, x.Team, x.Player, y84, x.Auto⟩) ty3 rfl (by omega) rfl rfl (map_get hx) rfl rfl (by simp [hcells]) rfl ?_)
              refine ⟨fun _ => .inr (by simp [Before, Region.binds]), ?_⟩
              refine ahz (by kernel_rfl) ?_
              refine blockQ_n ?_
              exact ⟨(out.set y68 ⟨x.No, x.Team, x.Player, y84, x.Auto⟩, a3 + 3), ⟨by simp; omega, by dsimp only; omega⟩, trivial, (by repeat (first | exact keeps_refl | refine keeps_upd rfl ?_ | refine keeps_loop rfl rfl ?_)), by repeat (first | exact List.Perm.nil | refine permTo 0 rfl ?_ | refine permTo 1 rfl ?_ | refine permTo 2 rfl ?_ | refine permTo 3 rfl ?_ | (refine permToE 0 rfl ?hq ?_; (case hq => simp [setL, hcells]; done)) | (refine permToE 1 rfl ?hq ?_; (case hq => simp [setL, hcells]; done)) | (refine permToE 2 rfl ?hq ?_; (case hq => simp [setL, hcells]; done)) | (refine permToE 3 rfl ?hq ?_; (case hq => simp [setL, hcells]; done)) | fail)⟩
        · try simp at h8
          refine hw_skip ?_
          exact ⟨(out, a3), ⟨by dsimp only; omega, by dsimp only; omega⟩, trivial, (by repeat (first | exact keeps_refl | refine keeps_upd rfl ?_ | refine keeps_loop rfl rfl ?_)), by repeat (first | exact List.Perm.nil | refine permTo 0 rfl ?_ | refine permTo 1 rfl ?_ | refine permTo 2 rfl ?_ | refine permTo 3 rfl ?_ | (refine permToE 0 rfl ?hq ?_; (case hq => simp [setL, hcells]; done)) | (refine permToE 1 rfl ?hq ?_; (case hq => simp [setL, hcells]; done)) | (refine permToE 2 rfl ?hq ?_; (case hq => simp [setL, hcells]; done)) | (refine permToE 3 rfl ?hq ?_; (case hq => simp [setL, hcells]; done)) | fail)⟩
      · intro q hq3
        obtain ⟨k1, a4⟩ := q
        dsimp only at hq3
        obtain ⟨q1, q3⟩ := hq3
        refine hw_reg ?_
        refine dp rfl (pop_move rfl) ?_
        refine dp rfl (pop_assign rfl) ?_
        refine dn ?_
        refine hw_ret ?_
        first
        | exact ⟨_, _, Ghost.sub (Sub.refl _), _, .slice 5 [], rfl, weak_nil 5, [], a, rfl, ⟨by simp⟩, by omega, rfl⟩
        | refine ret_g (Ghost.fa 8 (i := 1) rfl rfl) rfl ⟨k1, a4, rfl, ⟨by omega⟩, by omega, rfl⟩
end Go.Proofs.YtoomadfbldcioaaGreatDoor
end
section
namespace Go.Proofs.YtoomadfbldcioaaGreatDoor
open Go.HL
set_option maxRecDepth 100000
set_option linter.unusedVariables false
set_option linter.unusedSimpArgs false
set_option maxHeartbeats 4000000 in
/-- (*benchwarmer/benchmake.Stream).WishList -/
theorem c_benchmake_Stream_WishList {b : Nat} {l : List Int} {a : Nat} {r : Room} (ha : a ≤ 700000) (hr : GoodRoom r) : Con Tryz.prog 8 [pAt b, eRoom r] [St b l a] (fun x M' => ∃ k a', x = eWishes k ∧ GoodWishes k ∧ a' ≤ a + 250 ∧ M' = [St b l a']) := by
  have ht4 := hr.t4
  have hp20 := hr.p20
  have hp1 := hr.p1
  refine Con.of_body Tryz.func8 rfl Tryz.ntmps8 rfl rfl ?_
  refine hw_reg ?_
  refine dp rfl (pop_box rfl rfl) ?_
  refine dp rfl (pop_assign rfl) ?_
  refine dn ?_
  refine hw_reg ?_
  refine dp rfl (pop_assign rfl) ?_
  refine dn ?_
  refine hw_ghost (Ghost.arr_nil 2) ?_
  refine hw_seq ?_
  refine hw_reg ?_
  refine dp rfl ((by first | exact pop_fieldAddr ty28 rfl ty26 (by decide) rfl | exact pop_fieldAddr_raw ty28 rfl ty26 (by decide) rfl)) ?_
  refine dp rfl (pop_load ty26 rfl rfl rfl) ?_
  refine dp rfl (pop_lenm ty26 rfl) ?_
  refine dp rfl (pop_move rfl) ?_
  refine dn ?_
  refine hw_block ?_
  refine hw_loopw2 [5, 7, 8, 10, 15, 16, 17, 18, 19, 20, 21, 22, 23, 24, 25, 26, 27, 28, 29, 30, 31, 32, 33, 34, 35, 36, 37, 38, 39, 40, 41, 42, 43, 44, 45, 46, 47, 48, 49, 50, 51] (fun (k : Nat) (q : GL Wish) => [(15, .int .i64 k), (5, .raw q.u)]) (fun (k : Nat) (q : GL Wish) => [St b l q.a, .arr q.u 2 (q.out.map eWish)]) (fun (k : Nat) (q : GL Wish) => k ≤ r.Teams.length ∧ (GLok GoodW k (a + 50 * k) q)) (fun (k : Nat) (q : GL Wish) => r.Teams.length - k) (0) (⟨.slice none 0 0, [], a⟩) ?_ ?_ ?_ ?_
  · exact ⟨Nat.zero_le _, ⟨by simp, by simp, by dsimp only; omega⟩⟩
  · exact ⟨rfl, rfl, trivial⟩
  · repeat (first | exact List.Perm.nil | refine permTo 0 rfl ?_ | refine permTo 1 rfl ?_ | refine permTo 2 rfl ?_ | refine permTo 3 rfl ?_ | (refine permToE 0 rfl ?hq ?_; (case hq => simp [setL, hcells]; done)) | (refine permToE 1 rfl ?hq ?_; (case hq => simp [setL, hcells]; done)) | (refine permToE 2 rfl ?hq ?_; (case hq => simp [setL, hcells]; done)) | (refine permToE 3 rfl ?hq ?_; (case hq => simp [setL, hcells]; done)) | fail)
  · intro k q hinv
    obtain ⟨hk, hq⟩ := hinv
    obtain ⟨u, out, a2⟩ := q
    obtain ⟨g1, g2, g3⟩ := id hq
    dsimp only at g1 g2 g3
    refine hw_reg ?_
    refine dp rfl (pop_lss rfl rfl) ?_
    refine dn ?_
    refine hw_seq ?_
    refine hw_cond rfl (fun h1 => ?_) (fun h2 => ?_)
    · try simp at h1
      obtain ⟨x, hx⟩ : ∃ x, r.Teams[k]? = some x := ⟨_, List.getElem?_eq_getElem h1⟩
      have hdx := drop_cons hx
      refine hw_skip ?_
      refine seqQ_n ?_
      refine hw_seq ?_
      refine hw_block ?_
      refine hw_reg ?_
      refine dp rfl (pop_idx ty26 ty9 rfl rfl rfl (by first | assumption | simp_all)) ?_
      refine dp rfl (pop_load ty9 rfl rfl rfl) ?_
      refine dp rfl (pop_assign rfl) ?_
      refine dn ?_
      refine hw_seq ?_
      refine hw_reg ?_
      refine dp rfl (pop_move rfl) ?_
      first
      | refine de rfl (eop_callx (i := 0) ca11 rfl (WeakL.refl _) rfl (c_benchmake_Stream_Flip (by first | assumption | omega | (simp; omega) | simp_all) (by first | assumption | omega | (simp; omega) | simp_all)) ?_)
      | refine de rfl (eop_callx (i := 1) ca11 rfl (WeakL.refl _) rfl (c_benchmake_Stream_Flip (by first | assumption | omega | (simp; omega) | simp_all) (by first | assumption | omega | (simp; omega) | simp_all)) ?_)
      | refine de rfl (eop_callx (i := 2) ca11 rfl (WeakL.refl _) rfl (c_benchmake_Stream_Flip (by first | assumption | omega | (simp; omega) | simp_all) (by first | assumption | omega | (simp; omega) | simp_all)) ?_)
      | refine de rfl (eop_callx (i := 3) ca11 rfl (WeakL.refl _) rfl (c_benchmake_Stream_Flip (by first | assumption | omega | (simp; omega) | simp_all) (by first | assumption | omega | (simp; omega) | simp_all)) ?_)
      rintro _ _ ⟨y20, rfl, rfl⟩
      refine dn ?_
      refine hw_cond rfl (fun h3 => ?_) (fun h4 => ?_)
      · try simp at h3
        refine hw_exit ?_
        refine seqQ_x ?_
        refine blockQ_eq ?_
        refine seqQ_n ?_
        refine hw_reg1 ?_
        refine dp rfl (pop_add64 rfl rfl (by omega) (by omega)) ?_
        refine dp rfl (pop_move rfl) ?_
        refine dn ?_
        exact ⟨k + 1, ⟨u, out, a2 + 1⟩, ⟨by omega, hq.same (by omega)⟩, by dsimp only; omega, ⟨rfl, rfl, trivial⟩, (by repeat (first | exact keeps_refl | refine keeps_upd rfl ?_ | refine keeps_loop rfl rfl ?_)), by repeat (first | exact List.Perm.nil | refine permTo 0 rfl ?_ | refine permTo 1 rfl ?_ | refine permTo 2 rfl ?_ | refine permTo 3 rfl ?_ | (refine permToE 0 rfl ?hq ?_; (case hq => simp [setL, hcells]; done)) | (refine permToE 1 rfl ?hq ?_; (case hq => simp [setL, hcells]; done)) | (refine permToE 2 rfl ?hq ?_; (case hq => simp [setL, hcells]; done)) | (refine permToE 3 rfl ?hq ?_; (case hq => simp [setL, hcells]; done)) | fail)⟩
      · try simp at h4
        refine hw_skip ?_
        refine seqQ_n ?_
        refine hw_reg ?_
        refine dp rfl (pop_move rfl) ?_
        refine dp rfl (pop_build (cs := [_, _]) ty78 pl78 rfl) ?_
        refine de rfl (eop_alloc ty78 rfl fun b8 => ?_)
        first
        | refine de0 (eop_store (i := 0) ty78 rfl rfl rfl rfl rfl (Nat.le_of_ble_eq_true rfl) ?_)
        | refine de0 (eop_store (i := 1) ty78 rfl rfl rfl rfl rfl (Nat.le_of_ble_eq_true rfl) ?_)
        | refine de0 (eop_store (i := 2) ty78 rfl rfl rfl rfl rfl (Nat.le_of_ble_eq_true rfl) ?_)
        | refine de0 (eop_store (i := 3) ty78 rfl rfl rfl rfl rfl (Nat.le_of_ble_eq_true rfl) ?_)
        refine dn ?_
        refine hw_ghost (Ghost.arr_nil 1) ?_
        refine hw_seq ?_
        refine hw_reg ?_
        refine dp rfl (pop_move rfl) ?_
        refine dp rfl ((by first | exact pop_fieldAddr ty28 rfl ty26 (by decide) rfl | exact pop_fieldAddr_raw ty28 rfl ty26 (by decide) rfl)) ?_
        refine dp rfl (pop_load ty26 rfl rfl rfl) ?_
        refine dp rfl (pop_lenm ty26 rfl) ?_
        refine de rfl (eop_callx (i := 2) ca48 rfl (WeakL.refl _) rfl (c_benchmake_Stream_Order (a := a2 + 1) (n := r.Players.length) (by omega) (by omega) (by omega)) ?_)
        rintro _ _ ⟨L27, a27, rfl, hL27, ha27, rfl⟩
        refine dp rfl (pop_lenm ty22 rfl) ?_
        refine dp rfl (pop_move rfl) ?_
        refine dn ?_
        obtain ⟨hLn, hLb⟩ := hL27
        refine hw_block ?_
        refine hw_loopw2 [10, 29, 30, 31, 32, 33, 34, 35, 36, 37, 38, 39, 40, 41, 42, 43, 44, 45, 46] (fun (j : Nat) (p : GL Str) => [(29, .int .i64 j)]) (fun (j : Nat) (p : GL Str) => [St b l p.a, .arr u 2 (out.map eWish), .cells b8 [.str x, .raw p.u], .arr p.u 1 (p.out.map .str)]) (fun (j : Nat) (p : GL Str) => j ≤ L27.length ∧ (p.out.length ≤ j ∧ p.a ≤ a27 + j)) (fun (j : Nat) (p : GL Str) => L27.length - j) (0) (⟨.slice none 0 0, [], a27⟩) ?_ ?_ ?_ ?_
        · exact ⟨Nat.zero_le _, by simp, by dsimp only; omega⟩
        · exact ⟨rfl, trivial⟩
        · repeat (first | exact List.Perm.nil | refine permTo 0 rfl ?_ | refine permTo 1 rfl ?_ | refine permTo 2 rfl ?_ | refine permTo 3 rfl ?_ | (refine permToE 0 rfl ?hq ?_; (case hq => simp [setL, hcells]; done)) | (refine permToE 1 rfl ?hq ?_; (case hq => simp [setL, hcells]; done)) | (refine permToE 2 rfl ?hq ?_; (case hq => simp [setL, hcells]; done)) | (refine permToE 3 rfl ?hq ?_; (case hq => simp [setL, hcells]; done)) | fail)
        · intro j p hinv
          obtain ⟨hj, hp⟩ := hinv
          obtain ⟨v, ps, a5⟩ := p
          dsimp only at hp
          obtain ⟨hp2, hp3⟩ := hp
          refine hw_reg ?_
          refine dp rfl (pop_lss rfl rfl) ?_
          refine dn ?_
          refine hw_seq ?_
          refine hw_cond rfl (fun h5 => ?_) (fun h6 => ?_)
          · try simp at h5
            obtain ⟨y, hy⟩ : ∃ y, L27[j]? = some y := ⟨_, List.getElem?_eq_getElem h5⟩
            have hdy := drop_cons hy
            refine hw_skip ?_
            refine seqQ_n ?_
            refine hw_seq ?_
            refine hw_block ?_
            refine hw_reg ?_
            refine dp rfl (pop_idx ty22 ty3 rfl rfl rfl (by first | assumption | simp_all)) ?_
            refine dp rfl (pop_load ty3 rfl rfl rfl) ?_
            refine dp rfl (pop_assign rfl) ?_
            refine dn ?_
            refine hw_reg ?_
            refine dp rfl (pop_move rfl) ?_
            first
            | refine de rfl (eop_callx (i := 0) ca11 rfl (WeakL.refl _) rfl (c_benchmake_Stream_Flip (by first | assumption | omega | (simp; omega) | simp_all) (by first | assumption | omega | (simp; omega) | simp_all)) ?_)
            | refine de rfl (eop_callx (i := 1) ca11 rfl (WeakL.refl _) rfl (c_benchmake_Stream_Flip (by first | assumption | omega | (simp; omega) | simp_all) (by first | assumption | omega | (simp; omega) | simp_all)) ?_)
            | refine de rfl (eop_callx (i := 2) ca11 rfl (WeakL.refl _) rfl (c_benchmake_Stream_Flip (by first | assumption | omega | (simp; omega) | simp_all) (by first | assumption | omega | (simp; omega) | simp_all)) ?_)
            | refine de rfl (eop_callx (i := 3) ca11 rfl (WeakL.refl _) rfl (c_benchmake_Stream_Flip (by first | assumption | omega | (simp; omega) | simp_all) (by first | assumption | omega | (simp; omega) | simp_all)) ?_)
            rintro _ _ ⟨y34, rfl, rfl⟩
            refine dp rfl (pop_not rfl) ?_
            refine dn ?_
            refine hw_cond rfl (fun h7 => ?_) (fun h8 => ?_)
            · try simp at h7
              refine hw_draw1 (fun _ => True) [] mixed ?_
              refine ahp 0 rfl rfl (by kernel_rfl) (by kernel_rfl) (pop_fieldAddr_raw ty78 rfl ty26 (by decide) rfl) ?_
              refine ahp 2 rfl rfl (by kernel_rfl) (by kernel_rfl) ((by first | exact pop_fieldAddr ty28 rfl ty26 (by decide) rfl | exact pop_fieldAddr_raw ty28 rfl ty26 (by decide) rfl)) ?_
              refine ahp 3 rfl rfl (by kernel_rfl) (by kernel_rfl) (pop_load ty26 rfl rfl rfl) ?_
              refine ahp 4 rfl rfl (by kernel_rfl) (by kernel_rfl) (pop_move rfl) ?_
              refine ahp 5 rfl rfl (by kernel_rfl) (by kernel_rfl) (pop_idx (j := y.toNat) (a := r.Players.getD y.toNat []) ty26 ty9 rfl rfl (by have := hLb y (List.mem_of_getElem? hy); omega) (getD_some (by have := hLb y (List.mem_of_getElem? hy); omega))) ?_
              refine ahp 6 rfl rfl (by kernel_rfl) (by kernel_rfl) (pop_load ty9 rfl rfl rfl) ?_
              refine ahp 7 rfl rfl (by kernel_rfl) (by kernel_rfl) (pop_buildSlice (hs := [_]) ty26 ty9 rfl rfl (by decide) (by decide) rfl) ?_
              refine ahe 1 rfl (by kernel_rfl) ?_
              first
              | refine hop_e rfl (eop_load (i := 0) ty26 rfl rfl (.inl ⟨rfl, rfl⟩) ?_)
              | refine hop_e rfl (eop_load (i := 1) ty26 rfl rfl (.inl ⟨rfl, rfl⟩) ?_)
              | refine hop_e rfl (eop_load (i := 2) ty26 rfl rfl (.inl ⟨rfl, rfl⟩) ?_)
              | refine hop_e rfl (eop_load (i := 3) ty26 rfl rfl (.inl ⟨rfl, rfl⟩) ?_)
              refine ⟨fun _ => .inl trivial, ?_⟩
              refine ahe 8 rfl (by kernel_rfl) ?_
              first
              | refine hop_e rfl (eop_append (i := 0) ty26 ty9 rfl rfl rfl rfl rfl (by simp [flat, hcells]) (by first | omega | (simp; omega)) fun v44 => ?_)
              | refine hop_e rfl (eop_append (i := 1) ty26 ty9 rfl rfl rfl rfl rfl (by simp [flat, hcells]) (by first | omega | (simp; omega)) fun v44 => ?_)
              | refine hop_e rfl (eop_append (i := 2) ty26 ty9 rfl rfl rfl rfl rfl (by simp [flat, hcells]) (by first | omega | (simp; omega)) fun v44 => ?_)
              | refine hop_e rfl (eop_append (i := 3) ty26 ty9 rfl rfl rfl rfl rfl (by simp [flat, hcells]) (by first | omega | (simp; omega)) fun v44 => ?_)
              refine ⟨fun _ => .inl trivial, ?_⟩
              refine ahp 9 rfl rfl (by kernel_rfl) (by kernel_rfl) (pop_fieldAddr_raw ty78 rfl ty26 (by decide) rfl) ?_
              refine ahe 10 rfl (by kernel_rfl) ?_
              first
              | refine hop_e0 (eop_store (i := 0) ty26 rfl rfl rfl rfl rfl (Nat.le_of_ble_eq_true rfl) ?_)
              | refine hop_e0 (eop_store (i := 1) ty26 rfl rfl rfl rfl rfl (Nat.le_of_ble_eq_true rfl) ?_)
              | refine hop_e0 (eop_store (i := 2) ty26 rfl rfl rfl rfl rfl (Nat.le_of_ble_eq_true rfl) ?_)
              | refine hop_e0 (eop_store (i := 3) ty26 rfl rfl rfl rfl rfl (Nat.le_of_ble_eq_true rfl) ?_)
              refine ⟨fun _ => .inl trivial, ?_⟩
              refine ahz (by kernel_rfl) ?_
              refine blockQ_n ?_
              refine seqQ_n ?_
              refine hw_reg1 ?_
              refine dp rfl (pop_add64 rfl rfl (by omega) (by omega)) ?_
              refine dp rfl (pop_move rfl) ?_
              refine dn ?_
              exact ⟨j + 1, ⟨v44, ps ++ [r.Players.getD y.toNat []], a5 + 1⟩, ⟨by omega, by simp; omega, by dsimp only; omega⟩, by dsimp only; omega, ⟨rfl, trivial⟩, (by repeat (first | exact keeps_refl | refine keeps_upd rfl ?_ | refine keeps_loop rfl rfl ?_)), by repeat (first | exact List.Perm.nil | refine permTo 0 rfl ?_ | refine permTo 1 rfl ?_ | refine permTo 2 rfl ?_ | refine permTo 3 rfl ?_ | (refine permToE 0 rfl ?hq ?_; (case hq => simp [setL, hcells]; done)) | (refine permToE 1 rfl ?hq ?_; (case hq => simp [setL, hcells]; done)) | (refine permToE 2 rfl ?hq ?_; (case hq => simp [setL, hcells]; done)) | (refine permToE 3 rfl ?hq ?_; (case hq => simp [setL, hcells]; done)) | fail)⟩
            · try simp at h8
              refine hw_skip ?_
              refine blockQ_n ?_
              refine seqQ_n ?_
              refine hw_reg1 ?_
              refine dp rfl (pop_add64 rfl rfl (by omega) (by omega)) ?_
              refine dp rfl (pop_move rfl) ?_
              refine dn ?_
              exact ⟨j + 1, ⟨v, ps, a5 + 1⟩, ⟨by omega, by dsimp only; omega, by dsimp only; omega⟩, by dsimp only; omega, ⟨rfl, trivial⟩, (by repeat (first | exact keeps_refl | refine keeps_upd rfl ?_ | refine keeps_loop rfl rfl ?_)), by repeat (first | exact List.Perm.nil | refine permTo 0 rfl ?_ | refine permTo 1 rfl ?_ | refine permTo 2 rfl ?_ | refine permTo 3 rfl ?_ | (refine permToE 0 rfl ?hq ?_; (case hq => simp [setL, hcells]; done)) | (refine permToE 1 rfl ?hq ?_; (case hq => simp [setL, hcells]; done)) | (refine permToE 2 rfl ?hq ?_; (case hq => simp [setL, hcells]; done)) | (refine permToE 3 rfl ?hq ?_; (case hq => simp [setL, hcells]; done)) | fail)⟩
          · try simp at h6
            have hnj : L27.length ≤ j := by omega
            obtain rfl : j = L27.length := by omega
            refine hw_exit ?_
            refine seqQ_x ?_
            refine loopQ2_x ?_
            refine blockQ_eq ?_
            refine seqQ_n ?_
            refine hw_ghost (Ghost.fcell (i := 3) (k := 2) (j := 1) rfl rfl rfl) ?_
            refine hw_ghost (Ghost.of_eq (M' := [St b l a5, .arr u 2 (out.map eWish), .cells b8 (hcells (eWish ⟨x, ps⟩))]) rfl) ?_
            refine hw_ghost (Ghost.fc 8 (i := 2) rfl rfl) ?_
            refine hw_reg1 ?_
            refine dp rfl (pop_move rfl) ?_
            refine dp rfl (pop_loadw ty78 rfl rfl rfl rfl) ?_
            refine dp rfl (pop_buildSlice (hs := [_]) ty34 ty78 rfl rfl (by decide) (by decide) rfl) ?_
            refine de rfl (eop_append (i := 1) ty34 ty78 rfl rfl rfl rfl rfl (by simp [flat, hcells]) (by simp; omega) fun v50 => ?_)
            refine dp rfl (pop_assign rfl) ?_
            refine dn ?_
            refine blockQ_n ?_
            refine seqQ_n ?_
            refine hw_reg1 ?_
            refine dp rfl (pop_add64 rfl rfl (by omega) (by omega)) ?_
            refine dp rfl (pop_move rfl) ?_
            refine dn ?_
            exact ⟨k + 1, ⟨v50, out ++ [⟨x, ps⟩], a5⟩, ⟨by omega, hq.add (x := (⟨x, ps⟩ : Wish)) (by dsimp only [GoodW]; omega) (by omega)⟩, by dsimp only; omega, ⟨rfl, rfl, trivial⟩, (by repeat (first | exact keeps_refl | refine keeps_upd rfl ?_ | refine keeps_loop rfl rfl ?_)), by repeat (first | exact List.Perm.nil | refine permTo 0 rfl ?_ | refine permTo 1 rfl ?_ | refine permTo 2 rfl ?_ | refine permTo 3 rfl ?_ | (refine permToE 0 rfl ?hq ?_; (case hq => simp [setL, hcells]; done)) | (refine permToE 1 rfl ?hq ?_; (case hq => simp [setL, hcells]; done)) | (refine permToE 2 rfl ?hq ?_; (case hq => simp [setL, hcells]; done)) | (refine permToE 3 rfl ?hq ?_; (case hq => simp [setL, hcells]; done)) | fail)⟩
    · try simp at h2
      have hnk : r.Teams.length ≤ k := by omega
      obtain rfl : k = r.Teams.length := by omega
      refine hw_exit ?_
      refine seqQ_x ?_
      refine loopQ2_x ?_
      refine blockQ_eq ?_
      refine seqQ_n ?_
      refine hw_join [11, 52, 53, 54, 55, 56, 57, 58, 59, 60, 61, 62, 63, 64, 65, 66, 67, 68, 69, 70, 71, 72, 73, 74, 75, 76, 77, 78, 79, 80, 81, 82, 83, 84, 85, 86, 87, 88, 89, 90, 91] (fun (q : List Wish × Nat) => []) (fun (q : List Wish × Nat) => [St b l q.2, .arr u 2 (q.1.map eWish)]) (fun (q : List Wish × Nat) => q.1.length ≤ 4 ∧ (∀ x ∈ q.1, x.Players.length ≤ 100) ∧ q.2 ≤ a + 250) ?_ ?_
      · skip
        refine hw_reg ?_
        refine dp rfl (pop_move rfl) ?_
        first
        | refine de rfl (eop_lenm (i := 0) ty34 rfl rfl ?_)
        | refine de rfl (eop_lenm (i := 1) ty34 rfl rfl ?_)
        | refine de rfl (eop_lenm (i := 2) ty34 rfl rfl ?_)
        | refine de rfl (eop_lenm (i := 3) ty34 rfl rfl ?_)
        refine dp rfl (pop_gtr rfl rfl) ?_
        refine dp rfl (pop_move rfl) ?_
        refine dg rfl rfl (fun hc => ⟨_, OpenTo.refl _, pop_move rfl⟩) ?_
        refine dgx (fun x M' => ∃ (y : Bool) (a3 : Nat), x = .bool y ∧ a3 ≤ a2 + 1 ∧ M' = [St b l a3, .arr u 2 (out.map eWish)]) rfl rfl (fun hc => ⟨_, false, a2, rfl, by omega, rfl⟩) (fun hc => ⟨_, OpenTo.upd (t := 56) rfl (by first | exact hc | simp_all) (OpenTo.refl _), eop_callx (i := 0) ca11 rfl (WeakL.refl _) rfl (c_benchmake_Stream_Flip (a := a2) (by omega) (by omega)) (fun h M' hh => by
          obtain ⟨y, h1, h2⟩ := hh
          exact ⟨y, a2 + 1, h1, by omega, by rw [h2]; rfl⟩)⟩) ?_
        rintro _ _ ⟨y, a3, rfl, ha3, rfl⟩
        refine dp rfl (pop_picko rfl (.inr ⟨_, rfl, fun h => by simp_all⟩) (.inl rfl)) ?_
        refine dn ?_
        refine hw_cond rfl (fun h9 => ?_) (fun h10 => ?_)
        · try simp at h9
          have ho0 : 0 < out.length := by simp_all
          refine hw_arrc (i := 1) rfl (fun h0 he => ?_) (fun ob off cap hv hcap => ?_)
          · exfalso; have := congrArg List.length he; simp at this; subst this; simp at ho0
          subst hv
          refine hw_reg ?_
          refine dp rfl (pop_move rfl) ?_
          refine dp rfl (pop_move rfl) ?_
          refine dp rfl (pop_move rfl) ?_
          first
          | refine de rfl (eop_lenm (i := 0) ty34 rfl rfl ?_)
          | refine de rfl (eop_lenm (i := 1) ty34 rfl rfl ?_)
          | refine de rfl (eop_lenm (i := 2) ty34 rfl rfl ?_)
          | refine de rfl (eop_lenm (i := 3) ty34 rfl rfl ?_)
          first
          | refine de rfl (eop_callx (i := 0) ca41 rfl (WeakL.refl _) rfl (c_benchmake_Stream_Next (by first | assumption | omega | (simp; omega) | simp_all) (by first | assumption | omega | (simp; omega) | simp_all)) ?_)
          | refine de rfl (eop_callx (i := 1) ca41 rfl (WeakL.refl _) rfl (c_benchmake_Stream_Next (by first | assumption | omega | (simp; omega) | simp_all) (by first | assumption | omega | (simp; omega) | simp_all)) ?_)
          | refine de rfl (eop_callx (i := 2) ca41 rfl (WeakL.refl _) rfl (c_benchmake_Stream_Next (by first | assumption | omega | (simp; omega) | simp_all) (by first | assumption | omega | (simp; omega) | simp_all)) ?_)
          | refine de rfl (eop_callx (i := 3) ca41 rfl (WeakL.refl _) rfl (c_benchmake_Stream_Next (by first | assumption | omega | (simp; omega) | simp_all) (by first | assumption | omega | (simp; omega) | simp_all)) ?_)
          rintro _ _ ⟨y63, rfl, hy63, rfl⟩
          refine dp rfl (pop_idxraw (j := y63) ty34 ty78 rfl rfl rfl (by simp; omega)) ?_
          refine dp rfl (pop_assign rfl) ?_
          refine dn ?_
          obtain ⟨x, hx⟩ : ∃ x, out[y63]? = some x := ⟨_, List.getElem?_eq_getElem (by omega)⟩
          obtain ⟨x0, hx0⟩ : ∃ x, out[0]? = some x := ⟨_, List.getElem?_eq_getElem (by omega)⟩
          have hgx := g2 x (List.mem_of_getElem? hx)
          dsimp only [GoodW] at hgx
          refine hw_draw1 (fun M => ∃ i : Nat, M[i]? = some (.arr (.slice (some ⟨ob, off, none⟩) (out.map eWish).length cap) 2 (out.map eWish))) [6, 10, 16] mixed ?_
          refine ahp 0 rfl rfl (by kernel_rfl) (by kernel_rfl) (pop_move rfl) ?_
          refine ahp 1 rfl rfl (by kernel_rfl) (by kernel_rfl) (pop_move rfl) ?_
          refine ahp 2 rfl rfl (by kernel_rfl) (by kernel_rfl) (pop_move rfl) ?_
          refine ahp 3 rfl rfl (by kernel_rfl) (by kernel_rfl) (pop_move rfl) ?_
          refine ahp 4 rfl rfl (by kernel_rfl) (by kernel_rfl) ((by first | exact pop_nilCheck rfl | exact pop_nilCheck_raw rfl)) ?_
          refine ahp 5 rfl rfl (by kernel_rfl) (by kernel_rfl) ((by first | exact pop_fieldAddr ty78 rfl ty9 (by decide) rfl | exact pop_fieldAddr_raw ty78 rfl ty9 (by decide) rfl)) ?_
          refine ahl 6 rfl rfl (by kernel_rfl) (by kernel_rfl) (by simp) ⟨1, rfl⟩ (fun M hM => by obtain ⟨i, hi⟩ := hM; exact eop_load_el (i := i) (j := y63) 0 ty9 rfl (by omega) hi hx rfl rfl ⟨rfl, rfl⟩) ?_
          refine ahp 7 rfl rfl (by kernel_rfl) (by kernel_rfl) (pop_move rfl) ?_
          refine ahp 8 rfl rfl (by kernel_rfl) (by kernel_rfl) (pop_idxraw (j := 0) ty34 ty78 rfl rfl rfl (by simp; omega)) ?_
          refine ahp 9 rfl rfl (by kernel_rfl) (by kernel_rfl) ((by first | exact pop_fieldAddr ty78 rfl ty9 (by decide) rfl | exact pop_fieldAddr_raw ty78 rfl ty9 (by decide) rfl)) ?_
          refine ahl 10 rfl rfl (by kernel_rfl) (by kernel_rfl) (by simp) ⟨1, rfl⟩ (fun M hM => by obtain ⟨i, hi⟩ := hM; exact eop_load_el (i := i) (j := 0) 0 ty9 rfl (by omega) hi hx0 rfl rfl ⟨rfl, rfl⟩) ?_
          refine ahp 11 rfl rfl (by kernel_rfl) (by kernel_rfl) (pop_buildSlice (hs := [_, _, _]) ty26 ty9 rfl rfl (by decide) (by decide) rfl) ?_
          refine ahp 13 rfl rfl (by kernel_rfl) (by kernel_rfl) (pop_move rfl) ?_
          refine ahp 14 rfl rfl (by kernel_rfl) (by kernel_rfl) ((by first | exact pop_nilCheck rfl | exact pop_nilCheck_raw rfl)) ?_
          refine ahp 15 rfl rfl (by kernel_rfl) (by kernel_rfl) ((by first | exact pop_fieldAddr ty78 rfl ty26 (by decide) rfl | exact pop_fieldAddr_raw ty78 rfl ty26 (by decide) rfl)) ?_
          refine ahl 16 rfl rfl (by kernel_rfl) (by kernel_rfl) (by simp) ⟨1, rfl⟩ (fun M hM => by obtain ⟨i, hi⟩ := hM; exact eop_load_el (i := i) (j := y63) 1 ty26 rfl (by omega) hi hx rfl rfl ⟨rfl, rfl⟩) ?_
          refine ahp 18 rfl rfl (by kernel_rfl) (by kernel_rfl) (pop_move rfl) ?_
          refine ahp 19 rfl rfl (by kernel_rfl) (by kernel_rfl) (pop_buildSlice (hs := [_, _]) ty26 ty9 rfl rfl (by decide) (by decide) rfl) ?_
          refine ahe 12 rfl (by kernel_rfl) ?_
          first
          | refine hop_e rfl (eop_callx (i := 0) ca43 rfl (WeakL.refl _) rfl (c_benchmake_Stream_Some (L := [_, _, _]) (by first | assumption | omega | (simp; omega) | simp_all) (by first | assumption | omega | (simp; omega) | simp_all) (by first | assumption | omega | (simp; omega) | simp_all)) ?_)
          | refine hop_e rfl (eop_callx (i := 1) ca43 rfl (WeakL.refl _) rfl (c_benchmake_Stream_Some (L := [_, _, _]) (by first | assumption | omega | (simp; omega) | simp_all) (by first | assumption | omega | (simp; omega) | simp_all) (by first | assumption | omega | (simp; omega) | simp_all)) ?_)
          | refine hop_e rfl (eop_callx (i := 2) ca43 rfl (WeakL.refl _) rfl (c_benchmake_Stream_Some (L := [_, _, _]) (by first | assumption | omega | (simp; omega) | simp_all) (by first | assumption | omega | (simp; omega) | simp_all) (by first | assumption | omega | (simp; omega) | simp_all)) ?_)
          | refine hop_e rfl (eop_callx (i := 3) ca43 rfl (WeakL.refl _) rfl (c_benchmake_Stream_Some (L := [_, _, _]) (by first | assumption | omega | (simp; omega) | simp_all) (by first | assumption | omega | (simp; omega) | simp_all) (by first | assumption | omega | (simp; omega) | simp_all)) ?_)
          rintro _ _ ⟨y77, rfl, hy77, rfl⟩
          refine ⟨fun _ => by first | exact .inl ⟨0, rfl⟩ | exact .inl ⟨1, rfl⟩ | exact .inl ⟨2, rfl⟩ | exact .inr (by simp [Before, Region.binds]), ?_⟩
          refine ahe 17 rfl (by kernel_rfl) ?_
          refine hop_e rfl (eop_calla ca42 rfl (WeakL.refl _) (c_slices_Clone_string_string (by first | assumption | omega | (simp; omega) | simp_all)) fun v82 => ?_)
          refine ⟨fun _ => by first | exact .inl ⟨0, rfl⟩ | exact .inl ⟨1, rfl⟩ | exact .inl ⟨2, rfl⟩ | exact .inr (by simp [Before, Region.binds]), ?_⟩
          refine ahe 20 rfl (by kernel_rfl) ?_
          first
          | refine hop_e rfl (eop_callx (i := 0) ca43 rfl (WeakL.refl _) rfl (c_benchmake_Stream_Some (L := [_, _]) (by first | assumption | omega | (simp; omega) | simp_all) (by first | assumption | omega | (simp; omega) | simp_all) (by first | assumption | omega | (simp; omega) | simp_all)) ?_)
          | refine hop_e rfl (eop_callx (i := 1) ca43 rfl (WeakL.refl _) rfl (c_benchmake_Stream_Some (L := [_, _]) (by first | assumption | omega | (simp; omega) | simp_all) (by first | assumption | omega | (simp; omega) | simp_all) (by first | assumption | omega | (simp; omega) | simp_all)) ?_)
          | refine hop_e rfl (eop_callx (i := 2) ca43 rfl (WeakL.refl _) rfl (c_benchmake_Stream_Some (L := [_, _]) (by first | assumption | omega | (simp; omega) | simp_all) (by first | assumption | omega | (simp; omega) | simp_all) (by first | assumption | omega | (simp; omega) | simp_all)) ?_)
          | refine hop_e rfl (eop_callx (i := 3) ca43 rfl (WeakL.refl _) rfl (c_benchmake_Stream_Some (L := [_, _]) (by first | assumption | omega | (simp; omega) | simp_all) (by first | assumption | omega | (simp; omega) | simp_all) (by first | assumption | omega | (simp; omega) | simp_all)) ?_)
          rintro _ _ ⟨y85, rfl, hy85, rfl⟩
          refine ⟨fun _ => by first | exact .inl ⟨0, rfl⟩ | exact .inl ⟨1, rfl⟩ | exact .inl ⟨2, rfl⟩ | exact .inr (by simp [Before, Region.binds]), ?_⟩
          refine ahp 21 rfl rfl (by kernel_rfl) (by kernel_rfl) (pop_buildSlice (hs := [_]) ty26 ty9 rfl rfl (by decide) (by decide) rfl) ?_
          refine ahe 22 rfl (by kernel_rfl) ?_
          refine hop_e rfl (EOp.fzi (N := [St b l (a3 + 1 + 1 + 1), .arr (.slice (some ⟨ob, off, none⟩) (out.map eWish).length cap) 2 (out.map eWish)]) (sz := 1) (es := (x.Players ++ [y85]).map .str) 1 (eop_append (i := 1) ty26 ty9 rfl rfl rfl rfl rfl (by simp [flat, hcells]) (by simp; omega) fun v => ⟨v, rfl, by simp, rfl⟩) ?_)
          refine ⟨fun _ => .inl ⟨1, rfl⟩, ?_⟩
          refine ahp 23 rfl rfl (by kernel_rfl) (by kernel_rfl) ((by first | exact pop_nilCheck rfl | exact pop_nilCheck_raw rfl)) ?_
          refine ahp 24 rfl rfl (by kernel_rfl) (by kernel_rfl) ((by first | exact pop_fieldAddr ty78 rfl ty9 (by decide) rfl | exact pop_fieldAddr_raw ty78 rfl ty9 (by decide) rfl)) ?_
          refine ahe 25 rfl (by kernel_rfl) ?_
          refine hop_e0 (eop_store_arr (i := 1) (j := y63) (f := 0) (y := eWish x) (y' := eWish ⟨y77, x.Players⟩) ty9 rfl (by omega) rfl rfl (map_get hx) rfl rfl (by simp [hcells]) rfl ?_)
          refine ⟨fun _ => .inr (by simp [Before, Region.binds]), ?_⟩
          refine ahp 26 rfl rfl (by kernel_rfl) (by kernel_rfl) ((by first | exact pop_nilCheck rfl | exact pop_nilCheck_raw rfl)) ?_
          refine ahp 27 rfl rfl (by kernel_rfl) (by kernel_rfl) ((by first | exact pop_fieldAddr ty78 rfl ty26 (by decide) rfl | exact pop_fieldAddr_raw ty78 rfl ty26 (by decide) rfl)) ?_
          refine ahe 28 rfl (by kernel_rfl) ?_
          refine hop_e0 (eop_store_arr (i := 1) (j := y63) (f := 1) (y := eWish ⟨y77, x.Players⟩) (y' := eWish ⟨y77, x.Players ++ [y85]⟩) ty26 rfl (by omega) rfl rfl (set_self (map_get hx)) rfl rfl (by simp [hcells]) rfl ?_)
          refine ⟨fun _ => .inr (by simp [Before, Region.binds]), ?_⟩
          refine ahz (by kernel_rfl) ?_
          exact ⟨(out.set y63 ⟨y77, x.Players ++ [y85]⟩, a3 + 3), ⟨by simp; omega, all_set (P := fun x : Wish => x.Players.length ≤ 100) (fun x hx => by have := g2 x hx; dsimp only [GoodW] at this; omega) (by simp; omega), by dsimp only; omega⟩, trivial, (by repeat (first | exact keeps_refl | refine keeps_upd rfl ?_ | refine keeps_loop rfl rfl ?_)), by repeat (first | exact List.Perm.nil | refine permTo 0 rfl ?_ | refine permTo 1 rfl ?_ | refine permTo 2 rfl ?_ | refine permTo 3 rfl ?_ | (refine permToE 0 rfl ?hq ?_; (case hq => simp [setL, hcells]; done)) | (refine permToE 1 rfl ?hq ?_; (case hq => simp [setL, hcells]; done)) | (refine permToE 2 rfl ?hq ?_; (case hq => simp [setL, hcells]; done)) | (refine permToE 3 rfl ?hq ?_; (case hq => simp [setL, hcells]; done)) | fail)⟩
        · try simp at h10
          refine hw_skip ?_
          exact ⟨(out, a3), ⟨by dsimp only; omega, fun x hx => by have := g2 x hx; dsimp only [GoodW] at this; omega, by dsimp only; omega⟩, trivial, (by repeat (first | exact keeps_refl | refine keeps_upd rfl ?_ | refine keeps_loop rfl rfl ?_)), by repeat (first | exact List.Perm.nil | refine permTo 0 rfl ?_ | refine permTo 1 rfl ?_ | refine permTo 2 rfl ?_ | refine permTo 3 rfl ?_ | (refine permToE 0 rfl ?hq ?_; (case hq => simp [setL, hcells]; done)) | (refine permToE 1 rfl ?hq ?_; (case hq => simp [setL, hcells]; done)) | (refine permToE 2 rfl ?hq ?_; (case hq => simp [setL, hcells]; done)) | (refine permToE 3 rfl ?hq ?_; (case hq => simp [setL, hcells]; done)) | fail)⟩
      · intro q hq3
        obtain ⟨k1, a4⟩ := q
        dsimp only at hq3
        obtain ⟨q1, q2, q3⟩ := hq3
        refine hw_reg ?_
        refine dp rfl (pop_move rfl) ?_
        refine dp rfl (pop_assign rfl) ?_
        refine dn ?_
        refine hw_ret ?_
        refine ret_g (Ghost.fa 4 (i := 1) rfl rfl) rfl ⟨k1, a4, rfl, ⟨by omega, q2⟩, by omega, rfl⟩
end Go.Proofs.YtoomadfbldcioaaGreatDoor
end
section
namespace Go.HL
section
variable {r : Room} {k : List Keep} {s : List Swap} {l : List Pick} {w : List Wish} {n : Int}
def auL (r : Room) (k : List Keep) (s : List Swap) (l : List Pick) (w : List Wish) (n : Int) : List Pick := if autoE r k s l w n != 0 then [] else autoL r k s w n l
def fiL (r : Room) (k : List Keep) (s : List Swap) (l : List Pick) (w : List Wish) : List Pick := if wishedE r k s l w != 0 then [] else finL r k s w l
def reL (r : Room) (k : List Keep) (s : List Swap) (l : List Pick) (w : List Wish) : List PairS := if wishedE r k s l w != 0 then [] else regL r k w l
theorem wishesE_z (e : checkRoom r = 0) : wishesR r w = wishesE r w := by simp [wishesE, e]
theorem wishesE_n (e : ¬ checkRoom r = 0) : checkRoom r = wishesE r w := by simp [wishesE, e]
theorem wishedE_or (r : Room) (k : List Keep) (s : List Swap) (l : List Pick) (w : List Wish) : orI [picksE r k s l, wishesE r w] = wishedE r k s l w := by
  unfold wishedE
  by_cases e : picksE r k s l = 0 <;> simp [orI, e]
  intro h; exact h.symm
theorem autoE_or (r : Room) (k : List Keep) (s : List Swap) (l : List Pick) (w : List Wish) (n : Int) : orI [wishedE r k s l w, if moment n then 0 else 1] = autoE r k s l w n := by
  unfold autoE
  by_cases e : wishedE r k s l w = 0 <;> by_cases e2 : moment n = true <;> simp [orI, e, e2]
theorem autoE_ok (e : autoE r k s l w n = 0) : wishedE r k s l w = 0 := by
  unfold autoE at e; split at e
  · rename_i hc; simp [e] at hc
  · rename_i hc; simpa using hc
theorem auL_z (e : autoE r k s l w n = 0) : autoL r k s w n l = auL r k s l w n := by simp [auL, e]
theorem auL_n (e : ¬ autoE r k s l w n = 0) : [] = auL r k s l w n := by simp [auL, e]
theorem fiL_z (e : wishedE r k s l w = 0) : finL r k s w l = fiL r k s l w := by simp [fiL, e]
theorem fiL_n (e : ¬ wishedE r k s l w = 0) : fiL r k s l w = [] := by simp [fiL, e]
theorem reL_z (e : wishedE r k s l w = 0) : regL r k w l = reL r k s l w := by simp [reL, e]
theorem reL_n (e : ¬ wishedE r k s l w = 0) : reL r k s l w = [] := by simp [reL, e]
theorem autoGo_len {fr : List Pick} : ∀ (m : Nat) (L : List Pick), (autoGo r k fr w n m L).length ≤ L.length + m
  | 0, L => by simp [autoGo]
  | m + 1, L => by
    simp only [autoGo]; split
    · have := autoGo_len (fr := fr) m (L ++ [autoP r k fr w L (lastAt r L + r.Clock)])
      simp at this; omega
    · omega
theorem finGo_len {fr : List Pick} : ∀ (m : Nat) (L : List Pick), (finGo r k fr w m L).length ≤ L.length + m
  | 0, L => by simp [finGo]
  | m + 1, L => by
    simp only [finGo]
    have := finGo_len (fr := fr) m (L ++ [autoP r k fr w L (lastAt r L)])
    simp at this; omega
theorem free600 (e : picksE r k s l = 0) : (freeP r k s).length ≤ 600 := by
  have h1 := (picksE_ok e).1
  have h5 := free_len h1; have h6 := turns_len (r := r) (s := s) (openFault_ok h1).1; omega
theorem auL_len (hl : l.length ≤ 1000) : (auL r k s l w n).length ≤ 1000000 := by
  by_cases e : autoE r k s l w n = 0
  · have h1 := free600 (wishedE_ok (autoE_ok e)).1
    rw [← auL_z e]
    unfold autoL
    have := autoGo_len (r := r) (k := k) (w := w) (n := n) (fr := freeP r k s) ((freeP r k s).length - l.length) l
    omega
  · rw [← auL_n e]; simp
theorem fiL_len (hl : l.length ≤ 1000) : (fiL r k s l w).length ≤ 1000000 := by
  by_cases e : wishedE r k s l w = 0
  · have h1 := free600 (wishedE_ok e).1
    rw [← fiL_z e]
    unfold finL
    have := finGo_len (r := r) (k := k) (w := w) (fr := freeP r k s) ((freeP r k s).length - l.length) l
    omega
  · rw [fiL_n e]; simp
theorem reL_len (ht : r.Teams.length ≤ 1000000) : (reL r k s l w).length ≤ 1000000 := by
  unfold reL; split
  · simp
  · simpa [regL] using ht
end
end Go.HL
end
section
namespace Go.Proofs.YtoomadfbldcioaaGreatDoor
open Go.HL
set_option maxRecDepth 100000
set_option linter.unusedVariables false
set_option linter.unusedSimpArgs false
/-- slices.Equal[[]benchwarmer/api.Pair,benchwarmer/api.Pair] -/
theorem c_slices_Equal_api_Pair_api_Pair {l m : List PairS} (hl : l.length ≤ 1000000) : ConP Tryz.prog 25 [ePairs l, ePairs m] (.bool (eqSts ePair l m)) := by
  refine Con.of_body Tryz.func25 rfl Tryz.ntmps25 rfl rfl ?_
  refine hw_reg ?_
  refine dp rfl (pop_assign rfl) ?_
  refine dn ?_
  refine hw_seq ?_
  refine hw_reg ?_
  refine dp rfl (pop_move rfl) ?_
  refine dp rfl (pop_lenm ty48 rfl) ?_
  refine dp rfl (pop_move rfl) ?_
  refine dp rfl (pop_lenm ty48 rfl) ?_
  refine dp rfl (pop_neq rfl rfl) ?_
  refine dn ?_
  refine hw_cond rfl (fun h1 => ?_) (fun h2 => ?_)
  · try simp at h1
    refine hw_reg ?_
    refine dp rfl (pop_assign rfl) ?_
    refine dn ?_
    refine hw_ret ?_
    refine ret_p rfl ?_
    show HVal.bool _ = _
    first | (congr 1; symm; exact eqSts_len (by omega)) | (rw [hg.2, eqSts, show eqSt ePair x y = false from h5]; rfl) | (rw [hg.2, drop_all (Nat.le_of_eq hg.1.symm)]; rfl)
  · try simp at h2
    refine hw_skip ?_
    refine seqQ_n ?_
    refine hw_seq ?_
    refine hw_reg ?_
    refine dp rfl (pop_move rfl) ?_
    refine dp rfl (pop_lenm ty48 rfl) ?_
    refine dp rfl (pop_move rfl) ?_
    refine dn ?_
    refine hw_block ?_
    refine hw_loopw [4, 5, 13, 14, 15, 16, 17, 18, 19, 20, 21, 22, 23, 24, 25] (fun (k : Nat) => [(13, .int .i64 k)]) (fun (k : Nat) => []) (fun (k : Nat) => k ≤ l.length ∧ (l.length = m.length ∧ eqSts ePair l m = eqSts ePair (l.drop k) (m.drop k))) (fun (k : Nat) => l.length - k) (0) ?_ ?_ ?_ ?_
    · refine ⟨Nat.zero_le _, ?_, rfl⟩
      omega
    · exact ⟨rfl, trivial⟩
    · exact List.Perm.refl _
    · intro k hinv
      obtain ⟨hk, hg⟩ := hinv
      refine hw_reg ?_
      refine dp rfl (pop_lss rfl rfl) ?_
      refine dn ?_
      refine hw_seq ?_
      refine hw_cond rfl (fun h3 => ?_) (fun h4 => ?_)
      · try simp at h3
        obtain ⟨x, hx⟩ : ∃ x, l[k]? = some x := ⟨_, List.getElem?_eq_getElem h3⟩
        have hdx := drop_cons hx
        obtain ⟨y, hy⟩ : ∃ y, m[k]? = some y := ⟨_, List.getElem?_eq_getElem (by omega)⟩
        rw [hdx, drop_cons hy] at hg
        refine hw_skip ?_
        refine seqQ_n ?_
        refine hw_seq ?_
        refine hw_block ?_
        refine hw_reg ?_
        refine dp rfl (pop_move rfl) ?_
        refine dp rfl (pop_assign rfl) ?_
        refine dn ?_
        refine hw_draw (fun _ => True) [] mixed ?_
        refine ahp 0 rfl rfl (by kernel_rfl) (by kernel_rfl) (pop_move rfl) ?_
        refine ahp 1 rfl rfl (by kernel_rfl) (by kernel_rfl) (pop_move rfl) ?_
        refine ahp 2 rfl rfl (by kernel_rfl) (by kernel_rfl) (pop_idx ty48 ty60 rfl rfl rfl (by first | assumption | simp_all)) ?_
        refine ahp 3 rfl rfl (by kernel_rfl) (by kernel_rfl) (pop_loadw ty60 rfl rfl rfl rfl) ?_
        refine ahp 4 rfl rfl (by kernel_rfl) (by kernel_rfl) (pop_move rfl) ?_
        refine ahp 5 rfl rfl (by kernel_rfl) (by kernel_rfl) (pop_move rfl) ?_
        refine ahp 6 rfl rfl (by kernel_rfl) (by kernel_rfl) (pop_idx ty48 ty60 rfl rfl rfl (by first | assumption | simp_all)) ?_
        refine ahp 7 rfl rfl (by kernel_rfl) (by kernel_rfl) (pop_loadw ty60 rfl rfl rfl rfl) ?_
        refine ahp 8 rfl rfl (by kernel_rfl) (by kernel_rfl) (pop_neqst ty60 eq60 rfl rfl ⟨rfl, ⟨_, _, _, _, ty9, rfl⟩, ⟨rfl, ⟨_, _, _, _, ty9, rfl⟩, trivial⟩⟩) ?_
        refine ahz (by kernel_rfl) ?_
        refine hw_cond rfl (fun h5 => ?_) (fun h6 => ?_)
        · try simp at h5
          refine hw_reg ?_
          refine dp rfl (pop_assign rfl) ?_
          refine dn ?_
          refine hw_ret ?_
          refine ret_p rfl ?_
          show HVal.bool _ = _
          first | (congr 1; symm; exact eqSts_len (by omega)) | (rw [hg.2, eqSts, show eqSt ePair x y = false from h5]; rfl) | (rw [hg.2, drop_all (Nat.le_of_eq hg.1.symm)]; rfl)
        · try simp at h6
          refine hw_skip ?_
          refine blockQ_n ?_
          refine seqQ_n ?_
          refine hw_reg1 ?_
          refine dp rfl (pop_add64 rfl rfl (by omega) (by omega)) ?_
          refine dp rfl (pop_move rfl) ?_
          refine dn ?_
          refine ⟨k + 1, ?_, ?_, ⟨rfl, trivial⟩, (by repeat (first | exact keeps_refl | refine keeps_upd rfl ?_ | refine keeps_loop rfl rfl ?_)), List.Perm.refl _⟩
          · refine ⟨by omega, hg.1, ?_⟩
            rw [hg.2, eqSts, show eqSt ePair x y = true from h6]; rfl
          · dsimp only; omega
      · try simp at h4
        have hnk : l.length ≤ k := by omega
        obtain rfl : k = l.length := by omega
        rw [drop_all (Nat.le_refl _)] at hg
        refine hw_exit ?_
        refine seqQ_x ?_
        refine loopQ_x ?_
        refine blockQ_eq ?_
        refine seqQ_n ?_
        refine hw_reg ?_
        refine dp rfl (pop_assign rfl) ?_
        refine dn ?_
        refine hw_ret ?_
        refine ret_p rfl ?_
        show HVal.bool _ = _
        first | (congr 1; symm; exact eqSts_len (by omega)) | (rw [hg.2, eqSts, show eqSt ePair x y = false from h5]; rfl) | (rw [hg.2, drop_all (Nat.le_of_eq hg.1.symm)]; rfl)

/-- benchwarmer/benchlaw1.drafted -/
theorem c_benchlaw1_drafted   : ConP Tryz.prog 23 [] (.bool true) := by
  refine Con.of_body Tryz.func23 rfl Tryz.ntmps23 rfl rfl ?_
  refine hw_reg ?_
  refine dp rfl (pop_assign rfl) ?_
  refine dn ?_
  refine hw_reg ?_
  refine dp rfl (pop_buildSlice (hs := [_, _]) ty26 ty9 rfl rfl (by decide) (by decide) rfl) ?_
  refine dp rfl (pop_buildSlice (hs := [_, _, _, _]) ty26 ty9 rfl rfl (by decide) (by decide) rfl) ?_
  refine dp rfl (pop_build (cs := [_, _, _, _, _, _]) ty28 pl28 rfl) ?_
  refine de rfl (eop_alloc ty28 rfl fun b1 => ?_)
  refine de0 (eop_storew ty28 rfl rfl rfl rfl rfl ?_)
  refine dn ?_
  refine hw_ghost (Ghost.fc0 1 rfl) ?_
  refine hw_reg ?_
  refine dp rfl (pop_loadw ty28 rfl rfl rfl rfl) ?_
  refine dp rfl (pop_call (hs' := [eRoom room1, eSwaps []]) ca71 rfl ⟨Weak.refl _, weak_nil 3, trivial⟩ (c_draft_Turns (r := room1) (s := []) (by decide) (by decide) (by decide))) ?_
  refine dp rfl (pop_move rfl) ?_
  refine dp rfl (pop_extract rfl rfl) ?_
  refine dp rfl (pop_extract rfl rfl) ?_
  refine dp rfl (pop_assign rfl) ?_
  refine dp rfl (pop_assign rfl) ?_
  refine dn ?_
  refine hw_reg ?_
  refine dp rfl (pop_move rfl) ?_
  refine dp rfl (pop_eql rfl rfl) ?_
  refine dp rfl (pop_move rfl) ?_
  refine dg rfl rfl (fun hc => ⟨_, OpenTo.refl _, pop_move rfl⟩) ?_
  refine dg rfl rfl (fun hc => ⟨_, OpenTo.refl _, pop_buildSlice (hs := [_, _, _, _]) ty26 ty9 rfl rfl (by decide) (by decide) rfl⟩) ?_
  refine dg rfl rfl (fun hc => ⟨_, OpenTo.upd (t := 16) rfl (by first | exact hc | simp_all) (OpenTo.upd (t := 15) rfl (by first | exact hc | simp_all) (OpenTo.refl _)), pop_call ca34 rfl (WeakL.refl _) (c_slices_Equal_string_string (l := turnTeams room1 []) (m := [[97], [98], [98], [97]]) (by rw [room1_turns]; decide))⟩) ?_
  refine dp rfl (pop_picko rfl (.inr ⟨_, rfl, fun h => by simp_all⟩) (.inl rfl)) ?_
  refine dp rfl (pop_assign rfl) ?_
  refine dn ?_
  refine hw_ret ?_
  refine ret_p rfl ?_
  rw [room1_turns, room1_ok]
  rfl

theorem w_WishesFault {r : Room} {w : List Wish} (ht : r.Teams.length ≤ 1000000) (hp : r.Players.length ≤ 1000000) (hw : w.length ≤ 1000000) (hwp : ∀ y ∈ w, y.Players.length ≤ 1000000)  (e : checkRoom r = 0) : ConP Tryz.prog 13 [eRoom r, eWishes w] (.int .i64 (wishesE r w)) := by
  rw [← wishesE_z e]; exact c_benchref1_WishesFault ht hp hw hwp
theorem w_Auto {r : Room} {k : List Keep} {s : List Swap} {l : List Pick}  {w : List Wish} {n : Int} (ht : r.Teams.length ≤ 1000000) (hp : r.Players.length ≤ 1000000) (hk0 : k.length ≤ 1000000) (hl : s.length ≤ 1000000) (hll : l.length ≤ 1000)  (hw : w.length ≤ 1000000) (hwp : ∀ y ∈ w, y.Players.length ≤ 1000000)  : ConP Tryz.prog 17 [eRoom r, eKeeps k, eSwaps s, ePicks l, eWishes w, .int .i64 n] (.tup [ePicks (auL r k s l w n), .int .i64 (autoE r k s l w n)]) := c_draft_Auto ht hp hk0 hl hll hw hwp
theorem w_Finish {r : Room} {k : List Keep} {s : List Swap} {l : List Pick}  {w : List Wish} (ht : r.Teams.length ≤ 1000000) (hp : r.Players.length ≤ 1000000) (hk0 : k.length ≤ 1000000) (hl : s.length ≤ 1000000) (hll : l.length ≤ 1000)  (hw : w.length ≤ 1000000) (hwp : ∀ y ∈ w, y.Players.length ≤ 1000000)  : ConP Tryz.prog 18 [eRoom r, eKeeps k, eSwaps s, ePicks l, eWishes w] (.tup [ePicks (fiL r k s l w), .int .i64 (wishedE r k s l w)]) := c_draft_Finish ht hp hk0 hl hll hw hwp
theorem w_Regret {r : Room} {k : List Keep} {s : List Swap} {l : List Pick}  {w : List Wish} (ht : r.Teams.length ≤ 1000000) (hp : r.Players.length ≤ 1000000) (hk0 : k.length ≤ 1000000) (hl : s.length ≤ 1000000) (hll : l.length ≤ 1000)  (hw : w.length ≤ 1000000) (hwp : ∀ y ∈ w, y.Players.length ≤ 1000000)  : ConP Tryz.prog 19 [eRoom r, eKeeps k, eSwaps s, ePicks l, eWishes w] (.tup [ePairs (reL r k s l w), .int .i64 (wishedE r k s l w)]) := c_draft_Regret ht hp hk0 hl hll hw hwp
theorem w_AutoOf {r : Room} {k : List Keep} {s : List Swap} {l : List Pick}  {w : List Wish} {n : Int} (ht : r.Teams.length ≤ 1000000) (hp : r.Players.length ≤ 1000000) (hk0 : k.length ≤ 1000000) (hl : s.length ≤ 1000000) (hll : l.length ≤ 1000)  (hw : w.length ≤ 1000000) (hwp : ∀ y ∈ w, y.Players.length ≤ 1000000)  (e : autoE r k s l w n = 0) : ConP Tryz.prog 21 [eRoom r, eKeeps k, eSwaps s, ePicks l, eWishes w, .int .i64 n] (ePicks (auL r k s l w n)) := by
  obtain ⟨e1, e2⟩ := wishedE_ok (autoE_ok e)
  obtain ⟨e3, e4, _⟩ := picksE_ok e1
  rw [← auL_z e]
  exact c_benchref1_AutoOf e3 hk0 hl e4 (last_moment e1) hp hw hwp (fun y hy => (wishes_in e2 y hy).1)
theorem w_FinishOf {r : Room} {k : List Keep} {s : List Swap} {l : List Pick}  {w : List Wish} (ht : r.Teams.length ≤ 1000000) (hp : r.Players.length ≤ 1000000) (hk0 : k.length ≤ 1000000) (hl : s.length ≤ 1000000) (hll : l.length ≤ 1000)  (hw : w.length ≤ 1000000) (hwp : ∀ y ∈ w, y.Players.length ≤ 1000000)  (e : wishedE r k s l w = 0) : ConP Tryz.prog 24 [eRoom r, eKeeps k, eSwaps s, ePicks l, eWishes w] (ePicks (fiL r k s l w)) := by
  obtain ⟨e1, e2⟩ := wishedE_ok e
  obtain ⟨e3, e4, _⟩ := picksE_ok e1
  rw [← fiL_z e]
  exact c_benchref1_FinishOf e3 hk0 hl e4 hp hw hwp (fun y hy => (wishes_in e2 y hy).1)
theorem w_RegretOf {r : Room} {k : List Keep} {s : List Swap} {l : List Pick}  {w : List Wish} (ht : r.Teams.length ≤ 1000000) (hp : r.Players.length ≤ 1000000) (hk0 : k.length ≤ 1000000) (hl : s.length ≤ 1000000) (hll : l.length ≤ 1000)  (hw : w.length ≤ 1000000) (hwp : ∀ y ∈ w, y.Players.length ≤ 1000000)  (e : wishedE r k s l w = 0) : ConP Tryz.prog 26 [eRoom r, eKeeps k, ePicks l, eWishes w] (ePairs (reL r k s l w)) := by
  obtain ⟨e1, e2⟩ := wishedE_ok e
  obtain ⟨e3, e4, _⟩ := picksE_ok e1
  rw [← reL_z e]
  exact c_benchref1_RegretOf ht hk0 hll (fun i hi => left_ne e3 (by simp; omega)) hp hw hwp (fun y hy => (wishes_in e2 y hy).1)


set_option maxHeartbeats 2000000 in
/-- benchwarmer/benchlaw1.WishesFollowed -/
theorem c_benchlaw1_WishesFollowed {l : List Int}  : ConP Tryz.prog 3 [.slice 1 (l.map (.int .i64))] (.bool true) := by
  refine Con.of_body Tryz.func3 rfl Tryz.ntmps3 rfl rfl ?_
  refine hw_reg ?_
  refine dp rfl (pop_assign rfl) ?_
  refine dn ?_
  refine hw_reg ?_
  refine dp rfl (pop_move rfl) ?_
  refine dp rfl (pop_build (cs := [_, _]) ty25 pl25 rfl) ?_
  refine de rfl (eop_box rfl rfl fun b => ?_)
  refine dghost (M' := [St b l 0]) rfl ?_
  refine dp rfl (pop_assign rfl) ?_
  refine dn ?_
  refine hw_reg ?_
  refine dp rfl (pop_move rfl) ?_
  first
  | refine de rfl (eop_callx (i := 0) ca5 rfl (WeakL.refl _) rfl (c_benchmake_Stream_RoomOf (by first | assumption | omega | (simp; omega) | simp_all)) ?_)
  | refine de rfl (eop_callx (i := 1) ca5 rfl (WeakL.refl _) rfl (c_benchmake_Stream_RoomOf (by first | assumption | omega | (simp; omega) | simp_all)) ?_)
  | refine de rfl (eop_callx (i := 2) ca5 rfl (WeakL.refl _) rfl (c_benchmake_Stream_RoomOf (by first | assumption | omega | (simp; omega) | simp_all)) ?_)
  | refine de rfl (eop_callx (i := 3) ca5 rfl (WeakL.refl _) rfl (c_benchmake_Stream_RoomOf (by first | assumption | omega | (simp; omega) | simp_all)) ?_)
  rintro _ _ ⟨r25, a25, rfl, hr25, ha25, rfl⟩
  refine de rfl (eop_alloc ty28 rfl fun b4 => ?_)
  refine de0 (eop_storew ty28 rfl rfl rfl rfl rfl ?_)
  refine dn ?_
  refine hw_ghost (Ghost.fc0 4 rfl) ?_
  refine hw_draw (fun _ => True) [] mixed ?_
  refine ahp 0 rfl rfl (by kernel_rfl) (by kernel_rfl) (pop_move rfl) ?_
  refine ahp 1 rfl rfl (by kernel_rfl) (by kernel_rfl) (pop_loadw ty28 rfl rfl rfl rfl) ?_
  refine ahp 3 rfl rfl (by kernel_rfl) (by kernel_rfl) (pop_move rfl) ?_
  refine ahp 4 rfl rfl (by kernel_rfl) (by kernel_rfl) (pop_loadw ty28 rfl rfl rfl rfl) ?_
  refine ahp 6 rfl rfl (by kernel_rfl) (by kernel_rfl) (pop_move rfl) ?_
  refine ahp 7 rfl rfl (by kernel_rfl) (by kernel_rfl) (pop_loadw ty28 rfl rfl rfl rfl) ?_
  refine ahe 2 rfl (by kernel_rfl) ?_
  first
  | refine hop_e rfl (eop_callx (i := 0) ca6 rfl (WeakL.refl _) rfl (c_benchmake_Stream_KeepList (by first | assumption | omega | (simp; omega) | simp_all) (by first | assumption | omega | (simp; omega) | simp_all)) ?_)
  | refine hop_e rfl (eop_callx (i := 1) ca6 rfl (WeakL.refl _) rfl (c_benchmake_Stream_KeepList (by first | assumption | omega | (simp; omega) | simp_all) (by first | assumption | omega | (simp; omega) | simp_all)) ?_)
  | refine hop_e rfl (eop_callx (i := 2) ca6 rfl (WeakL.refl _) rfl (c_benchmake_Stream_KeepList (by first | assumption | omega | (simp; omega) | simp_all) (by first | assumption | omega | (simp; omega) | simp_all)) ?_)
  | refine hop_e rfl (eop_callx (i := 3) ca6 rfl (WeakL.refl _) rfl (c_benchmake_Stream_KeepList (by first | assumption | omega | (simp; omega) | simp_all) (by first | assumption | omega | (simp; omega) | simp_all)) ?_)
  rintro _ _ ⟨k28, a28, rfl, hk28, ha28, rfl⟩
  refine ⟨fun _ => .inl trivial, ?_⟩
  refine ahe 5 rfl (by kernel_rfl) ?_
  first
  | refine hop_e rfl (eop_callx (i := 0) ca7 rfl (WeakL.refl _) rfl (c_benchmake_Stream_SwapList (by first | assumption | omega | (simp; omega) | simp_all) (by first | assumption | omega | (simp; omega) | simp_all)) ?_)
  | refine hop_e rfl (eop_callx (i := 1) ca7 rfl (WeakL.refl _) rfl (c_benchmake_Stream_SwapList (by first | assumption | omega | (simp; omega) | simp_all) (by first | assumption | omega | (simp; omega) | simp_all)) ?_)
  | refine hop_e rfl (eop_callx (i := 2) ca7 rfl (WeakL.refl _) rfl (c_benchmake_Stream_SwapList (by first | assumption | omega | (simp; omega) | simp_all) (by first | assumption | omega | (simp; omega) | simp_all)) ?_)
  | refine hop_e rfl (eop_callx (i := 3) ca7 rfl (WeakL.refl _) rfl (c_benchmake_Stream_SwapList (by first | assumption | omega | (simp; omega) | simp_all) (by first | assumption | omega | (simp; omega) | simp_all)) ?_)
  rintro _ _ ⟨k31, a31, rfl, hk31, ha31, rfl⟩
  refine ⟨fun _ => .inl trivial, ?_⟩
  refine ahe 8 rfl (by kernel_rfl) ?_
  first
  | refine hop_e rfl (eop_callx (i := 0) ca8 rfl (WeakL.refl _) rfl (c_benchmake_Stream_WishList (by first | assumption | omega | (simp; omega) | simp_all) (by first | assumption | omega | (simp; omega) | simp_all)) ?_)
  | refine hop_e rfl (eop_callx (i := 1) ca8 rfl (WeakL.refl _) rfl (c_benchmake_Stream_WishList (by first | assumption | omega | (simp; omega) | simp_all) (by first | assumption | omega | (simp; omega) | simp_all)) ?_)
  | refine hop_e rfl (eop_callx (i := 2) ca8 rfl (WeakL.refl _) rfl (c_benchmake_Stream_WishList (by first | assumption | omega | (simp; omega) | simp_all) (by first | assumption | omega | (simp; omega) | simp_all)) ?_)
  | refine hop_e rfl (eop_callx (i := 3) ca8 rfl (WeakL.refl _) rfl (c_benchmake_Stream_WishList (by first | assumption | omega | (simp; omega) | simp_all) (by first | assumption | omega | (simp; omega) | simp_all)) ?_)
  rintro _ _ ⟨w34, a34, rfl, hw34, ha34, rfl⟩
  refine ⟨fun _ => .inl trivial, ?_⟩
  refine ahp 9 rfl rfl (by kernel_rfl) (by kernel_rfl) (pop_assign rfl) ?_
  refine ahp 10 rfl rfl (by kernel_rfl) (by kernel_rfl) (pop_assign rfl) ?_
  refine ahp 11 rfl rfl (by kernel_rfl) (by kernel_rfl) (pop_assign rfl) ?_
  refine ahz (by kernel_rfl) ?_
  have ht1 : r25.Teams.length ≤ 1000000 := Nat.le_trans hr25.t4 (by omega)
  have hp1 : r25.Players.length ≤ 1000000 := Nat.le_trans hr25.p20 (by omega)
  have hk1 : k28.length ≤ 1000000 := Nat.le_trans hk28.len (by omega)
  have hk2 : k31.length ≤ 1000000 := Nat.le_trans hk31.len (by omega)
  have hw1 : w34.length ≤ 1000000 := Nat.le_trans hw34.len (by omega)
  have hw2 : ∀ y ∈ w34, y.Players.length ≤ 1000000 := fun y hy => Nat.le_trans (hw34.all y hy) (by omega)
  refine hw_draw (fun _ => True) [] mixed ?_
  refine ahp 0 rfl rfl (by kernel_rfl) (by kernel_rfl) (pop_move rfl) ?_
  refine ahp 1 rfl rfl (by kernel_rfl) (by kernel_rfl) (pop_loadw ty28 rfl rfl rfl rfl) ?_
  refine ahp 2 rfl rfl (by kernel_rfl) (by kernel_rfl) (pop_move rfl) ?_
  refine ahp 3 rfl rfl (by kernel_rfl) (by kernel_rfl) (pop_move rfl) ?_
  refine ahp 5 rfl rfl (by kernel_rfl) (by kernel_rfl) (pop_fieldAddr ty28 rfl ty3 (by decide) rfl) ?_
  refine ahp 6 rfl rfl (by kernel_rfl) (by kernel_rfl) (pop_load ty3 rfl rfl rfl) ?_
  refine ahp 7 rfl rfl (by kernel_rfl) (by kernel_rfl) (pop_move rfl) ?_
  refine ahp 8 rfl rfl (by kernel_rfl) (by kernel_rfl) (pop_buildSlice (hs := [_, _, _, _, _]) ty22 ty3 rfl rfl (by decide) (by decide) rfl) ?_
  refine ahe 4 rfl (by kernel_rfl) ?_
  first
  | refine hop_e rfl (eop_callx (i := 0) ca9 rfl (WeakL.refl _) rfl (c_benchmake_Stream_PickList (by first | assumption | omega | (simp; omega) | simp_all) (by first | assumption | omega | (simp; omega) | simp_all) (by first | assumption | omega | (simp; omega) | simp_all) (by first | assumption | omega | (simp; omega) | simp_all)) ?_)
  | refine hop_e rfl (eop_callx (i := 1) ca9 rfl (WeakL.refl _) rfl (c_benchmake_Stream_PickList (by first | assumption | omega | (simp; omega) | simp_all) (by first | assumption | omega | (simp; omega) | simp_all) (by first | assumption | omega | (simp; omega) | simp_all) (by first | assumption | omega | (simp; omega) | simp_all)) ?_)
  | refine hop_e rfl (eop_callx (i := 2) ca9 rfl (WeakL.refl _) rfl (c_benchmake_Stream_PickList (by first | assumption | omega | (simp; omega) | simp_all) (by first | assumption | omega | (simp; omega) | simp_all) (by first | assumption | omega | (simp; omega) | simp_all) (by first | assumption | omega | (simp; omega) | simp_all)) ?_)
  | refine hop_e rfl (eop_callx (i := 3) ca9 rfl (WeakL.refl _) rfl (c_benchmake_Stream_PickList (by first | assumption | omega | (simp; omega) | simp_all) (by first | assumption | omega | (simp; omega) | simp_all) (by first | assumption | omega | (simp; omega) | simp_all) (by first | assumption | omega | (simp; omega) | simp_all)) ?_)
  rintro _ _ ⟨p39, a39, rfl, hp39, ha39, rfl⟩
  refine ⟨fun _ => .inl trivial, ?_⟩
  refine ahe 9 rfl (by kernel_rfl) ?_
  first
  | refine hop_e rfl (eop_callx (i := 0) ca10 rfl (WeakL.refl _) rfl (c_benchmake_Stream_Pick (L := [_, _, _, _, _]) (by first | assumption | omega | (simp; omega) | simp_all) (by first | assumption | omega | (simp; omega) | simp_all) (by first | assumption | omega | (simp; omega) | simp_all)) ?_)
  | refine hop_e rfl (eop_callx (i := 1) ca10 rfl (WeakL.refl _) rfl (c_benchmake_Stream_Pick (L := [_, _, _, _, _]) (by first | assumption | omega | (simp; omega) | simp_all) (by first | assumption | omega | (simp; omega) | simp_all) (by first | assumption | omega | (simp; omega) | simp_all)) ?_)
  | refine hop_e rfl (eop_callx (i := 2) ca10 rfl (WeakL.refl _) rfl (c_benchmake_Stream_Pick (L := [_, _, _, _, _]) (by first | assumption | omega | (simp; omega) | simp_all) (by first | assumption | omega | (simp; omega) | simp_all) (by first | assumption | omega | (simp; omega) | simp_all)) ?_)
  | refine hop_e rfl (eop_callx (i := 3) ca10 rfl (WeakL.refl _) rfl (c_benchmake_Stream_Pick (L := [_, _, _, _, _]) (by first | assumption | omega | (simp; omega) | simp_all) (by first | assumption | omega | (simp; omega) | simp_all) (by first | assumption | omega | (simp; omega) | simp_all)) ?_)
  rintro _ _ ⟨y44, rfl, hy44, rfl⟩
  refine ⟨fun _ => .inl trivial, ?_⟩
  refine ahp 10 rfl rfl (by kernel_rfl) (by kernel_rfl) (pop_add rfl rfl) ?_
  refine ahp 11 rfl rfl (by kernel_rfl) (by kernel_rfl) (pop_assign rfl) ?_
  refine ahp 12 rfl rfl (by kernel_rfl) (by kernel_rfl) (pop_assign rfl) ?_
  refine ahz (by kernel_rfl) ?_
  have hl1 : p39.length ≤ 1000 := Nat.le_trans hp39.len (by omega)
  refine hw_join [9, 46, 47, 48, 49, 50] (fun (q : Int × Nat) => [(9, .int .i64 q.1)]) (fun (q : Int × Nat) => [St b l q.2]) (fun (q : Int × Nat) => True) ?_ ?_
  · skip
    refine hw_reg ?_
    refine dp rfl (pop_move rfl) ?_
    first
    | refine de rfl (eop_callx (i := 0) ca11 rfl (WeakL.refl _) rfl (c_benchmake_Stream_Flip (by first | assumption | omega | (simp; omega) | simp_all) (by first | assumption | omega | (simp; omega) | simp_all)) ?_)
    | refine de rfl (eop_callx (i := 1) ca11 rfl (WeakL.refl _) rfl (c_benchmake_Stream_Flip (by first | assumption | omega | (simp; omega) | simp_all) (by first | assumption | omega | (simp; omega) | simp_all)) ?_)
    | refine de rfl (eop_callx (i := 2) ca11 rfl (WeakL.refl _) rfl (c_benchmake_Stream_Flip (by first | assumption | omega | (simp; omega) | simp_all) (by first | assumption | omega | (simp; omega) | simp_all)) ?_)
    | refine de rfl (eop_callx (i := 3) ca11 rfl (WeakL.refl _) rfl (c_benchmake_Stream_Flip (by first | assumption | omega | (simp; omega) | simp_all) (by first | assumption | omega | (simp; omega) | simp_all)) ?_)
    rintro _ _ ⟨y47, rfl, rfl⟩
    refine dn ?_
    refine hw_cond rfl (fun h1 => ?_) (fun h2 => ?_)
    · try simp at h1
      refine hw_reg1 ?_
      refine dp rfl (pop_move rfl) ?_
      refine dp rfl (pop_buildSlice (hs := [_, _]) ty22 ty3 rfl rfl (by decide) (by decide) rfl) ?_
      first
      | refine de rfl (eop_callx (i := 0) ca10 rfl (WeakL.refl _) rfl (c_benchmake_Stream_Pick (L := [_, _]) (by first | assumption | omega | (simp; omega) | simp_all) (by first | assumption | omega | (simp; omega) | simp_all) (by first | assumption | omega | (simp; omega) | simp_all)) ?_)
      | refine de rfl (eop_callx (i := 1) ca10 rfl (WeakL.refl _) rfl (c_benchmake_Stream_Pick (L := [_, _]) (by first | assumption | omega | (simp; omega) | simp_all) (by first | assumption | omega | (simp; omega) | simp_all) (by first | assumption | omega | (simp; omega) | simp_all)) ?_)
      | refine de rfl (eop_callx (i := 2) ca10 rfl (WeakL.refl _) rfl (c_benchmake_Stream_Pick (L := [_, _]) (by first | assumption | omega | (simp; omega) | simp_all) (by first | assumption | omega | (simp; omega) | simp_all) (by first | assumption | omega | (simp; omega) | simp_all)) ?_)
      | refine de rfl (eop_callx (i := 3) ca10 rfl (WeakL.refl _) rfl (c_benchmake_Stream_Pick (L := [_, _]) (by first | assumption | omega | (simp; omega) | simp_all) (by first | assumption | omega | (simp; omega) | simp_all) (by first | assumption | omega | (simp; omega) | simp_all)) ?_)
      rintro _ _ ⟨y50, rfl, hy50, rfl⟩
      refine dp rfl (pop_assign rfl) ?_
      refine dn ?_
      exact ⟨(_, _), trivial, ⟨rfl, trivial⟩, (by repeat (first | exact keeps_refl | refine keeps_upd rfl ?_ | refine keeps_loop rfl rfl ?_)), List.Perm.refl _⟩
    · try simp at h2
      refine hw_skip ?_
      exact ⟨(_, _), trivial, ⟨rfl, trivial⟩, (by repeat (first | exact keeps_refl | refine keeps_upd rfl ?_ | refine keeps_loop rfl rfl ?_)), List.Perm.refl _⟩
  · intro q hq
    obtain ⟨at0, A⟩ := q
    dsimp only
    refine hw_reg ?_
    refine dp rfl (pop_loadw ty28 rfl rfl rfl rfl) ?_
    refine dp rfl (pop_call ca12 rfl (WeakL.refl _) (c_benchref1_RoomFault ht1 hp1 hr25.ts hr25.ps)) ?_
    refine dp rfl (pop_assign rfl) ?_
    refine dn ?_
    refine hw_reg ?_
    refine dp rfl (pop_move rfl) ?_
    refine dp rfl (pop_assign rfl) ?_
    refine dn ?_
    refine hw_join [11, 54, 55, 56, 57, 58] (fun (q : Unit) => [(11, .int .i64 (wishesE r25 w34))]) (fun (q : Unit) => [St b l A]) (fun (q : Unit) => True) ?_ ?_
    · skip
      refine hw_reg ?_
      refine dp rfl (pop_move rfl) ?_
      refine dp rfl (pop_eql rfl rfl) ?_
      refine dn ?_
      refine hw_cond rfl (fun h3 => ?_) (fun h4 => ?_)
      · try simp at h3
        refine hw_reg1 ?_
        refine dp rfl (pop_loadw ty28 rfl rfl rfl rfl) ?_
        refine dp rfl (pop_move rfl) ?_
        refine dp rfl (pop_call ca13 rfl (WeakL.refl _) (w_WishesFault ht1 hp1 hw1 hw2 (by assumption))) ?_
        refine dp rfl (pop_assign rfl) ?_
        refine dn ?_
        exact ⟨(), trivial, ⟨rfl, trivial⟩, (by repeat (first | exact keeps_refl | refine keeps_upd rfl ?_ | refine keeps_loop rfl rfl ?_)), List.Perm.refl _⟩
      · try simp at h4
        refine hw_skip ?_
        exact ⟨(), trivial, ⟨some_int (wishesE_n h4), trivial⟩, (by repeat (first | exact keeps_refl | refine keeps_upd rfl ?_ | refine keeps_loop rfl rfl ?_)), List.Perm.refl _⟩
    · intro q hq
      refine hw_reg ?_
      refine dp rfl (pop_loadw ty28 rfl rfl rfl rfl) ?_
      refine dp rfl (pop_move rfl) ?_
      refine dp rfl (pop_move rfl) ?_
      refine dp rfl (pop_move rfl) ?_
      refine dp rfl (pop_call ca15 rfl (WeakL.refl _) (c_benchref1_PicksFault ht1 hp1 hk1 hk2 hr25.ts hr25.ps hl1)) ?_
      refine dp rfl (pop_move rfl) ?_
      refine dp rfl (pop_buildSlice (hs := [_, _]) ty103 ty40 rfl rfl (by decide) (by decide) rfl) ?_
      refine dp rfl (pop_eq (h' := .int .i64 (wishedE r25 k28 k31 p39 w34)) (pop_call ca14 rfl (WeakL.refl _) (c_cmp_Or_api_Errno (l := [_, _]) (by simp))) (congrArg _ (wishedE_or _ _ _ _ _))) ?_
      refine dp rfl (pop_assign rfl) ?_
      refine dn ?_
      refine hw_seq ?_
      refine hw_reg ?_
      refine dp rfl (pop_loadw ty28 rfl rfl rfl rfl) ?_
      refine dp rfl (pop_move rfl) ?_
      refine dp rfl (pop_call ca16 rfl (WeakL.refl _) (c_draft_CheckWishes ht1 hp1 hw1 hw2)) ?_
      refine dp rfl (pop_move rfl) ?_
      refine dp rfl (pop_neq rfl rfl) ?_
      refine dn ?_
      refine hw_cond rfl (fun h5 => ?_) (fun h5 => ?_)
      · exfalso
        try simp at h5
        done
      · try simp at h5
        refine hw_skip ?_
        refine seqQ_n ?_
        refine hw_reg ?_
        refine dp rfl (pop_loadw ty28 rfl rfl rfl rfl) ?_
        refine dp rfl (pop_move rfl) ?_
        refine dp rfl (pop_move rfl) ?_
        refine dp rfl (pop_move rfl) ?_
        refine dp rfl (pop_move rfl) ?_
        refine dp rfl (pop_move rfl) ?_
        refine dp rfl (pop_call ca17 rfl (WeakL.refl _) (w_Auto ht1 hp1 hk1 hk2 hl1 hw1 hw2)) ?_
        refine dp rfl (pop_move rfl) ?_
        refine dp rfl (pop_extract rfl rfl) ?_
        refine dp rfl (pop_extract rfl rfl) ?_
        refine dp rfl (pop_assign rfl) ?_
        refine dp rfl (pop_assign rfl) ?_
        refine dn ?_
        refine hw_reg ?_
        refine dp rfl (pop_loadw ty28 rfl rfl rfl rfl) ?_
        refine dp rfl (pop_move rfl) ?_
        refine dp rfl (pop_move rfl) ?_
        refine dp rfl (pop_move rfl) ?_
        refine dp rfl (pop_move rfl) ?_
        refine dp rfl (pop_call ca18 rfl (WeakL.refl _) (w_Finish ht1 hp1 hk1 hk2 hl1 hw1 hw2)) ?_
        refine dp rfl (pop_move rfl) ?_
        refine dp rfl (pop_extract rfl rfl) ?_
        refine dp rfl (pop_extract rfl rfl) ?_
        refine dp rfl (pop_assign rfl) ?_
        refine dp rfl (pop_assign rfl) ?_
        refine dn ?_
        refine hw_reg ?_
        refine dp rfl (pop_loadw ty28 rfl rfl rfl rfl) ?_
        refine dp rfl (pop_move rfl) ?_
        refine dp rfl (pop_move rfl) ?_
        refine dp rfl (pop_move rfl) ?_
        refine dp rfl (pop_move rfl) ?_
        refine dp rfl (pop_call ca19 rfl (WeakL.refl _) (w_Regret ht1 hp1 hk1 hk2 hl1 hw1 hw2)) ?_
        refine dp rfl (pop_move rfl) ?_
        refine dp rfl (pop_extract rfl rfl) ?_
        refine dp rfl (pop_extract rfl rfl) ?_
        refine dp rfl (pop_assign rfl) ?_
        refine dp rfl (pop_assign rfl) ?_
        refine dn ?_
        refine hw_reg ?_
        refine dp rfl (pop_move rfl) ?_
        refine dp rfl (pop_move rfl) ?_
        refine dp rfl (pop_call ca20 rfl (WeakL.refl _) c_benchref1_MomentFault) ?_
        refine dp rfl (pop_buildSlice (hs := [_, _]) ty103 ty40 rfl rfl (by decide) (by decide) rfl) ?_
        refine dp rfl (pop_eq (h' := .int .i64 (autoE r25 k28 k31 p39 w34 at0)) (pop_call ca14 rfl (WeakL.refl _) (c_cmp_Or_api_Errno (l := [_, _]) (by simp))) (congrArg _ (autoE_or _ _ _ _ _ _))) ?_
        refine dp rfl (pop_assign rfl) ?_
        refine dn ?_
        refine hw_reg ?_
        refine dp rfl (pop_assign rfl) ?_
        refine dn ?_
        refine hw_ghost (Ghost.arr_nil 5) ?_
        refine hw_ghost (Ghost.fa0 20 rfl) ?_
        refine hw_join [20, 105, 106, 107, 108, 109, 110, 111, 112, 113] (fun (q : Unit) => [(20, ePicks (auL r25 k28 k31 p39 w34 at0))]) (fun (q : Unit) => [St b l A]) (fun (q : Unit) => True) ?_ ?_
        · skip
          refine hw_reg ?_
          refine dp rfl (pop_move rfl) ?_
          refine dp rfl (pop_eql rfl rfl) ?_
          refine dn ?_
          refine hw_cond rfl (fun h6 => ?_) (fun h7 => ?_)
          · try simp at h6
            refine hw_reg1 ?_
            refine dp rfl (pop_loadw ty28 rfl rfl rfl rfl) ?_
            refine dp rfl (pop_move rfl) ?_
            refine dp rfl (pop_move rfl) ?_
            refine dp rfl (pop_move rfl) ?_
            refine dp rfl (pop_move rfl) ?_
            refine dp rfl (pop_move rfl) ?_
            refine dp rfl (pop_call ca21 rfl (WeakL.refl _) (w_AutoOf ht1 hp1 hk1 hk2 hl1 hw1 hw2 (by assumption))) ?_
            refine dp rfl (pop_assign rfl) ?_
            refine dn ?_
            exact ⟨(), trivial, ⟨rfl, trivial⟩, (by repeat (first | exact keeps_refl | refine keeps_upd rfl ?_ | refine keeps_loop rfl rfl ?_)), List.Perm.refl _⟩
          · try simp at h7
            refine hw_skip ?_
            exact ⟨(), trivial, ⟨(by rw [← auL_n h7]; rfl), trivial⟩, (by repeat (first | exact keeps_refl | refine keeps_upd rfl ?_ | refine keeps_loop rfl rfl ?_)), List.Perm.refl _⟩
        · intro q hq
          refine hw_seq ?_
          refine hw_reg ?_
          refine dp rfl (pop_move rfl) ?_
          refine dp rfl (pop_move rfl) ?_
          refine dp rfl (pop_neq rfl rfl) ?_
          refine dp rfl (pop_move rfl) ?_
          refine dg rfl rfl (fun hc => ⟨_, OpenTo.refl _, pop_move rfl⟩) ?_
          refine dg rfl rfl (fun hc => ⟨_, OpenTo.refl _, pop_move rfl⟩) ?_
          refine dg rfl rfl (fun hc => ⟨_, OpenTo.upd (t := 119) rfl (by first | exact hc | simp_all) (OpenTo.upd (t := 118) rfl (by first | exact hc | simp_all) (OpenTo.refl _)), pop_call ca22 rfl (WeakL.refl _) (c_slices_Equal_api_Pick_api_Pick (auL_len hl1))⟩) ?_
          refine dg rfl rfl (fun hc => ⟨_, OpenTo.upd (t := 120) rfl (by first | exact hc | simp_all) (OpenTo.refl _), pop_not rfl⟩) ?_
          refine dp rfl (pop_picko rfl (.inl rfl) (.inr ⟨_, rfl, fun h => by simp_all⟩)) ?_
          refine dn ?_
          refine hw_cond rfl (fun h8 => ?_) (fun h8 => ?_)
          · exfalso
            try simp at h8
            simp [eqPicks_refl] at h8
          · try simp at h8
            refine hw_skip ?_
            refine seqQ_n ?_
            refine hw_seq ?_
            refine hw_reg ?_
            refine dp rfl (pop_move rfl) ?_
            refine dp rfl (pop_neq rfl rfl) ?_
            refine dn ?_
            refine hw_cond rfl (fun h9 => ?_) (fun h10 => ?_)
            · try simp at h9
              have hz : ¬ wishedE r25 k28 k31 p39 w34 = 0 := by assumption
              have e1 : (fiL r25 k28 k31 p39 w34).length = 0 := by rw [fiL_n hz]; rfl
              have e2 : (reL r25 k28 k31 p39 w34).length = 0 := by rw [reL_n hz]; rfl
              refine hw_reg ?_
              refine dp rfl (pop_move rfl) ?_
              refine dp rfl (pop_move rfl) ?_
              refine dp rfl (pop_eql rfl rfl) ?_
              refine dp rfl (pop_move rfl) ?_
              refine dg rfl rfl (fun hc => ⟨_, OpenTo.refl _, pop_move rfl⟩) ?_
              refine dg rfl rfl (fun hc => ⟨_, OpenTo.refl _, pop_move rfl⟩) ?_
              refine dg rfl rfl (fun hc => ⟨_, OpenTo.upd (t := 130) rfl (by first | exact hc | simp_all) (OpenTo.upd (t := 129) rfl (by first | exact hc | simp_all) (OpenTo.refl _)), pop_eql rfl rfl⟩) ?_
              refine dp rfl (pop_picko rfl (.inr ⟨_, rfl, fun h => by simp_all⟩) (.inl rfl)) ?_
              refine dp rfl (pop_move rfl) ?_
              refine dg rfl rfl (fun hc => ⟨_, OpenTo.refl _, pop_move rfl⟩) ?_
              refine dg rfl rfl (fun hc => ⟨_, OpenTo.upd (t := 134) rfl (by first | exact hc | simp_all) (OpenTo.refl _), pop_lenm ty36 rfl⟩) ?_
              refine dg rfl rfl (fun hc => ⟨_, OpenTo.refl _, pop_move rfl⟩) ?_
              refine dg rfl rfl (fun hc => ⟨_, OpenTo.upd (t := 136) rfl (by first | exact hc | simp_all) (OpenTo.refl _), pop_lenm ty48 rfl⟩) ?_
              refine dg rfl rfl (fun hc => by have hq := hc; (try simp at hq); exact ⟨_, OpenTo.upd (t := 137) rfl (by first | exact hc | simp_all) (OpenTo.upd (t := 135) rfl (by first | exact hc | simp_all) (OpenTo.refl _)), pop_add64 rfl rfl (by omega) (by omega)⟩) ?_
              refine dg rfl rfl (fun hc => ⟨_, OpenTo.upd (t := 138) rfl (by first | exact hc | simp_all) (OpenTo.refl _), pop_eql rfl rfl⟩) ?_
              refine dp rfl (pop_picko rfl (.inr ⟨_, rfl, fun h => by simp_all⟩) (.inl rfl)) ?_
              refine dp rfl (pop_move rfl) ?_
              refine dg rfl rfl (fun hc => ⟨_, OpenTo.refl _, pop_call ca23 rfl (WeakL.refl _) c_benchlaw1_drafted⟩) ?_
              refine dp rfl (pop_picko rfl (.inr ⟨_, rfl, fun h => by simp_all⟩) (.inl rfl)) ?_
              refine dp rfl (pop_assign rfl) ?_
              refine dn ?_
              refine hw_ret ?_
              refine ret_g Ghost.drop rfl ⟨?_, rfl⟩
              show HVal.bool _ = _
              first | (simp [eqPairs_refl, eqPicks_refl, e1, e2]; done) | (simp [eqPairs_refl, eqPicks_refl, hz]; done)
            · try simp at h10
              refine hw_skip ?_
              refine seqQ_n ?_
              have hz : wishedE r25 k28 k31 p39 w34 = 0 := by assumption
              refine hw_reg ?_
              refine dp rfl (pop_move rfl) ?_
              refine dp rfl (pop_eql rfl rfl) ?_
              refine dp rfl (pop_move rfl) ?_
              refine dg rfl rfl (fun hc => ⟨_, OpenTo.refl _, pop_move rfl⟩) ?_
              refine dg rfl rfl (fun hc => ⟨_, OpenTo.refl _, pop_loadw ty28 rfl rfl rfl rfl⟩) ?_
              refine dg rfl rfl (fun hc => ⟨_, OpenTo.refl _, pop_move rfl⟩) ?_
              refine dg rfl rfl (fun hc => ⟨_, OpenTo.refl _, pop_move rfl⟩) ?_
              refine dg rfl rfl (fun hc => ⟨_, OpenTo.refl _, pop_move rfl⟩) ?_
              refine dg rfl rfl (fun hc => ⟨_, OpenTo.refl _, pop_move rfl⟩) ?_
              refine dg rfl rfl (fun hc => ⟨_, OpenTo.upd (t := 152) rfl (by first | exact hc | simp_all) (OpenTo.upd (t := 151) rfl (by first | exact hc | simp_all) (OpenTo.upd (t := 150) rfl (by first | exact hc | simp_all) (OpenTo.upd (t := 149) rfl (by first | exact hc | simp_all) (OpenTo.upd (t := 148) rfl (by first | exact hc | simp_all) (OpenTo.refl _))))), pop_call ca24 rfl (WeakL.refl _) (w_FinishOf ht1 hp1 hk1 hk2 hl1 hw1 hw2 hz)⟩) ?_
              refine dg rfl rfl (fun hc => ⟨_, OpenTo.upd (t := 153) rfl (by first | exact hc | simp_all) (OpenTo.upd (t := 147) rfl (by first | exact hc | simp_all) (OpenTo.refl _)), pop_call ca22 rfl (WeakL.refl _) (c_slices_Equal_api_Pick_api_Pick (fiL_len hl1))⟩) ?_
              refine dp rfl (pop_picko rfl (.inr ⟨_, rfl, fun h => by simp_all⟩) (.inl rfl)) ?_
              refine dp rfl (pop_move rfl) ?_
              refine dg rfl rfl (fun hc => ⟨_, OpenTo.refl _, pop_move rfl⟩) ?_
              refine dg rfl rfl (fun hc => ⟨_, OpenTo.upd (t := 157) rfl (by first | exact hc | simp_all) (OpenTo.refl _), pop_eql rfl rfl⟩) ?_
              refine dp rfl (pop_picko rfl (.inr ⟨_, rfl, fun h => by simp_all⟩) (.inl rfl)) ?_
              refine dp rfl (pop_move rfl) ?_
              refine dg rfl rfl (fun hc => ⟨_, OpenTo.refl _, pop_move rfl⟩) ?_
              refine dg rfl rfl (fun hc => ⟨_, OpenTo.refl _, pop_loadw ty28 rfl rfl rfl rfl⟩) ?_
              refine dg rfl rfl (fun hc => ⟨_, OpenTo.refl _, pop_move rfl⟩) ?_
              refine dg rfl rfl (fun hc => ⟨_, OpenTo.refl _, pop_move rfl⟩) ?_
              refine dg rfl rfl (fun hc => ⟨_, OpenTo.refl _, pop_move rfl⟩) ?_
              refine dg rfl rfl (fun hc => ⟨_, OpenTo.upd (t := 165) rfl (by first | exact hc | simp_all) (OpenTo.upd (t := 164) rfl (by first | exact hc | simp_all) (OpenTo.upd (t := 163) rfl (by first | exact hc | simp_all) (OpenTo.upd (t := 162) rfl (by first | exact hc | simp_all) (OpenTo.refl _)))), pop_call ca26 rfl (WeakL.refl _) (w_RegretOf ht1 hp1 hk1 hk2 hl1 hw1 hw2 hz)⟩) ?_
              refine dg rfl rfl (fun hc => ⟨_, OpenTo.upd (t := 166) rfl (by first | exact hc | simp_all) (OpenTo.upd (t := 161) rfl (by first | exact hc | simp_all) (OpenTo.refl _)), pop_call ca25 rfl (WeakL.refl _) (c_slices_Equal_api_Pair_api_Pair (reL_len ht1))⟩) ?_
              refine dp rfl (pop_picko rfl (.inr ⟨_, rfl, fun h => by simp_all⟩) (.inl rfl)) ?_
              refine dp rfl (pop_move rfl) ?_
              refine dg rfl rfl (fun hc => ⟨_, OpenTo.refl _, pop_call ca23 rfl (WeakL.refl _) c_benchlaw1_drafted⟩) ?_
              refine dp rfl (pop_picko rfl (.inr ⟨_, rfl, fun h => by simp_all⟩) (.inl rfl)) ?_
              refine dp rfl (pop_assign rfl) ?_
              refine dn ?_
              refine hw_ret ?_
              refine ret_g Ghost.drop rfl ⟨?_, rfl⟩
              show HVal.bool _ = _
              first | (simp [eqPairs_refl, eqPicks_refl, e1, e2]; done) | (simp [eqPairs_refl, eqPicks_refl, hz]; done)
end Go.Proofs.YtoomadfbldcioaaGreatDoor
end
section
namespace Go.Proofs.YtoomadfbldcioaaGreatDoor
open Go.ChangeShapes Go.WideShapes Go.ChangeAt Go.RowKit Go.HL
theorem ownWishesFollowed : ownKnob Tryz.prog.godebug = none := by kernel_rfl
theorem laidOutWishesFollowed : laidOutB Tryz.prog = true := by kernel_rfl
theorem cellsWishesFollowed : Tryz.prog.cellsOf 3 = 1 := by kernel_rfl
theorem tabWishesFollowed {W : World} (h : laidMetH Tryz.prog Rows.wishesFollowedRow.laid W) : TabI Tryz.prog (allI W) := by
  rw [MakeChecks.laidMetH_plain _ _ _ (by kernel_rfl)] at h
  exact tabI_of_laid (i := 2) (g := 0) (t := 208) h (by kernel_rfl) (by kernel_rfl) (by kernel_rfl) Tryz.underlying208 Tryz.underlying171 (by kernel_rfl) (by kernel_rfl)
theorem callsWishesFollowed {W : World} (ht : TabI Tryz.prog (allI W)) {a : Option Addr} {len cap : Nat} {H : Type} {enc : TypeId × Value → H} {d0 : DataW H} {p : List MemPlace} (h : DataW.Trod enc Tryz.prog W 0 (fun _ => true) true 22 (.slice a len cap) d0 p) :
    Calls Tryz.prog 3 #[.slice a len cap] W fun e W' => e = .returned (.bool true) ∧ Below W.heap.size W W' := by
  obtain ⟨fuel, hf⟩ := h
  rcases open_ints Tryz.underlying22 Tryz.underlying3 cellsWishesFollowed hf with ⟨hcs, hx⟩ | ⟨a', len', cap', zs, hcs, _, hl, hm, hz, hx, hcell, hwz⟩
  · simp [Value.cells] at hcs
    obtain ⟨rfl, rfl, rfl⟩ := hcs
    exact conp_law (l := []) c_benchlaw1_WishesFollowed ht (.slice0 _ _ _)
  · simp [Value.cells] at hcs
    obtain ⟨rfl, rfl, rfl⟩ := hcs
    simp only [if_true] at hz
    exact conp_law (l := zs.take len) c_benchlaw1_WishesFollowed ht (v_ints hcell (by omega) hl)
set_option maxRecDepth 100000 in
theorem liftedWishesFollowed (os : Os) (started : os.Started) (H : Type) (enc : TypeId × Value → H) :
    ReturnsInHanded {} Tryz.checked os 3 .any (fun w args => (Rows.wishesFollowedSpec.pre enc Tryz.prog Tryz.f3 Rows.wishesFollowedRow.domain false w args ∧ laidMetH Tryz.prog Rows.wishesFollowedRow.laid w) ∧ sizedMet enc Tryz.prog Tryz.f3 (OpenSpec.ofChange Rows.wishesFollowedSpec) false w args)
      (Rows.wishesFollowedSpec.post enc Tryz.prog Tryz.f3 false true false false) := by
  refine returnsInHanded_of_change_and (C := Tryz.checked) (X := fun w _ => laidMetH Tryz.prog Rows.wishesFollowedRow.laid w) (fun _ _ _ hh h => h.of_heap hh) ownWishesFollowed started (by kernel_rfl) Tryz.func3
    (ChangeSpec.witness_shaped (enc := enc) (C := Tryz.checked) (os := os) (X := fun w _ => laidMetH Tryz.prog Rows.wishesFollowedRow.laid w) false (World.laidAll Tryz.prog os Rows.wishesFollowedRow.laid) #[.slice none 0 0] 8 (World.laidAll_os _ _ _)
      (World.shaped_of_ZipB (by kernel_rfl) (by kernel_rfl)) (by kernel_rfl) (by kernel_rfl) (by kernel_rfl)
      (by rw [MakeChecks.laidMetH_plain _ _ _ (by kernel_rfl)]; exact laidMet_laidAll _ (by kernel_rfl) (by kernel_rfl))) ?_
  intro W base args ds gs before hval0 hW _ _ hL _
  have hval : ∀ (j : Nat) t v, Tryz.f3.params[j]? = some t → args[j]? = some v → Value.okWide Tryz.prog W .any base t v := hval0
  have hW' := hW
  obtain ⟨p, q, hA0, hV, rfl, _, _⟩ := hW
  have hA : DataW.TrodAll enc Tryz.prog W 0 (fun _ => true) true Tryz.f3.params.toList args.toList ds p := hA0
  rw [Tryz.params3] at hA hval
  obtain ⟨v0, d0, rfl, rfl, h0⟩ := trodAll_one hA
  obtain ⟨rfl, rfl⟩ := trodVars_none hV
  obtain ⟨a0, len, cap, rfl⟩ := okWide_slice Tryz.underlying22 (hval 0 22 v0 rfl rfl)
  simp only [List.append_nil] at hW'
  have hlt : ∀ x ∈ p, x.block < W.heap.size := fun x hx => by simpa using hW'.lt x hx
  refine (callsWishesFollowed (tabWishesFollowed hL) h0).mono fun e W' ⟨he, hb⟩ => ?_
  subst he
  have hargs : DataW.Trod enc Tryz.prog W' 0 (fun b => decide (b < W.heap.size)) true 22 (.slice a0 len cap) d0 p :=
    Below.trod laidOutWishesFollowed (by kernel_rfl) (of_decide_eq_true (by kernel_rfl)) h0 hb hlt
  exact ⟨_, rfl, _, _, _, [], p, [], hW', trodAll_mk1 (shut_bool Tryz.underlying4 _), trodAll_mk1 hargs, rfl, hb.frame _, fun h => by cases h⟩
theorem holdsWishesFollowed : Rows.WishesFollowedSaid :=
  OpenClaim.holds_of_wide 3 Tryz.f3 rfl rfl rfl rfl rfl rfl rfl ⟨rfl, rfl, rfl, rfl, rfl⟩ rfl rfl rfl rfl rfl (by kernel_rfl) Tryz.func3 (by kernel_rfl)
    (of_decide_eq_true (by kernel_rfl)) (by unfold Func.isWrapper; first | (rw [if_pos (by decide +kernel)]; kernel_rfl) | (rw [if_neg (by decide +kernel)]; exact ⟨rfl, rfl⟩))
    (fun os started H enc _ => liftedWishesFollowed os started H enc)
theorem cardWishesFollowed : Rows.WishesFollowedCardSaid :=
  Claim7.holds_tied_plain_at .later [] [.data, .data, .data, .data, .pinned] true (true, "58f378b719dac75ebdd77a0162814fc31a53fe8b6c9ac1217d7396d1107ab67d") false holdsWishesFollowed (fun _ h => by cases h) (by kernel_rfl) (fun _ h => by cases h) wishesFollowed_row_tie rfl ⟨rfl, rfl⟩ (by kernel_rfl) rfl
    (fun f fn hf hfn => by
      obtain rfl : f = 3 := Option.some.inj ((show Tryz.prog.funcNamed Rows.wishesFollowedRow.func = some 3 by kernel_rfl).symm.trans hf) |>.symm
      obtain rfl : fn = Tryz.f3 := (Option.some.inj (Tryz.func3.symm.trans hfn)).symm
      exact ⟨by kernel_rfl, fun j t ht => by
        rw [Tryz.params3] at ht
        have hm : t ∈ [22] := by simpa using Array.mem_of_getElem? ht
        have hall : ([22].all fun u => !Tryz.prog.wantsStandIn u) = true := by kernel_rfl
        exact (show Tryz.prog.wantsStandIn t = false by simpa using List.all_eq_true.1 hall t hm)⟩)
    (by kernel_rfl)
end Go.Proofs.YtoomadfbldcioaaGreatDoor
end
