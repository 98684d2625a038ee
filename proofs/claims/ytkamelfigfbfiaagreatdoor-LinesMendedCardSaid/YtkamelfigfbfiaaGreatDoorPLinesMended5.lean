/- Part 5 of the proof: a program logic, contracts of functions and plain facts; no conditions. -/
import Derived.Test.YtkamelfigfbfiaaGreatDoorPLinesMended4
set_option linter.unusedVariables false
set_option linter.unusedSimpArgs false
section
namespace Go.Proofs.YtkamelfigfbfiaaGreatDoor
open Go.HL
set_option maxRecDepth 100000
set_option linter.unusedVariables false
set_option linter.unusedSimpArgs false
/-- slices.Equal[[]benchwarmer/api.Stat,benchwarmer/api.Stat] -/
theorem c_slices_Equal_api_Stat_api_Stat [Tracks] {l m : List StatS} (hl : l.length ≤ 1000000) : ConP Tryz.prog 79 [eStats l, eStats m] (.bool (eqSts eStat l m)) := by
 refine Con.of_body Tryz.func79 rfl Tryz.ntmps79 rfl rfl ?_
 refine hw_reg ?_
 refine dp rfl (pop_assign rfl) ?_
 refine dn ?_
 refine hw_seq ?_
 refine hw_reg ?_
 refine dp rfl (pop_move rfl) ?_
 refine dp rfl (pop_lenm ty61 rfl) ?_
 refine dp rfl (pop_move rfl) ?_
 refine dp rfl (pop_lenm ty61 rfl) ?_
 refine dp rfl (pop_neq rfl rfl) ?_
 refine dn ?_
 refine hw_cond rfl (fun h1 => ?_) (fun h2 => ?_)
 ·try simp at h1
  refine hw_reg ?_
  refine dp rfl (pop_assign rfl) ?_
  refine dn ?_
  refine hw_ret ?_
  refine ret_p rfl ?_
  show HVal.bool _ = _
  (congr 1; symm; exact eqSts_len (by omega))
 ·try simp at h2
  refine hw_skip ?_
  refine seqQ_n ?_
  refine hw_seq ?_
  refine hw_reg ?_
  refine dp rfl (pop_move rfl) ?_
  refine dp rfl (pop_lenm ty61 rfl) ?_
  refine dp rfl (pop_move rfl) ?_
  refine dn ?_
  refine hw_block ?_
  refine hw_loopw [4, 5, 13, 14, 15, 16, 17, 18, 19, 20, 21, 22, 23, 24, 25] (fun (k : Nat) => [(13, .int .i64 k)]) (fun (k : Nat) => []) (fun (k : Nat) => k ≤ l.length ∧ (l.length = m.length ∧ eqSts eStat l m = eqSts eStat (l.drop k) (m.drop k))) (fun (k : Nat) => l.length - k) (0) ?_ ?_ ?_ ?_
  ·refine ⟨Nat.zero_le _, ?_, rfl⟩
   omega
  ·exact ⟨rfl, trivial⟩
  ·exact List.Perm.refl _
  ·intro k hinv
   obtain ⟨hk, hg⟩ := hinv
   refine hw_reg ?_
   refine dp rfl (pop_lss rfl rfl) ?_
   refine dn ?_
   refine hw_seq ?_
   refine hw_cond rfl (fun h3 => ?_) (fun h4 => ?_)
   ·try simp at h3
    obtain ⟨x, hx⟩ : ∃ x, l[k]? = some x := ⟨_, List.getElem?_eq_getElem h3⟩
    have hdx := drop_cons hx
    obtain ⟨y, hy⟩ : ∃ y, m[k]? = some y := ⟨_, List.getElem?_eq_getElem (by omega)⟩
    rw [hdx, drop_cons hy] at hg
    refine hw_skip ?_
    refine seqQ_n ?_
    refine hw_seq ?_
    refine hw_block ?_
    refine hw_reg ?_
    refine dp rfl (pop_move rfl) ?_
    refine dp rfl (pop_assign rfl) ?_
    refine dn ?_
    refine hw_draw (fun _ => True) [] mixed ?_
    refine ahp 0 rfl rfl (by kernel_rfl) (by kernel_rfl) (pop_move rfl) ?_
    refine ahp 1 rfl rfl (by kernel_rfl) (by kernel_rfl) (pop_move rfl) ?_
    refine ahp 2 rfl rfl (by kernel_rfl) (by kernel_rfl) (pop_idx ty61 ty121 rfl rfl rfl (by assumption)) ?_
    refine ahp 3 rfl rfl (by kernel_rfl) (by kernel_rfl) (pop_loadw ty121 rfl rfl rfl rfl) ?_
    refine ahp 4 rfl rfl (by kernel_rfl) (by kernel_rfl) (pop_move rfl) ?_
    refine ahp 5 rfl rfl (by kernel_rfl) (by kernel_rfl) (pop_move rfl) ?_
    refine ahp 6 rfl rfl (by kernel_rfl) (by kernel_rfl) (pop_idx ty61 ty121 rfl rfl rfl (by assumption)) ?_
    refine ahp 7 rfl rfl (by kernel_rfl) (by kernel_rfl) (pop_loadw ty121 rfl rfl rfl rfl) ?_
    refine ahp 8 rfl rfl (by kernel_rfl) (by kernel_rfl) (pop_neqst ty121 eq121 rfl rfl ⟨rfl, ⟨_, _, _, _, ty9, rfl⟩, ⟨rfl, ⟨_, _, _, _, ty3, rfl⟩, trivial⟩⟩) ?_
    refine ahz (by kernel_rfl) ?_
    refine hw_cond rfl (fun h5 => ?_) (fun h6 => ?_)
    ·try simp at h5
     refine hw_reg ?_
     refine dp rfl (pop_assign rfl) ?_
     refine dn ?_
     refine hw_ret ?_
     refine ret_p rfl ?_
     show HVal.bool _ = _
     (rw [hg.2, eqSts, show eqSt eStat x y = false from h5]; rfl)
    ·try simp at h6
     refine hw_skip ?_
     refine blockQ_n ?_
     refine seqQ_n ?_
     refine hw_reg1 ?_
     refine dp rfl (pop_add64 rfl rfl (by omega) (by omega)) ?_
     refine dp rfl (pop_move rfl) ?_
     refine dn ?_
     refine ⟨k + 1, ?_, ?_, ⟨rfl, trivial⟩, (by repeat (first | exact keeps_refl | refine keeps_upd rfl ?_ | refine keeps_loop rfl rfl ?_)), List.Perm.refl _⟩
     ·refine ⟨by omega, hg.1, ?_⟩
      rw [hg.2, eqSts, show eqSt eStat x y = true from h6]; rfl
     ·dsimp only; omega
   ·try simp at h4
    have hnk : l.length ≤ k := by omega
    obtain rfl : k = l.length := by omega
    rw [drop_all (Nat.le_refl _)] at hg
    refine hw_exit ?_
    refine seqQ_x ?_
    refine loopQ_x ?_
    refine blockQ_eq ?_
    refine seqQ_n ?_
    refine hw_reg ?_
    refine dp rfl (pop_assign rfl) ?_
    refine dn ?_
    refine hw_ret ?_
    refine ret_p rfl ?_
    show HVal.bool _ = _
    (rw [hg.2, drop_all (Nat.le_of_eq hg.1.symm)]; rfl)

/-- benchwarmer/benchref1.byLine -/
theorem c_benchref1_byLine [Tracks] {a b : LineS}  : ConP Tryz.prog 78 [eLine a, eLine b] (.int .i64 (byLn a b)) := by
 refine Con.of_body Tryz.func78 rfl Tryz.ntmps78 rfl rfl ?_
 refine hw_reg ?_
 refine dp rfl (pop_box rfl rfl) ?_
 refine dp rfl (pop_box rfl rfl) ?_
 refine dp rfl (pop_assign rfl) ?_
 refine dn ?_
 refine hw_draw (fun _ => True) [] mixed ?_
 refine ahp 0 rfl rfl (by kernel_rfl) (by kernel_rfl) (pop_fieldAddr ty63 rfl ty9 (by decide) rfl) ?_
 refine ahp 1 rfl rfl (by kernel_rfl) (by kernel_rfl) (pop_load ty9 rfl rfl rfl) ?_
 refine ahp 2 rfl rfl (by kernel_rfl) (by kernel_rfl) (pop_fieldAddr ty63 rfl ty9 (by decide) rfl) ?_
 refine ahp 3 rfl rfl (by kernel_rfl) (by kernel_rfl) (pop_load ty9 rfl rfl rfl) ?_
 refine ahp 4 rfl rfl (by kernel_rfl) (by kernel_rfl) (pop_call ca103 rfl (WeakL.refl _) c_strings_Compare) ?_
 refine ahp 5 rfl rfl (by kernel_rfl) (by kernel_rfl) (pop_fieldAddr ty63 rfl ty3 (by decide) rfl) ?_
 refine ahp 6 rfl rfl (by kernel_rfl) (by kernel_rfl) (pop_load ty3 rfl rfl rfl) ?_
 refine ahp 7 rfl rfl (by kernel_rfl) (by kernel_rfl) (pop_fieldAddr ty63 rfl ty3 (by decide) rfl) ?_
 refine ahp 8 rfl rfl (by kernel_rfl) (by kernel_rfl) (pop_load ty3 rfl rfl rfl) ?_
 refine ahp 9 rfl rfl (by kernel_rfl) (by kernel_rfl) (pop_call ca104 rfl (WeakL.refl _) c_cmp_Compare_int) ?_
 refine ahp 10 rfl rfl (by kernel_rfl) (by kernel_rfl) (pop_buildSlice (hs := [_, _]) ty22 ty3 rfl rfl (by decide) (by decide) rfl) ?_
 refine ahp 11 rfl rfl (by kernel_rfl) (by kernel_rfl) (pop_call ca102 rfl (WeakL.refl _) (c_cmp_Or_int (l := [_, _]) (by simp))) ?_
 refine ahp 12 rfl rfl (by kernel_rfl) (by kernel_rfl) (pop_assign rfl) ?_
 refine ahz (by kernel_rfl) ?_
 refine hw_ret ?_
 refine ret_p rfl ?_
 rfl

/-- benchwarmer/benchref1.SameLine -/
theorem c_benchref1_SameLine [Tracks] {x : LineS} (hs : x.Stats.length ≤ 1000000) : ConP Tryz.prog 25 [eLine x, eLine x] (.bool true) := by
 refine Con.of_body Tryz.func25 rfl Tryz.ntmps25 rfl rfl ?_
 refine hw_reg ?_
 refine dp rfl (pop_box rfl rfl) ?_
 refine dp rfl (pop_box rfl rfl) ?_
 refine dp rfl (pop_assign rfl) ?_
 refine dn ?_
 refine hw_reg ?_
 refine dp rfl (pop_loadw ty63 rfl rfl rfl rfl) ?_
 refine dp rfl (pop_loadw ty63 rfl rfl rfl rfl) ?_
 refine dp rfl (pop_call ca78 rfl (WeakL.refl _) c_benchref1_byLine) ?_
 refine dp rfl (pop_eql rfl rfl) ?_
 refine dp rfl (pop_move rfl) ?_
 refine dg rfl rfl (fun hc => ⟨_, OpenTo.refl _, pop_fieldAddr ty63 rfl ty61 (by decide) rfl⟩) ?_
 refine dg rfl rfl (fun hc => ⟨_, OpenTo.upd (t := 10) rfl (hc) (OpenTo.refl _), pop_load ty61 rfl rfl rfl⟩) ?_
 refine dg rfl rfl (fun hc => ⟨_, OpenTo.refl _, pop_fieldAddr ty63 rfl ty61 (by decide) rfl⟩) ?_
 refine dg rfl rfl (fun hc => ⟨_, OpenTo.upd (t := 12) rfl (hc) (OpenTo.refl _), pop_load ty61 rfl rfl rfl⟩) ?_
 refine dg rfl rfl (fun hc => ⟨_, OpenTo.upd (t := 13) rfl (hc) (OpenTo.upd (t := 11) rfl (hc) (OpenTo.refl _)), pop_call ca79 rfl (WeakL.refl _) (c_slices_Equal_api_Stat_api_Stat (l := x.Stats) (m := x.Stats) hs)⟩) ?_
 refine dp rfl (pop_picko rfl (.inr ⟨_, rfl, fun h => by simp_all⟩) (.inl rfl)) ?_
 refine dp rfl (pop_assign rfl) ?_
 refine dn ?_
 refine hw_ret ?_
 refine ret_p rfl ?_
 show HVal.bool _ = _
 simp [byLn_refl, eqStats_refl]

/-- slices.EqualFunc[[]benchwarmer/api.Line,[]benchwarmer/api.Line,benchwarmer/api.Line,benchwarmer/api.Line] -/
theorem c_EqualFunc_Line [Tracks] {l : List LineS} (hl : l.length ≤ 1000000) (hs : ∀ y ∈ l, y.Stats.length ≤ 1000000) : ConP Tryz.prog 24 [eLines l, eLines l, .fn (.func 25) [] []] (.bool true) := by
 refine Con.of_body Tryz.func24 rfl Tryz.ntmps24 rfl rfl ?_
 refine hw_reg ?_
 refine dp rfl (pop_assign rfl) ?_
 refine dn ?_
 refine hw_seq ?_
 refine hw_reg ?_
 refine dp rfl (pop_move rfl) ?_
 refine dp rfl (pop_lenm ty54 rfl) ?_
 refine dp rfl (pop_move rfl) ?_
 refine dp rfl (pop_lenm ty54 rfl) ?_
 refine dp rfl (pop_neq rfl rfl) ?_
 refine dn ?_
 refine hw_cond rfl (fun h1 => ?_) (fun h1 => ?_)
 ·exfalso
  try simp at h1
  done
 ·try simp at h1
  refine hw_skip ?_
  refine seqQ_n ?_
  refine hw_seq ?_
  refine hw_reg ?_
  refine dp rfl (pop_move rfl) ?_
  refine dp rfl (pop_lenm ty54 rfl) ?_
  refine dp rfl (pop_move rfl) ?_
  refine dn ?_
  refine hw_block ?_
  refine hw_loopw [6, 7, 8, 9, 17, 18, 19, 20, 21, 22, 23, 24, 25, 26, 27, 28, 29, 30, 31] (fun (k : Nat) => [(17, .int .i64 k)]) (fun (k : Nat) => []) (fun (k : Nat) => k ≤ l.length ∧ (True)) (fun (k : Nat) => l.length - k) (0) ?_ ?_ ?_ ?_
  ·exact ⟨Nat.zero_le _, trivial⟩
  ·exact ⟨rfl, trivial⟩
  ·exact List.Perm.refl _
  ·intro k hinv
   obtain ⟨hk, -⟩ := hinv
   refine hw_reg ?_
   refine dp rfl (pop_lss rfl rfl) ?_
   refine dn ?_
   refine hw_seq ?_
   refine hw_cond rfl (fun h2 => ?_) (fun h3 => ?_)
   ·try simp at h2
    obtain ⟨x, hx⟩ : ∃ x, l[k]? = some x := ⟨_, List.getElem?_eq_getElem h2⟩
    have hdx := drop_cons hx
    refine hw_skip ?_
    refine seqQ_n ?_
    refine hw_seq ?_
    refine hw_block ?_
    refine hw_reg ?_
    refine dp rfl (pop_move rfl) ?_
    refine dp rfl (pop_idx ty54 ty63 rfl rfl rfl (by assumption)) ?_
    refine dp rfl (pop_loadw ty63 rfl rfl rfl rfl) ?_
    refine de rfl (eop_alloc ty63 rfl fun b8 => ?_)
    refine dp rfl (pop_assign rfl) ?_
    refine de0 (eop_storew ty63 rfl rfl rfl rfl rfl ?_)
    refine dn ?_
    refine hw_ghost (Ghost.fc0 8 rfl) ?_
    refine hw_reg ?_
    refine dp rfl (pop_move rfl) ?_
    refine dp rfl (pop_move rfl) ?_
    refine dp rfl (pop_idx (j := k) (a := x) ty54 ty63 rfl rfl rfl hx) ?_
    refine dp rfl (pop_loadw ty63 rfl rfl rfl rfl) ?_
    refine de rfl (eop_alloc ty63 rfl fun b9 => ?_)
    refine de0 (eop_storew ty63 rfl rfl rfl rfl rfl ?_)
    refine dn ?_
    refine hw_ghost (Ghost.fc0 9 rfl) ?_
    refine hw_reg ?_
    refine dp rfl (pop_move rfl) ?_
    refine dp rfl (pop_loadw ty63 rfl rfl rfl rfl) ?_
    refine dp rfl (pop_loadw ty63 rfl rfl rfl rfl) ?_
    refine dp rfl (pop_callv ca25 rfl rfl (WeakL.refl _) (c_benchref1_SameLine (hs x (List.mem_of_getElem? hx)))) ?_
    refine dp rfl (pop_not rfl) ?_
    refine dn ?_
    refine hw_cond rfl (fun h4 => ?_) (fun h4 => ?_)
    ·exfalso
     try simp at h4
     done
    ·try simp at h4
     refine hw_skip ?_
     refine blockQ_n ?_
     refine seqQ_n ?_
     refine hw_reg1 ?_
     refine dp rfl (pop_add64 rfl rfl (by omega) (by omega)) ?_
     refine dp rfl (pop_move rfl) ?_
     refine dn ?_
     refine ⟨k + 1, ?_, ?_, ⟨rfl, trivial⟩, (by repeat (first | exact keeps_refl | refine keeps_upd rfl ?_ | refine keeps_loop rfl rfl ?_)), List.Perm.refl _⟩
     ·exact ⟨by omega, trivial⟩
     ·dsimp only; omega
   ·try simp at h3
    have hnk : l.length ≤ k := by omega
    obtain rfl : k = l.length := by omega
    refine hw_exit ?_
    refine seqQ_x ?_
    refine loopQ_x ?_
    refine blockQ_eq ?_
    refine seqQ_n ?_
    refine hw_reg ?_
    refine dp rfl (pop_assign rfl) ?_
    refine dn ?_
    refine hw_ret ?_
    refine ret_p rfl ?_
    rfl
end Go.Proofs.YtkamelfigfbfiaaGreatDoor
end
section
namespace Go.Proofs.YtkamelfigfbfiaaGreatDoor
open Go.HL
set_option maxRecDepth 100000
set_option linter.unusedVariables false
set_option linter.unusedSimpArgs false
/-- slices.IndexFunc[[]benchwarmer/api.Mend,benchwarmer/api.Mend] -/
theorem c_slices_IndexFunc_api_Mend_api_Mend [Tracks] {l : List MendS} {fid : FuncId} {caps : List HVal} {p : MendS → Bool} (hca : Callable Tryz.prog fid) (hp : ∀ x, ConP Tryz.prog fid ([eMend x] ++ caps) (.bool (p x))) (hl : l.length ≤ 1000000) : ConP Tryz.prog 84 [.slice 7 (l.map eMend), .fn (.func fid) [] caps] (.int .i64 (idxF p l 0)) := by
 refine Con.of_body Tryz.func84 rfl Tryz.ntmps84 rfl rfl ?_
 refine hw_reg ?_
 refine dp rfl (pop_assign rfl) ?_
 refine dn ?_
 refine hw_seq ?_
 refine hw_reg ?_
 refine dp rfl (pop_move rfl) ?_
 refine dp rfl (pop_lenm ty46 rfl) ?_
 refine dp rfl (pop_move rfl) ?_
 refine dn ?_
 refine hw_block ?_
 refine hw_loopw [4, 5, 8, 9, 10, 11, 12, 13, 14, 15, 16, 17, 18] (fun (k : Nat) => [(8, .int .i64 k)]) (fun (k : Nat) => []) (fun (k : Nat) => k ≤ l.length ∧ (idxF p l 0 = idxF p (l.drop k) k)) (fun (k : Nat) => l.length - k) (0) ?_ ?_ ?_ ?_
 ·exact ⟨Nat.zero_le _, rfl⟩
 ·exact ⟨rfl, trivial⟩
 ·exact List.Perm.refl _
 ·intro k hinv
  obtain ⟨hk, hg⟩ := hinv
  refine hw_reg ?_
  refine dp rfl (pop_lss rfl rfl) ?_
  refine dn ?_
  refine hw_seq ?_
  refine hw_cond rfl (fun h1 => ?_) (fun h2 => ?_)
  ·try simp at h1
   obtain ⟨x, hx⟩ : ∃ x, l[k]? = some x := ⟨_, List.getElem?_eq_getElem h1⟩
   have hdx := drop_cons hx
   rw [hdx] at hg
   refine hw_skip ?_
   refine seqQ_n ?_
   refine hw_seq ?_
   refine hw_block ?_
   refine hw_reg ?_
   refine dp rfl (pop_move rfl) ?_
   refine dp rfl (pop_assign rfl) ?_
   refine dn ?_
   refine hw_reg ?_
   refine dp rfl (pop_move rfl) ?_
   refine dp rfl (pop_move rfl) ?_
   refine dp rfl (pop_move rfl) ?_
   refine dp rfl (pop_idx ty46 ty69 rfl rfl rfl (by first | assumption | simp_all)) ?_
   refine dp rfl (pop_loadw ty69 rfl rfl rfl rfl) ?_
   refine dp rfl (pop_callv hca rfl rfl (WeakL.refl _) (hp _)) ?_
   refine dn ?_
   refine hw_cond rfl (fun h3 => ?_) (fun h4 => ?_)
   ·try simp at h3
    refine hw_reg ?_
    refine dp rfl (pop_move rfl) ?_
    refine dp rfl (pop_assign rfl) ?_
    refine dn ?_
    refine hw_ret ?_
    refine ret_p rfl ?_
    show HVal.int .i64 _ = _
    first | (rw [hg]; rfl) | (rw [hg]; simp_all [idxF])
   ·try simp at h4
    refine hw_skip ?_
    refine blockQ_n ?_
    refine seqQ_n ?_
    refine hw_reg1 ?_
    refine dp rfl (pop_add64 rfl rfl (by omega) (by omega)) ?_
    refine dp rfl (pop_move rfl) ?_
    refine dn ?_
    refine ⟨k + 1, ?_, ?_, ⟨rfl, trivial⟩, (by repeat (first | exact keeps_refl | refine keeps_upd rfl ?_ | refine keeps_loop rfl rfl ?_)), List.Perm.refl _⟩
    ·refine ⟨by omega, ?_⟩
     rw [hg, idxF, if_neg (by simp_all)]; rfl
    ·dsimp only; omega
  ·try simp at h2
   have hnk : l.length ≤ k := by omega
   obtain rfl : k = l.length := by omega
   rw [drop_all (Nat.le_refl _)] at hg
   refine hw_exit ?_
   refine seqQ_x ?_
   refine loopQ_x ?_
   refine blockQ_eq ?_
   refine seqQ_n ?_
   refine hw_reg ?_
   refine dp rfl (pop_assign rfl) ?_
   refine dn ?_
   refine hw_ret ?_
   refine ret_p rfl ?_
   show HVal.int .i64 _ = _
   first | (rw [hg]; rfl) | (rw [hg]; simp_all [idxF])

set_option maxHeartbeats 1000000 in
/-- benchwarmer/benchref1.LinesFault -/
theorem c_benchref1_LinesFault [Tracks] {l : List LineS} (hl : l.length ≤ 1000000) (hL : ∀ x ∈ l, x.Stats.length ≤ 1000000) (hgl : ∀ x ∈ l, GoodLn x) : ConP Tryz.prog 21 [eLines l] (.int .i64 (linesFE l)) := by
 refine Con.of_body Tryz.func21 rfl Tryz.ntmps21 rfl rfl ?_
 refine hw_reg ?_
 refine dp rfl (pop_assign rfl) ?_
 refine dn ?_
 refine hw_seq ?_
 refine hw_reg ?_
 refine dp rfl (pop_move rfl) ?_
 refine dp rfl (pop_lenm ty54 rfl) ?_
 refine dp rfl (pop_gtr rfl rfl) ?_
 refine dn ?_
 refine hw_cond rfl (fun h1 => ?_) (fun h2 => ?_)
 ·try simp at h1
  refine hw_reg ?_
  refine dp rfl (pop_assign rfl) ?_
  refine dn ?_
  refine hw_ret ?_
  refine ret_p rfl ?_
  show HVal.int .i64 _ = _
  first
  | (rw [linesFE, if_pos (by omega)]; done)
  | (rw [linesFE, if_neg (by omega), hg]; rfl)
  | (have f1 := byWk_cmp.flip x (l.getD (k - 1) line0) trivial trivial
     have f2 := byWk_cmp.flip (l.getD (k - 1) line0) x trivial trivial
     refine congrArg _ (lines_ord (by omega) hg hlf ?_ ?_) <;> first | omega | (simp_all; done) | (simp_all; omega))
  | (refine congrArg _ (lines_bad (c := 7) (by omega) hg (by decide) ?_)
     rw [lineFault, if_neg, if_neg]
     ·refine (stats_ord hle40 hgs ?_ ?_ ?_).symm
      ·rw [statFault, if_neg, if_neg] <;> simp_all
      ·simp_all
      ·simp_all
     all_goals simp_all
     done)
  | (refine congrArg _ (lines_bad (c := 5) (by omega) hg (by decide) ?_)
     rw [lineFault, if_neg, if_neg]
     ·refine (stats_bad (c := 5) hle40 hgs (by decide) ?_).symm
      rw [statFault, if_pos]
      simp_all
     all_goals simp_all
     done)
  | (refine congrArg _ (lines_bad (c := 1) (by omega) hg (by decide) ?_)
     rw [lineFault, if_neg, if_neg]
     ·refine (stats_bad (c := 1) hle40 hgs (by decide) ?_).symm
      rw [statFault, if_neg, if_pos]
      all_goals simp_all [or_comm]
     all_goals simp_all
     done)
  | (refine congrArg _ (lines_bad (c := 2) (by omega) hg (by decide) ?_)
     rw [lineFault, if_neg, if_neg]
     ·rw [statsE, if_pos]
      omega
     all_goals simp_all
     done)
  | (refine congrArg _ (lines_bad (c := 5) (by omega) hg (by decide) ?_)
     rw [lineFault, if_pos]
     simp_all
     done)
  | (refine congrArg _ (lines_bad (c := 1) (by omega) hg (by decide) ?_)
     rw [lineFault, if_neg, if_pos]
     all_goals simp_all
     done)
 ·try simp at h2
  refine hw_skip ?_
  refine seqQ_n ?_
  refine hw_seq ?_
  refine hw_reg ?_
  refine dp rfl (pop_move rfl) ?_
  refine dp rfl (pop_lenm ty54 rfl) ?_
  refine dp rfl (pop_move rfl) ?_
  refine dn ?_
  refine hw_block ?_
  refine hw_loopw (2 :: 3 :: 4 :: 5 :: 6 :: 12 :: 13 :: 14 :: 15 :: 16 :: 17 :: 18 :: 19 :: 20 :: 21 :: 22 :: 23 :: 24 :: 25 :: 26 :: 27 :: 28 :: 29 :: 30 :: 31 :: 32 :: 33 :: 34 :: 35 :: 36 :: 37 :: 38 :: 39 :: 40 :: 41 :: 42 :: 43 :: 44 :: 45 :: 46 :: 47 :: 48 :: 49 :: 50 :: 51 :: 52 :: 53 :: 54 :: 55 :: 56 :: 57 :: 58 :: 59 :: 60 :: 61 :: 62 :: 63 :: 64 :: 65 :: 66 :: 67 :: 68 :: 69 :: 70 :: 71 :: 72 :: 73 :: 74 :: 75 :: 76 :: 77 :: 78 :: 79 :: 80 :: 81 :: 82 :: 83 :: []) (fun (k : Nat) => [(12, .int .i64 k)]) (fun (k : Nat) => []) (fun (k : Nat) => k ≤ l.length ∧ (chkGo lineFault byWk line0 l 0 l = chkGo lineFault byWk line0 l k (l.drop k))) (fun (k : Nat) => l.length - k) (0) ?_ ?_ ?_ ?_
  ·exact ⟨Nat.zero_le _, rfl⟩
  ·exact ⟨rfl, trivial⟩
  ·exact List.Perm.refl _
  ·intro k hinv
   obtain ⟨hk, hg⟩ := hinv
   refine hw_reg ?_
   refine dp rfl (pop_lss rfl rfl) ?_
   refine dn ?_
   refine hw_seq ?_
   refine hw_cond rfl (fun h3 => ?_) (fun h4 => ?_)
   ·try simp at h3
    obtain ⟨x, hx⟩ : ∃ x, l[k]? = some x := ⟨_, List.getElem?_eq_getElem h3⟩
    have hdx := drop_cons hx
    rw [hdx] at hg
    refine hw_skip ?_
    refine seqQ_n ?_
    refine hw_seq ?_
    refine hw_block ?_
    refine hw_reg ?_
    refine dp rfl (pop_move rfl) ?_
    refine dp rfl (pop_idx ty54 ty63 rfl rfl rfl (by first | assumption | simp_all)) ?_
    refine dp rfl (pop_loadw ty63 rfl rfl rfl rfl) ?_
    refine de rfl (eop_alloc ty63 rfl fun b4 => ?_)
    refine dp rfl (pop_assign rfl) ?_
    refine de0 (eop_storew ty63 rfl rfl rfl rfl rfl ?_)
    refine dn ?_
    refine hw_ghost (Ghost.fc0 4 rfl) ?_
    refine hw_seq ?_
    refine hw_block ?_
    refine hw_reg ?_
    refine dp rfl (pop_fieldAddr ty63 rfl ty9 (by decide) rfl) ?_
    refine dp rfl (pop_load ty9 rfl rfl rfl) ?_
    refine dp rfl (pop_call ca52 rfl (WeakL.refl _) (c_benchref1_Key (hgl x (List.mem_of_getElem? hx)).1)) ?_
    refine dp rfl (pop_not rfl) ?_
    refine dp rfl (pop_assign rfl) ?_
    refine dn ?_
    refine hw_cond rfl (fun h5 => ?_) (fun h6 => ?_)
    ·try simp at h5
     refine hw_reg ?_
     refine dp rfl (pop_assign rfl) ?_
     refine dn ?_
     refine hw_ret ?_
     refine ret_p rfl ?_
     show HVal.int .i64 _ = _
     first
     | (rw [linesFE, if_pos (by omega)]; done)
     | (rw [linesFE, if_neg (by omega), hg]; rfl)
     | (have f1 := byWk_cmp.flip x (l.getD (k - 1) line0) trivial trivial
        have f2 := byWk_cmp.flip (l.getD (k - 1) line0) x trivial trivial
        refine congrArg _ (lines_ord (by omega) hg hlf ?_ ?_) <;> first | omega | (simp_all; done) | (simp_all; omega))
     | (refine congrArg _ (lines_bad (c := 7) (by omega) hg (by decide) ?_)
        rw [lineFault, if_neg, if_neg]
        ·refine (stats_ord hle40 hgs ?_ ?_ ?_).symm
         ·rw [statFault, if_neg, if_neg] <;> simp_all
         ·simp_all
         ·simp_all
        all_goals simp_all
        done)
     | (refine congrArg _ (lines_bad (c := 5) (by omega) hg (by decide) ?_)
        rw [lineFault, if_neg, if_neg]
        ·refine (stats_bad (c := 5) hle40 hgs (by decide) ?_).symm
         rw [statFault, if_pos]
         simp_all
        all_goals simp_all
        done)
     | (refine congrArg _ (lines_bad (c := 1) (by omega) hg (by decide) ?_)
        rw [lineFault, if_neg, if_neg]
        ·refine (stats_bad (c := 1) hle40 hgs (by decide) ?_).symm
         rw [statFault, if_neg, if_pos]
         all_goals simp_all [or_comm]
        all_goals simp_all
        done)
     | (refine congrArg _ (lines_bad (c := 2) (by omega) hg (by decide) ?_)
        rw [lineFault, if_neg, if_neg]
        ·rw [statsE, if_pos]
         omega
        all_goals simp_all
        done)
     | (refine congrArg _ (lines_bad (c := 5) (by omega) hg (by decide) ?_)
        rw [lineFault, if_pos]
        simp_all
        done)
     | (refine congrArg _ (lines_bad (c := 1) (by omega) hg (by decide) ?_)
        rw [lineFault, if_neg, if_pos]
        all_goals simp_all
        done)
    ·try simp at h6
     refine hw_reg ?_
     refine dp rfl (pop_fieldAddr ty63 rfl ty3 (by decide) rfl) ?_
     refine dp rfl (pop_load ty3 rfl rfl rfl) ?_
     refine dp rfl (pop_call ca43 rfl (WeakL.refl _) c_benchref1_WeekFault) ?_
     refine dp rfl (pop_neq rfl rfl) ?_
     refine dp rfl (pop_assign rfl) ?_
     refine dn ?_
     refine hw_cond rfl (fun h7 => ?_) (fun h8 => ?_)
     ·try simp at h7
      refine hw_reg ?_
      refine dp rfl (pop_assign rfl) ?_
      refine dn ?_
      refine hw_ret ?_
      refine ret_p rfl ?_
      show HVal.int .i64 _ = _
      first
      | (rw [linesFE, if_pos (by omega)]; done)
      | (rw [linesFE, if_neg (by omega), hg]; rfl)
      | (have f1 := byWk_cmp.flip x (l.getD (k - 1) line0) trivial trivial
         have f2 := byWk_cmp.flip (l.getD (k - 1) line0) x trivial trivial
         refine congrArg _ (lines_ord (by omega) hg hlf ?_ ?_) <;> first | omega | (simp_all; done) | (simp_all; omega))
      | (refine congrArg _ (lines_bad (c := 7) (by omega) hg (by decide) ?_)
         rw [lineFault, if_neg, if_neg]
         ·refine (stats_ord hle40 hgs ?_ ?_ ?_).symm
          ·rw [statFault, if_neg, if_neg] <;> simp_all
          ·simp_all
          ·simp_all
         all_goals simp_all
         done)
      | (refine congrArg _ (lines_bad (c := 5) (by omega) hg (by decide) ?_)
         rw [lineFault, if_neg, if_neg]
         ·refine (stats_bad (c := 5) hle40 hgs (by decide) ?_).symm
          rw [statFault, if_pos]
          simp_all
         all_goals simp_all
         done)
      | (refine congrArg _ (lines_bad (c := 1) (by omega) hg (by decide) ?_)
         rw [lineFault, if_neg, if_neg]
         ·refine (stats_bad (c := 1) hle40 hgs (by decide) ?_).symm
          rw [statFault, if_neg, if_pos]
          all_goals simp_all [or_comm]
         all_goals simp_all
         done)
      | (refine congrArg _ (lines_bad (c := 2) (by omega) hg (by decide) ?_)
         rw [lineFault, if_neg, if_neg]
         ·rw [statsE, if_pos]
          omega
         all_goals simp_all
         done)
      | (refine congrArg _ (lines_bad (c := 5) (by omega) hg (by decide) ?_)
         rw [lineFault, if_pos]
         simp_all
         done)
      | (refine congrArg _ (lines_bad (c := 1) (by omega) hg (by decide) ?_)
         rw [lineFault, if_neg, if_pos]
         all_goals simp_all
         done)
     ·try simp at h8
      refine hw_reg ?_
      refine dp rfl (pop_fieldAddr ty63 rfl ty61 (by decide) rfl) ?_
      refine dp rfl (pop_load ty61 rfl rfl rfl) ?_
      refine dp rfl (pop_lenm ty61 rfl) ?_
      refine dp rfl (pop_gtr rfl rfl) ?_
      refine dp rfl (pop_assign rfl) ?_
      refine dn ?_
      refine hw_cond rfl (fun h9 => ?_) (fun h10 => ?_)
      ·try simp at h9
       refine hw_reg ?_
       refine dp rfl (pop_assign rfl) ?_
       refine dn ?_
       refine hw_ret ?_
       refine ret_p rfl ?_
       show HVal.int .i64 _ = _
       first
       | (rw [linesFE, if_pos (by omega)]; done)
       | (rw [linesFE, if_neg (by omega), hg]; rfl)
       | (have f1 := byWk_cmp.flip x (l.getD (k - 1) line0) trivial trivial
          have f2 := byWk_cmp.flip (l.getD (k - 1) line0) x trivial trivial
          refine congrArg _ (lines_ord (by omega) hg hlf ?_ ?_) <;> first | omega | (simp_all; done) | (simp_all; omega))
       | (refine congrArg _ (lines_bad (c := 7) (by omega) hg (by decide) ?_)
          rw [lineFault, if_neg, if_neg]
          ·refine (stats_ord hle40 hgs ?_ ?_ ?_).symm
           ·rw [statFault, if_neg, if_neg] <;> simp_all
           ·simp_all
           ·simp_all
          all_goals simp_all
          done)
       | (refine congrArg _ (lines_bad (c := 5) (by omega) hg (by decide) ?_)
          rw [lineFault, if_neg, if_neg]
          ·refine (stats_bad (c := 5) hle40 hgs (by decide) ?_).symm
           rw [statFault, if_pos]
           simp_all
          all_goals simp_all
          done)
       | (refine congrArg _ (lines_bad (c := 1) (by omega) hg (by decide) ?_)
          rw [lineFault, if_neg, if_neg]
          ·refine (stats_bad (c := 1) hle40 hgs (by decide) ?_).symm
           rw [statFault, if_neg, if_pos]
           all_goals simp_all [or_comm]
          all_goals simp_all
          done)
       | (refine congrArg _ (lines_bad (c := 2) (by omega) hg (by decide) ?_)
          rw [lineFault, if_neg, if_neg]
          ·rw [statsE, if_pos]
           omega
          all_goals simp_all
          done)
       | (refine congrArg _ (lines_bad (c := 5) (by omega) hg (by decide) ?_)
          rw [lineFault, if_pos]
          simp_all
          done)
       | (refine congrArg _ (lines_bad (c := 1) (by omega) hg (by decide) ?_)
          rw [lineFault, if_neg, if_pos]
          all_goals simp_all
          done)
      ·try simp at h10
       refine hw_skip ?_
       refine blockQ_n ?_
       refine seqQ_n ?_
       refine hw_seq ?_
       have hxl := hL x (List.mem_of_getElem? hx)
       have hle40 : ¬ 40 < x.Stats.length := by omega
       refine hw_reg ?_
       refine dp rfl (pop_fieldAddr ty63 rfl ty61 (by decide) rfl) ?_
       refine dp rfl (pop_load ty61 rfl rfl rfl) ?_
       refine dp rfl (pop_lenm ty61 rfl) ?_
       refine dp rfl (pop_move rfl) ?_
       refine dn ?_
       refine hw_block ?_
       refine hw_loopw [2, 5, 6, 35, 36, 37, 38, 39, 40, 41, 42, 43, 44, 45, 46, 47, 48, 49, 50, 51, 52, 53, 54, 55, 56, 57, 58, 59, 60, 61, 62, 63, 64, 65, 66, 67, 68, 69, 70] (fun (j : Nat) => [(35, .int .i64 j)]) (fun (j : Nat) => []) (fun (j : Nat) => j ≤ x.Stats.length ∧ (chkGo statFault byNm stat0 x.Stats 0 x.Stats = chkGo statFault byNm stat0 x.Stats j (x.Stats.drop j))) (fun (j : Nat) => x.Stats.length - j) (0) ?_ ?_ ?_ ?_
       ·exact ⟨Nat.zero_le _, rfl⟩
       ·exact ⟨rfl, trivial⟩
       ·exact List.Perm.refl _
       ·intro j hinv
        obtain ⟨hj, hgs⟩ := hinv
        refine hw_reg ?_
        refine dp rfl (pop_lss rfl rfl) ?_
        refine dn ?_
        refine hw_seq ?_
        refine hw_cond rfl (fun h11 => ?_) (fun h12 => ?_)
        ·try simp at h11
         obtain ⟨s, hs⟩ : ∃ s, x.Stats[j]? = some s := ⟨_, List.getElem?_eq_getElem h11⟩
         have hds := drop_cons hs
         rw [hds] at hgs
         refine hw_skip ?_
         refine seqQ_n ?_
         refine hw_seq ?_
         refine hw_block ?_
         refine hw_reg ?_
         refine dp rfl (pop_move rfl) ?_
         refine dp rfl (pop_idx ty61 ty121 rfl rfl rfl (by first | assumption | simp_all)) ?_
         refine dp rfl (pop_loadw ty121 rfl rfl rfl rfl) ?_
         refine de rfl (eop_alloc ty121 rfl fun b6 => ?_)
         refine dp rfl (pop_assign rfl) ?_
         refine de0 (eop_storew ty121 rfl rfl rfl rfl rfl ?_)
         refine dn ?_
         refine hw_ghost (Ghost.fc0 6 rfl) ?_
         refine hw_block ?_
         refine hw_reg ?_
         refine dp rfl (pop_fieldAddr ty121 rfl ty9 (by decide) rfl) ?_
         refine dp rfl (pop_load ty9 rfl rfl rfl) ?_
         refine dp rfl (pop_call ca52 rfl (WeakL.refl _) (c_benchref1_Key ((hgl x (List.mem_of_getElem? hx)).2 s (List.mem_of_getElem? hs)))) ?_
         refine dp rfl (pop_not rfl) ?_
         refine dp rfl (pop_assign rfl) ?_
         refine dn ?_
         refine hw_cond rfl (fun h13 => ?_) (fun h14 => ?_)
         ·try simp at h13
          refine hw_reg ?_
          refine dp rfl (pop_assign rfl) ?_
          refine dn ?_
          refine hw_ret ?_
          refine ret_p rfl ?_
          show HVal.int .i64 _ = _
          first
          | (rw [linesFE, if_pos (by omega)]; done)
          | (rw [linesFE, if_neg (by omega), hg]; rfl)
          | (have f1 := byWk_cmp.flip x (l.getD (k - 1) line0) trivial trivial
             have f2 := byWk_cmp.flip (l.getD (k - 1) line0) x trivial trivial
             refine congrArg _ (lines_ord (by omega) hg hlf ?_ ?_) <;> first | omega | (simp_all; done) | (simp_all; omega))
          | (refine congrArg _ (lines_bad (c := 7) (by omega) hg (by decide) ?_)
             rw [lineFault, if_neg, if_neg]
             ·refine (stats_ord hle40 hgs ?_ ?_ ?_).symm
              ·rw [statFault, if_neg, if_neg] <;> simp_all
              ·simp_all
              ·simp_all
             all_goals simp_all
             done)
          | (refine congrArg _ (lines_bad (c := 5) (by omega) hg (by decide) ?_)
             rw [lineFault, if_neg, if_neg]
             ·refine (stats_bad (c := 5) hle40 hgs (by decide) ?_).symm
              rw [statFault, if_pos]
              simp_all
             all_goals simp_all
             done)
          | (refine congrArg _ (lines_bad (c := 1) (by omega) hg (by decide) ?_)
             rw [lineFault, if_neg, if_neg]
             ·refine (stats_bad (c := 1) hle40 hgs (by decide) ?_).symm
              rw [statFault, if_neg, if_pos]
              all_goals simp_all [or_comm]
             all_goals simp_all
             done)
          | (refine congrArg _ (lines_bad (c := 2) (by omega) hg (by decide) ?_)
             rw [lineFault, if_neg, if_neg]
             ·rw [statsE, if_pos]
              omega
             all_goals simp_all
             done)
          | (refine congrArg _ (lines_bad (c := 5) (by omega) hg (by decide) ?_)
             rw [lineFault, if_pos]
             simp_all
             done)
          | (refine congrArg _ (lines_bad (c := 1) (by omega) hg (by decide) ?_)
             rw [lineFault, if_neg, if_pos]
             all_goals simp_all
             done)
         ·try simp at h14
          refine hw_reg ?_
          refine dp rfl (pop_fieldAddr ty121 rfl ty3 (by decide) rfl) ?_
          refine dp rfl (pop_load ty3 rfl rfl rfl) ?_
          refine dp rfl (pop_eql rfl rfl) ?_
          refine dp rfl (pop_move rfl) ?_
          refine dg rfl rfl (fun hc => ⟨_, OpenTo.refl _, pop_fieldAddr ty121 rfl ty3 (by decide) rfl⟩) ?_
          refine dg rfl rfl (fun hc => ⟨_, OpenTo.upd (t := 50) rfl (by first | exact hc | simp_all) (OpenTo.refl _), pop_load ty3 rfl rfl rfl⟩) ?_
          refine dg rfl rfl (fun hc => ⟨_, OpenTo.upd (t := 51) rfl (by first | exact hc | simp_all) (OpenTo.refl _), pop_call ca53 rfl (WeakL.refl _) c_benchref1_in⟩) ?_
          refine dg rfl rfl (fun hc => ⟨_, OpenTo.upd (t := 52) rfl (by first | exact hc | simp_all) (OpenTo.refl _), pop_not rfl⟩) ?_
          refine dp rfl (pop_picko rfl (.inl rfl) (.inr ⟨_, rfl, fun h => by simp_all⟩)) ?_
          refine dp rfl (pop_assign rfl) ?_
          refine dn ?_
          refine hw_cond rfl (fun h15 => ?_) (fun h16 => ?_)
          ·try simp at h15
           refine hw_reg ?_
           refine dp rfl (pop_assign rfl) ?_
           refine dn ?_
           refine hw_ret ?_
           refine ret_p rfl ?_
           show HVal.int .i64 _ = _
           first
           | (rw [linesFE, if_pos (by omega)]; done)
           | (rw [linesFE, if_neg (by omega), hg]; rfl)
           | (have f1 := byWk_cmp.flip x (l.getD (k - 1) line0) trivial trivial
              have f2 := byWk_cmp.flip (l.getD (k - 1) line0) x trivial trivial
              refine congrArg _ (lines_ord (by omega) hg hlf ?_ ?_) <;> first | omega | (simp_all; done) | (simp_all; omega))
           | (refine congrArg _ (lines_bad (c := 7) (by omega) hg (by decide) ?_)
              rw [lineFault, if_neg, if_neg]
              ·refine (stats_ord hle40 hgs ?_ ?_ ?_).symm
               ·rw [statFault, if_neg, if_neg] <;> simp_all
               ·simp_all
               ·simp_all
              all_goals simp_all
              done)
           | (refine congrArg _ (lines_bad (c := 5) (by omega) hg (by decide) ?_)
              rw [lineFault, if_neg, if_neg]
              ·refine (stats_bad (c := 5) hle40 hgs (by decide) ?_).symm
               rw [statFault, if_pos]
               simp_all
              all_goals simp_all
              done)
           | (refine congrArg _ (lines_bad (c := 1) (by omega) hg (by decide) ?_)
              rw [lineFault, if_neg, if_neg]
              ·refine (stats_bad (c := 1) hle40 hgs (by decide) ?_).symm
               rw [statFault, if_neg, if_pos]
               all_goals simp_all [or_comm]
              all_goals simp_all
              done)
           | (refine congrArg _ (lines_bad (c := 2) (by omega) hg (by decide) ?_)
              rw [lineFault, if_neg, if_neg]
              ·rw [statsE, if_pos]
               omega
              all_goals simp_all
              done)
           | (refine congrArg _ (lines_bad (c := 5) (by omega) hg (by decide) ?_)
              rw [lineFault, if_pos]
              simp_all
              done)
           | (refine congrArg _ (lines_bad (c := 1) (by omega) hg (by decide) ?_)
              rw [lineFault, if_neg, if_pos]
              all_goals simp_all
              done)
          ·try simp at h16
           refine hw_draw (fun _ => True) [] mixed ?_
           refine ahp 0 rfl rfl (by kernel_rfl) (by kernel_rfl) (pop_move rfl) ?_
           refine ahp 1 rfl rfl (by kernel_rfl) (by kernel_rfl) (pop_gtr rfl rfl) ?_
           refine ahp 2 rfl rfl (by kernel_rfl) (by kernel_rfl) (pop_move rfl) ?_
           refine ahg 3 rfl rfl (by kernel_rfl) (by kernel_rfl) rfl (fun hc => ⟨_, OpenTo.refl _, pop_fieldAddr ty121 rfl ty9 (by decide) rfl⟩) ?_
           refine ahg 4 rfl rfl (by kernel_rfl) (by kernel_rfl) rfl (fun hc => ⟨_, OpenTo.upd (t := 59) rfl (by first | exact hc | simp_all) (OpenTo.refl _), pop_load ty9 rfl rfl rfl⟩) ?_
           refine ahg 5 rfl rfl (by kernel_rfl) (by kernel_rfl) rfl (fun hc => ⟨_, OpenTo.refl _, pop_fieldAddr ty63 rfl ty61 (by decide) rfl⟩) ?_
           refine ahg 6 rfl rfl (by kernel_rfl) (by kernel_rfl) rfl (fun hc => ⟨_, OpenTo.upd (t := 61) rfl (by first | exact hc | simp_all) (OpenTo.refl _), pop_load ty61 rfl rfl rfl⟩) ?_
           refine ahg 7 rfl rfl (by kernel_rfl) (by kernel_rfl) rfl (fun hc => ⟨_, OpenTo.refl _, pop_move rfl⟩) ?_
           refine ahg 8 rfl rfl (by kernel_rfl) (by kernel_rfl) rfl (fun hc => by have hq := hc; (try simp at hq); exact ⟨_, OpenTo.upd (t := 63) rfl (by first | exact hc | simp_all) (OpenTo.refl _), pop_sub64 rfl rfl (by omega) (by omega)⟩) ?_
           refine ahg 9 rfl rfl (by kernel_rfl) (by kernel_rfl) rfl (fun hc => by have hq := hc; (try simp at hq); exact ⟨_, OpenTo.upd (t := 64) rfl (by first | exact hc | simp_all) (OpenTo.upd (t := 62) rfl (by first | exact hc | simp_all) (OpenTo.refl _)), pop_idx (j := j - 1) (a := x.Stats.getD (j - 1) stat0) ty61 ty121 rfl rfl (by omega) (getD_some (by omega))⟩) ?_
           refine ahg 10 rfl rfl (by kernel_rfl) (by kernel_rfl) rfl (fun hc => ⟨_, OpenTo.upd (t := 65) rfl (by first | exact hc | simp_all) (OpenTo.refl _), pop_fieldAddr ty121 rfl ty9 (by decide) rfl⟩) ?_
           refine ahg 11 rfl rfl (by kernel_rfl) (by kernel_rfl) rfl (fun hc => ⟨_, OpenTo.upd (t := 66) rfl (by first | exact hc | simp_all) (OpenTo.refl _), pop_load ty9 rfl rfl rfl⟩) ?_
           refine ahg 12 rfl rfl (by kernel_rfl) (by kernel_rfl) rfl (fun hc => ⟨_, OpenTo.upd (t := 67) rfl (by first | exact hc | simp_all) (OpenTo.upd (t := 60) rfl (by first | exact hc | simp_all) (OpenTo.refl _)), pop_leqs rfl rfl⟩) ?_
           refine ahp 13 rfl rfl (by kernel_rfl) (by kernel_rfl) (pop_picko rfl (.inr ⟨_, rfl, fun h => by simp_all⟩) (.inl rfl)) ?_
           refine ahp 14 rfl rfl (by kernel_rfl) (by kernel_rfl) (pop_assign rfl) ?_
           refine ahz (by kernel_rfl) ?_
           refine hw_cond rfl (fun h17 => ?_) (fun h18 => ?_)
           ·try simp at h17
            refine hw_reg ?_
            refine dp rfl (pop_assign rfl) ?_
            refine dn ?_
            refine hw_ret ?_
            refine ret_p rfl ?_
            show HVal.int .i64 _ = _
            first
            | (rw [linesFE, if_pos (by omega)]; done)
            | (rw [linesFE, if_neg (by omega), hg]; rfl)
            | (have f1 := byWk_cmp.flip x (l.getD (k - 1) line0) trivial trivial
               have f2 := byWk_cmp.flip (l.getD (k - 1) line0) x trivial trivial
               refine congrArg _ (lines_ord (by omega) hg hlf ?_ ?_) <;> first | omega | (simp_all; done) | (simp_all; omega))
            | (refine congrArg _ (lines_bad (c := 7) (by omega) hg (by decide) ?_)
               rw [lineFault, if_neg, if_neg]
               ·refine (stats_ord hle40 hgs ?_ ?_ ?_).symm
                ·rw [statFault, if_neg, if_neg] <;> simp_all
                ·simp_all
                ·simp_all
               all_goals simp_all
               done)
            | (refine congrArg _ (lines_bad (c := 5) (by omega) hg (by decide) ?_)
               rw [lineFault, if_neg, if_neg]
               ·refine (stats_bad (c := 5) hle40 hgs (by decide) ?_).symm
                rw [statFault, if_pos]
                simp_all
               all_goals simp_all
               done)
            | (refine congrArg _ (lines_bad (c := 1) (by omega) hg (by decide) ?_)
               rw [lineFault, if_neg, if_neg]
               ·refine (stats_bad (c := 1) hle40 hgs (by decide) ?_).symm
                rw [statFault, if_neg, if_pos]
                all_goals simp_all [or_comm]
               all_goals simp_all
               done)
            | (refine congrArg _ (lines_bad (c := 2) (by omega) hg (by decide) ?_)
               rw [lineFault, if_neg, if_neg]
               ·rw [statsE, if_pos]
                omega
               all_goals simp_all
               done)
            | (refine congrArg _ (lines_bad (c := 5) (by omega) hg (by decide) ?_)
               rw [lineFault, if_pos]
               simp_all
               done)
            | (refine congrArg _ (lines_bad (c := 1) (by omega) hg (by decide) ?_)
               rw [lineFault, if_neg, if_pos]
               all_goals simp_all
               done)
           ·try simp at h18
            refine hw_skip ?_
            refine blockQ_n ?_
            refine blockQ_n ?_
            refine seqQ_n ?_
            refine hw_reg1 ?_
            refine dp rfl (pop_add64 rfl rfl (by omega) (by omega)) ?_
            refine dp rfl (pop_move rfl) ?_
            refine dn ?_
            refine ⟨j + 1, ?_, ?_, ⟨rfl, trivial⟩, (by repeat (first | exact keeps_refl | refine keeps_upd rfl ?_ | refine keeps_loop rfl rfl ?_)), List.Perm.refl _⟩
            ·refine ⟨by omega, ?_⟩
             rw [hgs, stats_next (by rw [statFault, if_neg (by simp_all), if_neg (by simp_all)]) (by intro hk0; simp_all)]
            ·dsimp only; omega
        ·try simp at h12
         have hnj : x.Stats.length ≤ j := by omega
         obtain rfl : j = x.Stats.length := by omega
         rw [drop_all (Nat.le_refl _)] at hgs
         refine hw_exit ?_
         refine seqQ_x ?_
         refine loopQ_x ?_
         refine blockQ_eq ?_
         refine seqQ_n ?_
         have hse : statsE x.Stats = 0 := by rw [statsE, if_neg hle40, hgs]; rfl
         have hlf : lineFault x = 0 := by rw [lineFault, if_neg (by simp_all), if_neg (by simp_all)]; exact hse
         refine hw_draw (fun _ => True) [] mixed ?_
         refine ahp 0 rfl rfl (by kernel_rfl) (by kernel_rfl) (pop_move rfl) ?_
         refine ahp 1 rfl rfl (by kernel_rfl) (by kernel_rfl) (pop_gtr rfl rfl) ?_
         refine ahp 2 rfl rfl (by kernel_rfl) (by kernel_rfl) (pop_move rfl) ?_
         refine ahg 3 rfl rfl (by kernel_rfl) (by kernel_rfl) rfl (fun hc => ⟨_, OpenTo.refl _, pop_move rfl⟩) ?_
         refine ahg 4 rfl rfl (by kernel_rfl) (by kernel_rfl) rfl (fun hc => ⟨_, OpenTo.refl _, pop_move rfl⟩) ?_
         refine ahg 5 rfl rfl (by kernel_rfl) (by kernel_rfl) rfl (fun hc => by have hq := hc; (try simp at hq); exact ⟨_, OpenTo.upd (t := 75) rfl (by first | exact hc | simp_all) (OpenTo.refl _), pop_sub64 rfl rfl (by omega) (by omega)⟩) ?_
         refine ahg 6 rfl rfl (by kernel_rfl) (by kernel_rfl) rfl (fun hc => by have hq := hc; (try simp at hq); exact ⟨_, OpenTo.upd (t := 76) rfl (by first | exact hc | simp_all) (OpenTo.upd (t := 74) rfl (by first | exact hc | simp_all) (OpenTo.refl _)), pop_idx (j := k - 1) (a := l.getD (k - 1) line0) ty54 ty63 rfl rfl (by omega) (getD_some (by omega))⟩) ?_
         refine ahg 7 rfl rfl (by kernel_rfl) (by kernel_rfl) rfl (fun hc => ⟨_, OpenTo.upd (t := 77) rfl (by first | exact hc | simp_all) (OpenTo.refl _), pop_loadw ty63 rfl rfl rfl rfl⟩) ?_
         refine ahg 8 rfl rfl (by kernel_rfl) (by kernel_rfl) rfl (fun hc => ⟨_, OpenTo.refl _, pop_loadw ty63 rfl rfl rfl rfl⟩) ?_
         refine ahg 9 rfl rfl (by kernel_rfl) (by kernel_rfl) rfl (fun hc => ⟨_, OpenTo.upd (t := 79) rfl (by first | exact hc | simp_all) (OpenTo.upd (t := 78) rfl (by first | exact hc | simp_all) (OpenTo.refl _)), pop_eq (h' := .int .i64 (byWk (l.getD (k - 1) line0) x)) (pop_call ca78 rfl (WeakL.refl _) c_benchref1_byLine) rfl⟩) ?_
         refine ahg 10 rfl rfl (by kernel_rfl) (by kernel_rfl) rfl (fun hc => ⟨_, OpenTo.upd (t := 80) rfl (by first | exact hc | simp_all) (OpenTo.refl _), pop_geq rfl rfl⟩) ?_
         refine ahp 11 rfl rfl (by kernel_rfl) (by kernel_rfl) (pop_picko rfl (.inr ⟨_, rfl, fun h => by simp_all⟩) (.inl rfl)) ?_
         refine ahz (by kernel_rfl) ?_
         refine hw_cond rfl (fun h19 => ?_) (fun h20 => ?_)
         ·try simp at h19
          refine hw_reg ?_
          refine dp rfl (pop_assign rfl) ?_
          refine dn ?_
          refine hw_ret ?_
          refine ret_p rfl ?_
          show HVal.int .i64 _ = _
          first
          | (rw [linesFE, if_pos (by omega)]; done)
          | (rw [linesFE, if_neg (by omega), hg]; rfl)
          | (have f1 := byWk_cmp.flip x (l.getD (k - 1) line0) trivial trivial
             have f2 := byWk_cmp.flip (l.getD (k - 1) line0) x trivial trivial
             refine congrArg _ (lines_ord (by omega) hg hlf ?_ ?_) <;> first | omega | (simp_all; done) | (simp_all; omega))
          | (refine congrArg _ (lines_bad (c := 7) (by omega) hg (by decide) ?_)
             rw [lineFault, if_neg, if_neg]
             ·refine (stats_ord hle40 hgs ?_ ?_ ?_).symm
              ·rw [statFault, if_neg, if_neg] <;> simp_all
              ·simp_all
              ·simp_all
             all_goals simp_all
             done)
          | (refine congrArg _ (lines_bad (c := 5) (by omega) hg (by decide) ?_)
             rw [lineFault, if_neg, if_neg]
             ·refine (stats_bad (c := 5) hle40 hgs (by decide) ?_).symm
              rw [statFault, if_pos]
              simp_all
             all_goals simp_all
             done)
          | (refine congrArg _ (lines_bad (c := 1) (by omega) hg (by decide) ?_)
             rw [lineFault, if_neg, if_neg]
             ·refine (stats_bad (c := 1) hle40 hgs (by decide) ?_).symm
              rw [statFault, if_neg, if_pos]
              all_goals simp_all [or_comm]
             all_goals simp_all
             done)
          | (refine congrArg _ (lines_bad (c := 2) (by omega) hg (by decide) ?_)
             rw [lineFault, if_neg, if_neg]
             ·rw [statsE, if_pos]
              omega
             all_goals simp_all
             done)
          | (refine congrArg _ (lines_bad (c := 5) (by omega) hg (by decide) ?_)
             rw [lineFault, if_pos]
             simp_all
             done)
          | (refine congrArg _ (lines_bad (c := 1) (by omega) hg (by decide) ?_)
             rw [lineFault, if_neg, if_pos]
             all_goals simp_all
             done)
         ·try simp at h20
          refine hw_skip ?_
          refine blockQ_n ?_
          refine seqQ_n ?_
          refine hw_reg1 ?_
          refine dp rfl (pop_add64 rfl rfl (by omega) (by omega)) ?_
          refine dp rfl (pop_move rfl) ?_
          refine dn ?_
          refine ⟨k + 1, ?_, ?_, ⟨rfl, trivial⟩, (by repeat (first | exact keeps_refl | refine keeps_upd rfl ?_ | refine keeps_loop rfl rfl ?_)), List.Perm.refl _⟩
          ·refine ⟨by omega, ?_⟩
           rw [hg, chkGo_ne hlf (by intro hk0; have := byWk_cmp.flip x (l.getD (k - 1) line0) trivial trivial; have := byWk_cmp.flip (l.getD (k - 1) line0) x trivial trivial; simp_all; try omega)]
          ·dsimp only; omega
   ·try simp at h4
    have hnk : l.length ≤ k := by omega
    obtain rfl : k = l.length := by omega
    rw [drop_all (Nat.le_refl _)] at hg
    refine hw_exit ?_
    refine seqQ_x ?_
    refine loopQ_x ?_
    refine blockQ_eq ?_
    refine seqQ_n ?_
    refine hw_reg ?_
    refine dp rfl (pop_assign rfl) ?_
    refine dn ?_
    refine hw_ret ?_
    refine ret_p rfl ?_
    show HVal.int .i64 _ = _
    first
    | (rw [linesFE, if_pos (by omega)]; done)
    | (rw [linesFE, if_neg (by omega), hg]; rfl)
    | (have f1 := byWk_cmp.flip x (l.getD (k - 1) line0) trivial trivial
       have f2 := byWk_cmp.flip (l.getD (k - 1) line0) x trivial trivial
       refine congrArg _ (lines_ord (by omega) hg hlf ?_ ?_) <;> first | omega | (simp_all; done) | (simp_all; omega))
    | (refine congrArg _ (lines_bad (c := 7) (by omega) hg (by decide) ?_)
       rw [lineFault, if_neg, if_neg]
       ·refine (stats_ord hle40 hgs ?_ ?_ ?_).symm
        ·rw [statFault, if_neg, if_neg] <;> simp_all
        ·simp_all
        ·simp_all
       all_goals simp_all
       done)
    | (refine congrArg _ (lines_bad (c := 5) (by omega) hg (by decide) ?_)
       rw [lineFault, if_neg, if_neg]
       ·refine (stats_bad (c := 5) hle40 hgs (by decide) ?_).symm
        rw [statFault, if_pos]
        simp_all
       all_goals simp_all
       done)
    | (refine congrArg _ (lines_bad (c := 1) (by omega) hg (by decide) ?_)
       rw [lineFault, if_neg, if_neg]
       ·refine (stats_bad (c := 1) hle40 hgs (by decide) ?_).symm
        rw [statFault, if_neg, if_pos]
        all_goals simp_all [or_comm]
       all_goals simp_all
       done)
    | (refine congrArg _ (lines_bad (c := 2) (by omega) hg (by decide) ?_)
       rw [lineFault, if_neg, if_neg]
       ·rw [statsE, if_pos]
        omega
       all_goals simp_all
       done)
    | (refine congrArg _ (lines_bad (c := 5) (by omega) hg (by decide) ?_)
       rw [lineFault, if_pos]
       simp_all
       done)
    | (refine congrArg _ (lines_bad (c := 1) (by omega) hg (by decide) ?_)
       rw [lineFault, if_neg, if_pos]
       all_goals simp_all
       done)

end Go.Proofs.YtkamelfigfbfiaaGreatDoor
end
section
namespace Go.HL
section
variable {α : Type}
def Srt (c : α → α → Int) (l : List α) : Prop := l.Pairwise fun a b => c a b ≤ 0
theorem Cmp.self {c : α → α → Int} (hc : Cmp c fun _ => True) (x : α) : c x x ≤ 0 := by
 have := hc.flip x x trivial trivial; omega
theorem Srt.get {c : α → α → Int} (hc : Cmp c fun _ => True) {l : List α} (h : Srt c l) {i j : Nat} {x y : α} (hij : i ≤ j) (hx : l[i]? = some x) (hy : l[j]? = some y) : c x y ≤ 0 := by
 rcases Nat.lt_or_ge i j with hlt | hge
 ·have h1 := lt_of_get hx
  have h2 := lt_of_get hy
  have := List.pairwise_iff_getElem.1 h i j h1 h2 hlt
  rw [List.getElem?_eq_getElem h1] at hx
  rw [List.getElem?_eq_getElem h2] at hy
  rw [Option.some.inj hx, Option.some.inj hy] at this
  exact this
 ·have e : i = j := by omega
  rw [e, hy] at hx
  rw [Option.some.inj hx]; exact hc.self _
theorem mem_take_get {l : List α} {k : Nat} {z : α} (h : z ∈ l.take k) : ∃ i, i < k ∧ l[i]? = some z := by
 obtain ⟨i, hi⟩ := List.getElem?_of_mem h
 have hik : i < k := by have := lt_of_get hi; rw [List.length_take] at this; omega
 rw [List.getElem?_take_of_lt hik] at hi
 exact ⟨i, hik, hi⟩
theorem mem_drop_get {l : List α} {k : Nat} {z : α} (h : z ∈ l.drop k) : ∃ i, k ≤ i ∧ l[i]? = some z := by
 obtain ⟨i, hi⟩ := List.getElem?_of_mem h
 rw [List.getElem?_drop] at hi
 exact ⟨k + i, by omega, hi⟩
/-- All that goes to the left is at most all that goes to the right. -/
theorem sym_split {c : α → α → Int} (hc : Cmp c fun _ => True) {X Y : List α} {k j : Nat} (hX : Srt c X) (hY : Srt c Y) (hk : k ≤ X.length) (hj : j ≤ Y.length)
 (h1 : ∀ x y, X[k - 1]? = some x → Y[j]? = some y → 0 < k → c x y ≤ 0) (h2 : ∀ x y, Y[j - 1]? = some y → X[k]? = some x → 0 < j → c y x ≤ 0) :
 ∀ z ∈ X.take k ++ Y.take j, ∀ w ∈ X.drop k ++ Y.drop j, c z w ≤ 0 := by
 intro z hz w hw
 rcases List.mem_append.1 hz with hz | hz <;> rcases List.mem_append.1 hw with hw | hw
 ·obtain ⟨i, hi, hz⟩ := mem_take_get hz
  obtain ⟨i', hi', hw⟩ := mem_drop_get hw
  exact hX.get hc (by omega) hz hw
 ·obtain ⟨i, hi, hz⟩ := mem_take_get hz
  obtain ⟨i', hi', hw⟩ := mem_drop_get hw
  have hl := lt_of_get hw
  have a1 := List.getElem?_eq_getElem (l := X) (i := k - 1) (by omega)
  have a2 := List.getElem?_eq_getElem (l := Y) (i := j) (by omega)
  have b1 := hX.get hc (show i ≤ k - 1 by omega) hz a1
  have b2 := h1 _ _ a1 a2 (by omega)
  have b3 := hY.get hc hi' a2 hw
  exact hc.trans _ _ _ trivial trivial trivial (hc.trans _ _ _ trivial trivial trivial b1 b2) b3
 ·obtain ⟨i, hi, hz⟩ := mem_take_get hz
  obtain ⟨i', hi', hw⟩ := mem_drop_get hw
  have hl := lt_of_get hw
  have a1 := List.getElem?_eq_getElem (l := Y) (i := j - 1) (by omega)
  have a2 := List.getElem?_eq_getElem (l := X) (i := k) (by omega)
  have b1 := hY.get hc (show i ≤ j - 1 by omega) hz a1
  have b2 := h2 _ _ a1 a2 (by omega)
  have b3 := hX.get hc hi' a2 hw
  exact hc.trans _ _ _ trivial trivial trivial (hc.trans _ _ _ trivial trivial trivial b1 b2) b3
 ·obtain ⟨i, hi, hz⟩ := mem_take_get hz
  obtain ⟨i', hi', hw⟩ := mem_drop_get hw
  exact hY.get hc (by omega) hz hw
theorem Srt.take {c : α → α → Int} {l : List α} (h : Srt c l) (k : Nat) : Srt c (l.take k) := List.Pairwise.sublist (List.take_sublist k l) h
theorem Srt.drop {c : α → α → Int} {l : List α} (h : Srt c l) (k : Nat) : Srt c (l.drop k) := List.Pairwise.sublist (List.drop_sublist k l) h
theorem Srt.app {c : α → α → Int} {A B : List α} (h1 : Srt c A) (h2 : Srt c B) (h : ∀ x ∈ A, ∀ y ∈ B, c x y ≤ 0) : Srt c (A ++ B) := List.pairwise_append.2 ⟨h1, h2, h⟩
theorem Srt.nil {c : α → α → Int} : Srt c [] := List.Pairwise.nil
/-- Two parts that are merged by themselves. -/
theorem sym_join {c : α → α → Int} (hc : Cmp c fun _ => True) {X Y Z1 Z2 : List α} {k j : Nat} (hX : Srt c X) (hY : Srt c Y) (hk : k ≤ X.length) (hj : j ≤ Y.length)
 (h1 : ∀ x y, X[k - 1]? = some x → Y[j]? = some y → 0 < k → c x y ≤ 0) (h2 : ∀ x y, Y[j - 1]? = some y → X[k]? = some x → 0 < j → c y x ≤ 0)
 (p1 : Z1.Perm (X.take k ++ Y.take j)) (p2 : Z2.Perm (X.drop k ++ Y.drop j)) (s1 : Srt c Z1) (s2 : Srt c Z2) : (Z1 ++ Z2).Perm (X ++ Y) ∧ Srt c (Z1 ++ Z2) := by
 refine ⟨?_, s1.app s2 fun x hx y hy => sym_split hc hX hY hk hj h1 h2 x (p1.mem_iff.1 hx) y (p2.mem_iff.1 hy)⟩
 refine (p1.append p2).trans ?_
 have e1 : X.take k ++ Y.take j ++ (X.drop k ++ Y.drop j) = X.take k ++ (Y.take j ++ X.drop k) ++ Y.drop j := by simp
 have e2 : X ++ Y = X.take k ++ (X.drop k ++ Y.take j) ++ Y.drop j := by
  have h3 := List.take_append_drop k X
  have h4 := List.take_append_drop j Y
  calc X ++ Y = (X.take k ++ X.drop k) ++ (Y.take j ++ Y.drop j) := by rw [h3, h4]
   _ = _ := by simp only [List.append_assoc]
 rw [e1, e2]
 exact ((List.perm_append_comm).append_left _).append_right _
/-- One element is put into a sorted list, from the left. -/
theorem one_left {c : α → α → Int} (hc : Cmp c fun _ => True) {x : α} {Y : List α} {j : Nat} (hY : Srt c Y) (hj : j ≤ Y.length) (h1 : ∀ y, Y[j]? = some y → c x y ≤ 0) (h2 : ∀ y, Y[j - 1]? = some y → 0 < j → c y x ≤ 0) :
 (Y.take j ++ x :: Y.drop j).Perm ([x] ++ Y) ∧ Srt c (Y.take j ++ x :: Y.drop j) := by
 have hX : Srt c [x] := List.pairwise_singleton _ _
 have key := sym_join (k := 0) (Z1 := Y.take j) (Z2 := x :: Y.drop j) hc hX hY (Nat.zero_le _) hj (fun _ _ _ _ h => absurd h (Nat.lt_irrefl _)) (fun x' y hy hx' h => by
  simp at hx'; subst hx'; exact h2 y hy h) (by simp) (by simp) (hY.take j) ?_
 ·exact key
 ·refine List.pairwise_cons.2 ⟨fun y hy => ?_, hY.drop j⟩
  obtain ⟨i, hi, hy⟩ := mem_drop_get hy
  have hl := lt_of_get hy
  have a2 := List.getElem?_eq_getElem (l := Y) (i := j) (by omega)
  exact hc.trans _ _ _ trivial trivial trivial (h1 _ a2) (hY.get hc hi a2 hy)
/-- One element is put into a sorted list, from the right. -/
theorem one_right {c : α → α → Int} (hc : Cmp c fun _ => True) {y : α} {X : List α} {k : Nat} (hX : Srt c X) (hk : k ≤ X.length) (h1 : ∀ x, X[k - 1]? = some x → 0 < k → c x y ≤ 0) (h2 : ∀ x, X[k]? = some x → c y x ≤ 0) :
 (X.take k ++ y :: X.drop k).Perm (X ++ [y]) ∧ Srt c (X.take k ++ y :: X.drop k) := by
 refine ⟨?_, ?_⟩
 ·have e : X ++ [y] = X.take k ++ (X.drop k ++ [y]) := by rw [← List.append_assoc, List.take_append_drop]
  rw [e]
  exact (List.perm_append_comm (l₁ := [y]) (l₂ := X.drop k)).append_left _
 ·refine (hX.take k).app (List.pairwise_cons.2 ⟨fun x hx => ?_, hX.drop k⟩) fun z hz w hw => ?_
  ·obtain ⟨i, hi, hx⟩ := mem_drop_get hx
   have hl := lt_of_get hx
   have a2 := List.getElem?_eq_getElem (l := X) (i := k) (by omega)
   exact hc.trans _ _ _ trivial trivial trivial (h2 _ a2) (hX.get hc hi a2 hx)
  ·obtain ⟨i, hi, hz⟩ := mem_take_get hz
   have hl := lt_of_get hz
   rcases List.mem_cons.1 hw with rfl | hw
   ·have a1 := List.getElem?_eq_getElem (l := X) (i := k - 1) (by omega)
    exact hc.trans _ _ _ trivial trivial trivial (hX.get hc (show i ≤ k - 1 by omega) hz a1) (h1 _ a1 (by omega))
   ·obtain ⟨i', hi', hw⟩ := mem_drop_get hw
    exact hX.get hc (by omega) hz hw
end
end Go.HL
end
section
namespace Go.HL
section
variable {α : Type} {c : α → α → Int}
/-- Each block of so many elements is sorted. -/
def Blk (c : α → α → Int) (bs : Nat) (l : List α) : Prop := ∀ q, Srt c ((l.drop (bs * q)).take bs)
theorem Blk.all {bs : Nat} {l : List α} (h : Blk c bs l) (hl : l.length ≤ bs) : Srt c l := by
 have := h 0
 rw [Nat.mul_zero, List.drop_zero, List.take_of_length_le hl] at this
 exact this
theorem Blk.nil {bs : Nat} : Blk c bs [] := fun q => by simp [Srt.nil]
theorem Blk.add {bs k : Nat} {Z W : List α} (h : Blk c bs Z) (hZ : Z.length = bs * k) (hW : Srt c W) (hl : W.length ≤ bs) : Blk c bs (Z ++ W) := by
 intro q
 rcases Nat.lt_trichotomy q k with hq | hq | hq
 ·have h1 : bs * q + bs ≤ Z.length := by rw [hZ, ← Nat.mul_succ]; exact Nat.mul_le_mul_left bs hq
  rw [List.drop_append_of_le_length (by omega), List.take_append_of_le_length (by rw [List.length_drop]; omega)]
  exact h q
 ·rw [hq, ← hZ, List.drop_left, List.take_of_length_le hl]; exact hW
 ·have h1 : Z.length + bs ≤ bs * q := by rw [hZ, ← Nat.mul_succ]; exact Nat.mul_le_mul_left bs hq
  rw [List.drop_of_length_le (by rw [List.length_append]; omega)]
  simp [Srt.nil]
theorem Blk.at {bs q a : Nat} {l : List α} (h : Blk c bs l) (ha : a = bs * q) : Srt c ((l.drop a).take bs) := by rw [ha]; exact h q
theorem Blk.last {bs q a : Nat} {l : List α} (h : Blk c bs l) (ha : a = bs * q) (hl : l.length ≤ a + bs) : Srt c (l.drop a) := by
 have := h.at ha
 rw [List.take_of_length_le (by rw [List.length_drop]; omega)] at this
 exact this
/-- Two parts of one length, of which the first so many elements have changed places. -/
def swR (A X B Y C : List α) (k : Nat) : List α := A ++ (Y.take k ++ X.drop k) ++ (B ++ (X.take k ++ Y.drop k) ++ C)
theorem swR_zero (A X B Y C : List α) : swR A X B Y C 0 = A ++ X ++ B ++ Y ++ C := by simp [swR]
theorem swR_end {A X B Y C : List α} (h : X.length = Y.length) : swR A X B Y C X.length = A ++ Y ++ B ++ X ++ C := by
 unfold swR
 rw [List.take_of_length_le (Nat.le_of_eq h.symm), List.drop_of_length_le (Nat.le_refl _), List.take_of_length_le (Nat.le_refl _), List.drop_of_length_le (Nat.le_of_eq h.symm)]
 simp
theorem swR_form {A X B Y C : List α} {k : Nat} {x y : α} (hx : X[k]? = some x) (hy : Y[k]? = some y) :
 swR A X B Y C k = (A ++ Y.take k) ++ x :: ((X.drop (k + 1) ++ B ++ X.take k) ++ y :: (Y.drop (k + 1) ++ C)) := by
 unfold swR; rw [drop_cons hx, drop_cons hy]; simp
theorem swR_step {A X B Y C : List α} {k : Nat} {x y : α} (hx : X[k]? = some x) (hy : Y[k]? = some y) :
 swR A X B Y C (k + 1) = (A ++ Y.take k) ++ y :: ((X.drop (k + 1) ++ B ++ X.take k) ++ x :: (Y.drop (k + 1) ++ C)) := by
 unfold swR; rw [take_snoc' hx, take_snoc' hy]; simp
theorem two_get1 {P Q R : List α} {x y : α} : (P ++ x :: (Q ++ y :: R))[P.length]? = some x := by simp
theorem two_get2 {P Q R : List α} {x y : α} {j : Nat} (hj : j = P.length + 1 + Q.length) : (P ++ x :: (Q ++ y :: R))[j]? = some y := by
 have e : P ++ x :: (Q ++ y :: R) = (P ++ x :: Q) ++ y :: R := by simp
 have hl : (P ++ x :: Q).length = j := by simp; omega
 rw [e, ← hl]; simp
theorem two_set {P Q R : List α} {x y x' y' : α} {i j : Nat} (hi : i = P.length) (hj : j = P.length + 1 + Q.length) : ((P ++ x :: (Q ++ y :: R)).set i x').set j y' = P ++ x' :: (Q ++ y' :: R) := by
 subst hi
 have e1 : (P ++ x :: (Q ++ y :: R)).set P.length x' = P ++ x' :: (Q ++ y :: R) := by rw [List.set_append_right _ _ (Nat.le_refl _)]; simp
 have e : P ++ x' :: (Q ++ y :: R) = (P ++ x' :: Q) ++ y :: R := by simp
 have hl : (P ++ x' :: Q).length = j := by simp; omega
 rw [e1, e, ← hl, List.set_append_right _ _ (Nat.le_refl _)]; simp
theorem swR_get1 {A X B Y C : List α} {k : Nat} {x y : α} (hx : X[k]? = some x) (hy : Y[k]? = some y) : (swR A X B Y C k)[A.length + k]? = some x := by
 have hk := lt_of_get hy
 have e : A.length + k = (A ++ Y.take k).length := by rw [List.length_append, List.length_take]; omega
 rw [swR_form hx hy, e]; exact two_get1
theorem swR_pos {A X B Y C : List α} {k : Nat} {x y : α} (hx : X[k]? = some x) (hy : Y[k]? = some y) : A.length + X.length + B.length + k = (A ++ Y.take k).length + 1 + (X.drop (k + 1) ++ B ++ X.take k).length := by
 have hk := lt_of_get hy
 have hk' := lt_of_get hx
 simp only [List.length_append, List.length_take, List.length_drop]; omega
theorem swR_get2 {A X B Y C : List α} {k : Nat} {x y : α} (hx : X[k]? = some x) (hy : Y[k]? = some y) : (swR A X B Y C k)[A.length + X.length + B.length + k]? = some y := by
 rw [swR_form hx hy]; exact two_get2 (swR_pos (C := C) hx hy)
theorem swR_get2' {A X B Y C : List α} {k : Nat} {x y z : α} (hx : X[k]? = some x) (hy : Y[k]? = some y) : ((swR A X B Y C k).set (A.length + k) z)[A.length + X.length + B.length + k]? = some y := by
 have hk' := lt_of_get hx
 rw [List.getElem?_set_ne (by omega)]; exact swR_get2 hx hy
theorem swR_set {A X B Y C : List α} {k : Nat} {x y : α} (hx : X[k]? = some x) (hy : Y[k]? = some y) : ((swR A X B Y C k).set (A.length + k) y).set (A.length + X.length + B.length + k) x = swR A X B Y C (k + 1) := by
 have hk := lt_of_get hy
 have e : A.length + k = (A ++ Y.take k).length := by rw [List.length_append, List.length_take]; omega
 rw [swR_form hx hy, swR_step hx hy]
 exact two_set e (swR_pos (C := C) hx hy)
/-! one element wanders -/
def wan (A Y : List α) (x : α) (C : List α) (j : Nat) : List α := A ++ (Y.take j ++ x :: Y.drop j) ++ C
theorem wan_zero (A Y C : List α) (x : α) : wan A Y x C 0 = A ++ [x] ++ Y ++ C := by simp [wan]
theorem wan_end (A Y C : List α) (x : α) : wan A Y x C Y.length = A ++ Y ++ [x] ++ C := by simp [wan]
theorem wan_form {A Y C : List α} {x y : α} {j : Nat} (hy : Y[j]? = some y) : wan A Y x C j = (A ++ Y.take j) ++ x :: ([] ++ y :: (Y.drop (j + 1) ++ C)) := by
 unfold wan; rw [drop_cons hy]; simp
theorem wan_step {A Y C : List α} {x y : α} {j : Nat} (hy : Y[j]? = some y) : wan A Y x C (j + 1) = (A ++ Y.take j) ++ y :: ([] ++ x :: (Y.drop (j + 1) ++ C)) := by
 unfold wan; rw [take_snoc' hy]; simp
theorem wan_len {A Y C : List α} {x y : α} {j : Nat} (hy : Y[j]? = some y) : A.length + j = (A ++ Y.take j).length := by
 have := lt_of_get hy
 rw [List.length_append, List.length_take]; omega
theorem wan_get1 {A Y C : List α} {x y : α} {j : Nat} (hy : Y[j]? = some y) : (wan A Y x C j)[A.length + j]? = some x := by
 rw [wan_form hy, wan_len (A := A) (C := C) (x := x) hy]; exact two_get1
theorem wan_get2 {A Y C : List α} {x y : α} {j : Nat} (hy : Y[j]? = some y) : (wan A Y x C j)[A.length + j + 1]? = some y := by
 rw [wan_form hy, wan_len (A := A) (C := C) (x := x) hy]; exact two_get2 rfl
/-- To the right. -/
theorem wan_set {A Y C : List α} {x y : α} {j : Nat} (hy : Y[j]? = some y) : ((wan A Y x C j).set (A.length + j) y).set (A.length + j + 1) x = wan A Y x C (j + 1) := by
 rw [wan_form hy, wan_step hy, wan_len (A := A) (C := C) (x := x) hy]; exact two_set rfl rfl
theorem wan_get2' {A Y C : List α} {x y z : α} {j : Nat} (hy : Y[j]? = some y) : ((wan A Y x C j).set (A.length + j) z)[A.length + j + 1]? = some y := by
 rw [List.getElem?_set_ne (by omega)]; exact wan_get2 hy
/-- To the left: the element is at j + 1, the one ahead of it at j. -/
theorem wan_at {A Y C : List α} {x y : α} {j : Nat} (hy : Y[j]? = some y) : (wan A Y x C (j + 1))[A.length + j + 1]? = some x ∧ (wan A Y x C (j + 1))[A.length + j]? = some y := by
 rw [wan_step hy, wan_len (A := A) (C := C) (x := x) hy]
 exact ⟨two_get2 rfl, two_get1⟩
theorem wan_at' {A Y C : List α} {x y z : α} {j : Nat} (hy : Y[j]? = some y) : ((wan A Y x C (j + 1)).set (A.length + j + 1) z)[A.length + j]? = some y := by
 rw [List.getElem?_set_ne (by omega)]; exact (wan_at hy).2
theorem wan_back {A Y C : List α} {x y : α} {j : Nat} (hy : Y[j]? = some y) : ((wan A Y x C (j + 1)).set (A.length + j + 1) y).set (A.length + j) x = wan A Y x C j := by
 have h := two_set (P := A ++ Y.take j) (Q := []) (R := Y.drop (j + 1) ++ C) (x := y) (y := x) (x' := x) (y' := y) (i := A.length + j) (j := A.length + j + 1) (wan_len (C := C) (x := x) hy) (by rw [wan_len (A := A) (C := C) (x := x) hy]; rfl)
 rw [wan_step hy, wan_form hy, List.set_comm _ _ (by omega)]
 exact h
theorem last_app {A D : List α} {x : α} (h : 0 < D.length) : ((A ++ D)[(A ++ D).length - 1]?).getD x = (D[D.length - 1]?).getD x := by
 rw [List.getElem?_append_right (by rw [List.length_append]; omega)]
 congr 2; rw [List.length_append]; omega
theorem last_app2 {A D : List α} {x : α} (h : 0 < D.length) : ((A ++ D)[A.length + D.length - 1]?).getD x = (D[D.length - 1]?).getD x := by
 have := last_app (A := A) (x := x) h
 rw [List.length_append] at this; exact this
theorem last_idx {A D : List α} {x y : α} : ((A ++ (D ++ [y]))[A.length + (D ++ [y]).length - 1]?).getD x = y := by
 rw [last_app2 (by simp)]; exact getD_snoc
theorem last_get {A D R : List α} {x y : α} : ((A ++ (D ++ [y])) ++ x :: R)[(A ++ (D ++ [y])).length - 1]? = some y := by
 have e : (A ++ (D ++ [y])) ++ x :: R = (A ++ D) ++ y :: x :: R := by simp
 have hl : (A ++ (D ++ [y])).length - 1 = (A ++ D).length := by simp [← Nat.add_assoc]
 rw [e, hl]; simp
theorem ins_win {A D B E C R : List α} {x : α} (h : D ++ x :: (B ++ E) = R) : (A ++ D) ++ x :: (B ++ E ++ C) = A ++ R ++ C := by rw [← h]; simp
theorem isort_srt (hc : Cmp c fun _ => True) (l : List α) : Srt c (isort c l) := isort_sorted hc (fun _ _ => trivial)
/-- A window of a list. -/
theorem win {l : List α} {a m : Nat} : l.drop a = (l.drop a).take m ++ l.drop (a + m) := by rw [← List.drop_drop, List.take_append_drop]
theorem take_add' {l : List α} {a m : Nat} : l.take (a + m) = l.take a ++ (l.drop a).take m := List.take_add
theorem sym_cond {A X Y : List α} {d p s1 s2 : Nat} (hc : Cmp c fun _ => True) (hP : ∀ x y, X[p - 1 - A.length]? = some x → Y[d - p]? = some y → s1 < p → ¬ c y x < 0) (hQ : ∀ x y, X[p - A.length]? = some x → Y[d - 1 - p]? = some y → p < s2 → c y x < 0)
 (hs1 : s1 = A.length ∨ d = s1 + Y.length) (hs2 : s2 = A.length + X.length ∨ s2 = d) (hsp : s1 ≤ p) (hps : p ≤ s2) (hpA : A.length ≤ p) :
 (∀ x y, X[p - A.length - 1]? = some x → Y[d - p]? = some y → 0 < p - A.length → c x y ≤ 0) ∧ (∀ x y, Y[d - p - 1]? = some y → X[p - A.length]? = some x → 0 < d - p → c y x ≤ 0) := by
 refine ⟨fun x y h1 h2 h0 => ?_, fun x y h1 h2 h0 => ?_⟩
 ·have hl := lt_of_get h2
  have := hP x y (by rw [show p - 1 - A.length = p - A.length - 1 by omega]; exact h1) h2 (by omega)
  have f1 := hc.flip x y trivial trivial
  have f2 := hc.flip y x trivial trivial
  omega
 ·have hl := lt_of_get h2
  have := hQ x y h2 (by rw [show d - 1 - p = d - p - 1 by omega]; exact h1) (by omega)
  omega
theorem sym_left {X Y : List α} {k j : Nat} (hX : Srt c X) (hY : Srt c Y) (h : k = 0 ∨ j = 0) : Srt c (X.take k ++ Y.take j) := by
 rcases h with rfl | rfl
 ·simpa using hY.take j
 ·simpa using hX.take k
theorem sym_right {X Y : List α} {k j : Nat} (hX : Srt c X) (hY : Srt c Y) (h : X.length ≤ k ∨ Y.length ≤ j) : Srt c (X.drop k ++ Y.drop j) := by
 rcases h with h | h
 ·rw [List.drop_of_length_le h]; exact hY.drop j
 ·rw [List.drop_of_length_le h, List.append_nil]; exact hX.drop k
theorem sym_pre {A X Y C : List α} {k j : Nat} : A ++ X ++ Y ++ C = (A ++ X.take k) ++ X.drop k ++ Y.take j ++ (Y.drop j ++ C) := by
 have h1 := List.take_append_drop k X
 have h2 := List.take_append_drop j Y
 calc A ++ X ++ Y ++ C = A ++ (X.take k ++ X.drop k) ++ (Y.take j ++ Y.drop j) ++ C := by rw [h1, h2]
  _ = _ := by simp only [List.append_assoc]
theorem sym_noswap {A X Y C : List α} {k j : Nat} (h : X.length ≤ k ∨ j = 0) : A ++ X ++ Y ++ C = (A ++ X.take k) ++ Y.take j ++ X.drop k ++ (Y.drop j ++ C) := by
 rcases h with h | rfl
 ·rw [List.drop_of_length_le h, List.take_of_length_le h]
  have := List.take_append_drop j Y
  calc A ++ X ++ Y ++ C = A ++ X ++ (Y.take j ++ Y.drop j) ++ C := by rw [this]
   _ = _ := by simp only [List.append_assoc, List.append_nil, List.nil_append]
 ·have := List.take_append_drop k X
  calc A ++ X ++ Y ++ C = A ++ (X.take k ++ X.drop k) ++ Y ++ C := by rw [this]
   _ = _ := by simp only [List.append_assoc, List.take_zero, List.drop_zero, List.nil_append]
theorem mid_get {A X C : List α} {k : Nat} {x : α} (h : X[k]? = some x) : (A ++ X ++ C)[A.length + k]? = some x := by
 have := lt_of_get h
 rw [List.append_assoc, List.getElem?_append_right (by omega), Nat.add_sub_cancel_left, List.getElem?_append_left this]; exact h
theorem mid_get2 {A X Y C : List α} {k : Nat} {y : α} (h : Y[k]? = some y) : (A ++ X ++ Y ++ C)[A.length + X.length + k]? = some y := by
 have := mid_get (A := A ++ X) (C := C) h
 rw [List.length_append] at this; exact this
theorem mid_get1 {A X Y C : List α} {k : Nat} {x : α} (h : X[k]? = some x) : (A ++ X ++ Y ++ C)[A.length + k]? = some x := by
 have := mid_get (A := A) (C := Y ++ C) h
 rw [← List.append_assoc] at this; exact this
end
end Go.HL
end
section
namespace Go.HL
section
variable {α : Type} [DecidableEq α]
/-- A list without the things that equal the one before (p ahead of the first). -/
def uniqA (p : Option α) : List α → List α
 | [] => []
 | x :: r => if p = some x then uniqA (some x) r else x :: uniqA (some x) r
theorem mem_uniqA : ∀ (l : List α) (p : Option α) (s : α), s ∈ uniqA p l → s ∈ l
 | [], _, s, h => by simp [uniqA] at h
 | x :: r, p, s, h => by
   simp only [uniqA] at h
   split at h
   ·exact List.mem_cons_of_mem _ (mem_uniqA r _ s h)
   ·rcases List.mem_cons.1 h with h | h
    ·subst h; simp
    ·exact List.mem_cons_of_mem _ (mem_uniqA r _ s h)
theorem mem_uniqA' : ∀ (l : List α) (p : Option α) (s : α), s ∈ l → s ∈ uniqA p l ∨ p = some s
 | [], _, _, h => by cases h
 | x :: r, p, s, h => by
   simp only [uniqA]
   rcases List.mem_cons.1 h with rfl | h
   ·split
    ·rename_i e; exact .inr e
    ·exact .inl (by simp)
   ·rcases mem_uniqA' r (some x) s h with q | q
    ·split
     ·exact .inl q
     ·exact .inl (List.mem_cons_of_mem _ q)
    ·cases q
     split
     ·rename_i e; exact .inr e
     ·exact .inl (by simp)
theorem uniqA_snoc (x : α) : ∀ (A : List α) (p : Option α), uniqA p (A ++ [x]) = uniqA p A ++ if (A.getLast?.or p) = some x then [] else [x]
 | [], p => by
   by_cases h : p = some x <;> simp [uniqA, h]
 | y :: A, p => by
   have ih := uniqA_snoc x A (some y)
   have e : ((y :: A).getLast?.or p) = (A.getLast?.or (some y)) := by
    cases A with
    | nil => simp
    | cons z A => simp [List.getLast?_cons_cons, List.getLast?_cons]
   simp only [List.cons_append, uniqA]
   rw [e, ih]
   split <;> simp
theorem uniqA_step {l : List α} {k : Nat} {x y : α} (hx : l[k]? = some x) (hy : l[k - 1]? = some y) (h0 : 0 < k) : uniqA none (l.take (k + 1)) = uniqA none (l.take k) ++ if x = y then [] else [x] := by
 have hk := lt_of_get hx
 rw [take_snoc' hx, uniqA_snoc]
 have e : ((l.take k).getLast?.or none) = some y := by
  rw [List.getLast?_eq_getElem?, List.length_take, Nat.min_eq_left (by omega), List.getElem?_take_of_lt (by omega), hy]; rfl
 rw [e]
 by_cases h : x = y
 ·rw [if_pos h, if_pos (by rw [h])]
 ·rw [if_neg h, if_neg (by simpa using fun q : y = x => h q.symm)]
theorem uniqA_one {l : List α} (h : l.length < 2) : uniqA none l = l := by
 match l, h with
 | [], _ => rfl
 | [x], _ => rfl
structure CmpA (l : List α) (j : Nat) (D : List α) : Prop where
 len : D.length = l.length
 lo : D.take (uniqA none (l.take j)).length = uniqA none (l.take j)
 lt : (uniqA none (l.take j)).length < j
 hi : ∀ i, j ≤ i + 1 → D[i]? = l[i]?
theorem CmpA.start {l : List α} {k : Nat} {x y : α} (hx : l[k]? = some x) (hy : l[k - 1]? = some y) (h0 : 0 < k) (e : x = y) (h : uniqA none (l.take k) = l.take k) : CmpA l (k + 1) l ∧ (uniqA none (l.take (k + 1))).length = k := by
 have hk := lt_of_get hx
 have h1 : uniqA none (l.take (k + 1)) = l.take k := by rw [uniqA_step hx hy h0, if_pos e, h]; simp
 have h2 : (l.take k).length = k := by rw [List.length_take]; omega
 exact ⟨⟨rfl, by rw [h1, h2], by rw [h1, h2]; omega, fun _ _ => rfl⟩, by rw [h1, h2]⟩
theorem CmpA.same {l D : List α} {j : Nat} (h : CmpA l j D) {x y : α} (hx : l[j]? = some x) (hy : l[j - 1]? = some y) (e : x = y) : CmpA l (j + 1) D ∧ (uniqA none (l.take (j + 1))).length = (uniqA none (l.take j)).length := by
 have h0 := h.lt
 have h1 : uniqA none (l.take (j + 1)) = uniqA none (l.take j) := by rw [uniqA_step hx hy (by omega), if_pos e]; simp
 exact ⟨⟨h.len, by rw [h1]; exact h.lo, by rw [h1]; omega, fun i hi => h.hi i (by omega)⟩, by rw [h1]⟩
theorem CmpA.more {l D : List α} {j : Nat} (h : CmpA l j D) {x y : α} (hx : l[j]? = some x) (hy : l[j - 1]? = some y) (e : x ≠ y) : CmpA l (j + 1) (D.set (uniqA none (l.take j)).length x) ∧ (uniqA none (l.take (j + 1))).length = (uniqA none (l.take j)).length + 1 := by
 have h0 := h.lt
 have hl := h.len
 have hj := lt_of_get hx
 have h1 : uniqA none (l.take (j + 1)) = uniqA none (l.take j) ++ [x] := by rw [uniqA_step hx hy (by omega), if_neg e]
 have h2 : (uniqA none (l.take (j + 1))).length = (uniqA none (l.take j)).length + 1 := by rw [h1]; simp
 refine ⟨⟨by simpa using hl, ?_, by omega, fun i hi => ?_⟩, h2⟩
 ·rw [h2, h1]
  have h3 : (D.set (uniqA none (l.take j)).length x)[(uniqA none (l.take j)).length]? = some x := by
   rw [List.getElem?_set_self (by omega)]
  rw [take_snoc' h3, List.take_set_of_le (Nat.le_refl _), h.lo]
 ·rw [List.getElem?_set_ne (by omega)]
  exact h.hi i (by omega)
/-- A sorted list without repeats: all that was there, still sorted, and neighbours differ. -/
theorem uniqA_nb {c : α → α → Int} : ∀ (l : List α) (p : Option α), l.Pairwise (fun x y => c x y ≤ 0) → (∀ q, p = some q → ∀ x ∈ l, c q x ≤ 0) →
 (uniqA p l).Pairwise (fun x y => c x y ≤ 0) ∧ (∀ q, p = some q → ∀ y ∈ uniqA p l, c q y ≤ 0) ∧ ∀ q, p = some q → (uniqA p l)[0]? ≠ some q
 | [], _, _, _ => ⟨by simp [uniqA], fun q _ y hy => by simp [uniqA] at hy, fun q _ => by simp [uniqA]⟩
 | x :: r, p, h, hp => by
   obtain ⟨h1, h2⟩ := List.pairwise_cons.1 h
   obtain ⟨i1, i2, i3⟩ := uniqA_nb r (some x) h2 (fun q e y hy => by cases e; exact h1 y hy)
   simp only [uniqA]
   split
   ·rename_i e
    refine ⟨i1, fun q eq y hy => ?_, fun q eq => ?_⟩
    ·rw [e] at eq; cases eq; exact i2 x rfl y hy
    ·rw [e] at eq; cases eq; exact i3 x rfl
   ·rename_i e
    refine ⟨List.pairwise_cons.2 ⟨fun y hy => i2 x rfl y hy, i1⟩, fun q eq y hy => ?_, fun q eq => ?_⟩
    ·rcases List.mem_cons.1 hy with rfl | hy
     ·exact hp q eq y List.mem_cons_self
     ·exact hp q eq y (List.mem_cons_of_mem _ (mem_uniqA r _ y hy))
    ·intro h9
     have : x = q := by simpa using h9
     exact e (by rw [eq, this])
theorem uniqA_adj {c : α → α → Int} : ∀ (l : List α) (p : Option α), l.Pairwise (fun x y => c x y ≤ 0) → (∀ q, p = some q → ∀ x ∈ l, c q x ≤ 0) → ∀ (i : Nat) (x y : α), (uniqA p l)[i]? = some x → (uniqA p l)[i + 1]? = some y → x ≠ y
 | [], _, _, _, i, x, y, hx, _ => by simp [uniqA] at hx
 | z :: r, p, h, hp, i, x, y, hx, hy => by
   obtain ⟨h1, h2⟩ := List.pairwise_cons.1 h
   have hp' : ∀ q, some z = some q → ∀ w ∈ r, c q w ≤ 0 := fun q e w hw => by cases e; exact h1 w hw
   simp only [uniqA] at hx hy
   split at hx
   ·rename_i e
    rw [if_pos e] at hy
    exact uniqA_adj r (some z) h2 hp' i x y hx hy
   ·rename_i e
    rw [if_neg e] at hy
    cases i with
    | zero =>
      simp at hx hy
      subst hx
      intro hxy
      exact (uniqA_nb r (some z) h2 hp').2.2 z rfl (by rw [hy, ← hxy])
    | succ i =>
      simp at hx hy
      exact uniqA_adj r (some z) h2 hp' i x y hx hy
theorem uniqA_len : ∀ (l : List α) (p : Option α), (uniqA p l).length ≤ l.length
 | [], p => by simp [uniqA]
 | x :: r, p => by
   have := uniqA_len r (some x)
   simp only [uniqA]
   split
   ·simp only [List.length_cons]; omega
   ·simp only [List.length_cons]; omega
theorem slOff_lt2 {cap off sz m : Nat} (h : m < cap) : slOff cap off sz m = off + m * sz := by
 unfold slOff; rw [if_neg (by omega)]
/-! two lists without repeats, each strictly sorted -/
variable {c : α → α → Int}
def cflA (c : α → α → Int) (a b : List α) : Bool := b.any fun x => a.any fun y => decide (c x y = 0) && decide (x ≠ y)
def addA (c : α → α → Int) (a b : List α) : List α := a ++ b.filter fun x => !(a.any fun y => decide (c x y = 0))
def merS (c : α → α → Int) (a b : List α) : List α := isort c (addA c a b)
/-- Neighbours that do not compare as alike make a strict list. -/
theorem strict_adj {β : Type} {c : β → β → Int} (hc : Cmp c fun _ => True) {D : List β} (hs : D.Pairwise fun x y => c x y ≤ 0) (h : ∀ (i : Nat) (x y : β), D[i]? = some x → D[i + 1]? = some y → c x y ≠ 0) : D.Pairwise fun x y => c x y < 0 := by
 refine List.pairwise_iff_getElem.2 fun i j hi hj hij => ?_
 have h1 := List.pairwise_iff_getElem.1 hs i j hi hj hij
 have hi1 : i + 1 < D.length := by omega
 have h2 := h i D[i] D[i + 1] (List.getElem?_eq_getElem hi) (List.getElem?_eq_getElem hi1)
 have h3 := List.pairwise_iff_getElem.1 hs i (i + 1) hi hi1 (by omega)
 rcases Nat.lt_or_ge (i + 1) j with hlt | hge
 ·have h4 := List.pairwise_iff_getElem.1 hs (i + 1) j hi1 hj hlt
  have f1 := hc.flip D[i] D[i + 1] trivial trivial
  have f2 := hc.flip D[i] D[j] trivial trivial
  have f3 := hc.flip D[j] D[i] trivial trivial
  have f4 := hc.flip D[i + 1] D[i] trivial trivial
  rcases Int.lt_or_eq_of_le h1 with e | e
  ·exact e
  ·exfalso
   have := hc.trans D[i + 1] D[j] D[i] trivial trivial trivial h4 (by omega)
   omega
 ·have e : j = i + 1 := by omega
  subst e; omega
theorem strict_uniq (hc : Cmp c fun _ => True) {D : List α} (h : D.Pairwise fun x y => c x y < 0) {x y : α} (hx : x ∈ D) (hy : y ∈ D) (e : c x y = 0) : x = y := by
 obtain ⟨i, hi⟩ := List.getElem?_of_mem hx
 obtain ⟨j, hj⟩ := List.getElem?_of_mem hy
 have hil := lt_of_get hi
 have hjl := lt_of_get hj
 rw [List.getElem?_eq_getElem hil] at hi
 rw [List.getElem?_eq_getElem hjl] at hj
 have ei := Option.some.inj hi
 have ej := Option.some.inj hj
 have f1 := hc.flip x y trivial trivial
 have f2 := hc.flip y x trivial trivial
 rcases Nat.lt_trichotomy i j with h' | h' | h'
 ·have := List.pairwise_iff_getElem.1 h i j hil hjl h'
  rw [ei, ej] at this; omega
 ·subst h'; rw [← ei, ← ej]
 ·have := List.pairwise_iff_getElem.1 h j i hjl hil h'
  rw [ei, ej] at this; omega
theorem cflA_iff {a b : List α} : cflA c a b = true ↔ ∃ x ∈ b, ∃ y ∈ a, c x y = 0 ∧ x ≠ y := by
 unfold cflA
 simp only [List.any_eq_true, Bool.and_eq_true, decide_eq_true_eq]
theorem mem_addA {β : Type} {c : β → β → Int} {a b : List β} {x : β} : x ∈ addA c a b → x ∈ a ∨ x ∈ b := fun h => by
 rcases List.mem_append.1 h with h | h
 ·exact .inl h
 ·exact .inr (List.mem_filter.1 h).1
theorem addA_nodup {β : Type} {c : β → β → Int} (hc : Cmp c fun _ => True) {a b : List β} (ha : a.Pairwise fun x y => c x y < 0) (hb : b.Pairwise fun x y => c x y < 0) : (addA c a b).Pairwise fun x y => c x y ≠ 0 := by
 refine List.pairwise_append.2 ⟨ha.imp fun h => by omega, (hb.filter _).imp fun h => by omega, fun x hx y hy e => ?_⟩
 have h1 := (List.mem_filter.1 hy).2
 have f1 := hc.flip x y trivial trivial
 have f2 := hc.flip y x trivial trivial
 have h2 : c y x = 0 := by omega
 have h3 : (a.any fun z => decide (c y z = 0)) = true := List.any_eq_true.2 ⟨x, hx, by simpa using h2⟩
 rw [h3] at h1; cases h1
/-- What sorting the two together, leaving out repeats and looking at neighbours tells. -/
theorem mer_some (hc : Cmp c fun _ => True) {a b S : List α} (ha : a.Pairwise fun x y => c x y < 0) (hb : b.Pairwise fun x y => c x y < 0) (hp : S.Perm (a ++ b)) (hs : Srt c S) {i : Nat} {x y : α} (hx : (uniqA none S)[i]? = some x) (hy : (uniqA none S)[i + 1]? = some y) (e : c x y = 0) : cflA c a b = true := by
 have hne := uniqA_adj S none hs (fun q e => by cases e) i x y hx hy
 have hx' := hp.mem_iff.1 (mem_uniqA _ _ _ (List.mem_of_getElem? hx))
 have hy' := hp.mem_iff.1 (mem_uniqA _ _ _ (List.mem_of_getElem? hy))
 have f1 := hc.flip x y trivial trivial
 have f2 := hc.flip y x trivial trivial
 rw [cflA_iff]
 rcases List.mem_append.1 hx' with h1 | h1 <;> rcases List.mem_append.1 hy' with h2 | h2
 ·exact absurd (strict_uniq hc ha h1 h2 e) hne
 ·exact ⟨y, h2, x, h1, by omega, fun q => hne q.symm⟩
 ·exact ⟨x, h1, y, h2, e, hne⟩
 ·exact absurd (strict_uniq hc hb h1 h2 e) hne
theorem mer_none (hc : Cmp c fun _ => True) {a b S : List α} (ha : a.Pairwise fun x y => c x y < 0) (hb : b.Pairwise fun x y => c x y < 0) (hp : S.Perm (a ++ b)) (hs : Srt c S) (h : ∀ (i : Nat) (x y : α), (uniqA none S)[i]? = some x → (uniqA none S)[i + 1]? = some y → c x y ≠ 0) :
 cflA c a b = false ∧ uniqA none S = merS c a b := by
 have hD := strict_adj hc (uniqA_nb S none hs (fun q e => by cases e)).1 h
 have hmem : ∀ z, z ∈ uniqA none S ↔ z ∈ a ∨ z ∈ b := fun z => by
  constructor
  ·intro hz; exact List.mem_append.1 (hp.mem_iff.1 (mem_uniqA _ _ _ hz))
  ·intro hz
   rcases mem_uniqA' S none z (hp.mem_iff.2 (List.mem_append.2 hz)) with q | q
   ·exact q
   ·cases q
 have hno : ∀ x ∈ b, ∀ y ∈ a, c x y = 0 → x = y := fun x hx y hy e => strict_uniq hc hD ((hmem x).2 (.inr hx)) ((hmem y).2 (.inl hy)) e
 refine ⟨?_, ?_⟩
 ·rw [Bool.eq_false_iff]
  intro h9
  obtain ⟨x, hx, y, hy, e1, e2⟩ := cflA_iff.1 h9
  exact e2 (hno x hx y hy e1)
 ·have hmem2 : ∀ z, z ∈ addA c a b ↔ z ∈ a ∨ z ∈ b := fun z => by
   constructor
   ·exact mem_addA
   ·rintro (hz | hz)
    ·exact List.mem_append_left _ hz
    ·by_cases hq : (a.any fun y => decide (c z y = 0)) = true
     ·obtain ⟨y, hy, e⟩ := List.any_eq_true.1 hq
      rw [hno z hz y hy (by simpa using e)]
      exact List.mem_append_left _ hy
     ·exact List.mem_append_right _ (List.mem_filter.2 ⟨hz, by simpa using hq⟩)
  have hn1 : (uniqA none S).Nodup := hD.imp fun {x y} hxy e => by
   subst e
   have := hc.flip x x trivial trivial; omega
  have hn2 : (addA c a b).Nodup := (addA_nodup hc ha hb).imp fun {x y} hxy e => by
   subst e
   have := hc.flip x x trivial trivial; omega
  have hperm : (uniqA none S).Perm (addA c a b) := (List.perm_ext_iff_of_nodup hn1 hn2).2 fun z => by rw [hmem, hmem2]
  refine isort_of_sorted hc (fun x y hx hy e => ?_) hperm (hD.imp fun {x y} hxy => ?_)
  ·exact strict_uniq hc hD ((hperm.mem_iff).2 hx) ((hperm.mem_iff).2 hy) e
  ·have f1 := hc.flip x y trivial trivial
   have f2 := hc.flip y x trivial trivial
   omega
end
end Go.HL
end
section
namespace Go.HL
theorem eqMend_is (x y : MendS) : eqHL [.str x.Player, .int .i64 x.Week, .str x.Stat, .int .i64 x.Count, .int .i64 x.At, .int .i64 x.Version, .str x.By] [.str y.Player, .int .i64 y.Week, .str y.Stat, .int .i64 y.Count, .int .i64 y.At, .int .i64 y.Version, .str y.By] = true ↔ x = y := by
 obtain ⟨a1, a2, a3, a4, a5, a6, a7⟩ := x; obtain ⟨b1, b2, b3, b4, b5, b6, b7⟩ := y
 show (_ && (_ && (_ && (_ && (_ && (_ && (_ && true))))))) = true ↔ _
 simp [eqH, and_assoc]
instance : DecidableEq MendS := fun x y => decidable_of_iff _ (eqMend_is x y)
def MergeE (m n : List MendS) : Int := if orI [mendsE m, mendsE n] ≠ 0 then orI [mendsE m, mendsE n] else if cflA byVer m n then 13 else 0
def MergeL (m n : List MendS) : List MendS := if orI [mendsE m, mendsE n] ≠ 0 then [] else if cflA byVer m n then [] else merS byVer m n
section
variable {α : Type} [DecidableEq α]
theorem cflA_snoc {c : α → α → Int} {a b : List α} {k : Nat} {x : α} (h : b[k]? = some x) : cflA c a (b.take (k + 1)) = (cflA c a (b.take k) || a.any fun y => decide (c x y = 0) && decide (x ≠ y)) := by
 unfold cflA; rw [take_snoc' h, List.any_append]; simp
theorem cflA_at {c : α → α → Int} {a b : List α} {x y : α} (hx : x ∈ b) (hy : y ∈ a) (e : c x y = 0) (hne : x ≠ y) : cflA c a b = true := cflA_iff.2 ⟨x, hx, y, hy, e, hne⟩
theorem addA_yes {β : Type} {c : β → β → Int} {a b : List β} {k : Nat} {x : β} (h : b[k]? = some x) (hn : (a.any fun y => decide (c x y = 0)) = false) : addA c a (b.take (k + 1)) = addA c a (b.take k) ++ [x] := by
 unfold addA; rw [take_snoc' h, List.filter_append, ← List.append_assoc]; simp [hn]
theorem addA_no {β : Type} {c : β → β → Int} {a b : List β} {k : Nat} {x : β} (h : b[k]? = some x) (hn : (a.any fun y => decide (c x y = 0)) = true) : addA c a (b.take (k + 1)) = addA c a (b.take k) := by
 unfold addA; rw [take_snoc' h, List.filter_append]; simp [hn]
theorem addA_len {β : Type} (c : β → β → Int) (a b : List β) : (addA c a b).length ≤ a.length + b.length := by
 unfold addA; rw [List.length_append]
 have := List.length_filter_le (fun x => !(a.any fun y => decide (c x y = 0))) b
 omega
theorem merS_len {β : Type} (c : β → β → Int) (a b : List β) : (merS c a b).length ≤ a.length + b.length := by
 unfold merS; rw [isort_len]; exact addA_len c a b
/-- The one that is met in a strict list. -/
theorem cfl_same {c : α → α → Int} (hc : Cmp c fun _ => True) {a b : List α} {k : Nat} {x z : α} (ha : a.Pairwise fun x y => c x y < 0) (h : b[k]? = some x) (hz : z ∈ a) (e : c x z = 0) (hxz : x = z) (hno : cflA c a (b.take k) = false) : cflA c a (b.take (k + 1)) = false := by
 rw [cflA_snoc h, hno, Bool.false_or, Bool.eq_false_iff]
 intro h9
 obtain ⟨y, hy, h8⟩ := List.any_eq_true.1 h9
 simp only [Bool.and_eq_true, decide_eq_true_eq] at h8
 refine h8.2 (hxz.trans (strict_uniq hc ha hz hy ?_))
 rw [← hxz]; exact h8.1
theorem cfl_none {c : α → α → Int} {a b : List α} {k : Nat} {x : α} (h : b[k]? = some x) (hn : (a.any fun y => decide (c x y = 0)) = false) (hno : cflA c a (b.take k) = false) : cflA c a (b.take (k + 1)) = false := by
 rw [cflA_snoc h, hno, Bool.false_or, Bool.eq_false_iff]
 intro h9
 obtain ⟨y, hy, h8⟩ := List.any_eq_true.1 h9
 simp only [Bool.and_eq_true, decide_eq_true_eq] at h8
 have : (a.any fun y => decide (c x y = 0)) = true := List.any_eq_true.2 ⟨y, hy, by simpa using h8.1⟩
 rw [hn] at this; cases this
theorem mer_sorted {β : Type} {c : β → β → Int} (hc : Cmp c fun _ => True) {a b l' : List β} (ha : a.Pairwise fun x y => c x y < 0) (hb : b.Pairwise fun x y => c x y < 0) (hp : l'.Perm (addA c a b)) (hw : l'.Pairwise fun x y => ¬ c y x < 0) : l' = merS c a b := by
 refine isort_of_sorted hc (fun x y hx hy e => ?_) hp hw
 refine Classical.byContradiction fun hne => ?_
 have hn := addA_nodup hc ha hb
 obtain ⟨i, hi⟩ := List.getElem?_of_mem hx
 obtain ⟨j, hj⟩ := List.getElem?_of_mem hy
 have hil := lt_of_get hi
 have hjl := lt_of_get hj
 rw [List.getElem?_eq_getElem hil] at hi
 rw [List.getElem?_eq_getElem hjl] at hj
 have ei := Option.some.inj hi
 have ej := Option.some.inj hj
 have f1 := hc.flip x y trivial trivial
 have f2 := hc.flip y x trivial trivial
 rcases Nat.lt_trichotomy i j with h' | h' | h'
 ·have := List.pairwise_iff_getElem.1 hn i j hil hjl h'
  rw [ei, ej] at this; exact this e
 ·subst h'; exact hne (by rw [← ei, ← ej])
 ·have := List.pairwise_iff_getElem.1 hn j i hjl hil h'
  rw [ei, ej] at this; omega
end
theorem con_arrc [Tracks] {P : Program} {f : FuncId} {hargs : List HVal} {v : Value} {sz : Nat} {es : List HVal} {Q : HVal → List MObj → Prop} (h0 : v = .slice none 0 0 → es = [] → Con P f hargs [.arr v sz es] Q)
 (h1 : ∀ b off cap, v = .slice (some ⟨b, off, none⟩) es.length cap → Con P f hargs [.arr v sz es] Q) : Con P f hargs [.arr v sz es] Q := fun I F w args ha hs => by
 rcases hs.obj (.arr v sz es) (by simp) with ⟨g1, g2⟩ | ⟨b, off, cap, rc, el, fr, g1, _⟩
 ·exact h0 g1 g2 I F w args ha hs
 ·exact h1 b off cap g1 I F w args ha hs
end Go.HL
end
section
namespace Go.Proofs.YtkamelfigfbfiaaGreatDoor
open Go.HL
set_option maxRecDepth 100000
set_option linter.unusedVariables false
set_option linter.unusedSimpArgs false
set_option maxHeartbeats 1000000 in
/-- slices.swapRangeCmpFunc[benchwarmer/api.Mend] -/
theorem c_swap_api_Mend [Tracks] {A X B Y C : List MendS} {ia ib k0 : Int} {n b off cap : Nat} {f : HVal} (hxy : X.length = Y.length) (hn : A.length + X.length + B.length + Y.length + C.length = n) (hia : ia = (A.length : Int)) (hib : ib = (A.length : Int) + X.length + B.length) (hk0 : k0 = (X.length : Int)) (hl : n ≤ 1000000) : Con Tryz.prog 263 [.raw (.slice (some ⟨b, off, none⟩) n cap), .int .i64 ia, .int .i64 ib, .int .i64 k0, f] [.arr (.slice (some ⟨b, off, none⟩) n cap) 7 ((A ++ X ++ B ++ Y ++ C).map eMend)] (fun x M' => x = .tup [] ∧ M' = [.arr (.slice (some ⟨b, off, none⟩) n cap) 7 ((A ++ Y ++ B ++ X ++ C).map eMend)]) := by
 refine Con.of_body Tryz.func263 rfl Tryz.ntmps263 rfl rfl ?_
 refine hw_reg ?_
 refine dp rfl (pop_assign rfl) ?_
 refine dn ?_
 refine hw_block ?_
 refine hw_loopw [10, 11, 12, 13, 14, 15, 16, 17, 18, 19, 20, 21, 22, 23, 24, 25, 26, 27, 28, 29, 30, 31, 32, 33, 34, 35, 36, 37] (fun (k : Nat) => [(10, .int .i64 (k : Int))]) (fun (k : Nat) => [.arr (.slice (some ⟨b, off, none⟩) n cap) 7 ((swR A X B Y C k).map eMend)]) (fun (k : Nat) => k ≤ X.length) (fun (k : Nat) => X.length - k) (0) ?_ ?_ ?_ ?_
 ·exact Nat.zero_le _
 ·exact ⟨rfl, trivial⟩
 ·exact perm_eq (by rw [swR_zero])
 ·intro k hk
  refine hw_seq ?_
  refine hw_reg ?_
  refine dp rfl (pop_move rfl) ?_
  refine dp rfl (pop_move rfl) ?_
  refine dp rfl (pop_lss rfl rfl) ?_
  refine dn ?_
  refine hw_cond rfl (fun h1 => ?_) (fun h2 => ?_)
  ·try simp at h1
   obtain ⟨x, hx⟩ : ∃ x, X[k]? = some x := ⟨_, List.getElem?_eq_getElem (by omega)⟩
   obtain ⟨y, hy⟩ : ∃ y, Y[k]? = some y := ⟨_, List.getElem?_eq_getElem (by omega)⟩
   refine hw_skip ?_
   refine seqQ_n ?_
   refine hw_seq ?_
   refine hw_block ?_
   refine hw_draw1 (fun M => M = [.arr (.slice (some ⟨b, off, none⟩) n cap) 7 ((swR A X B Y C k).map eMend)]) [13, 19] mixed ?_
   refine ahp 0 rfl rfl (by kernel_rfl) (by kernel_rfl) (pop_move rfl) ?_
   refine ahp 1 rfl rfl (by kernel_rfl) (by kernel_rfl) (pop_move rfl) ?_
   refine ahp 2 rfl rfl (by kernel_rfl) (by kernel_rfl) (pop_move rfl) ?_
   refine ahp 3 rfl rfl (by kernel_rfl) (by kernel_rfl) (pop_add64 rfl rfl (by omega) (by omega)) ?_
   refine ahp 4 rfl rfl (by kernel_rfl) (by kernel_rfl) (pop_move rfl) ?_
   refine ahp 5 rfl rfl (by kernel_rfl) (by kernel_rfl) (pop_move rfl) ?_
   refine ahp 6 rfl rfl (by kernel_rfl) (by kernel_rfl) (pop_move rfl) ?_
   refine ahp 7 rfl rfl (by kernel_rfl) (by kernel_rfl) (pop_add64 rfl rfl (by omega) (by omega)) ?_
   refine ahp 8 rfl rfl (by kernel_rfl) (by kernel_rfl) (pop_move rfl) ?_
   refine ahp 9 rfl rfl (by kernel_rfl) (by kernel_rfl) (pop_move rfl) ?_
   refine ahp 10 rfl rfl (by kernel_rfl) (by kernel_rfl) (pop_move rfl) ?_
   refine ahp 11 rfl rfl (by kernel_rfl) (by kernel_rfl) (pop_add64 rfl rfl (by omega) (by omega)) ?_
   refine ahp 12 rfl rfl (by kernel_rfl) (by kernel_rfl) (pop_idxraw (j := A.length + X.length + B.length + k) ty46 ty69 rfl rfl (by omega) (by omega)) ?_
   refine ahl 13 rfl rfl (by kernel_rfl) (by kernel_rfl) (by simp) rfl (fun M hM => by subst hM; exact eop_load_elw (i := 0) (j := A.length + X.length + B.length + k) ty69 rfl rfl rfl (swR_get2 hx hy) rfl rfl rfl ⟨rfl, rfl⟩) ?_
   refine ahp 14 rfl rfl (by kernel_rfl) (by kernel_rfl) (pop_move rfl) ?_
   refine ahp 15 rfl rfl (by kernel_rfl) (by kernel_rfl) (pop_move rfl) ?_
   refine ahp 16 rfl rfl (by kernel_rfl) (by kernel_rfl) (pop_move rfl) ?_
   refine ahp 17 rfl rfl (by kernel_rfl) (by kernel_rfl) (pop_add64 rfl rfl (by omega) (by omega)) ?_
   refine ahp 18 rfl rfl (by kernel_rfl) (by kernel_rfl) (pop_idxraw (j := A.length + k) ty46 ty69 rfl rfl (by omega) (by omega)) ?_
   refine ahl 19 rfl rfl (by kernel_rfl) (by kernel_rfl) (by simp) rfl (fun M hM => by subst hM; exact eop_load_elw (i := 0) (j := A.length + k) ty69 rfl rfl rfl (swR_get1 hx hy) rfl rfl rfl ⟨rfl, rfl⟩) ?_
   refine ahp 20 rfl rfl (by kernel_rfl) (by kernel_rfl) (pop_idxraw (j := A.length + k) ty46 ty69 rfl rfl (by omega) (by omega)) ?_
   refine ahe 21 rfl (by kernel_rfl) ?_
   refine hop_e0 (eop_store_elw (i := 0) (j := A.length + k) (y := x) (y' := y) ty69 rfl rfl rfl rfl (swR_get1 hx hy) rfl rfl rfl ?_)
   refine ⟨fun _ => .inr (by simp [Before, Region.binds]), ?_⟩
   refine ahp 22 rfl rfl (by kernel_rfl) (by kernel_rfl) (pop_idxraw (j := A.length + X.length + B.length + k) ty46 ty69 rfl rfl (by omega) (by omega)) ?_
   refine ahe 23 rfl (by kernel_rfl) ?_
   refine hop_e0 (eop_store_elw (i := 0) (j := A.length + X.length + B.length + k) (y := y) (y' := x) ty69 rfl rfl rfl rfl (swR_get2' hx hy) rfl rfl rfl ?_)
   refine ⟨fun _ => .inr (by simp [Before, Region.binds]), ?_⟩
   refine ahz (by kernel_rfl) ?_
   refine blockQ_n ?_
   refine seqQ_n ?_
   refine hw_reg1 ?_
   refine dp rfl (pop_move rfl) ?_
   refine dp rfl (pop_add64 rfl rfl (by omega) (by omega)) ?_
   refine dp rfl (pop_assign rfl) ?_
   refine dn ?_
   exact ⟨k + 1, by omega, by dsimp only; omega, ⟨rfl, trivial⟩, (by repeat (first | exact keeps_refl | refine keeps_upd rfl ?_ | refine keeps_loop rfl rfl ?_)), perm_eq (by rw [swR_set hx hy]; rfl)⟩
  ·try simp at h2
   obtain rfl : k = X.length := by omega
   rw [swR_end hxy]
   refine hw_exit ?_
   refine seqQ_x ?_
   refine loopQ_x ?_
   refine blockQ_eq ?_
   exact ret_q rfl ⟨rfl, rfl⟩

set_option maxHeartbeats 1000000 in
/-- slices.rotateCmpFunc[benchwarmer/api.Mend] -/
theorem c_rotate_api_Mend [Tracks] {P U W Q : List MendS} {ia im ib : Int} {n b off cap : Nat} {f : HVal} (hu : 0 < U.length) (hw : 0 < W.length) (hn : P.length + U.length + W.length + Q.length = n) (hia : ia = (P.length : Int)) (him : im = (P.length : Int) + U.length) (hib : ib = (P.length : Int) + U.length + W.length) (hl : n ≤ 1000000) : Con Tryz.prog 229 [.raw (.slice (some ⟨b, off, none⟩) n cap), .int .i64 ia, .int .i64 im, .int .i64 ib, f] [.arr (.slice (some ⟨b, off, none⟩) n cap) 7 ((P ++ U ++ W ++ Q).map eMend)] (fun x M' => x = .tup [] ∧ M' = [.arr (.slice (some ⟨b, off, none⟩) n cap) 7 ((P ++ W ++ U ++ Q).map eMend)]) := by
 refine Con.of_body Tryz.func229 rfl Tryz.ntmps229 rfl rfl ?_
 refine hw_reg ?_
 refine dp rfl (pop_move rfl) ?_
 refine dp rfl (pop_move rfl) ?_
 refine dp rfl (pop_sub64 rfl rfl (by omega) (by omega)) ?_
 refine dp rfl (pop_assign rfl) ?_
 refine dn ?_
 refine hw_reg ?_
 refine dp rfl (pop_move rfl) ?_
 refine dp rfl (pop_move rfl) ?_
 refine dp rfl (pop_sub64 rfl rfl (by omega) (by omega)) ?_
 refine dp rfl (pop_assign rfl) ?_
 refine dn ?_
 refine hw_seq ?_
 refine hw_block ?_
 refine hw_loopw4 [10, 11, 18, 19, 20, 21, 22, 23, 24, 25, 26, 27, 28, 29, 30, 31, 32, 33, 34, 35, 36, 37, 38, 39, 40, 41, 42, 43, 44, 45, 46, 47, 48, 49] (fun (P1 : List MendS) (U1 : List MendS) (W1 : List MendS) (Q1 : List MendS) => [(10, .int .i64 (U1.length : Int)), (11, .int .i64 (W1.length : Int))]) (fun (P1 : List MendS) (U1 : List MendS) (W1 : List MendS) (Q1 : List MendS) => [.arr (.slice (some ⟨b, off, none⟩) n cap) 7 ((P1 ++ U1 ++ W1 ++ Q1).map eMend)]) (fun (P1 : List MendS) (U1 : List MendS) (W1 : List MendS) (Q1 : List MendS) => P1 ++ W1 ++ U1 ++ Q1 = P ++ W ++ U ++ Q ∧ P1.length + U1.length = P.length + U.length ∧ 0 < U1.length ∧ 0 < W1.length ∧ P1.length + U1.length + W1.length + Q1.length = n) (fun (P1 : List MendS) (U1 : List MendS) (W1 : List MendS) (Q1 : List MendS) => U1.length + W1.length) (P) (U) (W) (Q) ?_ ?_ ?_ ?_
 ·exact ⟨rfl, rfl, hu, hw, hn⟩
 ·exact ⟨some_int (by omega), some_int (by omega), trivial⟩
 ·exact List.Perm.refl _
 ·intro P1 U1 W1 Q1 hinv
  obtain ⟨hf, hpu, hu1, hw1, hn1⟩ := hinv
  refine hw_seq ?_
  refine hw_reg ?_
  refine dp rfl (pop_move rfl) ?_
  refine dp rfl (pop_move rfl) ?_
  refine dp rfl (pop_neq rfl rfl) ?_
  refine dn ?_
  refine hw_cond rfl (fun h1 => ?_) (fun h2 => ?_)
  ·try simp at h1
   refine hw_skip ?_
   refine seqQ_n ?_
   refine hw_block ?_
   refine hw_reg ?_
   refine dp rfl (pop_move rfl) ?_
   refine dp rfl (pop_move rfl) ?_
   refine dp rfl (pop_gtr rfl rfl) ?_
   refine dn ?_
   refine hw_cond rfl (fun h3 => ?_) (fun h4 => ?_)
   ·try simp at h3
    obtain ⟨Ua, Ub, rfl, hUa⟩ : ∃ Ua Ub, U1 = Ua ++ Ub ∧ Ua.length = W1.length := ⟨U1.take W1.length, U1.drop W1.length, (List.take_append_drop _ _).symm, by rw [List.length_take]; omega⟩
    rw [List.length_append] at *
    refine hw_ghost (Ghost.of_eq (M' := [.arr (.slice (some ⟨b, off, none⟩) n cap) 7 ((P1 ++ Ua ++ Ub ++ W1 ++ Q1).map eMend)]) (by simp)) ?_
    refine hw_reg ?_
    refine dp rfl (pop_move rfl) ?_
    refine dp rfl (pop_move rfl) ?_
    refine dp rfl (pop_move rfl) ?_
    refine dp rfl (pop_sub64 rfl rfl (by omega) (by omega)) ?_
    refine dp rfl (pop_move rfl) ?_
    refine dp rfl (pop_move rfl) ?_
    refine dp rfl (pop_move rfl) ?_
    refine de rfl (eop_callx (i := 0) ca263 rfl (WeakL.refl _) rfl (c_swap_api_Mend (A := P1) (X := Ua) (B := Ub) (Y := W1) (C := Q1) (n := n) (by omega) (by first | omega | (simp only [List.length_nil]; omega)) (by first | omega | (simp only [List.length_nil]; omega)) (by first | omega | (simp only [List.length_nil]; omega)) (by first | omega | (simp only [List.length_nil]; omega)) hl) ?_)
    rintro _ _ ⟨rfl, rfl⟩
    refine dn ?_
    refine hw_reg1 ?_
    refine dp rfl (pop_move rfl) ?_
    refine dp rfl (pop_move rfl) ?_
    refine dp rfl (pop_sub64 rfl rfl (by omega) (by omega)) ?_
    refine dp rfl (pop_assign rfl) ?_
    refine dn ?_
    refine blockQ_n ?_
    exact ⟨P1 ++ W1, Ub, Ua, Q1, ⟨by rw [← hf]; simp, by simp only [List.length_append] at *; omega, by omega, by omega, by simp only [List.length_append] at *; omega⟩, by dsimp only; simp only [List.length_append] at *; omega, ⟨some_int (by omega), some_int (by omega), trivial⟩, (by repeat (first | exact keeps_refl | refine keeps_upd rfl ?_ | refine keeps_loop rfl rfl ?_)), List.Perm.refl _⟩
   ·try simp at h4
    obtain ⟨Wa, Wb, rfl, hWb⟩ : ∃ Wa Wb, W1 = Wa ++ Wb ∧ Wb.length = U1.length := ⟨W1.take (W1.length - U1.length), W1.drop (W1.length - U1.length), (List.take_append_drop _ _).symm, by rw [List.length_drop]; omega⟩
    rw [List.length_append] at *
    refine hw_ghost (Ghost.of_eq (M' := [.arr (.slice (some ⟨b, off, none⟩) n cap) 7 ((P1 ++ U1 ++ Wa ++ Wb ++ Q1).map eMend)]) (by simp)) ?_
    refine hw_reg ?_
    refine dp rfl (pop_move rfl) ?_
    refine dp rfl (pop_move rfl) ?_
    refine dp rfl (pop_move rfl) ?_
    refine dp rfl (pop_sub64 rfl rfl (by omega) (by omega)) ?_
    refine dp rfl (pop_move rfl) ?_
    refine dp rfl (pop_move rfl) ?_
    refine dp rfl (pop_add64 rfl rfl (by omega) (by omega)) ?_
    refine dp rfl (pop_move rfl) ?_
    refine dp rfl (pop_sub64 rfl rfl (by omega) (by omega)) ?_
    refine dp rfl (pop_move rfl) ?_
    refine dp rfl (pop_move rfl) ?_
    refine de rfl (eop_callx (i := 0) ca263 rfl (WeakL.refl _) rfl (c_swap_api_Mend (A := P1) (X := U1) (B := Wa) (Y := Wb) (C := Q1) (n := n) (by omega) (by first | omega | (simp only [List.length_nil]; omega)) (by first | omega | (simp only [List.length_nil]; omega)) (by first | omega | (simp only [List.length_nil]; omega)) (by first | omega | (simp only [List.length_nil]; omega)) hl) ?_)
    rintro _ _ ⟨rfl, rfl⟩
    refine dn ?_
    refine hw_reg1 ?_
    refine dp rfl (pop_move rfl) ?_
    refine dp rfl (pop_move rfl) ?_
    refine dp rfl (pop_sub64 rfl rfl (by omega) (by omega)) ?_
    refine dp rfl (pop_assign rfl) ?_
    refine dn ?_
    refine blockQ_n ?_
    exact ⟨P1, Wb, Wa, U1 ++ Q1, ⟨by rw [← hf]; simp, by omega, by omega, by omega, by simp only [List.length_append] at *; omega⟩, by dsimp only; simp only [List.length_append] at *; omega, ⟨some_int (by omega), some_int (by omega), trivial⟩, (by repeat (first | exact keeps_refl | refine keeps_upd rfl ?_ | refine keeps_loop rfl rfl ?_)), perm_eq (by simp)⟩
  ·try simp at h2
   refine hw_exit ?_
   refine seqQ_x ?_
   refine loopQ4_x ?_
   refine blockQ_eq ?_
   refine seqQ_n ?_
   refine hw_ghost (Ghost.of_eq (M' := [.arr (.slice (some ⟨b, off, none⟩) n cap) 7 ((P1 ++ U1 ++ [] ++ W1 ++ Q1).map eMend)]) (by simp)) ?_
   refine hw_reg1 ?_
   refine dp rfl (pop_move rfl) ?_
   refine dp rfl (pop_move rfl) ?_
   refine dp rfl (pop_move rfl) ?_
   refine dp rfl (pop_sub64 rfl rfl (by omega) (by omega)) ?_
   refine dp rfl (pop_move rfl) ?_
   refine dp rfl (pop_move rfl) ?_
   refine dp rfl (pop_move rfl) ?_
   refine de rfl (eop_callx (i := 0) ca263 rfl (WeakL.refl _) rfl (c_swap_api_Mend (A := P1) (X := U1) (B := []) (Y := W1) (C := Q1) (n := n) (by omega) (by first | omega | (simp only [List.length_nil]; omega)) (by first | omega | (simp only [List.length_nil]; omega)) (by first | omega | (simp only [List.length_nil]; omega)) (by first | omega | (simp only [List.length_nil]; omega)) hl) ?_)
   rintro _ _ ⟨rfl, rfl⟩
   refine dn ?_
   exact ret_q rfl ⟨rfl, by simp only [List.append_nil] at *; rw [← hf]; rfl⟩

set_option maxHeartbeats 1000000 in
/-- slices.insertionSortCmpFunc[benchwarmer/api.Mend] -/
theorem c_insw_api_Mend [Tracks] {A X C : List MendS} {ia ib : Int} {n b off cap : Nat} {fid : FuncId} {caps : List HVal} {c : MendS → MendS → Int} (hca : Callable Tryz.prog fid) (hp : ∀ x y, ConP Tryz.prog fid ([eMend x, eMend y] ++ caps) (.int .i64 (c x y))) (hn : A.length + X.length + C.length = n) (hia : ia = (A.length : Int)) (hib : ib = (A.length : Int) + X.length) (hl : n ≤ 1000000) : Con Tryz.prog 177 [.raw (.slice (some ⟨b, off, none⟩) n cap), .int .i64 ia, .int .i64 ib, .fn (.func fid) [] caps] [.arr (.slice (some ⟨b, off, none⟩) n cap) 7 ((A ++ X ++ C).map eMend)] (fun x M' => x = .tup [] ∧ M' = [.arr (.slice (some ⟨b, off, none⟩) n cap) 7 ((A ++ isort c X ++ C).map eMend)]) := by
 refine Con.of_body Tryz.func177 rfl Tryz.ntmps177 rfl rfl ?_
 refine hw_reg ?_
 refine dp rfl (pop_move rfl) ?_
 refine dp rfl (pop_add64 rfl rfl (by omega) (by omega)) ?_
 refine dp rfl (pop_assign rfl) ?_
 refine dn ?_
 refine hw_block ?_
 refine hw_loopw [8, 9, 12, 13, 14, 15, 16, 17, 18, 19, 20, 21, 22, 23, 24, 25, 26, 27, 28, 29, 30, 31, 32, 33, 34, 35, 36, 37, 38, 39, 40, 41, 42, 43, 44, 45, 46, 47, 48, 49, 50, 51, 52] (fun (k : Nat) => [(8, .int .i64 ((A.length + k : Nat) : Int))]) (fun (k : Nat) => [.arr (.slice (some ⟨b, off, none⟩) n cap) 7 ((A ++ (isort c (X.take k) ++ X.drop k) ++ C).map eMend)]) (fun (k : Nat) => 1 ≤ k) (fun (k : Nat) => X.length - k) (1) ?_ ?_ ?_ ?_
 ·exact Nat.le_refl _
 ·exact ⟨some_int (by omega), trivial⟩
 ·exact perm_eq (by rw [isort_take1])
 ·intro k hk
  refine hw_seq ?_
  refine hw_reg ?_
  refine dp rfl (pop_move rfl) ?_
  refine dp rfl (pop_move rfl) ?_
  refine dp rfl (pop_lss rfl rfl) ?_
  refine dn ?_
  refine hw_cond rfl (fun h1 => ?_) (fun h2 => ?_)
  ·try simp at h1
   obtain ⟨x, hx⟩ : ∃ x, X[k]? = some x := ⟨_, List.getElem?_eq_getElem (by omega)⟩
   refine hw_skip ?_
   refine seqQ_n ?_
   refine hw_seq ?_
   refine hw_block ?_
   refine hw_reg ?_
   refine dp rfl (pop_move rfl) ?_
   refine dp rfl (pop_assign rfl) ?_
   refine dn ?_
   refine hw_block ?_
   refine hw_loopw2 [9, 18, 19, 20, 21, 22, 23, 24, 25, 26, 27, 28, 29, 30, 31, 32, 33, 34, 35, 36, 37, 38, 39, 40, 41, 42, 43, 44, 45, 46, 47, 48, 49, 50, 51, 52] (fun (D : List MendS) (B : List MendS) => [(9, .int .i64 ((A.length + D.length : Nat) : Int))]) (fun (D : List MendS) (B : List MendS) => [.arr (.slice (some ⟨b, off, none⟩) n cap) 7 (((A ++ D) ++ x :: (B ++ X.drop (k + 1) ++ C)).map eMend)]) (fun (D : List MendS) (B : List MendS) => D.length + B.length = k ∧ insB c x (isort c (X.take k)) = insB c x D ++ B) (fun (D : List MendS) (B : List MendS) => D.length) (isort c (X.take k)) ([]) ?_ ?_ ?_ ?_
   ·exact ⟨by simp [isort_len]; omega, by simp⟩
   ·exact ⟨some_int (by simp [isort_len]; omega), trivial⟩
   ·exact perm_eq (by rw [drop_cons hx]; simp)
   ·intro D B hinv
    obtain ⟨hA, hB⟩ := hinv
    have hlA : D.length < X.length := by omega
    refine hw_seq ?_
    refine hw_draw (fun M => M = [.arr (.slice (some ⟨b, off, none⟩) n cap) 7 (((A ++ D) ++ x :: (B ++ X.drop (k + 1) ++ C)).map eMend)]) [8, 13] mixed ?_
    refine ahp 0 rfl rfl (by kernel_rfl) (by kernel_rfl) (pop_move rfl) ?_
    refine ahp 1 rfl rfl (by kernel_rfl) (by kernel_rfl) (pop_move rfl) ?_
    refine ahp 2 rfl rfl (by kernel_rfl) (by kernel_rfl) (pop_gtr rfl rfl) ?_
    refine ahp 3 rfl rfl (by kernel_rfl) (by kernel_rfl) (pop_move rfl) ?_
    refine ahg 4 rfl rfl (by kernel_rfl) (by kernel_rfl) rfl (fun hc => ⟨_, OpenTo.refl _, pop_move rfl⟩) ?_
    refine ahg 5 rfl rfl (by kernel_rfl) (by kernel_rfl) rfl (fun hc => ⟨_, OpenTo.refl _, pop_move rfl⟩) ?_
    refine ahg 6 rfl rfl (by kernel_rfl) (by kernel_rfl) rfl (fun hc => ⟨_, OpenTo.refl _, pop_move rfl⟩) ?_
    refine ahg 7 rfl rfl (by kernel_rfl) (by kernel_rfl) rfl (fun hc => by
     have hq : 0 < D.length := by simp at hc; omega
     exact ⟨_, OpenTo.upd (t := 24) rfl (by first | exact hc | simp_all) (OpenTo.upd (t := 23) rfl (by first | exact hc | simp_all) (OpenTo.refl _)), pop_idxraw (j := (A ++ D).length) ty46 ty69 rfl rfl (by simp) (by first | omega | (simp; omega))⟩) ?_
    refine ahgl 8 rfl rfl (by kernel_rfl) (by kernel_rfl) (by simp) rfl rfl (fun hc => ⟨_, OpenTo.upd (t := 25) rfl (by first | exact hc | simp_all) (OpenTo.refl _), fun M hM => by
     subst hM; exact eop_load_elw (i := 0) (j := (A ++ D).length) ty69 rfl rfl rfl get_mid rfl rfl rfl ⟨rfl, rfl⟩
     ⟩) ?_
    refine ahg 9 rfl rfl (by kernel_rfl) (by kernel_rfl) rfl (fun hc => ⟨_, OpenTo.refl _, pop_move rfl⟩) ?_
    refine ahg 10 rfl rfl (by kernel_rfl) (by kernel_rfl) rfl (fun hc => ⟨_, OpenTo.refl _, pop_move rfl⟩) ?_
    refine ahg 11 rfl rfl (by kernel_rfl) (by kernel_rfl) rfl (fun hc => by
     have hq : 0 < D.length := by simp at hc; omega
     exact ⟨_, OpenTo.upd (t := 28) rfl (by first | exact hc | simp_all) (OpenTo.refl _), pop_sub64 rfl rfl (by omega) (by omega)⟩) ?_
    refine ahg 12 rfl rfl (by kernel_rfl) (by kernel_rfl) rfl (fun hc => by
     have hq : 0 < D.length := by simp at hc; omega
     exact ⟨_, OpenTo.upd (t := 29) rfl (by first | exact hc | simp_all) (OpenTo.upd (t := 27) rfl (by first | exact hc | simp_all) (OpenTo.refl _)), pop_idxraw (j := (A ++ D).length - 1) ty46 ty69 rfl rfl (by first | omega | (simp; omega)) (by first | omega | (simp; omega))⟩) ?_
    refine ahgl 13 rfl rfl (by kernel_rfl) (by kernel_rfl) (by simp) rfl rfl (fun hc => ⟨_, OpenTo.upd (t := 30) rfl (by first | exact hc | simp_all) (OpenTo.refl _), fun M hM => by
     have hq : 0 < D.length := by simp at hc; omega
     subst hM; exact eop_load_elw (i := 0) (j := (A ++ D).length - 1) ty69 rfl rfl rfl (get_before (by first | omega | (simp; omega))) rfl rfl rfl ⟨rfl, rfl⟩
     ⟩) ?_
    refine ahg 14 rfl rfl (by kernel_rfl) (by kernel_rfl) rfl (fun hc => ⟨_, OpenTo.upd (t := 31) rfl (by first | exact hc | simp_all) (OpenTo.upd (t := 26) rfl (by first | exact hc | simp_all) (OpenTo.upd (t := 22) rfl (by first | exact hc | simp_all) (OpenTo.refl _))), pop_callv hca rfl rfl (WeakL.refl _) (hp _ _)⟩) ?_
    refine ahg 15 rfl rfl (by kernel_rfl) (by kernel_rfl) rfl (fun hc => ⟨_, OpenTo.upd (t := 32) rfl (by first | exact hc | simp_all) (OpenTo.refl _), pop_lss rfl rfl⟩) ?_
    refine ahp 16 rfl rfl (by kernel_rfl) (by kernel_rfl) (pop_picko rfl (.inr ⟨_, rfl, fun h => by simp_all⟩) (.inl rfl)) ?_
    refine ahz (by kernel_rfl) ?_
    refine hw_cond rfl (fun h3 => ?_) (fun h4 => ?_)
    ·try simp at h3
     obtain ⟨hA0, hcx⟩ := h3
     obtain ⟨D1, y, rfl⟩ := snoc_of (A := D) (by omega)
     rw [last_idx] at hcx
     have hD1 : (D1 ++ [y]).length = D1.length + 1 := by simp
     refine hw_skip ?_
     refine seqQ_n ?_
     refine hw_seq ?_
     refine hw_block ?_
     refine hw_draw1 (fun M => M = [.arr (.slice (some ⟨b, off, none⟩) n cap) 7 (((A ++ (D1 ++ [y])) ++ x :: (B ++ X.drop (k + 1) ++ C)).map eMend)]) [9, 13] mixed ?_
     refine ahp 0 rfl rfl (by kernel_rfl) (by kernel_rfl) (pop_move rfl) ?_
     refine ahp 1 rfl rfl (by kernel_rfl) (by kernel_rfl) (pop_move rfl) ?_
     refine ahp 2 rfl rfl (by kernel_rfl) (by kernel_rfl) (pop_move rfl) ?_
     refine ahp 3 rfl rfl (by kernel_rfl) (by kernel_rfl) (pop_move rfl) ?_
     refine ahp 4 rfl rfl (by kernel_rfl) (by kernel_rfl) (pop_sub64 rfl rfl (by omega) (by omega)) ?_
     refine ahp 5 rfl rfl (by kernel_rfl) (by kernel_rfl) (pop_move rfl) ?_
     refine ahp 6 rfl rfl (by kernel_rfl) (by kernel_rfl) (pop_move rfl) ?_
     refine ahp 7 rfl rfl (by kernel_rfl) (by kernel_rfl) (pop_sub64 rfl rfl (by omega) (by omega)) ?_
     refine ahp 8 rfl rfl (by kernel_rfl) (by kernel_rfl) (pop_idxraw (j := (A ++ (D1 ++ [y])).length - 1) ty46 ty69 rfl rfl (by first | omega | (simp; omega)) (by first | omega | (simp; omega))) ?_
     refine ahl 9 rfl rfl (by kernel_rfl) (by kernel_rfl) (by simp) rfl (fun M hM => by subst hM; exact eop_load_elw (i := 0) (j := (A ++ (D1 ++ [y])).length - 1) ty69 rfl rfl rfl (last_get) rfl rfl rfl ⟨rfl, rfl⟩) ?_
     refine ahp 10 rfl rfl (by kernel_rfl) (by kernel_rfl) (pop_move rfl) ?_
     refine ahp 11 rfl rfl (by kernel_rfl) (by kernel_rfl) (pop_move rfl) ?_
     refine ahp 12 rfl rfl (by kernel_rfl) (by kernel_rfl) (pop_idxraw (j := (A ++ (D1 ++ [y])).length) ty46 ty69 rfl rfl (by simp) (by first | omega | (simp; omega))) ?_
     refine ahl 13 rfl rfl (by kernel_rfl) (by kernel_rfl) (by simp) rfl (fun M hM => by subst hM; exact eop_load_elw (i := 0) (j := (A ++ (D1 ++ [y])).length) ty69 rfl rfl rfl get_mid rfl rfl rfl ⟨rfl, rfl⟩) ?_
     refine ahp 14 rfl rfl (by kernel_rfl) (by kernel_rfl) (pop_idxraw (j := (A ++ (D1 ++ [y])).length) ty46 ty69 rfl rfl (by simp) (by first | omega | (simp; omega))) ?_
     refine ahe 15 rfl (by kernel_rfl) ?_
     refine hop_e0 (eop_store_elw (i := 0) (j := (A ++ (D1 ++ [y])).length) (y := x) (y' := y) ty69 rfl rfl rfl rfl get_mid rfl rfl rfl ?_)
     refine ⟨fun _ => .inr (by simp [Before, Region.binds]), ?_⟩
     refine ahp 16 rfl rfl (by kernel_rfl) (by kernel_rfl) (pop_idxraw (j := (A ++ (D1 ++ [y])).length - 1) ty46 ty69 rfl rfl (by first | omega | (simp; omega)) (by first | omega | (simp; omega))) ?_
     refine ahe 17 rfl (by kernel_rfl) ?_
     refine hop_e0 (eop_store_elw (i := 0) (j := (A ++ (D1 ++ [y])).length - 1) (y := y) (y' := x) ty69 rfl rfl rfl rfl (by rw [List.getElem?_set_ne (by simp)]; exact last_get) rfl rfl rfl ?_)
     refine ⟨fun _ => .inr (by simp [Before, Region.binds]), ?_⟩
     refine ahz (by kernel_rfl) ?_
     refine blockQ_n ?_
     refine seqQ_n ?_
     refine hw_reg1 ?_
     refine dp rfl (pop_move rfl) ?_
     refine dp rfl (pop_sub64 rfl rfl (by omega) (by omega)) ?_
     refine dp rfl (pop_assign rfl) ?_
     refine dn ?_
     exact ⟨D1, y :: B, ⟨by simp at hA ⊢; omega, ins_step hB hcx⟩, by dsimp only; omega, ⟨some_int (by omega), trivial⟩, (by repeat (first | exact keeps_refl | refine keeps_upd rfl ?_ | refine keeps_loop rfl rfl ?_)), perm_eq (by rw [← List.append_assoc, swap_mid]; simp)⟩
    ·try simp at h4
     have hins := ins_exit (l := X) (k := k) hx hB (by intro h0; have h9 := h4 (by omega); rw [last_app2 h0] at h9; omega)
     refine hw_exit ?_
     refine seqQ_x ?_
     refine loopQ2_x ?_
     refine blockQ_eq ?_
     refine blockQ_n ?_
     refine seqQ_n ?_
     refine hw_reg1 ?_
     refine dp rfl (pop_move rfl) ?_
     refine dp rfl (pop_add64 rfl rfl (by omega) (by omega)) ?_
     refine dp rfl (pop_assign rfl) ?_
     refine dn ?_
     exact ⟨k + 1, by omega, by dsimp only; omega, ⟨some_int (by omega), trivial⟩, (by repeat (first | exact keeps_refl | refine keeps_upd rfl ?_ | refine keeps_loop rfl rfl ?_)), perm_eq (by rw [ins_win hins])⟩
  ·try simp at h2
   have hend : isort c (X.take k) ++ X.drop k = isort c X := by rw [List.take_of_length_le (by omega), drop_all (by omega)]; simp
   refine hw_exit ?_
   refine seqQ_x ?_
   refine loopQ_x ?_
   refine blockQ_eq ?_
   exact ret_q rfl ⟨rfl, by rw [hend]⟩

set_option maxHeartbeats 4000000 in
/-- slices.symMergeCmpFunc[benchwarmer/api.Mend] -/
theorem c_syms_api_Mend [Tracks] {A X Y C : List MendS} {ia im ib : Int} {N : Nat} {n b off cap : Nat} {fid : FuncId} {caps : List HVal} {c : MendS → MendS → Int} (hca : Callable Tryz.prog fid) (hp : ∀ x y, ConP Tryz.prog fid ([eMend x, eMend y] ++ caps) (.int .i64 (c x y))) (hc : Cmp c fun _ => True) (hx0 : 0 < X.length) (hy0 : 0 < Y.length) (hN : X.length + Y.length ≤ N) (hn : A.length + X.length + Y.length + C.length = n) (hia : ia = (A.length : Int)) (him : im = (A.length : Int) + X.length) (hib : ib = (A.length : Int) + X.length + Y.length) (hX : Srt c X) (hY : Srt c Y) (hl : n ≤ 1000000) (ih : ∀ {A X Y C : List MendS} {ia im ib : Int}, 0 < X.length → 0 < Y.length → X.length + Y.length < N → A.length + X.length + Y.length + C.length = n → ia = (A.length : Int) → im = (A.length : Int) + X.length → ib = (A.length : Int) + X.length + Y.length → Srt c X → Srt c Y → Con Tryz.prog 178 [.raw (.slice (some ⟨b, off, none⟩) n cap), .int .i64 ia, .int .i64 im, .int .i64 ib, .fn (.func fid) [] caps] [.arr (.slice (some ⟨b, off, none⟩) n cap) 7 ((A ++ X ++ Y ++ C).map eMend)] (fun x M' => ∃ Z : List MendS, x = .tup [] ∧ (Z.Perm (X ++ Y) ∧ Srt c Z) ∧ M' = [.arr (.slice (some ⟨b, off, none⟩) n cap) 7 ((A ++ Z ++ C).map eMend)])) : Con Tryz.prog 178 [.raw (.slice (some ⟨b, off, none⟩) n cap), .int .i64 ia, .int .i64 im, .int .i64 ib, .fn (.func fid) [] caps] [.arr (.slice (some ⟨b, off, none⟩) n cap) 7 ((A ++ X ++ Y ++ C).map eMend)] (fun x M' => ∃ Z : List MendS, x = .tup [] ∧ (Z.Perm (X ++ Y) ∧ Srt c Z) ∧ M' = [.arr (.slice (some ⟨b, off, none⟩) n cap) 7 ((A ++ Z ++ C).map eMend)]) := by
 refine Con.of_body Tryz.func178 rfl Tryz.ntmps178 rfl rfl ?_
 refine hw_seq ?_
 refine hw_reg ?_
 refine dp rfl (pop_move rfl) ?_
 refine dp rfl (pop_move rfl) ?_
 refine dp rfl (pop_sub64 rfl rfl (by omega) (by omega)) ?_
 refine dp rfl (pop_eql rfl rfl) ?_
 refine dn ?_
 refine hw_cond rfl (fun h1 => ?_) (fun h2 => ?_)
 ·try simp at h1
  obtain ⟨x, rfl⟩ : ∃ x, X = [x] := List.length_eq_one_iff.1 (by omega)
  simp only [List.length_cons, List.length_nil, Nat.zero_add] at *
  refine hw_reg ?_
  refine dp rfl (pop_move rfl) ?_
  refine dp rfl (pop_assign rfl) ?_
  refine dn ?_
  refine hw_reg ?_
  refine dp rfl (pop_move rfl) ?_
  refine dp rfl (pop_assign rfl) ?_
  refine dn ?_
  refine hw_seq ?_
  refine hw_block ?_
  refine hw_loopw2 [10, 11, 12, 31, 32, 33, 34, 35, 36, 37, 38, 39, 40, 41, 42, 43, 44, 45, 46, 47, 48, 49, 50, 51, 52, 53] (fun (p : Nat) (q : Nat) => [(10, .int .i64 ((A.length + 1 + p : Nat) : Int)), (11, .int .i64 ((A.length + 1 + q : Nat) : Int))]) (fun (p : Nat) (q : Nat) => [.arr (.slice (some ⟨b, off, none⟩) n cap) 7 ((A ++ [x] ++ Y ++ C).map eMend)]) (fun (p : Nat) (q : Nat) => p ≤ q ∧ q ≤ Y.length ∧ (∀ y, Y[p - 1]? = some y → 0 < p → c y x < 0) ∧ (∀ y, Y[q]? = some y → ¬ c y x < 0)) (fun (p : Nat) (q : Nat) => q - p) (0) (Y.length) ?_ ?_ ?_ ?_
  ·exact ⟨Nat.zero_le _, Nat.le_refl _, fun y _ h => absurd h (Nat.lt_irrefl _), fun y h => by have := lt_of_get h; omega⟩
  ·exact ⟨some_int (by omega), some_int (by omega), trivial⟩
  ·exact List.Perm.refl _
  ·intro p q hinv
   obtain ⟨hpq, hqY, hP, hQ⟩ := hinv
   refine hw_seq ?_
   refine hw_reg ?_
   refine dp rfl (pop_move rfl) ?_
   refine dp rfl (pop_move rfl) ?_
   refine dp rfl (pop_lss rfl rfl) ?_
   refine dn ?_
   refine hw_cond rfl (fun h3 => ?_) (fun h4 => ?_)
   ·try simp at h3
    refine hw_skip ?_
    refine seqQ_n ?_
    refine hw_block ?_
    refine hw_reg ?_
    refine dp rfl (pop_move rfl) ?_
    refine dp rfl (pop_move rfl) ?_
    refine dp rfl (pop_add64 rfl rfl (by omega) (by omega)) ?_
    refine dp rfl (pop_conv ty3 ty196 rfl) ?_
    refine dp rfl (pop_shr rfl rfl (by omega)) ?_
    refine dp rfl (pop_eq (pop_conv ty196 ty3 rfl) (mid_eq (i := A.length + 1 + p) (j := A.length + 1 + q) (by omega))) ?_
    refine dp rfl (pop_assign rfl) ?_
    refine dn ?_
    obtain ⟨r, hr⟩ : ∃ r, (A.length + 1 + p + (A.length + 1 + q)) / 2 = A.length + 1 + r := ⟨(A.length + 1 + p + (A.length + 1 + q)) / 2 - (A.length + 1), by omega⟩
    obtain ⟨y, hy⟩ : ∃ y, Y[r]? = some y := ⟨_, List.getElem?_eq_getElem (by omega)⟩
    refine hw_draw (fun M => M = [.arr (.slice (some ⟨b, off, none⟩) n cap) 7 ((A ++ [x] ++ Y ++ C).map eMend)]) [4, 8] mixed ?_
    refine ahp 0 rfl rfl (by kernel_rfl) (by kernel_rfl) (pop_move rfl) ?_
    refine ahp 1 rfl rfl (by kernel_rfl) (by kernel_rfl) (pop_move rfl) ?_
    refine ahp 2 rfl rfl (by kernel_rfl) (by kernel_rfl) (pop_move rfl) ?_
    refine ahp 3 rfl rfl (by kernel_rfl) (by kernel_rfl) (pop_idxraw (j := A.length + [x].length + r) ty46 ty69 rfl rfl (by first | omega | (simp; omega)) (by first | omega | (simp; omega))) ?_
    refine ahl 4 rfl rfl (by kernel_rfl) (by kernel_rfl) (by simp) rfl (fun M hM => by subst hM; exact eop_load_elw (i := 0) (j := A.length + [x].length + r) ty69 rfl rfl rfl (mid_get2 hy) rfl rfl rfl ⟨rfl, rfl⟩) ?_
    refine ahp 5 rfl rfl (by kernel_rfl) (by kernel_rfl) (pop_move rfl) ?_
    refine ahp 6 rfl rfl (by kernel_rfl) (by kernel_rfl) (pop_move rfl) ?_
    refine ahp 7 rfl rfl (by kernel_rfl) (by kernel_rfl) (pop_idxraw (j := A.length + 0) ty46 ty69 rfl rfl (by first | omega | (simp; omega)) (by omega)) ?_
    refine ahl 8 rfl rfl (by kernel_rfl) (by kernel_rfl) (by simp) rfl (fun M hM => by subst hM; exact eop_load_elw (i := 0) (j := A.length + 0) ty69 rfl rfl rfl (mid_get1 (X := [x]) rfl) rfl rfl rfl ⟨rfl, rfl⟩) ?_
    refine ahp 9 rfl rfl (by kernel_rfl) (by kernel_rfl) (pop_callv hca rfl rfl (WeakL.refl _) (hp _ _)) ?_
    refine ahp 10 rfl rfl (by kernel_rfl) (by kernel_rfl) (pop_lss rfl rfl) ?_
    refine ahz (by kernel_rfl) ?_
    refine hw_cond rfl (fun h5 => ?_) (fun h6 => ?_)
    ·try simp at h5
     refine hw_reg1 ?_
     refine dp rfl (pop_move rfl) ?_
     refine dp rfl (pop_add64 rfl rfl (by omega) (by omega)) ?_
     refine dp rfl (pop_assign rfl) ?_
     refine dn ?_
     refine blockQ_n ?_
     exact ⟨r + 1, q, ⟨by omega, hqY, fun z hz _ => by rw [Nat.add_sub_cancel, hy] at hz; rw [← Option.some.inj hz]; assumption, hQ⟩, by dsimp only; omega, ⟨some_int (by omega), rfl, trivial⟩, (by repeat (first | exact keeps_refl | refine keeps_upd rfl ?_ | refine keeps_loop rfl rfl ?_)), List.Perm.refl _⟩
    ·try simp at h6
     refine hw_reg1 ?_
     refine dp rfl (pop_move rfl) ?_
     refine dp rfl (pop_assign rfl) ?_
     refine dn ?_
     refine blockQ_n ?_
     exact ⟨p, r, ⟨by omega, by omega, hP, fun z hz => by rw [hy] at hz; rw [← Option.some.inj hz]; omega⟩, by dsimp only; omega, ⟨rfl, some_int (by omega), trivial⟩, (by repeat (first | exact keeps_refl | refine keeps_upd rfl ?_ | refine keeps_loop rfl rfl ?_)), List.Perm.refl _⟩
   ·try simp at h4
    obtain rfl : p = q := by omega
    refine hw_exit ?_
    refine seqQ_x ?_
    refine loopQ2_x ?_
    refine blockQ_eq ?_
    refine seqQ_n ?_
    refine hw_seq ?_
    refine hw_reg ?_
    refine dp rfl (pop_move rfl) ?_
    refine dp rfl (pop_assign rfl) ?_
    refine dn ?_
    refine hw_block ?_
    refine hw_loopw [13, 55, 56, 57, 58, 59, 60, 61, 62, 63, 64, 65, 66, 67, 68, 69, 70, 71, 72, 73, 74, 75, 76] (fun (t : Nat) => [(13, .int .i64 ((A.length + t : Nat) : Int))]) (fun (t : Nat) => [.arr (.slice (some ⟨b, off, none⟩) n cap) 7 ((wan A Y x C t).map eMend)]) (fun (t : Nat) => t ≤ p) (fun (t : Nat) => p - t) (0) ?_ ?_ ?_ ?_
    ·exact Nat.zero_le _
    ·exact ⟨some_int (by omega), trivial⟩
    ·exact perm_eq (by rw [wan_zero])
    ·intro t ht
     refine hw_seq ?_
     refine hw_reg ?_
     refine dp rfl (pop_move rfl) ?_
     refine dp rfl (pop_move rfl) ?_
     refine dp rfl (pop_sub64 rfl rfl (by omega) (by omega)) ?_
     refine dp rfl (pop_lss rfl rfl) ?_
     refine dn ?_
     refine hw_cond rfl (fun h7 => ?_) (fun h8 => ?_)
     ·try simp at h7
      obtain ⟨y, hy⟩ : ∃ y, Y[t]? = some y := ⟨_, List.getElem?_eq_getElem (by omega)⟩
      refine hw_skip ?_
      refine seqQ_n ?_
      refine hw_seq ?_
      refine hw_block ?_
      refine hw_draw1 (fun M => M = [.arr (.slice (some ⟨b, off, none⟩) n cap) 7 ((wan A Y x C t).map eMend)]) [9, 13] mixed ?_
      refine ahp 0 rfl rfl (by kernel_rfl) (by kernel_rfl) (pop_move rfl) ?_
      refine ahp 1 rfl rfl (by kernel_rfl) (by kernel_rfl) (pop_move rfl) ?_
      refine ahp 2 rfl rfl (by kernel_rfl) (by kernel_rfl) (pop_move rfl) ?_
      refine ahp 3 rfl rfl (by kernel_rfl) (by kernel_rfl) (pop_move rfl) ?_
      refine ahp 4 rfl rfl (by kernel_rfl) (by kernel_rfl) (pop_add64 rfl rfl (by omega) (by omega)) ?_
      refine ahp 5 rfl rfl (by kernel_rfl) (by kernel_rfl) (pop_move rfl) ?_
      refine ahp 6 rfl rfl (by kernel_rfl) (by kernel_rfl) (pop_move rfl) ?_
      refine ahp 7 rfl rfl (by kernel_rfl) (by kernel_rfl) (pop_add64 rfl rfl (by omega) (by omega)) ?_
      refine ahp 8 rfl rfl (by kernel_rfl) (by kernel_rfl) (pop_idxraw (j := A.length + t + 1) ty46 ty69 rfl rfl (by omega) (by omega)) ?_
      refine ahl 9 rfl rfl (by kernel_rfl) (by kernel_rfl) (by simp) rfl (fun M hM => by subst hM; exact eop_load_elw (i := 0) (j := A.length + t + 1) ty69 rfl rfl rfl (wan_get2 hy) rfl rfl rfl ⟨rfl, rfl⟩) ?_
      refine ahp 10 rfl rfl (by kernel_rfl) (by kernel_rfl) (pop_move rfl) ?_
      refine ahp 11 rfl rfl (by kernel_rfl) (by kernel_rfl) (pop_move rfl) ?_
      refine ahp 12 rfl rfl (by kernel_rfl) (by kernel_rfl) (pop_idxraw (j := A.length + t) ty46 ty69 rfl rfl (by omega) (by omega)) ?_
      refine ahl 13 rfl rfl (by kernel_rfl) (by kernel_rfl) (by simp) rfl (fun M hM => by subst hM; exact eop_load_elw (i := 0) (j := A.length + t) ty69 rfl rfl rfl (wan_get1 hy) rfl rfl rfl ⟨rfl, rfl⟩) ?_
      refine ahp 14 rfl rfl (by kernel_rfl) (by kernel_rfl) (pop_idxraw (j := A.length + t) ty46 ty69 rfl rfl (by omega) (by omega)) ?_
      refine ahe 15 rfl (by kernel_rfl) ?_
      refine hop_e0 (eop_store_elw (i := 0) (j := A.length + t) (y := x) (y' := y) ty69 rfl rfl rfl rfl (wan_get1 hy) rfl rfl rfl ?_)
      refine ⟨fun _ => .inr (by simp [Before, Region.binds]), ?_⟩
      refine ahp 16 rfl rfl (by kernel_rfl) (by kernel_rfl) (pop_idxraw (j := A.length + t + 1) ty46 ty69 rfl rfl (by omega) (by omega)) ?_
      refine ahe 17 rfl (by kernel_rfl) ?_
      refine hop_e0 (eop_store_elw (i := 0) (j := A.length + t + 1) (y := y) (y' := x) ty69 rfl rfl rfl rfl (wan_get2' hy) rfl rfl rfl ?_)
      refine ⟨fun _ => .inr (by simp [Before, Region.binds]), ?_⟩
      refine ahz (by kernel_rfl) ?_
      refine blockQ_n ?_
      refine seqQ_n ?_
      refine hw_reg1 ?_
      refine dp rfl (pop_move rfl) ?_
      refine dp rfl (pop_add64 rfl rfl (by omega) (by omega)) ?_
      refine dp rfl (pop_assign rfl) ?_
      refine dn ?_
      exact ⟨t + 1, by omega, by dsimp only; omega, ⟨some_int (by omega), trivial⟩, (by repeat (first | exact keeps_refl | refine keeps_upd rfl ?_ | refine keeps_loop rfl rfl ?_)), perm_eq (by rw [wan_set hy]; rfl)⟩
     ·try simp at h8
      obtain rfl : t = p := by omega
      refine hw_exit ?_
      refine seqQ_x ?_
      refine loopQ_x ?_
      refine blockQ_eq ?_
      refine seqQ_n ?_
      refine hw_ret ?_
      first
      | exact ret_q rfl ⟨_, rfl, one_left hc hY hqY (fun y hy => by have h1 := hQ y hy; have := hc.flip y x trivial trivial; have := hc.flip x y trivial trivial; omega) (fun y hy h0 => by have := hP y hy h0; omega), by simp [wan]⟩
      | exact ret_q rfl ⟨_, rfl, one_right hc hX hqX (fun x hx h0 => by have h1 := hP x hx h0; have := hc.flip y x trivial trivial; have := hc.flip x y trivial trivial; omega) (fun x hx => by have := hQ x hx; omega), by simp [wan]⟩
      | exact ret_q rfl ⟨Z1 ++ Z2, rfl, sym_join hc hX hY (by omega) (by omega) hk1 hk2 hz1 hz3 hz2 hz4, by simp⟩
      | exact ret_q rfl ⟨Z1 ++ (X.drop (p - A.length) ++ Y.drop (d - p)), rfl, sym_join hc hX hY (by omega) (by omega) hk1 hk2 hz1 (List.Perm.refl _) hz2 (sym_right hX hY (by rcases Nat.lt_or_ge p (A.length + X.length) with q | q; (have := h8 (by omega); omega); omega)), by simp⟩
 ·try simp at h2
  refine hw_skip ?_
  refine seqQ_n ?_
  refine hw_seq ?_
  refine hw_reg ?_
  refine dp rfl (pop_move rfl) ?_
  refine dp rfl (pop_move rfl) ?_
  refine dp rfl (pop_sub64 rfl rfl (by omega) (by omega)) ?_
  refine dp rfl (pop_eql rfl rfl) ?_
  refine dn ?_
  refine hw_cond rfl (fun h9 => ?_) (fun h10 => ?_)
  ·try simp at h9
   obtain ⟨y, rfl⟩ : ∃ y, Y = [y] := List.length_eq_one_iff.1 (by omega)
   simp only [List.length_cons, List.length_nil, Nat.zero_add] at *
   refine hw_reg ?_
   refine dp rfl (pop_move rfl) ?_
   refine dp rfl (pop_assign rfl) ?_
   refine dn ?_
   refine hw_reg ?_
   refine dp rfl (pop_move rfl) ?_
   refine dp rfl (pop_assign rfl) ?_
   refine dn ?_
   refine hw_seq ?_
   refine hw_block ?_
   refine hw_loopw2 [14, 15, 16, 83, 84, 85, 86, 87, 88, 89, 90, 91, 92, 93, 94, 95, 96, 97, 98, 99, 100, 101, 102, 103, 104, 105, 106] (fun (p : Nat) (q : Nat) => [(14, .int .i64 ((A.length + p : Nat) : Int)), (15, .int .i64 ((A.length + q : Nat) : Int))]) (fun (p : Nat) (q : Nat) => [.arr (.slice (some ⟨b, off, none⟩) n cap) 7 ((A ++ X ++ [y] ++ C).map eMend)]) (fun (p : Nat) (q : Nat) => p ≤ q ∧ q ≤ X.length ∧ (∀ x, X[p - 1]? = some x → 0 < p → ¬ c y x < 0) ∧ (∀ x, X[q]? = some x → c y x < 0)) (fun (p : Nat) (q : Nat) => q - p) (0) (X.length) ?_ ?_ ?_ ?_
   ·exact ⟨Nat.zero_le _, Nat.le_refl _, fun x _ h => absurd h (Nat.lt_irrefl _), fun x h => by have := lt_of_get h; omega⟩
   ·exact ⟨some_int (by omega), some_int (by omega), trivial⟩
   ·exact List.Perm.refl _
   ·intro p q hinv
    obtain ⟨hpq, hqX, hP, hQ⟩ := hinv
    refine hw_seq ?_
    refine hw_reg ?_
    refine dp rfl (pop_move rfl) ?_
    refine dp rfl (pop_move rfl) ?_
    refine dp rfl (pop_lss rfl rfl) ?_
    refine dn ?_
    refine hw_cond rfl (fun h11 => ?_) (fun h12 => ?_)
    ·try simp at h11
     refine hw_skip ?_
     refine seqQ_n ?_
     refine hw_block ?_
     refine hw_reg ?_
     refine dp rfl (pop_move rfl) ?_
     refine dp rfl (pop_move rfl) ?_
     refine dp rfl (pop_add64 rfl rfl (by omega) (by omega)) ?_
     refine dp rfl (pop_conv ty3 ty196 rfl) ?_
     refine dp rfl (pop_shr rfl rfl (by omega)) ?_
     refine dp rfl (pop_eq (pop_conv ty196 ty3 rfl) (mid_eq (i := A.length + p) (j := A.length + q) (by omega))) ?_
     refine dp rfl (pop_assign rfl) ?_
     refine dn ?_
     obtain ⟨r, hr⟩ : ∃ r, (A.length + p + (A.length + q)) / 2 = A.length + r := ⟨(A.length + p + (A.length + q)) / 2 - A.length, by omega⟩
     obtain ⟨x, hx⟩ : ∃ x, X[r]? = some x := ⟨_, List.getElem?_eq_getElem (by omega)⟩
     refine hw_draw (fun M => M = [.arr (.slice (some ⟨b, off, none⟩) n cap) 7 ((A ++ X ++ [y] ++ C).map eMend)]) [4, 8] mixed ?_
     refine ahp 0 rfl rfl (by kernel_rfl) (by kernel_rfl) (pop_move rfl) ?_
     refine ahp 1 rfl rfl (by kernel_rfl) (by kernel_rfl) (pop_move rfl) ?_
     refine ahp 2 rfl rfl (by kernel_rfl) (by kernel_rfl) (pop_move rfl) ?_
     refine ahp 3 rfl rfl (by kernel_rfl) (by kernel_rfl) (pop_idxraw (j := A.length + X.length + 0) ty46 ty69 rfl rfl (by first | omega | (simp; omega)) (by simp at hn ⊢; omega)) ?_
     refine ahl 4 rfl rfl (by kernel_rfl) (by kernel_rfl) (by simp) rfl (fun M hM => by subst hM; exact eop_load_elw (i := 0) (j := A.length + X.length + 0) ty69 rfl rfl rfl (mid_get2 (Y := [y]) rfl) rfl rfl rfl ⟨rfl, rfl⟩) ?_
     refine ahp 5 rfl rfl (by kernel_rfl) (by kernel_rfl) (pop_move rfl) ?_
     refine ahp 6 rfl rfl (by kernel_rfl) (by kernel_rfl) (pop_move rfl) ?_
     refine ahp 7 rfl rfl (by kernel_rfl) (by kernel_rfl) (pop_idxraw (j := A.length + r) ty46 ty69 rfl rfl (by omega) (by omega)) ?_
     refine ahl 8 rfl rfl (by kernel_rfl) (by kernel_rfl) (by simp) rfl (fun M hM => by subst hM; exact eop_load_elw (i := 0) (j := A.length + r) ty69 rfl rfl rfl (mid_get1 hx) rfl rfl rfl ⟨rfl, rfl⟩) ?_
     refine ahp 9 rfl rfl (by kernel_rfl) (by kernel_rfl) (pop_callv hca rfl rfl (WeakL.refl _) (hp _ _)) ?_
     refine ahp 10 rfl rfl (by kernel_rfl) (by kernel_rfl) (pop_lss rfl rfl) ?_
     refine ahp 11 rfl rfl (by kernel_rfl) (by kernel_rfl) (pop_not rfl) ?_
     refine ahz (by kernel_rfl) ?_
     refine hw_cond rfl (fun h13 => ?_) (fun h14 => ?_)
     ·try simp at h13
      refine hw_reg1 ?_
      refine dp rfl (pop_move rfl) ?_
      refine dp rfl (pop_add64 rfl rfl (by omega) (by omega)) ?_
      refine dp rfl (pop_assign rfl) ?_
      refine dn ?_
      refine blockQ_n ?_
      exact ⟨r + 1, q, ⟨by omega, hqX, fun z hz _ => by rw [Nat.add_sub_cancel, hx] at hz; rw [← Option.some.inj hz]; omega, hQ⟩, by dsimp only; omega, ⟨some_int (by omega), rfl, trivial⟩, (by repeat (first | exact keeps_refl | refine keeps_upd rfl ?_ | refine keeps_loop rfl rfl ?_)), List.Perm.refl _⟩
     ·try simp at h14
      refine hw_reg1 ?_
      refine dp rfl (pop_move rfl) ?_
      refine dp rfl (pop_assign rfl) ?_
      refine dn ?_
      refine blockQ_n ?_
      exact ⟨p, r, ⟨by omega, by omega, hP, fun z hz => by rw [hx] at hz; rw [← Option.some.inj hz]; omega⟩, by dsimp only; omega, ⟨rfl, some_int (by omega), trivial⟩, (by repeat (first | exact keeps_refl | refine keeps_upd rfl ?_ | refine keeps_loop rfl rfl ?_)), List.Perm.refl _⟩
    ·try simp at h12
     obtain rfl : p = q := by omega
     refine hw_exit ?_
     refine seqQ_x ?_
     refine loopQ2_x ?_
     refine blockQ_eq ?_
     refine seqQ_n ?_
     refine hw_seq ?_
     refine hw_reg ?_
     refine dp rfl (pop_move rfl) ?_
     refine dp rfl (pop_assign rfl) ?_
     refine dn ?_
     refine hw_block ?_
     refine hw_loopw [17, 108, 109, 110, 111, 112, 113, 114, 115, 116, 117, 118, 119, 120, 121, 122, 123, 124, 125, 126, 127, 128] (fun (t : Nat) => [(17, .int .i64 ((A.length + t : Nat) : Int))]) (fun (t : Nat) => [.arr (.slice (some ⟨b, off, none⟩) n cap) 7 ((wan A X y C t).map eMend)]) (fun (t : Nat) => p ≤ t ∧ t ≤ X.length) (fun (t : Nat) => t) (X.length) ?_ ?_ ?_ ?_
     ·exact ⟨by omega, Nat.le_refl _⟩
     ·exact ⟨some_int (by omega), trivial⟩
     ·exact perm_eq (by rw [wan_end])
     ·intro t hinv
      obtain ⟨ht, htX⟩ := hinv
      refine hw_seq ?_
      refine hw_reg ?_
      refine dp rfl (pop_move rfl) ?_
      refine dp rfl (pop_move rfl) ?_
      refine dp rfl (pop_gtr rfl rfl) ?_
      refine dn ?_
      refine hw_cond rfl (fun h15 => ?_) (fun h16 => ?_)
      ·try simp at h15
       obtain ⟨s, rfl⟩ : ∃ s, t = s + 1 := ⟨t - 1, by omega⟩
       obtain ⟨x, hx⟩ : ∃ x, X[s]? = some x := ⟨_, List.getElem?_eq_getElem (by omega)⟩
       refine hw_skip ?_
       refine seqQ_n ?_
       refine hw_seq ?_
       refine hw_block ?_
       refine hw_draw1 (fun M => M = [.arr (.slice (some ⟨b, off, none⟩) n cap) 7 ((wan A X y C (s + 1)).map eMend)]) [9, 13] mixed ?_
       refine ahp 0 rfl rfl (by kernel_rfl) (by kernel_rfl) (pop_move rfl) ?_
       refine ahp 1 rfl rfl (by kernel_rfl) (by kernel_rfl) (pop_move rfl) ?_
       refine ahp 2 rfl rfl (by kernel_rfl) (by kernel_rfl) (pop_move rfl) ?_
       refine ahp 3 rfl rfl (by kernel_rfl) (by kernel_rfl) (pop_move rfl) ?_
       refine ahp 4 rfl rfl (by kernel_rfl) (by kernel_rfl) (pop_sub64 rfl rfl (by omega) (by omega)) ?_
       refine ahp 5 rfl rfl (by kernel_rfl) (by kernel_rfl) (pop_move rfl) ?_
       refine ahp 6 rfl rfl (by kernel_rfl) (by kernel_rfl) (pop_move rfl) ?_
       refine ahp 7 rfl rfl (by kernel_rfl) (by kernel_rfl) (pop_sub64 rfl rfl (by omega) (by omega)) ?_
       refine ahp 8 rfl rfl (by kernel_rfl) (by kernel_rfl) (pop_idxraw (j := A.length + s) ty46 ty69 rfl rfl (by omega) (by omega)) ?_
       refine ahl 9 rfl rfl (by kernel_rfl) (by kernel_rfl) (by simp) rfl (fun M hM => by subst hM; exact eop_load_elw (i := 0) (j := A.length + s) ty69 rfl rfl rfl (wan_at hx).2 rfl rfl rfl ⟨rfl, rfl⟩) ?_
       refine ahp 10 rfl rfl (by kernel_rfl) (by kernel_rfl) (pop_move rfl) ?_
       refine ahp 11 rfl rfl (by kernel_rfl) (by kernel_rfl) (pop_move rfl) ?_
       refine ahp 12 rfl rfl (by kernel_rfl) (by kernel_rfl) (pop_idxraw (j := A.length + s + 1) ty46 ty69 rfl rfl (by omega) (by omega)) ?_
       refine ahl 13 rfl rfl (by kernel_rfl) (by kernel_rfl) (by simp) rfl (fun M hM => by subst hM; exact eop_load_elw (i := 0) (j := A.length + s + 1) ty69 rfl rfl rfl (wan_at hx).1 rfl rfl rfl ⟨rfl, rfl⟩) ?_
       refine ahp 14 rfl rfl (by kernel_rfl) (by kernel_rfl) (pop_idxraw (j := A.length + s + 1) ty46 ty69 rfl rfl (by omega) (by omega)) ?_
       refine ahe 15 rfl (by kernel_rfl) ?_
       refine hop_e0 (eop_store_elw (i := 0) (j := A.length + s + 1) (y := y) (y' := x) ty69 rfl rfl rfl rfl (wan_at hx).1 rfl rfl rfl ?_)
       refine ⟨fun _ => .inr (by simp [Before, Region.binds]), ?_⟩
       refine ahp 16 rfl rfl (by kernel_rfl) (by kernel_rfl) (pop_idxraw (j := A.length + s) ty46 ty69 rfl rfl (by omega) (by omega)) ?_
       refine ahe 17 rfl (by kernel_rfl) ?_
       refine hop_e0 (eop_store_elw (i := 0) (j := A.length + s) (y := x) (y' := y) ty69 rfl rfl rfl rfl (wan_at' hx) rfl rfl rfl ?_)
       refine ⟨fun _ => .inr (by simp [Before, Region.binds]), ?_⟩
       refine ahz (by kernel_rfl) ?_
       refine blockQ_n ?_
       refine seqQ_n ?_
       refine hw_reg1 ?_
       refine dp rfl (pop_move rfl) ?_
       refine dp rfl (pop_sub64 rfl rfl (by omega) (by omega)) ?_
       refine dp rfl (pop_assign rfl) ?_
       refine dn ?_
       exact ⟨s, ⟨by omega, by omega⟩, by dsimp only; omega, ⟨some_int (by omega), trivial⟩, (by repeat (first | exact keeps_refl | refine keeps_upd rfl ?_ | refine keeps_loop rfl rfl ?_)), perm_eq (by rw [wan_back hx]; rfl)⟩
      ·try simp at h16
       obtain rfl : t = p := by omega
       refine hw_exit ?_
       refine seqQ_x ?_
       refine loopQ_x ?_
       refine blockQ_eq ?_
       refine seqQ_n ?_
       refine hw_ret ?_
       first
       | exact ret_q rfl ⟨_, rfl, one_left hc hY hqY (fun y hy => by have h1 := hQ y hy; have := hc.flip y x trivial trivial; have := hc.flip x y trivial trivial; omega) (fun y hy h0 => by have := hP y hy h0; omega), by simp [wan]⟩
       | exact ret_q rfl ⟨_, rfl, one_right hc hX hqX (fun x hx h0 => by have h1 := hP x hx h0; have := hc.flip y x trivial trivial; have := hc.flip x y trivial trivial; omega) (fun x hx => by have := hQ x hx; omega), by simp [wan]⟩
       | exact ret_q rfl ⟨Z1 ++ Z2, rfl, sym_join hc hX hY (by omega) (by omega) hk1 hk2 hz1 hz3 hz2 hz4, by simp⟩
       | exact ret_q rfl ⟨Z1 ++ (X.drop (p - A.length) ++ Y.drop (d - p)), rfl, sym_join hc hX hY (by omega) (by omega) hk1 hk2 hz1 (List.Perm.refl _) hz2 (sym_right hX hY (by rcases Nat.lt_or_ge p (A.length + X.length) with q | q; (have := h16 (by omega); omega); omega)), by simp⟩
  ·try simp at h10
   refine hw_skip ?_
   refine seqQ_n ?_
   refine hw_reg ?_
   refine dp rfl (pop_move rfl) ?_
   refine dp rfl (pop_move rfl) ?_
   refine dp rfl (pop_add64 rfl rfl (by omega) (by omega)) ?_
   refine dp rfl (pop_conv ty3 ty196 rfl) ?_
   refine dp rfl (pop_shr rfl rfl (by omega)) ?_
   refine dp rfl (pop_eq (h' := .int .i64 (((A.length + (A.length + X.length + Y.length)) / 2 : Nat) : Int)) (pop_conv ty196 ty3 rfl) (by have e9 : ia + ib = ((A.length : Nat) : Int) + ((A.length + X.length + Y.length : Nat) : Int) := (by omega); rw [e9]; exact mid_eq (by omega))) ?_
   refine dp rfl (pop_assign rfl) ?_
   refine dn ?_
   obtain ⟨d, hd⟩ : ∃ d : Nat, (A.length + (A.length + X.length + Y.length)) / 2 = d := ⟨_, rfl⟩
   rw [hd]
   refine hw_reg ?_
   refine dp rfl (pop_move rfl) ?_
   refine dp rfl (pop_move rfl) ?_
   refine dp rfl (pop_add64 rfl rfl (by omega) (by omega)) ?_
   refine dp rfl (pop_assign rfl) ?_
   refine dn ?_
   refine hw_reg ?_
   refine dp rfl (pop_assign rfl) ?_
   refine dp rfl (pop_assign rfl) ?_
   refine dn ?_
   refine hw_join [20, 21, 138, 139, 140, 141, 142, 143, 144, 145, 146] (fun (s : Nat × Nat) => [(20, .int .i64 (s.1 : Int)), (21, .int .i64 (s.2 : Int))]) (fun (s : Nat × Nat) => [.arr (.slice (some ⟨b, off, none⟩) n cap) 7 ((A ++ X ++ Y ++ C).map eMend)]) (fun (s : Nat × Nat) => (A.length ≤ s.1 ∧ s.1 ≤ s.2 ∧ s.2 ≤ A.length + X.length ∧ s.2 ≤ d ∧ d ≤ s.1 + Y.length) ∧ (s.1 = A.length ∨ d = s.1 + Y.length) ∧ (s.2 = A.length + X.length ∨ s.2 = d)) ?_ ?_
   ·skip
    refine hw_reg ?_
    refine dp rfl (pop_move rfl) ?_
    refine dp rfl (pop_move rfl) ?_
    refine dp rfl (pop_gtr rfl rfl) ?_
    refine dn ?_
    refine hw_cond rfl (fun h17 => ?_) (fun h18 => ?_)
    ·try simp at h17
     refine hw_reg ?_
     refine dp rfl (pop_move rfl) ?_
     refine dp rfl (pop_move rfl) ?_
     refine dp rfl (pop_sub64 rfl rfl (by omega) (by omega)) ?_
     refine dp rfl (pop_assign rfl) ?_
     refine dn ?_
     refine hw_reg1 ?_
     refine dp rfl (pop_move rfl) ?_
     refine dp rfl (pop_assign rfl) ?_
     refine dn ?_
     exact ⟨(d - Y.length, d), ⟨⟨by dsimp only; omega, by dsimp only; omega, by dsimp only; omega, by dsimp only; omega, by dsimp only; omega⟩, by dsimp only; omega, by dsimp only; omega⟩, ⟨some_int (by omega), rfl, trivial⟩, (by repeat (first | exact keeps_refl | refine keeps_upd rfl ?_ | refine keeps_loop rfl rfl ?_)), List.Perm.refl _⟩
    ·try simp at h18
     refine hw_reg ?_
     refine dp rfl (pop_move rfl) ?_
     refine dp rfl (pop_assign rfl) ?_
     refine dn ?_
     refine hw_reg1 ?_
     refine dp rfl (pop_move rfl) ?_
     refine dp rfl (pop_assign rfl) ?_
     refine dn ?_
     exact ⟨(A.length, A.length + X.length), ⟨⟨by dsimp only; omega, by dsimp only; omega, by dsimp only; omega, by dsimp only; omega, by dsimp only; omega⟩, by dsimp only; omega, by dsimp only; omega⟩, ⟨some_int (by omega), some_int (by omega), trivial⟩, (by repeat (first | exact keeps_refl | refine keeps_upd rfl ?_ | refine keeps_loop rfl rfl ?_)), List.Perm.refl _⟩
   ·intro s hs
    obtain ⟨s1, s2⟩ := s
    dsimp only at hs ⊢
    obtain ⟨⟨hs3, hs4, hs5, hs6, hs7⟩, hs1, hs2⟩ := hs
    refine hw_reg ?_
    refine dp rfl (pop_move rfl) ?_
    refine dp rfl (pop_sub64 rfl rfl (by omega) (by omega)) ?_
    refine dp rfl (pop_assign rfl) ?_
    refine dn ?_
    refine hw_seq ?_
    refine hw_block ?_
    refine hw_loopw2 [20, 21, 23, 149, 150, 151, 152, 153, 154, 155, 156, 157, 158, 159, 160, 161, 162, 163, 164, 165, 166, 167, 168, 169, 170, 171, 172, 173, 174] (fun (p : Nat) (q : Nat) => [(20, .int .i64 (p : Int)), (21, .int .i64 (q : Int))]) (fun (p : Nat) (q : Nat) => [.arr (.slice (some ⟨b, off, none⟩) n cap) 7 ((A ++ X ++ Y ++ C).map eMend)]) (fun (p : Nat) (q : Nat) => s1 ≤ p ∧ p ≤ q ∧ q ≤ s2 ∧ (∀ x y, X[p - 1 - A.length]? = some x → Y[d - p]? = some y → s1 < p → ¬ c y x < 0) ∧ (∀ x y, X[q - A.length]? = some x → Y[d - 1 - q]? = some y → q < s2 → c y x < 0)) (fun (p : Nat) (q : Nat) => q - p) (s1) (s2) ?_ ?_ ?_ ?_
    ·exact ⟨Nat.le_refl _, by omega, Nat.le_refl _, fun x y _ _ h => absurd h (Nat.lt_irrefl _), fun x y _ _ h => absurd h (Nat.lt_irrefl _)⟩
    ·exact ⟨rfl, rfl, trivial⟩
    ·exact List.Perm.refl _
    ·intro p q hinv
     obtain ⟨hsp, hpq, hqs, hP, hQ⟩ := hinv
     refine hw_seq ?_
     refine hw_reg ?_
     refine dp rfl (pop_move rfl) ?_
     refine dp rfl (pop_move rfl) ?_
     refine dp rfl (pop_lss rfl rfl) ?_
     refine dn ?_
     refine hw_cond rfl (fun h19 => ?_) (fun h20 => ?_)
     ·try simp at h19
      refine hw_skip ?_
      refine seqQ_n ?_
      refine hw_block ?_
      refine hw_reg ?_
      refine dp rfl (pop_move rfl) ?_
      refine dp rfl (pop_move rfl) ?_
      refine dp rfl (pop_add64 rfl rfl (by omega) (by omega)) ?_
      refine dp rfl (pop_conv ty3 ty196 rfl) ?_
      refine dp rfl (pop_shr rfl rfl (by omega)) ?_
      refine dp rfl (pop_eq (pop_conv ty196 ty3 rfl) (mid_eq (i := p) (j := q) (by omega))) ?_
      refine dp rfl (pop_assign rfl) ?_
      refine dn ?_
      obtain ⟨g, hg⟩ : ∃ g, (p + q) / 2 = g := ⟨_, rfl⟩
      obtain ⟨u, hu⟩ : ∃ u, g = A.length + u := ⟨g - A.length, by omega⟩
      obtain ⟨r, hr⟩ : ∃ r, d = r + 1 + g := ⟨d - 1 - g, by omega⟩
      obtain ⟨x, hx⟩ : ∃ x, X[u]? = some x := ⟨_, List.getElem?_eq_getElem (by omega)⟩
      obtain ⟨y, hy⟩ : ∃ y, Y[r]? = some y := ⟨_, List.getElem?_eq_getElem (by omega)⟩
      refine hw_draw (fun M => M = [.arr (.slice (some ⟨b, off, none⟩) n cap) 7 ((A ++ X ++ Y ++ C).map eMend)]) [6, 10] mixed ?_
      refine ahp 0 rfl rfl (by kernel_rfl) (by kernel_rfl) (pop_move rfl) ?_
      refine ahp 1 rfl rfl (by kernel_rfl) (by kernel_rfl) (pop_move rfl) ?_
      refine ahp 2 rfl rfl (by kernel_rfl) (by kernel_rfl) (pop_move rfl) ?_
      refine ahp 3 rfl rfl (by kernel_rfl) (by kernel_rfl) (pop_move rfl) ?_
      refine ahp 4 rfl rfl (by kernel_rfl) (by kernel_rfl) (pop_sub64 rfl rfl (by omega) (by omega)) ?_
      refine ahp 5 rfl rfl (by kernel_rfl) (by kernel_rfl) (pop_idxraw (j := A.length + X.length + r) ty46 ty69 rfl rfl (by omega) (by omega)) ?_
      refine ahl 6 rfl rfl (by kernel_rfl) (by kernel_rfl) (by simp) rfl (fun M hM => by subst hM; exact eop_load_elw (i := 0) (j := A.length + X.length + r) ty69 rfl rfl rfl (mid_get2 hy) rfl rfl rfl ⟨rfl, rfl⟩) ?_
      refine ahp 7 rfl rfl (by kernel_rfl) (by kernel_rfl) (pop_move rfl) ?_
      refine ahp 8 rfl rfl (by kernel_rfl) (by kernel_rfl) (pop_move rfl) ?_
      refine ahp 9 rfl rfl (by kernel_rfl) (by kernel_rfl) (pop_idxraw (j := A.length + u) ty46 ty69 rfl rfl (by omega) (by omega)) ?_
      refine ahl 10 rfl rfl (by kernel_rfl) (by kernel_rfl) (by simp) rfl (fun M hM => by subst hM; exact eop_load_elw (i := 0) (j := A.length + u) ty69 rfl rfl rfl (mid_get1 hx) rfl rfl rfl ⟨rfl, rfl⟩) ?_
      refine ahp 11 rfl rfl (by kernel_rfl) (by kernel_rfl) (pop_callv hca rfl rfl (WeakL.refl _) (hp _ _)) ?_
      refine ahp 12 rfl rfl (by kernel_rfl) (by kernel_rfl) (pop_lss rfl rfl) ?_
      refine ahp 13 rfl rfl (by kernel_rfl) (by kernel_rfl) (pop_not rfl) ?_
      refine ahz (by kernel_rfl) ?_
      refine hw_cond rfl (fun h21 => ?_) (fun h22 => ?_)
      ·try simp at h21
       refine hw_reg1 ?_
       refine dp rfl (pop_move rfl) ?_
       refine dp rfl (pop_add64 rfl rfl (by omega) (by omega)) ?_
       refine dp rfl (pop_assign rfl) ?_
       refine dn ?_
       refine blockQ_n ?_
       exact ⟨g + 1, q, ⟨by omega, by omega, hqs, fun x2 y2 h1 h2 _ => by
        rw [show g + 1 - 1 - A.length = u by omega, hx] at h1
        rw [show d - (g + 1) = r by omega, hy] at h2
        rw [← Option.some.inj h1, ← Option.some.inj h2]; omega, hQ⟩, by dsimp only; omega, ⟨some_int (by omega), rfl, trivial⟩, (by repeat (first | exact keeps_refl | refine keeps_upd rfl ?_ | refine keeps_loop rfl rfl ?_)), List.Perm.refl _⟩
      ·try simp at h22
       refine hw_reg1 ?_
       refine dp rfl (pop_move rfl) ?_
       refine dp rfl (pop_assign rfl) ?_
       refine dn ?_
       refine blockQ_n ?_
       exact ⟨p, g, ⟨hsp, by omega, by omega, hP, fun x2 y2 h1 h2 _ => by
        rw [show g - A.length = u by omega, hx] at h1
        rw [show d - 1 - g = r by omega, hy] at h2
        rw [← Option.some.inj h1, ← Option.some.inj h2]; omega⟩, by dsimp only; omega, ⟨rfl, some_int (by omega), trivial⟩, (by repeat (first | exact keeps_refl | refine keeps_upd rfl ?_ | refine keeps_loop rfl rfl ?_)), List.Perm.refl _⟩
     ·try simp at h20
      obtain rfl : p = q := by omega
      have hpA : A.length ≤ p := by omega
      refine hw_exit ?_
      refine seqQ_x ?_
      refine loopQ2_x ?_
      refine blockQ_eq ?_
      refine seqQ_n ?_
      obtain ⟨hk1, hk2⟩ := sym_cond hc hP hQ hs1 hs2 hsp hqs hpA
      refine hw_reg ?_
      refine dp rfl (pop_move rfl) ?_
      refine dp rfl (pop_move rfl) ?_
      refine dp rfl (pop_sub64 rfl rfl (by omega) (by omega)) ?_
      refine dp rfl (pop_assign rfl) ?_
      refine dn ?_
      refine hw_join [178, 179, 180, 181, 182, 183, 184, 185, 186, 187, 188, 189, 190, 191] (fun (z : Unit) => []) (fun (z : Unit) => [.arr (.slice (some ⟨b, off, none⟩) n cap) 7 (((A ++ X.take (p - A.length)) ++ Y.take (d - p) ++ X.drop (p - A.length) ++ (Y.drop (d - p) ++ C)).map eMend)]) (fun (z : Unit) => True) ?_ ?_
      ·skip
       refine hw_reg ?_
       refine dp rfl (pop_move rfl) ?_
       refine dp rfl (pop_move rfl) ?_
       refine dp rfl (pop_lss rfl rfl) ?_
       refine dp rfl (pop_move rfl) ?_
       refine dg rfl rfl (fun hc => ⟨_, OpenTo.refl _, pop_move rfl⟩) ?_
       refine dg rfl rfl (fun hc => ⟨_, OpenTo.refl _, pop_move rfl⟩) ?_
       refine dg rfl rfl (fun hc => ⟨_, OpenTo.upd (t := 183) rfl (by first | exact hc | simp_all) (OpenTo.upd (t := 182) rfl (by first | exact hc | simp_all) (OpenTo.refl _)), pop_lss rfl rfl⟩) ?_
       refine dp rfl (pop_picko rfl (.inr ⟨_, rfl, fun h => by simp_all⟩) (.inl rfl)) ?_
       refine dn ?_
       refine hw_cond rfl (fun h23 => ?_) (fun h24 => ?_)
       ·try simp at h23
        refine hw_ghost (Ghost.of_eq (M' := [.arr (.slice (some ⟨b, off, none⟩) n cap) 7 (((A ++ X.take (p - A.length)) ++ X.drop (p - A.length) ++ Y.take (d - p) ++ (Y.drop (d - p) ++ C)).map eMend)]) (by rw [sym_pre (k := p - A.length) (j := d - p)])) ?_
        refine hw_reg1 ?_
        refine dp rfl (pop_move rfl) ?_
        refine dp rfl (pop_move rfl) ?_
        refine dp rfl (pop_move rfl) ?_
        refine dp rfl (pop_move rfl) ?_
        refine dp rfl (pop_move rfl) ?_
        refine de rfl (eop_callx (i := 0) ca229 rfl (WeakL.refl _) rfl (c_rotate_api_Mend (P := A ++ X.take (p - A.length)) (U := X.drop (p - A.length)) (W := Y.take (d - p)) (Q := Y.drop (d - p) ++ C) (n := n) (by first | omega | (simp; omega)) (by first | omega | (simp; omega)) (by first | omega | (simp; omega)) (by first | omega | (simp; omega)) (by first | omega | (simp; omega)) (by first | omega | (simp; omega)) hl) ?_)
        rintro _ _ ⟨rfl, rfl⟩
        refine dn ?_
        exact ⟨(), trivial, trivial, (by repeat (first | exact keeps_refl | refine keeps_upd rfl ?_ | refine keeps_loop rfl rfl ?_)), List.Perm.refl _⟩
       ·try simp at h24
        refine hw_skip ?_
        exact ⟨(), trivial, trivial, (by repeat (first | exact keeps_refl | refine keeps_upd rfl ?_ | refine keeps_loop rfl rfl ?_)), perm_eq (by rw [sym_noswap (k := p - A.length) (j := d - p) (by rcases Nat.lt_or_ge p (A.length + X.length) with q | q; (have := h24 (by omega); omega); omega)])⟩
      ·intro z _
       refine hw_join [192, 193, 194, 195, 196, 197, 198, 199, 200, 201, 202, 203, 204, 205] (fun (Z1 : List MendS) => []) (fun (Z1 : List MendS) => [.arr (.slice (some ⟨b, off, none⟩) n cap) 7 ((A ++ Z1 ++ (X.drop (p - A.length) ++ (Y.drop (d - p) ++ C))).map eMend)]) (fun (Z1 : List MendS) => Z1.Perm (X.take (p - A.length) ++ Y.take (d - p)) ∧ Srt c Z1) ?_ ?_
       ·skip
        refine hw_reg ?_
        refine dp rfl (pop_move rfl) ?_
        refine dp rfl (pop_move rfl) ?_
        refine dp rfl (pop_lss rfl rfl) ?_
        refine dp rfl (pop_move rfl) ?_
        refine dg rfl rfl (fun hc => ⟨_, OpenTo.refl _, pop_move rfl⟩) ?_
        refine dg rfl rfl (fun hc => ⟨_, OpenTo.refl _, pop_move rfl⟩) ?_
        refine dg rfl rfl (fun hc => ⟨_, OpenTo.upd (t := 197) rfl (by first | exact hc | simp_all) (OpenTo.upd (t := 196) rfl (by first | exact hc | simp_all) (OpenTo.refl _)), pop_lss rfl rfl⟩) ?_
        refine dp rfl (pop_picko rfl (.inr ⟨_, rfl, fun h => by simp_all⟩) (.inl rfl)) ?_
        refine dn ?_
        refine hw_cond rfl (fun h25 => ?_) (fun h26 => ?_)
        ·try simp at h25
         refine hw_ghost (Ghost.of_eq (M' := [.arr (.slice (some ⟨b, off, none⟩) n cap) 7 ((A ++ X.take (p - A.length) ++ Y.take (d - p) ++ (X.drop (p - A.length) ++ (Y.drop (d - p) ++ C))).map eMend)]) (by simp)) ?_
         refine hw_reg1 ?_
         refine dp rfl (pop_move rfl) ?_
         refine dp rfl (pop_move rfl) ?_
         refine dp rfl (pop_move rfl) ?_
         refine dp rfl (pop_move rfl) ?_
         refine dp rfl (pop_move rfl) ?_
         refine de rfl (eop_callx (i := 0) ca178 rfl (WeakL.refl _) rfl (ih (A := A) (X := X.take (p - A.length)) (Y := Y.take (d - p)) (C := X.drop (p - A.length) ++ (Y.drop (d - p) ++ C)) (by first | omega | (simp; omega)) (by first | omega | (simp; omega)) (by first | omega | (simp; omega)) (by first | omega | (simp; omega)) (by first | omega | (simp; omega)) (by first | omega | (simp; omega)) (by first | omega | (simp; omega)) (hX.take _) (hY.take _)) ?_)
         rintro _ _ ⟨Z1, rfl, ⟨hz1, hz2⟩, rfl⟩
         refine dn ?_
         exact ⟨Z1, ⟨hz1, hz2⟩, trivial, (by repeat (first | exact keeps_refl | refine keeps_upd rfl ?_ | refine keeps_loop rfl rfl ?_)), List.Perm.refl _⟩
        ·try simp at h26
         refine hw_skip ?_
         exact ⟨X.take (p - A.length) ++ Y.take (d - p), ⟨List.Perm.refl _, sym_left hX hY (by rcases Nat.lt_or_ge A.length p with q | q; (have := h26 (by omega); omega); omega)⟩, trivial, (by repeat (first | exact keeps_refl | refine keeps_upd rfl ?_ | refine keeps_loop rfl rfl ?_)), perm_eq (by simp)⟩
       ·intro Z1 hinv
        obtain ⟨hz1, hz2⟩ := hinv
        refine hw_reg ?_
        refine dp rfl (pop_move rfl) ?_
        refine dp rfl (pop_move rfl) ?_
        refine dp rfl (pop_lss rfl rfl) ?_
        refine dp rfl (pop_move rfl) ?_
        refine dg rfl rfl (fun hc => ⟨_, OpenTo.refl _, pop_move rfl⟩) ?_
        refine dg rfl rfl (fun hc => ⟨_, OpenTo.refl _, pop_move rfl⟩) ?_
        refine dg rfl rfl (fun hc => ⟨_, OpenTo.upd (t := 211) rfl (by first | exact hc | simp_all) (OpenTo.upd (t := 210) rfl (by first | exact hc | simp_all) (OpenTo.refl _)), pop_lss rfl rfl⟩) ?_
        refine dp rfl (pop_picko rfl (.inr ⟨_, rfl, fun h => by simp_all⟩) (.inl rfl)) ?_
        refine dn ?_
        refine hw_cond rfl (fun h27 => ?_) (fun h28 => ?_)
        ·try simp at h27
         have hzl := hz1.length_eq
         simp only [List.length_append, List.length_take] at hzl
         refine hw_ghost (Ghost.of_eq (M' := [.arr (.slice (some ⟨b, off, none⟩) n cap) 7 (((A ++ Z1) ++ X.drop (p - A.length) ++ Y.drop (d - p) ++ C).map eMend)]) (by simp)) ?_
         refine hw_reg1 ?_
         refine dp rfl (pop_move rfl) ?_
         refine dp rfl (pop_move rfl) ?_
         refine dp rfl (pop_move rfl) ?_
         refine dp rfl (pop_move rfl) ?_
         refine dp rfl (pop_move rfl) ?_
         refine de rfl (eop_callx (i := 0) ca178 rfl (WeakL.refl _) rfl (ih (A := A ++ Z1) (X := X.drop (p - A.length)) (Y := Y.drop (d - p)) (C := C) (by first | omega | (simp; omega)) (by first | omega | (simp; omega)) (by first | omega | (simp; omega)) (by first | omega | (simp; omega)) (by first | omega | (simp; omega)) (by first | omega | (simp; omega)) (by first | omega | (simp; omega)) (hX.drop _) (hY.drop _)) ?_)
         rintro _ _ ⟨Z2, rfl, ⟨hz3, hz4⟩, rfl⟩
         refine dn ?_
         first
         | exact ret_q rfl ⟨_, rfl, one_left hc hY hqY (fun y hy => by have h1 := hQ y hy; have := hc.flip y x trivial trivial; have := hc.flip x y trivial trivial; omega) (fun y hy h0 => by have := hP y hy h0; omega), by simp [wan]⟩
         | exact ret_q rfl ⟨_, rfl, one_right hc hX hqX (fun x hx h0 => by have h1 := hP x hx h0; have := hc.flip y x trivial trivial; have := hc.flip x y trivial trivial; omega) (fun x hx => by have := hQ x hx; omega), by simp [wan]⟩
         | exact ret_q rfl ⟨Z1 ++ Z2, rfl, sym_join hc hX hY (by omega) (by omega) hk1 hk2 hz1 hz3 hz2 hz4, by simp⟩
         | exact ret_q rfl ⟨Z1 ++ (X.drop (p - A.length) ++ Y.drop (d - p)), rfl, sym_join hc hX hY (by omega) (by omega) hk1 hk2 hz1 (List.Perm.refl _) hz2 (sym_right hX hY (by rcases Nat.lt_or_ge p (A.length + X.length) with q | q; (have := h28 (by omega); omega); omega)), by simp⟩
        ·try simp at h28
         refine hw_skip ?_
         first
         | exact ret_q rfl ⟨_, rfl, one_left hc hY hqY (fun y hy => by have h1 := hQ y hy; have := hc.flip y x trivial trivial; have := hc.flip x y trivial trivial; omega) (fun y hy h0 => by have := hP y hy h0; omega), by simp [wan]⟩
         | exact ret_q rfl ⟨_, rfl, one_right hc hX hqX (fun x hx h0 => by have h1 := hP x hx h0; have := hc.flip y x trivial trivial; have := hc.flip x y trivial trivial; omega) (fun x hx => by have := hQ x hx; omega), by simp [wan]⟩
         | exact ret_q rfl ⟨Z1 ++ Z2, rfl, sym_join hc hX hY (by omega) (by omega) hk1 hk2 hz1 hz3 hz2 hz4, by simp⟩
         | exact ret_q rfl ⟨Z1 ++ (X.drop (p - A.length) ++ Y.drop (d - p)), rfl, sym_join hc hX hY (by omega) (by omega) hk1 hk2 hz1 (List.Perm.refl _) hz2 (sym_right hX hY (by rcases Nat.lt_or_ge p (A.length + X.length) with q | q; (have := h28 (by omega); omega); omega)), by simp⟩

theorem c_sym_api_Mend [Tracks] {N : Nat} {n b off cap : Nat} {fid : FuncId} {caps : List HVal} {c : MendS → MendS → Int} {A X Y C : List MendS} {ia im ib : Int} (hca : Callable Tryz.prog fid) (hp : ∀ x y, ConP Tryz.prog fid ([eMend x, eMend y] ++ caps) (.int .i64 (c x y))) (hc : Cmp c fun _ => True) (hl : n ≤ 1000000) (hx0 : 0 < X.length) (hy0 : 0 < Y.length) (hN : X.length + Y.length ≤ N) (hn : A.length + X.length + Y.length + C.length = n) (hia : ia = (A.length : Int)) (him : im = (A.length : Int) + X.length) (hib : ib = (A.length : Int) + X.length + Y.length) (hX : Srt c X) (hY : Srt c Y) : Con Tryz.prog 178 [.raw (.slice (some ⟨b, off, none⟩) n cap), .int .i64 ia, .int .i64 im, .int .i64 ib, .fn (.func fid) [] caps] [.arr (.slice (some ⟨b, off, none⟩) n cap) 7 ((A ++ X ++ Y ++ C).map eMend)] (fun x M' => ∃ Z : List MendS, x = .tup [] ∧ (Z.Perm (X ++ Y) ∧ Srt c Z) ∧ M' = [.arr (.slice (some ⟨b, off, none⟩) n cap) 7 ((A ++ Z ++ C).map eMend)]) := by
 induction N using Nat.strongRecOn generalizing A X Y C ia im ib with
 | ind N ih =>
   exact c_syms_api_Mend hca hp hc hx0 hy0 hN hn hia him hib hX hY hl (fun a1 a2 a3 a4 a5 a6 a7 a8 a9 => ih _ a3 a1 a2 (Nat.le_refl _) a4 a5 a6 a7 a8 a9)

set_option maxHeartbeats 2000000 in
/-- slices.stableCmpFunc[benchwarmer/api.Mend] -/
theorem c_stable_api_Mend [Tracks] {l : List MendS} {n0 : Int} {n b off cap : Nat} {fid : FuncId} {caps : List HVal} {c : MendS → MendS → Int} (hca : Callable Tryz.prog fid) (hp : ∀ x y, ConP Tryz.prog fid ([eMend x, eMend y] ++ caps) (.int .i64 (c x y))) (hc : Cmp c fun _ => True) (hn : l.length = n) (hn0 : n0 = (n : Int)) (hl : n ≤ 1000000) : Con Tryz.prog 138 [.raw (.slice (some ⟨b, off, none⟩) n cap), .int .i64 n0, .fn (.func fid) [] caps] [.arr (.slice (some ⟨b, off, none⟩) n cap) 7 ((l).map eMend)] (fun x M' => ∃ Z : List MendS, x = .tup [] ∧ (Z.Perm l ∧ Srt c Z) ∧ M' = [.arr (.slice (some ⟨b, off, none⟩) n cap) 7 ((Z).map eMend)]) := by
 refine Con.of_body Tryz.func138 rfl Tryz.ntmps138 rfl rfl ?_
 refine hw_reg ?_
 refine dp rfl (pop_assign rfl) ?_
 refine dn ?_
 refine hw_reg ?_
 refine dp rfl (pop_move rfl) ?_
 refine dp rfl (pop_assign rfl) ?_
 refine dp rfl (pop_assign rfl) ?_
 refine dn ?_
 refine hw_seq ?_
 refine hw_block ?_
 refine hw_loopw3 [7, 8, 11, 12, 13, 14, 15, 16, 17, 18, 19, 20, 21, 22] (fun (a0 : Nat) (k : Nat) (Z : List MendS) => [(7, .int .i64 (a0 : Int)), (8, .int .i64 ((a0 + 20 : Nat) : Int))]) (fun (a0 : Nat) (k : Nat) (Z : List MendS) => [.arr (.slice (some ⟨b, off, none⟩) n cap) 7 ((Z ++ l.drop a0).map eMend)]) (fun (a0 : Nat) (k : Nat) (Z : List MendS) => a0 = 20 * k ∧ a0 ≤ n ∧ Blk c 20 Z ∧ Z.length = a0 ∧ Z.Perm (l.take a0)) (fun (a0 : Nat) (k : Nat) (Z : List MendS) => n - a0) (0) (0) ([]) ?_ ?_ ?_ ?_
 ·exact ⟨rfl, Nat.zero_le _, Blk.nil, rfl, by simp⟩
 ·exact ⟨rfl, rfl, trivial⟩
 ·exact perm_eq (by simp)
 ·intro a0 k Z hinv
  obtain ⟨ha0, ha1, hZ, hZl, hZp⟩ := hinv
  refine hw_seq ?_
  refine hw_reg ?_
  refine dp rfl (pop_move rfl) ?_
  refine dp rfl (pop_move rfl) ?_
  refine dp rfl (pop_leq rfl rfl) ?_
  refine dn ?_
  refine hw_cond rfl (fun h1 => ?_) (fun h2 => ?_)
  ·try simp at h1
   refine hw_skip ?_
   refine seqQ_n ?_
   refine hw_block ?_
   refine hw_ghost (Ghost.of_eq (M' := [.arr (.slice (some ⟨b, off, none⟩) n cap) 7 ((Z ++ (l.drop a0).take 20 ++ l.drop (a0 + 20)).map eMend)]) (by rw [List.append_assoc Z, ← win])) ?_
   refine hw_reg ?_
   refine dp rfl (pop_move rfl) ?_
   refine dp rfl (pop_move rfl) ?_
   refine dp rfl (pop_move rfl) ?_
   refine dp rfl (pop_move rfl) ?_
   refine de rfl (eop_callx (i := 0) ca177 rfl (WeakL.refl _) rfl (c_insw_api_Mend (A := Z) (X := ((l.drop a0).take 20)) (C := (l.drop (a0 + 20))) (n := n) hca hp (by first | omega | (simp; omega)) (by omega) (by first | omega | (simp; omega)) hl) ?_)
   rintro _ _ ⟨rfl, rfl⟩
   refine dn ?_
   refine hw_reg ?_
   refine dp rfl (pop_move rfl) ?_
   refine dp rfl (pop_assign rfl) ?_
   refine dn ?_
   refine hw_reg1 ?_
   refine dp rfl (pop_move rfl) ?_
   refine dp rfl (pop_move rfl) ?_
   refine dp rfl (pop_add64 rfl rfl (by omega) (by omega)) ?_
   refine dp rfl (pop_assign rfl) ?_
   refine dn ?_
   refine blockQ_n ?_
   exact ⟨a0 + 20, k + 1, Z ++ isort c ((l.drop a0).take 20), ⟨by omega, by omega, hZ.add (k := k) (by omega) (isort_srt hc _) (by rw [isort_len, List.length_take]; omega), by rw [List.length_append, isort_len, List.length_take, List.length_drop]; omega, by rw [take_add']; exact hZp.append (isort_perm c _)⟩, by dsimp only; omega, ⟨some_int (by omega), some_int (by omega), trivial⟩, (by repeat (first | exact keeps_refl | refine keeps_upd rfl ?_ | refine keeps_loop rfl rfl ?_)), List.Perm.refl _⟩
  ·try simp at h2
   refine hw_exit ?_
   refine seqQ_x ?_
   refine loopQ3_x ?_
   refine blockQ_eq ?_
   refine seqQ_n ?_
   refine hw_ghost (Ghost.of_eq (M' := [.arr (.slice (some ⟨b, off, none⟩) n cap) 7 ((Z ++ l.drop a0 ++ []).map eMend)]) (by simp)) ?_
   refine hw_reg ?_
   refine dp rfl (pop_move rfl) ?_
   refine dp rfl (pop_move rfl) ?_
   refine dp rfl (pop_move rfl) ?_
   refine dp rfl (pop_move rfl) ?_
   refine de rfl (eop_callx (i := 0) ca177 rfl (WeakL.refl _) rfl (c_insw_api_Mend (A := Z) (X := (l.drop a0)) (C := []) (n := n) hca hp (by first | omega | (simp; omega)) (by omega) (by first | omega | (simp; omega)) hl) ?_)
   rintro _ _ ⟨rfl, rfl⟩
   refine dn ?_
   refine hw_block ?_
   refine hw_loopw2 [6, 7, 8, 9, 28, 29, 30, 31, 32, 33, 34, 35, 36, 37, 38, 39, 40, 41, 42, 43, 44, 45, 46, 47, 48, 49, 50, 51, 52, 53, 54, 55, 56, 57, 58, 59, 60, 61, 62] (fun (bs : Nat) (D : List MendS) => [(6, .int .i64 (bs : Int))]) (fun (bs : Nat) (D : List MendS) => [.arr (.slice (some ⟨b, off, none⟩) n cap) 7 ((D).map eMend)]) (fun (bs : Nat) (D : List MendS) => 20 ≤ bs ∧ bs ≤ 2 * n + 20 ∧ Blk c bs D ∧ D.Perm l) (fun (bs : Nat) (D : List MendS) => n - bs) (20) (Z ++ isort c (l.drop a0)) ?_ ?_ ?_ ?_
   ·refine ⟨Nat.le_refl _, by omega, hZ.add (k := k) (by omega) (isort_srt hc _) (by rw [isort_len, List.length_drop]; omega), ?_⟩
    have := hZp.append (isort_perm c (l.drop a0))
    rwa [List.take_append_drop] at this
   ·exact ⟨rfl, trivial⟩
   ·exact perm_eq (by simp)
   ·intro bs D hinv
    obtain ⟨hb1, hb2, hD, hDp⟩ := hinv
    have hDl : D.length = n := by rw [hDp.length_eq]; exact hn
    refine hw_seq ?_
    skip
    refine hw_reg ?_
    refine dp rfl (pop_move rfl) ?_
    refine dp rfl (pop_move rfl) ?_
    refine dp rfl (pop_lss rfl rfl) ?_
    refine dn ?_
    refine hw_cond rfl (fun h3 => ?_) (fun h4 => ?_)
    ·try simp at h3
     refine hw_skip ?_
     refine seqQ_n ?_
     refine hw_block ?_
     refine hw_reg ?_
     refine dp rfl (pop_move rfl) ?_
     refine dp rfl (pop_mul64 rfl rfl (by omega) (by omega)) ?_
     refine dp rfl (pop_assign rfl) ?_
     refine dp rfl (pop_assign rfl) ?_
     refine dn ?_
     refine hw_seq ?_
     refine hw_block ?_
     refine hw_loopw3 [7, 8, 33, 34, 35, 36, 37, 38, 39, 40, 41, 42, 43, 44, 45, 46, 47, 48] (fun (a0 : Nat) (k : Nat) (Z : List MendS) => [(7, .int .i64 (a0 : Int)), (8, .int .i64 ((a0 + bs + bs : Nat) : Int))]) (fun (a0 : Nat) (k : Nat) (Z : List MendS) => [.arr (.slice (some ⟨b, off, none⟩) n cap) 7 ((Z ++ D.drop a0).map eMend)]) (fun (a0 : Nat) (k : Nat) (Z : List MendS) => a0 = 2 * bs * k ∧ a0 ≤ n ∧ Blk c (bs + bs) Z ∧ Z.length = a0 ∧ Z.Perm (D.take a0)) (fun (a0 : Nat) (k : Nat) (Z : List MendS) => n - a0) (0) (0) ([]) ?_ ?_ ?_ ?_
     ·exact ⟨by simp, Nat.zero_le _, Blk.nil, rfl, by simp⟩
     ·exact ⟨rfl, some_int (by omega), trivial⟩
     ·exact perm_eq (by simp)
     ·intro a0 k Z hinv
      obtain ⟨ha0, ha1, hZ, hZl, hZp⟩ := hinv
      refine hw_seq ?_
      refine hw_reg ?_
      refine dp rfl (pop_move rfl) ?_
      refine dp rfl (pop_move rfl) ?_
      refine dp rfl (pop_leq rfl rfl) ?_
      refine dn ?_
      refine hw_cond rfl (fun h5 => ?_) (fun h6 => ?_)
      ·try simp at h5
       refine hw_skip ?_
       refine seqQ_n ?_
       refine hw_block ?_
       refine hw_ghost (Ghost.of_eq (M' := [.arr (.slice (some ⟨b, off, none⟩) n cap) 7 ((Z ++ (D.drop a0).take bs ++ (D.drop (a0 + bs)).take bs ++ D.drop (a0 + bs + bs)).map eMend)]) (by rw [List.append_assoc (Z ++ _), ← win, List.append_assoc Z, ← win])) ?_
       refine hw_reg ?_
       refine dp rfl (pop_move rfl) ?_
       refine dp rfl (pop_move rfl) ?_
       refine dp rfl (pop_move rfl) ?_
       refine dp rfl (pop_move rfl) ?_
       refine dp rfl (pop_add64 rfl rfl (by omega) (by omega)) ?_
       refine dp rfl (pop_move rfl) ?_
       refine dp rfl (pop_move rfl) ?_
       refine de rfl (eop_callx (i := 0) ca178 rfl (WeakL.refl _) rfl (c_sym_api_Mend (A := Z) (X := ((D.drop a0).take bs)) (Y := ((D.drop (a0 + bs)).take bs)) (C := (D.drop (a0 + bs + bs))) (n := n) hca hp hc hl (by first | omega | (simp; omega)) (by first | omega | (simp; omega)) (Nat.le_refl _) (by first | omega | (simp; omega)) (by omega) (by first | omega | (simp; omega)) (by first | omega | (simp; omega)) (hD.at (q := 2 * k) (by rw [ha0, Nat.mul_assoc, Nat.mul_left_comm])) (hD.at (q := 2 * k + 1) (by rw [ha0, Nat.mul_add, Nat.mul_one, Nat.mul_assoc, Nat.mul_left_comm]))) ?_)
       rintro _ _ ⟨Z43, rfl, ⟨hz1, hz2⟩, rfl⟩
       refine dn ?_
       refine hw_reg ?_
       refine dp rfl (pop_move rfl) ?_
       refine dp rfl (pop_assign rfl) ?_
       refine dn ?_
       refine hw_reg1 ?_
       refine dp rfl (pop_move rfl) ?_
       refine dp rfl (pop_move rfl) ?_
       refine dp rfl (pop_mul64 rfl rfl (by omega) (by omega)) ?_
       refine dp rfl (pop_add64 rfl rfl (by omega) (by omega)) ?_
       refine dp rfl (pop_assign rfl) ?_
       refine dn ?_
       refine blockQ_n ?_
       refine ⟨a0 + bs + bs, k + 1, Z ++ Z43, ⟨?_, by omega, hZ.add (k := k) ?_ hz2 ?_, ?_, ?_⟩, by dsimp only; omega, ⟨some_int (by omega), some_int (by omega), trivial⟩, (by repeat (first | exact keeps_refl | refine keeps_upd rfl ?_ | refine keeps_loop rfl rfl ?_)), perm_eq (by simp)⟩
       ·rw [Nat.mul_add, Nat.mul_one, ← ha0]; omega
       ·rw [hZl, ha0, Nat.two_mul]
       ·rw [hz1.length_eq]; simp only [List.length_append, List.length_take]; omega
       ·rw [List.length_append, hz1.length_eq]; simp only [List.length_append, List.length_take, List.length_drop]; omega
       ·rw [Nat.add_assoc, take_add']
        refine hZp.append (hz1.trans ?_)
        rw [take_add', List.drop_drop]
      ·try simp at h6
       refine hw_exit ?_
       refine seqQ_x ?_
       refine loopQ3_x ?_
       refine blockQ_eq ?_
       refine seqQ_n ?_
       refine hw_join [9, 49, 50, 51, 52, 53, 54, 55, 56, 57, 58, 59, 60] (fun (D2 : List MendS) => []) (fun (D2 : List MendS) => [.arr (.slice (some ⟨b, off, none⟩) n cap) 7 ((D2).map eMend)]) (fun (D2 : List MendS) => Blk c (bs + bs) D2 ∧ D2.Perm l) ?_ ?_
       ·skip
        refine hw_reg ?_
        refine dp rfl (pop_move rfl) ?_
        refine dp rfl (pop_move rfl) ?_
        refine dp rfl (pop_add64 rfl rfl (by omega) (by omega)) ?_
        refine dp rfl (pop_assign rfl) ?_
        refine dn ?_
        refine hw_reg ?_
        refine dp rfl (pop_move rfl) ?_
        refine dp rfl (pop_move rfl) ?_
        refine dp rfl (pop_lss rfl rfl) ?_
        refine dn ?_
        refine hw_cond rfl (fun h7 => ?_) (fun h8 => ?_)
        ·try simp at h7
         refine hw_ghost (Ghost.of_eq (M' := [.arr (.slice (some ⟨b, off, none⟩) n cap) 7 ((Z ++ (D.drop a0).take bs ++ D.drop (a0 + bs) ++ []).map eMend)]) (by rw [List.append_nil, List.append_assoc Z, ← win])) ?_
         refine hw_reg1 ?_
         refine dp rfl (pop_move rfl) ?_
         refine dp rfl (pop_move rfl) ?_
         refine dp rfl (pop_move rfl) ?_
         refine dp rfl (pop_move rfl) ?_
         refine dp rfl (pop_move rfl) ?_
         refine de rfl (eop_callx (i := 0) ca178 rfl (WeakL.refl _) rfl (c_sym_api_Mend (A := Z) (X := ((D.drop a0).take bs)) (Y := (D.drop (a0 + bs))) (C := []) (n := n) hca hp hc hl (by first | omega | (simp; omega)) (by first | omega | (simp; omega)) (Nat.le_refl _) (by first | omega | (simp; omega)) (by omega) (by first | omega | (simp; omega)) (by first | omega | (simp; omega)) (hD.at (q := 2 * k) (by rw [ha0, Nat.mul_assoc, Nat.mul_left_comm])) (hD.last (q := 2 * k + 1) (by rw [ha0, Nat.mul_add, Nat.mul_one, Nat.mul_assoc, Nat.mul_left_comm]) (by omega))) ?_)
         rintro _ _ ⟨Z60, rfl, ⟨hz1, hz2⟩, rfl⟩
         refine dn ?_
         refine ⟨Z ++ Z60, ⟨hZ.add (k := k) ?_ hz2 ?_, ?_⟩, trivial, (by repeat (first | exact keeps_refl | refine keeps_upd rfl ?_ | refine keeps_loop rfl rfl ?_)), perm_eq (by simp)⟩
         ·rw [hZl, ha0, Nat.two_mul]
         ·rw [hz1.length_eq]; simp only [List.length_append, List.length_take, List.length_drop]; omega
         ·have h9 := hZp.append hz1
          rw [← win, List.take_append_drop] at h9
          exact h9.trans hDp
        ·try simp at h8
         refine hw_skip ?_
         refine ⟨Z ++ D.drop a0, ⟨hZ.add (k := k) ?_ (hD.last (q := 2 * k) (by rw [ha0, Nat.mul_assoc, Nat.mul_left_comm]) (by omega)) ?_, ?_⟩, trivial, (by repeat (first | exact keeps_refl | refine keeps_upd rfl ?_ | refine keeps_loop rfl rfl ?_)), List.Perm.refl _⟩
         ·rw [hZl, ha0, Nat.two_mul]
         ·simp only [List.length_drop]; omega
         ·have h9 := hZp.append_right (D.drop a0)
          rw [List.take_append_drop] at h9
          exact h9.trans hDp
       ·intro D2 hD2
        refine hw_reg1 ?_
        refine dp rfl (pop_move rfl) ?_
        refine dp rfl (pop_mul64 rfl rfl (by omega) (by omega)) ?_
        refine dp rfl (pop_assign rfl) ?_
        refine dn ?_
        refine blockQ_n ?_
        exact ⟨bs + bs, D2, ⟨by omega, by omega, hD2.1, hD2.2⟩, by dsimp only; omega, ⟨some_int (by omega), trivial⟩, (by repeat (first | exact keeps_refl | refine keeps_upd rfl ?_ | refine keeps_loop rfl rfl ?_)), List.Perm.refl _⟩
    ·try simp at h4
     have hDs := hD.all (by omega)
     refine hw_exit ?_
     refine seqQ_x ?_
     refine loopQ2_x ?_
     refine blockQ_eq ?_
     exact ret_q rfl ⟨D, rfl, ⟨hDp, hDs⟩, rfl⟩

/-- slices.insertionSortCmpFunc[benchwarmer/api.Mend] -/
theorem c_ins0_api_Mend [Tracks] {v : Value} {fid : FuncId} {caps : List HVal}  : Con Tryz.prog 177 [.raw v, .int .i64 0, .int .i64 0, .fn (.func fid) [] caps] [.arr v 7 []] (fun x M' => x = .tup [] ∧ M' = [.arr v 7 []]) := by
 refine Con.of_body Tryz.func177 rfl Tryz.ntmps177 rfl rfl ?_
 refine hw_reg ?_
 refine dp rfl (pop_move rfl) ?_
 refine dp rfl (pop_add64 rfl rfl (by omega) (by omega)) ?_
 refine dp rfl (pop_assign rfl) ?_
 refine dn ?_
 refine hw_block ?_
 refine hw_loopw [8, 9, 12, 13, 14, 15, 16, 17, 18, 19, 20, 21, 22, 23, 24, 25, 26, 27, 28, 29, 30, 31, 32, 33, 34, 35, 36, 37, 38, 39, 40, 41, 42, 43, 44, 45, 46, 47, 48, 49, 50, 51, 52] (fun (u : Unit) => [(8, .int .i64 1)]) (fun (u : Unit) => [.arr v 7 []]) (fun (u : Unit) => True) (fun (u : Unit) => 0) (()) ?_ ?_ ?_ ?_
 ·trivial
 ·exact ⟨rfl, trivial⟩
 ·exact List.Perm.refl _
 ·intro u hu
  refine hw_seq ?_
  refine hw_reg ?_
  refine dp rfl (pop_move rfl) ?_
  refine dp rfl (pop_move rfl) ?_
  refine dp rfl (pop_lss rfl rfl) ?_
  refine dn ?_
  refine hw_cond rfl (fun h1 => ?_) (fun h1 => ?_)
  ·exfalso
   try simp at h1
   all_goals omega
  ·try simp at h1
   refine hw_exit ?_
   refine seqQ_x ?_
   refine loopQ_x ?_
   refine blockQ_eq ?_
   exact ret_q rfl ⟨rfl, rfl⟩

/-- slices.stableCmpFunc[benchwarmer/api.Mend] -/
theorem c_stable0_api_Mend [Tracks] {v : Value} {fid : FuncId} {caps : List HVal}  : Con Tryz.prog 138 [.raw v, .int .i64 0, .fn (.func fid) [] caps] [.arr v 7 []] (fun x M' => x = .tup [] ∧ M' = [.arr v 7 []]) := by
 refine Con.of_body Tryz.func138 rfl Tryz.ntmps138 rfl rfl ?_
 refine hw_reg ?_
 refine dp rfl (pop_assign rfl) ?_
 refine dn ?_
 refine hw_reg ?_
 refine dp rfl (pop_move rfl) ?_
 refine dp rfl (pop_assign rfl) ?_
 refine dp rfl (pop_assign rfl) ?_
 refine dn ?_
 refine hw_seq ?_
 refine hw_block ?_
 refine hw_loopw [7, 8, 11, 12, 13, 14, 15, 16, 17, 18, 19, 20, 21, 22] (fun (u : Unit) => [(7, .int .i64 0), (8, .int .i64 20)]) (fun (u : Unit) => [.arr v 7 []]) (fun (u : Unit) => True) (fun (u : Unit) => 0) (()) ?_ ?_ ?_ ?_
 ·trivial
 ·exact ⟨rfl, rfl, trivial⟩
 ·exact List.Perm.refl _
 ·intro u hu
  refine hw_seq ?_
  refine hw_reg ?_
  refine dp rfl (pop_move rfl) ?_
  refine dp rfl (pop_move rfl) ?_
  refine dp rfl (pop_leq rfl rfl) ?_
  refine dn ?_
  refine hw_cond rfl (fun h1 => ?_) (fun h1 => ?_)
  ·exfalso
   try simp at h1
   all_goals omega
  ·try simp at h1
   refine hw_exit ?_
   refine seqQ_x ?_
   refine loopQ_x ?_
   refine blockQ_eq ?_
   refine seqQ_n ?_
   refine hw_reg ?_
   refine dp rfl (pop_move rfl) ?_
   refine dp rfl (pop_move rfl) ?_
   refine dp rfl (pop_move rfl) ?_
   refine dp rfl (pop_move rfl) ?_
   refine de rfl (eop_callx (i := 0) ca177 rfl (WeakL.refl _) rfl c_ins0_api_Mend ?_)
   rintro _ _ ⟨rfl, rfl⟩
   refine dn ?_
   refine hw_block ?_
   refine hw_loopw [6, 7, 8, 9, 28, 29, 30, 31, 32, 33, 34, 35, 36, 37, 38, 39, 40, 41, 42, 43, 44, 45, 46, 47, 48, 49, 50, 51, 52, 53, 54, 55, 56, 57, 58, 59, 60, 61, 62] (fun (u : Unit) => [(6, .int .i64 20)]) (fun (u : Unit) => [.arr v 7 []]) (fun (u : Unit) => True) (fun (u : Unit) => 0) (()) ?_ ?_ ?_ ?_
   ·trivial
   ·exact ⟨rfl, trivial⟩
   ·exact List.Perm.refl _
   ·intro u hu
    refine hw_seq ?_
    refine hw_reg ?_
    refine dp rfl (pop_move rfl) ?_
    refine dp rfl (pop_move rfl) ?_
    refine dp rfl (pop_lss rfl rfl) ?_
    refine dn ?_
    refine hw_cond rfl (fun h2 => ?_) (fun h2 => ?_)
    ·exfalso
     try simp at h2
     all_goals omega
    ·try simp at h2
     refine hw_exit ?_
     refine seqQ_x ?_
     refine loopQ_x ?_
     refine blockQ_eq ?_
     exact ret_q rfl ⟨rfl, rfl⟩

/-- slices.SortStableFunc[[]benchwarmer/api.Mend,benchwarmer/api.Mend] -/
theorem c_sstable0_api_Mend [Tracks] {fid : FuncId} {caps : List HVal}  : Con Tryz.prog 87 [.raw (.slice none 0 0), .fn (.func fid) [] caps] [.arr (.slice none 0 0) 7 []] (fun x M' => x = .tup [] ∧ M' = [.arr (.slice none 0 0) 7 []]) := by
 refine Con.of_body Tryz.func87 rfl Tryz.ntmps87 rfl rfl ?_
 refine hw_reg1 ?_
 refine dp rfl (pop_move rfl) ?_
 refine dp rfl (pop_move rfl) ?_
 refine dp rfl (pop_len_raw ty46 rfl) ?_
 refine dp rfl (pop_move rfl) ?_
 refine de rfl (eop_callx (i := 0) ca138 rfl (WeakL.refl _) rfl c_stable0_api_Mend ?_)
 rintro _ _ ⟨rfl, rfl⟩
 refine dn ?_
 exact ret_q rfl ⟨rfl, rfl⟩

/-- slices.SortStableFunc[[]benchwarmer/api.Mend,benchwarmer/api.Mend] -/
theorem c_sstable1_api_Mend [Tracks] {l : List MendS} {n b off cap : Nat} {fid : FuncId} {caps : List HVal} {c : MendS → MendS → Int} (hca : Callable Tryz.prog fid) (hp : ∀ x y, ConP Tryz.prog fid ([eMend x, eMend y] ++ caps) (.int .i64 (c x y))) (hc : Cmp c fun _ => True) (hn : l.length = n) (hl : n ≤ 1000000) : Con Tryz.prog 87 [.raw (.slice (some ⟨b, off, none⟩) n cap), .fn (.func fid) [] caps] [.arr (.slice (some ⟨b, off, none⟩) n cap) 7 ((l).map eMend)] (fun x M' => ∃ Z : List MendS, x = .tup [] ∧ (Z.Perm l ∧ Srt c Z) ∧ M' = [.arr (.slice (some ⟨b, off, none⟩) n cap) 7 ((Z).map eMend)]) := by
 refine Con.of_body Tryz.func87 rfl Tryz.ntmps87 rfl rfl ?_
 refine hw_reg1 ?_
 refine dp rfl (pop_move rfl) ?_
 refine dp rfl (pop_move rfl) ?_
 refine dp rfl (pop_len_raw ty46 rfl) ?_
 refine dp rfl (pop_move rfl) ?_
 refine de rfl (eop_callx (i := 0) ca138 rfl (WeakL.refl _) rfl (c_stable_api_Mend hca hp hc hn rfl hl) ?_)
 rintro _ _ ⟨Z, rfl, hz, rfl⟩
 refine dn ?_
 exact ret_q rfl ⟨Z, rfl, hz, rfl⟩

theorem c_sstable_api_Mend [Tracks] {l : List MendS} {v : Value} {fid : FuncId} {caps : List HVal} {c : MendS → MendS → Int} (hca : Callable Tryz.prog fid) (hp : ∀ x y, ConP Tryz.prog fid ([eMend x, eMend y] ++ caps) (.int .i64 (c x y))) (hc : Cmp c fun _ => True) (hl : l.length ≤ 1000000) : Con Tryz.prog 87 [.raw v, .fn (.func fid) [] caps] [.arr v 7 (l.map eMend)] fun x M' => ∃ Z : List MendS, x = .tup [] ∧ (Z.Perm l ∧ Srt c Z) ∧ M' = [.arr v 7 (Z.map eMend)] :=
 con_arrc (fun h1 h2 => by
  have h3 : l = [] := by simpa using h2
  subst h1 h3
  exact c_sstable0_api_Mend.mono fun x M' ⟨e1, e2⟩ => ⟨[], e1, ⟨List.Perm.refl _, Srt.nil⟩, e2⟩)
  fun b off cap h1 => by
   rw [List.length_map] at h1
   subst h1
   exact c_sstable1_api_Mend hca hp hc rfl hl
end Go.Proofs.YtkamelfigfbfiaaGreatDoor
end
section
namespace Go.Proofs.YtkamelfigfbfiaaGreatDoor
open Go.HL
set_option maxRecDepth 100000
set_option linter.unusedVariables false
set_option linter.unusedSimpArgs false
/-- slices.Grow[[]benchwarmer/api.Mend,benchwarmer/api.Mend] -/
theorem c_grow_Mend [Tracks] {n : Nat} (hn : n ≤ 1000000) : Con Tryz.prog 137 [.raw (.slice none 0 0), .int .i64 (n : Int)] [] (fun x M' => ∃ u, x = .raw u ∧ M' = [.arr u 7 []]) := by
 refine Con.of_body Tryz.func137 rfl Tryz.ntmps137 rfl rfl ?_
 refine hw_reg ?_
 refine dp rfl (pop_assign rfl) ?_
 refine dn ?_
 refine hw_seq ?_
 refine hw_reg ?_
 refine dp rfl (pop_move rfl) ?_
 refine dp rfl (pop_lss rfl rfl) ?_
 refine dn ?_
 refine hw_cond rfl (fun h1 => ?_) (fun h1 => ?_)
 ·exfalso
  try simp at h1
  omega
 ·try simp at h1
  refine hw_skip ?_
  refine seqQ_n ?_
  refine hw_seq ?_
  refine hw_reg ?_
  refine dp rfl (pop_move rfl) ?_
  refine dp rfl (pop_move rfl) ?_
  refine dp rfl (pop_capraw ty46 rfl) ?_
  refine dp rfl (pop_move rfl) ?_
  refine dp rfl (pop_len_raw ty46 rfl) ?_
  refine dp rfl (pop_sub64 rfl rfl (by omega) (by omega)) ?_
  refine dp rfl (pop_sub64 rfl rfl (by omega) (by omega)) ?_
  refine dp rfl (pop_assign rfl) ?_
  refine dn ?_
  refine hw_reg ?_
  refine dp rfl (pop_move rfl) ?_
  refine dp rfl (pop_gtr rfl rfl) ?_
  refine dn ?_
  refine hw_cond rfl (fun h2 => ?_) (fun h3 => ?_)
  ·try simp at h2
   refine hw_reg1 ?_
   refine dp rfl (pop_move rfl) ?_
   refine dp rfl (pop_move rfl) ?_
   refine dp rfl (pop_capraw ty46 rfl) ?_
   refine dp rfl (pop_slnil ty46 ty69 rfl rfl) ?_
   refine dp rfl (pop_move rfl) ?_
   refine de rfl (eop_appendmk (n := n) ty46 ty69 ty3 rfl rfl rfl rfl (by omega) (by omega) (by omega) fun b nc cells hnc hnm hcs => ?_)
   refine dp rfl (pop_move rfl) ?_
   refine dp rfl (pop_len_raw ty46 rfl) ?_
   refine dp rfl (pop_slraw0 (h := 0) ty46 ty69 rfl ⟨_, _, rfl, rfl⟩ (by omega)) ?_
   refine dp rfl (pop_assign rfl) ?_
   refine dn ?_
   refine seqQ_n ?_
   refine hw_reg ?_
   refine dp rfl (pop_move rfl) ?_
   refine dp rfl (pop_assign rfl) ?_
   refine dn ?_
   refine hw_ret ?_
   first
   | exact ret_g (Ghost.objarr hcs hnm) rfl ⟨_, rfl, rfl⟩
   | exact ret_g (Ghost.arr_nil 7) rfl ⟨_, rfl, rfl⟩
  ·try simp at h3
   refine hw_skip ?_
   refine seqQ_n ?_
   refine hw_reg ?_
   refine dp rfl (pop_move rfl) ?_
   refine dp rfl (pop_assign rfl) ?_
   refine dn ?_
   refine hw_ret ?_
   first
   | exact ret_g (Ghost.objarr hcs hnm) rfl ⟨_, rfl, rfl⟩
   | exact ret_g (Ghost.arr_nil 7) rfl ⟨_, rfl, rfl⟩

/-- slices.Concat[[]benchwarmer/api.Mend,benchwarmer/api.Mend] -/
theorem c_concat_Mend [Tracks] {LL : List (List MendS)} (hl : LL.length ≤ 1000) (hs : LL.flatten.length ≤ 100000) : ConA Tryz.prog 86 [.slice 1 (LL.map fun l => HVal.slice 7 (l.map eMend))] 7 (LL.flatten.map eMend) := by
 refine Con.of_body Tryz.func86 rfl Tryz.ntmps86 rfl rfl ?_
 refine hw_reg ?_
 refine dp rfl (pop_assign rfl) ?_
 refine dn ?_
 refine hw_reg ?_
 refine dp rfl (pop_assign rfl) ?_
 refine dn ?_
 refine hw_seq ?_
 refine hw_reg ?_
 refine dp rfl (pop_move rfl) ?_
 refine dp rfl (pop_lenm (f := fun l : List MendS => HVal.slice 7 (l.map eMend)) (l := LL) ty191 rfl) ?_
 refine dp rfl (pop_move rfl) ?_
 refine dn ?_
 refine hw_block ?_
 refine hw_loopw [3, 5, 11, 12, 13, 14, 15, 16, 17, 18, 19, 20, 21, 22] (fun (i : Nat) => [(11, .int .i64 i), (3, .int .i64 ((LL.take i).flatten.length : Int))]) (fun (i : Nat) => []) (fun (i : Nat) => i ≤ LL.length ∧ (True)) (fun (i : Nat) => LL.length - i) (0) ?_ ?_ ?_ ?_
 ·exact ⟨Nat.zero_le _, trivial⟩
 ·exact ⟨rfl, rfl, trivial⟩
 ·exact List.Perm.refl _
 ·intro i hinv
  obtain ⟨hi, -⟩ := hinv
  refine hw_reg ?_
  refine dp rfl (pop_lss rfl rfl) ?_
  refine dn ?_
  refine hw_seq ?_
  refine hw_cond rfl (fun h1 => ?_) (fun h2 => ?_)
  ·try simp at h1
   obtain ⟨x, hx⟩ : ∃ x, LL[i]? = some x := ⟨_, List.getElem?_eq_getElem h1⟩
   have hdx := drop_cons hx
   refine hw_skip ?_
   refine seqQ_n ?_
   refine hw_seq ?_
   refine hw_block ?_
   refine hw_reg ?_
   refine dp rfl (pop_idx (f := fun l : List MendS => HVal.slice 7 (l.map eMend)) (l := LL) (j := i) (a := x) ty191 ty46 rfl rfl rfl hx) ?_
   refine dp rfl (pop_load ty46 rfl rfl rfl) ?_
   refine dp rfl (pop_assign rfl) ?_
   refine dn ?_
   refine hw_reg ?_
   refine dp rfl (pop_move rfl) ?_
   refine dp rfl (pop_move rfl) ?_
   refine dp rfl (pop_lenm ty46 rfl) ?_
   have hfl := flat_take_le LL (i + 1)
   have hfs := flat_take_snoc hx
   refine dp rfl (pop_add64 rfl rfl (by omega) (by omega)) ?_
   refine dp rfl (pop_assign rfl) ?_
   refine dn ?_
   refine hw_reg ?_
   refine dp rfl (pop_move rfl) ?_
   refine dp rfl (pop_lss rfl rfl) ?_
   refine dn ?_
   refine hw_cond rfl (fun h3 => ?_) (fun h3 => ?_)
   ·exfalso
    try simp at h3
    omega
   ·try simp at h3
    refine hw_skip ?_
    refine blockQ_n ?_
    refine seqQ_n ?_
    refine hw_reg1 ?_
    refine dp rfl (pop_add64 rfl rfl (by omega) (by omega)) ?_
    refine dp rfl (pop_move rfl) ?_
    refine dn ?_
    exact ⟨i + 1, ⟨by omega, trivial⟩, by dsimp only; omega, ⟨rfl, some_int (by rw [flat_take_snoc hx]; simp), trivial⟩, (by repeat (first | exact keeps_refl | refine keeps_upd rfl ?_ | refine keeps_loop rfl rfl ?_)), List.Perm.refl _⟩
  ·try simp at h2
   have hni : LL.length ≤ i := by omega
   obtain rfl : i = LL.length := by omega
   refine hw_exit ?_
   refine seqQ_x ?_
   refine loopQ_x ?_
   refine blockQ_eq ?_
   refine seqQ_n ?_
   rw [List.take_length]
   refine hw_reg ?_
   refine dp rfl (pop_move rfl) ?_
   refine de rfl (eop_callf (M1 := []) (R := []) ca137 rfl (WeakL.refl _) (List.Perm.refl _) (c_grow_Mend (n := LL.flatten.length) (by omega)) ?_)
   rintro _ _ ⟨u24, rfl, rfl⟩
   refine dp rfl (pop_assign rfl) ?_
   refine dn ?_
   refine hw_seq ?_
   refine hw_reg ?_
   refine dp rfl (pop_move rfl) ?_
   refine dp rfl (pop_lenm (f := fun l : List MendS => HVal.slice 7 (l.map eMend)) (l := LL) ty191 rfl) ?_
   refine dp rfl (pop_move rfl) ?_
   refine dn ?_
   refine hw_block ?_
   refine hw_loopw2 [6, 8, 27, 28, 29, 30, 31, 32, 33, 34] (fun (j : Nat) (u : Value) => [(27, .int .i64 j), (6, .raw u)]) (fun (j : Nat) (u : Value) => [.arr u 7 ((LL.take j).flatten.map eMend)]) (fun (j : Nat) (u : Value) => j ≤ LL.length ∧ (True)) (fun (j : Nat) (u : Value) => LL.length - j) (0) (u24) ?_ ?_ ?_ ?_
   ·exact ⟨Nat.zero_le _, trivial⟩
   ·exact ⟨rfl, rfl, trivial⟩
   ·exact List.Perm.refl _
   ·intro j u hinv
    obtain ⟨hj, -⟩ := hinv
    refine hw_reg ?_
    refine dp rfl (pop_lss rfl rfl) ?_
    refine dn ?_
    refine hw_seq ?_
    refine hw_cond rfl (fun h4 => ?_) (fun h5 => ?_)
    ·try simp at h4
     obtain ⟨y, hy⟩ : ∃ y, LL[j]? = some y := ⟨_, List.getElem?_eq_getElem h4⟩
     have hdy := drop_cons hy
     refine hw_skip ?_
     refine seqQ_n ?_
     refine hw_seq ?_
     refine hw_block ?_
     refine hw_reg ?_
     refine dp rfl (pop_idx (f := fun l : List MendS => HVal.slice 7 (l.map eMend)) (l := LL) (j := j) (a := y) ty191 ty46 rfl rfl rfl hy) ?_
     refine dp rfl (pop_load ty46 rfl rfl rfl) ?_
     refine dp rfl (pop_assign rfl) ?_
     refine dn ?_
     refine hw_reg1 ?_
     refine dp rfl (pop_move rfl) ?_
     refine dp rfl (pop_move rfl) ?_
     refine de rfl (eop_append (i := 0) ty46 ty69 rfl rfl rfl rfl rfl (by simp [flat, hcells]) (by have h1 := flat_take_le LL (j + 1); have h2 := flat_take_snoc hy; simp only [List.length_map]; omega) fun v33 => ?_)
     refine dp rfl (pop_assign rfl) ?_
     refine dn ?_
     refine blockQ_n ?_
     refine seqQ_n ?_
     refine hw_reg1 ?_
     refine dp rfl (pop_add64 rfl rfl (by omega) (by omega)) ?_
     refine dp rfl (pop_move rfl) ?_
     refine dn ?_
     exact ⟨j + 1, v33, ⟨by omega, trivial⟩, by dsimp only; omega, ⟨rfl, rfl, trivial⟩, (by repeat (first | exact keeps_refl | refine keeps_upd rfl ?_ | refine keeps_loop rfl rfl ?_)), perm_eq (by dsimp only; rw [flat_take_app hy, List.map_append]; rfl)⟩
    ·try simp at h5
     have hnj : LL.length ≤ j := by omega
     obtain rfl : j = LL.length := by omega
     refine hw_exit ?_
     refine seqQ_x ?_
     refine loopQ2_x ?_
     refine blockQ_eq ?_
     refine seqQ_n ?_
     refine hw_reg ?_
     refine dp rfl (pop_move rfl) ?_
     refine dp rfl (pop_assign rfl) ?_
     refine dn ?_
     refine hw_ret ?_
     refine ret_a rfl ?_
     rw [List.take_length]

/-- slices.SortFunc -/
theorem c_sort_Mend [Tracks] {c : MendS → MendS → Int} (hO : Go.Sort.SWO (Go.Proofs.ltOf c)) {g : FuncId} (hg : Callable Tryz.prog g) {cap : List HVal} (hc : ∀ x y, @ConP trackOn Tryz.prog g (eMend x :: eMend y :: cap) (.int .i64 (c x y))) {l : List MendS} (hl : l.length ≤ 1000000) {v : Value} :
 Con Tryz.prog 91 [.raw v, .fn (.func g) [] cap] [.arr v 7 (l.map eMend)] fun x M' => ∃ l' : List MendS, x = .tup [] ∧ l'.Perm l ∧ l'.Pairwise (fun a b => ¬ c b a < 0) ∧ M' = [.arr v 7 (l'.map eMend)] :=
 con_sortf (e := eMend) Tryz.g91 (Tryz.isAgg69) (Tryz.sizeOf69) (fun _ => rfl) (fun _ => rfl) (fun _ => rfl) hO hg hc hl

set_option maxHeartbeats 1000000 in
/-- slices.Compact[[]benchwarmer/api.Mend,benchwarmer/api.Mend] -/
theorem c_slices_Compact_api_Mend_api_Mend [Tracks] {l : List MendS} {v : Value} (hl : l.length ≤ 1000000) : Con Tryz.prog 88 [.raw v] [.arr v 7 (l.map eMend)] (fun x M' => ∃ u, x = .raw u ∧ M' = [.arr u 7 ((uniqA none l).map eMend)]) := by
 refine Con.of_body Tryz.func88 rfl Tryz.ntmps88 rfl rfl ?_
 refine hw_reg ?_
 refine dp rfl (pop_assign rfl) ?_
 refine dn ?_
 refine hw_seq ?_
 refine hw_reg ?_
 refine dp rfl (pop_move rfl) ?_
 first
 | refine de rfl (eop_lenm (i := 0) ty46 rfl rfl ?_)
 | refine de rfl (eop_lenm (i := 1) ty46 rfl rfl ?_)
 | refine de rfl (eop_lenm (i := 2) ty46 rfl rfl ?_)
 | refine de rfl (eop_lenm (i := 3) ty46 rfl rfl ?_)
 refine dp rfl (pop_lss rfl rfl) ?_
 refine dn ?_
 refine hw_cond rfl (fun h1 => ?_) (fun h2 => ?_)
 ·try simp at h1
  refine hw_reg ?_
  refine dp rfl (pop_move rfl) ?_
  refine dp rfl (pop_assign rfl) ?_
  refine dn ?_
  refine hw_ret ?_
  first
  | (refine ret_q rfl ⟨_, rfl, ?_⟩
     rw [uniqA_one (by omega)])
  | (refine ret_q rfl ⟨_, rfl, ?_⟩
     have hlo := hD.lo
     rw [hkl, List.take_length] at hlo ⊢
     rw [← List.map_take, hlo]; rfl)
  | (refine ret_q rfl ⟨_, rfl, ?_⟩
     rw [hu])
 ·try simp at h2
  refine hw_skip ?_
  refine seqQ_n ?_
  refine hw_seq ?_
  refine hw_arrc (i := 0) rfl (fun h0 he => ?_) (fun b off cap hv hcap => ?_)
  ·exfalso; have := congrArg List.length he; simp at this; subst this; simp at h2
  rw [List.length_map] at hv hcap
  subst hv
  refine hw_reg ?_
  refine dp rfl (pop_assign rfl) ?_
  refine dn ?_
  refine hw_block ?_
  refine hw_loopw [2, 3, 4, 5, 10, 11, 12, 13, 14, 15, 16, 17, 18, 19, 20, 21, 22, 23, 24, 25, 26, 27, 28, 29, 30, 31, 32, 33, 34, 35, 36, 37, 38, 39, 40, 41, 42, 43, 44, 45, 46, 47, 48, 49, 50, 51, 52, 53, 54, 55, 56, 57, 58, 59] (fun (k : Nat) => [(3, .int .i64 (k : Int))]) (fun (k : Nat) => [.arr (.slice (some ⟨b, off, none⟩) l.length cap) 7 (l.map eMend)]) (fun (k : Nat) => (1 ≤ k ∧ k ≤ l.length) ∧ uniqA none (l.take k) = l.take k) (fun (k : Nat) => l.length - k) (1) ?_ ?_ ?_ ?_
  ·exact ⟨⟨by omega, by omega⟩, uniqA_one (by simp; omega)⟩
  ·exact ⟨rfl, trivial⟩
  ·exact List.Perm.refl _
  ·intro k hinv
   obtain ⟨⟨hk1, hk⟩, hu⟩ := hinv
   refine hw_seq ?_
   refine hw_reg ?_
   refine dp rfl (pop_move rfl) ?_
   refine dp rfl (pop_move rfl) ?_
   first
   | refine de rfl (eop_lenm (i := 0) ty46 rfl rfl ?_)
   | refine de rfl (eop_lenm (i := 1) ty46 rfl rfl ?_)
   | refine de rfl (eop_lenm (i := 2) ty46 rfl rfl ?_)
   | refine de rfl (eop_lenm (i := 3) ty46 rfl rfl ?_)
   refine dp rfl (pop_lss rfl rfl) ?_
   refine dn ?_
   refine hw_cond rfl (fun h3 => ?_) (fun h4 => ?_)
   ·try simp at h3
    obtain ⟨x, hx⟩ : ∃ x, l[k]? = some x := ⟨_, List.getElem?_eq_getElem (by omega)⟩
    obtain ⟨y, hy⟩ : ∃ y, l[k - 1]? = some y := ⟨_, List.getElem?_eq_getElem (by omega)⟩
    refine hw_skip ?_
    refine seqQ_n ?_
    refine hw_seq ?_
    refine hw_block ?_
    refine hw_draw (fun M => M = [.arr (.slice (some ⟨b, off, none⟩) l.length cap) 7 (l.map eMend)]) [3, 8] mixed ?_
    refine ahp 0 rfl rfl (by kernel_rfl) (by kernel_rfl) (pop_move rfl) ?_
    refine ahp 1 rfl rfl (by kernel_rfl) (by kernel_rfl) (pop_move rfl) ?_
    refine ahp 2 rfl rfl (by kernel_rfl) (by kernel_rfl) (pop_idxraw (j := k) ty46 ty69 rfl rfl rfl (by omega)) ?_
    refine ahl 3 rfl rfl (by kernel_rfl) (by kernel_rfl) (by simp) rfl (fun M hM => by subst hM; exact eop_load_elw (i := 0) (j := k) ty69 rfl (by omega) rfl hx rfl rfl rfl ⟨rfl, rfl⟩) ?_
    refine ahp 4 rfl rfl (by kernel_rfl) (by kernel_rfl) (pop_move rfl) ?_
    refine ahp 5 rfl rfl (by kernel_rfl) (by kernel_rfl) (pop_move rfl) ?_
    refine ahp 6 rfl rfl (by kernel_rfl) (by kernel_rfl) (pop_sub64 rfl rfl (by omega) (by omega)) ?_
    refine ahp 7 rfl rfl (by kernel_rfl) (by kernel_rfl) (pop_idxraw (j := k - 1) ty46 ty69 rfl rfl (by omega) (by omega)) ?_
    refine ahl 8 rfl rfl (by kernel_rfl) (by kernel_rfl) (by simp) rfl (fun M hM => by subst hM; exact eop_load_elw (i := 0) (j := k - 1) ty69 rfl (by omega) rfl hy rfl rfl rfl ⟨rfl, rfl⟩) ?_
    refine ahp 9 rfl rfl (by kernel_rfl) (by kernel_rfl) (pop_eqst ty69 eq69 rfl rfl ⟨rfl, ⟨_, _, _, _, ty9, rfl⟩, ⟨rfl, ⟨_, _, _, _, ty3, rfl⟩, ⟨rfl, ⟨_, _, _, _, ty9, rfl⟩, ⟨rfl, ⟨_, _, _, _, ty3, rfl⟩, ⟨rfl, ⟨_, _, _, _, ty3, rfl⟩, ⟨rfl, ⟨_, _, _, _, ty3, rfl⟩, ⟨rfl, ⟨_, _, _, _, ty9, rfl⟩, trivial⟩⟩⟩⟩⟩⟩⟩) ?_
    refine ahz (by kernel_rfl) ?_
    refine hw_cond rfl (fun h5 => ?_) (fun h6 => ?_)
    ·try simp at h5
     have hxy : x = y := (eqMend_is _ _).1 (by simpa using h5)
     obtain ⟨hC0, hU0⟩ := CmpA.start hx hy (by omega) hxy hu
     refine hw_reg ?_
     refine dp rfl (pop_move rfl) ?_
     refine dp rfl (pop_move rfl) ?_
     refine dp rfl (pop_slraw (l := k) (h := l.length) ty46 ty69 rfl ⟨_, _, rfl, rfl⟩ rfl (by omega) (by omega) hcap) ?_
     refine dp rfl (pop_assign rfl) ?_
     refine dn ?_
     rw [slOff_lt2 (by omega)]
     refine hw_seq ?_
     refine hw_reg ?_
     refine dp rfl (pop_assign rfl) ?_
     refine dn ?_
     refine hw_block ?_
     refine hw_loopw2 [3, 5, 29, 30, 31, 32, 33, 34, 35, 36, 37, 38, 39, 40, 41, 42, 43, 44, 45, 46, 47, 48, 49, 50, 51, 52, 53] (fun (k2 : Nat) (D : List MendS) => [(5, .int .i64 (k2 : Int)), (3, .int .i64 ((uniqA none (l.take (k + k2))).length : Int))]) (fun (k2 : Nat) (D : List MendS) => [.arr (.slice (some ⟨b, off, none⟩) l.length cap) 7 (D.map eMend)]) (fun (k2 : Nat) (D : List MendS) => (1 ≤ k2 ∧ k + k2 ≤ l.length) ∧ CmpA l (k + k2) D) (fun (k2 : Nat) (D : List MendS) => l.length - k2) (1) (l) ?_ ?_ ?_ ?_
     ·exact ⟨⟨by omega, by have := lt_of_get hx; omega⟩, hC0⟩
     ·exact ⟨rfl, some_int (by rw [hU0]), trivial⟩
     ·exact List.Perm.refl _
     ·intro k2 D hinv
      obtain ⟨⟨hk2, hkk⟩, hD⟩ := hinv
      have hlt0 := hD.lt
      have hle0 := hD.len
      refine hw_seq ?_
      refine hw_reg ?_
      refine dp rfl (pop_move rfl) ?_
      refine dp rfl (pop_move rfl) ?_
      refine dp rfl (pop_len_raw ty46 rfl) ?_
      refine dp rfl (pop_lss rfl rfl) ?_
      refine dn ?_
      refine hw_cond rfl (fun h7 => ?_) (fun h8 => ?_)
      ·try simp at h7
       obtain ⟨x2, hx2⟩ : ∃ x, l[k + k2]? = some x := ⟨_, List.getElem?_eq_getElem (by omega)⟩
       obtain ⟨y2, hy2⟩ : ∃ y, l[k + k2 - 1]? = some y := ⟨_, List.getElem?_eq_getElem (by omega)⟩
       have hDx : D[k + k2]? = some x2 := by rw [hD.hi _ (by omega), hx2]
       have hDy : D[k + k2 - 1]? = some y2 := by rw [hD.hi _ (by omega), hy2]
       refine hw_skip ?_
       refine seqQ_n ?_
       refine hw_seq ?_
       refine hw_block ?_
       refine hw_draw (fun M => M = [.arr (.slice (some ⟨b, off, none⟩) l.length cap) 7 (D.map eMend)]) [3, 8] mixed ?_
       refine ahp 0 rfl rfl (by kernel_rfl) (by kernel_rfl) (pop_move rfl) ?_
       refine ahp 1 rfl rfl (by kernel_rfl) (by kernel_rfl) (pop_move rfl) ?_
       refine ahp 2 rfl rfl (by kernel_rfl) (by kernel_rfl) (pop_idxraw (j := k2) ty46 ty69 rfl rfl rfl (by omega)) ?_
       refine ahl 3 rfl rfl (by kernel_rfl) (by kernel_rfl) (by simp) rfl (fun M hM => by subst hM; exact eop_load_elw (i := 0) (j := (k + k2)) ty69 rfl (by omega) rfl hDx rfl rfl rfl ⟨rfl, rfl⟩) ?_
       refine ahp 4 rfl rfl (by kernel_rfl) (by kernel_rfl) (pop_move rfl) ?_
       refine ahp 5 rfl rfl (by kernel_rfl) (by kernel_rfl) (pop_move rfl) ?_
       refine ahp 6 rfl rfl (by kernel_rfl) (by kernel_rfl) (pop_sub64 rfl rfl (by omega) (by omega)) ?_
       refine ahp 7 rfl rfl (by kernel_rfl) (by kernel_rfl) (pop_idxraw (j := k2 - 1) ty46 ty69 rfl rfl (by omega) (by omega)) ?_
       refine ahl 8 rfl rfl (by kernel_rfl) (by kernel_rfl) (by simp) rfl (fun M hM => by subst hM; exact eop_load_elw (i := 0) (j := (k + k2 - 1)) ty69 rfl (by omega) rfl hDy rfl rfl rfl ⟨rfl, rfl⟩) ?_
       refine ahp 9 rfl rfl (by kernel_rfl) (by kernel_rfl) (pop_neqst ty69 eq69 rfl rfl ⟨rfl, ⟨_, _, _, _, ty9, rfl⟩, ⟨rfl, ⟨_, _, _, _, ty3, rfl⟩, ⟨rfl, ⟨_, _, _, _, ty9, rfl⟩, ⟨rfl, ⟨_, _, _, _, ty3, rfl⟩, ⟨rfl, ⟨_, _, _, _, ty3, rfl⟩, ⟨rfl, ⟨_, _, _, _, ty3, rfl⟩, ⟨rfl, ⟨_, _, _, _, ty9, rfl⟩, trivial⟩⟩⟩⟩⟩⟩⟩) ?_
       refine ahz (by kernel_rfl) ?_
       refine hw_cond rfl (fun h9 => ?_) (fun h10 => ?_)
       ·try simp at h9
        refine hw_reg ?_
        refine dp rfl (pop_move rfl) ?_
        refine dp rfl (pop_move rfl) ?_
        refine dp rfl (pop_move rfl) ?_
        refine dp rfl (pop_move rfl) ?_
        refine dp rfl (pop_idxraw (j := k2) ty46 ty69 rfl rfl rfl (by omega)) ?_
        refine de rfl (eop_load_elw (i := 0) (j := (k + k2)) ty69 rfl (by omega) rfl hDx rfl rfl rfl ?_)
        refine dp rfl (pop_idxraw (j := (uniqA none (l.take (k + k2))).length) ty46 ty69 rfl rfl rfl (by omega)) ?_
        refine de0 (eop_store_elw (i := 0) (j := (uniqA none (l.take (k + k2))).length) (y := D[(uniqA none (l.take (k + k2))).length]'(by omega)) (y' := x2) ty69 rfl rfl rfl rfl (List.getElem?_eq_getElem _) rfl rfl rfl ?_)
        refine dn ?_
        refine hw_reg1 ?_
        refine dp rfl (pop_move rfl) ?_
        refine dp rfl (pop_add64 rfl rfl (by omega) (by omega)) ?_
        refine dp rfl (pop_assign rfl) ?_
        refine dn ?_
        refine blockQ_n ?_
        refine seqQ_n ?_
        refine hw_reg1 ?_
        refine dp rfl (pop_move rfl) ?_
        refine dp rfl (pop_add64 rfl rfl (by omega) (by omega)) ?_
        refine dp rfl (pop_assign rfl) ?_
        refine dn ?_
        have hxy : x2 ≠ y2 := fun q => by have q2 := (eqMend_is _ _).2 q; simp_all
        obtain ⟨hC1, hU1⟩ := hD.more hx2 hy2 hxy
        exact ⟨k2 + 1, _, ⟨⟨by omega, by omega⟩, hC1⟩, by dsimp only; omega, ⟨rfl, some_int (by rw [← Nat.add_assoc, hU1]; rfl), trivial⟩, (by repeat (first | exact keeps_refl | refine keeps_upd rfl ?_ | refine keeps_loop rfl rfl ?_)), List.Perm.refl _⟩
       ·try simp at h10
        refine hw_skip ?_
        refine blockQ_n ?_
        refine seqQ_n ?_
        refine hw_reg1 ?_
        refine dp rfl (pop_move rfl) ?_
        refine dp rfl (pop_add64 rfl rfl (by omega) (by omega)) ?_
        refine dp rfl (pop_assign rfl) ?_
        refine dn ?_
        have hxy : x2 = y2 := (eqMend_is _ _).1 (by simpa using h10)
        obtain ⟨hC1, hU1⟩ := hD.same hx2 hy2 hxy
        exact ⟨k2 + 1, D, ⟨⟨by omega, by omega⟩, hC1⟩, by dsimp only; omega, ⟨rfl, some_int (by rw [← Nat.add_assoc, hU1]), trivial⟩, (by repeat (first | exact keeps_refl | refine keeps_upd rfl ?_ | refine keeps_loop rfl rfl ?_)), List.Perm.refl _⟩
      ·try simp at h8
       have hkl : k + k2 = l.length := by omega
       refine hw_exit ?_
       refine seqQ_x ?_
       refine loopQ2_x ?_
       refine blockQ_eq ?_
       refine seqQ_n ?_
       refine hw_reg ?_
       refine dp rfl (pop_move rfl) ?_
       refine dp rfl (pop_move rfl) ?_
       refine dp rfl (pop_slraw (l := (uniqA none (l.take (k + k2))).length) (h := l.length) ty46 ty69 rfl ⟨_, _, rfl, rfl⟩ rfl (by omega) (by omega) hcap) ?_
       refine de0 (eop_clear_at (i := 0) (m := (uniqA none (l.take (k + k2))).length) ((uniqA none (l.take (k + k2))).length) ty46 ty69 rfl rfl rfl (slOff_or (by omega) hcap) rfl (by omega) (Nat.le_refl _) (by rw [List.length_map, hD.len]; omega) ?_)
       refine dn ?_
       refine hw_reg ?_
       refine dp rfl (pop_move rfl) ?_
       refine dp rfl (pop_move rfl) ?_
       refine dp rfl (pop_slraw0 (h := (uniqA none (l.take (k + k2))).length) ty46 ty69 rfl ⟨_, _, rfl, rfl⟩ (by omega)) ?_
       refine dp rfl (pop_assign rfl) ?_
       refine dn ?_
       refine hw_ret ?_
       first
       | (refine ret_q rfl ⟨_, rfl, ?_⟩
          rw [uniqA_one (by omega)])
       | (refine ret_q rfl ⟨_, rfl, ?_⟩
          have hlo := hD.lo
          rw [hkl, List.take_length] at hlo ⊢
          rw [← List.map_take, hlo]; rfl)
       | (refine ret_q rfl ⟨_, rfl, ?_⟩
          rw [hu])
    ·try simp at h6
     refine hw_skip ?_
     refine blockQ_n ?_
     refine seqQ_n ?_
     refine hw_reg1 ?_
     refine dp rfl (pop_move rfl) ?_
     refine dp rfl (pop_add64 rfl rfl (by omega) (by omega)) ?_
     refine dp rfl (pop_assign rfl) ?_
     refine dn ?_
     have hxy : x ≠ y := fun q => by have q2 := (eqMend_is _ _).2 q; simp_all
     exact ⟨k + 1, ⟨⟨by omega, by omega⟩, by rw [uniqA_step hx hy (by omega), if_neg hxy, hu, take_snoc' hx]⟩, by dsimp only; omega, ⟨rfl, trivial⟩, (by repeat (first | exact keeps_refl | refine keeps_upd rfl ?_ | refine keeps_loop rfl rfl ?_)), List.Perm.refl _⟩
   ·try simp at h4
    have hkl : k = l.length := by omega
    rw [hkl, List.take_length] at hu
    refine hw_exit ?_
    refine seqQ_x ?_
    refine loopQ_x ?_
    refine blockQ_eq ?_
    refine seqQ_n ?_
    refine hw_reg ?_
    refine dp rfl (pop_move rfl) ?_
    refine dp rfl (pop_assign rfl) ?_
    refine dn ?_
    refine hw_ret ?_
    first
    | (refine ret_q rfl ⟨_, rfl, ?_⟩
       rw [uniqA_one (by omega)])
    | (refine ret_q rfl ⟨_, rfl, ?_⟩
       have hlo := hD.lo
       rw [hkl, List.take_length] at hlo ⊢
       rw [← List.map_take, hlo]; rfl)
    | (refine ret_q rfl ⟨_, rfl, ?_⟩
       rw [hu])

/-- slices.Clone[[]benchwarmer/api.Mend,benchwarmer/api.Mend] -/
theorem c_slices_Clone_api_Mend_api_Mend [Tracks] {l : List MendS} (hl : l.length ≤ 1000000) : ConA Tryz.prog 89 [.slice 7 (l.map eMend)] 7 (l.map eMend) := by
 refine Con.of_body Tryz.func89 rfl Tryz.ntmps89 rfl rfl ?_
 refine hw_reg ?_
 refine dp rfl (pop_assign rfl) ?_
 refine dn ?_
 refine hw_seq ?_
 refine hw_reg ?_
 refine dp rfl (pop_move rfl) ?_
 refine de rfl (eop_eqnil ty46 rfl rfl fun b4 hb4 => ?_)
 refine dn ?_
 refine hw_cond rfl (fun h1 => ?_) (fun h2 => ?_)
 ·try simp at h1
  refine hw_reg ?_
  refine dp rfl (pop_assign rfl) ?_
  refine dn ?_
  refine hw_ret ?_
  first | exact ret_a rfl rfl | exact ret_g (Ghost.arr_nil 7) rfl ⟨_, rfl, by simp_all⟩
 ·try simp at h2
  refine hw_skip ?_
  refine seqQ_n ?_
  refine hw_reg ?_
  refine de rfl (eop_mk0 ty46 ty69 fun v5 => ?_)
  refine dp rfl (pop_move rfl) ?_
  refine de rfl (eop_append (i := 0) ty46 ty69 rfl rfl rfl rfl rfl (by simp [flat, hcells]) (by first | omega | (simp; omega)) fun v7 => ?_)
  refine dp rfl (pop_assign rfl) ?_
  refine dn ?_
  refine hw_ret ?_
  first | exact ret_a rfl rfl | exact ret_g (Ghost.arr_nil 7) rfl ⟨_, rfl, by simp_all⟩

set_option maxHeartbeats 1000000 in
/-- benchwarmer/play.MergeMends -/
theorem c_play_MergeMends [Tracks] {m n : List MendS} (hm : m.length ≤ 100) (hn : n.length ≤ 100) : ConP Tryz.prog 34 [eMends m, eMends n] (.tup [eMends (MergeL m n), .int .i64 (MergeE m n)]) := by
 refine Con.of_body Tryz.func34 rfl Tryz.ntmps34 rfl rfl ?_
 refine hw_reg ?_
 refine dp rfl (pop_assign rfl) ?_
 refine dp rfl (pop_assign rfl) ?_
 refine dn ?_
 refine hw_seq ?_
 refine hw_reg ?_
 refine dp rfl (pop_move rfl) ?_
 refine dp rfl (pop_call ca33 rfl (WeakL.refl _) (c_play_CheckMends (m := m) (by omega))) ?_
 refine dp rfl (pop_move rfl) ?_
 refine dp rfl (pop_call ca33 rfl (WeakL.refl _) (c_play_CheckMends (m := n) (by omega))) ?_
 refine dp rfl (pop_buildSlice (hs := [_, _]) ty136 ty31 rfl rfl (by decide) (by decide) rfl) ?_
 refine dp rfl (pop_call ca65 rfl (WeakL.refl _) (c_base_First (l := [_, _]) (by simp))) ?_
 refine dp rfl (pop_assign rfl) ?_
 refine dn ?_
 refine hw_reg ?_
 refine dp rfl (pop_move rfl) ?_
 refine dp rfl (pop_neq rfl rfl) ?_
 refine dn ?_
 refine hw_cond rfl (fun h1 => ?_) (fun h2 => ?_)
 ·try simp at h1
  refine hw_reg ?_
  refine dp rfl (pop_move rfl) ?_
  refine dp rfl (pop_assign rfl) ?_
  refine dp rfl (pop_assign rfl) ?_
  refine dn ?_
  refine hw_ret ?_
  first
  | exact ret_w rfl (weak_tup2 (by rw [MergeL, if_pos (by simpa using h1)]; exact weak_nil 7) (by rw [MergeE, if_pos (by simpa using h1)]; exact Weak.refl _))
  | (have hcf := mer_some byVer_cmp hms hns hz3 hz2 hx (by rw [show k - 1 + 1 = k by omega]; exact hy) (by assumption)
     exact ret_w rfl (weak_tup2 (by rw [MergeL, if_neg (by simpa using h2), if_pos hcf]; exact weak_nil 7) (by rw [MergeE, if_neg (by simpa using h2), if_pos hcf]; exact Weak.refl _)))
  | (refine ret_p rfl ?_
     rw [MergeL, MergeE, if_neg (by simpa using h2), if_neg (by simp [hcf]), if_neg (by simpa using h2), if_neg (by simp [hcf]), hme]; rfl)
 ·try simp at h2
  refine hw_skip ?_
  refine seqQ_n ?_
  obtain ⟨hm0, hn0⟩ := or2z h2
  obtain ⟨_, _, hms⟩ := mendsE_ok hm0
  obtain ⟨_, _, hns⟩ := mendsE_ok hn0
  refine hw_reg ?_
  refine dp rfl (pop_move rfl) ?_
  refine dp rfl (pop_move rfl) ?_
  refine dp rfl (pop_buildSlice (hs := [_, _]) ty191 ty46 rfl rfl (by decide) (by decide) rfl) ?_
  refine de rfl (eop_calla ca86 rfl (WeakL.refl _) (c_concat_Mend (LL := [m, n]) (by simp) (by simp; omega)) fun v21 => ?_)
  refine dp rfl (pop_assign rfl) ?_
  refine dn ?_
  refine hw_reg ?_
  refine dp rfl (pop_move rfl) ?_
  refine de rfl (eop_callx (i := 0) ca87 rfl (WeakL.refl _) rfl (c_sstable_api_Mend (l := [m, n].flatten) (c := byVer) ca85 (fun _ _ => c_play_byVersion) byVer_cmp (by simp; omega)) ?_)
  rintro _ _ ⟨Z, rfl, ⟨hz1, hz2⟩, rfl⟩
  have hz3 : Z.Perm (m ++ n) := by simpa using hz1
  have hzl := hz3.length_eq
  rw [List.length_append] at hzl
  refine dn ?_
  refine hw_reg ?_
  refine dp rfl (pop_move rfl) ?_
  refine de rfl (eop_callx (i := 0) ca88 rfl (WeakL.refl _) rfl (c_slices_Compact_api_Mend_api_Mend (l := Z) (by omega)) ?_)
  rintro _ _ ⟨u25, rfl, rfl⟩
  refine dp rfl (pop_assign rfl) ?_
  refine dn ?_
  refine hw_seq ?_
  refine hw_ghost (Ghost.fa 7 (i := 0) rfl rfl) ?_
  have hul := uniqA_len Z none
  refine hw_reg ?_
  refine dp rfl (pop_assign rfl) ?_
  refine dn ?_
  refine hw_block ?_
  refine hw_loopw [4, 5, 8, 26, 27, 28, 29, 30, 31, 32, 33, 34, 35, 36, 37, 38, 39, 40, 41, 42] (fun (k : Nat) => [(8, .int .i64 (k : Int))]) (fun (k : Nat) => []) (fun (k : Nat) => 1 ≤ k ∧ ∀ (i : Nat) (x y : MendS), i + 1 < k → (uniqA none Z)[i]? = some x → (uniqA none Z)[i + 1]? = some y → byVer x y ≠ 0) (fun (k : Nat) => (uniqA none Z).length - k) (1) ?_ ?_ ?_ ?_
  ·exact ⟨Nat.le_refl _, fun i x y h => by omega⟩
  ·exact ⟨rfl, trivial⟩
  ·exact perm_eq rfl
  ·intro k hinv
   obtain ⟨hk, hadj⟩ := hinv
   refine hw_seq ?_
   refine hw_reg ?_
   refine dp rfl (pop_move rfl) ?_
   refine dp rfl (pop_move rfl) ?_
   refine dp rfl (pop_lenm (f := eMend) (l := (uniqA none Z)) ty46 rfl) ?_
   refine dp rfl (pop_lss rfl rfl) ?_
   refine dn ?_
   refine hw_cond rfl (fun h3 => ?_) (fun h4 => ?_)
   ·try simp at h3
    obtain ⟨x, hx⟩ : ∃ x, (uniqA none Z)[k - 1]? = some x := ⟨_, List.getElem?_eq_getElem (by omega)⟩
    obtain ⟨y, hy⟩ : ∃ y, (uniqA none Z)[k]? = some y := ⟨_, List.getElem?_eq_getElem (by omega)⟩
    refine hw_skip ?_
    refine seqQ_n ?_
    refine hw_seq ?_
    refine hw_block ?_
    refine hw_draw (fun _ => True) [] mixed ?_
    refine ahp 0 rfl rfl (by kernel_rfl) (by kernel_rfl) (pop_move rfl) ?_
    refine ahp 1 rfl rfl (by kernel_rfl) (by kernel_rfl) (pop_move rfl) ?_
    refine ahp 2 rfl rfl (by kernel_rfl) (by kernel_rfl) (pop_sub64 rfl rfl (by omega) (by omega)) ?_
    refine ahp 3 rfl rfl (by kernel_rfl) (by kernel_rfl) (pop_idx (j := k - 1) (a := x) ty46 ty69 rfl rfl (by omega) hx) ?_
    refine ahp 4 rfl rfl (by kernel_rfl) (by kernel_rfl) (pop_loadw ty69 rfl rfl rfl rfl) ?_
    refine ahp 5 rfl rfl (by kernel_rfl) (by kernel_rfl) (pop_move rfl) ?_
    refine ahp 6 rfl rfl (by kernel_rfl) (by kernel_rfl) (pop_move rfl) ?_
    refine ahp 7 rfl rfl (by kernel_rfl) (by kernel_rfl) (pop_idx (j := k) (a := y) ty46 ty69 rfl rfl rfl hy) ?_
    refine ahp 8 rfl rfl (by kernel_rfl) (by kernel_rfl) (pop_loadw ty69 rfl rfl rfl rfl) ?_
    refine ahp 9 rfl rfl (by kernel_rfl) (by kernel_rfl) (pop_call ca85 rfl (WeakL.refl _) c_play_byVersion) ?_
    refine ahp 10 rfl rfl (by kernel_rfl) (by kernel_rfl) (pop_eql rfl rfl) ?_
    refine ahz (by kernel_rfl) ?_
    refine hw_cond rfl (fun h5 => ?_) (fun h6 => ?_)
    ·try simp at h5
     refine hw_reg ?_
     refine dp rfl (pop_assign rfl) ?_
     refine dp rfl (pop_assign rfl) ?_
     refine dn ?_
     refine hw_ret ?_
     first
     | exact ret_w rfl (weak_tup2 (by rw [MergeL, if_pos (by simpa using h1)]; exact weak_nil 7) (by rw [MergeE, if_pos (by simpa using h1)]; exact Weak.refl _))
     | (have hcf := mer_some byVer_cmp hms hns hz3 hz2 hx (by rw [show k - 1 + 1 = k by omega]; exact hy) (by assumption)
        exact ret_w rfl (weak_tup2 (by rw [MergeL, if_neg (by simpa using h2), if_pos hcf]; exact weak_nil 7) (by rw [MergeE, if_neg (by simpa using h2), if_pos hcf]; exact Weak.refl _)))
     | (refine ret_p rfl ?_
        rw [MergeL, MergeE, if_neg (by simpa using h2), if_neg (by simp [hcf]), if_neg (by simpa using h2), if_neg (by simp [hcf]), hme]; rfl)
    ·try simp at h6
     refine hw_skip ?_
     refine blockQ_n ?_
     refine seqQ_n ?_
     refine hw_reg1 ?_
     refine dp rfl (pop_move rfl) ?_
     refine dp rfl (pop_add64 rfl rfl (by omega) (by omega)) ?_
     refine dp rfl (pop_assign rfl) ?_
     refine dn ?_
     exact ⟨k + 1, ⟨by omega, fun i x2 y2 h3 h4 h5 => by
      rcases Nat.lt_or_ge (i + 1) k with q | q
      ·exact hadj i x2 y2 q h4 h5
      ·obtain rfl : i = k - 1 := by omega
       rw [hx] at h4; rw [show k - 1 + 1 = k by omega, hy] at h5
       rw [← Option.some.inj h4, ← Option.some.inj h5]; assumption⟩, by dsimp only; omega, ⟨rfl, trivial⟩, (by repeat (first | exact keeps_refl | refine keeps_upd rfl ?_ | refine keeps_loop rfl rfl ?_)), List.Perm.refl _⟩
   ·try simp at h4
    obtain ⟨hcf, hme⟩ := mer_none byVer_cmp hms hns hz3 hz2 (fun i x y h1 h2 => hadj i x y (by have := lt_of_get h2; omega) h1 h2)
    refine hw_exit ?_
    refine seqQ_x ?_
    refine loopQ_x ?_
    refine blockQ_eq ?_
    refine seqQ_n ?_
    refine hw_seq ?_
    refine hw_reg ?_
    refine dp rfl (pop_move rfl) ?_
    refine dp rfl (pop_lenm (f := eMend) (l := (uniqA none Z)) ty46 rfl) ?_
    refine dp rfl (pop_gtr rfl rfl) ?_
    refine dn ?_
    refine hw_cond rfl (fun h7 => ?_) (fun h7 => ?_)
    ·exfalso
     try simp at h7
     omega
    ·try simp at h7
     refine hw_skip ?_
     refine seqQ_n ?_
     refine hw_reg ?_
     refine dp rfl (pop_move rfl) ?_
     refine dp rfl (pop_assign rfl) ?_
     refine dp rfl (pop_assign rfl) ?_
     refine dn ?_
     refine hw_ret ?_
     first
     | exact ret_w rfl (weak_tup2 (by rw [MergeL, if_pos (by simpa using h1)]; exact weak_nil 7) (by rw [MergeE, if_pos (by simpa using h1)]; exact Weak.refl _))
     | (have hcf := mer_some byVer_cmp hms hns hz3 hz2 hx (by rw [show k - 1 + 1 = k by omega]; exact hy) (by assumption)
        exact ret_w rfl (weak_tup2 (by rw [MergeL, if_neg (by simpa using h2), if_pos hcf]; exact weak_nil 7) (by rw [MergeE, if_neg (by simpa using h2), if_pos hcf]; exact Weak.refl _)))
     | (refine ret_p rfl ?_
        rw [MergeL, MergeE, if_neg (by simpa using h2), if_neg (by simp [hcf]), if_neg (by simpa using h2), if_neg (by simp [hcf]), hme]; rfl)

/-- benchwarmer/benchref1.MendsMerged$1 -/
theorem c_benchref1_MendsMerged_1 [Tracks] {y x : MendS}  : ConP Tryz.prog 90 [eMend y, .vptr (hcells (eMend x)) 0] (.bool (decide (byVer x y = 0))) := by
 refine Con.of_body Tryz.func90 rfl Tryz.ntmps90 rfl rfl ?_
 refine hw_reg ?_
 refine dp rfl (pop_box rfl rfl) ?_
 refine dp rfl (pop_assign rfl) ?_
 refine dn ?_
 refine hw_reg ?_
 refine dp rfl (pop_loadw ty69 rfl rfl rfl rfl) ?_
 refine dp rfl (pop_loadw ty69 rfl rfl rfl rfl) ?_
 refine dp rfl (pop_call ca69 rfl (WeakL.refl _) c_benchref1_byMend) ?_
 refine dp rfl (pop_eql rfl rfl) ?_
 refine dp rfl (pop_assign rfl) ?_
 refine dn ?_
 refine hw_ret ?_
 refine ret_p rfl ?_
 show HVal.bool _ = _
 first | rfl | (simp; rfl)

set_option maxHeartbeats 1000000 in
/-- benchwarmer/benchref1.MendsMerged -/
theorem c_benchref1_MendsMerged [Tracks] {m n : List MendS} (hm : m.length ≤ 100) (hn : n.length ≤ 100) (hms : m.Pairwise fun x y => byVer x y < 0) (hns : n.Pairwise fun x y => byVer x y < 0) : ConP Tryz.prog 36 [eMends m, eMends n] (.tup [eMends (if cflA byVer m n then [] else merS byVer m n), .int .i64 (if cflA byVer m n then 13 else 0)]) := by
 refine Con.of_body Tryz.func36 rfl Tryz.ntmps36 rfl rfl ?_
 refine hw_reg ?_
 refine dp rfl (pop_assign rfl) ?_
 refine dp rfl (pop_assign rfl) ?_
 refine dn ?_
 refine hw_reg ?_
 refine dp rfl (pop_move rfl) ?_
 refine de rfl (eop_calla ca89 rfl (WeakL.refl _) (c_slices_Clone_api_Mend_api_Mend (l := m) (by omega)) fun v11 => ?_)
 refine dp rfl (pop_assign rfl) ?_
 refine dn ?_
 refine hw_seq ?_
 refine hw_reg ?_
 refine dp rfl (pop_move rfl) ?_
 refine dp rfl (pop_lenm ty46 rfl) ?_
 refine dp rfl (pop_move rfl) ?_
 refine dn ?_
 refine hw_block ?_
 refine hw_loopw2 [4, 5, 6, 8, 9, 14, 15, 16, 17, 18, 19, 20, 21, 22, 23, 24, 25, 26, 27, 28, 29, 30, 31, 32, 33, 34, 35] (fun (k : Nat) (u : Value) => [(14, .int .i64 k), (6, .raw u)]) (fun (k : Nat) (u : Value) => [.arr u 7 ((addA byVer m (n.take k)).map eMend)]) (fun (k : Nat) (u : Value) => k ≤ n.length ∧ (cflA byVer m (n.take k) = false)) (fun (k : Nat) (u : Value) => n.length - k) (0) (v11) ?_ ?_ ?_ ?_
 ·exact ⟨Nat.zero_le _, by simp [cflA]⟩
 ·exact ⟨rfl, rfl, trivial⟩
 ·exact perm_eq (by simp [addA])
 ·intro k u hinv
  obtain ⟨hk, hcf⟩ := hinv
  refine hw_reg ?_
  refine dp rfl (pop_lss rfl rfl) ?_
  refine dn ?_
  refine hw_seq ?_
  refine hw_cond rfl (fun h1 => ?_) (fun h2 => ?_)
  ·try simp at h1
   obtain ⟨x, hx⟩ : ∃ x, n[k]? = some x := ⟨_, List.getElem?_eq_getElem h1⟩
   have hdx := drop_cons hx
   refine hw_skip ?_
   refine seqQ_n ?_
   refine hw_seq ?_
   refine hw_block ?_
   refine hw_reg ?_
   refine dp rfl (pop_idx ty46 ty69 rfl rfl rfl (by first | assumption | simp_all)) ?_
   refine dp rfl (pop_loadw ty69 rfl rfl rfl rfl) ?_
   refine de rfl (eop_alloc ty69 rfl fun b8 => ?_)
   refine de0 (eop_storew ty69 rfl rfl rfl rfl rfl ?_)
   refine dn ?_
   refine hw_ghost (Ghost.fc0 8 rfl) ?_
   refine hw_reg ?_
   refine dp rfl (pop_move rfl) ?_
   refine dp rfl (pop_makeFunc rfl rfl) ?_
   refine dp rfl (pop_call ca84 rfl (WeakL.refl _) (c_slices_IndexFunc_api_Mend_api_Mend (l := m) (p := fun y => decide (byVer x y = 0)) ca90 (fun _ => c_benchref1_MendsMerged_1) (by omega))) ?_
   refine dp rfl (pop_assign rfl) ?_
   refine dn ?_
   refine hw_block ?_
   refine hw_reg ?_
   refine dp rfl (pop_move rfl) ?_
   refine dp rfl (pop_lss rfl rfl) ?_
   refine dp rfl (pop_assign rfl) ?_
   refine dn ?_
   refine hw_cond rfl (fun h3 => ?_) (fun h4 => ?_)
   ·try simp at h3
    have hnone : (m.any fun y => decide (byVer x y = 0)) = false := by rw [← idxF_nonneg _ m 0 (by omega)]; simp; omega
    refine hw_reg1 ?_
    refine dp rfl (pop_move rfl) ?_
    refine dp rfl (pop_loadw ty69 rfl rfl rfl rfl) ?_
    refine dp rfl (pop_buildSlice (hs := [_]) ty46 ty69 rfl rfl (by decide) (by decide) rfl) ?_
    refine de rfl (eop_append (i := 0) ty46 ty69 rfl rfl rfl rfl rfl (by simp [flat, hcells]) (by have := addA_len byVer m (n.take k); simp only [List.length_map, List.length_cons, List.length_nil, List.length_take] at *; omega) fun v27 => ?_)
    refine dp rfl (pop_assign rfl) ?_
    refine dn ?_
    refine blockQ_n ?_
    refine blockQ_n ?_
    refine seqQ_n ?_
    refine hw_reg1 ?_
    refine dp rfl (pop_add64 rfl rfl (by omega) (by omega)) ?_
    refine dp rfl (pop_move rfl) ?_
    refine dn ?_
    exact ⟨k + 1, v27, ⟨by omega, cfl_none hx hnone hcf⟩, by dsimp only; omega, ⟨rfl, rfl, trivial⟩, (by repeat (first | exact keeps_refl | refine keeps_upd rfl ?_ | refine keeps_loop rfl rfl ?_)), perm_eq (by dsimp only; rw [addA_yes hx hnone, List.map_append]; rfl)⟩
   ·try simp at h4
    obtain ⟨i0, hi0, hil, ⟨z, hz, hpz⟩, _⟩ := idxF_found (fun y => decide (byVer x y = 0)) m 0 (by omega) (by omega)
    rw [Int.zero_add] at hi0
    have hpz2 : byVer x z = 0 := by simpa using hpz
    have hzm := List.mem_of_getElem? hz
    have hany : (m.any fun y => decide (byVer x y = 0)) = true := List.any_eq_true.2 ⟨z, hzm, hpz⟩
    refine hw_draw (fun _ => True) [] mixed ?_
    refine ahp 0 rfl rfl (by kernel_rfl) (by kernel_rfl) (pop_move rfl) ?_
    refine ahp 1 rfl rfl (by kernel_rfl) (by kernel_rfl) (pop_move rfl) ?_
    refine ahp 2 rfl rfl (by kernel_rfl) (by kernel_rfl) (pop_idx (j := i0) (a := z) ty46 ty69 rfl rfl (by rw [hi0]) hz) ?_
    refine ahp 3 rfl rfl (by kernel_rfl) (by kernel_rfl) (pop_loadw ty69 rfl rfl rfl rfl) ?_
    refine ahp 4 rfl rfl (by kernel_rfl) (by kernel_rfl) (pop_loadw ty69 rfl rfl rfl rfl) ?_
    refine ahp 5 rfl rfl (by kernel_rfl) (by kernel_rfl) (pop_neqst ty69 eq69 rfl rfl ⟨rfl, ⟨_, _, _, _, ty9, rfl⟩, ⟨rfl, ⟨_, _, _, _, ty3, rfl⟩, ⟨rfl, ⟨_, _, _, _, ty9, rfl⟩, ⟨rfl, ⟨_, _, _, _, ty3, rfl⟩, ⟨rfl, ⟨_, _, _, _, ty3, rfl⟩, ⟨rfl, ⟨_, _, _, _, ty3, rfl⟩, ⟨rfl, ⟨_, _, _, _, ty9, rfl⟩, trivial⟩⟩⟩⟩⟩⟩⟩) ?_
    refine ahp 6 rfl rfl (by kernel_rfl) (by kernel_rfl) (pop_assign rfl) ?_
    refine ahz (by kernel_rfl) ?_
    refine hw_cond rfl (fun h5 => ?_) (fun h6 => ?_)
    ·try simp at h5
     refine hw_reg ?_
     refine dp rfl (pop_assign rfl) ?_
     refine dp rfl (pop_assign rfl) ?_
     refine dn ?_
     refine hw_ret ?_
     first
     | (have hzx : x ≠ z := fun q => by have q2 := (eqMend_is _ _).2 q.symm; simp_all
        have hc1 := cflA_at (List.mem_of_getElem? hx) hzm hpz2 hzx
        exact ⟨_, [], Ghost.clear, _, _, rfl, weak_tup2 (by rw [if_pos hc1]; first | done | exact weak_nil 7) (by rw [if_pos hc1]; first | done | exact Weak.refl _), rfl, rfl⟩)
     | (refine ret_fa (M := []) 4 rfl rfl ?_
        rw [if_neg (by simp [hcf]), if_neg (by simp [hcf])]; rfl)
    ·try simp at h6
     refine hw_skip ?_
     refine blockQ_n ?_
     refine blockQ_n ?_
     refine seqQ_n ?_
     refine hw_reg1 ?_
     refine dp rfl (pop_add64 rfl rfl (by omega) (by omega)) ?_
     refine dp rfl (pop_move rfl) ?_
     refine dn ?_
     have hzx : z = x := by
      refine (eqMend_is _ _).1 ?_
      simp_all
     exact ⟨k + 1, u, ⟨by omega, cfl_same byVer_cmp hms hx hzm hpz2 hzx.symm hcf⟩, by dsimp only; omega, ⟨rfl, rfl, trivial⟩, (by repeat (first | exact keeps_refl | refine keeps_upd rfl ?_ | refine keeps_loop rfl rfl ?_)), perm_eq (by dsimp only; rw [addA_no hx hany])⟩
  ·try simp at h2
   have hnk : n.length ≤ k := by omega
   obtain rfl : k = n.length := by omega
   rw [List.take_length] at hcf
   rw [List.take_length]
   refine hw_exit ?_
   refine seqQ_x ?_
   refine loopQ2_x ?_
   refine blockQ_eq ?_
   refine seqQ_n ?_
   refine hw_seq ?_
   have hal := addA_len byVer m n
   refine hw_reg ?_
   refine dp rfl (pop_move rfl) ?_
   refine de rfl (eop_lenm (i := 0) (es := (addA byVer m n)) ty46 rfl rfl ?_)
   refine dp rfl (pop_gtr rfl rfl) ?_
   refine dn ?_
   refine hw_cond rfl (fun h7 => ?_) (fun h7 => ?_)
   ·exfalso
    try simp at h7
    omega
   ·try simp at h7
    refine hw_skip ?_
    refine seqQ_n ?_
    refine hw_reg ?_
    refine dp rfl (pop_move rfl) ?_
    refine de rfl (eop_callx (i := 0) ca91 rfl (WeakL.refl _) rfl (c_sort_Mend (c := byVer) (swo_cmp byVer_cmp) ca69 (fun _ _ => @c_benchref1_byMend trackOn _ _) (l := addA byVer m n) (by omega)) ?_)
    rintro _ _ ⟨l', rfl, hp', hw', rfl⟩
    obtain rfl := mer_sorted byVer_cmp hms hns hp' hw'
    refine dn ?_
    refine hw_reg ?_
    refine dp rfl (pop_move rfl) ?_
    refine dp rfl (pop_assign rfl) ?_
    refine dp rfl (pop_assign rfl) ?_
    refine dn ?_
    refine hw_ret ?_
    first
    | (have hzx : x ≠ z := fun q => by have q2 := (eqMend_is _ _).2 q.symm; simp_all
       have hc1 := cflA_at (List.mem_of_getElem? hx) hzm hpz2 hzx
       exact ⟨_, [], Ghost.clear, _, _, rfl, weak_tup2 (by rw [if_pos hc1]; first | done | exact weak_nil 7) (by rw [if_pos hc1]; first | done | exact Weak.refl _), rfl, rfl⟩)
    | (refine ret_fa (M := []) 4 rfl rfl ?_
       rw [if_neg (by simp [hcf]), if_neg (by simp [hcf])]; rfl)
end Go.Proofs.YtkamelfigfbfiaaGreatDoor
end
section
namespace Go.Proofs.YtkamelfigfbfiaaGreatDoor
open Go.HL
set_option maxRecDepth 100000
set_option linter.unusedVariables false
set_option linter.unusedSimpArgs false

end Go.Proofs.YtkamelfigfbfiaaGreatDoor
end
section
namespace Go.HL
/-! sums -/
def smStat (p : Str) (c : List (Of2 × Int)) (s : StatS) : List (Of2 × Int) := aput (p, s.Name) ((alk (p, s.Name) c).getD 0 + s.Count) c
def smRow (p : Str) (c : List (Of2 × Int)) (l : List StatS) : List (Of2 × Int) := l.foldl (smStat p) c
def smLine (q : LnS) (x : LineS) : LnS := ⟨sadd x.Player q.S, smRow x.Player q.c x.Stats⟩
def smGo (l : List LineS) : LnS := l.foldl smLine ⟨[], []⟩
theorem smRow_snoc {p : Str} {c : List (Of2 × Int)} {l : List StatS} {k : Nat} {s : StatS} (h : l[k]? = some s) : smRow p c (l.take (k + 1)) = smStat p (smRow p c (l.take k)) s := by
 unfold smRow; rw [take_snoc' h, List.foldl_append]; rfl
theorem smGo_snoc {l : List LineS} {k : Nat} {x : LineS} (h : l[k]? = some x) : smGo (l.take (k + 1)) = smLine (smGo (l.take k)) x := by
 unfold smGo; rw [take_snoc' h, List.foldl_append]; rfl
theorem LnOk.le {q : LnS} {n m : Nat} (h : LnOk q n) (hn : n ≤ m) : LnOk q m :=
 ⟨h.c, h.S, h.k, Nat.le_trans h.cl hn, Nat.le_trans h.Sl hn, fun e he => by have := h.bd e he; omega⟩
theorem LnOk.addS {q : LnS} {n : Nat} (h : LnOk q n) {s : Str} (hk : key s = true) : LnOk ⟨sadd s q.S, q.c⟩ (n + 1) :=
 ⟨h.c, sadd_nodup h.S, fun t ht => by
  rcases mem_sadd.1 ht with rfl | ht
  ·exact key_len hk
  ·exact h.k t ht, by have := h.cl; dsimp only; omega, Nat.le_trans (sadd_le _ _) (by have := h.Sl; omega), fun e he => by have := h.bd e he; omega⟩
theorem LnOk.addC {q : LnS} {n : Nat} (h : LnOk q n) (p : Str) {s : StatS} (hb : -100000 ≤ s.Count ∧ s.Count ≤ 100000) : LnOk ⟨q.S, smStat p q.c s⟩ (n + 1) := by
 have hv := h.val (p, s.Name)
 refine ⟨h.c.put, h.S, h.k, Nat.le_trans (aput_le _ _ _) (by have := h.cl; omega), by have := h.Sl; dsimp only; omega, fun e he => ?_⟩
 rcases mem_aput he with rfl | he
 ·dsimp only; omega
 ·have := h.bd e he; omega
theorem LnOk.row (p : Str) : ∀ (l : List StatS) {q : LnS} {n : Nat}, LnOk q n → (∀ s ∈ l, -100000 ≤ s.Count ∧ s.Count ≤ 100000) → LnOk ⟨q.S, smRow p q.c l⟩ (n + l.length)
 | [], q, n, h, _ => h
 | s :: r, q, n, h, hb => by
   have h1 := LnOk.row p r (h.addC p (hb s List.mem_cons_self)) fun y hy => hb y (List.mem_cons_of_mem _ hy)
   rw [List.length_cons, show n + (r.length + 1) = n + 1 + r.length by omega]
   exact h1
def okL (l : List LineS) : Prop := ∀ x ∈ l, key x.Player = true ∧ x.Stats.length ≤ 40 ∧ ∀ s ∈ x.Stats, -100000 ≤ s.Count ∧ s.Count ≤ 100000
theorem lines_okL {l : List LineS} (h : linesFE l = 0) : okL l := fun x hx => by
 obtain ⟨a1, _, a3⟩ := lineFault_ok.1 ((linesFE_ok h).2.1 x hx)
 obtain ⟨b1, b2, _⟩ := statsE_ok a3
 exact ⟨a1, b1, fun s hs => (statFault_ok.1 (b2 s hs)).2.1⟩
theorem sm_go : ∀ (l : List LineS) (q : LnS) (i : Nat), LnOk q i → okL l → LnOk (l.foldl smLine q) (i + 41 * l.length)
 | [], q, i, h, _ => h
 | x :: r, q, i, h, hl => by
   obtain ⟨k1, k2, k3⟩ := hl x List.mem_cons_self
   have h1 : LnOk (smLine q x) (i + 41) := (LnOk.row x.Player x.Stats (h.addS k1) k3).le (by omega)
   have h2 := sm_go r (smLine q x) (i + 41) h1 fun y hy => hl y (List.mem_cons_of_mem _ hy)
   rw [List.foldl_cons, List.length_cons, show i + 41 * (r.length + 1) = i + 41 + 41 * r.length by omega]
   exact h2
theorem sm_ok {l : List LineS} (h : okL l) : LnOk (smGo l) (41 * l.length) := by
 have := sm_go l ⟨[], []⟩ 0 ⟨ANodup.nil, List.nodup_nil, (fun s h => by cases h), Nat.le_refl _, Nat.le_refl _, fun e h => by cases h⟩ h
 rw [Nat.zero_add] at this; exact this
theorem smRow_in {S : List Str} {p : Str} (hp : p ∈ S) : ∀ (l : List StatS) (c : List (Of2 × Int)), (∀ e ∈ c, e.1.1 ∈ S) → ∀ e ∈ smRow p c l, e.1.1 ∈ S
 | [], _, h => h
 | s :: r, c, h => smRow_in hp r (smStat p c s) fun e he => by
   rcases mem_aput he with rfl | he
   ·exact hp
   ·exact h e he
theorem sm_in : ∀ (l : List LineS) (q : LnS), (∀ e ∈ q.c, e.1.1 ∈ q.S) → ∀ e ∈ (l.foldl smLine q).c, e.1.1 ∈ (l.foldl smLine q).S
 | [], _, h => h
 | x :: r, q, h => sm_in r (smLine q x) (smRow_in (mem_sadd.2 (.inl rfl)) x.Stats q.c fun e he => mem_sadd.2 (.inr (h e he)))
def SumsE (l : List LineS) : Int := if linesFE l ≠ 0 then linesFE l else clinesE (smGo l).c (smGo l).S
def SumsL (l : List LineS) : List LineS := if linesFE l ≠ 0 then [] else clinesL (smGo l).c (smGo l).S 1
def sumsRL (l : List LineS) : List LineS := if fullR (rawLines (smGo l) 1) then [] else rawLines (smGo l) 1
def sumsRE (l : List LineS) : Int := if fullR (rawLines (smGo l) 1) then 12 else 0
theorem sums_ref {l : List LineS} (h : okL l) : sumsRL l = clinesL (smGo l).c (smGo l).S 1 ∧ sumsRE l = clinesE (smGo l).c (smGo l).S := by
 have hok := sm_ok h
 have hin := sm_in l ⟨[], []⟩ (fun e h => by cases h)
 have e : rawLines (smGo l) 1 = (sortS (smGo l).S).map fun s => ⟨s, 1, statsOf (smGo l).c s⟩ := by
  unfold rawLines
  rw [onceL_nodup hok.S]
  refine List.map_congr_left fun s _ => ?_
  rw [statsOf_inner]
 have hf : fullR (rawLines (smGo l) 1) = fullB (smGo l).c (smGo l).S := by
  rw [e]; exact full_eq hin
 unfold sumsRL sumsRE clinesL clinesE
 rw [hf, e]
 exact ⟨rfl, rfl⟩
theorem sums_cases (l : List LineS) : (linesFE l ≠ 0 ∧ SumsE l = linesFE l ∧ SumsL l = []) ∨ (linesFE l = 0 ∧ SumsL l = sumsRL l ∧ SumsE l = sumsRE l) := by
 by_cases h : linesFE l = 0
 ·obtain ⟨e1, e2⟩ := sums_ref (lines_okL h)
  exact .inr ⟨h, by rw [SumsL, if_neg (by simp [h]), e1], by rw [SumsE, if_neg (by simp [h]), e2]⟩
 ·exact .inl ⟨h, by rw [SumsE, if_pos h], by rw [SumsL, if_pos h]⟩
/-! counts in a row -/
def flR (x : LineS) (l : List StatS) : CnS := l.map fun s => ((x.Player, x.Week, s.Name), s.Count)
def flA (l : List LineS) : CnS := l.flatMap fun x => flR x x.Stats
def cntR (l : List LineS) (k : Cnt) : Int := (alk k (flA l)).getD 0
theorem flA_cons (x : LineS) (l : List LineS) : flA (x :: l) = flR x x.Stats ++ flA l := rfl
theorem flA_app (l m : List LineS) : flA (l ++ m) = flA l ++ flA m := by unfold flA; rw [List.flatMap_append]
theorem merA_app {κ α : Type} [DecidableEq κ] : ∀ {S D : List (κ × α)}, ANodup (D ++ S) → merA D S = D ++ S
 | [], D, _ => by simp [merA]
 | p :: r, D, h => by
   have hn : alk p.1 D = none := by
    rw [alk_none]; intro hm
    unfold ANodup at h
    rw [List.map_append] at h
    exact (List.nodup_append.1 h).2.2 _ hm _ List.mem_cons_self rfl
   have e : aput p.1 p.2 D = D ++ [p] := aput_new hn
   show merA (aput p.1 p.2 D) r = _
   rw [e, merA_app (by simpa using h)]
   simp
theorem cnRow_mer (x : LineS) : ∀ (l : List StatS) (C : CnS), cnRow x C l = merA C (flR x l)
 | [], _ => rfl
 | s :: r, C => cnRow_mer x r (cnStat x C s)
theorem merA_join {κ α : Type} [DecidableEq κ] (D S T : List (κ × α)) : merA D (S ++ T) = merA (merA D S) T := by unfold merA; rw [List.foldl_append]
theorem cnL_mer : ∀ (l : List LineS) (C : CnS), l.foldl cnLine C = merA C (flA l)
 | [], _ => rfl
 | x :: r, C => by
   rw [List.foldl_cons, cnL_mer r, flA_cons, merA_join, ← cnRow_mer]; rfl
theorem flA_nodup {l : List LineS} (h1 : (l.map plL).Nodup) (h2 : ∀ x ∈ l, (x.Stats.map (·.Name)).Nodup) : ANodup (flA l) := by
 induction l with
 | nil => exact ANodup.nil
 | cons x r ih =>
   rw [List.map_cons, List.nodup_cons] at h1
   rw [flA_cons]
   unfold ANodup
   rw [List.map_append]
   refine List.nodup_append.2 ⟨?_, ih h1.2 (fun y hy => h2 y (List.mem_cons_of_mem _ hy)), fun a ha b hb e => ?_⟩
   ·unfold flR
    rw [List.map_map]
    refine List.pairwise_map.2 ((List.pairwise_map.1 (h2 x List.mem_cons_self)).imp fun {a b} hab e => hab ?_)
    exact congrArg (fun z : Cnt => z.2.2) e
   ·unfold flR at ha
    rw [List.map_map] at ha
    obtain ⟨s, _, rfl⟩ := List.mem_map.1 ha
    obtain ⟨p, hp, rfl⟩ := List.mem_map.1 hb
    obtain ⟨y, hy, hp'⟩ := List.mem_flatMap.1 hp
    obtain ⟨t, _, rfl⟩ := List.mem_map.1 hp'
    refine h1.1 (List.mem_map.2 ⟨y, hy, ?_⟩)
    exact Prod.ext (congrArg (fun z : Cnt => z.1) e).symm (congrArg (fun z : Cnt => z.2.1) e).symm
theorem cnL_flat {l : List LineS} (h : linesFE l = 0) : cnL l = flA l := by
 have h1 := wk_nodup (linesFE_ok h).2.2
 have h2 := merA_app (S := flA l) (D := []) (flA_nodup h1 (line_names h))
 have h3 := cnL_mer l []
 unfold cnL
 rw [h3, h2]; rfl
theorem cnt_flat {l : List LineS} (h : linesFE l = 0) (k : Cnt) : cntOf l k = cntR l k := by unfold cntOf cntR; rw [cnL_flat h]
/-! what differs, looked for line by line -/
theorem eqTurned_is (x y : TurnedS) : eqHL [.str x.Player, .int .i64 x.Week, .str x.Stat, .int .i64 x.Was, .int .i64 x.Now] [.str y.Player, .int .i64 y.Week, .str y.Stat, .int .i64 y.Was, .int .i64 y.Now] = true ↔ x = y := by
 obtain ⟨a1, a2, a3, a4, a5⟩ := x; obtain ⟨b1, b2, b3, b4, b5⟩ := y
 show (_ && (_ && (_ && (_ && (_ && true))))) = true ↔ _
 simp [eqH, and_assoc]
instance : DecidableEq TurnedS := fun x y => decidable_of_iff _ (eqTurned_is x y)
theorem turned_any (t : TurnedS) (l : List TurnedS) : (l.any fun y => eqSt eTurned t y) = decide (t ∈ l) := by
 rw [Bool.eq_iff_iff, decide_eq_true_iff, List.any_eq_true]
 constructor
 ·rintro ⟨y, hy, e⟩
  rw [(eqTurned_is t y).1 e]; exact hy
 ·intro h; exact ⟨t, h, (eqTurned_is t t).2 rfl⟩
def tuR (a b : List LineS) (k : Cnt) : TurnedS := ⟨k.1, k.2.1, k.2.2, cntR a k, cntR b k⟩
def dfStep (a b : List LineS) (O : List TurnedS) (k : Cnt) : List TurnedS := if cntR a k ≠ cntR b k ∧ tuR a b k ∉ O then O ++ [tuR a b k] else O
def dfGo (a b : List LineS) (K : List Cnt) : List TurnedS := K.foldl (dfStep a b) []
theorem dfGo_snoc (a b : List LineS) (K : List Cnt) (k : Cnt) : dfGo a b (K ++ [k]) = dfStep a b (dfGo a b K) k := by unfold dfGo; rw [List.foldl_append]; rfl
theorem dfGo_yes {a b : List LineS} {K : List Cnt} {k : Cnt} (h : cntR a k ≠ cntR b k ∧ tuR a b k ∉ dfGo a b K) : dfGo a b (K ++ [k]) = dfGo a b K ++ [tuR a b k] := by rw [dfGo_snoc, dfStep, if_pos h]
theorem dfGo_no {a b : List LineS} {K : List Cnt} {k : Cnt} (h : ¬ (cntR a k ≠ cntR b k ∧ tuR a b k ∉ dfGo a b K)) : dfGo a b (K ++ [k]) = dfGo a b K := by rw [dfGo_snoc, dfStep, if_neg h]
theorem dfGo_len (a b : List LineS) : ∀ (K : List Cnt), (dfGo a b K).length ≤ K.length := fun K => by
 have key : ∀ (K : List Cnt) (O : List TurnedS), (K.foldl (dfStep a b) O).length ≤ O.length + K.length := fun K => by
  induction K with
  | nil => intro O; exact Nat.le_refl _
  | cons k r ih =>
    intro O
    have h1 := ih (dfStep a b O k)
    have h2 : (dfStep a b O k).length ≤ O.length + 1 := by unfold dfStep; split <;> simp
    rw [List.foldl_cons, List.length_cons]; omega
 have h9 := key K []
 rw [List.length_nil, Nat.zero_add] at h9
 exact h9
theorem dfGo_is (a b : List LineS) (K : List Cnt) : (dfGo a b K).Nodup ∧ ∀ t, t ∈ dfGo a b K ↔ ∃ k ∈ K, cntR a k ≠ cntR b k ∧ tuR a b k = t := by
 have key : ∀ (K : List Cnt) (O : List TurnedS), O.Nodup → (K.foldl (dfStep a b) O).Nodup ∧ ∀ t, t ∈ K.foldl (dfStep a b) O ↔ t ∈ O ∨ ∃ k ∈ K, cntR a k ≠ cntR b k ∧ tuR a b k = t := fun K => by
  induction K with
  | nil => intro O h; exact ⟨h, fun t => by simp⟩
  | cons k r ih =>
    intro O h
    have h1 : (dfStep a b O k).Nodup := by
     unfold dfStep; split
     ·rename_i hc
      refine List.nodup_append.2 ⟨h, by simp, fun x hx y hy e => hc.2 ?_⟩
      rw [← List.mem_singleton.1 hy, ← e]; exact hx
     ·exact h
    have h2 : ∀ t, t ∈ dfStep a b O k ↔ t ∈ O ∨ (cntR a k ≠ cntR b k ∧ tuR a b k = t) := fun t => by
     unfold dfStep; split
     ·rename_i hc
      rw [List.mem_append, List.mem_singleton]
      constructor
      ·rintro (q | q)
       ·exact .inl q
       ·exact .inr ⟨hc.1, q.symm⟩
      ·rintro (q | ⟨_, q⟩)
       ·exact .inl q
       ·exact .inr q.symm
     ·rename_i hc
      constructor
      ·exact .inl
      ·rintro (q | ⟨q1, q2⟩)
       ·exact q
       ·rw [← q2]
        exact Classical.byContradiction fun q3 => hc ⟨q1, q3⟩
    obtain ⟨i1, i2⟩ := ih _ h1
    refine ⟨i1, fun t => ?_⟩
    rw [List.foldl_cons, i2 t, h2 t]
    constructor
    ·rintro ((q | q) | ⟨y, hy, q⟩)
     ·exact .inl q
     ·exact .inr ⟨k, List.mem_cons_self, q⟩
     ·exact .inr ⟨y, List.mem_cons_of_mem _ hy, q⟩
    ·rintro (q | ⟨y, hy, q⟩)
     ·exact .inl (.inl q)
     ·rcases List.mem_cons.1 hy with rfl | hy
      ·exact .inl (.inr q)
      ·exact .inr ⟨y, hy, q⟩
 obtain ⟨h1, h2⟩ := key K [] List.nodup_nil
 exact ⟨h1, fun t => by rw [show dfGo a b K = K.foldl (dfStep a b) [] from rfl, h2 t]; simp⟩
theorem dfT_flat {a b : List LineS} (ha : linesFE a = 0) (hb : linesFE b = 0) (k : Cnt) : dfT a b k = if cntR a k ≠ cntR b k then some (tuR a b k) else none := by
 unfold dfT tuR; rw [cnt_flat ha, cnt_flat hb]
theorem dfL_ref {a b : List LineS} (ha : linesFE a = 0) (hb : linesFE b = 0) {l' : List TurnedS} (hp : l'.Perm (dfGo a b ((flA (a ++ b)).map (·.1)))) (hw : l'.Pairwise fun x y => ¬ byTu y x < 0) : l' = dfL a b := by
 obtain ⟨h1, h2⟩ := dfGo_is a b ((flA (a ++ b)).map (·.1))
 have hn : (dfKeys a b).Nodup := merA_nodup (cnL_nodup a)
 have hn2 : ((dfKeys a b).filterMap (dfT a b)).Nodup := by
  refine List.pairwise_filterMap.2 (hn.imp fun {k k'} hk => fun t ht t' ht' e => hk ?_)
  rw [dfT_key ht, dfT_key ht', e]
 refine dfL_of (E := merA (cnL a) (cnL b)) (List.Perm.refl _) (hp.trans ((List.perm_ext_iff_of_nodup h1 hn2).2 fun t => ?_)) hw
 rw [h2 t, List.mem_filterMap]
 have hk : ∀ k, k ∈ dfKeys a b ↔ k ∈ (flA (a ++ b)).map (·.1) := fun k => by
  unfold dfKeys
  rw [merA_keys, cnL_flat ha, cnL_flat hb, flA_app, List.map_append, List.mem_append]
 constructor
 ·rintro ⟨k, hk1, q1, q2⟩
  exact ⟨k, (hk k).2 hk1, by rw [dfT_flat ha hb, if_pos q1, q2]⟩
 ·rintro ⟨k, hk1, q⟩
  rw [dfT_flat ha hb] at q
  split at q
  ·rename_i q1
   exact ⟨k, (hk k).1 hk1, q1, Option.some.inj q⟩
  ·cases q
end Go.HL
end
section
namespace Go.HL
def stP (l : List StatS) : List (Str × Int) := l.foldl (fun c s => aput s.Name s.Count c) []
theorem stP_snoc {l : List StatS} {k : Nat} {s : StatS} (h : l[k]? = some s) : stP (l.take (k + 1)) = aput s.Name s.Count (stP (l.take k)) := by
 unfold stP; rw [take_snoc' h, List.foldl_append]; rfl
theorem stP_mer (l : List StatS) : stP l = merA [] (stA l) := by
 unfold stP merA stA; rw [List.foldl_map]
theorem stP_nodup (l : List StatS) : ANodup (stP l) := by rw [stP_mer]; exact merA_nodup ANodup.nil
theorem stP_len (l : List StatS) : (stP l).length ≤ l.length := by
 have := merA_len (stA l) []
 rw [stP_mer]; simpa using this
theorem stP_is {l : List StatS} (h : (l.map (·.Name)).Nodup) : stP l = stA l := by
 rw [stP_mer, merA_app (by simpa using stA_nodup h)]; rfl
def putSt (l : List StatS) (s : Str) (n : Int) : List StatS := statsR (aput s n (stP l))
theorem putSt_len (l : List StatS) (s : Str) (n : Int) : (putSt l s n).length ≤ l.length + 1 :=
 Nat.le_trans (statsR_len _) (Nat.le_trans (aput_le _ _ _) (by have := stP_len l; omega))
def putL (p : Str) (w : Int) (s : Str) (n : Int) : List LineS → List LineS
 | [] => [⟨p, w, putSt [] s n⟩]
 | x :: r => if (p, w) = plL x then ⟨p, w, putSt x.Stats s n⟩ :: r else x :: putL p w s n r
theorem putL_alk (p : Str) (w : Int) (s : Str) (n : Int) : ∀ l : List LineS, lnA (putL p w s n l) = aput (p, w) (putSt ((alk (p, w) (lnA l)).getD []) s n) (lnA l)
 | [] => rfl
 | x :: r => by
   have ih := putL_alk p w s n r
   show lnA (if (p, w) = plL x then _ else _) = aput (p, w) (putSt ((if (p, w) = plL x then some x.Stats else alk (p, w) (lnA r)).getD []) s n) ((plL x, x.Stats) :: lnA r)
   by_cases h : (p, w) = plL x
   ·rw [if_pos h, if_pos h]
    show _ = if (p, w) = plL x then _ else _
    rw [if_pos h]; rfl
   ·rw [if_neg h, if_neg h]
    show _ = if (p, w) = plL x then _ else _
    rw [if_neg h, ← ih]; rfl
abbrev atPl (p : Str) (w : Int) (x : LineS) : Bool := x.Player == p && x.Week == w
theorem atPl_is {p : Str} {w : Int} {x : LineS} : atPl p w x = true ↔ (p, w) = plL x := by
 simp only [atPl, Bool.and_eq_true, beq_iff_eq, Prod.mk.injEq, plL]
 constructor
 ·rintro ⟨a, b⟩; exact ⟨a.symm, b.symm⟩
 ·rintro ⟨a, b⟩; exact ⟨a.symm, b.symm⟩
theorem putL_new {p : Str} {w : Int} {s : Str} {n : Int} : ∀ {l : List LineS}, l.any (atPl p w) = false → putL p w s n l = l ++ [⟨p, w, putSt [] s n⟩]
 | [], _ => rfl
 | x :: r, h => by
   rw [List.any_cons, Bool.or_eq_false_iff] at h
   have ih := putL_new (s := s) (n := n) h.2
   unfold putL
   rw [if_neg (fun e => by rw [atPl_is.2 e] at h; cases h.1), ih]; rfl
theorem putL_at {p : Str} {w : Int} {s : Str} {n : Int} : ∀ {l : List LineS} {i : Nat} {x : LineS}, l[i]? = some x → atPl p w x = true → (∀ y ∈ l.take i, atPl p w y = false) → putL p w s n l = l.set i ⟨p, w, putSt x.Stats s n⟩
 | [], _, _, h, _, _ => by simp at h
 | y :: r, 0, x, h, hp, _ => by
   have : y = x := by simpa using h
   subst this
   unfold putL
   rw [if_pos (atPl_is.1 hp)]; rfl
 | y :: r, i + 1, x, h, hp, hb => by
   have ih := putL_at (s := s) (n := n) (l := r) (i := i) (by simpa using h) hp fun z hz => hb z (by simp [hz])
   have h1 := hb y (by simp)
   unfold putL
   rw [if_neg (fun e => by rw [atPl_is.2 e] at h1; cases h1), ih]; rfl
theorem putL_len (p : Str) (w : Int) (s : Str) (n : Int) : ∀ l : List LineS, (putL p w s n l).length ≤ l.length + 1
 | [] => Nat.le_refl _
 | x :: r => by
   have := putL_len p w s n r
   unfold putL; split <;> simp only [List.length_cons] <;> omega
theorem putL_stats {b : Nat} (p : Str) (w : Int) (s : Str) (n : Int) : ∀ l : List LineS, (∀ x ∈ l, x.Stats.length ≤ b) → ∀ x ∈ putL p w s n l, x.Stats.length ≤ b + 1
 | [], _, x, hx => by
   rw [List.mem_singleton.1 hx]
   have := putSt_len [] s n
   simp only [List.length_nil] at this
   show (putSt [] s n).length ≤ b + 1
   omega
 | y :: r, h, x, hx => by
   unfold putL at hx
   split at hx
   ·rcases List.mem_cons.1 hx with rfl | hx
    ·have h1 := putSt_len y.Stats s n
     have h2 := h y List.mem_cons_self
     show (putSt y.Stats s n).length ≤ b + 1
     omega
    ·have := h x (List.mem_cons_of_mem _ hx); omega
   ·rcases List.mem_cons.1 hx with rfl | hx
    ·have := h x List.mem_cons_self; omega
    ·exact putL_stats p w s n r (fun z hz => h z (List.mem_cons_of_mem _ hz)) x hx
/-! what a list of statistics then tells -/
theorem alk_vals {κ : Type} [DecidableEq κ] {c : List (κ × Int)} (hn : ANodup c) (k : κ) : (alk k (c.filter fun e => e.2 != 0)).getD 0 = (alk k c).getD 0 := by
 have hn2 : ANodup (c.filter fun e => e.2 != 0) := by
  unfold ANodup at *
  exact hn.sublist (List.filter_sublist.map _)
 cases hq : alk k (c.filter fun e => e.2 != 0) with
 | some v =>
   have h1 := (List.mem_filter.1 (alk_of_mem hq)).1
   rw [(alk_mem hn).1 h1]
 | none =>
   cases hr : alk k c with
   | none => rfl
   | some v =>
     by_cases hv : v = 0
     ·rw [hv]; rfl
     ·have h1 : (k, v) ∈ c.filter fun e => e.2 != 0 := List.mem_filter.2 ⟨alk_of_mem hr, by simpa using hv⟩
      rw [(alk_mem hn2).1 h1] at hq
      cases hq
theorem rawS_ok {c : List (Str × Int)} (hn : ANodup c) : StOk (rawS c) where
 nd := by
  unfold rawS
  rw [List.map_map]
  unfold ANodup at hn
  exact hn.sublist (List.filter_sublist.map _)
 nz x hx := by
  unfold rawS at hx
  obtain ⟨e, he, rfl⟩ := List.mem_map.1 hx
  have := (List.mem_filter.1 he).2
  simpa using this
theorem statsR_ok {c : List (Str × Int)} (hn : ANodup c) : StOk (statsR c) := (rawS_ok hn).sort
theorem statsR_val {c : List (Str × Int)} (hn : ANodup c) (s : Str) : sv (statsR c) s = (alk s c).getD 0 := by
 have h1 : sv (statsR c) s = sv (rawS c) s := sv_perm (rawS_ok hn).nd (isort_perm byNm _) s
 have h2 : stA (rawS c) = c.filter fun e => e.2 != 0 := by
  unfold stA rawS
  rw [List.map_map]
  exact List.map_id _
 rw [h1]
 unfold sv
 rw [h2]
 exact alk_vals hn s
theorem st_sorted {l : List StatS} (h : (l.map (·.Name)).Nodup) (hw : l.Pairwise fun a b => ¬ byNm b a < 0) : isort byNm l = l :=
 (isort_of_sorted byNm_cmp (fun _ _ hx hy e => name_eq h hx hy (cmpS_zero.1 e)) (List.Perm.refl _) hw).symm
theorem isort_twice {l : List StatS} (h : (l.map (·.Name)).Nodup) : isort byNm (isort byNm l) = isort byNm l := by
 have h1 := isort_sorted byNm_cmp (l := l) (fun _ _ => trivial)
 refine st_sorted (((isort_perm byNm l).map _).nodup_iff.2 h) (h1.imp fun {a b} hab => ?_)
 have := byNm_cmp.flip a b trivial trivial
 have := byNm_cmp.flip b a trivial trivial
 omega
structure RfSt (l : List StatS) : Prop where
 ok : StOk l
 so : isort byNm l = l
theorem RfSt.nil : RfSt [] := ⟨StOk.nil, rfl⟩
theorem RfSt.put {l : List StatS} (h : RfSt l) (s : Str) (n : Int) : RfSt (putSt l s n) ∧ ∀ t, sv (putSt l s n) t = if t = s then n else sv l t := by
 have hn : ANodup (aput s n (stP l)) := (stP_nodup l).put
 refine ⟨⟨statsR_ok hn, isort_twice (rawS_ok hn).nd⟩, fun t => ?_⟩
 unfold putSt
 rw [statsR_val hn, alk_put, stP_is h.ok.nd]
 by_cases e : t = s
 ·rw [if_pos e, if_pos e]; rfl
 ·rw [if_neg e, if_neg e]; rfl
structure RfOk (G : GrS) : Prop where
 nd : ANodup G
 st : ∀ q ∈ G, RfSt q.2
theorem RfOk.get {G : GrS} (h : RfOk G) (p : Plc) : RfSt ((alk p G).getD []) := by
 cases hq : alk p G with
 | none => exact RfSt.nil
 | some l => exact h.st _ (alk_of_mem hq)
theorem RfOk.gs {G : GrS} (h : RfOk G) : GSOk G := ⟨h.nd, fun q hq => (h.st q hq).ok⟩
theorem RfOk.put {G : GrS} (h : RfOk G) (p : Plc) (s : Str) (n : Int) : RfOk (aput p (putSt ((alk p G).getD []) s n) G) :=
 ⟨h.nd.put, fun q hq => by
  rcases mem_aput hq with rfl | hq
  ·exact ((h.get p).put s n).1
  ·exact h.st q hq⟩
def rfStep (n : Int) (l : List LineS) (x : MendS) : List LineS := if x.At ≤ n then putL x.Player x.Week x.Stat x.Count l else l
def rfGo (l : List LineS) (m : List MendS) (n : Int) : List LineS := m.foldl (rfStep n) l
theorem rfGo_snoc {l : List LineS} {m : List MendS} {n : Int} {k : Nat} {x : MendS} (h : m[k]? = some x) : rfGo l (m.take (k + 1)) n = rfStep n (rfGo l (m.take k) n) x := by
 unfold rfGo; rw [take_snoc' h, List.foldl_append]; rfl
theorem rfGo_len (m : List MendS) (n : Int) : ∀ l : List LineS, (rfGo l m n).length ≤ l.length + m.length := by
 induction m with
 | nil => intro l; exact Nat.le_refl _
 | cons x r ih =>
   intro l
   have h1 := ih (rfStep n l x)
   have h2 : (rfStep n l x).length ≤ l.length + 1 := by
    unfold rfStep; split
    ·exact putL_len _ _ _ _ _
    ·omega
   show (rfGo (rfStep n l x) r n).length ≤ _
   rw [List.length_cons]; omega
theorem rfGo_stats (m : List MendS) (n : Int) : ∀ {b : Nat} (l : List LineS), (∀ x ∈ l, x.Stats.length ≤ b) → ∀ x ∈ rfGo l m n, x.Stats.length ≤ b + m.length := by
 induction m with
 | nil => intro b l h; exact h
 | cons x r ih =>
   intro b l h y hy
   have h2 : ∀ z ∈ rfStep n l x, z.Stats.length ≤ b + 1 := fun z hz => by
    unfold rfStep at hz; split at hz
    ·exact putL_stats _ _ _ _ _ h z hz
    ·have := h z hz; omega
   have h1 := ih (rfStep n l x) h2 y hy
   rw [List.length_cons]; omega
theorem rf_step {n : Int} {L : List LineS} {G : GrS} {x : MendS} (hL : RfOk (lnA L)) (hG : GSOk G) (hd : ∀ p, (alk p (lnA L)).isSome = true ↔ (alk p G).isSome = true) (hv : ∀ p s, gv (lnA L) p s = gv G p s) :
 RfOk (lnA (rfStep n L x)) ∧ (∀ p, (alk p (lnA (rfStep n L x))).isSome = true ↔ (alk p (mdStep n G x)).isSome = true) ∧ ∀ p s, gv (lnA (rfStep n L x)) p s = gv (mdStep n G x) p s := by
 unfold rfStep
 by_cases h : x.At ≤ n
 ·rw [if_pos h, putL_alk]
  refine ⟨hL.put _ _ _, fun p => ?_, fun p s => ?_⟩
  ·rw [gd_step, alk_put]
   by_cases hp : p = (x.Player, x.Week)
   ·rw [if_pos hp]; simp; exact .inr ⟨h, hp⟩
   ·rw [if_neg hp, hd p]
    constructor
    ·exact .inl
    ·rintro (q | ⟨_, q⟩)
     ·exact q
     ·exact absurd q hp
  ·rw [gv_step]
   unfold gv
   rw [alk_put]
   by_cases hp : p = (x.Player, x.Week)
   ·rw [if_pos hp]
    show sv (putSt _ _ _) s = _
    rw [((hL.get (x.Player, x.Week)).put x.Stat x.Count).2 s]
    by_cases hs : s = x.Stat
    ·rw [if_pos hs, if_pos ⟨h, hp, hs⟩]
    ·rw [if_neg hs, if_neg (fun e => hs e.2.2), hp]
     exact hv _ s
   ·rw [if_neg hp, if_neg (fun e => hp e.2.1)]
    exact hv p s
 ·rw [if_neg h]
  have e : mdStep n G x = G := by unfold mdStep; rw [if_pos (by omega)]
  rw [e]
  exact ⟨hL, hd, hv⟩
theorem rf_go (m : List MendS) (n : Int) : ∀ {L : List LineS} {G : GrS}, RfOk (lnA L) → GSOk G → (∀ p, (alk p (lnA L)).isSome = true ↔ (alk p G).isSome = true) → (∀ p s, gv (lnA L) p s = gv G p s) →
 RfOk (lnA (rfGo L m n)) ∧ (∀ p, (alk p (lnA (rfGo L m n))).isSome = true ↔ (alk p (mdGo G m n)).isSome = true) ∧ ∀ p s, gv (lnA (rfGo L m n)) p s = gv (mdGo G m n) p s := by
 induction m with
 | nil => intro L G h1 _ h3 h4; exact ⟨h1, h3, h4⟩
 | cons x r ih =>
   intro L G h1 h2 h3 h4
   obtain ⟨i1, i2, i3⟩ := rf_step (n := n) (x := x) h1 h2 h3 h4
   exact ih i1 h2.step i2 i3
theorem line_sorted {l : List LineS} (h : linesFE l = 0) {x : LineS} (hx : x ∈ l) : RfSt x.Stats := by
 have h1 := line_stats h hx
 have h2 := (statsE_ok (lineFault_ok.1 ((linesFE_ok h).2.1 x hx)).2.2).2.2
 refine ⟨h1, st_sorted h1.nd (h2.imp fun {a b} hab => ?_)⟩
 have := byNm_cmp.flip a b trivial trivial
 have := byNm_cmp.flip b a trivial trivial
 omega
theorem rf_right {l : List LineS} {m : List MendS} {n : Int} (h : linesFE l = 0) : RfOk (lnA (rfGo l m n)) ∧ isort byWk (rfGo l m n) = mdL l m n := by
 have hn := wk_nodup (linesFE_ok h).2.2
 have e := lnMap_eq hn
 have hL : RfOk (lnA l) := ⟨by rw [← e]; exact lnMap_nodup l, fun q hq => by
  obtain ⟨y, hy, rfl⟩ := List.mem_map.1 hq
  exact line_sorted h hy⟩
 obtain ⟨h1, h2, h3⟩ := rf_go m n (L := l) (G := lnMap l) hL (lnMap_ok h) (fun p => by rw [e]) (fun p s => by rw [e])
 refine ⟨h1, ?_⟩
 have h4 : (lnA (rfGo l m n)).map mdLine = rfGo l m n := by
  unfold lnA
  rw [List.map_map]
  conv => rhs; rw [← List.map_id (rfGo l m n)]
  refine List.map_congr_left fun y hy => ?_
  have h5 := (h1.st _ (List.mem_map.2 ⟨y, hy, rfl⟩)).so
  show (⟨y.Player, y.Week, isort byNm y.Stats⟩ : LineS) = y
  rw [show isort byNm y.Stats = y.Stats from h5]
 have h6 := g_sort h1.gs ((lnMap_ok h).go (m := m) (n := n)) h2 h3
 rw [h4] at h6
 exact h6
theorem rf_sorted {l l' : List LineS} {m : List MendS} {n : Int} (h : linesFE l = 0) (hp : l'.Perm (rfGo l m n)) (hw : l'.Pairwise fun a b => ¬ byWk b a < 0) : l' = mdL l m n := by
 obtain ⟨h1, h2⟩ := rf_right (m := m) (n := n) h
 rw [← h2]
 refine isort_of_sorted byWk_cmp (fun x y hx hy e => ?_) hp hw
 have hnd : ((rfGo l m n).map plL).Nodup := by
  have := h1.nd
  unfold ANodup lnA at this
  rw [List.map_map] at this
  exact this
 obtain ⟨e1, e2⟩ := byWk_zero.1 e
 obtain ⟨i, hi⟩ := List.getElem?_of_mem hx
 obtain ⟨j, hj⟩ := List.getElem?_of_mem hy
 have := nodup_at hnd (a := plL x) (i := i) (j := j) (by rw [List.getElem?_map, hi]; rfl) (by rw [List.getElem?_map, hj]; exact congrArg some (Prod.ext e1.symm e2.symm))
 subst this
 rw [hi] at hj
 exact Option.some.inj hj
end Go.HL
end
section
namespace Go.HL
/-- The header of an owned slice bears its length. -/
theorem hw_arrl [Tracks] {P : Program} {n : Nat} {e : Env} {M : List MObj} {c : Code} {Q : Exit → Env → List MObj → Prop} {i : Nat} {v : Value} {sz : Nat} {es : List HVal} (hm : M[i]? = some (.arr v sz es))
 (h : ∀ a cap, v = .slice a es.length cap → HWp P n c e M Q) : HWp P n c e M Q :=
 hw_arrc hm (fun h0 he => h none 0 (by rw [h0, he]; rfl)) (fun b off cap hv _ => h _ cap hv)
theorem weak_line0 (p : Str) (w : Int) : Weak (.agg [.str p, .int .i64 w, .raw (.slice none 0 0)]) (eLine ⟨p, w, []⟩) :=
 weak_agg rfl fun j h h' x y => by
  match j, x, y with
  | 0, x, y => simp at x y; subst x y; exact Weak.refl _
  | 1, x, y => simp at x y; subst x y; exact Weak.refl _
  | 2, x, y => simp at x y; subst x y; exact weak_nil 2
theorem put_new {l : List LineS} {p : Str} {w : Int} {s : Str} {n : Int} (h : idxF (atPl p w) l 0 < 0) : (l ++ [(⟨p, w, []⟩ : LineS)]).set l.length ⟨p, w, putSt [] s n⟩ = putL p w s n l := by
 have h1 : l.any (atPl p w) = false := by rw [← idxF_nonneg _ l 0 (by omega)]; simp; omega
 rw [putL_new h1, List.set_append_right _ _ (Nat.le_refl _)]; simp
theorem put_old {l : List LineS} {p : Str} {w : Int} {s : Str} {n : Int} (h : ¬ idxF (atPl p w) l 0 < 0) :
 ∃ (i : Nat) (st : List StatS), idxF (atPl p w) l 0 = (i : Int) ∧ i < l.length ∧ l[i]? = some ⟨p, w, st⟩ ∧ l.set i ⟨p, w, putSt st s n⟩ = putL p w s n l := by
 obtain ⟨i, h1, h2, ⟨x, h3, h4⟩, h5⟩ := idxF_found (atPl p w) l 0 (by omega) (by omega)
 rw [Int.zero_add] at h1
 have h6 := atPl_is.1 h4
 have e1 : p = x.Player := congrArg Prod.fst h6
 have e2 : w = x.Week := congrArg Prod.snd h6
 refine ⟨i, x.Stats, h1, h2, ?_, (putL_at h3 h4 h5).symm⟩
 rw [h3, e1, e2]
theorem aput_aput {κ α : Type} [DecidableEq κ] (s : κ) (v v' : α) : ∀ G : List (κ × α), aput s v' (aput s v G) = aput s v' G
 | [] => by simp [aput]
 | p :: r => by
   have ih := aput_aput s v v' r
   by_cases h : s = p.1
   ·simp [aput, h]
   ·simp [aput, h, ih]
theorem aput_self {κ α : Type} [DecidableEq κ] {s : κ} {v : α} : ∀ {G : List (κ × α)}, alk s G = some v → aput s v G = G
 | [], h => by simp [alk] at h
 | p :: r, h => by
   by_cases e : s = p.1
   ·simp only [alk, if_pos e] at h
    have := Option.some.inj h
    subst this
    unfold aput
    rw [if_pos e, e]
   ·simp only [alk, if_neg e] at h
    have ih := aput_self h
    simp only [aput, if_neg e, ih]
def rowI (L : List (Str × Int)) (l : List StatS) : List (Str × Int) := l.foldl (fun L s => aput s.Name ((alk s.Name L).getD 0 + s.Count) L) L
theorem rowI_snoc {L : List (Str × Int)} {l : List StatS} {k : Nat} {s : StatS} (h : l[k]? = some s) : rowI L (l.take (k + 1)) = aput s.Name ((alk s.Name (rowI L (l.take k))).getD 0 + s.Count) (rowI L (l.take k)) := by
 unfold rowI; rw [take_snoc' h, List.foldl_append]; rfl
theorem GrOk.row {S : List Str} {p : Str} {b : Nat} : ∀ (l : List StatS) {c : List (Of2 × Int)} {G : GrM Str} {L : List (Str × Int)}, GrOk S c G → alk p G = some (b, L) → GrOk S (smRow p c l) (aput p (b, rowI L l) G)
 | [], c, G, L, h, hq => by
   show GrOk S c (aput p (b, L) G)
   rw [aput_self hq]; exact h
 | s :: r, c, G, L, h, hq => by
   have hL := h.get hq
   have h1 := h.put hq s.Name ((alk s.Name L).getD 0 + s.Count)
   have e : aput (p, s.Name) ((alk s.Name L).getD 0 + s.Count) c = smStat p c s := by unfold smStat; rw [hL, inner_get]
   rw [e] at h1
   have h2 := GrOk.row r h1 (L := aput s.Name ((alk s.Name L).getD 0 + s.Count) L) (by rw [alk_put, if_pos rfl])
   rw [aput_aput] at h2
   exact h2
theorem GrOk.val_at {S : List Str} {p : Str} {b : Nat} {c : List (Of2 × Int)} {G : GrM Str} {L : List (Str × Int)} (h : GrOk S c G) (hq : alk p G = some (b, L)) (l : List StatS) (s : Str) : (alk s (rowI L l)).getD 0 = (alk (p, s) (smRow p c l)).getD 0 := by
 have h1 := h.row l hq
 have h2 := h1.get (s := p) (b := b) (L := rowI L l) (by rw [alk_put, if_pos rfl])
 rw [h2, inner_get]
theorem cnt_hit {x : LineS} {z : StatS} {r : List StatS} {C : CnS} {p : Str} {w : Int} {s : Str} (h1 : x.Player = p) (h2 : x.Week = w) (h3 : z.Name = s) : alk (p, w, s) (flR x (z :: r) ++ C) = some z.Count := by
 subst h1 h2 h3; simp [flR, alk]
theorem cnt_skip {x : LineS} {z : StatS} {r : List StatS} {C : CnS} {p : Str} {w : Int} {s : Str} (h : ¬ ((x.Player = p ∧ x.Week = w) ∧ z.Name = s)) : alk (p, w, s) (flR x (z :: r) ++ C) = alk (p, w, s) (flR x r ++ C) := by
 have h2 : ¬ (p, w, s) = (x.Player, x.Week, z.Name) := fun e => by
  injection e with e1 e2
  injection e2 with e2 e3
  exact h ⟨⟨e1.symm, e2.symm⟩, e3.symm⟩
 show alk (p, w, s) (((x.Player, x.Week, z.Name), z.Count) :: (flR x r ++ C)) = _
 unfold alk
 rw [if_neg h2]
 cases flR x r ++ C <;> rfl
theorem flA_snoc {l : List LineS} {k : Nat} {x : LineS} (h : l[k]? = some x) : flA (l.take (k + 1)) = flA (l.take k) ++ flR x x.Stats := by
 rw [take_snoc' h, flA_app]
 show _ ++ (flR x x.Stats ++ []) = _
 rw [List.append_nil]
theorem flR_snoc {x : LineS} {l : List StatS} {k : Nat} {s : StatS} (h : l[k]? = some s) : flR x (l.take (k + 1)) = flR x (l.take k) ++ [((x.Player, x.Week, s.Name), s.Count)] := by
 unfold flR; rw [take_snoc' h, List.map_append]; rfl
theorem flA_many {b : Nat} {l : List LineS} (h : ∀ x ∈ l, x.Stats.length ≤ b) : (flA l).length ≤ b * l.length := by
 induction l with
 | nil => exact Nat.zero_le _
 | cons x r ih =>
   have h1 := ih fun y hy => h y (List.mem_cons_of_mem _ hy)
   have h2 := h x List.mem_cons_self
   rw [flA_cons, List.length_append, List.length_cons]
   have h3 : (flR x x.Stats).length = x.Stats.length := by unfold flR; rw [List.length_map]
   rw [Nat.mul_add, Nat.mul_one]; omega
end Go.HL
end
