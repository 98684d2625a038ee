/- Part 4 of the proof: a program logic, contracts of functions and plain facts; no conditions. -/
import Derived.Test.YtlankmahpaenhaaGreatDoorPFeedsAreOne3
set_option linter.unusedVariables false
set_option linter.unusedSimpArgs false
section
namespace Go.Proofs.YtlankmahpaenhaaGreatDoor
open Go.HL
set_option maxRecDepth 100000
set_option linter.unusedVariables false
set_option linter.unusedSimpArgs false
/-- benchwarmer/benchref1.WeekFault -/
theorem c_benchref1_WeekFault [Tracks] {n : Int}  : ConP Tryz.prog 64 [.int .i64 n] (.int .i64 (if weekB n then 0 else 1)) := by
 refine Con.of_body Tryz.func64 rfl Tryz.ntmps64 rfl rfl ?_
 refine hw_reg ?_
 refine dp rfl (pop_assign rfl) ?_
 refine dn ?_
 refine hw_reg ?_
 refine dp rfl (pop_move rfl) ?_
 refine dp rfl (pop_call ca87 rfl (WeakL.refl _) c_benchref1_SpanFault) ?_
 refine dp rfl (pop_assign rfl) ?_
 refine dn ?_
 refine hw_ret ?_
 refine ret_p rfl ?_
 show HVal.int .i64 _ = _
 unfold weekB
 cases out n 1 60 <;> rfl

/-- benchwarmer/benchref1.PlayFault -/
theorem c_benchref1_PlayFault [Tracks] {p : Play} (hgp : GoodPl1 p) : ConP Tryz.prog 32 [ePlay p] (.int .i64 (playFault p)) := by
 refine Con.of_body Tryz.func32 rfl Tryz.ntmps32 rfl rfl ?_
 refine hw_reg ?_
 refine dp rfl (pop_box rfl rfl) ?_
 refine dp rfl (pop_assign rfl) ?_
 refine dn ?_
 refine hw_seq ?_
 refine hw_block ?_
 refine hw_reg ?_
 refine dp rfl (pop_fieldAddr ty30 rfl ty9 (by decide) rfl) ?_
 refine dp rfl (pop_load ty9 rfl rfl rfl) ?_
 refine dp rfl (pop_call ca61 rfl (WeakL.refl _) (c_benchref1_Key hgp.1)) ?_
 refine dp rfl (pop_not rfl) ?_
 refine dp rfl (pop_assign rfl) ?_
 refine dn ?_
 refine hw_cond rfl (fun h1 => ?_) (fun h2 => ?_)
 ·try simp at h1
  refine hw_reg ?_
  refine dp rfl (pop_assign rfl) ?_
  refine dn ?_
  refine hw_ret ?_
  refine ret_p rfl ?_
  show HVal.int .i64 _ = _
  simp_all [playFault]
 ·try simp at h2
  refine hw_reg ?_
  refine dp rfl (pop_fieldAddr ty30 rfl ty3 (by decide) rfl) ?_
  refine dp rfl (pop_load ty3 rfl rfl rfl) ?_
  refine dp rfl (pop_call ca62 rfl (WeakL.refl _) c_benchref1_in) ?_
  refine dp rfl (pop_not rfl) ?_
  refine dp rfl (pop_move rfl) ?_
  refine dg rfl rfl (fun hc => ⟨_, OpenTo.refl _, pop_fieldAddr ty30 rfl ty3 (by decide) rfl⟩) ?_
  refine dg rfl rfl (fun hc => ⟨_, OpenTo.upd (t := 14) rfl (hc) (OpenTo.refl _), pop_load ty3 rfl rfl rfl⟩) ?_
  refine dg rfl rfl (fun hc => ⟨_, OpenTo.upd (t := 15) rfl (hc) (OpenTo.refl _), pop_call ca63 rfl (WeakL.refl _) c_benchref1_MomentFault⟩) ?_
  refine dg rfl rfl (fun hc => ⟨_, OpenTo.upd (t := 16) rfl (hc) (OpenTo.refl _), pop_neq rfl rfl⟩) ?_
  refine dp rfl (pop_picko rfl (.inl rfl) (.inr ⟨_, rfl, fun h => by simp_all⟩)) ?_
  refine dp rfl (pop_move rfl) ?_
  refine dg rfl rfl (fun hc => ⟨_, OpenTo.refl _, pop_fieldAddr ty30 rfl ty3 (by decide) rfl⟩) ?_
  refine dg rfl rfl (fun hc => ⟨_, OpenTo.upd (t := 20) rfl (hc) (OpenTo.refl _), pop_load ty3 rfl rfl rfl⟩) ?_
  refine dg rfl rfl (fun hc => ⟨_, OpenTo.upd (t := 21) rfl (hc) (OpenTo.refl _), pop_call ca64 rfl (WeakL.refl _) c_benchref1_WeekFault⟩) ?_
  refine dg rfl rfl (fun hc => ⟨_, OpenTo.upd (t := 22) rfl (hc) (OpenTo.refl _), pop_neq rfl rfl⟩) ?_
  refine dp rfl (pop_picko rfl (.inl rfl) (.inr ⟨_, rfl, fun h => by simp_all⟩)) ?_
  refine dp rfl (pop_assign rfl) ?_
  refine dn ?_
  refine hw_cond rfl (fun h3 => ?_) (fun h4 => ?_)
  ·try simp at h3
   refine hw_reg ?_
   refine dp rfl (pop_assign rfl) ?_
   refine dn ?_
   refine hw_ret ?_
   refine ret_p rfl ?_
   show HVal.int .i64 _ = _
   simp_all [playFault]
  ·try simp at h4
   refine hw_reg ?_
   refine dp rfl (pop_fieldAddr ty30 rfl ty9 (by decide) rfl) ?_
   refine dp rfl (pop_load ty9 rfl rfl rfl) ?_
   refine dp rfl (pop_call ca61 rfl (WeakL.refl _) (c_benchref1_Key hgp.2.1)) ?_
   refine dp rfl (pop_not rfl) ?_
   refine dp rfl (pop_move rfl) ?_
   refine dg rfl rfl (fun hc => ⟨_, OpenTo.refl _, pop_fieldAddr ty30 rfl ty9 (by decide) rfl⟩) ?_
   refine dg rfl rfl (fun hc => ⟨_, OpenTo.upd (t := 31) rfl (hc) (OpenTo.refl _), pop_load ty9 rfl rfl rfl⟩) ?_
   refine dg rfl rfl (fun hc => ⟨_, OpenTo.upd (t := 32) rfl (hc) (OpenTo.refl _), pop_call ca61 rfl (WeakL.refl _) (c_benchref1_Key hgp.2.2.1)⟩) ?_
   refine dg rfl rfl (fun hc => ⟨_, OpenTo.upd (t := 33) rfl (hc) (OpenTo.refl _), pop_not rfl⟩) ?_
   refine dp rfl (pop_picko rfl (.inl rfl) (.inr ⟨_, rfl, fun h => by simp_all⟩)) ?_
   refine dp rfl (pop_move rfl) ?_
   refine dg rfl rfl (fun hc => ⟨_, OpenTo.refl _, pop_fieldAddr ty30 rfl ty9 (by decide) rfl⟩) ?_
   refine dg rfl rfl (fun hc => ⟨_, OpenTo.upd (t := 37) rfl (hc) (OpenTo.refl _), pop_load ty9 rfl rfl rfl⟩) ?_
   refine dg rfl rfl (fun hc => ⟨_, OpenTo.upd (t := 38) rfl (hc) (OpenTo.refl _), pop_call ca61 rfl (WeakL.refl _) (c_benchref1_Key hgp.2.2.2)⟩) ?_
   refine dg rfl rfl (fun hc => ⟨_, OpenTo.upd (t := 39) rfl (hc) (OpenTo.refl _), pop_not rfl⟩) ?_
   refine dp rfl (pop_picko rfl (.inl rfl) (.inr ⟨_, rfl, fun h => by simp_all⟩)) ?_
   refine dp rfl (pop_assign rfl) ?_
   refine dn ?_
   refine hw_cond rfl (fun h5 => ?_) (fun h6 => ?_)
   ·try simp at h5
    refine hw_reg ?_
    refine dp rfl (pop_assign rfl) ?_
    refine dn ?_
    refine hw_ret ?_
    refine ret_p rfl ?_
    show HVal.int .i64 _ = _
    simp_all [playFault]
   ·try simp at h6
    refine hw_reg ?_
    refine dp rfl (pop_fieldAddr ty30 rfl ty3 (by decide) rfl) ?_
    refine dp rfl (pop_load ty3 rfl rfl rfl) ?_
    refine dp rfl (pop_call ca62 rfl (WeakL.refl _) c_benchref1_in) ?_
    refine dp rfl (pop_not rfl) ?_
    refine dp rfl (pop_move rfl) ?_
    refine dg rfl rfl (fun hc => ⟨_, OpenTo.refl _, pop_fieldAddr ty30 rfl ty3 (by decide) rfl⟩) ?_
    refine dg rfl rfl (fun hc => ⟨_, OpenTo.upd (t := 48) rfl (hc) (OpenTo.refl _), pop_load ty3 rfl rfl rfl⟩) ?_
    refine dg rfl rfl (fun hc => ⟨_, OpenTo.refl _, pop_fieldAddr ty30 rfl ty3 (by decide) rfl⟩) ?_
    refine dg rfl rfl (fun hc => ⟨_, OpenTo.upd (t := 50) rfl (hc) (OpenTo.refl _), pop_load ty3 rfl rfl rfl⟩) ?_
    have hN := out_f (n := p.No) (lo := 1) (hi := 3000) (by simp_all)
    refine dg rfl rfl (fun hc => by have hq := hc; (try simp at hq); exact ⟨_, OpenTo.upd (t := 51) rfl (hc) (OpenTo.refl _), pop_sub64 rfl rfl (by omega) (by omega)⟩) ?_
    refine dg rfl rfl (fun hc => ⟨_, OpenTo.upd (t := 52) rfl (hc) (OpenTo.upd (t := 49) rfl (hc) (OpenTo.refl _)), pop_call ca62 rfl (WeakL.refl _) c_benchref1_in⟩) ?_
    refine dg rfl rfl (fun hc => ⟨_, OpenTo.upd (t := 53) rfl (hc) (OpenTo.refl _), pop_not rfl⟩) ?_
    refine dp rfl (pop_picko rfl (.inl rfl) (.inr ⟨_, rfl, fun h => by simp_all⟩)) ?_
    refine dp rfl (pop_assign rfl) ?_
    refine dn ?_
    refine hw_cond rfl (fun h7 => ?_) (fun h8 => ?_)
    ·try simp at h7
     refine hw_reg ?_
     refine dp rfl (pop_assign rfl) ?_
     refine dn ?_
     refine hw_ret ?_
     refine ret_p rfl ?_
     show HVal.int .i64 _ = _
     simp_all [playFault]
    ·try simp at h8
     refine hw_reg ?_
     refine dp rfl (pop_fieldAddr ty30 rfl ty3 (by decide) rfl) ?_
     refine dp rfl (pop_load ty3 rfl rfl rfl) ?_
     refine dp rfl (pop_gtr rfl rfl) ?_
     refine dp rfl (pop_move rfl) ?_
     refine dg rfl rfl (fun hc => ⟨_, OpenTo.refl _, pop_fieldAddr ty30 rfl ty3 (by decide) rfl⟩) ?_
     refine dg rfl rfl (fun hc => ⟨_, OpenTo.upd (t := 61) rfl (hc) (OpenTo.refl _), pop_load ty3 rfl rfl rfl⟩) ?_
     refine dg rfl rfl (fun hc => ⟨_, OpenTo.upd (t := 62) rfl (hc) (OpenTo.refl _), pop_neq rfl rfl⟩) ?_
     refine dp rfl (pop_picko rfl (.inr ⟨_, rfl, fun h => by simp_all⟩) (.inl rfl)) ?_
     refine dp rfl (pop_assign rfl) ?_
     refine dn ?_
     refine hw_cond rfl (fun h9 => ?_) (fun h10 => ?_)
     ·try simp at h9
      refine hw_reg ?_
      refine dp rfl (pop_assign rfl) ?_
      refine dn ?_
      refine hw_ret ?_
      refine ret_p rfl ?_
      show HVal.int .i64 _ = _
      simp_all [playFault]
     ·try simp at h10
      refine hw_skip ?_
      refine blockQ_n ?_
      refine seqQ_n ?_
      refine hw_reg ?_
      refine dp rfl (pop_assign rfl) ?_
      refine dn ?_
      refine hw_ret ?_
      refine ret_p rfl ?_
      show HVal.int .i64 _ = _
      simp_all [playFault]

/-- benchwarmer/benchref1.byPlay -/
theorem c_benchref1_byPlay [Tracks] {a b : Play}  : ConP Tryz.prog 33 [ePlay a, ePlay b] (.int .i64 (byNo a b)) := by
 refine Con.of_body Tryz.func33 rfl Tryz.ntmps33 rfl rfl ?_
 refine hw_reg ?_
 refine dp rfl (pop_box rfl rfl) ?_
 refine dp rfl (pop_box rfl rfl) ?_
 refine dp rfl (pop_assign rfl) ?_
 refine dn ?_
 refine hw_draw (fun _ => True) [] mixed ?_
 refine ahp 0 rfl rfl (by kernel_rfl) (by kernel_rfl) (pop_fieldAddr ty30 rfl ty9 (by decide) rfl) ?_
 refine ahp 1 rfl rfl (by kernel_rfl) (by kernel_rfl) (pop_load ty9 rfl rfl rfl) ?_
 refine ahp 2 rfl rfl (by kernel_rfl) (by kernel_rfl) (pop_fieldAddr ty30 rfl ty9 (by decide) rfl) ?_
 refine ahp 3 rfl rfl (by kernel_rfl) (by kernel_rfl) (pop_load ty9 rfl rfl rfl) ?_
 refine ahp 4 rfl rfl (by kernel_rfl) (by kernel_rfl) (pop_call ca66 rfl (WeakL.refl _) c_strings_Compare) ?_
 refine ahp 5 rfl rfl (by kernel_rfl) (by kernel_rfl) (pop_fieldAddr ty30 rfl ty3 (by decide) rfl) ?_
 refine ahp 6 rfl rfl (by kernel_rfl) (by kernel_rfl) (pop_load ty3 rfl rfl rfl) ?_
 refine ahp 7 rfl rfl (by kernel_rfl) (by kernel_rfl) (pop_fieldAddr ty30 rfl ty3 (by decide) rfl) ?_
 refine ahp 8 rfl rfl (by kernel_rfl) (by kernel_rfl) (pop_load ty3 rfl rfl rfl) ?_
 refine ahp 9 rfl rfl (by kernel_rfl) (by kernel_rfl) (pop_call ca67 rfl (WeakL.refl _) c_cmp_Compare_int) ?_
 refine ahp 10 rfl rfl (by kernel_rfl) (by kernel_rfl) (pop_buildSlice (hs := [_, _]) ty22 ty3 rfl rfl (by decide) (by decide) rfl) ?_
 refine ahp 11 rfl rfl (by kernel_rfl) (by kernel_rfl) (pop_call ca65 rfl (WeakL.refl _) (c_cmp_Or_int (l := [_, _]) (by simp))) ?_
 refine ahp 12 rfl rfl (by kernel_rfl) (by kernel_rfl) (pop_assign rfl) ?_
 refine ahz (by kernel_rfl) ?_
 refine hw_ret ?_
 refine ret_p rfl ?_
 rfl

/-- benchwarmer/benchref1.PlaysFault -/
theorem c_benchref1_PlaysFault [Tracks] {l : List Play} (hl : l.length ≤ 1000000) (hgl : ∀ x ∈ l, GoodPl1 x) : ConP Tryz.prog 9 [ePlays l] (.int .i64 (playsE l)) := by
 refine Con.of_body Tryz.func9 rfl Tryz.ntmps9 rfl rfl ?_
 refine hw_reg ?_
 refine dp rfl (pop_assign rfl) ?_
 refine dn ?_
 refine hw_seq ?_
 refine hw_reg ?_
 refine dp rfl (pop_move rfl) ?_
 refine dp rfl (pop_lenm ty26 rfl) ?_
 refine dp rfl (pop_gtr rfl rfl) ?_
 refine dn ?_
 refine hw_cond rfl (fun h1 => ?_) (fun h2 => ?_)
 ·try simp at h1
  refine hw_reg ?_
  refine dp rfl (pop_assign rfl) ?_
  refine dn ?_
  refine hw_ret ?_
  refine ret_g Ghost.clear rfl ⟨?_, rfl⟩
  show HVal.int .i64 _ = _
  (rw [playsE, if_pos (by omega)]; done)
 ·try simp at h2
  refine hw_skip ?_
  refine seqQ_n ?_
  refine hw_reg ?_
  refine de rfl (eop_makeMap fun m12 => ?_)
  refine de rfl (eop_makeMap fun m13 => ?_)
  refine dp rfl (pop_assign rfl) ?_
  refine dp rfl (pop_assign rfl) ?_
  refine dn ?_
  refine hw_reg ?_
  refine dp rfl (pop_assign rfl) ?_
  refine dn ?_
  refine hw_seq ?_
  refine hw_reg ?_
  refine dp rfl (pop_move rfl) ?_
  refine dp rfl (pop_lenm ty26 rfl) ?_
  refine dp rfl (pop_move rfl) ?_
  refine dn ?_
  refine hw_block ?_
  refine hw_loopw [2, 5, 6, 7, 8, 16, 17, 18, 19, 20, 21, 22, 23, 24, 25, 26, 27, 28, 29, 30, 31, 32, 33, 34, 35, 36, 37, 38, 39, 40, 41, 42, 43, 44, 45, 46, 47, 48, 49, 50, 51, 52, 53, 54, 55, 56, 57, 58, 59, 60, 61, 62, 63] (fun (k : Nat) => [(16, .int .i64 k), (5, .bool (chkSt (l.take k)).c)]) (fun (k : Nat) => [.map m13 (sk (em (.int .i64) (chkSt (l.take k)).W)), .map m12 (sk (mset (chkSt (l.take k)).S))]) (fun (k : Nat) => k ≤ l.length ∧ (playsGo l 0 l = playsGo l k (l.drop k) ∧ ∀ y ∈ l.take k, playFault y = 0)) (fun (k : Nat) => l.length - k) (0) ?_ ?_ ?_ ?_
  ·exact ⟨Nat.zero_le _, rfl, by simp⟩
  ·exact ⟨rfl, rfl, trivial⟩
  ·exact List.Perm.refl _
  ·intro k hinv
   obtain ⟨hk, hg, hok⟩ := hinv
   refine hw_reg ?_
   refine dp rfl (pop_lss rfl rfl) ?_
   refine dn ?_
   refine hw_seq ?_
   refine hw_cond rfl (fun h3 => ?_) (fun h4 => ?_)
   ·try simp at h3
    obtain ⟨x, hx⟩ : ∃ x, l[k]? = some x := ⟨_, List.getElem?_eq_getElem h3⟩
    have hdx := drop_cons hx
    rw [hdx] at hg
    refine hw_skip ?_
    refine seqQ_n ?_
    refine hw_seq ?_
    refine hw_block ?_
    refine hw_reg ?_
    refine dp rfl (pop_move rfl) ?_
    refine dp rfl (pop_idx ty26 ty30 rfl rfl rfl (by assumption)) ?_
    refine dp rfl (pop_loadw ty30 rfl rfl rfl rfl) ?_
    refine de rfl (eop_alloc ty30 rfl fun b7 => ?_)
    refine dp rfl (pop_assign rfl) ?_
    refine de0 (eop_storew ty30 rfl rfl rfl rfl rfl ?_)
    refine dn ?_
    refine hw_ghost (Ghost.fc0 7 rfl) ?_
    refine hw_seq ?_
    refine hw_reg ?_
    refine dp rfl (pop_loadw ty30 rfl rfl rfl rfl) ?_
    refine dp rfl (pop_call ca32 rfl (WeakL.refl _) (c_benchref1_PlayFault (hgl x (List.mem_of_getElem? hx)))) ?_
    refine dp rfl (pop_assign rfl) ?_
    refine dn ?_
    refine hw_reg ?_
    refine dp rfl (pop_move rfl) ?_
    refine dp rfl (pop_neq rfl rfl) ?_
    refine dn ?_
    refine hw_cond rfl (fun h5 => ?_) (fun h6 => ?_)
    ·try simp at h5
     refine hw_reg ?_
     refine dp rfl (pop_move rfl) ?_
     refine dp rfl (pop_assign rfl) ?_
     refine dn ?_
     refine hw_ret ?_
     refine ret_g Ghost.clear rfl ⟨?_, rfl⟩
     show HVal.int .i64 _ = _
     (rw [playsE_go (by omega) (by rw [hg, playsGo, if_pos (by simpa using h5)]) (by simpa using h5)]; done)
    ·try simp at h6
     refine hw_skip ?_
     refine seqQ_n ?_
     refine hw_seq ?_
     refine hw_draw (fun _ => True) [] mixed ?_
     refine ahp 0 rfl rfl (by kernel_rfl) (by kernel_rfl) (pop_move rfl) ?_
     refine ahp 1 rfl rfl (by kernel_rfl) (by kernel_rfl) (pop_gtr rfl rfl) ?_
     refine ahp 2 rfl rfl (by kernel_rfl) (by kernel_rfl) (pop_move rfl) ?_
     refine ahg 3 rfl rfl (by kernel_rfl) (by kernel_rfl) rfl (fun hc => ⟨_, OpenTo.refl _, pop_move rfl⟩) ?_
     refine ahg 4 rfl rfl (by kernel_rfl) (by kernel_rfl) rfl (fun hc => ⟨_, OpenTo.refl _, pop_move rfl⟩) ?_
     refine ahg 5 rfl rfl (by kernel_rfl) (by kernel_rfl) rfl (fun hc => by have hq := hc; (try simp at hq); exact ⟨_, OpenTo.upd (t := 30) rfl (hc) (OpenTo.refl _), pop_sub64 rfl rfl (by omega) (by omega)⟩) ?_
     refine ahg 6 rfl rfl (by kernel_rfl) (by kernel_rfl) rfl (fun hc => by have hq := hc; (try simp at hq); exact ⟨_, OpenTo.upd (t := 31) rfl (hc) (OpenTo.upd (t := 29) rfl (hc) (OpenTo.refl _)), pop_idx (j := k - 1) (a := l.getD (k - 1) play0) ty26 ty30 rfl rfl (by omega) (getD_some (by omega))⟩) ?_
     refine ahg 7 rfl rfl (by kernel_rfl) (by kernel_rfl) rfl (fun hc => ⟨_, OpenTo.upd (t := 32) rfl (hc) (OpenTo.refl _), pop_loadw ty30 rfl rfl rfl rfl⟩) ?_
     refine ahg 8 rfl rfl (by kernel_rfl) (by kernel_rfl) rfl (fun hc => ⟨_, OpenTo.refl _, pop_loadw ty30 rfl rfl rfl rfl⟩) ?_
     refine ahg 9 rfl rfl (by kernel_rfl) (by kernel_rfl) rfl (fun hc => ⟨_, OpenTo.upd (t := 34) rfl (hc) (OpenTo.upd (t := 33) rfl (hc) (OpenTo.refl _)), pop_call ca33 rfl (WeakL.refl _) c_benchref1_byPlay⟩) ?_
     refine ahg 10 rfl rfl (by kernel_rfl) (by kernel_rfl) rfl (fun hc => ⟨_, OpenTo.upd (t := 35) rfl (hc) (OpenTo.refl _), pop_geq rfl rfl⟩) ?_
     refine ahp 11 rfl rfl (by kernel_rfl) (by kernel_rfl) (pop_picko rfl (.inr ⟨_, rfl, fun h => by simp_all⟩) (.inl rfl)) ?_
     refine ahz (by kernel_rfl) ?_
     refine hw_cond rfl (fun h7 => ?_) (fun h8 => ?_)
     ·try simp at h7
      refine hw_reg ?_
      refine dp rfl (pop_assign rfl) ?_
      refine dn ?_
      refine hw_ret ?_
      refine ret_g Ghost.clear rfl ⟨?_, rfl⟩
      show HVal.int .i64 _ = _
      (rw [playsE_go (c := 7) (by omega) (by rw [hg, playsGo, if_neg (by simpa using h6), if_pos (by obtain ⟨qa, qb⟩ := h7; have qb' : 0 ≤ byNo (l.getD (k - 1) play0) x := (by simpa using qb); rw [byNo_flip]; exact ⟨by omega, by omega⟩)]) (by decide)]; done)
     ·try simp at h8
      refine hw_skip ?_
      refine seqQ_n ?_
      refine hw_reg ?_
      refine dp rfl (pop_move rfl) ?_
      refine dp rfl (pop_fieldAddr ty30 rfl ty9 (by decide) rfl) ?_
      refine dp rfl (pop_load ty9 rfl rfl rfl) ?_
      refine de0 (eop_update_set (i := 1) ty63 ty9 rfl rfl rfl rfl ?_)
      refine dn ?_
      refine hw_reg ?_
      refine dp rfl (pop_move rfl) ?_
      refine dp rfl (pop_move rfl) ?_
      refine dg rfl rfl (fun hc => ⟨_, OpenTo.refl _, pop_move rfl⟩) ?_
      refine dg rfl rfl (fun hc => ⟨_, OpenTo.refl _, pop_fieldAddr ty30 rfl ty9 (by decide) rfl⟩) ?_
      refine dg rfl rfl (fun hc => ⟨_, OpenTo.upd (t := 44) rfl (hc) (OpenTo.refl _), pop_load ty9 rfl rfl rfl⟩) ?_
      refine dgl rfl rfl (fun hc => ⟨_, OpenTo.upd (t := 45) rfl (hc) (OpenTo.upd (t := 43) rfl (hc) (OpenTo.refl _)), eop_lookupA (i := 0) (z0 := (0 : Int)) ty64 ty9 ty3 rfl rfl rfl rfl ⟨rfl, rfl⟩⟩) ?_
      refine dg rfl rfl (fun hc => ⟨_, OpenTo.upd (t := 46) rfl (hc) (OpenTo.refl _), pop_neq rfl rfl⟩) ?_
      refine dg rfl rfl (fun hc => ⟨_, OpenTo.upd (t := 47) rfl (hc) (OpenTo.refl _), pop_move rfl⟩) ?_
      refine dg rfl rfl (fun hc => ⟨_, OpenTo.refl _, pop_move rfl⟩) ?_
      refine dg rfl rfl (fun hc => ⟨_, OpenTo.refl _, pop_fieldAddr ty30 rfl ty9 (by decide) rfl⟩) ?_
      refine dg rfl rfl (fun hc => ⟨_, OpenTo.upd (t := 50) rfl (hc) (OpenTo.refl _), pop_load ty9 rfl rfl rfl⟩) ?_
      refine dgl rfl rfl (fun hc => ⟨_, OpenTo.upd (t := 51) rfl (hc) (OpenTo.upd (t := 49) rfl (hc) (OpenTo.refl _)), eop_lookupA (i := 0) (z0 := (0 : Int)) ty64 ty9 ty3 rfl rfl rfl rfl ⟨rfl, rfl⟩⟩) ?_
      refine dg rfl rfl (fun hc => ⟨_, OpenTo.refl _, pop_fieldAddr ty30 rfl ty3 (by decide) rfl⟩) ?_
      refine dg rfl rfl (fun hc => ⟨_, OpenTo.upd (t := 53) rfl (hc) (OpenTo.refl _), pop_load ty3 rfl rfl rfl⟩) ?_
      refine dg rfl rfl (fun hc => ⟨_, OpenTo.upd (t := 54) rfl (hc) (OpenTo.upd (t := 52) rfl (hc) (OpenTo.refl _)), pop_neq rfl rfl⟩) ?_
      refine dg rfl rfl (fun hc => ⟨_, OpenTo.upd (t := 48) rfl (hc) (OpenTo.refl _), pop_picko rfl (.inr ⟨_, rfl, fun h => by simp_all⟩) (.inl rfl)⟩) ?_
      refine dp rfl (pop_picko rfl (.inl rfl) (.inr ⟨_, rfl, fun h => by simp_all⟩)) ?_
      refine dp rfl (pop_assign rfl) ?_
      refine dn ?_
      refine hw_reg1 ?_
      refine dp rfl (pop_move rfl) ?_
      refine dp rfl (pop_fieldAddr ty30 rfl ty9 (by decide) rfl) ?_
      refine dp rfl (pop_load ty9 rfl rfl rfl) ?_
      refine dp rfl (pop_fieldAddr ty30 rfl ty3 (by decide) rfl) ?_
      refine dp rfl (pop_load ty3 rfl rfl rfl) ?_
      refine de0 (eop_updateA (i := 0) ty64 ty9 rfl rfl rfl rfl ?_)
      refine dn ?_
      refine blockQ_n ?_
      refine seqQ_n ?_
      refine hw_reg1 ?_
      refine dp rfl (pop_add64 rfl rfl (by omega) (by omega)) ?_
      refine dp rfl (pop_move rfl) ?_
      refine dn ?_
      refine ⟨k + 1, ⟨by omega, ?_, ?_⟩, by dsimp only; omega, ⟨rfl, ?_, trivial⟩, (by repeat (first | exact keeps_refl | refine keeps_upd rfl ?_ | refine keeps_loop rfl rfl ?_)), ?_⟩
      ·rw [hg, playsGo_ne (by simpa using h6) (fun hk0 => by have hz := h8; rw [byNo_flip] at hz; simp_all; try omega)]
      ·intro y hy
       rw [take_snoc' hx] at hy
       rcases List.mem_append.1 hy with hy | hy
       ·exact hok y hy
       ·rw [List.mem_singleton.1 hy]; simpa using h6
      ·rw [chkSt_snoc hx, ← chk_ref hok]; exact congrArg (fun b => some (HVal.bool b)) (by cases (chkSt (l.take k)).c <;> simp)
      ·exact perm_eq (by dsimp only; rw [chkSt_snoc hx]; rfl)
   ·try simp at h4
    have hnk : l.length ≤ k := by omega
    obtain rfl : k = l.length := by omega
    rw [drop_all (Nat.le_refl _)] at hg
    rw [List.take_length]
    refine hw_exit ?_
    refine seqQ_x ?_
    refine loopQ_x ?_
    refine blockQ_eq ?_
    refine seqQ_n ?_
    refine hw_seq ?_
    refine hw_block ?_
    have e1 : (sk (mset (chkSt l).S)).length = (chkSt l).S.length := by simp [sk, mset]
    have e2 : (sk (em (HVal.int .i64) (chkSt l).W)).length = (chkSt l).W.length := by simp [sk]
    refine hw_reg ?_
    refine dp rfl (pop_move rfl) ?_
    refine de rfl (eop_maplen (i := 1) ty63 rfl rfl ?_)
    refine dp rfl (pop_gtr rfl rfl) ?_
    refine dp rfl (pop_move rfl) ?_
    refine dg rfl rfl (fun hc => ⟨_, OpenTo.refl _, pop_move rfl⟩) ?_
    refine dgl rfl rfl (fun hc => ⟨_, OpenTo.upd (t := 69) rfl (hc) (OpenTo.refl _), eop_maplen (i := 0) ty64 rfl rfl ⟨rfl, rfl⟩⟩) ?_
    refine dg rfl rfl (fun hc => ⟨_, OpenTo.upd (t := 70) rfl (hc) (OpenTo.refl _), pop_gtr rfl rfl⟩) ?_
    refine dp rfl (pop_picko rfl (.inl rfl) (.inr ⟨_, rfl, fun h => by simp_all⟩)) ?_
    refine dp rfl (pop_assign rfl) ?_
    refine dn ?_
    refine hw_cond rfl (fun h9 => ?_) (fun h10 => ?_)
    ·try simp at h9
     refine hw_reg ?_
     refine dp rfl (pop_assign rfl) ?_
     refine dn ?_
     refine hw_ret ?_
     refine ret_g Ghost.clear rfl ⟨?_, rfl⟩
     show HVal.int .i64 _ = _
     (rw [playsE_tail (by omega) hg, playsTail, if_pos (by omega)]; done)
    ·try simp at h10
     refine hw_reg ?_
     refine dp rfl (pop_move rfl) ?_
     refine dp rfl (pop_assign rfl) ?_
     refine dn ?_
     refine hw_cond rfl (fun h11 => ?_) (fun h12 => ?_)
     ·try simp at h11
      refine hw_reg ?_
      refine dp rfl (pop_assign rfl) ?_
      refine dn ?_
      refine hw_ret ?_
      refine ret_g Ghost.clear rfl ⟨?_, rfl⟩
      show HVal.int .i64 _ = _
      (rw [playsE_tail (by omega) hg, playsTail, if_neg (by omega), if_pos (by assumption)]; done)
     ·try simp at h12
      refine hw_skip ?_
      refine blockQ_n ?_
      refine seqQ_n ?_
      refine hw_reg ?_
      refine dp rfl (pop_assign rfl) ?_
      refine dn ?_
      refine hw_ret ?_
      refine ret_g Ghost.clear rfl ⟨?_, rfl⟩
      show HVal.int .i64 _ = _
      (rw [playsE_tail (by omega) hg, playsTail, if_neg (by omega), if_neg (by simp_all)]; done)

end Go.Proofs.YtlankmahpaenhaaGreatDoor
end
section
namespace Go.HL
section
variable {α : Type}
def Srt (c : α → α → Int) (l : List α) : Prop := l.Pairwise fun a b => c a b ≤ 0
theorem Cmp.self {c : α → α → Int} (hc : Cmp c fun _ => True) (x : α) : c x x ≤ 0 := by
 have := hc.flip x x trivial trivial; omega
theorem Srt.get {c : α → α → Int} (hc : Cmp c fun _ => True) {l : List α} (h : Srt c l) {i j : Nat} {x y : α} (hij : i ≤ j) (hx : l[i]? = some x) (hy : l[j]? = some y) : c x y ≤ 0 := by
 rcases Nat.lt_or_ge i j with hlt | hge
 ·have h1 := lt_of_get hx
  have h2 := lt_of_get hy
  have := List.pairwise_iff_getElem.1 h i j h1 h2 hlt
  rw [List.getElem?_eq_getElem h1] at hx
  rw [List.getElem?_eq_getElem h2] at hy
  rw [Option.some.inj hx, Option.some.inj hy] at this
  exact this
 ·have e : i = j := by omega
  rw [e, hy] at hx
  rw [Option.some.inj hx]; exact hc.self _
theorem mem_take_get {l : List α} {k : Nat} {z : α} (h : z ∈ l.take k) : ∃ i, i < k ∧ l[i]? = some z := by
 obtain ⟨i, hi⟩ := List.getElem?_of_mem h
 have hik : i < k := by have := lt_of_get hi; rw [List.length_take] at this; omega
 rw [List.getElem?_take_of_lt hik] at hi
 exact ⟨i, hik, hi⟩
theorem mem_drop_get {l : List α} {k : Nat} {z : α} (h : z ∈ l.drop k) : ∃ i, k ≤ i ∧ l[i]? = some z := by
 obtain ⟨i, hi⟩ := List.getElem?_of_mem h
 rw [List.getElem?_drop] at hi
 exact ⟨k + i, by omega, hi⟩
/-- All that goes to the left is at most all that goes to the right. -/
theorem sym_split {c : α → α → Int} (hc : Cmp c fun _ => True) {X Y : List α} {k j : Nat} (hX : Srt c X) (hY : Srt c Y) (hk : k ≤ X.length) (hj : j ≤ Y.length)
 (h1 : ∀ x y, X[k - 1]? = some x → Y[j]? = some y → 0 < k → c x y ≤ 0) (h2 : ∀ x y, Y[j - 1]? = some y → X[k]? = some x → 0 < j → c y x ≤ 0) :
 ∀ z ∈ X.take k ++ Y.take j, ∀ w ∈ X.drop k ++ Y.drop j, c z w ≤ 0 := by
 intro z hz w hw
 rcases List.mem_append.1 hz with hz | hz <;> rcases List.mem_append.1 hw with hw | hw
 ·obtain ⟨i, hi, hz⟩ := mem_take_get hz
  obtain ⟨i', hi', hw⟩ := mem_drop_get hw
  exact hX.get hc (by omega) hz hw
 ·obtain ⟨i, hi, hz⟩ := mem_take_get hz
  obtain ⟨i', hi', hw⟩ := mem_drop_get hw
  have hl := lt_of_get hw
  have a1 := List.getElem?_eq_getElem (l := X) (i := k - 1) (by omega)
  have a2 := List.getElem?_eq_getElem (l := Y) (i := j) (by omega)
  have b1 := hX.get hc (show i ≤ k - 1 by omega) hz a1
  have b2 := h1 _ _ a1 a2 (by omega)
  have b3 := hY.get hc hi' a2 hw
  exact hc.trans _ _ _ trivial trivial trivial (hc.trans _ _ _ trivial trivial trivial b1 b2) b3
 ·obtain ⟨i, hi, hz⟩ := mem_take_get hz
  obtain ⟨i', hi', hw⟩ := mem_drop_get hw
  have hl := lt_of_get hw
  have a1 := List.getElem?_eq_getElem (l := Y) (i := j - 1) (by omega)
  have a2 := List.getElem?_eq_getElem (l := X) (i := k) (by omega)
  have b1 := hY.get hc (show i ≤ j - 1 by omega) hz a1
  have b2 := h2 _ _ a1 a2 (by omega)
  have b3 := hX.get hc hi' a2 hw
  exact hc.trans _ _ _ trivial trivial trivial (hc.trans _ _ _ trivial trivial trivial b1 b2) b3
 ·obtain ⟨i, hi, hz⟩ := mem_take_get hz
  obtain ⟨i', hi', hw⟩ := mem_drop_get hw
  exact hY.get hc (by omega) hz hw
theorem Srt.take {c : α → α → Int} {l : List α} (h : Srt c l) (k : Nat) : Srt c (l.take k) := List.Pairwise.sublist (List.take_sublist k l) h
theorem Srt.drop {c : α → α → Int} {l : List α} (h : Srt c l) (k : Nat) : Srt c (l.drop k) := List.Pairwise.sublist (List.drop_sublist k l) h
theorem Srt.app {c : α → α → Int} {A B : List α} (h1 : Srt c A) (h2 : Srt c B) (h : ∀ x ∈ A, ∀ y ∈ B, c x y ≤ 0) : Srt c (A ++ B) := List.pairwise_append.2 ⟨h1, h2, h⟩
theorem Srt.nil {c : α → α → Int} : Srt c [] := List.Pairwise.nil
/-- Two parts that are merged by themselves. -/
theorem sym_join {c : α → α → Int} (hc : Cmp c fun _ => True) {X Y Z1 Z2 : List α} {k j : Nat} (hX : Srt c X) (hY : Srt c Y) (hk : k ≤ X.length) (hj : j ≤ Y.length)
 (h1 : ∀ x y, X[k - 1]? = some x → Y[j]? = some y → 0 < k → c x y ≤ 0) (h2 : ∀ x y, Y[j - 1]? = some y → X[k]? = some x → 0 < j → c y x ≤ 0)
 (p1 : Z1.Perm (X.take k ++ Y.take j)) (p2 : Z2.Perm (X.drop k ++ Y.drop j)) (s1 : Srt c Z1) (s2 : Srt c Z2) : (Z1 ++ Z2).Perm (X ++ Y) ∧ Srt c (Z1 ++ Z2) := by
 refine ⟨?_, s1.app s2 fun x hx y hy => sym_split hc hX hY hk hj h1 h2 x (p1.mem_iff.1 hx) y (p2.mem_iff.1 hy)⟩
 refine (p1.append p2).trans ?_
 have e1 : X.take k ++ Y.take j ++ (X.drop k ++ Y.drop j) = X.take k ++ (Y.take j ++ X.drop k) ++ Y.drop j := by simp
 have e2 : X ++ Y = X.take k ++ (X.drop k ++ Y.take j) ++ Y.drop j := by
  have h3 := List.take_append_drop k X
  have h4 := List.take_append_drop j Y
  calc X ++ Y = (X.take k ++ X.drop k) ++ (Y.take j ++ Y.drop j) := by rw [h3, h4]
   _ = _ := by simp only [List.append_assoc]
 rw [e1, e2]
 exact ((List.perm_append_comm).append_left _).append_right _
/-- One element is put into a sorted list, from the left. -/
theorem one_left {c : α → α → Int} (hc : Cmp c fun _ => True) {x : α} {Y : List α} {j : Nat} (hY : Srt c Y) (hj : j ≤ Y.length) (h1 : ∀ y, Y[j]? = some y → c x y ≤ 0) (h2 : ∀ y, Y[j - 1]? = some y → 0 < j → c y x ≤ 0) :
 (Y.take j ++ x :: Y.drop j).Perm ([x] ++ Y) ∧ Srt c (Y.take j ++ x :: Y.drop j) := by
 have hX : Srt c [x] := List.pairwise_singleton _ _
 have key := sym_join (k := 0) (Z1 := Y.take j) (Z2 := x :: Y.drop j) hc hX hY (Nat.zero_le _) hj (fun _ _ _ _ h => absurd h (Nat.lt_irrefl _)) (fun x' y hy hx' h => by
  simp at hx'; subst hx'; exact h2 y hy h) (by simp) (by simp) (hY.take j) ?_
 ·exact key
 ·refine List.pairwise_cons.2 ⟨fun y hy => ?_, hY.drop j⟩
  obtain ⟨i, hi, hy⟩ := mem_drop_get hy
  have hl := lt_of_get hy
  have a2 := List.getElem?_eq_getElem (l := Y) (i := j) (by omega)
  exact hc.trans _ _ _ trivial trivial trivial (h1 _ a2) (hY.get hc hi a2 hy)
/-- One element is put into a sorted list, from the right. -/
theorem one_right {c : α → α → Int} (hc : Cmp c fun _ => True) {y : α} {X : List α} {k : Nat} (hX : Srt c X) (hk : k ≤ X.length) (h1 : ∀ x, X[k - 1]? = some x → 0 < k → c x y ≤ 0) (h2 : ∀ x, X[k]? = some x → c y x ≤ 0) :
 (X.take k ++ y :: X.drop k).Perm (X ++ [y]) ∧ Srt c (X.take k ++ y :: X.drop k) := by
 refine ⟨?_, ?_⟩
 ·have e : X ++ [y] = X.take k ++ (X.drop k ++ [y]) := by rw [← List.append_assoc, List.take_append_drop]
  rw [e]
  exact (List.perm_append_comm (l₁ := [y]) (l₂ := X.drop k)).append_left _
 ·refine (hX.take k).app (List.pairwise_cons.2 ⟨fun x hx => ?_, hX.drop k⟩) fun z hz w hw => ?_
  ·obtain ⟨i, hi, hx⟩ := mem_drop_get hx
   have hl := lt_of_get hx
   have a2 := List.getElem?_eq_getElem (l := X) (i := k) (by omega)
   exact hc.trans _ _ _ trivial trivial trivial (h2 _ a2) (hX.get hc hi a2 hx)
  ·obtain ⟨i, hi, hz⟩ := mem_take_get hz
   have hl := lt_of_get hz
   rcases List.mem_cons.1 hw with rfl | hw
   ·have a1 := List.getElem?_eq_getElem (l := X) (i := k - 1) (by omega)
    exact hc.trans _ _ _ trivial trivial trivial (hX.get hc (show i ≤ k - 1 by omega) hz a1) (h1 _ a1 (by omega))
   ·obtain ⟨i', hi', hw⟩ := mem_drop_get hw
    exact hX.get hc (by omega) hz hw
end
end Go.HL
end
section
namespace Go.HL
section
variable {α : Type} {c : α → α → Int}
/-- Each block of so many elements is sorted. -/
def Blk (c : α → α → Int) (bs : Nat) (l : List α) : Prop := ∀ q, Srt c ((l.drop (bs * q)).take bs)
theorem Blk.all {bs : Nat} {l : List α} (h : Blk c bs l) (hl : l.length ≤ bs) : Srt c l := by
 have := h 0
 rw [Nat.mul_zero, List.drop_zero, List.take_of_length_le hl] at this
 exact this
theorem Blk.nil {bs : Nat} : Blk c bs [] := fun q => by simp [Srt.nil]
theorem Blk.add {bs k : Nat} {Z W : List α} (h : Blk c bs Z) (hZ : Z.length = bs * k) (hW : Srt c W) (hl : W.length ≤ bs) : Blk c bs (Z ++ W) := by
 intro q
 rcases Nat.lt_trichotomy q k with hq | hq | hq
 ·have h1 : bs * q + bs ≤ Z.length := by rw [hZ, ← Nat.mul_succ]; exact Nat.mul_le_mul_left bs hq
  rw [List.drop_append_of_le_length (by omega), List.take_append_of_le_length (by rw [List.length_drop]; omega)]
  exact h q
 ·rw [hq, ← hZ, List.drop_left, List.take_of_length_le hl]; exact hW
 ·have h1 : Z.length + bs ≤ bs * q := by rw [hZ, ← Nat.mul_succ]; exact Nat.mul_le_mul_left bs hq
  rw [List.drop_of_length_le (by rw [List.length_append]; omega)]
  simp [Srt.nil]
theorem Blk.at {bs q a : Nat} {l : List α} (h : Blk c bs l) (ha : a = bs * q) : Srt c ((l.drop a).take bs) := by rw [ha]; exact h q
theorem Blk.last {bs q a : Nat} {l : List α} (h : Blk c bs l) (ha : a = bs * q) (hl : l.length ≤ a + bs) : Srt c (l.drop a) := by
 have := h.at ha
 rw [List.take_of_length_le (by rw [List.length_drop]; omega)] at this
 exact this
/-- Two parts of one length, of which the first so many elements have changed places. -/
def swR (A X B Y C : List α) (k : Nat) : List α := A ++ (Y.take k ++ X.drop k) ++ (B ++ (X.take k ++ Y.drop k) ++ C)
theorem swR_zero (A X B Y C : List α) : swR A X B Y C 0 = A ++ X ++ B ++ Y ++ C := by simp [swR]
theorem swR_end {A X B Y C : List α} (h : X.length = Y.length) : swR A X B Y C X.length = A ++ Y ++ B ++ X ++ C := by
 unfold swR
 rw [List.take_of_length_le (Nat.le_of_eq h.symm), List.drop_of_length_le (Nat.le_refl _), List.take_of_length_le (Nat.le_refl _), List.drop_of_length_le (Nat.le_of_eq h.symm)]
 simp
theorem swR_form {A X B Y C : List α} {k : Nat} {x y : α} (hx : X[k]? = some x) (hy : Y[k]? = some y) :
 swR A X B Y C k = (A ++ Y.take k) ++ x :: ((X.drop (k + 1) ++ B ++ X.take k) ++ y :: (Y.drop (k + 1) ++ C)) := by
 unfold swR; rw [drop_cons hx, drop_cons hy]; simp
theorem swR_step {A X B Y C : List α} {k : Nat} {x y : α} (hx : X[k]? = some x) (hy : Y[k]? = some y) :
 swR A X B Y C (k + 1) = (A ++ Y.take k) ++ y :: ((X.drop (k + 1) ++ B ++ X.take k) ++ x :: (Y.drop (k + 1) ++ C)) := by
 unfold swR; rw [take_snoc' hx, take_snoc' hy]; simp
theorem two_get1 {P Q R : List α} {x y : α} : (P ++ x :: (Q ++ y :: R))[P.length]? = some x := by simp
theorem two_get2 {P Q R : List α} {x y : α} {j : Nat} (hj : j = P.length + 1 + Q.length) : (P ++ x :: (Q ++ y :: R))[j]? = some y := by
 have e : P ++ x :: (Q ++ y :: R) = (P ++ x :: Q) ++ y :: R := by simp
 have hl : (P ++ x :: Q).length = j := by simp; omega
 rw [e, ← hl]; simp
theorem two_set {P Q R : List α} {x y x' y' : α} {i j : Nat} (hi : i = P.length) (hj : j = P.length + 1 + Q.length) : ((P ++ x :: (Q ++ y :: R)).set i x').set j y' = P ++ x' :: (Q ++ y' :: R) := by
 subst hi
 have e1 : (P ++ x :: (Q ++ y :: R)).set P.length x' = P ++ x' :: (Q ++ y :: R) := by rw [List.set_append_right _ _ (Nat.le_refl _)]; simp
 have e : P ++ x' :: (Q ++ y :: R) = (P ++ x' :: Q) ++ y :: R := by simp
 have hl : (P ++ x' :: Q).length = j := by simp; omega
 rw [e1, e, ← hl, List.set_append_right _ _ (Nat.le_refl _)]; simp
theorem swR_get1 {A X B Y C : List α} {k : Nat} {x y : α} (hx : X[k]? = some x) (hy : Y[k]? = some y) : (swR A X B Y C k)[A.length + k]? = some x := by
 have hk := lt_of_get hy
 have e : A.length + k = (A ++ Y.take k).length := by rw [List.length_append, List.length_take]; omega
 rw [swR_form hx hy, e]; exact two_get1
theorem swR_pos {A X B Y C : List α} {k : Nat} {x y : α} (hx : X[k]? = some x) (hy : Y[k]? = some y) : A.length + X.length + B.length + k = (A ++ Y.take k).length + 1 + (X.drop (k + 1) ++ B ++ X.take k).length := by
 have hk := lt_of_get hy
 have hk' := lt_of_get hx
 simp only [List.length_append, List.length_take, List.length_drop]; omega
theorem swR_get2 {A X B Y C : List α} {k : Nat} {x y : α} (hx : X[k]? = some x) (hy : Y[k]? = some y) : (swR A X B Y C k)[A.length + X.length + B.length + k]? = some y := by
 rw [swR_form hx hy]; exact two_get2 (swR_pos (C := C) hx hy)
theorem swR_get2' {A X B Y C : List α} {k : Nat} {x y z : α} (hx : X[k]? = some x) (hy : Y[k]? = some y) : ((swR A X B Y C k).set (A.length + k) z)[A.length + X.length + B.length + k]? = some y := by
 have hk' := lt_of_get hx
 rw [List.getElem?_set_ne (by omega)]; exact swR_get2 hx hy
theorem swR_set {A X B Y C : List α} {k : Nat} {x y : α} (hx : X[k]? = some x) (hy : Y[k]? = some y) : ((swR A X B Y C k).set (A.length + k) y).set (A.length + X.length + B.length + k) x = swR A X B Y C (k + 1) := by
 have hk := lt_of_get hy
 have e : A.length + k = (A ++ Y.take k).length := by rw [List.length_append, List.length_take]; omega
 rw [swR_form hx hy, swR_step hx hy]
 exact two_set e (swR_pos (C := C) hx hy)
/-! one element wanders -/
def wan (A Y : List α) (x : α) (C : List α) (j : Nat) : List α := A ++ (Y.take j ++ x :: Y.drop j) ++ C
theorem wan_zero (A Y C : List α) (x : α) : wan A Y x C 0 = A ++ [x] ++ Y ++ C := by simp [wan]
theorem wan_end (A Y C : List α) (x : α) : wan A Y x C Y.length = A ++ Y ++ [x] ++ C := by simp [wan]
theorem wan_form {A Y C : List α} {x y : α} {j : Nat} (hy : Y[j]? = some y) : wan A Y x C j = (A ++ Y.take j) ++ x :: ([] ++ y :: (Y.drop (j + 1) ++ C)) := by
 unfold wan; rw [drop_cons hy]; simp
theorem wan_step {A Y C : List α} {x y : α} {j : Nat} (hy : Y[j]? = some y) : wan A Y x C (j + 1) = (A ++ Y.take j) ++ y :: ([] ++ x :: (Y.drop (j + 1) ++ C)) := by
 unfold wan; rw [take_snoc' hy]; simp
theorem wan_len {A Y C : List α} {x y : α} {j : Nat} (hy : Y[j]? = some y) : A.length + j = (A ++ Y.take j).length := by
 have := lt_of_get hy
 rw [List.length_append, List.length_take]; omega
theorem wan_get1 {A Y C : List α} {x y : α} {j : Nat} (hy : Y[j]? = some y) : (wan A Y x C j)[A.length + j]? = some x := by
 rw [wan_form hy, wan_len (A := A) (C := C) (x := x) hy]; exact two_get1
theorem wan_get2 {A Y C : List α} {x y : α} {j : Nat} (hy : Y[j]? = some y) : (wan A Y x C j)[A.length + j + 1]? = some y := by
 rw [wan_form hy, wan_len (A := A) (C := C) (x := x) hy]; exact two_get2 rfl
/-- To the right. -/
theorem wan_set {A Y C : List α} {x y : α} {j : Nat} (hy : Y[j]? = some y) : ((wan A Y x C j).set (A.length + j) y).set (A.length + j + 1) x = wan A Y x C (j + 1) := by
 rw [wan_form hy, wan_step hy, wan_len (A := A) (C := C) (x := x) hy]; exact two_set rfl rfl
theorem wan_get2' {A Y C : List α} {x y z : α} {j : Nat} (hy : Y[j]? = some y) : ((wan A Y x C j).set (A.length + j) z)[A.length + j + 1]? = some y := by
 rw [List.getElem?_set_ne (by omega)]; exact wan_get2 hy
/-- To the left: the element is at j + 1, the one ahead of it at j. -/
theorem wan_at {A Y C : List α} {x y : α} {j : Nat} (hy : Y[j]? = some y) : (wan A Y x C (j + 1))[A.length + j + 1]? = some x ∧ (wan A Y x C (j + 1))[A.length + j]? = some y := by
 rw [wan_step hy, wan_len (A := A) (C := C) (x := x) hy]
 exact ⟨two_get2 rfl, two_get1⟩
theorem wan_at' {A Y C : List α} {x y z : α} {j : Nat} (hy : Y[j]? = some y) : ((wan A Y x C (j + 1)).set (A.length + j + 1) z)[A.length + j]? = some y := by
 rw [List.getElem?_set_ne (by omega)]; exact (wan_at hy).2
theorem wan_back {A Y C : List α} {x y : α} {j : Nat} (hy : Y[j]? = some y) : ((wan A Y x C (j + 1)).set (A.length + j + 1) y).set (A.length + j) x = wan A Y x C j := by
 have h := two_set (P := A ++ Y.take j) (Q := []) (R := Y.drop (j + 1) ++ C) (x := y) (y := x) (x' := x) (y' := y) (i := A.length + j) (j := A.length + j + 1) (wan_len (C := C) (x := x) hy) (by rw [wan_len (A := A) (C := C) (x := x) hy]; rfl)
 rw [wan_step hy, wan_form hy, List.set_comm _ _ (by omega)]
 exact h
theorem last_app {A D : List α} {x : α} (h : 0 < D.length) : ((A ++ D)[(A ++ D).length - 1]?).getD x = (D[D.length - 1]?).getD x := by
 rw [List.getElem?_append_right (by rw [List.length_append]; omega)]
 congr 2; rw [List.length_append]; omega
theorem last_app2 {A D : List α} {x : α} (h : 0 < D.length) : ((A ++ D)[A.length + D.length - 1]?).getD x = (D[D.length - 1]?).getD x := by
 have := last_app (A := A) (x := x) h
 rw [List.length_append] at this; exact this
theorem last_idx {A D : List α} {x y : α} : ((A ++ (D ++ [y]))[A.length + (D ++ [y]).length - 1]?).getD x = y := by
 rw [last_app2 (by simp)]; exact getD_snoc
theorem last_get {A D R : List α} {x y : α} : ((A ++ (D ++ [y])) ++ x :: R)[(A ++ (D ++ [y])).length - 1]? = some y := by
 have e : (A ++ (D ++ [y])) ++ x :: R = (A ++ D) ++ y :: x :: R := by simp
 have hl : (A ++ (D ++ [y])).length - 1 = (A ++ D).length := by simp [← Nat.add_assoc]
 rw [e, hl]; simp
theorem ins_win {A D B E C R : List α} {x : α} (h : D ++ x :: (B ++ E) = R) : (A ++ D) ++ x :: (B ++ E ++ C) = A ++ R ++ C := by rw [← h]; simp
theorem isort_srt (hc : Cmp c fun _ => True) (l : List α) : Srt c (isort c l) := isort_sorted hc (fun _ _ => trivial)
/-- A window of a list. -/
theorem win {l : List α} {a m : Nat} : l.drop a = (l.drop a).take m ++ l.drop (a + m) := by rw [← List.drop_drop, List.take_append_drop]
theorem take_add' {l : List α} {a m : Nat} : l.take (a + m) = l.take a ++ (l.drop a).take m := List.take_add
theorem sym_cond {A X Y : List α} {d p s1 s2 : Nat} (hc : Cmp c fun _ => True) (hP : ∀ x y, X[p - 1 - A.length]? = some x → Y[d - p]? = some y → s1 < p → ¬ c y x < 0) (hQ : ∀ x y, X[p - A.length]? = some x → Y[d - 1 - p]? = some y → p < s2 → c y x < 0)
 (hs1 : s1 = A.length ∨ d = s1 + Y.length) (hs2 : s2 = A.length + X.length ∨ s2 = d) (hsp : s1 ≤ p) (hps : p ≤ s2) (hpA : A.length ≤ p) :
 (∀ x y, X[p - A.length - 1]? = some x → Y[d - p]? = some y → 0 < p - A.length → c x y ≤ 0) ∧ (∀ x y, Y[d - p - 1]? = some y → X[p - A.length]? = some x → 0 < d - p → c y x ≤ 0) := by
 refine ⟨fun x y h1 h2 h0 => ?_, fun x y h1 h2 h0 => ?_⟩
 ·have hl := lt_of_get h2
  have := hP x y (by rw [show p - 1 - A.length = p - A.length - 1 by omega]; exact h1) h2 (by omega)
  have f1 := hc.flip x y trivial trivial
  have f2 := hc.flip y x trivial trivial
  omega
 ·have hl := lt_of_get h2
  have := hQ x y h2 (by rw [show d - 1 - p = d - p - 1 by omega]; exact h1) (by omega)
  omega
theorem sym_left {X Y : List α} {k j : Nat} (hX : Srt c X) (hY : Srt c Y) (h : k = 0 ∨ j = 0) : Srt c (X.take k ++ Y.take j) := by
 rcases h with rfl | rfl
 ·simpa using hY.take j
 ·simpa using hX.take k
theorem sym_right {X Y : List α} {k j : Nat} (hX : Srt c X) (hY : Srt c Y) (h : X.length ≤ k ∨ Y.length ≤ j) : Srt c (X.drop k ++ Y.drop j) := by
 rcases h with h | h
 ·rw [List.drop_of_length_le h]; exact hY.drop j
 ·rw [List.drop_of_length_le h, List.append_nil]; exact hX.drop k
theorem sym_pre {A X Y C : List α} {k j : Nat} : A ++ X ++ Y ++ C = (A ++ X.take k) ++ X.drop k ++ Y.take j ++ (Y.drop j ++ C) := by
 have h1 := List.take_append_drop k X
 have h2 := List.take_append_drop j Y
 calc A ++ X ++ Y ++ C = A ++ (X.take k ++ X.drop k) ++ (Y.take j ++ Y.drop j) ++ C := by rw [h1, h2]
  _ = _ := by simp only [List.append_assoc]
theorem sym_noswap {A X Y C : List α} {k j : Nat} (h : X.length ≤ k ∨ j = 0) : A ++ X ++ Y ++ C = (A ++ X.take k) ++ Y.take j ++ X.drop k ++ (Y.drop j ++ C) := by
 rcases h with h | rfl
 ·rw [List.drop_of_length_le h, List.take_of_length_le h]
  have := List.take_append_drop j Y
  calc A ++ X ++ Y ++ C = A ++ X ++ (Y.take j ++ Y.drop j) ++ C := by rw [this]
   _ = _ := by simp only [List.append_assoc, List.append_nil, List.nil_append]
 ·have := List.take_append_drop k X
  calc A ++ X ++ Y ++ C = A ++ (X.take k ++ X.drop k) ++ Y ++ C := by rw [this]
   _ = _ := by simp only [List.append_assoc, List.take_zero, List.drop_zero, List.nil_append]
theorem mid_get {A X C : List α} {k : Nat} {x : α} (h : X[k]? = some x) : (A ++ X ++ C)[A.length + k]? = some x := by
 have := lt_of_get h
 rw [List.append_assoc, List.getElem?_append_right (by omega), Nat.add_sub_cancel_left, List.getElem?_append_left this]; exact h
theorem mid_get2 {A X Y C : List α} {k : Nat} {y : α} (h : Y[k]? = some y) : (A ++ X ++ Y ++ C)[A.length + X.length + k]? = some y := by
 have := mid_get (A := A ++ X) (C := C) h
 rw [List.length_append] at this; exact this
theorem mid_get1 {A X Y C : List α} {k : Nat} {x : α} (h : X[k]? = some x) : (A ++ X ++ Y ++ C)[A.length + k]? = some x := by
 have := mid_get (A := A) (C := Y ++ C) h
 rw [← List.append_assoc] at this; exact this
end
end Go.HL
end
section
namespace Go.HL
section
variable {α : Type} [DecidableEq α]
/-- A list without the things that equal the one before (p ahead of the first). -/
def uniqA (p : Option α) : List α → List α
 | [] => []
 | x :: r => if p = some x then uniqA (some x) r else x :: uniqA (some x) r
theorem mem_uniqA : ∀ (l : List α) (p : Option α) (s : α), s ∈ uniqA p l → s ∈ l
 | [], _, s, h => by simp [uniqA] at h
 | x :: r, p, s, h => by
   simp only [uniqA] at h
   split at h
   ·exact List.mem_cons_of_mem _ (mem_uniqA r _ s h)
   ·rcases List.mem_cons.1 h with h | h
    ·subst h; simp
    ·exact List.mem_cons_of_mem _ (mem_uniqA r _ s h)
theorem mem_uniqA' : ∀ (l : List α) (p : Option α) (s : α), s ∈ l → s ∈ uniqA p l ∨ p = some s
 | [], _, _, h => by cases h
 | x :: r, p, s, h => by
   simp only [uniqA]
   rcases List.mem_cons.1 h with rfl | h
   ·split
    ·rename_i e; exact .inr e
    ·exact .inl (by simp)
   ·rcases mem_uniqA' r (some x) s h with q | q
    ·split
     ·exact .inl q
     ·exact .inl (List.mem_cons_of_mem _ q)
    ·cases q
     split
     ·rename_i e; exact .inr e
     ·exact .inl (by simp)
theorem uniqA_snoc (x : α) : ∀ (A : List α) (p : Option α), uniqA p (A ++ [x]) = uniqA p A ++ if (A.getLast?.or p) = some x then [] else [x]
 | [], p => by
   by_cases h : p = some x <;> simp [uniqA, h]
 | y :: A, p => by
   have ih := uniqA_snoc x A (some y)
   have e : ((y :: A).getLast?.or p) = (A.getLast?.or (some y)) := by
    cases A with
    | nil => simp
    | cons z A => simp [List.getLast?_cons_cons, List.getLast?_cons]
   simp only [List.cons_append, uniqA]
   rw [e, ih]
   split <;> simp
theorem uniqA_step {l : List α} {k : Nat} {x y : α} (hx : l[k]? = some x) (hy : l[k - 1]? = some y) (h0 : 0 < k) : uniqA none (l.take (k + 1)) = uniqA none (l.take k) ++ if x = y then [] else [x] := by
 have hk := lt_of_get hx
 rw [take_snoc' hx, uniqA_snoc]
 have e : ((l.take k).getLast?.or none) = some y := by
  rw [List.getLast?_eq_getElem?, List.length_take, Nat.min_eq_left (by omega), List.getElem?_take_of_lt (by omega), hy]; rfl
 rw [e]
 by_cases h : x = y
 ·rw [if_pos h, if_pos (by rw [h])]
 ·rw [if_neg h, if_neg (by simpa using fun q : y = x => h q.symm)]
theorem uniqA_one {l : List α} (h : l.length < 2) : uniqA none l = l := by
 match l, h with
 | [], _ => rfl
 | [x], _ => rfl
structure CmpA (l : List α) (j : Nat) (D : List α) : Prop where
 len : D.length = l.length
 lo : D.take (uniqA none (l.take j)).length = uniqA none (l.take j)
 lt : (uniqA none (l.take j)).length < j
 hi : ∀ i, j ≤ i + 1 → D[i]? = l[i]?
theorem CmpA.start {l : List α} {k : Nat} {x y : α} (hx : l[k]? = some x) (hy : l[k - 1]? = some y) (h0 : 0 < k) (e : x = y) (h : uniqA none (l.take k) = l.take k) : CmpA l (k + 1) l ∧ (uniqA none (l.take (k + 1))).length = k := by
 have hk := lt_of_get hx
 have h1 : uniqA none (l.take (k + 1)) = l.take k := by rw [uniqA_step hx hy h0, if_pos e, h]; simp
 have h2 : (l.take k).length = k := by rw [List.length_take]; omega
 exact ⟨⟨rfl, by rw [h1, h2], by rw [h1, h2]; omega, fun _ _ => rfl⟩, by rw [h1, h2]⟩
theorem CmpA.same {l D : List α} {j : Nat} (h : CmpA l j D) {x y : α} (hx : l[j]? = some x) (hy : l[j - 1]? = some y) (e : x = y) : CmpA l (j + 1) D ∧ (uniqA none (l.take (j + 1))).length = (uniqA none (l.take j)).length := by
 have h0 := h.lt
 have h1 : uniqA none (l.take (j + 1)) = uniqA none (l.take j) := by rw [uniqA_step hx hy (by omega), if_pos e]; simp
 exact ⟨⟨h.len, by rw [h1]; exact h.lo, by rw [h1]; omega, fun i hi => h.hi i (by omega)⟩, by rw [h1]⟩
theorem CmpA.more {l D : List α} {j : Nat} (h : CmpA l j D) {x y : α} (hx : l[j]? = some x) (hy : l[j - 1]? = some y) (e : x ≠ y) : CmpA l (j + 1) (D.set (uniqA none (l.take j)).length x) ∧ (uniqA none (l.take (j + 1))).length = (uniqA none (l.take j)).length + 1 := by
 have h0 := h.lt
 have hl := h.len
 have hj := lt_of_get hx
 have h1 : uniqA none (l.take (j + 1)) = uniqA none (l.take j) ++ [x] := by rw [uniqA_step hx hy (by omega), if_neg e]
 have h2 : (uniqA none (l.take (j + 1))).length = (uniqA none (l.take j)).length + 1 := by rw [h1]; simp
 refine ⟨⟨by simpa using hl, ?_, by omega, fun i hi => ?_⟩, h2⟩
 ·rw [h2, h1]
  have h3 : (D.set (uniqA none (l.take j)).length x)[(uniqA none (l.take j)).length]? = some x := by
   rw [List.getElem?_set_self (by omega)]
  rw [take_snoc' h3, List.take_set_of_le (Nat.le_refl _), h.lo]
 ·rw [List.getElem?_set_ne (by omega)]
  exact h.hi i (by omega)
/-- A sorted list without repeats: all that was there, still sorted, and neighbours differ. -/
theorem uniqA_nb {c : α → α → Int} : ∀ (l : List α) (p : Option α), l.Pairwise (fun x y => c x y ≤ 0) → (∀ q, p = some q → ∀ x ∈ l, c q x ≤ 0) →
 (uniqA p l).Pairwise (fun x y => c x y ≤ 0) ∧ (∀ q, p = some q → ∀ y ∈ uniqA p l, c q y ≤ 0) ∧ ∀ q, p = some q → (uniqA p l)[0]? ≠ some q
 | [], _, _, _ => ⟨by simp [uniqA], fun q _ y hy => by simp [uniqA] at hy, fun q _ => by simp [uniqA]⟩
 | x :: r, p, h, hp => by
   obtain ⟨h1, h2⟩ := List.pairwise_cons.1 h
   obtain ⟨i1, i2, i3⟩ := uniqA_nb r (some x) h2 (fun q e y hy => by cases e; exact h1 y hy)
   simp only [uniqA]
   split
   ·rename_i e
    refine ⟨i1, fun q eq y hy => ?_, fun q eq => ?_⟩
    ·rw [e] at eq; cases eq; exact i2 x rfl y hy
    ·rw [e] at eq; cases eq; exact i3 x rfl
   ·rename_i e
    refine ⟨List.pairwise_cons.2 ⟨fun y hy => i2 x rfl y hy, i1⟩, fun q eq y hy => ?_, fun q eq => ?_⟩
    ·rcases List.mem_cons.1 hy with rfl | hy
     ·exact hp q eq y List.mem_cons_self
     ·exact hp q eq y (List.mem_cons_of_mem _ (mem_uniqA r _ y hy))
    ·intro h9
     have : x = q := by simpa using h9
     exact e (by rw [eq, this])
theorem uniqA_adj {c : α → α → Int} : ∀ (l : List α) (p : Option α), l.Pairwise (fun x y => c x y ≤ 0) → (∀ q, p = some q → ∀ x ∈ l, c q x ≤ 0) → ∀ (i : Nat) (x y : α), (uniqA p l)[i]? = some x → (uniqA p l)[i + 1]? = some y → x ≠ y
 | [], _, _, _, i, x, y, hx, _ => by simp [uniqA] at hx
 | z :: r, p, h, hp, i, x, y, hx, hy => by
   obtain ⟨h1, h2⟩ := List.pairwise_cons.1 h
   have hp' : ∀ q, some z = some q → ∀ w ∈ r, c q w ≤ 0 := fun q e w hw => by cases e; exact h1 w hw
   simp only [uniqA] at hx hy
   split at hx
   ·rename_i e
    rw [if_pos e] at hy
    exact uniqA_adj r (some z) h2 hp' i x y hx hy
   ·rename_i e
    rw [if_neg e] at hy
    cases i with
    | zero =>
      simp at hx hy
      subst hx
      intro hxy
      exact (uniqA_nb r (some z) h2 hp').2.2 z rfl (by rw [hy, ← hxy])
    | succ i =>
      simp at hx hy
      exact uniqA_adj r (some z) h2 hp' i x y hx hy
theorem uniqA_len : ∀ (l : List α) (p : Option α), (uniqA p l).length ≤ l.length
 | [], p => by simp [uniqA]
 | x :: r, p => by
   have := uniqA_len r (some x)
   simp only [uniqA]
   split
   ·simp only [List.length_cons]; omega
   ·simp only [List.length_cons]; omega
theorem slOff_lt2 {cap off sz m : Nat} (h : m < cap) : slOff cap off sz m = off + m * sz := by
 unfold slOff; rw [if_neg (by omega)]
/-! two lists without repeats, each strictly sorted -/
variable {c : α → α → Int}
def cflA (c : α → α → Int) (a b : List α) : Bool := b.any fun x => a.any fun y => decide (c x y = 0) && decide (x ≠ y)
def addA (c : α → α → Int) (a b : List α) : List α := a ++ b.filter fun x => !(a.any fun y => decide (c x y = 0))
def merS (c : α → α → Int) (a b : List α) : List α := isort c (addA c a b)
/-- Neighbours that do not compare as alike make a strict list. -/
theorem strict_adj {β : Type} {c : β → β → Int} (hc : Cmp c fun _ => True) {D : List β} (hs : D.Pairwise fun x y => c x y ≤ 0) (h : ∀ (i : Nat) (x y : β), D[i]? = some x → D[i + 1]? = some y → c x y ≠ 0) : D.Pairwise fun x y => c x y < 0 := by
 refine List.pairwise_iff_getElem.2 fun i j hi hj hij => ?_
 have h1 := List.pairwise_iff_getElem.1 hs i j hi hj hij
 have hi1 : i + 1 < D.length := by omega
 have h2 := h i D[i] D[i + 1] (List.getElem?_eq_getElem hi) (List.getElem?_eq_getElem hi1)
 have h3 := List.pairwise_iff_getElem.1 hs i (i + 1) hi hi1 (by omega)
 rcases Nat.lt_or_ge (i + 1) j with hlt | hge
 ·have h4 := List.pairwise_iff_getElem.1 hs (i + 1) j hi1 hj hlt
  have f1 := hc.flip D[i] D[i + 1] trivial trivial
  have f2 := hc.flip D[i] D[j] trivial trivial
  have f3 := hc.flip D[j] D[i] trivial trivial
  have f4 := hc.flip D[i + 1] D[i] trivial trivial
  rcases Int.lt_or_eq_of_le h1 with e | e
  ·exact e
  ·exfalso
   have := hc.trans D[i + 1] D[j] D[i] trivial trivial trivial h4 (by omega)
   omega
 ·have e : j = i + 1 := by omega
  subst e; omega
theorem strict_uniq (hc : Cmp c fun _ => True) {D : List α} (h : D.Pairwise fun x y => c x y < 0) {x y : α} (hx : x ∈ D) (hy : y ∈ D) (e : c x y = 0) : x = y := by
 obtain ⟨i, hi⟩ := List.getElem?_of_mem hx
 obtain ⟨j, hj⟩ := List.getElem?_of_mem hy
 have hil := lt_of_get hi
 have hjl := lt_of_get hj
 rw [List.getElem?_eq_getElem hil] at hi
 rw [List.getElem?_eq_getElem hjl] at hj
 have ei := Option.some.inj hi
 have ej := Option.some.inj hj
 have f1 := hc.flip x y trivial trivial
 have f2 := hc.flip y x trivial trivial
 rcases Nat.lt_trichotomy i j with h' | h' | h'
 ·have := List.pairwise_iff_getElem.1 h i j hil hjl h'
  rw [ei, ej] at this; omega
 ·subst h'; rw [← ei, ← ej]
 ·have := List.pairwise_iff_getElem.1 h j i hjl hil h'
  rw [ei, ej] at this; omega
theorem cflA_iff {a b : List α} : cflA c a b = true ↔ ∃ x ∈ b, ∃ y ∈ a, c x y = 0 ∧ x ≠ y := by
 unfold cflA
 simp only [List.any_eq_true, Bool.and_eq_true, decide_eq_true_eq]
theorem mem_addA {β : Type} {c : β → β → Int} {a b : List β} {x : β} : x ∈ addA c a b → x ∈ a ∨ x ∈ b := fun h => by
 rcases List.mem_append.1 h with h | h
 ·exact .inl h
 ·exact .inr (List.mem_filter.1 h).1
theorem addA_nodup {β : Type} {c : β → β → Int} (hc : Cmp c fun _ => True) {a b : List β} (ha : a.Pairwise fun x y => c x y < 0) (hb : b.Pairwise fun x y => c x y < 0) : (addA c a b).Pairwise fun x y => c x y ≠ 0 := by
 refine List.pairwise_append.2 ⟨ha.imp fun h => by omega, (hb.filter _).imp fun h => by omega, fun x hx y hy e => ?_⟩
 have h1 := (List.mem_filter.1 hy).2
 have f1 := hc.flip x y trivial trivial
 have f2 := hc.flip y x trivial trivial
 have h2 : c y x = 0 := by omega
 have h3 : (a.any fun z => decide (c y z = 0)) = true := List.any_eq_true.2 ⟨x, hx, by simpa using h2⟩
 rw [h3] at h1; cases h1
/-- What sorting the two together, leaving out repeats and looking at neighbours tells. -/
theorem mer_some (hc : Cmp c fun _ => True) {a b S : List α} (ha : a.Pairwise fun x y => c x y < 0) (hb : b.Pairwise fun x y => c x y < 0) (hp : S.Perm (a ++ b)) (hs : Srt c S) {i : Nat} {x y : α} (hx : (uniqA none S)[i]? = some x) (hy : (uniqA none S)[i + 1]? = some y) (e : c x y = 0) : cflA c a b = true := by
 have hne := uniqA_adj S none hs (fun q e => by cases e) i x y hx hy
 have hx' := hp.mem_iff.1 (mem_uniqA _ _ _ (List.mem_of_getElem? hx))
 have hy' := hp.mem_iff.1 (mem_uniqA _ _ _ (List.mem_of_getElem? hy))
 have f1 := hc.flip x y trivial trivial
 have f2 := hc.flip y x trivial trivial
 rw [cflA_iff]
 rcases List.mem_append.1 hx' with h1 | h1 <;> rcases List.mem_append.1 hy' with h2 | h2
 ·exact absurd (strict_uniq hc ha h1 h2 e) hne
 ·exact ⟨y, h2, x, h1, by omega, fun q => hne q.symm⟩
 ·exact ⟨x, h1, y, h2, e, hne⟩
 ·exact absurd (strict_uniq hc hb h1 h2 e) hne
theorem mer_none (hc : Cmp c fun _ => True) {a b S : List α} (ha : a.Pairwise fun x y => c x y < 0) (hb : b.Pairwise fun x y => c x y < 0) (hp : S.Perm (a ++ b)) (hs : Srt c S) (h : ∀ (i : Nat) (x y : α), (uniqA none S)[i]? = some x → (uniqA none S)[i + 1]? = some y → c x y ≠ 0) :
 cflA c a b = false ∧ uniqA none S = merS c a b := by
 have hD := strict_adj hc (uniqA_nb S none hs (fun q e => by cases e)).1 h
 have hmem : ∀ z, z ∈ uniqA none S ↔ z ∈ a ∨ z ∈ b := fun z => by
  constructor
  ·intro hz; exact List.mem_append.1 (hp.mem_iff.1 (mem_uniqA _ _ _ hz))
  ·intro hz
   rcases mem_uniqA' S none z (hp.mem_iff.2 (List.mem_append.2 hz)) with q | q
   ·exact q
   ·cases q
 have hno : ∀ x ∈ b, ∀ y ∈ a, c x y = 0 → x = y := fun x hx y hy e => strict_uniq hc hD ((hmem x).2 (.inr hx)) ((hmem y).2 (.inl hy)) e
 refine ⟨?_, ?_⟩
 ·rw [Bool.eq_false_iff]
  intro h9
  obtain ⟨x, hx, y, hy, e1, e2⟩ := cflA_iff.1 h9
  exact e2 (hno x hx y hy e1)
 ·have hmem2 : ∀ z, z ∈ addA c a b ↔ z ∈ a ∨ z ∈ b := fun z => by
   constructor
   ·exact mem_addA
   ·rintro (hz | hz)
    ·exact List.mem_append_left _ hz
    ·by_cases hq : (a.any fun y => decide (c z y = 0)) = true
     ·obtain ⟨y, hy, e⟩ := List.any_eq_true.1 hq
      rw [hno z hz y hy (by simpa using e)]
      exact List.mem_append_left _ hy
     ·exact List.mem_append_right _ (List.mem_filter.2 ⟨hz, by simpa using hq⟩)
  have hn1 : (uniqA none S).Nodup := hD.imp fun {x y} hxy e => by
   subst e
   have := hc.flip x x trivial trivial; omega
  have hn2 : (addA c a b).Nodup := (addA_nodup hc ha hb).imp fun {x y} hxy e => by
   subst e
   have := hc.flip x x trivial trivial; omega
  have hperm : (uniqA none S).Perm (addA c a b) := (List.perm_ext_iff_of_nodup hn1 hn2).2 fun z => by rw [hmem, hmem2]
  refine isort_of_sorted hc (fun x y hx hy e => ?_) hperm (hD.imp fun {x y} hxy => ?_)
  ·exact strict_uniq hc hD ((hperm.mem_iff).2 hx) ((hperm.mem_iff).2 hy) e
  ·have f1 := hc.flip x y trivial trivial
   have f2 := hc.flip y x trivial trivial
   omega
end
end Go.HL
end
section
namespace Go.HL
structure MendS where
 Player : Str
 Week : Int
 Stat : Str
 Count : Int
 At : Int
 Version : Int
 By : Str
abbrev Plc := Str × Int
def stat0 : StatS := ⟨[], 0⟩
def line0 : LineS := ⟨[], 0, []⟩
def byWk (a b : LineS) : Int := orI [cmpS a.Player b.Player, cmpI a.Week b.Week]
section
variable {α : Type}
def chkGo (f : α → Int) (c : α → α → Int) (d : α) (l : List α) : Nat → List α → Int
 | _, [] => 0
 | k, x :: r => if f x ≠ 0 then f x else if 0 < k ∧ c x (l.getD (k - 1) d) ≤ 0 then 7 else chkGo f c d l (k + 1) r
theorem chkGo_ne {f : α → Int} {c : α → α → Int} {d : α} {l : List α} {k : Nat} {x : α} {r : List α} (h1 : f x = 0) (h2 : 0 < k → ¬ c x (l.getD (k - 1) d) ≤ 0) : chkGo f c d l k (x :: r) = chkGo f c d l (k + 1) r := by
 rw [chkGo, if_neg (by simp [h1]), if_neg (fun h => h2 h.1 h.2)]
theorem chkGo_bad {f : α → Int} {c : α → α → Int} {d : α} {l : List α} {k : Nat} {x : α} {r : List α} (h1 : f x ≠ 0) : chkGo f c d l k (x :: r) = f x := by
 rw [chkGo, if_pos h1]
theorem chkGo_ord {f : α → Int} {c : α → α → Int} {d : α} {l : List α} {k : Nat} {x : α} {r : List α} (h1 : f x = 0) (h0 : 0 < k) (h2 : c x (l.getD (k - 1) d) ≤ 0) : chkGo f c d l k (x :: r) = 7 := by
 rw [chkGo, if_neg (by simp [h1]), if_pos ⟨h0, h2⟩]
theorem chk_of {f : α → Int} {c : α → α → Int} {d : α} (hc : Cmp c fun _ => True) {l : List α} (hf : ∀ x ∈ l, f x = 0) (hp : l.Pairwise (fun a b => c a b < 0)) : ∀ (r : List α) (k : Nat), l.drop k = r → chkGo f c d l k r = 0
 | [], _, _ => rfl
 | x :: r, k, hd => by
   have hx : l[k]? = some x := by have := congrArg (fun q : List α => q[0]?) hd; simpa using this
   have hlt := lt_of_get hx
   rw [chkGo_ne (hf x (List.mem_of_getElem? hx)) (fun h0 h => ?_)]
   ·exact chk_of hc hf hp r (k + 1) (by rw [← List.drop_drop (i := 1), hd]; rfl)
   ·have hy : l[k - 1]? = some (l.getD (k - 1) d) := getD_some (by omega)
    have hk1 : k - 1 < l.length := by omega
    have := List.pairwise_iff_getElem.1 hp (k - 1) k hk1 hlt (by omega)
    rw [List.getElem?_eq_getElem hlt] at hx
    rw [List.getElem?_eq_getElem hk1] at hy
    rw [Option.some.inj hx, Option.some.inj hy] at this
    have f1 := hc.flip (l.getD (k - 1) d) x trivial trivial
    omega
theorem Cmp.lex {c d : α → α → Int} (hc : Cmp c fun _ => True) (hd : Cmp d fun _ => True) : Cmp (fun a b => if c a b ≠ 0 then c a b else d a b) fun _ => True where
 flip x y _ _ := by
  have f1 := hc.flip x y trivial trivial
  have f2 := hc.flip y x trivial trivial
  have f3 := hd.flip x y trivial trivial
  by_cases h : c x y = 0
  ·have h' : c y x = 0 := by omega
   rw [if_neg (by simp [h]), if_neg (by simp [h'])]; exact f3
  ·have h' : c y x ≠ 0 := by omega
   rw [if_pos h, if_pos h']; exact f1
 trans x y z _ _ _ h1 h2 := by
  have fxy := hc.flip x y trivial trivial
  have fyx := hc.flip y x trivial trivial
  have fyz := hc.flip y z trivial trivial
  have fzy := hc.flip z y trivial trivial
  have fxz := hc.flip x z trivial trivial
  have fzx := hc.flip z x trivial trivial
  have a1 : c x y ≤ 0 := by split at h1 <;> omega
  have a2 : c y z ≤ 0 := by split at h2 <;> omega
  have a3 := hc.trans x y z trivial trivial trivial a1 a2
  by_cases h : c x z = 0
  ·have b1 := hc.trans z x y trivial trivial trivial (by omega) a1
   have b2 := hc.trans y z x trivial trivial trivial a2 (by omega)
   have e1 : c x y = 0 := by omega
   have e2 : c y z = 0 := by omega
   rw [if_neg (by simp [e1])] at h1
   rw [if_neg (by simp [e2])] at h2
   rw [if_neg (by simp [h])]
   exact hd.trans x y z trivial trivial trivial h1 h2
  ·rw [if_pos h]; exact a3
theorem cmpS_by (f : α → Str) : Cmp (fun a b => cmpS (f a) (f b)) fun _ => True where
 flip x y _ _ := by rw [cmpS_flip (f x) (f y)]; omega
 trans x y z _ _ _ h1 h2 := cmpS_trans h1 h2
theorem cmpI_by (f : α → Int) : Cmp (fun a b => cmpI (f a) (f b)) fun _ => True where
 flip x y _ _ := by rw [cmpI_flip (f x) (f y)]; omega
 trans x y z _ _ _ h1 h2 := by rw [cmpI_le] at *; omega
end
theorem byWk_cmp : Cmp byWk fun _ => True := by
 have h := Cmp.lex (cmpS_by LineS.Player) (cmpI_by LineS.Week)
 have e : byWk = fun a b => if cmpS a.Player b.Player ≠ 0 then cmpS a.Player b.Player else cmpI a.Week b.Week := by
  funext a b; unfold byWk; rw [orI2]
 rw [e]; exact h
theorem or_zero {a b : Int} (h : (if a ≠ 0 then a else b) = 0) : a = 0 ∧ b = 0 := by
 split at h
 ·contradiction
 ·rename_i h1; exact ⟨by simpa using h1, h⟩
theorem leq_cmpS (a b : Str) : (Op.bytesLess a b || a == b) = decide (cmpS a b ≤ 0) := by
 rw [Bool.eq_iff_iff, decide_eq_true_iff, cmpS_le]
 rcases less_total a b with h | h | h
 ·simp [h, less_asymm h]
 ·subst h; simp [less_irrefl]
 ·have hne : a ≠ b := fun e => by subst e; rw [less_irrefl] at h; cases h
  simp [h, less_asymm h, hne]
/-! what is wrong -/
def mendFault (x : MendS) : Int :=
 if !(key x.Player) || !(key x.Stat) || !(key x.By) then 5
 else if !(weekB x.Week) || out x.Count (-100000) 100000 || !(moment x.At) || out x.Version 1 1000 then 1 else 0
def statFault (s : StatS) : Int := if !(key s.Name) then 5 else if out s.Count (-100000) 100000 || decide (s.Count = 0) then 1 else 0
def statsE (l : List StatS) : Int := if 40 < l.length then 2 else chkGo statFault byNm stat0 l 0 l
def lineFault (x : LineS) : Int := if !(key x.Player) then 5 else if !(weekB x.Week) then 1 else statsE x.Stats
def linesFE (l : List LineS) : Int := if 30000 < l.length then 2 else chkGo lineFault byWk line0 l 0 l
theorem mendFault_ok {x : MendS} (h : mendFault x = 0) : key x.Player = true ∧ key x.Stat = true ∧ weekB x.Week = true ∧ (-100000 ≤ x.Count ∧ x.Count ≤ 100000) ∧ moment x.At = true := by
 unfold mendFault at h
 split at h
 ·omega
 split at h
 ·omega
 rename_i h1 h2
 simp only [Bool.or_eq_true, Bool.not_eq_true', not_or, Bool.not_eq_false, Bool.not_eq_true] at h1 h2
 exact ⟨h1.1.1, h1.1.2, h2.1.1.1, out_f h2.1.1.2, h2.1.2⟩
theorem statFault_ok {s : StatS} : statFault s = 0 ↔ key s.Name = true ∧ (-100000 ≤ s.Count ∧ s.Count ≤ 100000) ∧ s.Count ≠ 0 := by
 unfold statFault
 constructor
 ·intro h
  split at h
  ·omega
  split at h
  ·omega
  rename_i h1 h2
  simp only [Bool.or_eq_true, not_or, Bool.not_eq_true, decide_eq_true_eq] at h2
  exact ⟨by simpa using h1, out_f h2.1, h2.2⟩
 ·rintro ⟨h1, h2, h3⟩
  have h4 : out s.Count (-100000) 100000 = false := by simp [out]; omega
  rw [h1, h4]; simp [h3]
theorem statsE_of {l : List StatS} (h1 : l.length ≤ 40) (h2 : ∀ x ∈ l, statFault x = 0) (h3 : l.Pairwise (fun a b => byNm a b < 0)) : statsE l = 0 := by
 unfold statsE; rw [if_neg (by omega)]; exact chk_of byNm_cmp h2 h3 l 0 rfl
theorem lineFault_ok {x : LineS} : lineFault x = 0 ↔ key x.Player = true ∧ weekB x.Week = true ∧ statsE x.Stats = 0 := by
 unfold lineFault
 constructor
 ·intro h
  split at h
  ·omega
  split at h
  ·omega
  rename_i h1 h2
  exact ⟨by simpa using h1, by simpa using h2, h⟩
 ·rintro ⟨h1, h2, h3⟩
  rw [h1, h2]; simp [h3]
theorem linesFE_of {l : List LineS} (h1 : l.length ≤ 30000) (h2 : ∀ x ∈ l, lineFault x = 0) (h3 : l.Pairwise (fun a b => byWk a b < 0)) : linesFE l = 0 := by
 unfold linesFE; rw [if_neg (by omega)]; exact chk_of byWk_cmp h2 h3 l 0 rfl
/-! as a walk tells it -/
theorem stats_bad {l r : List StatS} {k : Nat} {x : StatS} {c : Int} (hl : ¬ 40 < l.length) (hg : chkGo statFault byNm stat0 l 0 l = chkGo statFault byNm stat0 l k (x :: r)) (hc : c ≠ 0) (hf : statFault x = c) : c = statsE l := by
 rw [statsE, if_neg hl, hg, chkGo_bad (by rw [hf]; exact hc), hf]
theorem stats_ord {l r : List StatS} {k : Nat} {x : StatS} (hl : ¬ 40 < l.length) (hg : chkGo statFault byNm stat0 l 0 l = chkGo statFault byNm stat0 l k (x :: r)) (hf : statFault x = 0) (h0 : 0 < k) (h : (Op.bytesLess x.Name (l.getD (k - 1) stat0).Name || x.Name == (l.getD (k - 1) stat0).Name) = true) : 7 = statsE l := by
 rw [leq_cmpS, decide_eq_true_iff] at h
 rw [statsE, if_neg hl, hg, chkGo_ord hf h0 h]
theorem stats_next {l r : List StatS} {k : Nat} {x : StatS} (hf : statFault x = 0) (h : 0 < k → (Op.bytesLess x.Name (l.getD (k - 1) stat0).Name || x.Name == (l.getD (k - 1) stat0).Name) = false) : chkGo statFault byNm stat0 l k (x :: r) = chkGo statFault byNm stat0 l (k + 1) r :=
 chkGo_ne hf fun h0 hle => by
  have := h h0
  rw [leq_cmpS, decide_eq_false_iff_not] at this
  exact this hle
theorem lines_bad {l r : List LineS} {k : Nat} {x : LineS} {c : Int} (hl : ¬ 30000 < l.length) (hg : chkGo lineFault byWk line0 l 0 l = chkGo lineFault byWk line0 l k (x :: r)) (hc : c ≠ 0) (hf : lineFault x = c) : c = linesFE l := by
 rw [linesFE, if_neg hl, hg, chkGo_bad (by rw [hf]; exact hc), hf]
theorem lines_ord {l r : List LineS} {k : Nat} {x : LineS} (hl : ¬ 30000 < l.length) (hg : chkGo lineFault byWk line0 l 0 l = chkGo lineFault byWk line0 l k (x :: r)) (hf : lineFault x = 0) (h0 : 0 < k) (h : byWk x (l.getD (k - 1) line0) ≤ 0) : 7 = linesFE l := by
 rw [linesFE, if_neg hl, hg, chkGo_ord hf h0 h]
end Go.HL
end
section
namespace Go.HL
section
variable {α : Type} [DecidableEq α]
theorem addA_len {β : Type} (c : β → β → Int) (a b : List β) : (addA c a b).length ≤ a.length + b.length := by
 unfold addA; rw [List.length_append]
 have := List.length_filter_le (fun x => !(a.any fun y => decide (c x y = 0))) b
 omega
theorem merS_len {β : Type} (c : β → β → Int) (a b : List β) : (merS c a b).length ≤ a.length + b.length := by
 unfold merS; rw [isort_len]; exact addA_len c a b
end
theorem con_arrc [Tracks] {P : Program} {f : FuncId} {hargs : List HVal} {v : Value} {sz : Nat} {es : List HVal} {Q : HVal → List MObj → Prop} (h0 : v = .slice none 0 0 → es = [] → Con P f hargs [.arr v sz es] Q)
 (h1 : ∀ b off cap, v = .slice (some ⟨b, off, none⟩) es.length cap → Con P f hargs [.arr v sz es] Q) : Con P f hargs [.arr v sz es] Q := fun I F w args ha hs => by
 rcases hs.obj (.arr v sz es) (by simp) with ⟨g1, g2⟩ | ⟨b, off, cap, rc, el, fr, g1, _⟩
 ·exact h0 g1 g2 I F w args ha hs
 ·exact h1 b off cap g1 I F w args ha hs
end Go.HL
end
section
namespace Go.HL
section
variable {κ : Type}
end
end Go.HL
end
section
namespace Go.HL
section
variable {κ : Type} [DecidableEq κ] {β : Type}
end
section
variable {P : Program} {e : Env} {κ : Type} [DecidableEq κ] {β : Type} {eb : β → HVal}
end
end Go.HL
end
section
namespace Go.HL
/-! lines by their places, with mends -/
abbrev GrS := List (Plc × List StatS)
def mdDel (x : MendS) (l : List StatS) : List StatS := l.filter fun s => !(s.Name == x.Stat)
def mdPut (x : MendS) (l : List StatS) : List StatS := mdDel x l ++ if x.Count ≠ 0 then [⟨x.Stat, x.Count⟩] else []
def mdStep (n : Int) (G : GrS) (x : MendS) : GrS := if n < x.At then G else aput (x.Player, x.Week) (mdPut x ((alk (x.Player, x.Week) G).getD [])) G
def GLen (b : Nat) (G : GrS) : Prop := ∀ q ∈ G, q.2.length ≤ b
theorem GLen.put {b : Nat} {G : GrS} {p : Plc} {l : List StatS} (h : GLen b G) (hl : l.length ≤ b) : GLen b (aput p l G) := fun q hq => by
 rcases mem_aput hq with rfl | hq
 ·exact hl
 ·exact h q hq
theorem GLen.get {b : Nat} {G : GrS} (h : GLen b G) (p : Plc) : ((alk p G).getD []).length ≤ b := by
 cases hq : alk p G with
 | none => simp
 | some l => exact h _ (alk_of_mem hq)
theorem GLen.up {b c : Nat} {G : GrS} (h : GLen b G) (hb : b ≤ c) : GLen c G := fun q hq => Nat.le_trans (h q hq) hb
theorem mdDel_len (x : MendS) (l : List StatS) : (mdDel x l).length ≤ l.length := List.length_filter_le _ _
theorem mdPut_len (x : MendS) (l : List StatS) : (mdPut x l).length ≤ l.length + 1 := by
 have := mdDel_len x l
 unfold mdPut; rw [List.length_append]; split
 ·simp only [List.length_cons, List.length_nil]; omega
 ·simp only [List.length_nil]; omega
theorem GLen.step {b : Nat} {n : Int} {G : GrS} {x : MendS} (h : GLen b G) : GLen (b + 1) (mdStep n G x) := by
 unfold mdStep; split
 ·exact h.up (by omega)
 ·refine (h.up (by omega)).put ?_
  have h1 := mdPut_len x ((alk (x.Player, x.Week) G).getD [])
  have h2 := h.get (x.Player, x.Week)
  omega
def GNm (G : GrS) : Prop := ∀ q ∈ G, (q.2.map (·.Name)).Nodup
theorem GNm.put {G : GrS} {p : Plc} {l : List StatS} (h : GNm G) (hl : (l.map (·.Name)).Nodup) : GNm (aput p l G) := fun q hq => by
 rcases mem_aput hq with rfl | hq
 ·exact hl
 ·exact h q hq
theorem GNm.get {G : GrS} (h : GNm G) (p : Plc) : (((alk p G).getD []).map (·.Name)).Nodup := by
 cases hq : alk p G with
 | none => exact List.nodup_nil
 | some l => exact h _ (alk_of_mem hq)
theorem mdPut_names {x : MendS} {l : List StatS} (h : (l.map (·.Name)).Nodup) : ((mdPut x l).map (·.Name)).Nodup := by
 have h1 : ((mdDel x l).map (·.Name)).Nodup := h.sublist ((List.filter_sublist).map _)
 unfold mdPut
 split
 ·rw [List.map_append]
  refine List.nodup_append.2 ⟨h1, by simp, fun a ha b hb => ?_⟩
  simp at hb; subst hb
  obtain ⟨s, hs, rfl⟩ := List.mem_map.1 ha
  have := (List.mem_filter.1 hs).2
  simpa using this
 ·rw [List.append_nil]; exact h1
theorem GNm.step {n : Int} {G : GrS} {x : MendS} (h : GNm G) : GNm (mdStep n G x) := by
 unfold mdStep; split
 ·exact h
 ·exact h.put (mdPut_names (h.get _))
theorem or2z {a b : Int} (h : orI [a, b] = 0) : a = 0 ∧ b = 0 := by rw [orI2] at h; exact or_zero h
end Go.HL
end
section
namespace Go.HL
theorem eqPlay_is (x y : Play) : eqHL [.str x.Source, .int .i64 x.No, .int .i64 x.At, .int .i64 x.Week, .str x.Match, .str x.Player, .str x.Stat, .int .i64 x.Count, .int .i64 x.Undo] [.str y.Source, .int .i64 y.No, .int .i64 y.At, .int .i64 y.Week, .str y.Match, .str y.Player, .str y.Stat, .int .i64 y.Count, .int .i64 y.Undo] = true ↔ x = y := by
 obtain ⟨a1, a2, a3, a4, a5, a6, a7, a8, a9⟩ := x; obtain ⟨b1, b2, b3, b4, b5, b6, b7, b8, b9⟩ := y
 show (_ && (_ && (_ && (_ && (_ && (_ && (_ && (_ && (_ && true))))))))) = true ↔ _
 simp [eqH, and_assoc]
instance : DecidableEq Play := fun x y => decidable_of_iff _ (eqPlay_is x y)
theorem eqPlays_refl : ∀ l : List Play, eqSts ePlay l l = true
 | [] => rfl
 | a :: r => by simp [eqSts, eqSt, eqPlays_refl r, hcells, eqHL, eqH]
/-! laid together -/
def MergePE (a b : List Play) : Int := if orI [playsE a, playsE b] ≠ 0 then orI [playsE a, playsE b] else if cflA byNo a b then 13 else playsE (merS byNo a b)
def MergePL (a b : List Play) : List Play := if orI [playsE a, playsE b] ≠ 0 then [] else if cflA byNo a b then [] else if playsE (merS byNo a b) ≠ 0 then [] else merS byNo a b
def lkM (l : List Play) : List (Play × Bool) := l.foldl (fun C p => aput p true C) []
theorem lkM_snoc {l : List Play} {k : Nat} {x : Play} (h : l[k]? = some x) : lkM (l.take (k + 1)) = aput x true (lkM (l.take k)) := by
 unfold lkM; rw [take_snoc' h, List.foldl_append]; rfl
theorem lkM_get (x : Play) : ∀ (l : List Play) (C : List (Play × Bool)), (alk x (l.foldl (fun C p => aput p true C) C)).getD false = (decide (x ∈ l) || (alk x C).getD false)
 | [], C => by simp
 | p :: r, C => by
   rw [List.foldl_cons, lkM_get x r, alk_put]
   by_cases h : x = p
   ·simp [h]
   ·simp [h]
theorem lk_is (l : List Play) (x : Play) : (alk x (lkM l)).getD false = decide (x ∈ l) := by
 unfold lkM; rw [lkM_get]; simp [alk]
def lackL (l m : List Play) : List Play := m.filter fun x => !decide (x ∈ l)
theorem lack_yes {l m : List Play} {k : Nat} {x : Play} (h : m[k]? = some x) (hn : x ∉ l) : lackL l (m.take (k + 1)) = lackL l (m.take k) ++ [x] := by
 unfold lackL; rw [take_snoc' h, List.filter_append]; simp [hn]
theorem lack_no {l m : List Play} {k : Nat} {x : Play} (h : m[k]? = some x) (hn : x ∈ l) : lackL l (m.take (k + 1)) = lackL l (m.take k) := by
 unfold lackL; rw [take_snoc' h, List.filter_append]; simp [hn]
theorem lack_len (l m : List Play) : (lackL l m).length ≤ m.length := List.length_filter_le _ _
/-! what is taken back, as numbers -/
end Go.HL
end
section
namespace Go.HL
section
variable {P : Program} {e : Env} {dst : Option Tmp} {ty : TypeId} {pos : String} {af : Array Edge} {g : Option (Nat × Bool)}
end
section
variable {P : Program} {n : Nat} {e e' : Env} {M M' : List MObj} {Q Q' : Exit → Env → List MObj → Prop} {c c' : Code}
def LoopW4 {α β γ δ : Type} (e : Env) (ks : List Nat) (W : α → β → γ → δ → List (Nat × HVal)) (MM : α → β → γ → δ → List MObj) (Iv : α → β → γ → δ → Prop) (μ : α → β → γ → δ → Nat) (x : α) (y : β) (u : γ) (v : δ) (Q : Exit → Env → List MObj → Prop) : Exit → Env → List MObj → Prop
 | .normal, e', M => ∃ j k l m, Iv j k l m ∧ μ j k l m < μ x y u v ∧ HoldsW e' (W j k l m) ∧ Keeps ks e e' ∧ M.Perm (MM j k l m)
 | z, e', M => Q z e' M
theorem loopQ4_x {α β γ δ : Type} {e0 : Env} {ks : List Nat} {W : α → β → γ → δ → List (Nat × HVal)} {MM : α → β → γ → δ → List MObj} {Iv : α → β → γ → δ → Prop} {μ : α → β → γ → δ → Nat} {x : α} {y : β} {u : γ} {v : δ} {id : Nat} (h : Q (.exit id) e M) :
 LoopW4 e0 ks W MM Iv μ x y u v Q (.exit id) e M := h
theorem hw_loopw4 [Tracks] {α β γ δ : Type} (ks : List Nat) (W : α → β → γ → δ → List (Nat × HVal)) (MM : α → β → γ → δ → List MObj) (Iv : α → β → γ → δ → Prop) (μ : α → β → γ → δ → Nat) (x : α) (y : β) (u : γ) (v : δ) (h0 : Iv x y u v) (hW : HoldsW e (W x y u v)) (hM : M.Perm (MM x y u v))
 (hb : ∀ x y u v, Iv x y u v → HWp P n c (loopE e ks (W x y u v)) (MM x y u v) (LoopW4 e ks W MM Iv μ x y u v Q)) : HWp P n (.loop c) e M Q := by
 refine hw_loopw (ι := α × β × γ × δ) ks (fun p => W p.1 p.2.1 p.2.2.1 p.2.2.2) (fun p => MM p.1 p.2.1 p.2.2.1 p.2.2.2) (fun p => Iv p.1 p.2.1 p.2.2.1 p.2.2.2) (fun p => μ p.1 p.2.1 p.2.2.1 p.2.2.2) (x, y, u, v) h0 hW hM fun p hp => hw_mono (hb p.1 p.2.1 p.2.2.1 p.2.2.2 hp) ?_
 intro z e1 M1 hq
 cases z with
 | normal => obtain ⟨j, k, l, m, h⟩ := hq; exact ⟨(j, k, l, m), h⟩
 | _ => exact hq
end
end Go.HL
end
section
namespace Go.Proofs.YtlankmahpaenhaaGreatDoor
open Go.HL
set_option maxRecDepth 100000
set_option linter.unusedVariables false
set_option linter.unusedSimpArgs false
set_option maxHeartbeats 1000000 in
/-- slices.swapRangeCmpFunc[benchwarmer/api.Play] -/
theorem c_swap_api_Play [Tracks] {A X B Y C : List Play} {ia ib k0 : Int} {n b off cap : Nat} {f : HVal} (hxy : X.length = Y.length) (hn : A.length + X.length + B.length + Y.length + C.length = n) (hia : ia = (A.length : Int)) (hib : ib = (A.length : Int) + X.length + B.length) (hk0 : k0 = (X.length : Int)) (hl : n ≤ 1000000) : Con Tryz.prog 153 [.raw (.slice (some ⟨b, off, none⟩) n cap), .int .i64 ia, .int .i64 ib, .int .i64 k0, f] [.arr (.slice (some ⟨b, off, none⟩) n cap) 9 ((A ++ X ++ B ++ Y ++ C).map ePlay)] (fun x M' => x = .tup [] ∧ M' = [.arr (.slice (some ⟨b, off, none⟩) n cap) 9 ((A ++ Y ++ B ++ X ++ C).map ePlay)]) := by
 refine Con.of_body Tryz.func153 rfl Tryz.ntmps153 rfl rfl ?_
 refine hw_reg ?_
 refine dp rfl (pop_assign rfl) ?_
 refine dn ?_
 refine hw_block ?_
 refine hw_loopw [10, 11, 12, 13, 14, 15, 16, 17, 18, 19, 20, 21, 22, 23, 24, 25, 26, 27, 28, 29, 30, 31, 32, 33, 34, 35, 36, 37] (fun (k : Nat) => [(10, .int .i64 (k : Int))]) (fun (k : Nat) => [.arr (.slice (some ⟨b, off, none⟩) n cap) 9 ((swR A X B Y C k).map ePlay)]) (fun (k : Nat) => k ≤ X.length) (fun (k : Nat) => X.length - k) (0) ?_ ?_ ?_ ?_
 ·exact Nat.zero_le _
 ·exact ⟨rfl, trivial⟩
 ·exact perm_eq (by rw [swR_zero])
 ·intro k hk
  refine hw_seq ?_
  refine hw_reg ?_
  refine dp rfl (pop_move rfl) ?_
  refine dp rfl (pop_move rfl) ?_
  refine dp rfl (pop_lss rfl rfl) ?_
  refine dn ?_
  refine hw_cond rfl (fun h1 => ?_) (fun h2 => ?_)
  ·try simp at h1
   obtain ⟨x, hx⟩ : ∃ x, X[k]? = some x := ⟨_, List.getElem?_eq_getElem (by omega)⟩
   obtain ⟨y, hy⟩ : ∃ y, Y[k]? = some y := ⟨_, List.getElem?_eq_getElem (by omega)⟩
   refine hw_skip ?_
   refine seqQ_n ?_
   refine hw_seq ?_
   refine hw_block ?_
   refine hw_draw1 (fun M => M = [.arr (.slice (some ⟨b, off, none⟩) n cap) 9 ((swR A X B Y C k).map ePlay)]) [13, 19] mixed ?_
   refine ahp 0 rfl rfl (by kernel_rfl) (by kernel_rfl) (pop_move rfl) ?_
   refine ahp 1 rfl rfl (by kernel_rfl) (by kernel_rfl) (pop_move rfl) ?_
   refine ahp 2 rfl rfl (by kernel_rfl) (by kernel_rfl) (pop_move rfl) ?_
   refine ahp 3 rfl rfl (by kernel_rfl) (by kernel_rfl) (pop_add64 rfl rfl (by omega) (by omega)) ?_
   refine ahp 4 rfl rfl (by kernel_rfl) (by kernel_rfl) (pop_move rfl) ?_
   refine ahp 5 rfl rfl (by kernel_rfl) (by kernel_rfl) (pop_move rfl) ?_
   refine ahp 6 rfl rfl (by kernel_rfl) (by kernel_rfl) (pop_move rfl) ?_
   refine ahp 7 rfl rfl (by kernel_rfl) (by kernel_rfl) (pop_add64 rfl rfl (by omega) (by omega)) ?_
   refine ahp 8 rfl rfl (by kernel_rfl) (by kernel_rfl) (pop_move rfl) ?_
   refine ahp 9 rfl rfl (by kernel_rfl) (by kernel_rfl) (pop_move rfl) ?_
   refine ahp 10 rfl rfl (by kernel_rfl) (by kernel_rfl) (pop_move rfl) ?_
   refine ahp 11 rfl rfl (by kernel_rfl) (by kernel_rfl) (pop_add64 rfl rfl (by omega) (by omega)) ?_
   refine ahp 12 rfl rfl (by kernel_rfl) (by kernel_rfl) (pop_idxraw (j := A.length + X.length + B.length + k) ty26 ty30 rfl rfl (by omega) (by omega)) ?_
   refine ahl 13 rfl rfl (by kernel_rfl) (by kernel_rfl) (by simp) rfl (fun M hM => by subst hM; exact eop_load_elw (i := 0) (j := A.length + X.length + B.length + k) ty30 rfl rfl rfl (swR_get2 hx hy) rfl rfl rfl ⟨rfl, rfl⟩) ?_
   refine ahp 14 rfl rfl (by kernel_rfl) (by kernel_rfl) (pop_move rfl) ?_
   refine ahp 15 rfl rfl (by kernel_rfl) (by kernel_rfl) (pop_move rfl) ?_
   refine ahp 16 rfl rfl (by kernel_rfl) (by kernel_rfl) (pop_move rfl) ?_
   refine ahp 17 rfl rfl (by kernel_rfl) (by kernel_rfl) (pop_add64 rfl rfl (by omega) (by omega)) ?_
   refine ahp 18 rfl rfl (by kernel_rfl) (by kernel_rfl) (pop_idxraw (j := A.length + k) ty26 ty30 rfl rfl (by omega) (by omega)) ?_
   refine ahl 19 rfl rfl (by kernel_rfl) (by kernel_rfl) (by simp) rfl (fun M hM => by subst hM; exact eop_load_elw (i := 0) (j := A.length + k) ty30 rfl rfl rfl (swR_get1 hx hy) rfl rfl rfl ⟨rfl, rfl⟩) ?_
   refine ahp 20 rfl rfl (by kernel_rfl) (by kernel_rfl) (pop_idxraw (j := A.length + k) ty26 ty30 rfl rfl (by omega) (by omega)) ?_
   refine ahe 21 rfl (by kernel_rfl) ?_
   refine hop_e0 (eop_store_elw (i := 0) (j := A.length + k) (y := x) (y' := y) ty30 rfl rfl rfl rfl (swR_get1 hx hy) rfl rfl rfl ?_)
   refine ⟨fun _ => .inr (by simp [Before, Region.binds]), ?_⟩
   refine ahp 22 rfl rfl (by kernel_rfl) (by kernel_rfl) (pop_idxraw (j := A.length + X.length + B.length + k) ty26 ty30 rfl rfl (by omega) (by omega)) ?_
   refine ahe 23 rfl (by kernel_rfl) ?_
   refine hop_e0 (eop_store_elw (i := 0) (j := A.length + X.length + B.length + k) (y := y) (y' := x) ty30 rfl rfl rfl rfl (swR_get2' hx hy) rfl rfl rfl ?_)
   refine ⟨fun _ => .inr (by simp [Before, Region.binds]), ?_⟩
   refine ahz (by kernel_rfl) ?_
   refine blockQ_n ?_
   refine seqQ_n ?_
   refine hw_reg1 ?_
   refine dp rfl (pop_move rfl) ?_
   refine dp rfl (pop_add64 rfl rfl (by omega) (by omega)) ?_
   refine dp rfl (pop_assign rfl) ?_
   refine dn ?_
   exact ⟨k + 1, by omega, by dsimp only; omega, ⟨rfl, trivial⟩, (by repeat (first | exact keeps_refl | refine keeps_upd rfl ?_ | refine keeps_loop rfl rfl ?_)), perm_eq (by rw [swR_set hx hy]; rfl)⟩
  ·try simp at h2
   obtain rfl : k = X.length := by omega
   rw [swR_end hxy]
   refine hw_exit ?_
   refine seqQ_x ?_
   refine loopQ_x ?_
   refine blockQ_eq ?_
   exact ret_q rfl ⟨rfl, rfl⟩

set_option maxHeartbeats 1000000 in
/-- slices.rotateCmpFunc[benchwarmer/api.Play] -/
theorem c_rotate_api_Play [Tracks] {P U W Q : List Play} {ia im ib : Int} {n b off cap : Nat} {f : HVal} (hu : 0 < U.length) (hw : 0 < W.length) (hn : P.length + U.length + W.length + Q.length = n) (hia : ia = (P.length : Int)) (him : im = (P.length : Int) + U.length) (hib : ib = (P.length : Int) + U.length + W.length) (hl : n ≤ 1000000) : Con Tryz.prog 125 [.raw (.slice (some ⟨b, off, none⟩) n cap), .int .i64 ia, .int .i64 im, .int .i64 ib, f] [.arr (.slice (some ⟨b, off, none⟩) n cap) 9 ((P ++ U ++ W ++ Q).map ePlay)] (fun x M' => x = .tup [] ∧ M' = [.arr (.slice (some ⟨b, off, none⟩) n cap) 9 ((P ++ W ++ U ++ Q).map ePlay)]) := by
 refine Con.of_body Tryz.func125 rfl Tryz.ntmps125 rfl rfl ?_
 refine hw_reg ?_
 refine dp rfl (pop_move rfl) ?_
 refine dp rfl (pop_move rfl) ?_
 refine dp rfl (pop_sub64 rfl rfl (by omega) (by omega)) ?_
 refine dp rfl (pop_assign rfl) ?_
 refine dn ?_
 refine hw_reg ?_
 refine dp rfl (pop_move rfl) ?_
 refine dp rfl (pop_move rfl) ?_
 refine dp rfl (pop_sub64 rfl rfl (by omega) (by omega)) ?_
 refine dp rfl (pop_assign rfl) ?_
 refine dn ?_
 refine hw_seq ?_
 refine hw_block ?_
 refine hw_loopw4 [10, 11, 18, 19, 20, 21, 22, 23, 24, 25, 26, 27, 28, 29, 30, 31, 32, 33, 34, 35, 36, 37, 38, 39, 40, 41, 42, 43, 44, 45, 46, 47, 48, 49] (fun (P1 : List Play) (U1 : List Play) (W1 : List Play) (Q1 : List Play) => [(10, .int .i64 (U1.length : Int)), (11, .int .i64 (W1.length : Int))]) (fun (P1 : List Play) (U1 : List Play) (W1 : List Play) (Q1 : List Play) => [.arr (.slice (some ⟨b, off, none⟩) n cap) 9 ((P1 ++ U1 ++ W1 ++ Q1).map ePlay)]) (fun (P1 : List Play) (U1 : List Play) (W1 : List Play) (Q1 : List Play) => P1 ++ W1 ++ U1 ++ Q1 = P ++ W ++ U ++ Q ∧ P1.length + U1.length = P.length + U.length ∧ 0 < U1.length ∧ 0 < W1.length ∧ P1.length + U1.length + W1.length + Q1.length = n) (fun (P1 : List Play) (U1 : List Play) (W1 : List Play) (Q1 : List Play) => U1.length + W1.length) (P) (U) (W) (Q) ?_ ?_ ?_ ?_
 ·exact ⟨rfl, rfl, hu, hw, hn⟩
 ·exact ⟨some_int (by omega), some_int (by omega), trivial⟩
 ·exact List.Perm.refl _
 ·intro P1 U1 W1 Q1 hinv
  obtain ⟨hf, hpu, hu1, hw1, hn1⟩ := hinv
  refine hw_seq ?_
  refine hw_reg ?_
  refine dp rfl (pop_move rfl) ?_
  refine dp rfl (pop_move rfl) ?_
  refine dp rfl (pop_neq rfl rfl) ?_
  refine dn ?_
  refine hw_cond rfl (fun h1 => ?_) (fun h2 => ?_)
  ·try simp at h1
   refine hw_skip ?_
   refine seqQ_n ?_
   refine hw_block ?_
   refine hw_reg ?_
   refine dp rfl (pop_move rfl) ?_
   refine dp rfl (pop_move rfl) ?_
   refine dp rfl (pop_gtr rfl rfl) ?_
   refine dn ?_
   refine hw_cond rfl (fun h3 => ?_) (fun h4 => ?_)
   ·try simp at h3
    obtain ⟨Ua, Ub, rfl, hUa⟩ : ∃ Ua Ub, U1 = Ua ++ Ub ∧ Ua.length = W1.length := ⟨U1.take W1.length, U1.drop W1.length, (List.take_append_drop _ _).symm, by rw [List.length_take]; omega⟩
    rw [List.length_append] at *
    refine hw_ghost (Ghost.of_eq (M' := [.arr (.slice (some ⟨b, off, none⟩) n cap) 9 ((P1 ++ Ua ++ Ub ++ W1 ++ Q1).map ePlay)]) (by simp)) ?_
    refine hw_reg ?_
    refine dp rfl (pop_move rfl) ?_
    refine dp rfl (pop_move rfl) ?_
    refine dp rfl (pop_move rfl) ?_
    refine dp rfl (pop_sub64 rfl rfl (by omega) (by omega)) ?_
    refine dp rfl (pop_move rfl) ?_
    refine dp rfl (pop_move rfl) ?_
    refine dp rfl (pop_move rfl) ?_
    refine de rfl (eop_callx (i := 0) ca153 rfl (WeakL.refl _) rfl (c_swap_api_Play (A := P1) (X := Ua) (B := Ub) (Y := W1) (C := Q1) (n := n) (by omega) (by first | omega | (simp only [List.length_nil]; omega)) (by first | omega | (simp only [List.length_nil]; omega)) (by first | omega | (simp only [List.length_nil]; omega)) (by first | omega | (simp only [List.length_nil]; omega)) hl) ?_)
    rintro _ _ ⟨rfl, rfl⟩
    refine dn ?_
    refine hw_reg1 ?_
    refine dp rfl (pop_move rfl) ?_
    refine dp rfl (pop_move rfl) ?_
    refine dp rfl (pop_sub64 rfl rfl (by omega) (by omega)) ?_
    refine dp rfl (pop_assign rfl) ?_
    refine dn ?_
    refine blockQ_n ?_
    exact ⟨P1 ++ W1, Ub, Ua, Q1, ⟨by rw [← hf]; simp, by simp only [List.length_append] at *; omega, by omega, by omega, by simp only [List.length_append] at *; omega⟩, by dsimp only; simp only [List.length_append] at *; omega, ⟨some_int (by omega), some_int (by omega), trivial⟩, (by repeat (first | exact keeps_refl | refine keeps_upd rfl ?_ | refine keeps_loop rfl rfl ?_)), List.Perm.refl _⟩
   ·try simp at h4
    obtain ⟨Wa, Wb, rfl, hWb⟩ : ∃ Wa Wb, W1 = Wa ++ Wb ∧ Wb.length = U1.length := ⟨W1.take (W1.length - U1.length), W1.drop (W1.length - U1.length), (List.take_append_drop _ _).symm, by rw [List.length_drop]; omega⟩
    rw [List.length_append] at *
    refine hw_ghost (Ghost.of_eq (M' := [.arr (.slice (some ⟨b, off, none⟩) n cap) 9 ((P1 ++ U1 ++ Wa ++ Wb ++ Q1).map ePlay)]) (by simp)) ?_
    refine hw_reg ?_
    refine dp rfl (pop_move rfl) ?_
    refine dp rfl (pop_move rfl) ?_
    refine dp rfl (pop_move rfl) ?_
    refine dp rfl (pop_sub64 rfl rfl (by omega) (by omega)) ?_
    refine dp rfl (pop_move rfl) ?_
    refine dp rfl (pop_move rfl) ?_
    refine dp rfl (pop_add64 rfl rfl (by omega) (by omega)) ?_
    refine dp rfl (pop_move rfl) ?_
    refine dp rfl (pop_sub64 rfl rfl (by omega) (by omega)) ?_
    refine dp rfl (pop_move rfl) ?_
    refine dp rfl (pop_move rfl) ?_
    refine de rfl (eop_callx (i := 0) ca153 rfl (WeakL.refl _) rfl (c_swap_api_Play (A := P1) (X := U1) (B := Wa) (Y := Wb) (C := Q1) (n := n) (by omega) (by first | omega | (simp only [List.length_nil]; omega)) (by first | omega | (simp only [List.length_nil]; omega)) (by first | omega | (simp only [List.length_nil]; omega)) (by first | omega | (simp only [List.length_nil]; omega)) hl) ?_)
    rintro _ _ ⟨rfl, rfl⟩
    refine dn ?_
    refine hw_reg1 ?_
    refine dp rfl (pop_move rfl) ?_
    refine dp rfl (pop_move rfl) ?_
    refine dp rfl (pop_sub64 rfl rfl (by omega) (by omega)) ?_
    refine dp rfl (pop_assign rfl) ?_
    refine dn ?_
    refine blockQ_n ?_
    exact ⟨P1, Wb, Wa, U1 ++ Q1, ⟨by rw [← hf]; simp, by omega, by omega, by omega, by simp only [List.length_append] at *; omega⟩, by dsimp only; simp only [List.length_append] at *; omega, ⟨some_int (by omega), some_int (by omega), trivial⟩, (by repeat (first | exact keeps_refl | refine keeps_upd rfl ?_ | refine keeps_loop rfl rfl ?_)), perm_eq (by simp)⟩
  ·try simp at h2
   refine hw_exit ?_
   refine seqQ_x ?_
   refine loopQ4_x ?_
   refine blockQ_eq ?_
   refine seqQ_n ?_
   refine hw_ghost (Ghost.of_eq (M' := [.arr (.slice (some ⟨b, off, none⟩) n cap) 9 ((P1 ++ U1 ++ [] ++ W1 ++ Q1).map ePlay)]) (by simp)) ?_
   refine hw_reg1 ?_
   refine dp rfl (pop_move rfl) ?_
   refine dp rfl (pop_move rfl) ?_
   refine dp rfl (pop_move rfl) ?_
   refine dp rfl (pop_sub64 rfl rfl (by omega) (by omega)) ?_
   refine dp rfl (pop_move rfl) ?_
   refine dp rfl (pop_move rfl) ?_
   refine dp rfl (pop_move rfl) ?_
   refine de rfl (eop_callx (i := 0) ca153 rfl (WeakL.refl _) rfl (c_swap_api_Play (A := P1) (X := U1) (B := []) (Y := W1) (C := Q1) (n := n) (by omega) (by first | omega | (simp only [List.length_nil]; omega)) (by first | omega | (simp only [List.length_nil]; omega)) (by first | omega | (simp only [List.length_nil]; omega)) (by first | omega | (simp only [List.length_nil]; omega)) hl) ?_)
   rintro _ _ ⟨rfl, rfl⟩
   refine dn ?_
   exact ret_q rfl ⟨rfl, by simp only [List.append_nil] at *; rw [← hf]; rfl⟩

set_option maxHeartbeats 1000000 in
/-- slices.insertionSortCmpFunc[benchwarmer/api.Play] -/
theorem c_insw_api_Play [Tracks] {A X C : List Play} {ia ib : Int} {n b off cap : Nat} {fid : FuncId} {caps : List HVal} {c : Play → Play → Int} (hca : Callable Tryz.prog fid) (hp : ∀ x y, ConP Tryz.prog fid ([ePlay x, ePlay y] ++ caps) (.int .i64 (c x y))) (hn : A.length + X.length + C.length = n) (hia : ia = (A.length : Int)) (hib : ib = (A.length : Int) + X.length) (hl : n ≤ 1000000) : Con Tryz.prog 90 [.raw (.slice (some ⟨b, off, none⟩) n cap), .int .i64 ia, .int .i64 ib, .fn (.func fid) [] caps] [.arr (.slice (some ⟨b, off, none⟩) n cap) 9 ((A ++ X ++ C).map ePlay)] (fun x M' => x = .tup [] ∧ M' = [.arr (.slice (some ⟨b, off, none⟩) n cap) 9 ((A ++ isort c X ++ C).map ePlay)]) := by
 refine Con.of_body Tryz.func90 rfl Tryz.ntmps90 rfl rfl ?_
 refine hw_reg ?_
 refine dp rfl (pop_move rfl) ?_
 refine dp rfl (pop_add64 rfl rfl (by omega) (by omega)) ?_
 refine dp rfl (pop_assign rfl) ?_
 refine dn ?_
 refine hw_block ?_
 refine hw_loopw [8, 9, 12, 13, 14, 15, 16, 17, 18, 19, 20, 21, 22, 23, 24, 25, 26, 27, 28, 29, 30, 31, 32, 33, 34, 35, 36, 37, 38, 39, 40, 41, 42, 43, 44, 45, 46, 47, 48, 49, 50, 51, 52] (fun (k : Nat) => [(8, .int .i64 ((A.length + k : Nat) : Int))]) (fun (k : Nat) => [.arr (.slice (some ⟨b, off, none⟩) n cap) 9 ((A ++ (isort c (X.take k) ++ X.drop k) ++ C).map ePlay)]) (fun (k : Nat) => 1 ≤ k) (fun (k : Nat) => X.length - k) (1) ?_ ?_ ?_ ?_
 ·exact Nat.le_refl _
 ·exact ⟨some_int (by omega), trivial⟩
 ·exact perm_eq (by rw [isort_take1])
 ·intro k hk
  refine hw_seq ?_
  refine hw_reg ?_
  refine dp rfl (pop_move rfl) ?_
  refine dp rfl (pop_move rfl) ?_
  refine dp rfl (pop_lss rfl rfl) ?_
  refine dn ?_
  refine hw_cond rfl (fun h1 => ?_) (fun h2 => ?_)
  ·try simp at h1
   obtain ⟨x, hx⟩ : ∃ x, X[k]? = some x := ⟨_, List.getElem?_eq_getElem (by omega)⟩
   refine hw_skip ?_
   refine seqQ_n ?_
   refine hw_seq ?_
   refine hw_block ?_
   refine hw_reg ?_
   refine dp rfl (pop_move rfl) ?_
   refine dp rfl (pop_assign rfl) ?_
   refine dn ?_
   refine hw_block ?_
   refine hw_loopw2 [9, 18, 19, 20, 21, 22, 23, 24, 25, 26, 27, 28, 29, 30, 31, 32, 33, 34, 35, 36, 37, 38, 39, 40, 41, 42, 43, 44, 45, 46, 47, 48, 49, 50, 51, 52] (fun (D : List Play) (B : List Play) => [(9, .int .i64 ((A.length + D.length : Nat) : Int))]) (fun (D : List Play) (B : List Play) => [.arr (.slice (some ⟨b, off, none⟩) n cap) 9 (((A ++ D) ++ x :: (B ++ X.drop (k + 1) ++ C)).map ePlay)]) (fun (D : List Play) (B : List Play) => D.length + B.length = k ∧ insB c x (isort c (X.take k)) = insB c x D ++ B) (fun (D : List Play) (B : List Play) => D.length) (isort c (X.take k)) ([]) ?_ ?_ ?_ ?_
   ·exact ⟨by simp [isort_len]; omega, by simp⟩
   ·exact ⟨some_int (by simp [isort_len]; omega), trivial⟩
   ·exact perm_eq (by rw [drop_cons hx]; simp)
   ·intro D B hinv
    obtain ⟨hA, hB⟩ := hinv
    have hlA : D.length < X.length := by omega
    refine hw_seq ?_
    refine hw_draw (fun M => M = [.arr (.slice (some ⟨b, off, none⟩) n cap) 9 (((A ++ D) ++ x :: (B ++ X.drop (k + 1) ++ C)).map ePlay)]) [8, 13] mixed ?_
    refine ahp 0 rfl rfl (by kernel_rfl) (by kernel_rfl) (pop_move rfl) ?_
    refine ahp 1 rfl rfl (by kernel_rfl) (by kernel_rfl) (pop_move rfl) ?_
    refine ahp 2 rfl rfl (by kernel_rfl) (by kernel_rfl) (pop_gtr rfl rfl) ?_
    refine ahp 3 rfl rfl (by kernel_rfl) (by kernel_rfl) (pop_move rfl) ?_
    refine ahg 4 rfl rfl (by kernel_rfl) (by kernel_rfl) rfl (fun hc => ⟨_, OpenTo.refl _, pop_move rfl⟩) ?_
    refine ahg 5 rfl rfl (by kernel_rfl) (by kernel_rfl) rfl (fun hc => ⟨_, OpenTo.refl _, pop_move rfl⟩) ?_
    refine ahg 6 rfl rfl (by kernel_rfl) (by kernel_rfl) rfl (fun hc => ⟨_, OpenTo.refl _, pop_move rfl⟩) ?_
    refine ahg 7 rfl rfl (by kernel_rfl) (by kernel_rfl) rfl (fun hc => by
     have hq : 0 < D.length := by simp at hc; omega
     exact ⟨_, OpenTo.upd (t := 24) rfl (by first | exact hc | simp_all) (OpenTo.upd (t := 23) rfl (by first | exact hc | simp_all) (OpenTo.refl _)), pop_idxraw (j := (A ++ D).length) ty26 ty30 rfl rfl (by simp) (by first | omega | (simp; omega))⟩) ?_
    refine ahgl 8 rfl rfl (by kernel_rfl) (by kernel_rfl) (by simp) rfl rfl (fun hc => ⟨_, OpenTo.upd (t := 25) rfl (by first | exact hc | simp_all) (OpenTo.refl _), fun M hM => by
     subst hM; exact eop_load_elw (i := 0) (j := (A ++ D).length) ty30 rfl rfl rfl get_mid rfl rfl rfl ⟨rfl, rfl⟩
     ⟩) ?_
    refine ahg 9 rfl rfl (by kernel_rfl) (by kernel_rfl) rfl (fun hc => ⟨_, OpenTo.refl _, pop_move rfl⟩) ?_
    refine ahg 10 rfl rfl (by kernel_rfl) (by kernel_rfl) rfl (fun hc => ⟨_, OpenTo.refl _, pop_move rfl⟩) ?_
    refine ahg 11 rfl rfl (by kernel_rfl) (by kernel_rfl) rfl (fun hc => by
     have hq : 0 < D.length := by simp at hc; omega
     exact ⟨_, OpenTo.upd (t := 28) rfl (by first | exact hc | simp_all) (OpenTo.refl _), pop_sub64 rfl rfl (by omega) (by omega)⟩) ?_
    refine ahg 12 rfl rfl (by kernel_rfl) (by kernel_rfl) rfl (fun hc => by
     have hq : 0 < D.length := by simp at hc; omega
     exact ⟨_, OpenTo.upd (t := 29) rfl (by first | exact hc | simp_all) (OpenTo.upd (t := 27) rfl (by first | exact hc | simp_all) (OpenTo.refl _)), pop_idxraw (j := (A ++ D).length - 1) ty26 ty30 rfl rfl (by first | omega | (simp; omega)) (by first | omega | (simp; omega))⟩) ?_
    refine ahgl 13 rfl rfl (by kernel_rfl) (by kernel_rfl) (by simp) rfl rfl (fun hc => ⟨_, OpenTo.upd (t := 30) rfl (by first | exact hc | simp_all) (OpenTo.refl _), fun M hM => by
     have hq : 0 < D.length := by simp at hc; omega
     subst hM; exact eop_load_elw (i := 0) (j := (A ++ D).length - 1) ty30 rfl rfl rfl (get_before (by first | omega | (simp; omega))) rfl rfl rfl ⟨rfl, rfl⟩
     ⟩) ?_
    refine ahg 14 rfl rfl (by kernel_rfl) (by kernel_rfl) rfl (fun hc => ⟨_, OpenTo.upd (t := 31) rfl (by first | exact hc | simp_all) (OpenTo.upd (t := 26) rfl (by first | exact hc | simp_all) (OpenTo.upd (t := 22) rfl (by first | exact hc | simp_all) (OpenTo.refl _))), pop_callv hca rfl rfl (WeakL.refl _) (hp _ _)⟩) ?_
    refine ahg 15 rfl rfl (by kernel_rfl) (by kernel_rfl) rfl (fun hc => ⟨_, OpenTo.upd (t := 32) rfl (by first | exact hc | simp_all) (OpenTo.refl _), pop_lss rfl rfl⟩) ?_
    refine ahp 16 rfl rfl (by kernel_rfl) (by kernel_rfl) (pop_picko rfl (.inr ⟨_, rfl, fun h => by simp_all⟩) (.inl rfl)) ?_
    refine ahz (by kernel_rfl) ?_
    refine hw_cond rfl (fun h3 => ?_) (fun h4 => ?_)
    ·try simp at h3
     obtain ⟨hA0, hcx⟩ := h3
     obtain ⟨D1, y, rfl⟩ := snoc_of (A := D) (by omega)
     rw [last_idx] at hcx
     have hD1 : (D1 ++ [y]).length = D1.length + 1 := by simp
     refine hw_skip ?_
     refine seqQ_n ?_
     refine hw_seq ?_
     refine hw_block ?_
     refine hw_draw1 (fun M => M = [.arr (.slice (some ⟨b, off, none⟩) n cap) 9 (((A ++ (D1 ++ [y])) ++ x :: (B ++ X.drop (k + 1) ++ C)).map ePlay)]) [9, 13] mixed ?_
     refine ahp 0 rfl rfl (by kernel_rfl) (by kernel_rfl) (pop_move rfl) ?_
     refine ahp 1 rfl rfl (by kernel_rfl) (by kernel_rfl) (pop_move rfl) ?_
     refine ahp 2 rfl rfl (by kernel_rfl) (by kernel_rfl) (pop_move rfl) ?_
     refine ahp 3 rfl rfl (by kernel_rfl) (by kernel_rfl) (pop_move rfl) ?_
     refine ahp 4 rfl rfl (by kernel_rfl) (by kernel_rfl) (pop_sub64 rfl rfl (by omega) (by omega)) ?_
     refine ahp 5 rfl rfl (by kernel_rfl) (by kernel_rfl) (pop_move rfl) ?_
     refine ahp 6 rfl rfl (by kernel_rfl) (by kernel_rfl) (pop_move rfl) ?_
     refine ahp 7 rfl rfl (by kernel_rfl) (by kernel_rfl) (pop_sub64 rfl rfl (by omega) (by omega)) ?_
     refine ahp 8 rfl rfl (by kernel_rfl) (by kernel_rfl) (pop_idxraw (j := (A ++ (D1 ++ [y])).length - 1) ty26 ty30 rfl rfl (by first | omega | (simp; omega)) (by first | omega | (simp; omega))) ?_
     refine ahl 9 rfl rfl (by kernel_rfl) (by kernel_rfl) (by simp) rfl (fun M hM => by subst hM; exact eop_load_elw (i := 0) (j := (A ++ (D1 ++ [y])).length - 1) ty30 rfl rfl rfl (last_get) rfl rfl rfl ⟨rfl, rfl⟩) ?_
     refine ahp 10 rfl rfl (by kernel_rfl) (by kernel_rfl) (pop_move rfl) ?_
     refine ahp 11 rfl rfl (by kernel_rfl) (by kernel_rfl) (pop_move rfl) ?_
     refine ahp 12 rfl rfl (by kernel_rfl) (by kernel_rfl) (pop_idxraw (j := (A ++ (D1 ++ [y])).length) ty26 ty30 rfl rfl (by simp) (by first | omega | (simp; omega))) ?_
     refine ahl 13 rfl rfl (by kernel_rfl) (by kernel_rfl) (by simp) rfl (fun M hM => by subst hM; exact eop_load_elw (i := 0) (j := (A ++ (D1 ++ [y])).length) ty30 rfl rfl rfl get_mid rfl rfl rfl ⟨rfl, rfl⟩) ?_
     refine ahp 14 rfl rfl (by kernel_rfl) (by kernel_rfl) (pop_idxraw (j := (A ++ (D1 ++ [y])).length) ty26 ty30 rfl rfl (by simp) (by first | omega | (simp; omega))) ?_
     refine ahe 15 rfl (by kernel_rfl) ?_
     refine hop_e0 (eop_store_elw (i := 0) (j := (A ++ (D1 ++ [y])).length) (y := x) (y' := y) ty30 rfl rfl rfl rfl get_mid rfl rfl rfl ?_)
     refine ⟨fun _ => .inr (by simp [Before, Region.binds]), ?_⟩
     refine ahp 16 rfl rfl (by kernel_rfl) (by kernel_rfl) (pop_idxraw (j := (A ++ (D1 ++ [y])).length - 1) ty26 ty30 rfl rfl (by first | omega | (simp; omega)) (by first | omega | (simp; omega))) ?_
     refine ahe 17 rfl (by kernel_rfl) ?_
     refine hop_e0 (eop_store_elw (i := 0) (j := (A ++ (D1 ++ [y])).length - 1) (y := y) (y' := x) ty30 rfl rfl rfl rfl (by rw [List.getElem?_set_ne (by simp)]; exact last_get) rfl rfl rfl ?_)
     refine ⟨fun _ => .inr (by simp [Before, Region.binds]), ?_⟩
     refine ahz (by kernel_rfl) ?_
     refine blockQ_n ?_
     refine seqQ_n ?_
     refine hw_reg1 ?_
     refine dp rfl (pop_move rfl) ?_
     refine dp rfl (pop_sub64 rfl rfl (by omega) (by omega)) ?_
     refine dp rfl (pop_assign rfl) ?_
     refine dn ?_
     exact ⟨D1, y :: B, ⟨by simp at hA ⊢; omega, ins_step hB hcx⟩, by dsimp only; omega, ⟨some_int (by omega), trivial⟩, (by repeat (first | exact keeps_refl | refine keeps_upd rfl ?_ | refine keeps_loop rfl rfl ?_)), perm_eq (by rw [← List.append_assoc, swap_mid]; simp)⟩
    ·try simp at h4
     have hins := ins_exit (l := X) (k := k) hx hB (by intro h0; have h9 := h4 (by omega); rw [last_app2 h0] at h9; omega)
     refine hw_exit ?_
     refine seqQ_x ?_
     refine loopQ2_x ?_
     refine blockQ_eq ?_
     refine blockQ_n ?_
     refine seqQ_n ?_
     refine hw_reg1 ?_
     refine dp rfl (pop_move rfl) ?_
     refine dp rfl (pop_add64 rfl rfl (by omega) (by omega)) ?_
     refine dp rfl (pop_assign rfl) ?_
     refine dn ?_
     exact ⟨k + 1, by omega, by dsimp only; omega, ⟨some_int (by omega), trivial⟩, (by repeat (first | exact keeps_refl | refine keeps_upd rfl ?_ | refine keeps_loop rfl rfl ?_)), perm_eq (by rw [ins_win hins])⟩
  ·try simp at h2
   have hend : isort c (X.take k) ++ X.drop k = isort c X := by rw [List.take_of_length_le (by omega), drop_all (by omega)]; simp
   refine hw_exit ?_
   refine seqQ_x ?_
   refine loopQ_x ?_
   refine blockQ_eq ?_
   exact ret_q rfl ⟨rfl, by rw [hend]⟩

set_option maxHeartbeats 4000000 in
/-- slices.symMergeCmpFunc[benchwarmer/api.Play] -/
theorem c_syms_api_Play [Tracks] {A X Y C : List Play} {ia im ib : Int} {N : Nat} {n b off cap : Nat} {fid : FuncId} {caps : List HVal} {c : Play → Play → Int} (hca : Callable Tryz.prog fid) (hp : ∀ x y, ConP Tryz.prog fid ([ePlay x, ePlay y] ++ caps) (.int .i64 (c x y))) (hc : Cmp c fun _ => True) (hx0 : 0 < X.length) (hy0 : 0 < Y.length) (hN : X.length + Y.length ≤ N) (hn : A.length + X.length + Y.length + C.length = n) (hia : ia = (A.length : Int)) (him : im = (A.length : Int) + X.length) (hib : ib = (A.length : Int) + X.length + Y.length) (hX : Srt c X) (hY : Srt c Y) (hl : n ≤ 1000000) (ih : ∀ {A X Y C : List Play} {ia im ib : Int}, 0 < X.length → 0 < Y.length → X.length + Y.length < N → A.length + X.length + Y.length + C.length = n → ia = (A.length : Int) → im = (A.length : Int) + X.length → ib = (A.length : Int) + X.length + Y.length → Srt c X → Srt c Y → Con Tryz.prog 91 [.raw (.slice (some ⟨b, off, none⟩) n cap), .int .i64 ia, .int .i64 im, .int .i64 ib, .fn (.func fid) [] caps] [.arr (.slice (some ⟨b, off, none⟩) n cap) 9 ((A ++ X ++ Y ++ C).map ePlay)] (fun x M' => ∃ Z : List Play, x = .tup [] ∧ (Z.Perm (X ++ Y) ∧ Srt c Z) ∧ M' = [.arr (.slice (some ⟨b, off, none⟩) n cap) 9 ((A ++ Z ++ C).map ePlay)])) : Con Tryz.prog 91 [.raw (.slice (some ⟨b, off, none⟩) n cap), .int .i64 ia, .int .i64 im, .int .i64 ib, .fn (.func fid) [] caps] [.arr (.slice (some ⟨b, off, none⟩) n cap) 9 ((A ++ X ++ Y ++ C).map ePlay)] (fun x M' => ∃ Z : List Play, x = .tup [] ∧ (Z.Perm (X ++ Y) ∧ Srt c Z) ∧ M' = [.arr (.slice (some ⟨b, off, none⟩) n cap) 9 ((A ++ Z ++ C).map ePlay)]) := by
 refine Con.of_body Tryz.func91 rfl Tryz.ntmps91 rfl rfl ?_
 refine hw_seq ?_
 refine hw_reg ?_
 refine dp rfl (pop_move rfl) ?_
 refine dp rfl (pop_move rfl) ?_
 refine dp rfl (pop_sub64 rfl rfl (by omega) (by omega)) ?_
 refine dp rfl (pop_eql rfl rfl) ?_
 refine dn ?_
 refine hw_cond rfl (fun h1 => ?_) (fun h2 => ?_)
 ·try simp at h1
  obtain ⟨x, rfl⟩ : ∃ x, X = [x] := List.length_eq_one_iff.1 (by omega)
  simp only [List.length_cons, List.length_nil, Nat.zero_add] at *
  refine hw_reg ?_
  refine dp rfl (pop_move rfl) ?_
  refine dp rfl (pop_assign rfl) ?_
  refine dn ?_
  refine hw_reg ?_
  refine dp rfl (pop_move rfl) ?_
  refine dp rfl (pop_assign rfl) ?_
  refine dn ?_
  refine hw_seq ?_
  refine hw_block ?_
  refine hw_loopw2 [10, 11, 12, 31, 32, 33, 34, 35, 36, 37, 38, 39, 40, 41, 42, 43, 44, 45, 46, 47, 48, 49, 50, 51, 52, 53] (fun (p : Nat) (q : Nat) => [(10, .int .i64 ((A.length + 1 + p : Nat) : Int)), (11, .int .i64 ((A.length + 1 + q : Nat) : Int))]) (fun (p : Nat) (q : Nat) => [.arr (.slice (some ⟨b, off, none⟩) n cap) 9 ((A ++ [x] ++ Y ++ C).map ePlay)]) (fun (p : Nat) (q : Nat) => p ≤ q ∧ q ≤ Y.length ∧ (∀ y, Y[p - 1]? = some y → 0 < p → c y x < 0) ∧ (∀ y, Y[q]? = some y → ¬ c y x < 0)) (fun (p : Nat) (q : Nat) => q - p) (0) (Y.length) ?_ ?_ ?_ ?_
  ·exact ⟨Nat.zero_le _, Nat.le_refl _, fun y _ h => absurd h (Nat.lt_irrefl _), fun y h => by have := lt_of_get h; omega⟩
  ·exact ⟨some_int (by omega), some_int (by omega), trivial⟩
  ·exact List.Perm.refl _
  ·intro p q hinv
   obtain ⟨hpq, hqY, hP, hQ⟩ := hinv
   refine hw_seq ?_
   refine hw_reg ?_
   refine dp rfl (pop_move rfl) ?_
   refine dp rfl (pop_move rfl) ?_
   refine dp rfl (pop_lss rfl rfl) ?_
   refine dn ?_
   refine hw_cond rfl (fun h3 => ?_) (fun h4 => ?_)
   ·try simp at h3
    refine hw_skip ?_
    refine seqQ_n ?_
    refine hw_block ?_
    refine hw_reg ?_
    refine dp rfl (pop_move rfl) ?_
    refine dp rfl (pop_move rfl) ?_
    refine dp rfl (pop_add64 rfl rfl (by omega) (by omega)) ?_
    refine dp rfl (pop_conv ty3 ty111 rfl) ?_
    refine dp rfl (pop_shr rfl rfl (by omega)) ?_
    refine dp rfl (pop_eq (pop_conv ty111 ty3 rfl) (mid_eq (i := A.length + 1 + p) (j := A.length + 1 + q) (by omega))) ?_
    refine dp rfl (pop_assign rfl) ?_
    refine dn ?_
    obtain ⟨r, hr⟩ : ∃ r, (A.length + 1 + p + (A.length + 1 + q)) / 2 = A.length + 1 + r := ⟨(A.length + 1 + p + (A.length + 1 + q)) / 2 - (A.length + 1), by omega⟩
    obtain ⟨y, hy⟩ : ∃ y, Y[r]? = some y := ⟨_, List.getElem?_eq_getElem (by omega)⟩
    refine hw_draw (fun M => M = [.arr (.slice (some ⟨b, off, none⟩) n cap) 9 ((A ++ [x] ++ Y ++ C).map ePlay)]) [4, 8] mixed ?_
    refine ahp 0 rfl rfl (by kernel_rfl) (by kernel_rfl) (pop_move rfl) ?_
    refine ahp 1 rfl rfl (by kernel_rfl) (by kernel_rfl) (pop_move rfl) ?_
    refine ahp 2 rfl rfl (by kernel_rfl) (by kernel_rfl) (pop_move rfl) ?_
    refine ahp 3 rfl rfl (by kernel_rfl) (by kernel_rfl) (pop_idxraw (j := A.length + [x].length + r) ty26 ty30 rfl rfl (by first | omega | (simp; omega)) (by first | omega | (simp; omega))) ?_
    refine ahl 4 rfl rfl (by kernel_rfl) (by kernel_rfl) (by simp) rfl (fun M hM => by subst hM; exact eop_load_elw (i := 0) (j := A.length + [x].length + r) ty30 rfl rfl rfl (mid_get2 hy) rfl rfl rfl ⟨rfl, rfl⟩) ?_
    refine ahp 5 rfl rfl (by kernel_rfl) (by kernel_rfl) (pop_move rfl) ?_
    refine ahp 6 rfl rfl (by kernel_rfl) (by kernel_rfl) (pop_move rfl) ?_
    refine ahp 7 rfl rfl (by kernel_rfl) (by kernel_rfl) (pop_idxraw (j := A.length + 0) ty26 ty30 rfl rfl (by first | omega | (simp; omega)) (by omega)) ?_
    refine ahl 8 rfl rfl (by kernel_rfl) (by kernel_rfl) (by simp) rfl (fun M hM => by subst hM; exact eop_load_elw (i := 0) (j := A.length + 0) ty30 rfl rfl rfl (mid_get1 (X := [x]) rfl) rfl rfl rfl ⟨rfl, rfl⟩) ?_
    refine ahp 9 rfl rfl (by kernel_rfl) (by kernel_rfl) (pop_callv hca rfl rfl (WeakL.refl _) (hp _ _)) ?_
    refine ahp 10 rfl rfl (by kernel_rfl) (by kernel_rfl) (pop_lss rfl rfl) ?_
    refine ahz (by kernel_rfl) ?_
    refine hw_cond rfl (fun h5 => ?_) (fun h6 => ?_)
    ·try simp at h5
     refine hw_reg1 ?_
     refine dp rfl (pop_move rfl) ?_
     refine dp rfl (pop_add64 rfl rfl (by omega) (by omega)) ?_
     refine dp rfl (pop_assign rfl) ?_
     refine dn ?_
     refine blockQ_n ?_
     exact ⟨r + 1, q, ⟨by omega, hqY, fun z hz _ => by rw [Nat.add_sub_cancel, hy] at hz; rw [← Option.some.inj hz]; assumption, hQ⟩, by dsimp only; omega, ⟨some_int (by omega), rfl, trivial⟩, (by repeat (first | exact keeps_refl | refine keeps_upd rfl ?_ | refine keeps_loop rfl rfl ?_)), List.Perm.refl _⟩
    ·try simp at h6
     refine hw_reg1 ?_
     refine dp rfl (pop_move rfl) ?_
     refine dp rfl (pop_assign rfl) ?_
     refine dn ?_
     refine blockQ_n ?_
     exact ⟨p, r, ⟨by omega, by omega, hP, fun z hz => by rw [hy] at hz; rw [← Option.some.inj hz]; omega⟩, by dsimp only; omega, ⟨rfl, some_int (by omega), trivial⟩, (by repeat (first | exact keeps_refl | refine keeps_upd rfl ?_ | refine keeps_loop rfl rfl ?_)), List.Perm.refl _⟩
   ·try simp at h4
    obtain rfl : p = q := by omega
    refine hw_exit ?_
    refine seqQ_x ?_
    refine loopQ2_x ?_
    refine blockQ_eq ?_
    refine seqQ_n ?_
    refine hw_seq ?_
    refine hw_reg ?_
    refine dp rfl (pop_move rfl) ?_
    refine dp rfl (pop_assign rfl) ?_
    refine dn ?_
    refine hw_block ?_
    refine hw_loopw [13, 55, 56, 57, 58, 59, 60, 61, 62, 63, 64, 65, 66, 67, 68, 69, 70, 71, 72, 73, 74, 75, 76] (fun (t : Nat) => [(13, .int .i64 ((A.length + t : Nat) : Int))]) (fun (t : Nat) => [.arr (.slice (some ⟨b, off, none⟩) n cap) 9 ((wan A Y x C t).map ePlay)]) (fun (t : Nat) => t ≤ p) (fun (t : Nat) => p - t) (0) ?_ ?_ ?_ ?_
    ·exact Nat.zero_le _
    ·exact ⟨some_int (by omega), trivial⟩
    ·exact perm_eq (by rw [wan_zero])
    ·intro t ht
     refine hw_seq ?_
     refine hw_reg ?_
     refine dp rfl (pop_move rfl) ?_
     refine dp rfl (pop_move rfl) ?_
     refine dp rfl (pop_sub64 rfl rfl (by omega) (by omega)) ?_
     refine dp rfl (pop_lss rfl rfl) ?_
     refine dn ?_
     refine hw_cond rfl (fun h7 => ?_) (fun h8 => ?_)
     ·try simp at h7
      obtain ⟨y, hy⟩ : ∃ y, Y[t]? = some y := ⟨_, List.getElem?_eq_getElem (by omega)⟩
      refine hw_skip ?_
      refine seqQ_n ?_
      refine hw_seq ?_
      refine hw_block ?_
      refine hw_draw1 (fun M => M = [.arr (.slice (some ⟨b, off, none⟩) n cap) 9 ((wan A Y x C t).map ePlay)]) [9, 13] mixed ?_
      refine ahp 0 rfl rfl (by kernel_rfl) (by kernel_rfl) (pop_move rfl) ?_
      refine ahp 1 rfl rfl (by kernel_rfl) (by kernel_rfl) (pop_move rfl) ?_
      refine ahp 2 rfl rfl (by kernel_rfl) (by kernel_rfl) (pop_move rfl) ?_
      refine ahp 3 rfl rfl (by kernel_rfl) (by kernel_rfl) (pop_move rfl) ?_
      refine ahp 4 rfl rfl (by kernel_rfl) (by kernel_rfl) (pop_add64 rfl rfl (by omega) (by omega)) ?_
      refine ahp 5 rfl rfl (by kernel_rfl) (by kernel_rfl) (pop_move rfl) ?_
      refine ahp 6 rfl rfl (by kernel_rfl) (by kernel_rfl) (pop_move rfl) ?_
      refine ahp 7 rfl rfl (by kernel_rfl) (by kernel_rfl) (pop_add64 rfl rfl (by omega) (by omega)) ?_
      refine ahp 8 rfl rfl (by kernel_rfl) (by kernel_rfl) (pop_idxraw (j := A.length + t + 1) ty26 ty30 rfl rfl (by omega) (by omega)) ?_
      refine ahl 9 rfl rfl (by kernel_rfl) (by kernel_rfl) (by simp) rfl (fun M hM => by subst hM; exact eop_load_elw (i := 0) (j := A.length + t + 1) ty30 rfl rfl rfl (wan_get2 hy) rfl rfl rfl ⟨rfl, rfl⟩) ?_
      refine ahp 10 rfl rfl (by kernel_rfl) (by kernel_rfl) (pop_move rfl) ?_
      refine ahp 11 rfl rfl (by kernel_rfl) (by kernel_rfl) (pop_move rfl) ?_
      refine ahp 12 rfl rfl (by kernel_rfl) (by kernel_rfl) (pop_idxraw (j := A.length + t) ty26 ty30 rfl rfl (by omega) (by omega)) ?_
      refine ahl 13 rfl rfl (by kernel_rfl) (by kernel_rfl) (by simp) rfl (fun M hM => by subst hM; exact eop_load_elw (i := 0) (j := A.length + t) ty30 rfl rfl rfl (wan_get1 hy) rfl rfl rfl ⟨rfl, rfl⟩) ?_
      refine ahp 14 rfl rfl (by kernel_rfl) (by kernel_rfl) (pop_idxraw (j := A.length + t) ty26 ty30 rfl rfl (by omega) (by omega)) ?_
      refine ahe 15 rfl (by kernel_rfl) ?_
      refine hop_e0 (eop_store_elw (i := 0) (j := A.length + t) (y := x) (y' := y) ty30 rfl rfl rfl rfl (wan_get1 hy) rfl rfl rfl ?_)
      refine ⟨fun _ => .inr (by simp [Before, Region.binds]), ?_⟩
      refine ahp 16 rfl rfl (by kernel_rfl) (by kernel_rfl) (pop_idxraw (j := A.length + t + 1) ty26 ty30 rfl rfl (by omega) (by omega)) ?_
      refine ahe 17 rfl (by kernel_rfl) ?_
      refine hop_e0 (eop_store_elw (i := 0) (j := A.length + t + 1) (y := y) (y' := x) ty30 rfl rfl rfl rfl (wan_get2' hy) rfl rfl rfl ?_)
      refine ⟨fun _ => .inr (by simp [Before, Region.binds]), ?_⟩
      refine ahz (by kernel_rfl) ?_
      refine blockQ_n ?_
      refine seqQ_n ?_
      refine hw_reg1 ?_
      refine dp rfl (pop_move rfl) ?_
      refine dp rfl (pop_add64 rfl rfl (by omega) (by omega)) ?_
      refine dp rfl (pop_assign rfl) ?_
      refine dn ?_
      exact ⟨t + 1, by omega, by dsimp only; omega, ⟨some_int (by omega), trivial⟩, (by repeat (first | exact keeps_refl | refine keeps_upd rfl ?_ | refine keeps_loop rfl rfl ?_)), perm_eq (by rw [wan_set hy]; rfl)⟩
     ·try simp at h8
      obtain rfl : t = p := by omega
      refine hw_exit ?_
      refine seqQ_x ?_
      refine loopQ_x ?_
      refine blockQ_eq ?_
      refine seqQ_n ?_
      refine hw_ret ?_
      first
      | exact ret_q rfl ⟨_, rfl, one_left hc hY hqY (fun y hy => by have h1 := hQ y hy; have := hc.flip y x trivial trivial; have := hc.flip x y trivial trivial; omega) (fun y hy h0 => by have := hP y hy h0; omega), by simp [wan]⟩
      | exact ret_q rfl ⟨_, rfl, one_right hc hX hqX (fun x hx h0 => by have h1 := hP x hx h0; have := hc.flip y x trivial trivial; have := hc.flip x y trivial trivial; omega) (fun x hx => by have := hQ x hx; omega), by simp [wan]⟩
      | exact ret_q rfl ⟨Z1 ++ Z2, rfl, sym_join hc hX hY (by omega) (by omega) hk1 hk2 hz1 hz3 hz2 hz4, by simp⟩
      | exact ret_q rfl ⟨Z1 ++ (X.drop (p - A.length) ++ Y.drop (d - p)), rfl, sym_join hc hX hY (by omega) (by omega) hk1 hk2 hz1 (List.Perm.refl _) hz2 (sym_right hX hY (by rcases Nat.lt_or_ge p (A.length + X.length) with q | q; (have := h8 (by omega); omega); omega)), by simp⟩
 ·try simp at h2
  refine hw_skip ?_
  refine seqQ_n ?_
  refine hw_seq ?_
  refine hw_reg ?_
  refine dp rfl (pop_move rfl) ?_
  refine dp rfl (pop_move rfl) ?_
  refine dp rfl (pop_sub64 rfl rfl (by omega) (by omega)) ?_
  refine dp rfl (pop_eql rfl rfl) ?_
  refine dn ?_
  refine hw_cond rfl (fun h9 => ?_) (fun h10 => ?_)
  ·try simp at h9
   obtain ⟨y, rfl⟩ : ∃ y, Y = [y] := List.length_eq_one_iff.1 (by omega)
   simp only [List.length_cons, List.length_nil, Nat.zero_add] at *
   refine hw_reg ?_
   refine dp rfl (pop_move rfl) ?_
   refine dp rfl (pop_assign rfl) ?_
   refine dn ?_
   refine hw_reg ?_
   refine dp rfl (pop_move rfl) ?_
   refine dp rfl (pop_assign rfl) ?_
   refine dn ?_
   refine hw_seq ?_
   refine hw_block ?_
   refine hw_loopw2 [14, 15, 16, 83, 84, 85, 86, 87, 88, 89, 90, 91, 92, 93, 94, 95, 96, 97, 98, 99, 100, 101, 102, 103, 104, 105, 106] (fun (p : Nat) (q : Nat) => [(14, .int .i64 ((A.length + p : Nat) : Int)), (15, .int .i64 ((A.length + q : Nat) : Int))]) (fun (p : Nat) (q : Nat) => [.arr (.slice (some ⟨b, off, none⟩) n cap) 9 ((A ++ X ++ [y] ++ C).map ePlay)]) (fun (p : Nat) (q : Nat) => p ≤ q ∧ q ≤ X.length ∧ (∀ x, X[p - 1]? = some x → 0 < p → ¬ c y x < 0) ∧ (∀ x, X[q]? = some x → c y x < 0)) (fun (p : Nat) (q : Nat) => q - p) (0) (X.length) ?_ ?_ ?_ ?_
   ·exact ⟨Nat.zero_le _, Nat.le_refl _, fun x _ h => absurd h (Nat.lt_irrefl _), fun x h => by have := lt_of_get h; omega⟩
   ·exact ⟨some_int (by omega), some_int (by omega), trivial⟩
   ·exact List.Perm.refl _
   ·intro p q hinv
    obtain ⟨hpq, hqX, hP, hQ⟩ := hinv
    refine hw_seq ?_
    refine hw_reg ?_
    refine dp rfl (pop_move rfl) ?_
    refine dp rfl (pop_move rfl) ?_
    refine dp rfl (pop_lss rfl rfl) ?_
    refine dn ?_
    refine hw_cond rfl (fun h11 => ?_) (fun h12 => ?_)
    ·try simp at h11
     refine hw_skip ?_
     refine seqQ_n ?_
     refine hw_block ?_
     refine hw_reg ?_
     refine dp rfl (pop_move rfl) ?_
     refine dp rfl (pop_move rfl) ?_
     refine dp rfl (pop_add64 rfl rfl (by omega) (by omega)) ?_
     refine dp rfl (pop_conv ty3 ty111 rfl) ?_
     refine dp rfl (pop_shr rfl rfl (by omega)) ?_
     refine dp rfl (pop_eq (pop_conv ty111 ty3 rfl) (mid_eq (i := A.length + p) (j := A.length + q) (by omega))) ?_
     refine dp rfl (pop_assign rfl) ?_
     refine dn ?_
     obtain ⟨r, hr⟩ : ∃ r, (A.length + p + (A.length + q)) / 2 = A.length + r := ⟨(A.length + p + (A.length + q)) / 2 - A.length, by omega⟩
     obtain ⟨x, hx⟩ : ∃ x, X[r]? = some x := ⟨_, List.getElem?_eq_getElem (by omega)⟩
     refine hw_draw (fun M => M = [.arr (.slice (some ⟨b, off, none⟩) n cap) 9 ((A ++ X ++ [y] ++ C).map ePlay)]) [4, 8] mixed ?_
     refine ahp 0 rfl rfl (by kernel_rfl) (by kernel_rfl) (pop_move rfl) ?_
     refine ahp 1 rfl rfl (by kernel_rfl) (by kernel_rfl) (pop_move rfl) ?_
     refine ahp 2 rfl rfl (by kernel_rfl) (by kernel_rfl) (pop_move rfl) ?_
     refine ahp 3 rfl rfl (by kernel_rfl) (by kernel_rfl) (pop_idxraw (j := A.length + X.length + 0) ty26 ty30 rfl rfl (by first | omega | (simp; omega)) (by simp at hn ⊢; omega)) ?_
     refine ahl 4 rfl rfl (by kernel_rfl) (by kernel_rfl) (by simp) rfl (fun M hM => by subst hM; exact eop_load_elw (i := 0) (j := A.length + X.length + 0) ty30 rfl rfl rfl (mid_get2 (Y := [y]) rfl) rfl rfl rfl ⟨rfl, rfl⟩) ?_
     refine ahp 5 rfl rfl (by kernel_rfl) (by kernel_rfl) (pop_move rfl) ?_
     refine ahp 6 rfl rfl (by kernel_rfl) (by kernel_rfl) (pop_move rfl) ?_
     refine ahp 7 rfl rfl (by kernel_rfl) (by kernel_rfl) (pop_idxraw (j := A.length + r) ty26 ty30 rfl rfl (by omega) (by omega)) ?_
     refine ahl 8 rfl rfl (by kernel_rfl) (by kernel_rfl) (by simp) rfl (fun M hM => by subst hM; exact eop_load_elw (i := 0) (j := A.length + r) ty30 rfl rfl rfl (mid_get1 hx) rfl rfl rfl ⟨rfl, rfl⟩) ?_
     refine ahp 9 rfl rfl (by kernel_rfl) (by kernel_rfl) (pop_callv hca rfl rfl (WeakL.refl _) (hp _ _)) ?_
     refine ahp 10 rfl rfl (by kernel_rfl) (by kernel_rfl) (pop_lss rfl rfl) ?_
     refine ahp 11 rfl rfl (by kernel_rfl) (by kernel_rfl) (pop_not rfl) ?_
     refine ahz (by kernel_rfl) ?_
     refine hw_cond rfl (fun h13 => ?_) (fun h14 => ?_)
     ·try simp at h13
      refine hw_reg1 ?_
      refine dp rfl (pop_move rfl) ?_
      refine dp rfl (pop_add64 rfl rfl (by omega) (by omega)) ?_
      refine dp rfl (pop_assign rfl) ?_
      refine dn ?_
      refine blockQ_n ?_
      exact ⟨r + 1, q, ⟨by omega, hqX, fun z hz _ => by rw [Nat.add_sub_cancel, hx] at hz; rw [← Option.some.inj hz]; omega, hQ⟩, by dsimp only; omega, ⟨some_int (by omega), rfl, trivial⟩, (by repeat (first | exact keeps_refl | refine keeps_upd rfl ?_ | refine keeps_loop rfl rfl ?_)), List.Perm.refl _⟩
     ·try simp at h14
      refine hw_reg1 ?_
      refine dp rfl (pop_move rfl) ?_
      refine dp rfl (pop_assign rfl) ?_
      refine dn ?_
      refine blockQ_n ?_
      exact ⟨p, r, ⟨by omega, by omega, hP, fun z hz => by rw [hx] at hz; rw [← Option.some.inj hz]; omega⟩, by dsimp only; omega, ⟨rfl, some_int (by omega), trivial⟩, (by repeat (first | exact keeps_refl | refine keeps_upd rfl ?_ | refine keeps_loop rfl rfl ?_)), List.Perm.refl _⟩
    ·try simp at h12
     obtain rfl : p = q := by omega
     refine hw_exit ?_
     refine seqQ_x ?_
     refine loopQ2_x ?_
     refine blockQ_eq ?_
     refine seqQ_n ?_
     refine hw_seq ?_
     refine hw_reg ?_
     refine dp rfl (pop_move rfl) ?_
     refine dp rfl (pop_assign rfl) ?_
     refine dn ?_
     refine hw_block ?_
     refine hw_loopw [17, 108, 109, 110, 111, 112, 113, 114, 115, 116, 117, 118, 119, 120, 121, 122, 123, 124, 125, 126, 127, 128] (fun (t : Nat) => [(17, .int .i64 ((A.length + t : Nat) : Int))]) (fun (t : Nat) => [.arr (.slice (some ⟨b, off, none⟩) n cap) 9 ((wan A X y C t).map ePlay)]) (fun (t : Nat) => p ≤ t ∧ t ≤ X.length) (fun (t : Nat) => t) (X.length) ?_ ?_ ?_ ?_
     ·exact ⟨by omega, Nat.le_refl _⟩
     ·exact ⟨some_int (by omega), trivial⟩
     ·exact perm_eq (by rw [wan_end])
     ·intro t hinv
      obtain ⟨ht, htX⟩ := hinv
      refine hw_seq ?_
      refine hw_reg ?_
      refine dp rfl (pop_move rfl) ?_
      refine dp rfl (pop_move rfl) ?_
      refine dp rfl (pop_gtr rfl rfl) ?_
      refine dn ?_
      refine hw_cond rfl (fun h15 => ?_) (fun h16 => ?_)
      ·try simp at h15
       obtain ⟨s, rfl⟩ : ∃ s, t = s + 1 := ⟨t - 1, by omega⟩
       obtain ⟨x, hx⟩ : ∃ x, X[s]? = some x := ⟨_, List.getElem?_eq_getElem (by omega)⟩
       refine hw_skip ?_
       refine seqQ_n ?_
       refine hw_seq ?_
       refine hw_block ?_
       refine hw_draw1 (fun M => M = [.arr (.slice (some ⟨b, off, none⟩) n cap) 9 ((wan A X y C (s + 1)).map ePlay)]) [9, 13] mixed ?_
       refine ahp 0 rfl rfl (by kernel_rfl) (by kernel_rfl) (pop_move rfl) ?_
       refine ahp 1 rfl rfl (by kernel_rfl) (by kernel_rfl) (pop_move rfl) ?_
       refine ahp 2 rfl rfl (by kernel_rfl) (by kernel_rfl) (pop_move rfl) ?_
       refine ahp 3 rfl rfl (by kernel_rfl) (by kernel_rfl) (pop_move rfl) ?_
       refine ahp 4 rfl rfl (by kernel_rfl) (by kernel_rfl) (pop_sub64 rfl rfl (by omega) (by omega)) ?_
       refine ahp 5 rfl rfl (by kernel_rfl) (by kernel_rfl) (pop_move rfl) ?_
       refine ahp 6 rfl rfl (by kernel_rfl) (by kernel_rfl) (pop_move rfl) ?_
       refine ahp 7 rfl rfl (by kernel_rfl) (by kernel_rfl) (pop_sub64 rfl rfl (by omega) (by omega)) ?_
       refine ahp 8 rfl rfl (by kernel_rfl) (by kernel_rfl) (pop_idxraw (j := A.length + s) ty26 ty30 rfl rfl (by omega) (by omega)) ?_
       refine ahl 9 rfl rfl (by kernel_rfl) (by kernel_rfl) (by simp) rfl (fun M hM => by subst hM; exact eop_load_elw (i := 0) (j := A.length + s) ty30 rfl rfl rfl (wan_at hx).2 rfl rfl rfl ⟨rfl, rfl⟩) ?_
       refine ahp 10 rfl rfl (by kernel_rfl) (by kernel_rfl) (pop_move rfl) ?_
       refine ahp 11 rfl rfl (by kernel_rfl) (by kernel_rfl) (pop_move rfl) ?_
       refine ahp 12 rfl rfl (by kernel_rfl) (by kernel_rfl) (pop_idxraw (j := A.length + s + 1) ty26 ty30 rfl rfl (by omega) (by omega)) ?_
       refine ahl 13 rfl rfl (by kernel_rfl) (by kernel_rfl) (by simp) rfl (fun M hM => by subst hM; exact eop_load_elw (i := 0) (j := A.length + s + 1) ty30 rfl rfl rfl (wan_at hx).1 rfl rfl rfl ⟨rfl, rfl⟩) ?_
       refine ahp 14 rfl rfl (by kernel_rfl) (by kernel_rfl) (pop_idxraw (j := A.length + s + 1) ty26 ty30 rfl rfl (by omega) (by omega)) ?_
       refine ahe 15 rfl (by kernel_rfl) ?_
       refine hop_e0 (eop_store_elw (i := 0) (j := A.length + s + 1) (y := y) (y' := x) ty30 rfl rfl rfl rfl (wan_at hx).1 rfl rfl rfl ?_)
       refine ⟨fun _ => .inr (by simp [Before, Region.binds]), ?_⟩
       refine ahp 16 rfl rfl (by kernel_rfl) (by kernel_rfl) (pop_idxraw (j := A.length + s) ty26 ty30 rfl rfl (by omega) (by omega)) ?_
       refine ahe 17 rfl (by kernel_rfl) ?_
       refine hop_e0 (eop_store_elw (i := 0) (j := A.length + s) (y := x) (y' := y) ty30 rfl rfl rfl rfl (wan_at' hx) rfl rfl rfl ?_)
       refine ⟨fun _ => .inr (by simp [Before, Region.binds]), ?_⟩
       refine ahz (by kernel_rfl) ?_
       refine blockQ_n ?_
       refine seqQ_n ?_
       refine hw_reg1 ?_
       refine dp rfl (pop_move rfl) ?_
       refine dp rfl (pop_sub64 rfl rfl (by omega) (by omega)) ?_
       refine dp rfl (pop_assign rfl) ?_
       refine dn ?_
       exact ⟨s, ⟨by omega, by omega⟩, by dsimp only; omega, ⟨some_int (by omega), trivial⟩, (by repeat (first | exact keeps_refl | refine keeps_upd rfl ?_ | refine keeps_loop rfl rfl ?_)), perm_eq (by rw [wan_back hx]; rfl)⟩
      ·try simp at h16
       obtain rfl : t = p := by omega
       refine hw_exit ?_
       refine seqQ_x ?_
       refine loopQ_x ?_
       refine blockQ_eq ?_
       refine seqQ_n ?_
       refine hw_ret ?_
       first
       | exact ret_q rfl ⟨_, rfl, one_left hc hY hqY (fun y hy => by have h1 := hQ y hy; have := hc.flip y x trivial trivial; have := hc.flip x y trivial trivial; omega) (fun y hy h0 => by have := hP y hy h0; omega), by simp [wan]⟩
       | exact ret_q rfl ⟨_, rfl, one_right hc hX hqX (fun x hx h0 => by have h1 := hP x hx h0; have := hc.flip y x trivial trivial; have := hc.flip x y trivial trivial; omega) (fun x hx => by have := hQ x hx; omega), by simp [wan]⟩
       | exact ret_q rfl ⟨Z1 ++ Z2, rfl, sym_join hc hX hY (by omega) (by omega) hk1 hk2 hz1 hz3 hz2 hz4, by simp⟩
       | exact ret_q rfl ⟨Z1 ++ (X.drop (p - A.length) ++ Y.drop (d - p)), rfl, sym_join hc hX hY (by omega) (by omega) hk1 hk2 hz1 (List.Perm.refl _) hz2 (sym_right hX hY (by rcases Nat.lt_or_ge p (A.length + X.length) with q | q; (have := h16 (by omega); omega); omega)), by simp⟩
  ·try simp at h10
   refine hw_skip ?_
   refine seqQ_n ?_
   refine hw_reg ?_
   refine dp rfl (pop_move rfl) ?_
   refine dp rfl (pop_move rfl) ?_
   refine dp rfl (pop_add64 rfl rfl (by omega) (by omega)) ?_
   refine dp rfl (pop_conv ty3 ty111 rfl) ?_
   refine dp rfl (pop_shr rfl rfl (by omega)) ?_
   refine dp rfl (pop_eq (h' := .int .i64 (((A.length + (A.length + X.length + Y.length)) / 2 : Nat) : Int)) (pop_conv ty111 ty3 rfl) (by have e9 : ia + ib = ((A.length : Nat) : Int) + ((A.length + X.length + Y.length : Nat) : Int) := (by omega); rw [e9]; exact mid_eq (by omega))) ?_
   refine dp rfl (pop_assign rfl) ?_
   refine dn ?_
   obtain ⟨d, hd⟩ : ∃ d : Nat, (A.length + (A.length + X.length + Y.length)) / 2 = d := ⟨_, rfl⟩
   rw [hd]
   refine hw_reg ?_
   refine dp rfl (pop_move rfl) ?_
   refine dp rfl (pop_move rfl) ?_
   refine dp rfl (pop_add64 rfl rfl (by omega) (by omega)) ?_
   refine dp rfl (pop_assign rfl) ?_
   refine dn ?_
   refine hw_reg ?_
   refine dp rfl (pop_assign rfl) ?_
   refine dp rfl (pop_assign rfl) ?_
   refine dn ?_
   refine hw_join [20, 21, 138, 139, 140, 141, 142, 143, 144, 145, 146] (fun (s : Nat × Nat) => [(20, .int .i64 (s.1 : Int)), (21, .int .i64 (s.2 : Int))]) (fun (s : Nat × Nat) => [.arr (.slice (some ⟨b, off, none⟩) n cap) 9 ((A ++ X ++ Y ++ C).map ePlay)]) (fun (s : Nat × Nat) => (A.length ≤ s.1 ∧ s.1 ≤ s.2 ∧ s.2 ≤ A.length + X.length ∧ s.2 ≤ d ∧ d ≤ s.1 + Y.length) ∧ (s.1 = A.length ∨ d = s.1 + Y.length) ∧ (s.2 = A.length + X.length ∨ s.2 = d)) ?_ ?_
   ·skip
    refine hw_reg ?_
    refine dp rfl (pop_move rfl) ?_
    refine dp rfl (pop_move rfl) ?_
    refine dp rfl (pop_gtr rfl rfl) ?_
    refine dn ?_
    refine hw_cond rfl (fun h17 => ?_) (fun h18 => ?_)
    ·try simp at h17
     refine hw_reg ?_
     refine dp rfl (pop_move rfl) ?_
     refine dp rfl (pop_move rfl) ?_
     refine dp rfl (pop_sub64 rfl rfl (by omega) (by omega)) ?_
     refine dp rfl (pop_assign rfl) ?_
     refine dn ?_
     refine hw_reg1 ?_
     refine dp rfl (pop_move rfl) ?_
     refine dp rfl (pop_assign rfl) ?_
     refine dn ?_
     exact ⟨(d - Y.length, d), ⟨⟨by dsimp only; omega, by dsimp only; omega, by dsimp only; omega, by dsimp only; omega, by dsimp only; omega⟩, by dsimp only; omega, by dsimp only; omega⟩, ⟨some_int (by omega), rfl, trivial⟩, (by repeat (first | exact keeps_refl | refine keeps_upd rfl ?_ | refine keeps_loop rfl rfl ?_)), List.Perm.refl _⟩
    ·try simp at h18
     refine hw_reg ?_
     refine dp rfl (pop_move rfl) ?_
     refine dp rfl (pop_assign rfl) ?_
     refine dn ?_
     refine hw_reg1 ?_
     refine dp rfl (pop_move rfl) ?_
     refine dp rfl (pop_assign rfl) ?_
     refine dn ?_
     exact ⟨(A.length, A.length + X.length), ⟨⟨by dsimp only; omega, by dsimp only; omega, by dsimp only; omega, by dsimp only; omega, by dsimp only; omega⟩, by dsimp only; omega, by dsimp only; omega⟩, ⟨some_int (by omega), some_int (by omega), trivial⟩, (by repeat (first | exact keeps_refl | refine keeps_upd rfl ?_ | refine keeps_loop rfl rfl ?_)), List.Perm.refl _⟩
   ·intro s hs
    obtain ⟨s1, s2⟩ := s
    dsimp only at hs ⊢
    obtain ⟨⟨hs3, hs4, hs5, hs6, hs7⟩, hs1, hs2⟩ := hs
    refine hw_reg ?_
    refine dp rfl (pop_move rfl) ?_
    refine dp rfl (pop_sub64 rfl rfl (by omega) (by omega)) ?_
    refine dp rfl (pop_assign rfl) ?_
    refine dn ?_
    refine hw_seq ?_
    refine hw_block ?_
    refine hw_loopw2 [20, 21, 23, 149, 150, 151, 152, 153, 154, 155, 156, 157, 158, 159, 160, 161, 162, 163, 164, 165, 166, 167, 168, 169, 170, 171, 172, 173, 174] (fun (p : Nat) (q : Nat) => [(20, .int .i64 (p : Int)), (21, .int .i64 (q : Int))]) (fun (p : Nat) (q : Nat) => [.arr (.slice (some ⟨b, off, none⟩) n cap) 9 ((A ++ X ++ Y ++ C).map ePlay)]) (fun (p : Nat) (q : Nat) => s1 ≤ p ∧ p ≤ q ∧ q ≤ s2 ∧ (∀ x y, X[p - 1 - A.length]? = some x → Y[d - p]? = some y → s1 < p → ¬ c y x < 0) ∧ (∀ x y, X[q - A.length]? = some x → Y[d - 1 - q]? = some y → q < s2 → c y x < 0)) (fun (p : Nat) (q : Nat) => q - p) (s1) (s2) ?_ ?_ ?_ ?_
    ·exact ⟨Nat.le_refl _, by omega, Nat.le_refl _, fun x y _ _ h => absurd h (Nat.lt_irrefl _), fun x y _ _ h => absurd h (Nat.lt_irrefl _)⟩
    ·exact ⟨rfl, rfl, trivial⟩
    ·exact List.Perm.refl _
    ·intro p q hinv
     obtain ⟨hsp, hpq, hqs, hP, hQ⟩ := hinv
     refine hw_seq ?_
     refine hw_reg ?_
     refine dp rfl (pop_move rfl) ?_
     refine dp rfl (pop_move rfl) ?_
     refine dp rfl (pop_lss rfl rfl) ?_
     refine dn ?_
     refine hw_cond rfl (fun h19 => ?_) (fun h20 => ?_)
     ·try simp at h19
      refine hw_skip ?_
      refine seqQ_n ?_
      refine hw_block ?_
      refine hw_reg ?_
      refine dp rfl (pop_move rfl) ?_
      refine dp rfl (pop_move rfl) ?_
      refine dp rfl (pop_add64 rfl rfl (by omega) (by omega)) ?_
      refine dp rfl (pop_conv ty3 ty111 rfl) ?_
      refine dp rfl (pop_shr rfl rfl (by omega)) ?_
      refine dp rfl (pop_eq (pop_conv ty111 ty3 rfl) (mid_eq (i := p) (j := q) (by omega))) ?_
      refine dp rfl (pop_assign rfl) ?_
      refine dn ?_
      obtain ⟨g, hg⟩ : ∃ g, (p + q) / 2 = g := ⟨_, rfl⟩
      obtain ⟨u, hu⟩ : ∃ u, g = A.length + u := ⟨g - A.length, by omega⟩
      obtain ⟨r, hr⟩ : ∃ r, d = r + 1 + g := ⟨d - 1 - g, by omega⟩
      obtain ⟨x, hx⟩ : ∃ x, X[u]? = some x := ⟨_, List.getElem?_eq_getElem (by omega)⟩
      obtain ⟨y, hy⟩ : ∃ y, Y[r]? = some y := ⟨_, List.getElem?_eq_getElem (by omega)⟩
      refine hw_draw (fun M => M = [.arr (.slice (some ⟨b, off, none⟩) n cap) 9 ((A ++ X ++ Y ++ C).map ePlay)]) [6, 10] mixed ?_
      refine ahp 0 rfl rfl (by kernel_rfl) (by kernel_rfl) (pop_move rfl) ?_
      refine ahp 1 rfl rfl (by kernel_rfl) (by kernel_rfl) (pop_move rfl) ?_
      refine ahp 2 rfl rfl (by kernel_rfl) (by kernel_rfl) (pop_move rfl) ?_
      refine ahp 3 rfl rfl (by kernel_rfl) (by kernel_rfl) (pop_move rfl) ?_
      refine ahp 4 rfl rfl (by kernel_rfl) (by kernel_rfl) (pop_sub64 rfl rfl (by omega) (by omega)) ?_
      refine ahp 5 rfl rfl (by kernel_rfl) (by kernel_rfl) (pop_idxraw (j := A.length + X.length + r) ty26 ty30 rfl rfl (by omega) (by omega)) ?_
      refine ahl 6 rfl rfl (by kernel_rfl) (by kernel_rfl) (by simp) rfl (fun M hM => by subst hM; exact eop_load_elw (i := 0) (j := A.length + X.length + r) ty30 rfl rfl rfl (mid_get2 hy) rfl rfl rfl ⟨rfl, rfl⟩) ?_
      refine ahp 7 rfl rfl (by kernel_rfl) (by kernel_rfl) (pop_move rfl) ?_
      refine ahp 8 rfl rfl (by kernel_rfl) (by kernel_rfl) (pop_move rfl) ?_
      refine ahp 9 rfl rfl (by kernel_rfl) (by kernel_rfl) (pop_idxraw (j := A.length + u) ty26 ty30 rfl rfl (by omega) (by omega)) ?_
      refine ahl 10 rfl rfl (by kernel_rfl) (by kernel_rfl) (by simp) rfl (fun M hM => by subst hM; exact eop_load_elw (i := 0) (j := A.length + u) ty30 rfl rfl rfl (mid_get1 hx) rfl rfl rfl ⟨rfl, rfl⟩) ?_
      refine ahp 11 rfl rfl (by kernel_rfl) (by kernel_rfl) (pop_callv hca rfl rfl (WeakL.refl _) (hp _ _)) ?_
      refine ahp 12 rfl rfl (by kernel_rfl) (by kernel_rfl) (pop_lss rfl rfl) ?_
      refine ahp 13 rfl rfl (by kernel_rfl) (by kernel_rfl) (pop_not rfl) ?_
      refine ahz (by kernel_rfl) ?_
      refine hw_cond rfl (fun h21 => ?_) (fun h22 => ?_)
      ·try simp at h21
       refine hw_reg1 ?_
       refine dp rfl (pop_move rfl) ?_
       refine dp rfl (pop_add64 rfl rfl (by omega) (by omega)) ?_
       refine dp rfl (pop_assign rfl) ?_
       refine dn ?_
       refine blockQ_n ?_
       exact ⟨g + 1, q, ⟨by omega, by omega, hqs, fun x2 y2 h1 h2 _ => by
        rw [show g + 1 - 1 - A.length = u by omega, hx] at h1
        rw [show d - (g + 1) = r by omega, hy] at h2
        rw [← Option.some.inj h1, ← Option.some.inj h2]; omega, hQ⟩, by dsimp only; omega, ⟨some_int (by omega), rfl, trivial⟩, (by repeat (first | exact keeps_refl | refine keeps_upd rfl ?_ | refine keeps_loop rfl rfl ?_)), List.Perm.refl _⟩
      ·try simp at h22
       refine hw_reg1 ?_
       refine dp rfl (pop_move rfl) ?_
       refine dp rfl (pop_assign rfl) ?_
       refine dn ?_
       refine blockQ_n ?_
       exact ⟨p, g, ⟨hsp, by omega, by omega, hP, fun x2 y2 h1 h2 _ => by
        rw [show g - A.length = u by omega, hx] at h1
        rw [show d - 1 - g = r by omega, hy] at h2
        rw [← Option.some.inj h1, ← Option.some.inj h2]; omega⟩, by dsimp only; omega, ⟨rfl, some_int (by omega), trivial⟩, (by repeat (first | exact keeps_refl | refine keeps_upd rfl ?_ | refine keeps_loop rfl rfl ?_)), List.Perm.refl _⟩
     ·try simp at h20
      obtain rfl : p = q := by omega
      have hpA : A.length ≤ p := by omega
      refine hw_exit ?_
      refine seqQ_x ?_
      refine loopQ2_x ?_
      refine blockQ_eq ?_
      refine seqQ_n ?_
      obtain ⟨hk1, hk2⟩ := sym_cond hc hP hQ hs1 hs2 hsp hqs hpA
      refine hw_reg ?_
      refine dp rfl (pop_move rfl) ?_
      refine dp rfl (pop_move rfl) ?_
      refine dp rfl (pop_sub64 rfl rfl (by omega) (by omega)) ?_
      refine dp rfl (pop_assign rfl) ?_
      refine dn ?_
      refine hw_join [178, 179, 180, 181, 182, 183, 184, 185, 186, 187, 188, 189, 190, 191] (fun (z : Unit) => []) (fun (z : Unit) => [.arr (.slice (some ⟨b, off, none⟩) n cap) 9 (((A ++ X.take (p - A.length)) ++ Y.take (d - p) ++ X.drop (p - A.length) ++ (Y.drop (d - p) ++ C)).map ePlay)]) (fun (z : Unit) => True) ?_ ?_
      ·skip
       refine hw_reg ?_
       refine dp rfl (pop_move rfl) ?_
       refine dp rfl (pop_move rfl) ?_
       refine dp rfl (pop_lss rfl rfl) ?_
       refine dp rfl (pop_move rfl) ?_
       refine dg rfl rfl (fun hc => ⟨_, OpenTo.refl _, pop_move rfl⟩) ?_
       refine dg rfl rfl (fun hc => ⟨_, OpenTo.refl _, pop_move rfl⟩) ?_
       refine dg rfl rfl (fun hc => ⟨_, OpenTo.upd (t := 183) rfl (by first | exact hc | simp_all) (OpenTo.upd (t := 182) rfl (by first | exact hc | simp_all) (OpenTo.refl _)), pop_lss rfl rfl⟩) ?_
       refine dp rfl (pop_picko rfl (.inr ⟨_, rfl, fun h => by simp_all⟩) (.inl rfl)) ?_
       refine dn ?_
       refine hw_cond rfl (fun h23 => ?_) (fun h24 => ?_)
       ·try simp at h23
        refine hw_ghost (Ghost.of_eq (M' := [.arr (.slice (some ⟨b, off, none⟩) n cap) 9 (((A ++ X.take (p - A.length)) ++ X.drop (p - A.length) ++ Y.take (d - p) ++ (Y.drop (d - p) ++ C)).map ePlay)]) (by rw [sym_pre (k := p - A.length) (j := d - p)])) ?_
        refine hw_reg1 ?_
        refine dp rfl (pop_move rfl) ?_
        refine dp rfl (pop_move rfl) ?_
        refine dp rfl (pop_move rfl) ?_
        refine dp rfl (pop_move rfl) ?_
        refine dp rfl (pop_move rfl) ?_
        refine de rfl (eop_callx (i := 0) ca125 rfl (WeakL.refl _) rfl (c_rotate_api_Play (P := A ++ X.take (p - A.length)) (U := X.drop (p - A.length)) (W := Y.take (d - p)) (Q := Y.drop (d - p) ++ C) (n := n) (by first | omega | (simp; omega)) (by first | omega | (simp; omega)) (by first | omega | (simp; omega)) (by first | omega | (simp; omega)) (by first | omega | (simp; omega)) (by first | omega | (simp; omega)) hl) ?_)
        rintro _ _ ⟨rfl, rfl⟩
        refine dn ?_
        exact ⟨(), trivial, trivial, (by repeat (first | exact keeps_refl | refine keeps_upd rfl ?_ | refine keeps_loop rfl rfl ?_)), List.Perm.refl _⟩
       ·try simp at h24
        refine hw_skip ?_
        exact ⟨(), trivial, trivial, (by repeat (first | exact keeps_refl | refine keeps_upd rfl ?_ | refine keeps_loop rfl rfl ?_)), perm_eq (by rw [sym_noswap (k := p - A.length) (j := d - p) (by rcases Nat.lt_or_ge p (A.length + X.length) with q | q; (have := h24 (by omega); omega); omega)])⟩
      ·intro z _
       refine hw_join [192, 193, 194, 195, 196, 197, 198, 199, 200, 201, 202, 203, 204, 205] (fun (Z1 : List Play) => []) (fun (Z1 : List Play) => [.arr (.slice (some ⟨b, off, none⟩) n cap) 9 ((A ++ Z1 ++ (X.drop (p - A.length) ++ (Y.drop (d - p) ++ C))).map ePlay)]) (fun (Z1 : List Play) => Z1.Perm (X.take (p - A.length) ++ Y.take (d - p)) ∧ Srt c Z1) ?_ ?_
       ·skip
        refine hw_reg ?_
        refine dp rfl (pop_move rfl) ?_
        refine dp rfl (pop_move rfl) ?_
        refine dp rfl (pop_lss rfl rfl) ?_
        refine dp rfl (pop_move rfl) ?_
        refine dg rfl rfl (fun hc => ⟨_, OpenTo.refl _, pop_move rfl⟩) ?_
        refine dg rfl rfl (fun hc => ⟨_, OpenTo.refl _, pop_move rfl⟩) ?_
        refine dg rfl rfl (fun hc => ⟨_, OpenTo.upd (t := 197) rfl (by first | exact hc | simp_all) (OpenTo.upd (t := 196) rfl (by first | exact hc | simp_all) (OpenTo.refl _)), pop_lss rfl rfl⟩) ?_
        refine dp rfl (pop_picko rfl (.inr ⟨_, rfl, fun h => by simp_all⟩) (.inl rfl)) ?_
        refine dn ?_
        refine hw_cond rfl (fun h25 => ?_) (fun h26 => ?_)
        ·try simp at h25
         refine hw_ghost (Ghost.of_eq (M' := [.arr (.slice (some ⟨b, off, none⟩) n cap) 9 ((A ++ X.take (p - A.length) ++ Y.take (d - p) ++ (X.drop (p - A.length) ++ (Y.drop (d - p) ++ C))).map ePlay)]) (by simp)) ?_
         refine hw_reg1 ?_
         refine dp rfl (pop_move rfl) ?_
         refine dp rfl (pop_move rfl) ?_
         refine dp rfl (pop_move rfl) ?_
         refine dp rfl (pop_move rfl) ?_
         refine dp rfl (pop_move rfl) ?_
         refine de rfl (eop_callx (i := 0) ca91 rfl (WeakL.refl _) rfl (ih (A := A) (X := X.take (p - A.length)) (Y := Y.take (d - p)) (C := X.drop (p - A.length) ++ (Y.drop (d - p) ++ C)) (by first | omega | (simp; omega)) (by first | omega | (simp; omega)) (by first | omega | (simp; omega)) (by first | omega | (simp; omega)) (by first | omega | (simp; omega)) (by first | omega | (simp; omega)) (by first | omega | (simp; omega)) (hX.take _) (hY.take _)) ?_)
         rintro _ _ ⟨Z1, rfl, ⟨hz1, hz2⟩, rfl⟩
         refine dn ?_
         exact ⟨Z1, ⟨hz1, hz2⟩, trivial, (by repeat (first | exact keeps_refl | refine keeps_upd rfl ?_ | refine keeps_loop rfl rfl ?_)), List.Perm.refl _⟩
        ·try simp at h26
         refine hw_skip ?_
         exact ⟨X.take (p - A.length) ++ Y.take (d - p), ⟨List.Perm.refl _, sym_left hX hY (by rcases Nat.lt_or_ge A.length p with q | q; (have := h26 (by omega); omega); omega)⟩, trivial, (by repeat (first | exact keeps_refl | refine keeps_upd rfl ?_ | refine keeps_loop rfl rfl ?_)), perm_eq (by simp)⟩
       ·intro Z1 hinv
        obtain ⟨hz1, hz2⟩ := hinv
        refine hw_reg ?_
        refine dp rfl (pop_move rfl) ?_
        refine dp rfl (pop_move rfl) ?_
        refine dp rfl (pop_lss rfl rfl) ?_
        refine dp rfl (pop_move rfl) ?_
        refine dg rfl rfl (fun hc => ⟨_, OpenTo.refl _, pop_move rfl⟩) ?_
        refine dg rfl rfl (fun hc => ⟨_, OpenTo.refl _, pop_move rfl⟩) ?_
        refine dg rfl rfl (fun hc => ⟨_, OpenTo.upd (t := 211) rfl (by first | exact hc | simp_all) (OpenTo.upd (t := 210) rfl (by first | exact hc | simp_all) (OpenTo.refl _)), pop_lss rfl rfl⟩) ?_
        refine dp rfl (pop_picko rfl (.inr ⟨_, rfl, fun h => by simp_all⟩) (.inl rfl)) ?_
        refine dn ?_
        refine hw_cond rfl (fun h27 => ?_) (fun h28 => ?_)
        ·try simp at h27
         have hzl := hz1.length_eq
         simp only [List.length_append, List.length_take] at hzl
         refine hw_ghost (Ghost.of_eq (M' := [.arr (.slice (some ⟨b, off, none⟩) n cap) 9 (((A ++ Z1) ++ X.drop (p - A.length) ++ Y.drop (d - p) ++ C).map ePlay)]) (by simp)) ?_
         refine hw_reg1 ?_
         refine dp rfl (pop_move rfl) ?_
         refine dp rfl (pop_move rfl) ?_
         refine dp rfl (pop_move rfl) ?_
         refine dp rfl (pop_move rfl) ?_
         refine dp rfl (pop_move rfl) ?_
         refine de rfl (eop_callx (i := 0) ca91 rfl (WeakL.refl _) rfl (ih (A := A ++ Z1) (X := X.drop (p - A.length)) (Y := Y.drop (d - p)) (C := C) (by first | omega | (simp; omega)) (by first | omega | (simp; omega)) (by first | omega | (simp; omega)) (by first | omega | (simp; omega)) (by first | omega | (simp; omega)) (by first | omega | (simp; omega)) (by first | omega | (simp; omega)) (hX.drop _) (hY.drop _)) ?_)
         rintro _ _ ⟨Z2, rfl, ⟨hz3, hz4⟩, rfl⟩
         refine dn ?_
         first
         | exact ret_q rfl ⟨_, rfl, one_left hc hY hqY (fun y hy => by have h1 := hQ y hy; have := hc.flip y x trivial trivial; have := hc.flip x y trivial trivial; omega) (fun y hy h0 => by have := hP y hy h0; omega), by simp [wan]⟩
         | exact ret_q rfl ⟨_, rfl, one_right hc hX hqX (fun x hx h0 => by have h1 := hP x hx h0; have := hc.flip y x trivial trivial; have := hc.flip x y trivial trivial; omega) (fun x hx => by have := hQ x hx; omega), by simp [wan]⟩
         | exact ret_q rfl ⟨Z1 ++ Z2, rfl, sym_join hc hX hY (by omega) (by omega) hk1 hk2 hz1 hz3 hz2 hz4, by simp⟩
         | exact ret_q rfl ⟨Z1 ++ (X.drop (p - A.length) ++ Y.drop (d - p)), rfl, sym_join hc hX hY (by omega) (by omega) hk1 hk2 hz1 (List.Perm.refl _) hz2 (sym_right hX hY (by rcases Nat.lt_or_ge p (A.length + X.length) with q | q; (have := h28 (by omega); omega); omega)), by simp⟩
        ·try simp at h28
         refine hw_skip ?_
         first
         | exact ret_q rfl ⟨_, rfl, one_left hc hY hqY (fun y hy => by have h1 := hQ y hy; have := hc.flip y x trivial trivial; have := hc.flip x y trivial trivial; omega) (fun y hy h0 => by have := hP y hy h0; omega), by simp [wan]⟩
         | exact ret_q rfl ⟨_, rfl, one_right hc hX hqX (fun x hx h0 => by have h1 := hP x hx h0; have := hc.flip y x trivial trivial; have := hc.flip x y trivial trivial; omega) (fun x hx => by have := hQ x hx; omega), by simp [wan]⟩
         | exact ret_q rfl ⟨Z1 ++ Z2, rfl, sym_join hc hX hY (by omega) (by omega) hk1 hk2 hz1 hz3 hz2 hz4, by simp⟩
         | exact ret_q rfl ⟨Z1 ++ (X.drop (p - A.length) ++ Y.drop (d - p)), rfl, sym_join hc hX hY (by omega) (by omega) hk1 hk2 hz1 (List.Perm.refl _) hz2 (sym_right hX hY (by rcases Nat.lt_or_ge p (A.length + X.length) with q | q; (have := h28 (by omega); omega); omega)), by simp⟩

theorem c_sym_api_Play [Tracks] {N : Nat} {n b off cap : Nat} {fid : FuncId} {caps : List HVal} {c : Play → Play → Int} {A X Y C : List Play} {ia im ib : Int} (hca : Callable Tryz.prog fid) (hp : ∀ x y, ConP Tryz.prog fid ([ePlay x, ePlay y] ++ caps) (.int .i64 (c x y))) (hc : Cmp c fun _ => True) (hl : n ≤ 1000000) (hx0 : 0 < X.length) (hy0 : 0 < Y.length) (hN : X.length + Y.length ≤ N) (hn : A.length + X.length + Y.length + C.length = n) (hia : ia = (A.length : Int)) (him : im = (A.length : Int) + X.length) (hib : ib = (A.length : Int) + X.length + Y.length) (hX : Srt c X) (hY : Srt c Y) : Con Tryz.prog 91 [.raw (.slice (some ⟨b, off, none⟩) n cap), .int .i64 ia, .int .i64 im, .int .i64 ib, .fn (.func fid) [] caps] [.arr (.slice (some ⟨b, off, none⟩) n cap) 9 ((A ++ X ++ Y ++ C).map ePlay)] (fun x M' => ∃ Z : List Play, x = .tup [] ∧ (Z.Perm (X ++ Y) ∧ Srt c Z) ∧ M' = [.arr (.slice (some ⟨b, off, none⟩) n cap) 9 ((A ++ Z ++ C).map ePlay)]) := by
 induction N using Nat.strongRecOn generalizing A X Y C ia im ib with
 | ind N ih =>
   exact c_syms_api_Play hca hp hc hx0 hy0 hN hn hia him hib hX hY hl (fun a1 a2 a3 a4 a5 a6 a7 a8 a9 => ih _ a3 a1 a2 (Nat.le_refl _) a4 a5 a6 a7 a8 a9)

set_option maxHeartbeats 2000000 in
/-- slices.stableCmpFunc[benchwarmer/api.Play] -/
theorem c_stable_api_Play [Tracks] {l : List Play} {n0 : Int} {n b off cap : Nat} {fid : FuncId} {caps : List HVal} {c : Play → Play → Int} (hca : Callable Tryz.prog fid) (hp : ∀ x y, ConP Tryz.prog fid ([ePlay x, ePlay y] ++ caps) (.int .i64 (c x y))) (hc : Cmp c fun _ => True) (hn : l.length = n) (hn0 : n0 = (n : Int)) (hl : n ≤ 1000000) : Con Tryz.prog 70 [.raw (.slice (some ⟨b, off, none⟩) n cap), .int .i64 n0, .fn (.func fid) [] caps] [.arr (.slice (some ⟨b, off, none⟩) n cap) 9 ((l).map ePlay)] (fun x M' => ∃ Z : List Play, x = .tup [] ∧ (Z.Perm l ∧ Srt c Z) ∧ M' = [.arr (.slice (some ⟨b, off, none⟩) n cap) 9 ((Z).map ePlay)]) := by
 refine Con.of_body Tryz.func70 rfl Tryz.ntmps70 rfl rfl ?_
 refine hw_reg ?_
 refine dp rfl (pop_assign rfl) ?_
 refine dn ?_
 refine hw_reg ?_
 refine dp rfl (pop_move rfl) ?_
 refine dp rfl (pop_assign rfl) ?_
 refine dp rfl (pop_assign rfl) ?_
 refine dn ?_
 refine hw_seq ?_
 refine hw_block ?_
 refine hw_loopw3 [7, 8, 11, 12, 13, 14, 15, 16, 17, 18, 19, 20, 21, 22] (fun (a0 : Nat) (k : Nat) (Z : List Play) => [(7, .int .i64 (a0 : Int)), (8, .int .i64 ((a0 + 20 : Nat) : Int))]) (fun (a0 : Nat) (k : Nat) (Z : List Play) => [.arr (.slice (some ⟨b, off, none⟩) n cap) 9 ((Z ++ l.drop a0).map ePlay)]) (fun (a0 : Nat) (k : Nat) (Z : List Play) => a0 = 20 * k ∧ a0 ≤ n ∧ Blk c 20 Z ∧ Z.length = a0 ∧ Z.Perm (l.take a0)) (fun (a0 : Nat) (k : Nat) (Z : List Play) => n - a0) (0) (0) ([]) ?_ ?_ ?_ ?_
 ·exact ⟨rfl, Nat.zero_le _, Blk.nil, rfl, by simp⟩
 ·exact ⟨rfl, rfl, trivial⟩
 ·exact perm_eq (by simp)
 ·intro a0 k Z hinv
  obtain ⟨ha0, ha1, hZ, hZl, hZp⟩ := hinv
  refine hw_seq ?_
  refine hw_reg ?_
  refine dp rfl (pop_move rfl) ?_
  refine dp rfl (pop_move rfl) ?_
  refine dp rfl (pop_leq rfl rfl) ?_
  refine dn ?_
  refine hw_cond rfl (fun h1 => ?_) (fun h2 => ?_)
  ·try simp at h1
   refine hw_skip ?_
   refine seqQ_n ?_
   refine hw_block ?_
   refine hw_ghost (Ghost.of_eq (M' := [.arr (.slice (some ⟨b, off, none⟩) n cap) 9 ((Z ++ (l.drop a0).take 20 ++ l.drop (a0 + 20)).map ePlay)]) (by rw [List.append_assoc Z, ← win])) ?_
   refine hw_reg ?_
   refine dp rfl (pop_move rfl) ?_
   refine dp rfl (pop_move rfl) ?_
   refine dp rfl (pop_move rfl) ?_
   refine dp rfl (pop_move rfl) ?_
   refine de rfl (eop_callx (i := 0) ca90 rfl (WeakL.refl _) rfl (c_insw_api_Play (A := Z) (X := ((l.drop a0).take 20)) (C := (l.drop (a0 + 20))) (n := n) hca hp (by first | omega | (simp; omega)) (by omega) (by first | omega | (simp; omega)) hl) ?_)
   rintro _ _ ⟨rfl, rfl⟩
   refine dn ?_
   refine hw_reg ?_
   refine dp rfl (pop_move rfl) ?_
   refine dp rfl (pop_assign rfl) ?_
   refine dn ?_
   refine hw_reg1 ?_
   refine dp rfl (pop_move rfl) ?_
   refine dp rfl (pop_move rfl) ?_
   refine dp rfl (pop_add64 rfl rfl (by omega) (by omega)) ?_
   refine dp rfl (pop_assign rfl) ?_
   refine dn ?_
   refine blockQ_n ?_
   exact ⟨a0 + 20, k + 1, Z ++ isort c ((l.drop a0).take 20), ⟨by omega, by omega, hZ.add (k := k) (by omega) (isort_srt hc _) (by rw [isort_len, List.length_take]; omega), by rw [List.length_append, isort_len, List.length_take, List.length_drop]; omega, by rw [take_add']; exact hZp.append (isort_perm c _)⟩, by dsimp only; omega, ⟨some_int (by omega), some_int (by omega), trivial⟩, (by repeat (first | exact keeps_refl | refine keeps_upd rfl ?_ | refine keeps_loop rfl rfl ?_)), List.Perm.refl _⟩
  ·try simp at h2
   refine hw_exit ?_
   refine seqQ_x ?_
   refine loopQ3_x ?_
   refine blockQ_eq ?_
   refine seqQ_n ?_
   refine hw_ghost (Ghost.of_eq (M' := [.arr (.slice (some ⟨b, off, none⟩) n cap) 9 ((Z ++ l.drop a0 ++ []).map ePlay)]) (by simp)) ?_
   refine hw_reg ?_
   refine dp rfl (pop_move rfl) ?_
   refine dp rfl (pop_move rfl) ?_
   refine dp rfl (pop_move rfl) ?_
   refine dp rfl (pop_move rfl) ?_
   refine de rfl (eop_callx (i := 0) ca90 rfl (WeakL.refl _) rfl (c_insw_api_Play (A := Z) (X := (l.drop a0)) (C := []) (n := n) hca hp (by first | omega | (simp; omega)) (by omega) (by first | omega | (simp; omega)) hl) ?_)
   rintro _ _ ⟨rfl, rfl⟩
   refine dn ?_
   refine hw_block ?_
   refine hw_loopw2 [6, 7, 8, 9, 28, 29, 30, 31, 32, 33, 34, 35, 36, 37, 38, 39, 40, 41, 42, 43, 44, 45, 46, 47, 48, 49, 50, 51, 52, 53, 54, 55, 56, 57, 58, 59, 60, 61, 62] (fun (bs : Nat) (D : List Play) => [(6, .int .i64 (bs : Int))]) (fun (bs : Nat) (D : List Play) => [.arr (.slice (some ⟨b, off, none⟩) n cap) 9 ((D).map ePlay)]) (fun (bs : Nat) (D : List Play) => 20 ≤ bs ∧ bs ≤ 2 * n + 20 ∧ Blk c bs D ∧ D.Perm l) (fun (bs : Nat) (D : List Play) => n - bs) (20) (Z ++ isort c (l.drop a0)) ?_ ?_ ?_ ?_
   ·refine ⟨Nat.le_refl _, by omega, hZ.add (k := k) (by omega) (isort_srt hc _) (by rw [isort_len, List.length_drop]; omega), ?_⟩
    have := hZp.append (isort_perm c (l.drop a0))
    rwa [List.take_append_drop] at this
   ·exact ⟨rfl, trivial⟩
   ·exact perm_eq (by simp)
   ·intro bs D hinv
    obtain ⟨hb1, hb2, hD, hDp⟩ := hinv
    have hDl : D.length = n := by rw [hDp.length_eq]; exact hn
    refine hw_seq ?_
    skip
    refine hw_reg ?_
    refine dp rfl (pop_move rfl) ?_
    refine dp rfl (pop_move rfl) ?_
    refine dp rfl (pop_lss rfl rfl) ?_
    refine dn ?_
    refine hw_cond rfl (fun h3 => ?_) (fun h4 => ?_)
    ·try simp at h3
     refine hw_skip ?_
     refine seqQ_n ?_
     refine hw_block ?_
     refine hw_reg ?_
     refine dp rfl (pop_move rfl) ?_
     refine dp rfl (pop_mul64 rfl rfl (by omega) (by omega)) ?_
     refine dp rfl (pop_assign rfl) ?_
     refine dp rfl (pop_assign rfl) ?_
     refine dn ?_
     refine hw_seq ?_
     refine hw_block ?_
     refine hw_loopw3 [7, 8, 33, 34, 35, 36, 37, 38, 39, 40, 41, 42, 43, 44, 45, 46, 47, 48] (fun (a0 : Nat) (k : Nat) (Z : List Play) => [(7, .int .i64 (a0 : Int)), (8, .int .i64 ((a0 + bs + bs : Nat) : Int))]) (fun (a0 : Nat) (k : Nat) (Z : List Play) => [.arr (.slice (some ⟨b, off, none⟩) n cap) 9 ((Z ++ D.drop a0).map ePlay)]) (fun (a0 : Nat) (k : Nat) (Z : List Play) => a0 = 2 * bs * k ∧ a0 ≤ n ∧ Blk c (bs + bs) Z ∧ Z.length = a0 ∧ Z.Perm (D.take a0)) (fun (a0 : Nat) (k : Nat) (Z : List Play) => n - a0) (0) (0) ([]) ?_ ?_ ?_ ?_
     ·exact ⟨by simp, Nat.zero_le _, Blk.nil, rfl, by simp⟩
     ·exact ⟨rfl, some_int (by omega), trivial⟩
     ·exact perm_eq (by simp)
     ·intro a0 k Z hinv
      obtain ⟨ha0, ha1, hZ, hZl, hZp⟩ := hinv
      refine hw_seq ?_
      refine hw_reg ?_
      refine dp rfl (pop_move rfl) ?_
      refine dp rfl (pop_move rfl) ?_
      refine dp rfl (pop_leq rfl rfl) ?_
      refine dn ?_
      refine hw_cond rfl (fun h5 => ?_) (fun h6 => ?_)
      ·try simp at h5
       refine hw_skip ?_
       refine seqQ_n ?_
       refine hw_block ?_
       refine hw_ghost (Ghost.of_eq (M' := [.arr (.slice (some ⟨b, off, none⟩) n cap) 9 ((Z ++ (D.drop a0).take bs ++ (D.drop (a0 + bs)).take bs ++ D.drop (a0 + bs + bs)).map ePlay)]) (by rw [List.append_assoc (Z ++ _), ← win, List.append_assoc Z, ← win])) ?_
       refine hw_reg ?_
       refine dp rfl (pop_move rfl) ?_
       refine dp rfl (pop_move rfl) ?_
       refine dp rfl (pop_move rfl) ?_
       refine dp rfl (pop_move rfl) ?_
       refine dp rfl (pop_add64 rfl rfl (by omega) (by omega)) ?_
       refine dp rfl (pop_move rfl) ?_
       refine dp rfl (pop_move rfl) ?_
       refine de rfl (eop_callx (i := 0) ca91 rfl (WeakL.refl _) rfl (c_sym_api_Play (A := Z) (X := ((D.drop a0).take bs)) (Y := ((D.drop (a0 + bs)).take bs)) (C := (D.drop (a0 + bs + bs))) (n := n) hca hp hc hl (by first | omega | (simp; omega)) (by first | omega | (simp; omega)) (Nat.le_refl _) (by first | omega | (simp; omega)) (by omega) (by first | omega | (simp; omega)) (by first | omega | (simp; omega)) (hD.at (q := 2 * k) (by rw [ha0, Nat.mul_assoc, Nat.mul_left_comm])) (hD.at (q := 2 * k + 1) (by rw [ha0, Nat.mul_add, Nat.mul_one, Nat.mul_assoc, Nat.mul_left_comm]))) ?_)
       rintro _ _ ⟨Z43, rfl, ⟨hz1, hz2⟩, rfl⟩
       refine dn ?_
       refine hw_reg ?_
       refine dp rfl (pop_move rfl) ?_
       refine dp rfl (pop_assign rfl) ?_
       refine dn ?_
       refine hw_reg1 ?_
       refine dp rfl (pop_move rfl) ?_
       refine dp rfl (pop_move rfl) ?_
       refine dp rfl (pop_mul64 rfl rfl (by omega) (by omega)) ?_
       refine dp rfl (pop_add64 rfl rfl (by omega) (by omega)) ?_
       refine dp rfl (pop_assign rfl) ?_
       refine dn ?_
       refine blockQ_n ?_
       refine ⟨a0 + bs + bs, k + 1, Z ++ Z43, ⟨?_, by omega, hZ.add (k := k) ?_ hz2 ?_, ?_, ?_⟩, by dsimp only; omega, ⟨some_int (by omega), some_int (by omega), trivial⟩, (by repeat (first | exact keeps_refl | refine keeps_upd rfl ?_ | refine keeps_loop rfl rfl ?_)), perm_eq (by simp)⟩
       ·rw [Nat.mul_add, Nat.mul_one, ← ha0]; omega
       ·rw [hZl, ha0, Nat.two_mul]
       ·rw [hz1.length_eq]; simp only [List.length_append, List.length_take]; omega
       ·rw [List.length_append, hz1.length_eq]; simp only [List.length_append, List.length_take, List.length_drop]; omega
       ·rw [Nat.add_assoc, take_add']
        refine hZp.append (hz1.trans ?_)
        rw [take_add', List.drop_drop]
      ·try simp at h6
       refine hw_exit ?_
       refine seqQ_x ?_
       refine loopQ3_x ?_
       refine blockQ_eq ?_
       refine seqQ_n ?_
       refine hw_join [9, 49, 50, 51, 52, 53, 54, 55, 56, 57, 58, 59, 60] (fun (D2 : List Play) => []) (fun (D2 : List Play) => [.arr (.slice (some ⟨b, off, none⟩) n cap) 9 ((D2).map ePlay)]) (fun (D2 : List Play) => Blk c (bs + bs) D2 ∧ D2.Perm l) ?_ ?_
       ·skip
        refine hw_reg ?_
        refine dp rfl (pop_move rfl) ?_
        refine dp rfl (pop_move rfl) ?_
        refine dp rfl (pop_add64 rfl rfl (by omega) (by omega)) ?_
        refine dp rfl (pop_assign rfl) ?_
        refine dn ?_
        refine hw_reg ?_
        refine dp rfl (pop_move rfl) ?_
        refine dp rfl (pop_move rfl) ?_
        refine dp rfl (pop_lss rfl rfl) ?_
        refine dn ?_
        refine hw_cond rfl (fun h7 => ?_) (fun h8 => ?_)
        ·try simp at h7
         refine hw_ghost (Ghost.of_eq (M' := [.arr (.slice (some ⟨b, off, none⟩) n cap) 9 ((Z ++ (D.drop a0).take bs ++ D.drop (a0 + bs) ++ []).map ePlay)]) (by rw [List.append_nil, List.append_assoc Z, ← win])) ?_
         refine hw_reg1 ?_
         refine dp rfl (pop_move rfl) ?_
         refine dp rfl (pop_move rfl) ?_
         refine dp rfl (pop_move rfl) ?_
         refine dp rfl (pop_move rfl) ?_
         refine dp rfl (pop_move rfl) ?_
         refine de rfl (eop_callx (i := 0) ca91 rfl (WeakL.refl _) rfl (c_sym_api_Play (A := Z) (X := ((D.drop a0).take bs)) (Y := (D.drop (a0 + bs))) (C := []) (n := n) hca hp hc hl (by first | omega | (simp; omega)) (by first | omega | (simp; omega)) (Nat.le_refl _) (by first | omega | (simp; omega)) (by omega) (by first | omega | (simp; omega)) (by first | omega | (simp; omega)) (hD.at (q := 2 * k) (by rw [ha0, Nat.mul_assoc, Nat.mul_left_comm])) (hD.last (q := 2 * k + 1) (by rw [ha0, Nat.mul_add, Nat.mul_one, Nat.mul_assoc, Nat.mul_left_comm]) (by omega))) ?_)
         rintro _ _ ⟨Z60, rfl, ⟨hz1, hz2⟩, rfl⟩
         refine dn ?_
         refine ⟨Z ++ Z60, ⟨hZ.add (k := k) ?_ hz2 ?_, ?_⟩, trivial, (by repeat (first | exact keeps_refl | refine keeps_upd rfl ?_ | refine keeps_loop rfl rfl ?_)), perm_eq (by simp)⟩
         ·rw [hZl, ha0, Nat.two_mul]
         ·rw [hz1.length_eq]; simp only [List.length_append, List.length_take, List.length_drop]; omega
         ·have h9 := hZp.append hz1
          rw [← win, List.take_append_drop] at h9
          exact h9.trans hDp
        ·try simp at h8
         refine hw_skip ?_
         refine ⟨Z ++ D.drop a0, ⟨hZ.add (k := k) ?_ (hD.last (q := 2 * k) (by rw [ha0, Nat.mul_assoc, Nat.mul_left_comm]) (by omega)) ?_, ?_⟩, trivial, (by repeat (first | exact keeps_refl | refine keeps_upd rfl ?_ | refine keeps_loop rfl rfl ?_)), List.Perm.refl _⟩
         ·rw [hZl, ha0, Nat.two_mul]
         ·simp only [List.length_drop]; omega
         ·have h9 := hZp.append_right (D.drop a0)
          rw [List.take_append_drop] at h9
          exact h9.trans hDp
       ·intro D2 hD2
        refine hw_reg1 ?_
        refine dp rfl (pop_move rfl) ?_
        refine dp rfl (pop_mul64 rfl rfl (by omega) (by omega)) ?_
        refine dp rfl (pop_assign rfl) ?_
        refine dn ?_
        refine blockQ_n ?_
        exact ⟨bs + bs, D2, ⟨by omega, by omega, hD2.1, hD2.2⟩, by dsimp only; omega, ⟨some_int (by omega), trivial⟩, (by repeat (first | exact keeps_refl | refine keeps_upd rfl ?_ | refine keeps_loop rfl rfl ?_)), List.Perm.refl _⟩
    ·try simp at h4
     have hDs := hD.all (by omega)
     refine hw_exit ?_
     refine seqQ_x ?_
     refine loopQ2_x ?_
     refine blockQ_eq ?_
     exact ret_q rfl ⟨D, rfl, ⟨hDp, hDs⟩, rfl⟩

/-- slices.insertionSortCmpFunc[benchwarmer/api.Play] -/
theorem c_ins0_api_Play [Tracks] {v : Value} {fid : FuncId} {caps : List HVal}  : Con Tryz.prog 90 [.raw v, .int .i64 0, .int .i64 0, .fn (.func fid) [] caps] [.arr v 9 []] (fun x M' => x = .tup [] ∧ M' = [.arr v 9 []]) := by
 refine Con.of_body Tryz.func90 rfl Tryz.ntmps90 rfl rfl ?_
 refine hw_reg ?_
 refine dp rfl (pop_move rfl) ?_
 refine dp rfl (pop_add64 rfl rfl (by omega) (by omega)) ?_
 refine dp rfl (pop_assign rfl) ?_
 refine dn ?_
 refine hw_block ?_
 refine hw_loopw [8, 9, 12, 13, 14, 15, 16, 17, 18, 19, 20, 21, 22, 23, 24, 25, 26, 27, 28, 29, 30, 31, 32, 33, 34, 35, 36, 37, 38, 39, 40, 41, 42, 43, 44, 45, 46, 47, 48, 49, 50, 51, 52] (fun (u : Unit) => [(8, .int .i64 1)]) (fun (u : Unit) => [.arr v 9 []]) (fun (u : Unit) => True) (fun (u : Unit) => 0) (()) ?_ ?_ ?_ ?_
 ·trivial
 ·exact ⟨rfl, trivial⟩
 ·exact List.Perm.refl _
 ·intro u hu
  refine hw_seq ?_
  refine hw_reg ?_
  refine dp rfl (pop_move rfl) ?_
  refine dp rfl (pop_move rfl) ?_
  refine dp rfl (pop_lss rfl rfl) ?_
  refine dn ?_
  refine hw_cond rfl (fun h1 => ?_) (fun h1 => ?_)
  ·exfalso
   try simp at h1
   all_goals omega
  ·try simp at h1
   refine hw_exit ?_
   refine seqQ_x ?_
   refine loopQ_x ?_
   refine blockQ_eq ?_
   exact ret_q rfl ⟨rfl, rfl⟩

/-- slices.stableCmpFunc[benchwarmer/api.Play] -/
theorem c_stable0_api_Play [Tracks] {v : Value} {fid : FuncId} {caps : List HVal}  : Con Tryz.prog 70 [.raw v, .int .i64 0, .fn (.func fid) [] caps] [.arr v 9 []] (fun x M' => x = .tup [] ∧ M' = [.arr v 9 []]) := by
 refine Con.of_body Tryz.func70 rfl Tryz.ntmps70 rfl rfl ?_
 refine hw_reg ?_
 refine dp rfl (pop_assign rfl) ?_
 refine dn ?_
 refine hw_reg ?_
 refine dp rfl (pop_move rfl) ?_
 refine dp rfl (pop_assign rfl) ?_
 refine dp rfl (pop_assign rfl) ?_
 refine dn ?_
 refine hw_seq ?_
 refine hw_block ?_
 refine hw_loopw [7, 8, 11, 12, 13, 14, 15, 16, 17, 18, 19, 20, 21, 22] (fun (u : Unit) => [(7, .int .i64 0), (8, .int .i64 20)]) (fun (u : Unit) => [.arr v 9 []]) (fun (u : Unit) => True) (fun (u : Unit) => 0) (()) ?_ ?_ ?_ ?_
 ·trivial
 ·exact ⟨rfl, rfl, trivial⟩
 ·exact List.Perm.refl _
 ·intro u hu
  refine hw_seq ?_
  refine hw_reg ?_
  refine dp rfl (pop_move rfl) ?_
  refine dp rfl (pop_move rfl) ?_
  refine dp rfl (pop_leq rfl rfl) ?_
  refine dn ?_
  refine hw_cond rfl (fun h1 => ?_) (fun h1 => ?_)
  ·exfalso
   try simp at h1
   all_goals omega
  ·try simp at h1
   refine hw_exit ?_
   refine seqQ_x ?_
   refine loopQ_x ?_
   refine blockQ_eq ?_
   refine seqQ_n ?_
   refine hw_reg ?_
   refine dp rfl (pop_move rfl) ?_
   refine dp rfl (pop_move rfl) ?_
   refine dp rfl (pop_move rfl) ?_
   refine dp rfl (pop_move rfl) ?_
   refine de rfl (eop_callx (i := 0) ca90 rfl (WeakL.refl _) rfl c_ins0_api_Play ?_)
   rintro _ _ ⟨rfl, rfl⟩
   refine dn ?_
   refine hw_block ?_
   refine hw_loopw [6, 7, 8, 9, 28, 29, 30, 31, 32, 33, 34, 35, 36, 37, 38, 39, 40, 41, 42, 43, 44, 45, 46, 47, 48, 49, 50, 51, 52, 53, 54, 55, 56, 57, 58, 59, 60, 61, 62] (fun (u : Unit) => [(6, .int .i64 20)]) (fun (u : Unit) => [.arr v 9 []]) (fun (u : Unit) => True) (fun (u : Unit) => 0) (()) ?_ ?_ ?_ ?_
   ·trivial
   ·exact ⟨rfl, trivial⟩
   ·exact List.Perm.refl _
   ·intro u hu
    refine hw_seq ?_
    refine hw_reg ?_
    refine dp rfl (pop_move rfl) ?_
    refine dp rfl (pop_move rfl) ?_
    refine dp rfl (pop_lss rfl rfl) ?_
    refine dn ?_
    refine hw_cond rfl (fun h2 => ?_) (fun h2 => ?_)
    ·exfalso
     try simp at h2
     all_goals omega
    ·try simp at h2
     refine hw_exit ?_
     refine seqQ_x ?_
     refine loopQ_x ?_
     refine blockQ_eq ?_
     exact ret_q rfl ⟨rfl, rfl⟩

/-- slices.SortStableFunc[[]benchwarmer/api.Play,benchwarmer/api.Play] -/
theorem c_sstable0_api_Play [Tracks] {fid : FuncId} {caps : List HVal}  : Con Tryz.prog 38 [.raw (.slice none 0 0), .fn (.func fid) [] caps] [.arr (.slice none 0 0) 9 []] (fun x M' => x = .tup [] ∧ M' = [.arr (.slice none 0 0) 9 []]) := by
 refine Con.of_body Tryz.func38 rfl Tryz.ntmps38 rfl rfl ?_
 refine hw_reg1 ?_
 refine dp rfl (pop_move rfl) ?_
 refine dp rfl (pop_move rfl) ?_
 refine dp rfl (pop_len_raw ty26 rfl) ?_
 refine dp rfl (pop_move rfl) ?_
 refine de rfl (eop_callx (i := 0) ca70 rfl (WeakL.refl _) rfl c_stable0_api_Play ?_)
 rintro _ _ ⟨rfl, rfl⟩
 refine dn ?_
 exact ret_q rfl ⟨rfl, rfl⟩

/-- slices.SortStableFunc[[]benchwarmer/api.Play,benchwarmer/api.Play] -/
theorem c_sstable1_api_Play [Tracks] {l : List Play} {n b off cap : Nat} {fid : FuncId} {caps : List HVal} {c : Play → Play → Int} (hca : Callable Tryz.prog fid) (hp : ∀ x y, ConP Tryz.prog fid ([ePlay x, ePlay y] ++ caps) (.int .i64 (c x y))) (hc : Cmp c fun _ => True) (hn : l.length = n) (hl : n ≤ 1000000) : Con Tryz.prog 38 [.raw (.slice (some ⟨b, off, none⟩) n cap), .fn (.func fid) [] caps] [.arr (.slice (some ⟨b, off, none⟩) n cap) 9 ((l).map ePlay)] (fun x M' => ∃ Z : List Play, x = .tup [] ∧ (Z.Perm l ∧ Srt c Z) ∧ M' = [.arr (.slice (some ⟨b, off, none⟩) n cap) 9 ((Z).map ePlay)]) := by
 refine Con.of_body Tryz.func38 rfl Tryz.ntmps38 rfl rfl ?_
 refine hw_reg1 ?_
 refine dp rfl (pop_move rfl) ?_
 refine dp rfl (pop_move rfl) ?_
 refine dp rfl (pop_len_raw ty26 rfl) ?_
 refine dp rfl (pop_move rfl) ?_
 refine de rfl (eop_callx (i := 0) ca70 rfl (WeakL.refl _) rfl (c_stable_api_Play hca hp hc hn rfl hl) ?_)
 rintro _ _ ⟨Z, rfl, hz, rfl⟩
 refine dn ?_
 exact ret_q rfl ⟨Z, rfl, hz, rfl⟩

theorem c_sstable_api_Play [Tracks] {l : List Play} {v : Value} {fid : FuncId} {caps : List HVal} {c : Play → Play → Int} (hca : Callable Tryz.prog fid) (hp : ∀ x y, ConP Tryz.prog fid ([ePlay x, ePlay y] ++ caps) (.int .i64 (c x y))) (hc : Cmp c fun _ => True) (hl : l.length ≤ 1000000) : Con Tryz.prog 38 [.raw v, .fn (.func fid) [] caps] [.arr v 9 (l.map ePlay)] fun x M' => ∃ Z : List Play, x = .tup [] ∧ (Z.Perm l ∧ Srt c Z) ∧ M' = [.arr v 9 (Z.map ePlay)] :=
 con_arrc (fun h1 h2 => by
  have h3 : l = [] := by simpa using h2
  subst h1 h3
  exact c_sstable0_api_Play.mono fun x M' ⟨e1, e2⟩ => ⟨[], e1, ⟨List.Perm.refl _, Srt.nil⟩, e2⟩)
  fun b off cap h1 => by
   rw [List.length_map] at h1
   subst h1
   exact c_sstable1_api_Play hca hp hc rfl hl
end Go.Proofs.YtlankmahpaenhaaGreatDoor
end
section
namespace Go.HL
/-! one list of statistics by name -/
structure StOk (l : List StatS) : Prop where
 nd : (l.map (·.Name)).Nodup
 nz : ∀ x ∈ l, x.Count ≠ 0
theorem StOk.nodup {l : List StatS} (h : StOk l) : l.Nodup := (List.pairwise_map.1 h.nd).imp fun h e => h (congrArg _ e)
theorem StOk.put {x : MendS} {l : List StatS} (h : StOk l) : StOk (mdPut x l) where
 nd := mdPut_names h.nd
 nz y hy := by
  unfold mdPut at hy
  rcases List.mem_append.1 hy with hy | hy
  ·exact h.nz y (List.mem_filter.1 hy).1
  ·split at hy
   ·rename_i hc; rw [List.mem_singleton.1 hy]; exact hc
   ·cases hy
theorem StOk.nil : StOk [] := ⟨List.nodup_nil, fun x h => by cases h⟩
/-! all lists by place -/
structure GSOk (G : GrS) : Prop where
 nd : ANodup G
 ok : ∀ q ∈ G, StOk q.2
theorem GSOk.get {G : GrS} (h : GSOk G) (p : Plc) : StOk ((alk p G).getD []) := by
 cases hq : alk p G with
 | none => exact StOk.nil
 | some l => exact h.ok _ (alk_of_mem hq)
theorem GSOk.step {n : Int} {G : GrS} {x : MendS} (h : GSOk G) : GSOk (mdStep n G x) := by
 unfold mdStep; split
 ·exact h
 ·refine ⟨h.nd.put, fun q hq => ?_⟩
  rcases mem_aput hq with rfl | hq
  ·exact (h.get _).put
  ·exact h.ok q hq
structure GVal (G : GrS) : Prop where
 pl : ∀ q ∈ G, key q.1.1 = true ∧ weekB q.1.2 = true
 st : ∀ q ∈ G, ∀ s ∈ q.2, key s.Name = true ∧ (-100000 ≤ s.Count ∧ s.Count ≤ 100000)
theorem GVal.step {n : Int} {G : GrS} {x : MendS} (h : GVal G) (hx : mendFault x = 0) : GVal (mdStep n G x) := by
 obtain ⟨k1, k2, k3, k4, _⟩ := mendFault_ok hx
 unfold mdStep; split
 ·exact h
 ·refine ⟨fun q hq => ?_, fun q hq s hs => ?_⟩
  ·rcases mem_aput hq with rfl | hq
   ·exact ⟨k1, k3⟩
   ·exact h.pl q hq
  ·rcases mem_aput hq with rfl | hq
   ·unfold mdPut at hs
    rcases List.mem_append.1 hs with hs | hs
    ·have h1 := (List.mem_filter.1 hs).1
     cases ha : alk (x.Player, x.Week) G with
     | none => rw [ha] at h1; cases h1
     | some l => rw [ha] at h1; exact h.st _ (alk_of_mem ha) s h1
    ·split at hs
     ·rw [List.mem_singleton.1 hs]; exact ⟨k2, k4⟩
     ·cases hs
   ·exact h.st q hq s hs
theorem sort_strict {l : List StatS} (h : (l.map (·.Name)).Nodup) : (isort byNm l).Pairwise fun a b => byNm a b < 0 := by
 have h1 := isort_sorted byNm_cmp (l := l) (fun _ _ => trivial)
 have h2 : ((isort byNm l).map (·.Name)).Nodup := ((isort_perm byNm l).map _).nodup_iff.2 h
 refine (h1.and (List.pairwise_map.1 h2)).imp fun {a b} hab => ?_
 have h3 : byNm a b ≠ 0 := fun e => hab.2 (cmpS_zero.1 e)
 omega
end Go.HL
end
section
namespace Go.HL
/-! mends as they are made up -/
theorem GLok.mono {α : Type} {P : α → Prop} {n n' m m' : Nat} {q : GL α} (h : GLok P n m q) (hn : n ≤ n') (hm : m ≤ m') : GLok P n' m' q := ⟨Nat.le_trans h.len hn, h.all, Nat.le_trans h.a hm⟩
/-! the lines of plays, with mends -/
theorem statsOf_names {c : List (Of2 × Int)} (hn : ANodup c) (s : Str) : ((statsOf c s).map (·.Name)).Nodup := by
 unfold statsOf
 refine ((isort_perm byNm _).map _).nodup_iff.2 ?_
 have hr : (rawStats c s).Nodup := by
  unfold rawStats
  refine List.pairwise_map.2 (((List.pairwise_map.1 hn).filter _).imp_of_mem fun {a b} ha hb hab e => hab ?_)
  have h1 := (List.mem_filter.1 ha).2
  have h2 := (List.mem_filter.1 hb).2
  simp only [Bool.and_eq_true, beq_iff_eq] at h1 h2
  have e1 : a.1.2 = b.1.2 := congrArg StatS.Name e
  exact Prod.ext (h1.1.trans h2.1.symm) e1
 refine List.pairwise_map.2 (hr.imp_of_mem fun {a b} ha hb hab e => hab (raw_names hn s ha hb e))
theorem lines_sh {l : List Play} {t : List Str} {week n : Int} (hok : ∀ x ∈ l, playFault x = 0) (hl : l.length ≤ 15) :
 (linesL l t week n).length ≤ 15 ∧ ∀ y ∈ linesL l t week n, y.Stats.length ≤ 15 ∧ (y.Stats.map (·.Name)).Nodup ∧ y.Week = week := by
 have h := ln_ok (l := l) (m := l) (trust := t) (week := week) (n := n) hok
 have a1 := h.Sl
 have a2 := h.cl
 unfold linesL clinesL
 split
 ·exact ⟨Nat.zero_le _, fun y hy => by cases hy⟩
 ·refine ⟨by rw [List.length_map, (sortS_perm _).length_eq]; omega, fun y hy => ?_⟩
  obtain ⟨s, _, rfl⟩ := List.mem_map.1 hy
  refine ⟨?_, statsOf_names h.c s, rfl⟩
  have h2 := rawStats_le (lnGo l t week n l).c s
  show (statsOf (lnGo l t week n l).c s).length ≤ 15
  unfold statsOf; rw [isort_len]; omega
end Go.HL
end
section
namespace Go.HL
theorem bytes_lt : ∀ a b : Str, Op.bytesLess a b = decide (a < b)
 | [], [] => by simp [Op.bytesLess]
 | _ :: _, [] => by simp [Op.bytesLess]
 | [], _ :: _ => by simp [Op.bytesLess]
 | a :: x, b :: y => by
   have ih := bytes_lt x y
   rw [Bool.eq_iff_iff, decide_eq_true_iff, List.cons_lt_cons_iff]
   unfold Op.bytesLess
   rw [ih]
   simp
theorem slt_cmp {a b : Str} (h : SLt a b) : cmpS a b < 0 := by
 have h1 : cmpS a b ≤ 0 := by
  rw [cmpS_le, bytes_lt, decide_eq_false_iff_not]
  exact List.not_lt.2 h.1
 have h2 : cmpS a b ≠ 0 := fun e => h.2 (cmpS_zero.1 e)
 omega
/-! the lines of right plays are right -/
structure LnKey (q : LnS) : Prop where
 S : ∀ s ∈ q.S, key s = true
 c : ∀ e ∈ q.c, key e.1.2 = true
theorem lnGo_key {l : List Play} {t : List Str} {week n : Int} : ∀ (m : List Play) (q : LnS), LnKey q → (∀ x ∈ m, playFault x = 0) → LnKey (m.foldl (lnStep l t week n) q)
 | [], _, h, _ => h
 | x :: m, q, h, hm => by
   rw [List.foldl_cons]
   refine lnGo_key m _ ?_ fun y hy => hm y (List.mem_cons_of_mem _ hy)
   obtain ⟨_, _, _, _, ⟨_, k2, k3⟩, _, _⟩ := playFault_ok (hm x List.mem_cons_self)
   unfold lnStep
   split
   ·refine ⟨fun s hs => ?_, fun e he => ?_⟩
    ·rcases mem_sadd.1 hs with rfl | hs
     ·exact k2
     ·exact h.S s hs
    ·rcases mem_aput he with rfl | he
     ·exact k3
     ·exact h.c e he
   ·exact h
theorem lines_right {l : List Play} {t : List Str} {week n : Int} (hok : ∀ x ∈ l, playFault x = 0) (hl : l.length ≤ 15) (hw : weekB week = true) (h0 : linesE l t week n = 0) : linesFE (linesL l t week n) = 0 := by
 have h := ln_ok (l := l) (m := l) (trust := t) (week := week) (n := n) hok
 have hk : LnKey (lnGo l t week n l) := lnGo_key (l := l) (t := t) (week := week) (n := n) l ⟨[], []⟩ ⟨(fun s h => by cases h), (fun e h => by cases h)⟩ hok
 obtain ⟨hsl, hsn⟩ := lines_sh (t := t) (week := week) (n := n) hok hl
 have hf : fullB (lnGo l t week n l).c (lnGo l t week n l).S = false := by
  unfold linesE clinesE at h0
  cases hq : fullB (lnGo l t week n l).c (lnGo l t week n l).S with
  | false => rfl
  | true => rw [hq] at h0; simp at h0
 have e : linesL l t week n = (sortS (lnGo l t week n l).S).map fun s => ⟨s, week, statsOf (lnGo l t week n l).c s⟩ := by
  unfold linesL clinesL; rw [hf]; rfl
 unfold fullB at hf
 rw [Bool.or_eq_false_iff] at hf
 obtain ⟨f1, f2⟩ := hf
 refine linesFE_of (by omega) (fun y hy => ?_) ?_
 ·obtain ⟨y1, y2, y3⟩ := hsn y hy
  rw [e] at hy
  obtain ⟨s, hs, rfl⟩ := List.mem_map.1 hy
  have hsS : s ∈ (lnGo l t week n l).S := (sortS_perm _).mem_iff.1 hs
  have hnm : ((rawStats (lnGo l t week n l).c s).map (·.Name)).Nodup := by
   have := statsOf_names h.c s
   unfold statsOf at this
   exact ((isort_perm byNm _).map _).nodup_iff.1 this
  refine lineFault_ok.2 ⟨hk.S s hsS, hw, statsE_of (Nat.le_trans y1 (by decide)) (fun z hz => ?_) (sort_strict hnm)⟩
  have hz' : z ∈ rawStats (lnGo l t week n l).c s := (isort_mem _).1 hz
  obtain ⟨p, hp, rfl⟩ := List.mem_map.1 hz'
  obtain ⟨p1, p2⟩ := List.mem_filter.1 hp
  have p3 : p.2 ≠ 0 := by
   simp only [Bool.and_eq_true, bne_iff_ne, ne_eq] at p2
   exact p2.2
  have p4 : out p.2 (-100000) 100000 = false := by
   have := List.any_eq_false.1 f1 p p1
   simpa using this
  refine statFault_ok.2 ⟨hk.c p p1, ?_, p3⟩
  unfold out at p4
  simp only [Bool.or_eq_false_iff, decide_eq_false_iff_not] at p4
  dsimp only
  omega
 ·rw [e]
  refine List.pairwise_map.2 ((sortS_strict h.S).imp fun {a b} hab => ?_)
  have h1 := slt_cmp hab
  show orI [cmpS a b, cmpI week week] < 0
  rw [orI2, if_pos (by omega)]; exact h1
/-! parts that make the whole -/
structure Half (a b l : List Play) : Prop where
 sa : a.Sublist l
 sb : b.Sublist l
 all : ∀ x ∈ l, x ∈ a ∨ x ∈ b
theorem Half.nil : Half [] [] [] := ⟨List.Sublist.refl _, List.Sublist.refl _, fun x h => by cases h⟩
theorem Half.both {a b l : List Play} (h : Half a b l) (x : Play) : Half (a ++ [x]) (b ++ [x]) (l ++ [x]) :=
 ⟨h.sa.append (List.Sublist.refl _), h.sb.append (List.Sublist.refl _), fun y hy => by
  rcases List.mem_append.1 hy with hy | hy
  ·rcases h.all y hy with q | q
   ·exact .inl (List.mem_append_left _ q)
   ·exact .inr (List.mem_append_left _ q)
  ·exact .inl (List.mem_append_right _ hy)⟩
theorem Half.left {a b l : List Play} (h : Half a b l) (x : Play) : Half (a ++ [x]) b (l ++ [x]) :=
 ⟨h.sa.append (List.Sublist.refl _), h.sb.trans (List.sublist_append_left _ _), fun y hy => by
  rcases List.mem_append.1 hy with hy | hy
  ·rcases h.all y hy with q | q
   ·exact .inl (List.mem_append_left _ q)
   ·exact .inr q
  ·exact .inl (List.mem_append_right _ hy)⟩
theorem Half.right {a b l : List Play} (h : Half a b l) (x : Play) : Half a (b ++ [x]) (l ++ [x]) :=
 ⟨h.sa.trans (List.sublist_append_left _ _), h.sb.append (List.Sublist.refl _), fun y hy => by
  rcases List.mem_append.1 hy with hy | hy
  ·rcases h.all y hy with q | q
   ·exact .inl q
   ·exact .inr (List.mem_append_left _ q)
  ·exact .inr (List.mem_append_right _ hy)⟩
theorem Half.swap {a b l : List Play} (h : Half a b l) : Half b a l := ⟨h.sb, h.sa, fun x hx => (h.all x hx).symm⟩
theorem rise_nodup {l : List Play} (h : l.Pairwise fun a b => byNo a b < 0) : l.Nodup := h.imp fun {a b} hab e => by
 subst e
 have := byNo_flip a a
 omega
theorem sub_filter {α : Type} [DecidableEq α] : ∀ {a l : List α}, a.Sublist l → l.Nodup → a = l.filter fun x => decide (x ∈ a)
 | _, _, .slnil, _ => rfl
 | a, _, .cons (l₂ := l) x h, hn => by
   obtain ⟨h1, h2⟩ := List.nodup_cons.1 hn
   have hx : x ∉ a := fun q => h1 (h.subset q)
   rw [List.filter_cons, if_neg (by simpa using hx)]
   exact sub_filter h h2
 | _, _, .cons_cons (l₁ := a) (l₂ := l) x h, hn => by
   obtain ⟨h1, h2⟩ := List.nodup_cons.1 hn
   rw [List.filter_cons, if_pos (by simp)]
   congr 1
   have e := sub_filter h h2
   refine e.trans (List.filter_congr fun y hy => ?_)
   have hne : y ≠ x := fun q => h1 (q ▸ hy)
   simp [hne]
theorem plays_sub {a l : List Play} (h : playsE l = 0) (hs : a.Sublist l) : playsE a = 0 := by
 rw [sub_filter hs (rise_nodup (plays_rise h))]
 exact plays_part h _
theorem half_law {a b l : List Play} (h : playsE l = 0) (hh : Half a b l) : MergePL a b = l ∧ MergePE a b = 0 := by
 have ha := plays_sub h hh.sa
 have hb := plays_sub h hh.sb
 have hz : orI [playsE a, playsE b] = 0 := by rw [ha, hb]; rfl
 have hone : ∀ x ∈ l, ∀ y ∈ l, byNo x y = 0 → x = y := fun x hx y hy e => strict_uniq byNo_cmp (plays_rise h) hx hy e
 have hc : cflA byNo a b = false := by
  rw [Bool.eq_false_iff]
  intro q
  obtain ⟨x, hx, y, hy, e1, e2⟩ := cflA_iff.1 q
  exact e2 (hone x (hh.sb.subset hx) y (hh.sa.subset hy) e1)
 have hm : merS byNo a b = l := by
  have hn1 := rise_nodup (plays_rise h)
  have hn2 : (addA byNo a b).Nodup := (addA_nodup byNo_cmp (plays_rise ha) (plays_rise hb)).imp fun {x y} hxy e => by
   subst e
   have := byNo_flip x x; omega
  have hp : l.Perm (addA byNo a b) := (List.perm_ext_iff_of_nodup hn1 hn2).2 fun z => by
   constructor
   ·intro hz
    by_cases q : z ∈ a
    ·exact List.mem_append_left _ q
    ·rcases hh.all z hz with q' | q'
     ·exact absurd q' q
     ·refine List.mem_append_right _ (List.mem_filter.2 ⟨q', ?_⟩)
      rw [Bool.not_eq_true', Bool.eq_false_iff]
      intro w
      obtain ⟨y, hy, e⟩ := List.any_eq_true.1 w
      have := hone z hz y (hh.sa.subset hy) (by simpa using e)
      exact q (this ▸ hy)
   ·intro hz
    rcases mem_addA hz with q | q
    ·exact hh.sa.subset q
    ·exact hh.sb.subset q
  refine (isort_of_sorted byNo_cmp (fun x y hx hy e => ?_) hp ((plays_rise h).imp fun {x y} hxy => ?_)).symm
  ·exact hone x (hp.mem_iff.2 hx) y (hp.mem_iff.2 hy) e
  ·have := byNo_flip x y; omega
 constructor
 ·simp [MergePL, hz, hc, hm, h]
 ·simp [MergePE, hz, hc, hm, h]
theorem half_lack {a b l : List Play} (h : playsE l = 0) (hh : Half a b l) : Half a (lackL a b) l ∧ a.length + (lackL a b).length = l.length := by
 have hs : (lackL a b).Sublist b := List.filter_sublist
 have h1 : Half a (lackL a b) l := ⟨hh.sa, hs.trans hh.sb, fun x hx => by
  by_cases q : x ∈ a
  ·exact .inl q
  ·rcases hh.all x hx with q' | q'
   ·exact .inl q'
   ·exact .inr (List.mem_filter.2 ⟨q', by simpa using q⟩)⟩
 refine ⟨h1, ?_⟩
 have hn := rise_nodup (plays_rise h)
 have hp : (a ++ lackL a b).Perm l := by
  refine (List.perm_ext_iff_of_nodup ?_ hn).2 fun z => ?_
  ·refine List.nodup_append.2 ⟨hh.sa.nodup hn, h1.sb.nodup hn, fun x hx y hy e => ?_⟩
   have := (List.mem_filter.1 hy).2
   rw [← e] at this
   simp [hx] at this
  ·rw [List.mem_append]
   constructor
   ·rintro (q | q)
    ·exact hh.sa.subset q
    ·exact h1.sb.subset q
   ·exact h1.all z
 have := hp.length_eq
 rw [List.length_append] at this
 exact this
end Go.HL
end
section
namespace Go.HL
structure DisOk (q : DisS) (n : Nat) : Prop where
 c : ANodup q.c
 S : q.S.Nodup
 k : ∀ s ∈ q.S, s.length ≤ 40
 cl : q.c.length ≤ n
 Sl : q.S.length ≤ n
 bd : ∀ e ∈ q.c, -(100000 * (n : Int)) ≤ e.2 ∧ e.2 ≤ 100000 * (n : Int)
theorem DisOk.val {q : DisS} {n : Nat} (h : DisOk q n) (s : Str × Of2) : -(100000 * (n : Int)) ≤ (alk s q.c).getD 0 ∧ (alk s q.c).getD 0 ≤ 100000 * (n : Int) := by
 cases hq : alk s q.c with
 | none => simp; omega
 | some v => exact h.bd _ (alk_of_mem hq)
theorem DisOk.up {q : DisS} {n : Nat} (h : DisOk q n) : DisOk q (n + 1) :=
 ⟨h.c, h.S, h.k, by have := h.cl; omega, by have := h.Sl; omega, fun e he => by have := h.bd e he; omega⟩
theorem DisOk.sput {q : DisS} {n : Nat} (h : DisOk q n) {p : Play} (hp : playFault p = 0) : DisOk ⟨sadd p.Source q.S, q.c⟩ (n + 1) := by
 refine ⟨h.c, sadd_nodup h.S, fun s hs => ?_, by have := h.cl; dsimp only; omega, Nat.le_trans (sadd_le _ _) (by have := h.Sl; omega), fun e he => by have := h.bd e he; omega⟩
 rcases mem_sadd.1 hs with rfl | hs
 ·exact key_len (playFault_ok hp).1
 ·exact h.k s hs
theorem DisOk.put {q : DisS} {n : Nat} (h : DisOk q n) {p : Play} (hp : playFault p = 0) : DisOk ⟨sadd p.Source q.S, disPut q p⟩ (n + 1) := by
 have hs := h.sput hp
 obtain ⟨_, _, _, _, _, hb, _⟩ := playFault_ok hp
 have hv := h.val (disKey p)
 refine ⟨h.c.put, hs.S, hs.k, Nat.le_trans (aput_le _ _ _) (by have := h.cl; omega), hs.Sl, fun e he => ?_⟩
 rcases mem_aput he with rfl | he
 ·dsimp only; omega
 ·have := h.bd e he; omega
end Go.HL
end
section
namespace Go.HL
end Go.HL
end
section
namespace Go.HL
theorem uniqO_snoc (x : Of2) : ∀ (A : List Of2) (p : Option Of2), uniqO p (A ++ [x]) = uniqO p A ++ if (A.getLast?.or p) = some x then [] else [x]
 | [], p => by
   by_cases h : p = some x <;> simp [uniqO, h]
 | y :: A, p => by
   have ih := uniqO_snoc x A (some y)
   have e : ((y :: A).getLast?.or p) = (A.getLast?.or (some y)) := by
    cases A with
    | nil => simp
    | cons z A => simp [List.getLast?_cons_cons, List.getLast?_cons]
   simp only [List.cons_append, uniqO]
   rw [e, ih]
   split <;> simp
theorem uniqO_step {l : List Of2} {k : Nat} {x y : Of2} (hx : l[k]? = some x) (hy : l[k - 1]? = some y) (h0 : 0 < k) : uniqO none (l.take (k + 1)) = uniqO none (l.take k) ++ if x = y then [] else [x] := by
 have hk := lt_of_get hx
 rw [take_snoc' hx, uniqO_snoc]
 have e : ((l.take k).getLast?.or none) = some y := by
  rw [List.getLast?_eq_getElem?, List.length_take, Nat.min_eq_left (by omega), List.getElem?_take_of_lt (by omega), hy]; rfl
 rw [e]
 by_cases h : x = y
 ·rw [if_pos h, if_pos (by rw [h])]
 ·rw [if_neg h, if_neg (by simpa using fun q : y = x => h q.symm)]
structure CmpO (l : List Of2) (j : Nat) (D : List Of2) : Prop where
 len : D.length = l.length
 lo : D.take (uniqO none (l.take j)).length = uniqO none (l.take j)
 lt : (uniqO none (l.take j)).length < j
 hi : ∀ i, j ≤ i + 1 → D[i]? = l[i]?
theorem CmpO.start {l : List Of2} {k : Nat} {x y : Of2} (hx : l[k]? = some x) (hy : l[k - 1]? = some y) (h0 : 0 < k) (e : x = y) (h : uniqO none (l.take k) = l.take k) : CmpO l (k + 1) l ∧ (uniqO none (l.take (k + 1))).length = k := by
 have hk := lt_of_get hx
 have h1 : uniqO none (l.take (k + 1)) = l.take k := by rw [uniqO_step hx hy h0, if_pos e, h]; simp
 have h2 : (l.take k).length = k := by rw [List.length_take]; omega
 exact ⟨⟨rfl, by rw [h1, h2], by rw [h1, h2]; omega, fun _ _ => rfl⟩, by rw [h1, h2]⟩
theorem CmpO.same {l D : List Of2} {j : Nat} (h : CmpO l j D) {x y : Of2} (hx : l[j]? = some x) (hy : l[j - 1]? = some y) (e : x = y) : CmpO l (j + 1) D ∧ (uniqO none (l.take (j + 1))).length = (uniqO none (l.take j)).length := by
 have h0 := h.lt
 have h1 : uniqO none (l.take (j + 1)) = uniqO none (l.take j) := by rw [uniqO_step hx hy (by omega), if_pos e]; simp
 exact ⟨⟨h.len, by rw [h1]; exact h.lo, by rw [h1]; omega, fun i hi => h.hi i (by omega)⟩, by rw [h1]⟩
end Go.HL
end
section
namespace Go.HL
theorem eqStats_refl : ∀ l : List StatS, eqSts eStat l l = true
 | [] => rfl
 | a :: r => by simp [eqSts, eqSt, eqStats_refl r, hcells, eqHL, eqH]
def byLn (a b : LineS) : Int := orI [cmpS a.Player b.Player, cmpI a.Week b.Week]
theorem byLn_refl (x : LineS) : byLn x x = 0 := by
 unfold byLn; rw [orI2, if_neg (by simp [cmpS_zero]), cmpI_zero]
theorem lines_bd {l : List Play} {t : List Str} {w n : Int} : (LinesL l t w n).length ≤ 1000000 ∧ ∀ y ∈ LinesL l t w n, y.Stats.length ≤ 1000000 := by
 by_cases h0 : orI [playsE l, trustE t] = 0
 ·have h1 := (okPT h0).1
  have hl := (playsE_ok h1).1
  have hok := ln_ok (l := l) (m := l) (trust := t) (week := w) (n := n) (plays_fault h1)
  have a1 := hok.Sl
  have a2 := hok.cl
  unfold LinesL
  rw [if_neg (by simp [h0])]
  split
  ·exact ⟨by simp, by simp⟩
  ·unfold linesL clinesL
   split
   ·exact ⟨by simp, by simp⟩
   ·refine ⟨by rw [List.length_map, sortS_len]; omega, fun y hy => ?_⟩
    obtain ⟨s, _, rfl⟩ := List.mem_map.1 hy
    have h2 := rawStats_le (lnGo l t w n l).c s
    have h3 := statsOf_len (lnGo l t w n l).c s
    dsimp only; omega
 ·unfold LinesL
  rw [if_pos (by simp [h0])]
  exact ⟨by simp, by simp⟩
end Go.HL
end
section
namespace Go.HL
def LackE (a b : List Play) : Int := orI [playsE a, playsE b]
def LackL (a b : List Play) : List Play := if orI [playsE a, playsE b] ≠ 0 then [] else lackL a b
def tr3 : List Str := [[102, 98], [102, 97], [102, 99]]
theorem LinesL_right {l : List Play} {t : List Str} {w n : Int} (h : playsE l = 0) (hl : l.length ≤ 15) (h0 : LinesE l t w n = 0) : linesFE (LinesL l t w n) = 0 := by
 by_cases h1 : orI [playsE l, trustE t] = 0
 ·by_cases h2 : (!(weekB w) || !(moment n)) = true
  ·exfalso
   unfold LinesE at h0
   rw [if_neg (by simp [h1]), if_pos h2] at h0
   omega
  ·have h3 : weekB w = true := by
    cases hq : weekB w with
    | true => rfl
    | false => rw [hq] at h2; simp at h2
   have e1 : LinesE l t w n = linesE l t w n := by unfold LinesE; rw [if_neg (by simp [h1]), if_neg h2]
   have e2 : LinesL l t w n = linesL l t w n := by unfold LinesL; rw [if_neg (by simp [h1]), if_neg h2]
   rw [e1] at h0
   rw [e2]
   exact lines_right (plays_fault h) hl h3 h0
 ·exfalso
  unfold LinesE at h0
  rw [if_pos (by simpa using h1)] at h0
  exact h1 h0
end Go.HL
end
section
namespace Go.Proofs.YtlankmahpaenhaaGreatDoor
open Go.HL
set_option maxRecDepth 100000
set_option linter.unusedVariables false
set_option linter.unusedSimpArgs false
theorem ok30 [Tracks] : KeyOk Tryz.prog 30 ePlay := keyOk_struct (cs := fun x : Play => hcells (ePlay x)) ty30 eq30 (fun x y => ⟨rfl, ⟨_, _, _, _, ty9, rfl⟩, ⟨rfl, ⟨_, _, _, _, ty3, rfl⟩, ⟨rfl, ⟨_, _, _, _, ty3, rfl⟩, ⟨rfl, ⟨_, _, _, _, ty3, rfl⟩, ⟨rfl, ⟨_, _, _, _, ty9, rfl⟩, ⟨rfl, ⟨_, _, _, _, ty9, rfl⟩, ⟨rfl, ⟨_, _, _, _, ty9, rfl⟩, ⟨rfl, ⟨_, _, _, _, ty3, rfl⟩, ⟨rfl, ⟨_, _, _, _, ty3, rfl⟩, trivial⟩⟩⟩⟩⟩⟩⟩⟩⟩)
 (fun x y => by rw [Bool.eq_iff_iff, decide_eq_true_iff]; exact eqPlay_is x y) (fun x => rfl)

/-- slices.Grow[[]benchwarmer/api.Play,benchwarmer/api.Play] -/
theorem c_grow_Play [Tracks] {n : Nat} (hn : n ≤ 1000000) : Con Tryz.prog 69 [.raw (.slice none 0 0), .int .i64 (n : Int)] [] (fun x M' => ∃ u, x = .raw u ∧ M' = [.arr u 9 []]) := by
 refine Con.of_body Tryz.func69 rfl Tryz.ntmps69 rfl rfl ?_
 refine hw_reg ?_
 refine dp rfl (pop_assign rfl) ?_
 refine dn ?_
 refine hw_seq ?_
 refine hw_reg ?_
 refine dp rfl (pop_move rfl) ?_
 refine dp rfl (pop_lss rfl rfl) ?_
 refine dn ?_
 refine hw_cond rfl (fun h1 => ?_) (fun h1 => ?_)
 ·exfalso
  try simp at h1
  omega
 ·try simp at h1
  refine hw_skip ?_
  refine seqQ_n ?_
  refine hw_seq ?_
  refine hw_reg ?_
  refine dp rfl (pop_move rfl) ?_
  refine dp rfl (pop_move rfl) ?_
  refine dp rfl (pop_capraw ty26 rfl) ?_
  refine dp rfl (pop_move rfl) ?_
  refine dp rfl (pop_len_raw ty26 rfl) ?_
  refine dp rfl (pop_sub64 rfl rfl (by omega) (by omega)) ?_
  refine dp rfl (pop_sub64 rfl rfl (by omega) (by omega)) ?_
  refine dp rfl (pop_assign rfl) ?_
  refine dn ?_
  refine hw_reg ?_
  refine dp rfl (pop_move rfl) ?_
  refine dp rfl (pop_gtr rfl rfl) ?_
  refine dn ?_
  refine hw_cond rfl (fun h2 => ?_) (fun h3 => ?_)
  ·try simp at h2
   refine hw_reg1 ?_
   refine dp rfl (pop_move rfl) ?_
   refine dp rfl (pop_move rfl) ?_
   refine dp rfl (pop_capraw ty26 rfl) ?_
   refine dp rfl (pop_slnil ty26 ty30 rfl rfl) ?_
   refine dp rfl (pop_move rfl) ?_
   refine de rfl (eop_appendmk (n := n) ty26 ty30 ty3 rfl rfl rfl rfl (by omega) (by omega) (by omega) fun b nc cells hnc hnm hcs => ?_)
   refine dp rfl (pop_move rfl) ?_
   refine dp rfl (pop_len_raw ty26 rfl) ?_
   refine dp rfl (pop_slraw0 (h := 0) ty26 ty30 rfl ⟨_, _, rfl, rfl⟩ (by omega)) ?_
   refine dp rfl (pop_assign rfl) ?_
   refine dn ?_
   refine seqQ_n ?_
   refine hw_reg ?_
   refine dp rfl (pop_move rfl) ?_
   refine dp rfl (pop_assign rfl) ?_
   refine dn ?_
   refine hw_ret ?_
   first
   | exact ret_g (Ghost.objarr hcs hnm) rfl ⟨_, rfl, rfl⟩
   | exact ret_g (Ghost.arr_nil 9) rfl ⟨_, rfl, rfl⟩
  ·try simp at h3
   refine hw_skip ?_
   refine seqQ_n ?_
   refine hw_reg ?_
   refine dp rfl (pop_move rfl) ?_
   refine dp rfl (pop_assign rfl) ?_
   refine dn ?_
   refine hw_ret ?_
   first
   | exact ret_g (Ghost.objarr hcs hnm) rfl ⟨_, rfl, rfl⟩
   | exact ret_g (Ghost.arr_nil 9) rfl ⟨_, rfl, rfl⟩

/-- slices.Concat[[]benchwarmer/api.Play,benchwarmer/api.Play] -/
theorem c_concat_Play [Tracks] {LL : List (List Play)} (hl : LL.length ≤ 1000) (hs : LL.flatten.length ≤ 100000) : ConA Tryz.prog 37 [.slice 1 (LL.map fun l => HVal.slice 9 (l.map ePlay))] 9 (LL.flatten.map ePlay) := by
 refine Con.of_body Tryz.func37 rfl Tryz.ntmps37 rfl rfl ?_
 refine hw_reg ?_
 refine dp rfl (pop_assign rfl) ?_
 refine dn ?_
 refine hw_reg ?_
 refine dp rfl (pop_assign rfl) ?_
 refine dn ?_
 refine hw_seq ?_
 refine hw_reg ?_
 refine dp rfl (pop_move rfl) ?_
 refine dp rfl (pop_lenm (f := fun l : List Play => HVal.slice 9 (l.map ePlay)) (l := LL) ty104 rfl) ?_
 refine dp rfl (pop_move rfl) ?_
 refine dn ?_
 refine hw_block ?_
 refine hw_loopw [3, 5, 11, 12, 13, 14, 15, 16, 17, 18, 19, 20, 21, 22] (fun (i : Nat) => [(11, .int .i64 i), (3, .int .i64 ((LL.take i).flatten.length : Int))]) (fun (i : Nat) => []) (fun (i : Nat) => i ≤ LL.length ∧ (True)) (fun (i : Nat) => LL.length - i) (0) ?_ ?_ ?_ ?_
 ·exact ⟨Nat.zero_le _, trivial⟩
 ·exact ⟨rfl, rfl, trivial⟩
 ·exact List.Perm.refl _
 ·intro i hinv
  obtain ⟨hi, -⟩ := hinv
  refine hw_reg ?_
  refine dp rfl (pop_lss rfl rfl) ?_
  refine dn ?_
  refine hw_seq ?_
  refine hw_cond rfl (fun h1 => ?_) (fun h2 => ?_)
  ·try simp at h1
   obtain ⟨x, hx⟩ : ∃ x, LL[i]? = some x := ⟨_, List.getElem?_eq_getElem h1⟩
   have hdx := drop_cons hx
   refine hw_skip ?_
   refine seqQ_n ?_
   refine hw_seq ?_
   refine hw_block ?_
   refine hw_reg ?_
   refine dp rfl (pop_idx (f := fun l : List Play => HVal.slice 9 (l.map ePlay)) (l := LL) (j := i) (a := x) ty104 ty26 rfl rfl rfl hx) ?_
   refine dp rfl (pop_load ty26 rfl rfl rfl) ?_
   refine dp rfl (pop_assign rfl) ?_
   refine dn ?_
   refine hw_reg ?_
   refine dp rfl (pop_move rfl) ?_
   refine dp rfl (pop_move rfl) ?_
   refine dp rfl (pop_lenm ty26 rfl) ?_
   have hfl := flat_take_le LL (i + 1)
   have hfs := flat_take_snoc hx
   refine dp rfl (pop_add64 rfl rfl (by omega) (by omega)) ?_
   refine dp rfl (pop_assign rfl) ?_
   refine dn ?_
   refine hw_reg ?_
   refine dp rfl (pop_move rfl) ?_
   refine dp rfl (pop_lss rfl rfl) ?_
   refine dn ?_
   refine hw_cond rfl (fun h3 => ?_) (fun h3 => ?_)
   ·exfalso
    try simp at h3
    omega
   ·try simp at h3
    refine hw_skip ?_
    refine blockQ_n ?_
    refine seqQ_n ?_
    refine hw_reg1 ?_
    refine dp rfl (pop_add64 rfl rfl (by omega) (by omega)) ?_
    refine dp rfl (pop_move rfl) ?_
    refine dn ?_
    exact ⟨i + 1, ⟨by omega, trivial⟩, by dsimp only; omega, ⟨rfl, some_int (by rw [flat_take_snoc hx]; simp), trivial⟩, (by repeat (first | exact keeps_refl | refine keeps_upd rfl ?_ | refine keeps_loop rfl rfl ?_)), List.Perm.refl _⟩
  ·try simp at h2
   have hni : LL.length ≤ i := by omega
   obtain rfl : i = LL.length := by omega
   refine hw_exit ?_
   refine seqQ_x ?_
   refine loopQ_x ?_
   refine blockQ_eq ?_
   refine seqQ_n ?_
   rw [List.take_length]
   refine hw_reg ?_
   refine dp rfl (pop_move rfl) ?_
   refine de rfl (eop_callf (M1 := []) (R := []) ca69 rfl (WeakL.refl _) (List.Perm.refl _) (c_grow_Play (n := LL.flatten.length) (by omega)) ?_)
   rintro _ _ ⟨u24, rfl, rfl⟩
   refine dp rfl (pop_assign rfl) ?_
   refine dn ?_
   refine hw_seq ?_
   refine hw_reg ?_
   refine dp rfl (pop_move rfl) ?_
   refine dp rfl (pop_lenm (f := fun l : List Play => HVal.slice 9 (l.map ePlay)) (l := LL) ty104 rfl) ?_
   refine dp rfl (pop_move rfl) ?_
   refine dn ?_
   refine hw_block ?_
   refine hw_loopw2 [6, 8, 27, 28, 29, 30, 31, 32, 33, 34] (fun (j : Nat) (u : Value) => [(27, .int .i64 j), (6, .raw u)]) (fun (j : Nat) (u : Value) => [.arr u 9 ((LL.take j).flatten.map ePlay)]) (fun (j : Nat) (u : Value) => j ≤ LL.length ∧ (True)) (fun (j : Nat) (u : Value) => LL.length - j) (0) (u24) ?_ ?_ ?_ ?_
   ·exact ⟨Nat.zero_le _, trivial⟩
   ·exact ⟨rfl, rfl, trivial⟩
   ·exact List.Perm.refl _
   ·intro j u hinv
    obtain ⟨hj, -⟩ := hinv
    refine hw_reg ?_
    refine dp rfl (pop_lss rfl rfl) ?_
    refine dn ?_
    refine hw_seq ?_
    refine hw_cond rfl (fun h4 => ?_) (fun h5 => ?_)
    ·try simp at h4
     obtain ⟨y, hy⟩ : ∃ y, LL[j]? = some y := ⟨_, List.getElem?_eq_getElem h4⟩
     have hdy := drop_cons hy
     refine hw_skip ?_
     refine seqQ_n ?_
     refine hw_seq ?_
     refine hw_block ?_
     refine hw_reg ?_
     refine dp rfl (pop_idx (f := fun l : List Play => HVal.slice 9 (l.map ePlay)) (l := LL) (j := j) (a := y) ty104 ty26 rfl rfl rfl hy) ?_
     refine dp rfl (pop_load ty26 rfl rfl rfl) ?_
     refine dp rfl (pop_assign rfl) ?_
     refine dn ?_
     refine hw_reg1 ?_
     refine dp rfl (pop_move rfl) ?_
     refine dp rfl (pop_move rfl) ?_
     refine de rfl (eop_append (i := 0) ty26 ty30 rfl rfl rfl rfl rfl (by simp [flat, hcells]) (by have h1 := flat_take_le LL (j + 1); have h2 := flat_take_snoc hy; simp only [List.length_map]; omega) fun v33 => ?_)
     refine dp rfl (pop_assign rfl) ?_
     refine dn ?_
     refine blockQ_n ?_
     refine seqQ_n ?_
     refine hw_reg1 ?_
     refine dp rfl (pop_add64 rfl rfl (by omega) (by omega)) ?_
     refine dp rfl (pop_move rfl) ?_
     refine dn ?_
     exact ⟨j + 1, v33, ⟨by omega, trivial⟩, by dsimp only; omega, ⟨rfl, rfl, trivial⟩, (by repeat (first | exact keeps_refl | refine keeps_upd rfl ?_ | refine keeps_loop rfl rfl ?_)), perm_eq (by dsimp only; rw [flat_take_app hy, List.map_append]; rfl)⟩
    ·try simp at h5
     have hnj : LL.length ≤ j := by omega
     obtain rfl : j = LL.length := by omega
     refine hw_exit ?_
     refine seqQ_x ?_
     refine loopQ2_x ?_
     refine blockQ_eq ?_
     refine seqQ_n ?_
     refine hw_reg ?_
     refine dp rfl (pop_move rfl) ?_
     refine dp rfl (pop_assign rfl) ?_
     refine dn ?_
     refine hw_ret ?_
     refine ret_a rfl ?_
     rw [List.take_length]

set_option maxHeartbeats 1000000 in
/-- slices.Compact[[]benchwarmer/api.Play,benchwarmer/api.Play] -/
theorem c_slices_Compact_api_Play_api_Play [Tracks] {l : List Play} {v : Value} (hl : l.length ≤ 1000000) : Con Tryz.prog 39 [.raw v] [.arr v 9 (l.map ePlay)] (fun x M' => ∃ u, x = .raw u ∧ M' = [.arr u 9 ((uniqA none l).map ePlay)]) := by
 refine Con.of_body Tryz.func39 rfl Tryz.ntmps39 rfl rfl ?_
 refine hw_reg ?_
 refine dp rfl (pop_assign rfl) ?_
 refine dn ?_
 refine hw_seq ?_
 refine hw_reg ?_
 refine dp rfl (pop_move rfl) ?_
 first
 | refine de rfl (eop_lenm (i := 0) ty26 rfl rfl ?_)
 | refine de rfl (eop_lenm (i := 1) ty26 rfl rfl ?_)
 | refine de rfl (eop_lenm (i := 2) ty26 rfl rfl ?_)
 | refine de rfl (eop_lenm (i := 3) ty26 rfl rfl ?_)
 refine dp rfl (pop_lss rfl rfl) ?_
 refine dn ?_
 refine hw_cond rfl (fun h1 => ?_) (fun h2 => ?_)
 ·try simp at h1
  refine hw_reg ?_
  refine dp rfl (pop_move rfl) ?_
  refine dp rfl (pop_assign rfl) ?_
  refine dn ?_
  refine hw_ret ?_
  first
  | (refine ret_q rfl ⟨_, rfl, ?_⟩
     rw [uniqA_one (by omega)])
  | (refine ret_q rfl ⟨_, rfl, ?_⟩
     have hlo := hD.lo
     rw [hkl, List.take_length] at hlo ⊢
     rw [← List.map_take, hlo]; rfl)
  | (refine ret_q rfl ⟨_, rfl, ?_⟩
     rw [hu])
 ·try simp at h2
  refine hw_skip ?_
  refine seqQ_n ?_
  refine hw_seq ?_
  refine hw_arrc (i := 0) rfl (fun h0 he => ?_) (fun b off cap hv hcap => ?_)
  ·exfalso; have := congrArg List.length he; simp at this; subst this; simp at h2
  rw [List.length_map] at hv hcap
  subst hv
  refine hw_reg ?_
  refine dp rfl (pop_assign rfl) ?_
  refine dn ?_
  refine hw_block ?_
  refine hw_loopw [2, 3, 4, 5, 10, 11, 12, 13, 14, 15, 16, 17, 18, 19, 20, 21, 22, 23, 24, 25, 26, 27, 28, 29, 30, 31, 32, 33, 34, 35, 36, 37, 38, 39, 40, 41, 42, 43, 44, 45, 46, 47, 48, 49, 50, 51, 52, 53, 54, 55, 56, 57, 58, 59] (fun (k : Nat) => [(3, .int .i64 (k : Int))]) (fun (k : Nat) => [.arr (.slice (some ⟨b, off, none⟩) l.length cap) 9 (l.map ePlay)]) (fun (k : Nat) => (1 ≤ k ∧ k ≤ l.length) ∧ uniqA none (l.take k) = l.take k) (fun (k : Nat) => l.length - k) (1) ?_ ?_ ?_ ?_
  ·exact ⟨⟨by omega, by omega⟩, uniqA_one (by simp; omega)⟩
  ·exact ⟨rfl, trivial⟩
  ·exact List.Perm.refl _
  ·intro k hinv
   obtain ⟨⟨hk1, hk⟩, hu⟩ := hinv
   refine hw_seq ?_
   refine hw_reg ?_
   refine dp rfl (pop_move rfl) ?_
   refine dp rfl (pop_move rfl) ?_
   first
   | refine de rfl (eop_lenm (i := 0) ty26 rfl rfl ?_)
   | refine de rfl (eop_lenm (i := 1) ty26 rfl rfl ?_)
   | refine de rfl (eop_lenm (i := 2) ty26 rfl rfl ?_)
   | refine de rfl (eop_lenm (i := 3) ty26 rfl rfl ?_)
   refine dp rfl (pop_lss rfl rfl) ?_
   refine dn ?_
   refine hw_cond rfl (fun h3 => ?_) (fun h4 => ?_)
   ·try simp at h3
    obtain ⟨x, hx⟩ : ∃ x, l[k]? = some x := ⟨_, List.getElem?_eq_getElem (by omega)⟩
    obtain ⟨y, hy⟩ : ∃ y, l[k - 1]? = some y := ⟨_, List.getElem?_eq_getElem (by omega)⟩
    refine hw_skip ?_
    refine seqQ_n ?_
    refine hw_seq ?_
    refine hw_block ?_
    refine hw_draw (fun M => M = [.arr (.slice (some ⟨b, off, none⟩) l.length cap) 9 (l.map ePlay)]) [3, 8] mixed ?_
    refine ahp 0 rfl rfl (by kernel_rfl) (by kernel_rfl) (pop_move rfl) ?_
    refine ahp 1 rfl rfl (by kernel_rfl) (by kernel_rfl) (pop_move rfl) ?_
    refine ahp 2 rfl rfl (by kernel_rfl) (by kernel_rfl) (pop_idxraw (j := k) ty26 ty30 rfl rfl rfl (by omega)) ?_
    refine ahl 3 rfl rfl (by kernel_rfl) (by kernel_rfl) (by simp) rfl (fun M hM => by subst hM; exact eop_load_elw (i := 0) (j := k) ty30 rfl (by omega) rfl hx rfl rfl rfl ⟨rfl, rfl⟩) ?_
    refine ahp 4 rfl rfl (by kernel_rfl) (by kernel_rfl) (pop_move rfl) ?_
    refine ahp 5 rfl rfl (by kernel_rfl) (by kernel_rfl) (pop_move rfl) ?_
    refine ahp 6 rfl rfl (by kernel_rfl) (by kernel_rfl) (pop_sub64 rfl rfl (by omega) (by omega)) ?_
    refine ahp 7 rfl rfl (by kernel_rfl) (by kernel_rfl) (pop_idxraw (j := k - 1) ty26 ty30 rfl rfl (by omega) (by omega)) ?_
    refine ahl 8 rfl rfl (by kernel_rfl) (by kernel_rfl) (by simp) rfl (fun M hM => by subst hM; exact eop_load_elw (i := 0) (j := k - 1) ty30 rfl (by omega) rfl hy rfl rfl rfl ⟨rfl, rfl⟩) ?_
    refine ahp 9 rfl rfl (by kernel_rfl) (by kernel_rfl) (pop_eqst ty30 eq30 rfl rfl ⟨rfl, ⟨_, _, _, _, ty9, rfl⟩, ⟨rfl, ⟨_, _, _, _, ty3, rfl⟩, ⟨rfl, ⟨_, _, _, _, ty3, rfl⟩, ⟨rfl, ⟨_, _, _, _, ty3, rfl⟩, ⟨rfl, ⟨_, _, _, _, ty9, rfl⟩, ⟨rfl, ⟨_, _, _, _, ty9, rfl⟩, ⟨rfl, ⟨_, _, _, _, ty9, rfl⟩, ⟨rfl, ⟨_, _, _, _, ty3, rfl⟩, ⟨rfl, ⟨_, _, _, _, ty3, rfl⟩, trivial⟩⟩⟩⟩⟩⟩⟩⟩⟩) ?_
    refine ahz (by kernel_rfl) ?_
    refine hw_cond rfl (fun h5 => ?_) (fun h6 => ?_)
    ·try simp at h5
     have hxy : x = y := (eqPlay_is _ _).1 (by simpa using h5)
     obtain ⟨hC0, hU0⟩ := CmpA.start hx hy (by omega) hxy hu
     refine hw_reg ?_
     refine dp rfl (pop_move rfl) ?_
     refine dp rfl (pop_move rfl) ?_
     refine dp rfl (pop_slraw (l := k) (h := l.length) ty26 ty30 rfl ⟨_, _, rfl, rfl⟩ rfl (by omega) (by omega) hcap) ?_
     refine dp rfl (pop_assign rfl) ?_
     refine dn ?_
     rw [slOff_lt2 (by omega)]
     refine hw_seq ?_
     refine hw_reg ?_
     refine dp rfl (pop_assign rfl) ?_
     refine dn ?_
     refine hw_block ?_
     refine hw_loopw2 [3, 5, 29, 30, 31, 32, 33, 34, 35, 36, 37, 38, 39, 40, 41, 42, 43, 44, 45, 46, 47, 48, 49, 50, 51, 52, 53] (fun (k2 : Nat) (D : List Play) => [(5, .int .i64 (k2 : Int)), (3, .int .i64 ((uniqA none (l.take (k + k2))).length : Int))]) (fun (k2 : Nat) (D : List Play) => [.arr (.slice (some ⟨b, off, none⟩) l.length cap) 9 (D.map ePlay)]) (fun (k2 : Nat) (D : List Play) => (1 ≤ k2 ∧ k + k2 ≤ l.length) ∧ CmpA l (k + k2) D) (fun (k2 : Nat) (D : List Play) => l.length - k2) (1) (l) ?_ ?_ ?_ ?_
     ·exact ⟨⟨by omega, by have := lt_of_get hx; omega⟩, hC0⟩
     ·exact ⟨rfl, some_int (by rw [hU0]), trivial⟩
     ·exact List.Perm.refl _
     ·intro k2 D hinv
      obtain ⟨⟨hk2, hkk⟩, hD⟩ := hinv
      have hlt0 := hD.lt
      have hle0 := hD.len
      refine hw_seq ?_
      refine hw_reg ?_
      refine dp rfl (pop_move rfl) ?_
      refine dp rfl (pop_move rfl) ?_
      refine dp rfl (pop_len_raw ty26 rfl) ?_
      refine dp rfl (pop_lss rfl rfl) ?_
      refine dn ?_
      refine hw_cond rfl (fun h7 => ?_) (fun h8 => ?_)
      ·try simp at h7
       obtain ⟨x2, hx2⟩ : ∃ x, l[k + k2]? = some x := ⟨_, List.getElem?_eq_getElem (by omega)⟩
       obtain ⟨y2, hy2⟩ : ∃ y, l[k + k2 - 1]? = some y := ⟨_, List.getElem?_eq_getElem (by omega)⟩
       have hDx : D[k + k2]? = some x2 := by rw [hD.hi _ (by omega), hx2]
       have hDy : D[k + k2 - 1]? = some y2 := by rw [hD.hi _ (by omega), hy2]
       refine hw_skip ?_
       refine seqQ_n ?_
       refine hw_seq ?_
       refine hw_block ?_
       refine hw_draw (fun M => M = [.arr (.slice (some ⟨b, off, none⟩) l.length cap) 9 (D.map ePlay)]) [3, 8] mixed ?_
       refine ahp 0 rfl rfl (by kernel_rfl) (by kernel_rfl) (pop_move rfl) ?_
       refine ahp 1 rfl rfl (by kernel_rfl) (by kernel_rfl) (pop_move rfl) ?_
       refine ahp 2 rfl rfl (by kernel_rfl) (by kernel_rfl) (pop_idxraw (j := k2) ty26 ty30 rfl rfl rfl (by omega)) ?_
       refine ahl 3 rfl rfl (by kernel_rfl) (by kernel_rfl) (by simp) rfl (fun M hM => by subst hM; exact eop_load_elw (i := 0) (j := (k + k2)) ty30 rfl (by omega) rfl hDx rfl rfl rfl ⟨rfl, rfl⟩) ?_
       refine ahp 4 rfl rfl (by kernel_rfl) (by kernel_rfl) (pop_move rfl) ?_
       refine ahp 5 rfl rfl (by kernel_rfl) (by kernel_rfl) (pop_move rfl) ?_
       refine ahp 6 rfl rfl (by kernel_rfl) (by kernel_rfl) (pop_sub64 rfl rfl (by omega) (by omega)) ?_
       refine ahp 7 rfl rfl (by kernel_rfl) (by kernel_rfl) (pop_idxraw (j := k2 - 1) ty26 ty30 rfl rfl (by omega) (by omega)) ?_
       refine ahl 8 rfl rfl (by kernel_rfl) (by kernel_rfl) (by simp) rfl (fun M hM => by subst hM; exact eop_load_elw (i := 0) (j := (k + k2 - 1)) ty30 rfl (by omega) rfl hDy rfl rfl rfl ⟨rfl, rfl⟩) ?_
       refine ahp 9 rfl rfl (by kernel_rfl) (by kernel_rfl) (pop_neqst ty30 eq30 rfl rfl ⟨rfl, ⟨_, _, _, _, ty9, rfl⟩, ⟨rfl, ⟨_, _, _, _, ty3, rfl⟩, ⟨rfl, ⟨_, _, _, _, ty3, rfl⟩, ⟨rfl, ⟨_, _, _, _, ty3, rfl⟩, ⟨rfl, ⟨_, _, _, _, ty9, rfl⟩, ⟨rfl, ⟨_, _, _, _, ty9, rfl⟩, ⟨rfl, ⟨_, _, _, _, ty9, rfl⟩, ⟨rfl, ⟨_, _, _, _, ty3, rfl⟩, ⟨rfl, ⟨_, _, _, _, ty3, rfl⟩, trivial⟩⟩⟩⟩⟩⟩⟩⟩⟩) ?_
       refine ahz (by kernel_rfl) ?_
       refine hw_cond rfl (fun h9 => ?_) (fun h10 => ?_)
       ·try simp at h9
        refine hw_reg ?_
        refine dp rfl (pop_move rfl) ?_
        refine dp rfl (pop_move rfl) ?_
        refine dp rfl (pop_move rfl) ?_
        refine dp rfl (pop_move rfl) ?_
        refine dp rfl (pop_idxraw (j := k2) ty26 ty30 rfl rfl rfl (by omega)) ?_
        refine de rfl (eop_load_elw (i := 0) (j := (k + k2)) ty30 rfl (by omega) rfl hDx rfl rfl rfl ?_)
        refine dp rfl (pop_idxraw (j := (uniqA none (l.take (k + k2))).length) ty26 ty30 rfl rfl rfl (by omega)) ?_
        refine de0 (eop_store_elw (i := 0) (j := (uniqA none (l.take (k + k2))).length) (y := D[(uniqA none (l.take (k + k2))).length]'(by omega)) (y' := x2) ty30 rfl rfl rfl rfl (List.getElem?_eq_getElem _) rfl rfl rfl ?_)
        refine dn ?_
        refine hw_reg1 ?_
        refine dp rfl (pop_move rfl) ?_
        refine dp rfl (pop_add64 rfl rfl (by omega) (by omega)) ?_
        refine dp rfl (pop_assign rfl) ?_
        refine dn ?_
        refine blockQ_n ?_
        refine seqQ_n ?_
        refine hw_reg1 ?_
        refine dp rfl (pop_move rfl) ?_
        refine dp rfl (pop_add64 rfl rfl (by omega) (by omega)) ?_
        refine dp rfl (pop_assign rfl) ?_
        refine dn ?_
        have hxy : x2 ≠ y2 := fun q => by have q2 := (eqPlay_is _ _).2 q; simp_all
        obtain ⟨hC1, hU1⟩ := hD.more hx2 hy2 hxy
        exact ⟨k2 + 1, _, ⟨⟨by omega, by omega⟩, hC1⟩, by dsimp only; omega, ⟨rfl, some_int (by rw [← Nat.add_assoc, hU1]; rfl), trivial⟩, (by repeat (first | exact keeps_refl | refine keeps_upd rfl ?_ | refine keeps_loop rfl rfl ?_)), List.Perm.refl _⟩
       ·try simp at h10
        refine hw_skip ?_
        refine blockQ_n ?_
        refine seqQ_n ?_
        refine hw_reg1 ?_
        refine dp rfl (pop_move rfl) ?_
        refine dp rfl (pop_add64 rfl rfl (by omega) (by omega)) ?_
        refine dp rfl (pop_assign rfl) ?_
        refine dn ?_
        have hxy : x2 = y2 := (eqPlay_is _ _).1 (by simpa using h10)
        obtain ⟨hC1, hU1⟩ := hD.same hx2 hy2 hxy
        exact ⟨k2 + 1, D, ⟨⟨by omega, by omega⟩, hC1⟩, by dsimp only; omega, ⟨rfl, some_int (by rw [← Nat.add_assoc, hU1]), trivial⟩, (by repeat (first | exact keeps_refl | refine keeps_upd rfl ?_ | refine keeps_loop rfl rfl ?_)), List.Perm.refl _⟩
      ·try simp at h8
       have hkl : k + k2 = l.length := by omega
       refine hw_exit ?_
       refine seqQ_x ?_
       refine loopQ2_x ?_
       refine blockQ_eq ?_
       refine seqQ_n ?_
       refine hw_reg ?_
       refine dp rfl (pop_move rfl) ?_
       refine dp rfl (pop_move rfl) ?_
       refine dp rfl (pop_slraw (l := (uniqA none (l.take (k + k2))).length) (h := l.length) ty26 ty30 rfl ⟨_, _, rfl, rfl⟩ rfl (by omega) (by omega) hcap) ?_
       refine de0 (eop_clear_at (i := 0) (m := (uniqA none (l.take (k + k2))).length) ((uniqA none (l.take (k + k2))).length) ty26 ty30 rfl rfl rfl (slOff_or (by omega) hcap) rfl (by omega) (Nat.le_refl _) (by rw [List.length_map, hD.len]; omega) ?_)
       refine dn ?_
       refine hw_reg ?_
       refine dp rfl (pop_move rfl) ?_
       refine dp rfl (pop_move rfl) ?_
       refine dp rfl (pop_slraw0 (h := (uniqA none (l.take (k + k2))).length) ty26 ty30 rfl ⟨_, _, rfl, rfl⟩ (by omega)) ?_
       refine dp rfl (pop_assign rfl) ?_
       refine dn ?_
       refine hw_ret ?_
       first
       | (refine ret_q rfl ⟨_, rfl, ?_⟩
          rw [uniqA_one (by omega)])
       | (refine ret_q rfl ⟨_, rfl, ?_⟩
          have hlo := hD.lo
          rw [hkl, List.take_length] at hlo ⊢
          rw [← List.map_take, hlo]; rfl)
       | (refine ret_q rfl ⟨_, rfl, ?_⟩
          rw [hu])
    ·try simp at h6
     refine hw_skip ?_
     refine blockQ_n ?_
     refine seqQ_n ?_
     refine hw_reg1 ?_
     refine dp rfl (pop_move rfl) ?_
     refine dp rfl (pop_add64 rfl rfl (by omega) (by omega)) ?_
     refine dp rfl (pop_assign rfl) ?_
     refine dn ?_
     have hxy : x ≠ y := fun q => by have q2 := (eqPlay_is _ _).2 q; simp_all
     exact ⟨k + 1, ⟨⟨by omega, by omega⟩, by rw [uniqA_step hx hy (by omega), if_neg hxy, hu, take_snoc' hx]⟩, by dsimp only; omega, ⟨rfl, trivial⟩, (by repeat (first | exact keeps_refl | refine keeps_upd rfl ?_ | refine keeps_loop rfl rfl ?_)), List.Perm.refl _⟩
   ·try simp at h4
    have hkl : k = l.length := by omega
    rw [hkl, List.take_length] at hu
    refine hw_exit ?_
    refine seqQ_x ?_
    refine loopQ_x ?_
    refine blockQ_eq ?_
    refine seqQ_n ?_
    refine hw_reg ?_
    refine dp rfl (pop_move rfl) ?_
    refine dp rfl (pop_assign rfl) ?_
    refine dn ?_
    refine hw_ret ?_
    first
    | (refine ret_q rfl ⟨_, rfl, ?_⟩
       rw [uniqA_one (by omega)])
    | (refine ret_q rfl ⟨_, rfl, ?_⟩
       have hlo := hD.lo
       rw [hkl, List.take_length] at hlo ⊢
       rw [← List.map_take, hlo]; rfl)
    | (refine ret_q rfl ⟨_, rfl, ?_⟩
       rw [hu])

set_option maxHeartbeats 1000000 in
/-- benchwarmer/play.Merge -/
theorem c_play_Merge [Tracks] {a b : List Play} (ha : a.length ≤ 100) (hb : b.length ≤ 100) : ConP Tryz.prog 12 [ePlays a, ePlays b] (.tup [ePlays (MergePL a b), .int .i64 (MergePE a b)]) := by
 refine Con.of_body Tryz.func12 rfl Tryz.ntmps12 rfl rfl ?_
 refine hw_reg ?_
 refine dp rfl (pop_assign rfl) ?_
 refine dp rfl (pop_assign rfl) ?_
 refine dn ?_
 refine hw_seq ?_
 refine hw_reg ?_
 refine dp rfl (pop_move rfl) ?_
 refine dp rfl (pop_call ca11 rfl (WeakL.refl _) (c_play_CheckPlays (l := a) (by omega))) ?_
 refine dp rfl (pop_move rfl) ?_
 refine dp rfl (pop_call ca11 rfl (WeakL.refl _) (c_play_CheckPlays (l := b) (by omega))) ?_
 refine dp rfl (pop_buildSlice (hs := [_, _]) ty67 ty34 rfl rfl (by decide) (by decide) rfl) ?_
 refine dp rfl (pop_call ca36 rfl (WeakL.refl _) (c_base_First (l := [_, _]) (by simp))) ?_
 refine dp rfl (pop_assign rfl) ?_
 refine dn ?_
 refine hw_reg ?_
 refine dp rfl (pop_move rfl) ?_
 refine dp rfl (pop_neq rfl rfl) ?_
 refine dn ?_
 refine hw_cond rfl (fun h1 => ?_) (fun h2 => ?_)
 ·try simp at h1
  refine hw_reg ?_
  refine dp rfl (pop_move rfl) ?_
  refine dp rfl (pop_assign rfl) ?_
  refine dp rfl (pop_assign rfl) ?_
  refine dn ?_
  refine hw_ret ?_
  first
  | exact ret_w rfl (weak_tup2 (by rw [MergePL, if_pos (by simpa using h1)]; exact weak_nil 9) (by rw [MergePE, if_pos (by simpa using h1)]; exact Weak.refl _))
  | (have hcf := mer_some byNo_cmp hms hns hz3 hz2 hx (by rw [show k - 1 + 1 = k by omega]; exact hy) (by assumption)
     exact ret_w rfl (weak_tup2 (by rw [MergePL, if_neg (by simpa using h2), if_pos hcf]; exact weak_nil 9) (by rw [MergePE, if_neg (by simpa using h2), if_pos hcf]; exact Weak.refl _)))
  | (have h9 := h7
     exact ret_w rfl (weak_tup2 (by rw [MergePL, if_neg (by simpa using h2), if_neg (by simp [hcf]), if_pos (by simpa using h9)]; exact weak_nil 9) (by rw [MergePE, if_neg (by simpa using h2), if_neg (by simp [hcf])]; exact Weak.refl _)))
  | (have h9 : playsE (merS byNo a b) = 0 := by simpa using h8
     refine ret_p rfl ?_
     rw [MergePL, MergePE, if_neg (by simpa using h2), if_neg (by simp [hcf]), if_neg (by simp [h9]), if_neg (by simpa using h2), if_neg (by simp [hcf]), h9]; rfl)
 ·try simp at h2
  refine hw_skip ?_
  refine seqQ_n ?_
  obtain ⟨ha0, hb0⟩ := or2z h2
  have hms := plays_rise ha0
  have hns := plays_rise hb0
  refine hw_reg ?_
  refine dp rfl (pop_move rfl) ?_
  refine dp rfl (pop_move rfl) ?_
  refine dp rfl (pop_buildSlice (hs := [_, _]) ty104 ty26 rfl rfl (by decide) (by decide) rfl) ?_
  refine de rfl (eop_calla ca37 rfl (WeakL.refl _) (c_concat_Play (LL := [a, b]) (by simp) (by simp; omega)) fun v22 => ?_)
  refine dp rfl (pop_assign rfl) ?_
  refine dn ?_
  refine hw_reg ?_
  refine dp rfl (pop_move rfl) ?_
  refine de rfl (eop_callx (i := 0) ca38 rfl (WeakL.refl _) rfl (c_sstable_api_Play (l := [a, b].flatten) (c := byNo) ca35 (fun _ _ => c_play_byNo) byNo_cmp (by simp; omega)) ?_)
  rintro _ _ ⟨Z, rfl, ⟨hz1, hz2⟩, rfl⟩
  have hz3 : Z.Perm (a ++ b) := by simpa using hz1
  have hzl := hz3.length_eq
  rw [List.length_append] at hzl
  refine dn ?_
  refine hw_reg ?_
  refine dp rfl (pop_move rfl) ?_
  refine de rfl (eop_callx (i := 0) ca39 rfl (WeakL.refl _) rfl (c_slices_Compact_api_Play_api_Play (l := Z) (by omega)) ?_)
  rintro _ _ ⟨u26, rfl, rfl⟩
  refine dp rfl (pop_assign rfl) ?_
  refine dn ?_
  refine hw_seq ?_
  refine hw_ghost (Ghost.fa 7 (i := 0) rfl rfl) ?_
  have hul := uniqA_len Z none
  refine hw_reg ?_
  refine dp rfl (pop_assign rfl) ?_
  refine dn ?_
  refine hw_block ?_
  refine hw_loopw [4, 5, 8, 27, 28, 29, 30, 31, 32, 33, 34, 35, 36, 37, 38, 39, 40, 41, 42, 43] (fun (k : Nat) => [(8, .int .i64 (k : Int))]) (fun (k : Nat) => []) (fun (k : Nat) => 1 ≤ k ∧ ∀ (i : Nat) (x y : Play), i + 1 < k → (uniqA none Z)[i]? = some x → (uniqA none Z)[i + 1]? = some y → byNo x y ≠ 0) (fun (k : Nat) => (uniqA none Z).length - k) (1) ?_ ?_ ?_ ?_
  ·exact ⟨Nat.le_refl _, fun i x y h => by omega⟩
  ·exact ⟨rfl, trivial⟩
  ·exact perm_eq rfl
  ·intro k hinv
   obtain ⟨hk, hadj⟩ := hinv
   refine hw_seq ?_
   refine hw_reg ?_
   refine dp rfl (pop_move rfl) ?_
   refine dp rfl (pop_move rfl) ?_
   refine dp rfl (pop_lenm (f := ePlay) (l := (uniqA none Z)) ty26 rfl) ?_
   refine dp rfl (pop_lss rfl rfl) ?_
   refine dn ?_
   refine hw_cond rfl (fun h3 => ?_) (fun h4 => ?_)
   ·try simp at h3
    obtain ⟨x, hx⟩ : ∃ x, (uniqA none Z)[k - 1]? = some x := ⟨_, List.getElem?_eq_getElem (by omega)⟩
    obtain ⟨y, hy⟩ : ∃ y, (uniqA none Z)[k]? = some y := ⟨_, List.getElem?_eq_getElem (by omega)⟩
    refine hw_skip ?_
    refine seqQ_n ?_
    refine hw_seq ?_
    refine hw_block ?_
    refine hw_draw (fun _ => True) [] mixed ?_
    refine ahp 0 rfl rfl (by kernel_rfl) (by kernel_rfl) (pop_move rfl) ?_
    refine ahp 1 rfl rfl (by kernel_rfl) (by kernel_rfl) (pop_move rfl) ?_
    refine ahp 2 rfl rfl (by kernel_rfl) (by kernel_rfl) (pop_sub64 rfl rfl (by omega) (by omega)) ?_
    refine ahp 3 rfl rfl (by kernel_rfl) (by kernel_rfl) (pop_idx (j := k - 1) (a := x) ty26 ty30 rfl rfl (by omega) hx) ?_
    refine ahp 4 rfl rfl (by kernel_rfl) (by kernel_rfl) (pop_loadw ty30 rfl rfl rfl rfl) ?_
    refine ahp 5 rfl rfl (by kernel_rfl) (by kernel_rfl) (pop_move rfl) ?_
    refine ahp 6 rfl rfl (by kernel_rfl) (by kernel_rfl) (pop_move rfl) ?_
    refine ahp 7 rfl rfl (by kernel_rfl) (by kernel_rfl) (pop_idx (j := k) (a := y) ty26 ty30 rfl rfl rfl hy) ?_
    refine ahp 8 rfl rfl (by kernel_rfl) (by kernel_rfl) (pop_loadw ty30 rfl rfl rfl rfl) ?_
    refine ahp 9 rfl rfl (by kernel_rfl) (by kernel_rfl) (pop_call ca35 rfl (WeakL.refl _) c_play_byNo) ?_
    refine ahp 10 rfl rfl (by kernel_rfl) (by kernel_rfl) (pop_eql rfl rfl) ?_
    refine ahz (by kernel_rfl) ?_
    refine hw_cond rfl (fun h5 => ?_) (fun h6 => ?_)
    ·try simp at h5
     refine hw_reg ?_
     refine dp rfl (pop_assign rfl) ?_
     refine dp rfl (pop_assign rfl) ?_
     refine dn ?_
     refine hw_ret ?_
     first
     | exact ret_w rfl (weak_tup2 (by rw [MergePL, if_pos (by simpa using h1)]; exact weak_nil 9) (by rw [MergePE, if_pos (by simpa using h1)]; exact Weak.refl _))
     | (have hcf := mer_some byNo_cmp hms hns hz3 hz2 hx (by rw [show k - 1 + 1 = k by omega]; exact hy) (by assumption)
        exact ret_w rfl (weak_tup2 (by rw [MergePL, if_neg (by simpa using h2), if_pos hcf]; exact weak_nil 9) (by rw [MergePE, if_neg (by simpa using h2), if_pos hcf]; exact Weak.refl _)))
     | (have h9 := h7
        exact ret_w rfl (weak_tup2 (by rw [MergePL, if_neg (by simpa using h2), if_neg (by simp [hcf]), if_pos (by simpa using h9)]; exact weak_nil 9) (by rw [MergePE, if_neg (by simpa using h2), if_neg (by simp [hcf])]; exact Weak.refl _)))
     | (have h9 : playsE (merS byNo a b) = 0 := by simpa using h8
        refine ret_p rfl ?_
        rw [MergePL, MergePE, if_neg (by simpa using h2), if_neg (by simp [hcf]), if_neg (by simp [h9]), if_neg (by simpa using h2), if_neg (by simp [hcf]), h9]; rfl)
    ·try simp at h6
     refine hw_skip ?_
     refine blockQ_n ?_
     refine seqQ_n ?_
     refine hw_reg1 ?_
     refine dp rfl (pop_move rfl) ?_
     refine dp rfl (pop_add64 rfl rfl (by omega) (by omega)) ?_
     refine dp rfl (pop_assign rfl) ?_
     refine dn ?_
     exact ⟨k + 1, ⟨by omega, fun i x2 y2 h3 h4 h5 => by
      rcases Nat.lt_or_ge (i + 1) k with q | q
      ·exact hadj i x2 y2 q h4 h5
      ·obtain rfl : i = k - 1 := by omega
       rw [hx] at h4; rw [show k - 1 + 1 = k by omega, hy] at h5
       rw [← Option.some.inj h4, ← Option.some.inj h5]; assumption⟩, by dsimp only; omega, ⟨rfl, trivial⟩, (by repeat (first | exact keeps_refl | refine keeps_upd rfl ?_ | refine keeps_loop rfl rfl ?_)), List.Perm.refl _⟩
   ·try simp at h4
    obtain ⟨hcf, hme⟩ := mer_none byNo_cmp hms hns hz3 hz2 (fun i x y h1 h2 => hadj i x y (by have := lt_of_get h2; omega) h1 h2)
    refine hw_exit ?_
    refine seqQ_x ?_
    refine loopQ_x ?_
    refine blockQ_eq ?_
    refine seqQ_n ?_
    refine hw_seq ?_
    rw [hme]
    refine hw_reg ?_
    refine dp rfl (pop_move rfl) ?_
    refine dp rfl (pop_call ca11 rfl (WeakL.refl _) (c_play_CheckPlays (l := (merS byNo a b)) (Nat.le_trans (merS_len _ _ _) (by omega)))) ?_
    refine dp rfl (pop_assign rfl) ?_
    refine dn ?_
    refine hw_reg ?_
    refine dp rfl (pop_move rfl) ?_
    refine dp rfl (pop_neq rfl rfl) ?_
    refine dn ?_
    refine hw_cond rfl (fun h7 => ?_) (fun h8 => ?_)
    ·try simp at h7
     refine hw_reg ?_
     refine dp rfl (pop_move rfl) ?_
     refine dp rfl (pop_assign rfl) ?_
     refine dp rfl (pop_assign rfl) ?_
     refine dn ?_
     refine hw_ret ?_
     first
     | exact ret_w rfl (weak_tup2 (by rw [MergePL, if_pos (by simpa using h1)]; exact weak_nil 9) (by rw [MergePE, if_pos (by simpa using h1)]; exact Weak.refl _))
     | (have hcf := mer_some byNo_cmp hms hns hz3 hz2 hx (by rw [show k - 1 + 1 = k by omega]; exact hy) (by assumption)
        exact ret_w rfl (weak_tup2 (by rw [MergePL, if_neg (by simpa using h2), if_pos hcf]; exact weak_nil 9) (by rw [MergePE, if_neg (by simpa using h2), if_pos hcf]; exact Weak.refl _)))
     | (have h9 := h7
        exact ret_w rfl (weak_tup2 (by rw [MergePL, if_neg (by simpa using h2), if_neg (by simp [hcf]), if_pos (by simpa using h9)]; exact weak_nil 9) (by rw [MergePE, if_neg (by simpa using h2), if_neg (by simp [hcf])]; exact Weak.refl _)))
     | (have h9 : playsE (merS byNo a b) = 0 := by simpa using h8
        refine ret_p rfl ?_
        rw [MergePL, MergePE, if_neg (by simpa using h2), if_neg (by simp [hcf]), if_neg (by simp [h9]), if_neg (by simpa using h2), if_neg (by simp [hcf]), h9]; rfl)
    ·try simp at h8
     refine hw_skip ?_
     refine seqQ_n ?_
     refine hw_reg ?_
     refine dp rfl (pop_move rfl) ?_
     refine dp rfl (pop_assign rfl) ?_
     refine dp rfl (pop_assign rfl) ?_
     refine dn ?_
     refine hw_ret ?_
     first
     | exact ret_w rfl (weak_tup2 (by rw [MergePL, if_pos (by simpa using h1)]; exact weak_nil 9) (by rw [MergePE, if_pos (by simpa using h1)]; exact Weak.refl _))
     | (have hcf := mer_some byNo_cmp hms hns hz3 hz2 hx (by rw [show k - 1 + 1 = k by omega]; exact hy) (by assumption)
        exact ret_w rfl (weak_tup2 (by rw [MergePL, if_neg (by simpa using h2), if_pos hcf]; exact weak_nil 9) (by rw [MergePE, if_neg (by simpa using h2), if_pos hcf]; exact Weak.refl _)))
     | (have h9 := h7
        exact ret_w rfl (weak_tup2 (by rw [MergePL, if_neg (by simpa using h2), if_neg (by simp [hcf]), if_pos (by simpa using h9)]; exact weak_nil 9) (by rw [MergePE, if_neg (by simpa using h2), if_neg (by simp [hcf])]; exact Weak.refl _)))
     | (have h9 : playsE (merS byNo a b) = 0 := by simpa using h8
        refine ret_p rfl ?_
        rw [MergePL, MergePE, if_neg (by simpa using h2), if_neg (by simp [hcf]), if_neg (by simp [h9]), if_neg (by simpa using h2), if_neg (by simp [hcf]), h9]; rfl)

set_option maxHeartbeats 1000000 in
/-- benchwarmer/play.Lacks -/
theorem c_play_Lacks [Tracks] {a b : List Play} (ha : a.length ≤ 100) (hb : b.length ≤ 100) : ConP Tryz.prog 13 [ePlays a, ePlays b] (.tup [ePlays (LackL a b), .int .i64 (LackE a b)]) := by
 refine Con.of_body Tryz.func13 rfl Tryz.ntmps13 rfl rfl ?_
 refine hw_reg ?_
 refine dp rfl (pop_assign rfl) ?_
 refine dp rfl (pop_assign rfl) ?_
 refine dn ?_
 refine hw_seq ?_
 refine hw_reg ?_
 refine dp rfl (pop_move rfl) ?_
 refine dp rfl (pop_call ca11 rfl (WeakL.refl _) (c_play_CheckPlays (l := a) (by omega))) ?_
 refine dp rfl (pop_move rfl) ?_
 refine dp rfl (pop_call ca11 rfl (WeakL.refl _) (c_play_CheckPlays (l := b) (by omega))) ?_
 refine dp rfl (pop_buildSlice (hs := [_, _]) ty67 ty34 rfl rfl (by decide) (by decide) rfl) ?_
 refine dp rfl (pop_call ca36 rfl (WeakL.refl _) (c_base_First (l := [_, _]) (by simp))) ?_
 refine dp rfl (pop_assign rfl) ?_
 refine dn ?_
 refine hw_reg ?_
 refine dp rfl (pop_move rfl) ?_
 refine dp rfl (pop_neq rfl rfl) ?_
 refine dn ?_
 refine hw_cond rfl (fun h1 => ?_) (fun h2 => ?_)
 ·try simp at h1
  refine hw_reg ?_
  refine dp rfl (pop_move rfl) ?_
  refine dp rfl (pop_assign rfl) ?_
  refine dp rfl (pop_assign rfl) ?_
  refine dn ?_
  refine hw_ret ?_
  first
  | exact ret_w rfl (weak_tup2 (by rw [LackL, if_pos (by simpa using h1)]; exact weak_nil 9) (Weak.refl _))
  | (refine ret_fa (M := []) 4 rfl rfl ?_
     have hz9 : LackE a b = 0 := by simpa [LackE] using h2
     rw [LackL, if_neg (by simpa using h2), hz9]; rfl)
 ·try simp at h2
  refine hw_skip ?_
  refine seqQ_n ?_
  refine hw_reg ?_
  refine de rfl (eop_makeMap fun m22 => ?_)
  refine dp rfl (pop_assign rfl) ?_
  refine dn ?_
  refine hw_seq ?_
  refine hw_reg ?_
  refine dp rfl (pop_move rfl) ?_
  refine dp rfl (pop_lenm ty26 rfl) ?_
  refine dp rfl (pop_move rfl) ?_
  refine dn ?_
  refine hw_block ?_
  refine hw_loopw [9, 25, 26, 27, 28, 29, 30, 31] (fun (k : Nat) => [(25, .int .i64 k)]) (fun (k : Nat) => [.map m22 (kk ePlay (em HVal.bool (lkM (a.take k))))]) (fun (k : Nat) => k ≤ a.length ∧ (True)) (fun (k : Nat) => a.length - k) (0) ?_ ?_ ?_ ?_
  ·exact ⟨Nat.zero_le _, trivial⟩
  ·exact ⟨rfl, trivial⟩
  ·exact perm_eq rfl
  ·intro k hinv
   obtain ⟨hk, -⟩ := hinv
   refine hw_reg ?_
   refine dp rfl (pop_lss rfl rfl) ?_
   refine dn ?_
   refine hw_seq ?_
   refine hw_cond rfl (fun h3 => ?_) (fun h4 => ?_)
   ·try simp at h3
    obtain ⟨x, hx⟩ : ∃ x, a[k]? = some x := ⟨_, List.getElem?_eq_getElem h3⟩
    have hdx := drop_cons hx
    refine hw_skip ?_
    refine seqQ_n ?_
    refine hw_seq ?_
    refine hw_block ?_
    refine hw_reg ?_
    refine dp rfl (pop_idx ty26 ty30 rfl rfl rfl (by first | assumption | simp_all)) ?_
    refine dp rfl (pop_loadw ty30 rfl rfl rfl rfl) ?_
    refine de rfl (eop_alloc ty30 rfl fun b9 => ?_)
    refine de0 (eop_storew ty30 rfl rfl rfl rfl rfl ?_)
    refine dn ?_
    refine hw_ghost (Ghost.fc0 9 rfl) ?_
    refine hw_reg1 ?_
    refine dp rfl (pop_move rfl) ?_
    refine dp rfl (pop_loadw ty30 rfl rfl rfl rfl) ?_
    refine de0 (eop_updatekA (i := 0) (s := x) (v := true) ty71 ok30 rfl rfl rfl rfl ?_)
    refine dn ?_
    refine blockQ_n ?_
    refine seqQ_n ?_
    refine hw_reg1 ?_
    refine dp rfl (pop_add64 rfl rfl (by omega) (by omega)) ?_
    refine dp rfl (pop_move rfl) ?_
    refine dn ?_
    exact ⟨k + 1, ⟨by omega, trivial⟩, by dsimp only; omega, ⟨rfl, trivial⟩, (by repeat (first | exact keeps_refl | refine keeps_upd rfl ?_ | refine keeps_loop rfl rfl ?_)), perm_eq (by dsimp only; rw [lkM_snoc hx]; rfl)⟩
   ·try simp at h4
    have hnk : a.length ≤ k := by omega
    obtain rfl : k = a.length := by omega
    rw [List.take_length]
    refine hw_exit ?_
    refine seqQ_x ?_
    refine loopQ_x ?_
    refine blockQ_eq ?_
    refine seqQ_n ?_
    refine hw_reg ?_
    refine dp rfl (pop_assign rfl) ?_
    refine dn ?_
    refine hw_ghost (Ghost.arr_nil 9) ?_
    refine hw_seq ?_
    refine hw_reg ?_
    refine dp rfl (pop_move rfl) ?_
    refine dp rfl (pop_lenm ty26 rfl) ?_
    refine dp rfl (pop_move rfl) ?_
    refine dn ?_
    refine hw_block ?_
    refine hw_loopw2 [10, 12, 34, 35, 36, 37, 38, 39, 40, 41, 42, 43, 44, 45, 46] (fun (k : Nat) (u : Value) => [(34, .int .i64 k), (10, .raw u)]) (fun (k : Nat) (u : Value) => [.arr u 9 ((lackL a (b.take k)).map ePlay), .map m22 (kk ePlay (em HVal.bool (lkM a)))]) (fun (k : Nat) (u : Value) => k ≤ b.length ∧ (True)) (fun (k : Nat) (u : Value) => b.length - k) (0) (.slice none 0 0) ?_ ?_ ?_ ?_
    ·exact ⟨Nat.zero_le _, trivial⟩
    ·exact ⟨rfl, rfl, trivial⟩
    ·exact perm_eq rfl
    ·intro k u hinv
     obtain ⟨hk, -⟩ := hinv
     refine hw_reg ?_
     refine dp rfl (pop_lss rfl rfl) ?_
     refine dn ?_
     refine hw_seq ?_
     refine hw_cond rfl (fun h5 => ?_) (fun h6 => ?_)
     ·try simp at h5
      obtain ⟨x, hx⟩ : ∃ x, b[k]? = some x := ⟨_, List.getElem?_eq_getElem h5⟩
      have hdx := drop_cons hx
      refine hw_skip ?_
      refine seqQ_n ?_
      refine hw_seq ?_
      refine hw_block ?_
      refine hw_reg ?_
      refine dp rfl (pop_idx ty26 ty30 rfl rfl rfl (by first | assumption | simp_all)) ?_
      refine dp rfl (pop_loadw ty30 rfl rfl rfl rfl) ?_
      refine de rfl (eop_alloc ty30 rfl fun b12 => ?_)
      refine de0 (eop_storew ty30 rfl rfl rfl rfl rfl ?_)
      refine dn ?_
      refine hw_ghost (Ghost.fc0 12 rfl) ?_
      refine hw_reg ?_
      refine dp rfl (pop_move rfl) ?_
      refine dp rfl (pop_loadw ty30 rfl rfl rfl rfl) ?_
      refine de rfl (eop_lookupkA (i := 1) (s := x) (z0 := false) (f := HVal.bool) ty71 ok30 ty4 rfl rfl rfl rfl ?_)
      rw [lk_is]
      refine dp rfl (pop_not rfl) ?_
      refine dn ?_
      refine hw_cond rfl (fun h7 => ?_) (fun h8 => ?_)
      ·try simp at h7
       refine hw_reg1 ?_
       refine dp rfl (pop_move rfl) ?_
       refine dp rfl (pop_loadw ty30 rfl rfl rfl rfl) ?_
       refine dp rfl (pop_buildSlice (hs := [_]) ty26 ty30 rfl rfl (by decide) (by decide) rfl) ?_
       refine de rfl (eop_append (i := 0) ty26 ty30 rfl rfl rfl rfl rfl (by simp [flat, hcells]) (by have := lack_len a (b.take k); simp only [List.length_map, List.length_cons, List.length_nil, List.length_take] at *; omega) fun v45 => ?_)
       refine dp rfl (pop_assign rfl) ?_
       refine dn ?_
       refine blockQ_n ?_
       refine seqQ_n ?_
       refine hw_reg1 ?_
       refine dp rfl (pop_add64 rfl rfl (by omega) (by omega)) ?_
       refine dp rfl (pop_move rfl) ?_
       refine dn ?_
       exact ⟨k + 1, v45, ⟨by omega, trivial⟩, by dsimp only; omega, ⟨rfl, rfl, trivial⟩, (by repeat (first | exact keeps_refl | refine keeps_upd rfl ?_ | refine keeps_loop rfl rfl ?_)), perm_eq (by dsimp only; rw [lack_yes hx (by simp_all), List.map_append]; rfl)⟩
      ·try simp at h8
       refine hw_skip ?_
       refine blockQ_n ?_
       refine seqQ_n ?_
       refine hw_reg1 ?_
       refine dp rfl (pop_add64 rfl rfl (by omega) (by omega)) ?_
       refine dp rfl (pop_move rfl) ?_
       refine dn ?_
       exact ⟨k + 1, u, ⟨by omega, trivial⟩, by dsimp only; omega, ⟨rfl, rfl, trivial⟩, (by repeat (first | exact keeps_refl | refine keeps_upd rfl ?_ | refine keeps_loop rfl rfl ?_)), perm_eq (by dsimp only; rw [lack_no hx (by simp_all)])⟩
     ·try simp at h6
      have hnk : b.length ≤ k := by omega
      obtain rfl : k = b.length := by omega
      refine hw_exit ?_
      refine seqQ_x ?_
      refine loopQ2_x ?_
      refine blockQ_eq ?_
      refine seqQ_n ?_
      rw [List.take_length]
      refine hw_ghost (Ghost.only (i := 0) rfl) ?_
      refine hw_reg ?_
      refine dp rfl (pop_move rfl) ?_
      refine dp rfl (pop_assign rfl) ?_
      refine dp rfl (pop_assign rfl) ?_
      refine dn ?_
      refine hw_ret ?_
      first
      | exact ret_w rfl (weak_tup2 (by rw [LackL, if_pos (by simpa using h1)]; exact weak_nil 9) (Weak.refl _))
      | (refine ret_fa (M := []) 4 rfl rfl ?_
         have hz9 : LackE a b = 0 := by simpa [LackE] using h2
         rw [LackL, if_neg (by simpa using h2), hz9]; rfl)

end Go.Proofs.YtlankmahpaenhaaGreatDoor
end
