/- Part 2 of the proof: a program logic, contracts of functions and plain facts; no conditions. -/
import Derived.Test.YtmgbigiegjlieaaGreatDoorPPicksComeBack1
import Derived.Ground.Names2Prog
import Derived.Lib.Bytealg
import Derived.Lib.SlicesCompact
import Derived.Shelf.Slices.CompactS
import Derived.Shelf.Slices.Delete
import Derived.Shelf.Sort.Plain
import Derived.Shelf.Strconv.Atoi
import Derived.Shelf.Strconv.Itoa3
import Derived.Shelf.Strings.Prefix
import Derived.Sort.EncStr
import Derived.Sort.Grow
import Derived.Test.YtmgbigiegjlieaaGreatDoorProg
set_option linter.unusedVariables false
set_option linter.unusedSimpArgs false
section
namespace Go.Proofs.YtmgbigiegjlieaaGreatDoor
open Go.HL
set_option maxRecDepth 100000
set_option linter.unusedVariables false
set_option linter.unusedSimpArgs false
/-- benchwarmer/base.Rising -/
theorem c_base_Rising [Tracks] {l : List Str} (hl : l.length ≤ 1000000) : ConP Tryz.prog 182 [eSs l] (.int .i64 (rising1 l)) := by
 refine Con.of_body Tryz.func182 rfl Tryz.ntmps182 rfl rfl ?_
 refine hw_reg ?_
 refine dp rfl (pop_assign rfl) ?_
 refine dn ?_
 refine hw_seq ?_
 refine hw_reg ?_
 refine dp rfl (pop_move rfl) ?_
 refine dp rfl (pop_lenm ty26 rfl) ?_
 refine dp rfl (pop_move rfl) ?_
 refine dn ?_
 refine hw_block ?_
 refine hw_loopw [2, 3, 4, 7, 8, 9, 10, 11, 12, 13, 14, 15, 16, 17, 18, 19, 20, 21, 22, 23, 24, 25, 26] (fun (k : Nat) => [(7, .int .i64 k)]) (fun (k : Nat) => []) (fun (k : Nat) => k ≤ l.length ∧ (rising1 l = risingGo l k (l.drop k))) (fun (k : Nat) => l.length - k) (0) ?_ ?_ ?_ ?_
 ·exact ⟨Nat.zero_le _, rfl⟩
 ·exact ⟨rfl, trivial⟩
 ·exact List.Perm.refl _
 ·intro k hinv
  obtain ⟨hk, hg⟩ := hinv
  refine hw_reg ?_
  refine dp rfl (pop_lss rfl rfl) ?_
  refine dn ?_
  refine hw_seq ?_
  refine hw_cond rfl (fun h1 => ?_) (fun h2 => ?_)
  ·try simp at h1
   obtain ⟨x, hx⟩ : ∃ x, l[k]? = some x := ⟨_, List.getElem?_eq_getElem h1⟩
   have hdx := drop_cons hx
   rw [hdx] at hg
   refine hw_skip ?_
   refine seqQ_n ?_
   refine hw_seq ?_
   refine hw_block ?_
   refine hw_reg ?_
   refine dp rfl (pop_move rfl) ?_
   refine dp rfl (pop_idx ty26 ty9 rfl rfl rfl (by assumption)) ?_
   refine dp rfl (pop_load ty9 rfl rfl rfl) ?_
   refine dp rfl (pop_assign rfl) ?_
   refine dp rfl (pop_assign rfl) ?_
   refine dn ?_
   refine hw_seq ?_
   refine hw_reg ?_
   refine dp rfl (pop_move rfl) ?_
   refine dp rfl (pop_call ca104 rfl (WeakL.refl _) c_base_Key) ?_
   refine dp rfl (pop_not rfl) ?_
   refine dn ?_
   refine hw_cond rfl (fun h3 => ?_) (fun h4 => ?_)
   ·try simp at h3
    refine hw_reg ?_
    refine dp rfl (pop_assign rfl) ?_
    refine dn ?_
    refine hw_ret ?_
    refine ret_p rfl ?_
    show HVal.int .i64 _ = _
    rw [hg]; simp_all [risingGo, leS]
   ·try simp at h4
    refine hw_skip ?_
    refine seqQ_n ?_
    refine hw_reg ?_
    refine dp rfl (pop_move rfl) ?_
    refine dp rfl (pop_gtr rfl rfl) ?_
    refine dp rfl (pop_move rfl) ?_
    refine dg rfl rfl (fun hc => ⟨_, OpenTo.refl _, pop_move rfl⟩) ?_
    refine dg rfl rfl (fun hc => ⟨_, OpenTo.refl _, pop_move rfl⟩) ?_
    refine dg rfl rfl (fun hc => ⟨_, OpenTo.refl _, pop_move rfl⟩) ?_
    refine dg rfl rfl (fun hc => by have hq := hc; (try simp at hq); exact ⟨_, OpenTo.upd (t := 20) rfl (hc) (OpenTo.refl _), pop_sub64 rfl rfl (by omega) (by omega)⟩) ?_
    refine dg rfl rfl (fun hc => by have hq := hc; (try simp at hq); exact ⟨_, OpenTo.upd (t := 21) rfl (hc) (OpenTo.upd (t := 19) rfl (hc) (OpenTo.refl _)), pop_idx (j := k - 1) (a := l.getD (k - 1) []) ty26 ty9 rfl rfl (by omega) (getD_some (by omega))⟩) ?_
    refine dg rfl rfl (fun hc => ⟨_, OpenTo.upd (t := 22) rfl (hc) (OpenTo.refl _), pop_load ty9 rfl rfl rfl⟩) ?_
    refine dg rfl rfl (fun hc => ⟨_, OpenTo.upd (t := 23) rfl (hc) (OpenTo.upd (t := 18) rfl (hc) (OpenTo.refl _)), pop_leqs rfl rfl⟩) ?_
    refine dp rfl (pop_picko rfl (.inr ⟨_, rfl, fun h => by simp_all⟩) (.inl rfl)) ?_
    refine dn ?_
    refine hw_cond rfl (fun h5 => ?_) (fun h6 => ?_)
    ·try simp at h5
     refine hw_reg ?_
     refine dp rfl (pop_assign rfl) ?_
     refine dn ?_
     refine hw_ret ?_
     refine ret_p rfl ?_
     show HVal.int .i64 _ = _
     rw [hg]; simp_all [risingGo, leS]
    ·try simp at h6
     refine hw_skip ?_
     refine blockQ_n ?_
     refine seqQ_n ?_
     refine hw_reg1 ?_
     refine dp rfl (pop_add64 rfl rfl (by omega) (by omega)) ?_
     refine dp rfl (pop_move rfl) ?_
     refine dn ?_
     refine ⟨k + 1, ?_, ?_, ⟨rfl, trivial⟩, (by repeat (first | exact keeps_refl | refine keeps_upd rfl ?_ | refine keeps_loop rfl rfl ?_)), List.Perm.refl _⟩
     ·refine ⟨by omega, ?_⟩
      rw [hg]; simp_all [risingGo, leS]
     ·dsimp only; omega
  ·try simp at h2
   have hnk : l.length ≤ k := by omega
   obtain rfl : k = l.length := by omega
   rw [drop_all (Nat.le_refl _)] at hg
   refine hw_exit ?_
   refine seqQ_x ?_
   refine loopQ_x ?_
   refine blockQ_eq ?_
   refine seqQ_n ?_
   refine hw_reg ?_
   refine dp rfl (pop_assign rfl) ?_
   refine dn ?_
   refine hw_ret ?_
   refine ret_p rfl ?_
   show HVal.int .i64 _ = _
   rw [hg]; simp_all [risingGo, leS]

/-- benchwarmer/draft.teamsFault -/
theorem c_draft_teamsFault [Tracks] {l : List Str} (hl : l.length ≤ 1000000) : ConP Tryz.prog 150 [eSs l] (.int .i64 (teamsFault l)) := by
 refine Con.of_body Tryz.func150 rfl Tryz.ntmps150 rfl rfl ?_
 refine hw_reg ?_
 refine dp rfl (pop_assign rfl) ?_
 refine dn ?_
 refine hw_seq ?_
 refine hw_block ?_
 refine hw_reg ?_
 refine dp rfl (pop_move rfl) ?_
 refine dp rfl (pop_lenm ty26 rfl) ?_
 refine dp rfl (pop_eql rfl rfl) ?_
 refine dp rfl (pop_assign rfl) ?_
 refine dn ?_
 refine hw_cond rfl (fun h1 => ?_) (fun h2 => ?_)
 ·try simp at h1
  refine hw_reg ?_
  refine dp rfl (pop_assign rfl) ?_
  refine dn ?_
  refine hw_ret ?_
  refine ret_p rfl ?_
  show HVal.int .i64 _ = _
  (rw [teamsFault, if_pos (by simp_all)]; done)
 ·try simp at h2
  refine hw_reg ?_
  refine dp rfl (pop_move rfl) ?_
  refine dp rfl (pop_lenm ty26 rfl) ?_
  refine dp rfl (pop_gtr rfl rfl) ?_
  refine dp rfl (pop_assign rfl) ?_
  refine dn ?_
  refine hw_cond rfl (fun h3 => ?_) (fun h4 => ?_)
  ·try simp at h3
   refine hw_reg ?_
   refine dp rfl (pop_assign rfl) ?_
   refine dn ?_
   refine hw_ret ?_
   refine ret_p rfl ?_
   show HVal.int .i64 _ = _
   (rw [teamsFault, if_neg (by simp_all), if_pos (by omega)]; done)
  ·try simp at h4
   refine hw_skip ?_
   refine blockQ_n ?_
   refine seqQ_n ?_
   refine hw_seq ?_
   refine hw_reg ?_
   refine dp rfl (pop_move rfl) ?_
   refine dp rfl (pop_lenm ty26 rfl) ?_
   refine dp rfl (pop_move rfl) ?_
   refine dn ?_
   refine hw_block ?_
   refine hw_loopw [2, 3, 4, 15, 16, 17, 18, 19, 20, 21, 22, 23, 24, 25, 26, 27, 28] (fun (k : Nat) => [(15, .int .i64 k)]) (fun (k : Nat) => []) (fun (k : Nat) => k ≤ l.length ∧ (teamsFault l = teamsGo l k (l.drop k))) (fun (k : Nat) => l.length - k) (0) ?_ ?_ ?_ ?_
   ·refine ⟨Nat.zero_le _, ?_⟩
    rw [teamsFault, if_neg (by simp_all), if_neg (by omega)]; rfl
   ·exact ⟨rfl, trivial⟩
   ·exact List.Perm.refl _
   ·intro k hinv
    obtain ⟨hk, hg⟩ := hinv
    refine hw_reg ?_
    refine dp rfl (pop_lss rfl rfl) ?_
    refine dn ?_
    refine hw_seq ?_
    refine hw_cond rfl (fun h5 => ?_) (fun h6 => ?_)
    ·try simp at h5
     obtain ⟨x, hx⟩ : ∃ x, l[k]? = some x := ⟨_, List.getElem?_eq_getElem h5⟩
     have hdx := drop_cons hx
     rw [hdx] at hg
     refine hw_skip ?_
     refine seqQ_n ?_
     refine hw_seq ?_
     refine hw_block ?_
     refine hw_reg ?_
     refine dp rfl (pop_move rfl) ?_
     refine dp rfl (pop_idx ty26 ty9 rfl rfl rfl (by assumption)) ?_
     refine dp rfl (pop_load ty9 rfl rfl rfl) ?_
     refine dp rfl (pop_assign rfl) ?_
     refine dp rfl (pop_assign rfl) ?_
     refine dn ?_
     refine hw_seq ?_
     refine hw_reg ?_
     refine dp rfl (pop_move rfl) ?_
     refine dp rfl (pop_call ca104 rfl (WeakL.refl _) c_base_Key) ?_
     refine dp rfl (pop_not rfl) ?_
     refine dn ?_
     refine hw_cond rfl (fun h7 => ?_) (fun h8 => ?_)
     ·try simp at h7
      refine hw_reg ?_
      refine dp rfl (pop_assign rfl) ?_
      refine dn ?_
      refine hw_ret ?_
      refine ret_p rfl ?_
      show HVal.int .i64 _ = _
      (rw [hg]; simp_all [teamsGo]; done)
     ·try simp at h8
      refine hw_skip ?_
      refine seqQ_n ?_
      refine hw_reg ?_
      refine dp rfl (pop_move rfl) ?_
      refine dp rfl (pop_move rfl) ?_
      refine dp rfl (pop_slicem ty26 ty9 rfl rfl ⟨_, _, rfl, rfl⟩ (by omega) (by omega)) ?_
      refine dp rfl (pop_move rfl) ?_
      refine dp rfl (pop_call ca42 rfl (WeakL.refl _) (c_slices_Contains_string_string (by simp; omega))) ?_
      refine dn ?_
      refine hw_cond rfl (fun h9 => ?_) (fun h10 => ?_)
      ·try simp at h9
       refine hw_reg ?_
       refine dp rfl (pop_assign rfl) ?_
       refine dn ?_
       refine hw_ret ?_
       refine ret_p rfl ?_
       show HVal.int .i64 _ = _
       (rw [hg]; simp_all [teamsGo]; done)
      ·try simp at h10
       refine hw_skip ?_
       refine blockQ_n ?_
       refine seqQ_n ?_
       refine hw_reg1 ?_
       refine dp rfl (pop_add64 rfl rfl (by omega) (by omega)) ?_
       refine dp rfl (pop_move rfl) ?_
       refine dn ?_
       refine ⟨k + 1, ?_, ?_, ⟨rfl, trivial⟩, (by repeat (first | exact keeps_refl | refine keeps_upd rfl ?_ | refine keeps_loop rfl rfl ?_)), List.Perm.refl _⟩
       ·refine ⟨by omega, ?_⟩
        rw [hg]; simp_all [teamsGo]
       ·dsimp only; omega
    ·try simp at h6
     have hnk : l.length ≤ k := by omega
     obtain rfl : k = l.length := by omega
     rw [drop_all (Nat.le_refl _)] at hg
     refine hw_exit ?_
     refine seqQ_x ?_
     refine loopQ_x ?_
     refine blockQ_eq ?_
     refine seqQ_n ?_
     refine hw_reg ?_
     refine dp rfl (pop_assign rfl) ?_
     refine dn ?_
     refine hw_ret ?_
     refine ret_p rfl ?_
     show HVal.int .i64 _ = _
     (rw [hg]; simp_all [teamsGo]; done)

/-- benchwarmer/draft.playersFault -/
theorem c_draft_playersFault [Tracks] {l : List Str} (hl : l.length ≤ 1000000) : ConP Tryz.prog 151 [eSs l] (.int .i64 (playersFault l)) := by
 refine Con.of_body Tryz.func151 rfl Tryz.ntmps151 rfl rfl ?_
 refine hw_reg ?_
 refine dp rfl (pop_assign rfl) ?_
 refine dn ?_
 refine hw_seq ?_
 refine hw_reg ?_
 refine dp rfl (pop_move rfl) ?_
 refine dp rfl (pop_lenm ty26 rfl) ?_
 refine dp rfl (pop_gtr rfl rfl) ?_
 refine dn ?_
 refine hw_cond rfl (fun h1 => ?_) (fun h2 => ?_)
 ·try simp at h1
  refine hw_reg ?_
  refine dp rfl (pop_assign rfl) ?_
  refine dn ?_
  refine hw_ret ?_
  refine ret_p rfl ?_
  show HVal.int .i64 _ = _
  unfold playersFault
  split <;> first | rfl | (exfalso; omega)
 ·try simp at h2
  refine hw_skip ?_
  refine seqQ_n ?_
  refine hw_reg ?_
  refine dp rfl (pop_move rfl) ?_
  refine dp rfl (pop_call ca182 rfl (WeakL.refl _) (c_base_Rising (by assumption))) ?_
  refine dp rfl (pop_assign rfl) ?_
  refine dn ?_
  refine hw_ret ?_
  refine ret_p rfl ?_
  show HVal.int .i64 _ = _
  unfold playersFault
  split <;> first | rfl | (exfalso; omega)

/-- benchwarmer/draft.CheckRoom -/
theorem c_draft_CheckRoom [Tracks] {r : Room} (ht : r.Teams.length ≤ 1000000) (hp : r.Players.length ≤ 1000000) : ConP Tryz.prog 115 [eRoom r] (.int .i64 (checkRoom r)) := by
 refine Con.of_body Tryz.func115 rfl Tryz.ntmps115 rfl rfl ?_
 refine hw_reg ?_
 refine dp rfl (pop_box rfl rfl) ?_
 refine dp rfl (pop_assign rfl) ?_
 refine dn ?_
 refine hw_seq ?_
 refine hw_reg ?_
 refine dp rfl (pop_fieldAddr ty28 rfl ty26 (by decide) rfl) ?_
 refine dp rfl (pop_load ty26 rfl rfl rfl) ?_
 refine dp rfl (pop_call ca150 rfl (WeakL.refl _) (c_draft_teamsFault (by assumption))) ?_
 refine dp rfl (pop_assign rfl) ?_
 refine dn ?_
 refine hw_reg ?_
 refine dp rfl (pop_move rfl) ?_
 refine dp rfl (pop_neq rfl rfl) ?_
 refine dn ?_
 refine hw_cond rfl (fun h1 => ?_) (fun h2 => ?_)
 ·try simp at h1
  refine hw_reg ?_
  refine dp rfl (pop_move rfl) ?_
  refine dp rfl (pop_assign rfl) ?_
  refine dn ?_
  refine hw_ret ?_
  refine ret_p rfl ?_
  show HVal.int .i64 _ = _
  simp_all [checkRoom]
 ·try simp at h2
  refine hw_skip ?_
  refine seqQ_n ?_
  refine hw_seq ?_
  refine hw_block ?_
  refine hw_reg ?_
  refine dp rfl (pop_fieldAddr ty28 rfl ty3 (by decide) rfl) ?_
  refine dp rfl (pop_load ty3 rfl rfl rfl) ?_
  refine dp rfl (pop_call ca68 rfl (WeakL.refl _) c_base_Out) ?_
  refine dp rfl (pop_assign rfl) ?_
  refine dn ?_
  refine hw_cond rfl (fun h3 => ?_) (fun h4 => ?_)
  ·try simp at h3
   refine hw_reg ?_
   refine dp rfl (pop_assign rfl) ?_
   refine dn ?_
   refine hw_ret ?_
   refine ret_p rfl ?_
   show HVal.int .i64 _ = _
   simp_all [checkRoom]
  ·try simp at h4
   refine hw_reg ?_
   refine dp rfl (pop_fieldAddr ty28 rfl ty3 (by decide) rfl) ?_
   refine dp rfl (pop_load ty3 rfl rfl rfl) ?_
   refine dp rfl (pop_call ca68 rfl (WeakL.refl _) c_base_Out) ?_
   refine dp rfl (pop_assign rfl) ?_
   refine dn ?_
   refine hw_cond rfl (fun h5 => ?_) (fun h6 => ?_)
   ·try simp at h5
    refine hw_reg ?_
    refine dp rfl (pop_assign rfl) ?_
    refine dn ?_
    refine hw_ret ?_
    refine ret_p rfl ?_
    show HVal.int .i64 _ = _
    simp_all [checkRoom]
   ·try simp at h6
    refine hw_skip ?_
    refine blockQ_n ?_
    refine seqQ_n ?_
    refine hw_seq ?_
    refine hw_reg ?_
    refine dp rfl (pop_fieldAddr ty28 rfl ty26 (by decide) rfl) ?_
    refine dp rfl (pop_load ty26 rfl rfl rfl) ?_
    refine dp rfl (pop_call ca151 rfl (WeakL.refl _) (c_draft_playersFault (by assumption))) ?_
    refine dp rfl (pop_assign rfl) ?_
    refine dn ?_
    refine hw_reg ?_
    refine dp rfl (pop_move rfl) ?_
    refine dp rfl (pop_neq rfl rfl) ?_
    refine dn ?_
    refine hw_cond rfl (fun h7 => ?_) (fun h8 => ?_)
    ·try simp at h7
     refine hw_reg ?_
     refine dp rfl (pop_move rfl) ?_
     refine dp rfl (pop_assign rfl) ?_
     refine dn ?_
     refine hw_ret ?_
     refine ret_p rfl ?_
     show HVal.int .i64 _ = _
     simp_all [checkRoom]
    ·try simp at h8
     refine hw_skip ?_
     refine seqQ_n ?_
     refine hw_seq ?_
     refine hw_block ?_
     refine hw_reg ?_
     refine dp rfl (pop_fieldAddr ty28 rfl ty3 (by decide) rfl) ?_
     refine dp rfl (pop_load ty3 rfl rfl rfl) ?_
     refine dp rfl (pop_call ca68 rfl (WeakL.refl _) c_base_Out) ?_
     refine dp rfl (pop_move rfl) ?_
     refine dg rfl rfl (fun hc => ⟨_, OpenTo.refl _, pop_fieldAddr ty28 rfl ty3 (by decide) rfl⟩) ?_
     refine dg rfl rfl (fun hc => ⟨_, OpenTo.upd (t := 30) rfl (hc) (OpenTo.refl _), pop_load ty3 rfl rfl rfl⟩) ?_
     refine dg rfl rfl (fun hc => ⟨_, OpenTo.upd (t := 31) rfl (hc) (OpenTo.refl _), pop_call ca80 rfl (WeakL.refl _) c_base_Moment⟩) ?_
     refine dg rfl rfl (fun hc => ⟨_, OpenTo.upd (t := 32) rfl (hc) (OpenTo.refl _), pop_not rfl⟩) ?_
     refine dp rfl (pop_picko rfl (.inl rfl) (.inr ⟨_, rfl, fun h => by simp_all⟩)) ?_
     refine dp rfl (pop_assign rfl) ?_
     refine dn ?_
     refine hw_cond rfl (fun h9 => ?_) (fun h10 => ?_)
     ·try simp at h9
      refine hw_reg ?_
      refine dp rfl (pop_assign rfl) ?_
      refine dn ?_
      refine hw_ret ?_
      refine ret_p rfl ?_
      show HVal.int .i64 _ = _
      simp_all [checkRoom]
     ·try simp at h10
      refine hw_reg ?_
      refine dp rfl (pop_fieldAddr ty28 rfl ty26 (by decide) rfl) ?_
      refine dp rfl (pop_load ty26 rfl rfl rfl) ?_
      refine dp rfl (pop_lenm ty26 rfl) ?_
      refine dp rfl (pop_fieldAddr ty28 rfl ty26 (by decide) rfl) ?_
      refine dp rfl (pop_load ty26 rfl rfl rfl) ?_
      refine dp rfl (pop_lenm ty26 rfl) ?_
      refine dp rfl (pop_fieldAddr ty28 rfl ty3 (by decide) rfl) ?_
      refine dp rfl (pop_load ty3 rfl rfl rfl) ?_
      have hR := out_f (n := r.Rounds) (lo := 1) (hi := 30) (by simp_all)
      have hm := mul_bd (a := (r.Teams.length : Int)) (b := r.Rounds) (A := 1000000) (B := 30) (by omega) (by omega) (by omega) (by omega)
      refine dp rfl (pop_mul64 rfl rfl (by omega) (by omega)) ?_
      refine dp rfl (pop_lss rfl rfl) ?_
      refine dp rfl (pop_assign rfl) ?_
      refine dn ?_
      refine hw_cond rfl (fun h11 => ?_) (fun h12 => ?_)
      ·try simp at h11
       refine hw_reg ?_
       refine dp rfl (pop_assign rfl) ?_
       refine dn ?_
       refine hw_ret ?_
       refine ret_p rfl ?_
       show HVal.int .i64 _ = _
       simp_all [checkRoom]
      ·try simp at h12
       refine hw_skip ?_
       refine blockQ_n ?_
       refine seqQ_n ?_
       refine hw_reg ?_
       refine dp rfl (pop_assign rfl) ?_
       refine dn ?_
       refine hw_ret ?_
       refine ret_p rfl ?_
       show HVal.int .i64 _ = _
       simp_all [checkRoom]

/-- benchwarmer/draft.backwards -/
theorem c_draft_backwards [Tracks] {way round : Int}  : ConP Tryz.prog 119 [.int .i64 way, .int .i64 round] (.bool (backwards way round)) := by
 refine Con.of_body Tryz.func119 rfl Tryz.ntmps119 rfl rfl ?_
 refine hw_reg ?_
 refine dp rfl (pop_assign rfl) ?_
 refine dn ?_
 refine hw_seq ?_
 refine hw_reg ?_
 refine dp rfl (pop_move rfl) ?_
 refine dn ?_
 refine hw_block ?_
 refine hw_reg ?_
 refine dp rfl (pop_eql rfl rfl) ?_
 refine dp rfl (pop_assign rfl) ?_
 refine dn ?_
 refine hw_cond rfl (fun h1 => ?_) (fun h2 => ?_)
 ·try simp at h1
  refine hw_reg ?_
  refine dp rfl (pop_move rfl) ?_
  refine dp rfl (pop_rem rfl rfl (by omega)) ?_
  refine dp rfl (pop_eql rfl rfl) ?_
  refine dp rfl (pop_assign rfl) ?_
  refine dn ?_
  refine hw_ret ?_
  refine ret_p rfl ?_
  show HVal.bool _ = _
  simp_all [backwards]
 ·try simp at h2
  refine hw_reg ?_
  refine dp rfl (pop_eql rfl rfl) ?_
  refine dp rfl (pop_assign rfl) ?_
  refine dn ?_
  refine hw_cond rfl (fun h3 => ?_) (fun h4 => ?_)
  ·try simp at h3
   refine hw_reg ?_
   refine dp rfl (pop_move rfl) ?_
   refine dp rfl (pop_eql rfl rfl) ?_
   refine dp rfl (pop_move rfl) ?_
   refine dg rfl rfl (fun hc => ⟨_, OpenTo.refl _, pop_move rfl⟩) ?_
   refine dg rfl rfl (fun hc => ⟨_, OpenTo.upd (t := 16) rfl (hc) (OpenTo.refl _), pop_gtr rfl rfl⟩) ?_
   refine dg rfl rfl (fun hc => ⟨_, OpenTo.upd (t := 17) rfl (hc) (OpenTo.refl _), pop_move rfl⟩) ?_
   refine dg rfl rfl (fun hc => ⟨_, OpenTo.refl _, pop_move rfl⟩) ?_
   refine dg rfl rfl (fun hc => by have hq := hc; (try simp at hq); exact ⟨_, OpenTo.upd (t := 19) rfl (hc) (OpenTo.refl _), pop_rem rfl rfl (by omega)⟩) ?_
   refine dg rfl rfl (fun hc => ⟨_, OpenTo.upd (t := 20) rfl (hc) (OpenTo.refl _), pop_eql rfl rfl⟩) ?_
   refine dg rfl rfl (fun hc => ⟨_, OpenTo.upd (t := 18) rfl (hc) (OpenTo.refl _), pop_picko rfl (.inr ⟨_, rfl, fun h => by simp_all⟩) (.inl rfl)⟩) ?_
   refine dp rfl (pop_picko rfl (.inl rfl) (.inr ⟨_, rfl, fun h => by simp_all⟩)) ?_
   refine dp rfl (pop_assign rfl) ?_
   refine dn ?_
   refine hw_ret ?_
   refine ret_p rfl ?_
   show HVal.bool _ = _
   simp_all [backwards]
  ·try simp at h4
   refine hw_skip ?_
   refine blockQ_n ?_
   refine seqQ_n ?_
   refine hw_reg ?_
   refine dp rfl (pop_assign rfl) ?_
   refine dn ?_
   refine hw_ret ?_
   refine ret_p rfl ?_
   show HVal.bool _ = _
   simp_all [backwards]

/-- benchwarmer/draft.owner -/
theorem c_draft_owner [Tracks] {l : List Swap} {round : Int} {of : Str} (hl : l.length ≤ 1000000) : ConP Tryz.prog 121 [eSwaps l, .int .i64 round, .str of] (.str (owner round of l)) := by
 refine Con.of_body Tryz.func121 rfl Tryz.ntmps121 rfl rfl ?_
 refine hw_reg ?_
 refine dp rfl (pop_assign rfl) ?_
 refine dn ?_
 refine hw_seq ?_
 refine hw_reg ?_
 refine dp rfl (pop_move rfl) ?_
 refine dp rfl (pop_lenm ty53 rfl) ?_
 refine dp rfl (pop_move rfl) ?_
 refine dn ?_
 refine hw_block ?_
 refine hw_loopw [6, 8, 11, 12, 13, 14, 15, 16, 17, 18, 19, 20, 21, 22, 23, 24, 25, 26, 27] (fun (k : Nat) => [(11, .int .i64 k)]) (fun (k : Nat) => []) (fun (k : Nat) => k ≤ l.length ∧ (owner round of l = owner round of (l.drop k))) (fun (k : Nat) => l.length - k) (0) ?_ ?_ ?_ ?_
 ·exact ⟨Nat.zero_le _, by simp_all⟩
 ·exact ⟨rfl, trivial⟩
 ·exact List.Perm.refl _
 ·intro k hinv
  obtain ⟨hk, hg⟩ := hinv
  refine hw_reg ?_
  refine dp rfl (pop_lss rfl rfl) ?_
  refine dn ?_
  refine hw_seq ?_
  refine hw_cond rfl (fun h1 => ?_) (fun h2 => ?_)
  ·try simp at h1
   obtain ⟨x, hx⟩ : ∃ x, l[k]? = some x := ⟨_, List.getElem?_eq_getElem h1⟩
   have hdx := drop_cons hx
   rw [hdx] at hg
   refine hw_skip ?_
   refine seqQ_n ?_
   refine hw_seq ?_
   refine hw_block ?_
   refine hw_reg ?_
   refine dp rfl (pop_idx ty53 ty140 rfl rfl rfl (by assumption)) ?_
   refine dp rfl (pop_loadw ty140 rfl rfl rfl rfl) ?_
   refine de rfl (eop_alloc ty140 rfl fun b8 => ?_)
   refine de0 (eop_storew ty140 rfl rfl rfl rfl rfl ?_)
   refine dn ?_
   refine hw_ghost (Ghost.fc0 8 rfl) ?_
   refine hw_reg ?_
   refine dp rfl (pop_fieldAddr ty140 rfl ty3 (by decide) rfl) ?_
   refine dp rfl (pop_load ty3 rfl rfl rfl) ?_
   refine dp rfl (pop_move rfl) ?_
   refine dp rfl (pop_eql rfl rfl) ?_
   refine dp rfl (pop_move rfl) ?_
   refine dg rfl rfl (fun hc => ⟨_, OpenTo.refl _, pop_fieldAddr ty140 rfl ty9 (by decide) rfl⟩) ?_
   refine dg rfl rfl (fun hc => ⟨_, OpenTo.upd (t := 20) rfl (hc) (OpenTo.refl _), pop_load ty9 rfl rfl rfl⟩) ?_
   refine dg rfl rfl (fun hc => ⟨_, OpenTo.refl _, pop_move rfl⟩) ?_
   refine dg rfl rfl (fun hc => ⟨_, OpenTo.upd (t := 22) rfl (hc) (OpenTo.upd (t := 21) rfl (hc) (OpenTo.refl _)), pop_eqls rfl rfl⟩) ?_
   refine dp rfl (pop_picko rfl (.inr ⟨_, rfl, fun h => by simp_all⟩) (.inl rfl)) ?_
   refine dn ?_
   refine hw_cond rfl (fun h3 => ?_) (fun h4 => ?_)
   ·try simp at h3
    refine hw_reg ?_
    refine dp rfl (pop_fieldAddr ty140 rfl ty9 (by decide) rfl) ?_
    refine dp rfl (pop_load ty9 rfl rfl rfl) ?_
    refine dp rfl (pop_assign rfl) ?_
    refine dn ?_
    refine hw_ret ?_
    refine ret_p rfl ?_
    show HVal.str _ = _
    rw [hg]; simp_all [owner]
   ·try simp at h4
    refine hw_skip ?_
    refine blockQ_n ?_
    refine seqQ_n ?_
    refine hw_reg1 ?_
    refine dp rfl (pop_add64 rfl rfl (by omega) (by omega)) ?_
    refine dp rfl (pop_move rfl) ?_
    refine dn ?_
    refine ⟨k + 1, ?_, ?_, ⟨rfl, trivial⟩, (by repeat (first | exact keeps_refl | refine keeps_upd rfl ?_ | refine keeps_loop rfl rfl ?_)), List.Perm.refl _⟩
    ·refine ⟨by omega, ?_⟩
     rw [hg]; simp_all [owner]
    ·dsimp only; omega
  ·try simp at h2
   have hnk : l.length ≤ k := by omega
   obtain rfl : k = l.length := by omega
   rw [drop_all (Nat.le_refl _)] at hg
   refine hw_exit ?_
   refine seqQ_x ?_
   refine loopQ_x ?_
   refine blockQ_eq ?_
   refine seqQ_n ?_
   refine hw_reg ?_
   refine dp rfl (pop_move rfl) ?_
   refine dp rfl (pop_assign rfl) ?_
   refine dn ?_
   refine hw_ret ?_
   refine ret_p rfl ?_
   show HVal.str _ = _
   rw [hg]; simp_all [owner]
end Go.Proofs.YtmgbigiegjlieaaGreatDoor
end
section
namespace Go.HL
open Op (bytesLess)
def cmpI (a b : Int) : Int := if a < b then -1 else if b < a then 1 else 0
def orI : List Int → Int
 | [] => 0
 | x :: r => if x ≠ 0 then x else orI r
abbrev cmpS (a b : Str) : Int := Lib.compareBytes a b

theorem less_irrefl : ∀ a : Str, bytesLess a a = false
 | [] => rfl
 | x :: r => by simp [bytesLess, less_irrefl r]
theorem less_trans : ∀ {a b c : Str}, bytesLess a b = true → bytesLess b c = true → bytesLess a c = true
 | _, [], _, h, _ => by simp [bytesLess] at h
 | _, _ :: _, [], _, h => by simp [bytesLess] at h
 | [], _ :: _, _ :: _, _, _ => by simp [bytesLess]
 | x :: a, y :: b, z :: c, h1, h2 => by
   simp only [bytesLess, Bool.or_eq_true, decide_eq_true_eq, Bool.and_eq_true, beq_iff_eq] at h1 h2 ⊢
   rcases h1 with h1 | ⟨rfl, h1⟩
   ·rcases h2 with h2 | ⟨rfl, h2⟩
    ·exact .inl (UInt8.lt_trans h1 h2)
    ·exact .inl h1
   ·rcases h2 with h2 | ⟨rfl, h2⟩
    ·exact .inl h2
    ·exact .inr ⟨rfl, less_trans h1 h2⟩
theorem less_total : ∀ a b : Str, bytesLess a b = true ∨ a = b ∨ bytesLess b a = true
 | [], [] => .inr (.inl rfl)
 | [], _ :: _ => .inl (by simp [bytesLess])
 | _ :: _, [] => .inr (.inr (by simp [bytesLess]))
 | x :: a, y :: b => by
   rcases UInt8.lt_or_lt_of_ne' x y with h | h | h
   ·exact .inl (by simp [bytesLess, h])
   ·subst h
    rcases less_total a b with h | h | h
    ·exact .inl (by simp [bytesLess, h])
    ·exact .inr (.inl (by rw [h]))
    ·exact .inr (.inr (by simp [bytesLess, h]))
   ·exact .inr (.inr (by simp [bytesLess, h]))
where
 UInt8.lt_or_lt_of_ne' (x y : UInt8) : x < y ∨ x = y ∨ y < x := by
  rcases Nat.lt_trichotomy x.toNat y.toNat with h | h | h
  ·exact .inl (UInt8.lt_iff_toNat_lt.2 h)
  ·exact .inr (.inl (UInt8.toNat_inj.1 h))
  ·exact .inr (.inr (UInt8.lt_iff_toNat_lt.2 h))
theorem less_asymm {a b : Str} (h : bytesLess a b = true) : bytesLess b a = false := by
 cases h2 : bytesLess b a with
 | false => rfl
 | true => have := less_trans h h2; rw [less_irrefl] at this; cases this
theorem leS_iff {a b : Str} : leS a b = !(bytesLess b a) := by
 unfold leS
 rcases less_total a b with h | h | h
 ·simp [h, less_asymm h]
 ·subst h; simp [less_irrefl]
 ·have hne : a ≠ b := fun e => by subst e; rw [less_irrefl] at h; cases h
  simp [h, less_asymm h, hne]
theorem cmpS_eq : ∀ a b : Str, cmpS a b = if bytesLess a b then -1 else if a = b then 0 else 1
 | [], [] => rfl
 | [], _ :: _ => rfl
 | _ :: _, [] => rfl
 | x :: a, y :: b => by
   have ih := cmpS_eq a b
   simp only [cmpS, Lib.compareBytes] at ih ⊢
   by_cases h1 : x < y
   ·simp [bytesLess, h1]
   ·by_cases h2 : y < x
    ·have hne : ¬ x = y := fun e => by subst e; exact absurd h2 h1
     simp [bytesLess, h1, h2, hne]
    ·have he : x = y := by
      rcases Nat.lt_trichotomy x.toNat y.toNat with h | h | h
      ·exact absurd (UInt8.lt_iff_toNat_lt.2 h) h1
      ·exact UInt8.toNat_inj.1 h
      ·exact absurd (UInt8.lt_iff_toNat_lt.2 h) h2
     subst he
     simp [bytesLess, h1, ih]

def SortedS (l : List Str) : Prop := List.Pairwise (fun a b => bytesLess a b = true) l
/-- slices.IndexFunc -/
def idxF {α : Type} (p : α → Bool) : List α → Int → Int
 | [], _ => -1
 | x :: r, k => if p x then k else idxF p r (k + 1)
theorem idxF_nonneg {α : Type} (p : α → Bool) : ∀ (l : List α) (k : Int), 0 ≤ k → decide (0 ≤ idxF p l k) = l.any p
 | [], k, h => by simp [idxF]
 | x :: r, k, h => by
   have ih := idxF_nonneg p r (k + 1) (by omega)
   by_cases hx : p x = true
   ·simp [idxF, hx, h]
   ·have e1 : idxF p (x :: r) k = idxF p r (k + 1) := by simp [idxF, hx]
    rw [e1, ih]; simp [hx]
def eqPick (a b : Pick) : Bool := eqHL (hcells (ePick a)) (hcells (ePick b))
def eqPicks : List Pick → List Pick → Bool
 | [], [] => true
 | a :: r, b :: r' => eqPick a b && eqPicks r r'
 | _, _ => false
theorem eqPicks_len : ∀ {l m : List Pick}, l.length ≠ m.length → eqPicks l m = false
 | [], [], h => absurd rfl h
 | [], _ :: _, _ => rfl
 | _ :: _, [], _ => rfl
 | a :: r, b :: r', h => by simp [eqPicks, eqPicks_len (l := r) (m := r') (by simpa using h)]
end Go.HL
end
section
namespace Go.Proofs.YtmgbigiegjlieaaGreatDoor
open Go.HL
set_option maxRecDepth 100000
set_option linter.unusedVariables false
set_option linter.unusedSimpArgs false
/-- cmp.isNaN[int] -/
theorem c_cmp_isNaN_int [Tracks] {n : Int}  : ConP Tryz.prog 152 [.int .i64 n] (.bool false) := by
 refine Con.of_body Tryz.func152 rfl Tryz.ntmps152 rfl rfl ?_
 refine hw_reg ?_
 refine dp rfl (pop_assign rfl) ?_
 refine dn ?_
 refine hw_reg ?_
 refine dp rfl (pop_move rfl) ?_
 refine dp rfl (pop_move rfl) ?_
 refine dp rfl (pop_neq rfl rfl) ?_
 refine dp rfl (pop_assign rfl) ?_
 refine dn ?_
 refine hw_ret ?_
 refine ret_p rfl ?_
 simp

/-- cmp.Compare[int] -/
theorem c_cmp_Compare_int [Tracks] {a b : Int}  : ConP Tryz.prog 117 [.int .i64 a, .int .i64 b] (.int .i64 (cmpI a b)) := by
 refine Con.of_body Tryz.func117 rfl Tryz.ntmps117 rfl rfl ?_
 refine hw_reg ?_
 refine dp rfl (pop_assign rfl) ?_
 refine dn ?_
 refine hw_reg ?_
 refine dp rfl (pop_move rfl) ?_
 refine dp rfl (pop_call ca152 rfl (WeakL.refl _) c_cmp_isNaN_int) ?_
 refine dp rfl (pop_assign rfl) ?_
 refine dn ?_
 refine hw_reg ?_
 refine dp rfl (pop_move rfl) ?_
 refine dp rfl (pop_call ca152 rfl (WeakL.refl _) c_cmp_isNaN_int) ?_
 refine dp rfl (pop_assign rfl) ?_
 refine dn ?_
 refine hw_seq ?_
 refine hw_reg ?_
 refine dp rfl (pop_move rfl) ?_
 refine dn ?_
 refine hw_cond_f rfl ?_
 refine hw_skip ?_
 refine seqQ_n ?_
 refine hw_seq ?_
 refine hw_reg ?_
 refine dp rfl (pop_move rfl) ?_
 refine dn ?_
 refine hw_cond_f rfl ?_
 refine hw_skip ?_
 refine seqQ_n ?_
 refine hw_seq ?_
 refine hw_reg ?_
 refine dp rfl (pop_move rfl) ?_
 refine dp rfl (pop_move rfl) ?_
 refine dp rfl (pop_lss rfl rfl) ?_
 refine dn ?_
 refine hw_cond rfl (fun h1 => ?_) (fun h2 => ?_)
 ·try simp at h1
  refine hw_reg ?_
  refine dp rfl (pop_assign rfl) ?_
  refine dn ?_
  refine hw_ret ?_
  refine ret_p rfl ?_
  show HVal.int .i64 _ = _
  unfold cmpI; (repeat' split) <;> first | rfl | omega
 ·try simp at h2
  refine hw_skip ?_
  refine seqQ_n ?_
  refine hw_seq ?_
  refine hw_reg ?_
  refine dp rfl (pop_move rfl) ?_
  refine dp rfl (pop_move rfl) ?_
  refine dp rfl (pop_gtr rfl rfl) ?_
  refine dn ?_
  refine hw_cond rfl (fun h3 => ?_) (fun h4 => ?_)
  ·try simp at h3
   refine hw_reg ?_
   refine dp rfl (pop_assign rfl) ?_
   refine dn ?_
   refine hw_ret ?_
   refine ret_p rfl ?_
   show HVal.int .i64 _ = _
   unfold cmpI; (repeat' split) <;> first | rfl | omega
  ·try simp at h4
   refine hw_skip ?_
   refine seqQ_n ?_
   refine hw_reg ?_
   refine dp rfl (pop_assign rfl) ?_
   refine dn ?_
   refine hw_ret ?_
   refine ret_p rfl ?_
   show HVal.int .i64 _ = _
   unfold cmpI; (repeat' split) <;> first | rfl | omega

/-- cmp.Or[int] -/
theorem c_cmp_Or_int [Tracks] {l : List Int} (hl : l.length ≤ 1000000) : ConP Tryz.prog 116 [eIs l] (.int .i64 (orI l)) := by
 refine Con.of_body Tryz.func116 rfl Tryz.ntmps116 rfl rfl ?_
 refine hw_reg ?_
 refine dp rfl (pop_assign rfl) ?_
 refine dn ?_
 refine hw_reg ?_
 refine dp rfl (pop_assign rfl) ?_
 refine dn ?_
 refine hw_seq ?_
 refine hw_reg ?_
 refine dp rfl (pop_move rfl) ?_
 refine dp rfl (pop_lenm ty22 rfl) ?_
 refine dp rfl (pop_move rfl) ?_
 refine dn ?_
 refine hw_block ?_
 refine hw_loopw [2, 5, 8, 9, 10, 11, 12, 13, 14, 15, 16] (fun (k : Nat) => [(8, .int .i64 k)]) (fun (k : Nat) => []) (fun (k : Nat) => k ≤ l.length ∧ (orI l = orI (l.drop k))) (fun (k : Nat) => l.length - k) (0) ?_ ?_ ?_ ?_
 ·exact ⟨Nat.zero_le _, by simp_all⟩
 ·exact ⟨rfl, trivial⟩
 ·exact List.Perm.refl _
 ·intro k hinv
  obtain ⟨hk, hg⟩ := hinv
  refine hw_reg ?_
  refine dp rfl (pop_lss rfl rfl) ?_
  refine dn ?_
  refine hw_seq ?_
  refine hw_cond rfl (fun h1 => ?_) (fun h2 => ?_)
  ·try simp at h1
   obtain ⟨x, hx⟩ : ∃ x, l[k]? = some x := ⟨_, List.getElem?_eq_getElem h1⟩
   have hdx := drop_cons hx
   rw [hdx] at hg
   refine hw_skip ?_
   refine seqQ_n ?_
   refine hw_seq ?_
   refine hw_block ?_
   refine hw_reg ?_
   refine dp rfl (pop_idx ty22 ty3 rfl rfl rfl (by assumption)) ?_
   refine dp rfl (pop_load ty3 rfl rfl rfl) ?_
   refine dp rfl (pop_assign rfl) ?_
   refine dn ?_
   refine hw_reg ?_
   refine dp rfl (pop_move rfl) ?_
   refine dp rfl (pop_move rfl) ?_
   refine dp rfl (pop_neq rfl rfl) ?_
   refine dn ?_
   refine hw_cond rfl (fun h3 => ?_) (fun h4 => ?_)
   ·try simp at h3
    refine hw_reg ?_
    refine dp rfl (pop_move rfl) ?_
    refine dp rfl (pop_assign rfl) ?_
    refine dn ?_
    refine hw_ret ?_
    refine ret_p rfl ?_
    show HVal.int .i64 _ = _
    rw [hg]; simp_all [orI]
   ·try simp at h4
    refine hw_skip ?_
    refine blockQ_n ?_
    refine seqQ_n ?_
    refine hw_reg1 ?_
    refine dp rfl (pop_add64 rfl rfl (by omega) (by omega)) ?_
    refine dp rfl (pop_move rfl) ?_
    refine dn ?_
    refine ⟨k + 1, ?_, ?_, ⟨rfl, trivial⟩, (by repeat (first | exact keeps_refl | refine keeps_upd rfl ?_ | refine keeps_loop rfl rfl ?_)), List.Perm.refl _⟩
    ·refine ⟨by omega, ?_⟩
     rw [hg]; simp_all [orI]
    ·dsimp only; omega
  ·try simp at h2
   have hnk : l.length ≤ k := by omega
   obtain rfl : k = l.length := by omega
   rw [drop_all (Nat.le_refl _)] at hg
   refine hw_exit ?_
   refine seqQ_x ?_
   refine loopQ_x ?_
   refine blockQ_eq ?_
   refine seqQ_n ?_
   refine hw_reg ?_
   refine dp rfl (pop_move rfl) ?_
   refine dp rfl (pop_assign rfl) ?_
   refine dn ?_
   refine hw_ret ?_
   refine ret_p rfl ?_
   show HVal.int .i64 _ = _
   rw [hg]; simp_all [orI]

/-- cmp.Or[benchwarmer/api.Errno] -/
theorem c_cmp_Or_api_Errno [Tracks] {l : List Int} (hl : l.length ≤ 1000000) : ConP Tryz.prog 87 [eIs l] (.int .i64 (orI l)) := by
 refine Con.of_body Tryz.func87 rfl Tryz.ntmps87 rfl rfl ?_
 refine hw_reg ?_
 refine dp rfl (pop_assign rfl) ?_
 refine dn ?_
 refine hw_reg ?_
 refine dp rfl (pop_assign rfl) ?_
 refine dn ?_
 refine hw_seq ?_
 refine hw_reg ?_
 refine dp rfl (pop_move rfl) ?_
 refine dp rfl (pop_lenm ty160 rfl) ?_
 refine dp rfl (pop_move rfl) ?_
 refine dn ?_
 refine hw_block ?_
 refine hw_loopw [2, 5, 8, 9, 10, 11, 12, 13, 14, 15, 16] (fun (k : Nat) => [(8, .int .i64 k)]) (fun (k : Nat) => []) (fun (k : Nat) => k ≤ l.length ∧ (orI l = orI (l.drop k))) (fun (k : Nat) => l.length - k) (0) ?_ ?_ ?_ ?_
 ·exact ⟨Nat.zero_le _, by simp_all⟩
 ·exact ⟨rfl, trivial⟩
 ·exact List.Perm.refl _
 ·intro k hinv
  obtain ⟨hk, hg⟩ := hinv
  refine hw_reg ?_
  refine dp rfl (pop_lss rfl rfl) ?_
  refine dn ?_
  refine hw_seq ?_
  refine hw_cond rfl (fun h1 => ?_) (fun h2 => ?_)
  ·try simp at h1
   obtain ⟨x, hx⟩ : ∃ x, l[k]? = some x := ⟨_, List.getElem?_eq_getElem h1⟩
   have hdx := drop_cons hx
   rw [hdx] at hg
   refine hw_skip ?_
   refine seqQ_n ?_
   refine hw_seq ?_
   refine hw_block ?_
   refine hw_reg ?_
   refine dp rfl (pop_idx ty160 ty37 rfl rfl rfl (by assumption)) ?_
   refine dp rfl (pop_load ty37 rfl rfl rfl) ?_
   refine dp rfl (pop_assign rfl) ?_
   refine dn ?_
   refine hw_reg ?_
   refine dp rfl (pop_move rfl) ?_
   refine dp rfl (pop_move rfl) ?_
   refine dp rfl (pop_neq rfl rfl) ?_
   refine dn ?_
   refine hw_cond rfl (fun h3 => ?_) (fun h4 => ?_)
   ·try simp at h3
    refine hw_reg ?_
    refine dp rfl (pop_move rfl) ?_
    refine dp rfl (pop_assign rfl) ?_
    refine dn ?_
    refine hw_ret ?_
    refine ret_p rfl ?_
    show HVal.int .i64 _ = _
    rw [hg]; simp_all [orI]
   ·try simp at h4
    refine hw_skip ?_
    refine blockQ_n ?_
    refine seqQ_n ?_
    refine hw_reg1 ?_
    refine dp rfl (pop_add64 rfl rfl (by omega) (by omega)) ?_
    refine dp rfl (pop_move rfl) ?_
    refine dn ?_
    refine ⟨k + 1, ?_, ?_, ⟨rfl, trivial⟩, (by repeat (first | exact keeps_refl | refine keeps_upd rfl ?_ | refine keeps_loop rfl rfl ?_)), List.Perm.refl _⟩
    ·refine ⟨by omega, ?_⟩
     rw [hg]; simp_all [orI]
    ·dsimp only; omega
  ·try simp at h2
   have hnk : l.length ≤ k := by omega
   obtain rfl : k = l.length := by omega
   rw [drop_all (Nat.le_refl _)] at hg
   refine hw_exit ?_
   refine seqQ_x ?_
   refine loopQ_x ?_
   refine blockQ_eq ?_
   refine seqQ_n ?_
   refine hw_reg ?_
   refine dp rfl (pop_move rfl) ?_
   refine dp rfl (pop_assign rfl) ?_
   refine dn ?_
   refine hw_ret ?_
   refine ret_p rfl ?_
   show HVal.int .i64 _ = _
   rw [hg]; simp_all [orI]

/-- benchwarmer/base.First -/
theorem c_base_First [Tracks] {l : List Int} (hl : l.length ≤ 1000000) : ConP Tryz.prog 76 [eIs l] (.int .i64 (orI l)) := by
 refine Con.of_body Tryz.func76 rfl Tryz.ntmps76 rfl rfl ?_
 refine hw_reg ?_
 refine dp rfl (pop_assign rfl) ?_
 refine dn ?_
 refine hw_seq ?_
 refine hw_reg ?_
 refine dp rfl (pop_move rfl) ?_
 refine dp rfl (pop_lenm ty160 rfl) ?_
 refine dp rfl (pop_move rfl) ?_
 refine dn ?_
 refine hw_block ?_
 refine hw_loopw [2, 4, 7, 8, 9, 10, 11, 12, 13, 14] (fun (k : Nat) => [(7, .int .i64 k)]) (fun (k : Nat) => []) (fun (k : Nat) => k ≤ l.length ∧ (orI l = orI (l.drop k))) (fun (k : Nat) => l.length - k) (0) ?_ ?_ ?_ ?_
 ·exact ⟨Nat.zero_le _, by simp_all⟩
 ·exact ⟨rfl, trivial⟩
 ·exact List.Perm.refl _
 ·intro k hinv
  obtain ⟨hk, hg⟩ := hinv
  refine hw_reg ?_
  refine dp rfl (pop_lss rfl rfl) ?_
  refine dn ?_
  refine hw_seq ?_
  refine hw_cond rfl (fun h1 => ?_) (fun h2 => ?_)
  ·try simp at h1
   obtain ⟨x, hx⟩ : ∃ x, l[k]? = some x := ⟨_, List.getElem?_eq_getElem h1⟩
   have hdx := drop_cons hx
   rw [hdx] at hg
   refine hw_skip ?_
   refine seqQ_n ?_
   refine hw_seq ?_
   refine hw_block ?_
   refine hw_reg ?_
   refine dp rfl (pop_idx ty160 ty37 rfl rfl rfl (by assumption)) ?_
   refine dp rfl (pop_load ty37 rfl rfl rfl) ?_
   refine dp rfl (pop_assign rfl) ?_
   refine dn ?_
   refine hw_reg ?_
   refine dp rfl (pop_move rfl) ?_
   refine dp rfl (pop_neq rfl rfl) ?_
   refine dn ?_
   refine hw_cond rfl (fun h3 => ?_) (fun h4 => ?_)
   ·try simp at h3
    refine hw_reg ?_
    refine dp rfl (pop_move rfl) ?_
    refine dp rfl (pop_assign rfl) ?_
    refine dn ?_
    refine hw_ret ?_
    refine ret_p rfl ?_
    show HVal.int .i64 _ = _
    rw [hg]; simp_all [orI]
   ·try simp at h4
    refine hw_skip ?_
    refine blockQ_n ?_
    refine seqQ_n ?_
    refine hw_reg1 ?_
    refine dp rfl (pop_add64 rfl rfl (by omega) (by omega)) ?_
    refine dp rfl (pop_move rfl) ?_
    refine dn ?_
    refine ⟨k + 1, ?_, ?_, ⟨rfl, trivial⟩, (by repeat (first | exact keeps_refl | refine keeps_upd rfl ?_ | refine keeps_loop rfl rfl ?_)), List.Perm.refl _⟩
    ·refine ⟨by omega, ?_⟩
     rw [hg]; simp_all [orI]
    ·dsimp only; omega
  ·try simp at h2
   have hnk : l.length ≤ k := by omega
   obtain rfl : k = l.length := by omega
   rw [drop_all (Nat.le_refl _)] at hg
   refine hw_exit ?_
   refine seqQ_x ?_
   refine loopQ_x ?_
   refine blockQ_eq ?_
   refine seqQ_n ?_
   refine hw_reg ?_
   refine dp rfl (pop_assign rfl) ?_
   refine dn ?_
   refine hw_ret ?_
   refine ret_p rfl ?_
   show HVal.int .i64 _ = _
   rw [hg]; simp_all [orI]

/-- internal/bytealg.CompareString -/
theorem c_internal_bytealg_CompareString [Tracks] {a b : Str}  : ConP Tryz.prog 153 [.str a, .str b] (.int .i64 (cmpS a b)) := by
 refine Con.of_body Tryz.func153 rfl Tryz.ntmps153 rfl rfl ?_
 refine hw_reg ?_
 refine dp rfl (pop_assign rfl) ?_
 refine dn ?_
 refine hw_reg ?_
 refine dp rfl (pop_move rfl) ?_
 refine dp rfl (pop_move rfl) ?_
 refine dp rfl (pop_cmpstr Tryz.func183 (by kernel_rfl) (by kernel_rfl) (by kernel_rfl) (by kernel_rfl) rfl rfl rfl) ?_
 refine dp rfl (pop_assign rfl) ?_
 refine dn ?_
 refine hw_ret ?_
 refine ret_p rfl ?_
 rfl

/-- strings.Compare -/
theorem c_strings_Compare [Tracks] {a b : Str}  : ConP Tryz.prog 118 [.str a, .str b] (.int .i64 (cmpS a b)) := by
 refine Con.of_body Tryz.func118 rfl Tryz.ntmps118 rfl rfl ?_
 refine hw_reg ?_
 refine dp rfl (pop_assign rfl) ?_
 refine dn ?_
 refine hw_reg ?_
 refine dp rfl (pop_move rfl) ?_
 refine dp rfl (pop_move rfl) ?_
 refine dp rfl (pop_call ca153 rfl (WeakL.refl _) c_internal_bytealg_CompareString) ?_
 refine dp rfl (pop_assign rfl) ?_
 refine dn ?_
 refine hw_ret ?_
 refine ret_p rfl ?_
 rfl

/-- slices.Equal[[]string,string] -/
theorem c_slices_Equal_string_string [Tracks] {l m : List Str} (hl : l.length ≤ 1000000) : ConP Tryz.prog 45 [eSs l, eSs m] (.bool (l == m)) := by
 refine Con.of_body Tryz.func45 rfl Tryz.ntmps45 rfl rfl ?_
 refine hw_reg ?_
 refine dp rfl (pop_assign rfl) ?_
 refine dn ?_
 refine hw_seq ?_
 refine hw_reg ?_
 refine dp rfl (pop_move rfl) ?_
 refine dp rfl (pop_lenm ty26 rfl) ?_
 refine dp rfl (pop_move rfl) ?_
 refine dp rfl (pop_lenm ty26 rfl) ?_
 refine dp rfl (pop_neq rfl rfl) ?_
 refine dn ?_
 refine hw_cond rfl (fun h1 => ?_) (fun h2 => ?_)
 ·try simp at h1
  refine hw_reg ?_
  refine dp rfl (pop_assign rfl) ?_
  refine dn ?_
  refine hw_ret ?_
  refine ret_p rfl ?_
  show HVal.bool _ = _
  (congr 1; symm; rw [beq_eq_false_iff_ne]; intro h; subst h; omega)
 ·try simp at h2
  refine hw_skip ?_
  refine seqQ_n ?_
  refine hw_seq ?_
  refine hw_reg ?_
  refine dp rfl (pop_move rfl) ?_
  refine dp rfl (pop_lenm ty26 rfl) ?_
  refine dp rfl (pop_move rfl) ?_
  refine dn ?_
  refine hw_block ?_
  refine hw_loopw [4, 5, 13, 14, 15, 16, 17, 18, 19, 20, 21, 22, 23, 24, 25] (fun (k : Nat) => [(13, .int .i64 k)]) (fun (k : Nat) => []) (fun (k : Nat) => k ≤ l.length ∧ (l.length = m.length ∧ (l == m) = (l.drop k == m.drop k))) (fun (k : Nat) => l.length - k) (0) ?_ ?_ ?_ ?_
  ·refine ⟨Nat.zero_le _, ?_, rfl⟩
   omega
  ·exact ⟨rfl, trivial⟩
  ·exact List.Perm.refl _
  ·intro k hinv
   obtain ⟨hk, hg⟩ := hinv
   refine hw_reg ?_
   refine dp rfl (pop_lss rfl rfl) ?_
   refine dn ?_
   refine hw_seq ?_
   refine hw_cond rfl (fun h3 => ?_) (fun h4 => ?_)
   ·try simp at h3
    obtain ⟨x, hx⟩ : ∃ x, l[k]? = some x := ⟨_, List.getElem?_eq_getElem h3⟩
    have hdx := drop_cons hx
    obtain ⟨y, hy⟩ : ∃ y, m[k]? = some y := ⟨_, List.getElem?_eq_getElem (by omega)⟩
    rw [hdx, drop_cons hy] at hg
    refine hw_skip ?_
    refine seqQ_n ?_
    refine hw_seq ?_
    refine hw_block ?_
    refine hw_reg ?_
    refine dp rfl (pop_move rfl) ?_
    refine dp rfl (pop_assign rfl) ?_
    refine dn ?_
    refine hw_draw (fun _ => True) [] mixed ?_
    refine ahp 0 rfl rfl (by kernel_rfl) (by kernel_rfl) (pop_move rfl) ?_
    refine ahp 1 rfl rfl (by kernel_rfl) (by kernel_rfl) (pop_move rfl) ?_
    refine ahp 2 rfl rfl (by kernel_rfl) (by kernel_rfl) (pop_idx ty26 ty9 rfl rfl rfl (by assumption)) ?_
    refine ahp 3 rfl rfl (by kernel_rfl) (by kernel_rfl) (pop_load ty9 rfl rfl rfl) ?_
    refine ahp 4 rfl rfl (by kernel_rfl) (by kernel_rfl) (pop_move rfl) ?_
    refine ahp 5 rfl rfl (by kernel_rfl) (by kernel_rfl) (pop_move rfl) ?_
    refine ahp 6 rfl rfl (by kernel_rfl) (by kernel_rfl) (pop_idx ty26 ty9 rfl rfl rfl (by assumption)) ?_
    refine ahp 7 rfl rfl (by kernel_rfl) (by kernel_rfl) (pop_load ty9 rfl rfl rfl) ?_
    refine ahp 8 rfl rfl (by kernel_rfl) (by kernel_rfl) (pop_neqs rfl rfl) ?_
    refine ahz (by kernel_rfl) ?_
    refine hw_cond rfl (fun h5 => ?_) (fun h6 => ?_)
    ·try simp at h5
     refine hw_reg ?_
     refine dp rfl (pop_assign rfl) ?_
     refine dn ?_
     refine hw_ret ?_
     refine ret_p rfl ?_
     show HVal.bool _ = _
     (rw [hg.2]; simp_all; done)
    ·try simp at h6
     refine hw_skip ?_
     refine blockQ_n ?_
     refine seqQ_n ?_
     refine hw_reg1 ?_
     refine dp rfl (pop_add64 rfl rfl (by omega) (by omega)) ?_
     refine dp rfl (pop_move rfl) ?_
     refine dn ?_
     refine ⟨k + 1, ?_, ?_, ⟨rfl, trivial⟩, (by repeat (first | exact keeps_refl | refine keeps_upd rfl ?_ | refine keeps_loop rfl rfl ?_)), List.Perm.refl _⟩
     ·refine ⟨by omega, hg.1, ?_⟩
      rw [hg.2]; simp_all
     ·dsimp only; omega
   ·try simp at h4
    have hnk : l.length ≤ k := by omega
    obtain rfl : k = l.length := by omega
    rw [drop_all (Nat.le_refl _)] at hg
    refine hw_exit ?_
    refine seqQ_x ?_
    refine loopQ_x ?_
    refine blockQ_eq ?_
    refine seqQ_n ?_
    refine hw_reg ?_
    refine dp rfl (pop_assign rfl) ?_
    refine dn ?_
    refine hw_ret ?_
    refine ret_p rfl ?_
    show HVal.bool _ = _
    (rw [hg.2]; simp_all; done)

/-- slices.Equal[[]benchwarmer/api.Pick,benchwarmer/api.Pick] -/
theorem c_slices_Equal_api_Pick_api_Pick [Tracks] {l m : List Pick} (hl : l.length ≤ 1000000) : ConP Tryz.prog 16 [ePicks l, ePicks m] (.bool (eqPicks l m)) := by
 refine Con.of_body Tryz.func16 rfl Tryz.ntmps16 rfl rfl ?_
 refine hw_reg ?_
 refine dp rfl (pop_assign rfl) ?_
 refine dn ?_
 refine hw_seq ?_
 refine hw_reg ?_
 refine dp rfl (pop_move rfl) ?_
 refine dp rfl (pop_lenm ty30 rfl) ?_
 refine dp rfl (pop_move rfl) ?_
 refine dp rfl (pop_lenm ty30 rfl) ?_
 refine dp rfl (pop_neq rfl rfl) ?_
 refine dn ?_
 refine hw_cond rfl (fun h1 => ?_) (fun h2 => ?_)
 ·try simp at h1
  refine hw_reg ?_
  refine dp rfl (pop_assign rfl) ?_
  refine dn ?_
  refine hw_ret ?_
  refine ret_p rfl ?_
  show HVal.bool _ = _
  first | (congr 1; symm; exact eqPicks_len (by omega)) | (rw [hg.2, eqPicks, show eqPick x y = false from h5]; rfl) | (rw [hg.2, drop_all (Nat.le_of_eq hg.1.symm)]; rfl)
 ·try simp at h2
  refine hw_skip ?_
  refine seqQ_n ?_
  refine hw_seq ?_
  refine hw_reg ?_
  refine dp rfl (pop_move rfl) ?_
  refine dp rfl (pop_lenm ty30 rfl) ?_
  refine dp rfl (pop_move rfl) ?_
  refine dn ?_
  refine hw_block ?_
  refine hw_loopw [4, 5, 13, 14, 15, 16, 17, 18, 19, 20, 21, 22, 23, 24, 25] (fun (k : Nat) => [(13, .int .i64 k)]) (fun (k : Nat) => []) (fun (k : Nat) => k ≤ l.length ∧ (l.length = m.length ∧ eqPicks l m = eqPicks (l.drop k) (m.drop k))) (fun (k : Nat) => l.length - k) (0) ?_ ?_ ?_ ?_
  ·refine ⟨Nat.zero_le _, ?_, rfl⟩
   omega
  ·exact ⟨rfl, trivial⟩
  ·exact List.Perm.refl _
  ·intro k hinv
   obtain ⟨hk, hg⟩ := hinv
   refine hw_reg ?_
   refine dp rfl (pop_lss rfl rfl) ?_
   refine dn ?_
   refine hw_seq ?_
   refine hw_cond rfl (fun h3 => ?_) (fun h4 => ?_)
   ·try simp at h3
    obtain ⟨x, hx⟩ : ∃ x, l[k]? = some x := ⟨_, List.getElem?_eq_getElem h3⟩
    have hdx := drop_cons hx
    obtain ⟨y, hy⟩ : ∃ y, m[k]? = some y := ⟨_, List.getElem?_eq_getElem (by omega)⟩
    rw [hdx, drop_cons hy] at hg
    refine hw_skip ?_
    refine seqQ_n ?_
    refine hw_seq ?_
    refine hw_block ?_
    refine hw_reg ?_
    refine dp rfl (pop_move rfl) ?_
    refine dp rfl (pop_assign rfl) ?_
    refine dn ?_
    refine hw_draw (fun _ => True) [] mixed ?_
    refine ahp 0 rfl rfl (by kernel_rfl) (by kernel_rfl) (pop_move rfl) ?_
    refine ahp 1 rfl rfl (by kernel_rfl) (by kernel_rfl) (pop_move rfl) ?_
    refine ahp 2 rfl rfl (by kernel_rfl) (by kernel_rfl) (pop_idx ty30 ty36 rfl rfl rfl (by first | assumption | simp_all)) ?_
    refine ahp 3 rfl rfl (by kernel_rfl) (by kernel_rfl) (pop_loadw ty36 rfl rfl rfl rfl) ?_
    refine ahp 4 rfl rfl (by kernel_rfl) (by kernel_rfl) (pop_move rfl) ?_
    refine ahp 5 rfl rfl (by kernel_rfl) (by kernel_rfl) (pop_move rfl) ?_
    refine ahp 6 rfl rfl (by kernel_rfl) (by kernel_rfl) (pop_idx ty30 ty36 rfl rfl rfl (by first | assumption | simp_all)) ?_
    refine ahp 7 rfl rfl (by kernel_rfl) (by kernel_rfl) (pop_loadw ty36 rfl rfl rfl rfl) ?_
    refine ahp 8 rfl rfl (by kernel_rfl) (by kernel_rfl) (pop_neqst ty36 eq36 rfl rfl ⟨rfl, ⟨_, _, _, _, ty3, rfl⟩, ⟨rfl, ⟨_, _, _, _, ty9, rfl⟩, ⟨rfl, ⟨_, _, _, _, ty9, rfl⟩, ⟨rfl, ⟨_, _, _, _, ty3, rfl⟩, ⟨rfl, ⟨_, _, _, _, ty4, rfl⟩, trivial⟩⟩⟩⟩⟩) ?_
    refine ahz (by kernel_rfl) ?_
    refine hw_cond rfl (fun h5 => ?_) (fun h6 => ?_)
    ·try simp at h5
     refine hw_reg ?_
     refine dp rfl (pop_assign rfl) ?_
     refine dn ?_
     refine hw_ret ?_
     refine ret_p rfl ?_
     show HVal.bool _ = _
     first | (congr 1; symm; exact eqPicks_len (by omega)) | (rw [hg.2, eqPicks, show eqPick x y = false from h5]; rfl) | (rw [hg.2, drop_all (Nat.le_of_eq hg.1.symm)]; rfl)
    ·try simp at h6
     refine hw_skip ?_
     refine blockQ_n ?_
     refine seqQ_n ?_
     refine hw_reg1 ?_
     refine dp rfl (pop_add64 rfl rfl (by omega) (by omega)) ?_
     refine dp rfl (pop_move rfl) ?_
     refine dn ?_
     refine ⟨k + 1, ?_, ?_, ⟨rfl, trivial⟩, (by repeat (first | exact keeps_refl | refine keeps_upd rfl ?_ | refine keeps_loop rfl rfl ?_)), List.Perm.refl _⟩
     ·refine ⟨by omega, hg.1, ?_⟩
      rw [hg.2, eqPicks, show eqPick x y = true from h6]; rfl
     ·dsimp only; omega
   ·try simp at h4
    have hnk : l.length ≤ k := by omega
    obtain rfl : k = l.length := by omega
    rw [drop_all (Nat.le_refl _)] at hg
    refine hw_exit ?_
    refine seqQ_x ?_
    refine loopQ_x ?_
    refine blockQ_eq ?_
    refine seqQ_n ?_
    refine hw_reg ?_
    refine dp rfl (pop_assign rfl) ?_
    refine dn ?_
    refine hw_ret ?_
    refine ret_p rfl ?_
    show HVal.bool _ = _
    first | (congr 1; symm; exact eqPicks_len (by omega)) | (rw [hg.2, eqPicks, show eqPick x y = false from h5]; rfl) | (rw [hg.2, drop_all (Nat.le_of_eq hg.1.symm)]; rfl)
end Go.Proofs.YtmgbigiegjlieaaGreatDoor
end
section
namespace Go.HL
def swapsGo (r : Room) (l : List Swap) : Nat → List Swap → Int
 | _, [] => 0
 | k, x :: t => if out x.Round 1 r.Rounds then 1 else if !(r.Teams.contains x.Of) || !(r.Teams.contains x.Team) then 8
   else if decide (0 < k) && decide (orI [cmpI x.Round (l.getD (k - 1) swap0).Round, cmpS x.Of (l.getD (k - 1) swap0).Of] ≤ 0) then 7 else swapsGo r l (k + 1) t
def checkSwaps (r : Room) (l : List Swap) : Int := if checkRoom r != 0 then checkRoom r else if 600 < l.length then 2 else swapsGo r l 0 l
def keepsGo (r : Room) (l : List Keep) : Nat → List Str → Bool → List Keep → Int
 | _, _, tw, [] => if tw then 6 else 0
 | k, kept, tw, x :: t => if !(r.Teams.contains x.Team) || !(r.Players.contains x.Player) then 8 else if out x.Round 1 r.Rounds then 1
   else if decide (0 < k) && decide (orI [cmpS x.Team (l.getD (k - 1) keep0).Team, cmpI x.Round (l.getD (k - 1) keep0).Round] ≤ 0) then 7
   else keepsGo r l (k + 1) (sadd x.Player kept) (tw || kept.contains x.Player) t
def checkKeeps (r : Room) (l : List Keep) : Int := if checkRoom r != 0 then checkRoom r else if 600 < l.length then 2 else keepsGo r l 0 [] false l
def clash (x : Keep) (y : Swap) : Bool := y.Round == x.Round && y.Of == x.Team
def clashGo (s : List Swap) : List Keep → Int
 | [] => 0
 | x :: r => if s.any (clash x) then 13 else clashGo s r
def openFault (r : Room) (k : List Keep) (s : List Swap) : Int :=
 if orI [checkKeeps r k, checkSwaps r s] != 0 then orI [checkKeeps r k, checkSwaps r s] else clashGo s k
def roundTurns (r : Room) (sw : List Swap) (round : Int) : List Turn :=
 (if backwards r.Way round then r.Teams.reverse else r.Teams).map fun t => ⟨round, t, owner round t sw⟩
def turnsFrom (r : Room) (sw : List Swap) : Nat → List Turn
 | 0 => []
 | n + 1 => turnsFrom r sw n ++ roundTurns r sw (n + 1)
def turns (r : Room) (sw : List Swap) : List Turn := turnsFrom r sw r.Rounds.toNat
theorem turnsFrom_len (r : Room) (sw : List Swap) : ∀ n, (turnsFrom r sw n).length = n * r.Teams.length
 | 0 => by simp [turnsFrom]
 | n + 1 => by
   have : (roundTurns r sw ((n : Int) + 1)).length = r.Teams.length := by unfold roundTurns; split <;> simp
   simp only [turnsFrom, List.length_append, turnsFrom_len r sw n, this, Nat.succ_mul]
def keepIn (r : Room) (t : Turn) (p : Pick) : List Keep → Pick
 | [] => p
 | x :: k => keepIn r t (if x.Team = t.of ∧ x.Round = t.round then { p with Player := x.Player, At := r.Start } else p) k
def openFrom (r : Room) (k : List Keep) : Nat → List Turn → List Pick
 | _, [] => []
 | i, t :: l => keepIn r t ⟨i, t.team, [], 0, false⟩ k :: openFrom r k (i + 1) l
def open1 (r : Room) (k : List Keep) (s : List Swap) : List Pick := openFrom r k 0 (turns r s)
theorem openFrom_len (r : Room) (k : List Keep) : ∀ (i : Nat) (l : List Turn), (openFrom r k i l).length = l.length
 | _, [] => rfl
 | i, t :: l => by simp [openFrom, openFrom_len r k (i + 1) l]

/-! what a right room is -/
theorem risingGo_sorted {l : List Str} : ∀ (k : Nat), k ≤ l.length → risingGo l k (l.drop k) = 0 → ∀ (i j : Nat) (a b : Str), k ≤ j → i + 1 = j → l[i]? = some a → l[j]? = some b → Op.bytesLess a b = true := by
 intro k hk
 generalize hm : l.length - k = m
 induction m generalizing k with
 | zero =>
   intro _ i j a b h1 h2 ha hb
   have := lt_of_get hb; omega
 | succ m ih =>
   intro h i j a b h1 h2 ha hb
   have hlt : k < l.length := by omega
   have hx := List.getElem?_eq_getElem hlt
   rw [drop_cons hx, risingGo] at h
   by_cases hkey : key l[k] = true
   ·simp only [hkey, Bool.not_true, Bool.false_eq_true, if_false] at h
    by_cases hle : (decide (0 < k) && leS l[k] (l.getD (k - 1) [])) = true
    ·rw [if_pos hle] at h; omega
    ·rw [if_neg hle] at h
     by_cases hj : k + 1 ≤ j
     ·exact ih (k + 1) (by omega) (by omega) h i j a b hj h2 ha hb
     ·obtain rfl : j = k := by omega
      have h0 : 0 < j := by omega
      simp only [h0, decide_true, Bool.true_and] at hle
      have e1 : l.getD (j - 1) [] = a := by
       have : j - 1 = i := by omega
       rw [this]; simp [List.getD, ha]
      have e2 : l[j] = b := by rw [hx] at hb; simpa using hb
      rw [e1, e2, leS_iff] at hle
      simpa using hle
   ·simp [hkey] at h
theorem rising1_sorted {l : List Str} (h : rising1 l = 0) : SortedS l := by
 have hadj := risingGo_sorted (l := l) 0 (Nat.zero_le _) (by simpa [rising1] using h)
 have key : ∀ (d i : Nat) (a b : Str), l[i]? = some a → l[i + d + 1]? = some b → Op.bytesLess a b = true := by
  intro d
  induction d with
  | zero => intro i a b ha hb; exact hadj i (i + 1) a b (by omega) rfl ha hb
  | succ d ih =>
    intro i a b ha hb
    have hlt := lt_of_get hb
    have hc := List.getElem?_eq_getElem (l := l) (i := i + d + 1) (by omega)
    have h1 := ih i a _ ha hc
    have h2 := hadj (i + d + 1) (i + (d + 1) + 1) _ b (by omega) (by omega) hc hb
    exact less_trans h1 h2
 refine List.pairwise_iff_getElem.2 fun i j hi hj hij => ?_
 refine key (j - i - 1) i _ _ (List.getElem?_eq_getElem hi) ?_
 have : i + (j - i - 1) + 1 = j := by omega
 rw [this]; exact List.getElem?_eq_getElem hj
theorem checkRoom_ok {r : Room} (h : checkRoom r = 0) : SortedS r.Players ∧ r.Teams.length ≤ 20 ∧ 0 < r.Teams.length ∧ 1 ≤ r.Rounds ∧ r.Rounds ≤ 30 ∧ r.Players.length ≤ 500 := by
 unfold checkRoom at h
 by_cases h1 : teamsFault r.Teams = 0
 ·rw [if_neg (by simp [h1])] at h
  by_cases h2 : out r.Rounds 1 30 = true
  ·rw [if_pos h2] at h; omega
  ·rw [if_neg h2] at h
   by_cases h3 : out r.Way 1 3 = true
   ·rw [if_pos h3] at h; omega
   ·rw [if_neg h3] at h
    by_cases h4 : playersFault r.Players = 0
    ·have h2' := out_f (by simpa using h2)
     unfold teamsFault at h1
     unfold playersFault at h4
     split at h4
     ·omega
     ·split at h1
      ·omega
      ·split at h1
       ·omega
       ·exact ⟨rising1_sorted h4, by omega, by omega, h2'.1, h2'.2, by omega⟩
    ·rw [if_pos (by simpa using h4)] at h; exact absurd h h4
 ·rw [if_pos (by simpa using h1)] at h; exact absurd h h1
end Go.HL
end
section
namespace Go.Proofs.YtmgbigiegjlieaaGreatDoor
open Go.HL
set_option maxRecDepth 100000
set_option linter.unusedVariables false
set_option linter.unusedSimpArgs false
/-- benchwarmer/draft.CheckSwaps -/
theorem c_draft_CheckSwaps [Tracks] {r : Room} {l : List Swap} (ht : r.Teams.length ≤ 1000000) (hp : r.Players.length ≤ 1000000) (hl : l.length ≤ 1000000) : ConP Tryz.prog 74 [eRoom r, eSwaps l] (.int .i64 (checkSwaps r l)) := by
 refine Con.of_body Tryz.func74 rfl Tryz.ntmps74 rfl rfl ?_
 refine hw_reg ?_
 refine dp rfl (pop_box rfl rfl) ?_
 refine dp rfl (pop_assign rfl) ?_
 refine dn ?_
 refine hw_seq ?_
 refine hw_reg ?_
 refine dp rfl (pop_loadw ty28 rfl rfl rfl rfl) ?_
 refine dp rfl (pop_call ca115 rfl (WeakL.refl _) (c_draft_CheckRoom (by assumption) (by assumption))) ?_
 refine dp rfl (pop_assign rfl) ?_
 refine dn ?_
 refine hw_reg ?_
 refine dp rfl (pop_move rfl) ?_
 refine dp rfl (pop_neq rfl rfl) ?_
 refine dn ?_
 refine hw_cond rfl (fun h1 => ?_) (fun h2 => ?_)
 ·try simp at h1
  refine hw_reg ?_
  refine dp rfl (pop_move rfl) ?_
  refine dp rfl (pop_assign rfl) ?_
  refine dn ?_
  refine hw_ret ?_
  refine ret_p rfl ?_
  show HVal.int .i64 _ = _
  (rw [checkSwaps, if_pos (by simp_all)]; done)
 ·try simp at h2
  refine hw_skip ?_
  refine seqQ_n ?_
  refine hw_seq ?_
  refine hw_reg ?_
  refine dp rfl (pop_move rfl) ?_
  refine dp rfl (pop_lenm ty53 rfl) ?_
  refine dp rfl (pop_gtr rfl rfl) ?_
  refine dn ?_
  refine hw_cond rfl (fun h3 => ?_) (fun h4 => ?_)
  ·try simp at h3
   refine hw_reg ?_
   refine dp rfl (pop_assign rfl) ?_
   refine dn ?_
   refine hw_ret ?_
   refine ret_p rfl ?_
   show HVal.int .i64 _ = _
   (rw [checkSwaps, if_neg (by simp_all), if_pos (by omega)]; done)
  ·try simp at h4
   refine hw_skip ?_
   refine seqQ_n ?_
   refine hw_seq ?_
   refine hw_reg ?_
   refine dp rfl (pop_move rfl) ?_
   refine dp rfl (pop_lenm ty53 rfl) ?_
   refine dp rfl (pop_move rfl) ?_
   refine dn ?_
   refine hw_block ?_
   refine hw_loopw [4, 6, 7, 18, 19, 20, 21, 22, 23, 24, 25, 26, 27, 28, 29, 30, 31, 32, 33, 34, 35, 36, 37, 38, 39, 40, 41, 42, 43, 44, 45, 46, 47, 48, 49, 50, 51, 52, 53, 54, 55, 56, 57, 58, 59, 60, 61, 62, 63, 64, 65, 66, 67, 68, 69, 70] (fun (k : Nat) => [(18, .int .i64 k)]) (fun (k : Nat) => []) (fun (k : Nat) => k ≤ l.length ∧ (checkSwaps r l = swapsGo r l k (l.drop k))) (fun (k : Nat) => l.length - k) (0) ?_ ?_ ?_ ?_
   ·refine ⟨Nat.zero_le _, ?_⟩
    rw [checkSwaps, if_neg (by simp_all), if_neg (by omega)]; rfl
   ·exact ⟨rfl, trivial⟩
   ·exact List.Perm.refl _
   ·intro k hinv
    obtain ⟨hk, hg⟩ := hinv
    refine hw_reg ?_
    refine dp rfl (pop_lss rfl rfl) ?_
    refine dn ?_
    refine hw_seq ?_
    refine hw_cond rfl (fun h5 => ?_) (fun h6 => ?_)
    ·try simp at h5
     obtain ⟨x, hx⟩ : ∃ x, l[k]? = some x := ⟨_, List.getElem?_eq_getElem h5⟩
     have hdx := drop_cons hx
     rw [hdx] at hg
     refine hw_skip ?_
     refine seqQ_n ?_
     refine hw_seq ?_
     refine hw_block ?_
     refine hw_reg ?_
     refine dp rfl (pop_move rfl) ?_
     refine dp rfl (pop_idx ty53 ty140 rfl rfl rfl (by assumption)) ?_
     refine dp rfl (pop_loadw ty140 rfl rfl rfl rfl) ?_
     refine de rfl (eop_alloc ty140 rfl fun b7 => ?_)
     refine dp rfl (pop_assign rfl) ?_
     refine de0 (eop_storew ty140 rfl rfl rfl rfl rfl ?_)
     refine dn ?_
     refine hw_ghost (Ghost.fc0 7 rfl) ?_
     refine hw_block ?_
     refine hw_reg ?_
     refine dp rfl (pop_fieldAddr ty140 rfl ty3 (by decide) rfl) ?_
     refine dp rfl (pop_load ty3 rfl rfl rfl) ?_
     refine dp rfl (pop_fieldAddr ty28 rfl ty3 (by decide) rfl) ?_
     refine dp rfl (pop_load ty3 rfl rfl rfl) ?_
     refine dp rfl (pop_call ca68 rfl (WeakL.refl _) c_base_Out) ?_
     refine dp rfl (pop_assign rfl) ?_
     refine dn ?_
     refine hw_cond rfl (fun h7 => ?_) (fun h8 => ?_)
     ·try simp at h7
      refine hw_reg ?_
      refine dp rfl (pop_assign rfl) ?_
      refine dn ?_
      refine hw_ret ?_
      refine ret_p rfl ?_
      show HVal.int .i64 _ = _
      (rw [hg, swapsGo]; simp_all; done)
     ·try simp at h8
      refine hw_reg ?_
      refine dp rfl (pop_fieldAddr ty28 rfl ty26 (by decide) rfl) ?_
      refine dp rfl (pop_load ty26 rfl rfl rfl) ?_
      refine dp rfl (pop_fieldAddr ty140 rfl ty9 (by decide) rfl) ?_
      refine dp rfl (pop_load ty9 rfl rfl rfl) ?_
      refine dp rfl (pop_call ca42 rfl (WeakL.refl _) (c_slices_Contains_string_string (by omega))) ?_
      refine dp rfl (pop_not rfl) ?_
      refine dp rfl (pop_move rfl) ?_
      refine dg rfl rfl (fun hc => ⟨_, OpenTo.refl _, pop_fieldAddr ty28 rfl ty26 (by decide) rfl⟩) ?_
      refine dg rfl rfl (fun hc => ⟨_, OpenTo.upd (t := 37) rfl (hc) (OpenTo.refl _), pop_load ty26 rfl rfl rfl⟩) ?_
      refine dg rfl rfl (fun hc => ⟨_, OpenTo.refl _, pop_fieldAddr ty140 rfl ty9 (by decide) rfl⟩) ?_
      refine dg rfl rfl (fun hc => ⟨_, OpenTo.upd (t := 39) rfl (hc) (OpenTo.refl _), pop_load ty9 rfl rfl rfl⟩) ?_
      refine dg rfl rfl (fun hc => by have hq := hc; (try simp at hq); exact ⟨_, OpenTo.upd (t := 40) rfl (hc) (OpenTo.upd (t := 38) rfl (hc) (OpenTo.refl _)), pop_call ca42 rfl (WeakL.refl _) (c_slices_Contains_string_string (by omega))⟩) ?_
      refine dg rfl rfl (fun hc => ⟨_, OpenTo.upd (t := 41) rfl (hc) (OpenTo.refl _), pop_not rfl⟩) ?_
      refine dp rfl (pop_picko rfl (.inl rfl) (.inr ⟨_, rfl, fun h => by simp_all⟩)) ?_
      refine dp rfl (pop_assign rfl) ?_
      refine dn ?_
      refine hw_cond rfl (fun h9 => ?_) (fun h10 => ?_)
      ·try simp at h9
       refine hw_reg ?_
       refine dp rfl (pop_assign rfl) ?_
       refine dn ?_
       refine hw_ret ?_
       refine ret_p rfl ?_
       show HVal.int .i64 _ = _
       (rw [hg, swapsGo]; simp_all; done)
      ·try simp at h10
       refine hw_draw (fun _ => True) [] mixed ?_
       refine ahp 0 rfl rfl (by kernel_rfl) (by kernel_rfl) (pop_move rfl) ?_
       refine ahp 1 rfl rfl (by kernel_rfl) (by kernel_rfl) (pop_gtr rfl rfl) ?_
       refine ahp 2 rfl rfl (by kernel_rfl) (by kernel_rfl) (pop_move rfl) ?_
       refine ahg 3 rfl rfl (by kernel_rfl) (by kernel_rfl) rfl (fun hc => ⟨_, OpenTo.refl _, pop_fieldAddr ty140 rfl ty3 (by decide) rfl⟩) ?_
       refine ahg 4 rfl rfl (by kernel_rfl) (by kernel_rfl) rfl (fun hc => ⟨_, OpenTo.upd (t := 48) rfl (hc) (OpenTo.refl _), pop_load ty3 rfl rfl rfl⟩) ?_
       refine ahg 5 rfl rfl (by kernel_rfl) (by kernel_rfl) rfl (fun hc => ⟨_, OpenTo.refl _, pop_move rfl⟩) ?_
       refine ahg 6 rfl rfl (by kernel_rfl) (by kernel_rfl) rfl (fun hc => ⟨_, OpenTo.refl _, pop_move rfl⟩) ?_
       refine ahg 7 rfl rfl (by kernel_rfl) (by kernel_rfl) rfl (fun hc => by have hq := hc; (try simp at hq); exact ⟨_, OpenTo.upd (t := 51) rfl (hc) (OpenTo.refl _), pop_sub64 rfl rfl (by omega) (by omega)⟩) ?_
       refine ahg 8 rfl rfl (by kernel_rfl) (by kernel_rfl) rfl (fun hc => by have hq := hc; (try simp at hq); exact ⟨_, OpenTo.upd (t := 52) rfl (hc) (OpenTo.upd (t := 50) rfl (hc) (OpenTo.refl _)), pop_idx (j := k - 1) (a := l.getD (k - 1) swap0) ty53 ty140 rfl rfl (by omega) (getD_some (by omega))⟩) ?_
       refine ahg 9 rfl rfl (by kernel_rfl) (by kernel_rfl) rfl (fun hc => ⟨_, OpenTo.upd (t := 53) rfl (hc) (OpenTo.refl _), pop_fieldAddr ty140 rfl ty3 (by decide) rfl⟩) ?_
       refine ahg 10 rfl rfl (by kernel_rfl) (by kernel_rfl) rfl (fun hc => ⟨_, OpenTo.upd (t := 54) rfl (hc) (OpenTo.refl _), pop_load ty3 rfl rfl rfl⟩) ?_
       refine ahg 11 rfl rfl (by kernel_rfl) (by kernel_rfl) rfl (fun hc => ⟨_, OpenTo.upd (t := 55) rfl (hc) (OpenTo.upd (t := 49) rfl (hc) (OpenTo.refl _)), pop_call ca117 rfl (WeakL.refl _) c_cmp_Compare_int⟩) ?_
       refine ahg 12 rfl rfl (by kernel_rfl) (by kernel_rfl) rfl (fun hc => ⟨_, OpenTo.refl _, pop_fieldAddr ty140 rfl ty9 (by decide) rfl⟩) ?_
       refine ahg 13 rfl rfl (by kernel_rfl) (by kernel_rfl) rfl (fun hc => ⟨_, OpenTo.upd (t := 57) rfl (hc) (OpenTo.refl _), pop_load ty9 rfl rfl rfl⟩) ?_
       refine ahg 14 rfl rfl (by kernel_rfl) (by kernel_rfl) rfl (fun hc => ⟨_, OpenTo.refl _, pop_move rfl⟩) ?_
       refine ahg 15 rfl rfl (by kernel_rfl) (by kernel_rfl) rfl (fun hc => ⟨_, OpenTo.refl _, pop_move rfl⟩) ?_
       refine ahg 16 rfl rfl (by kernel_rfl) (by kernel_rfl) rfl (fun hc => by have hq := hc; (try simp at hq); exact ⟨_, OpenTo.upd (t := 60) rfl (hc) (OpenTo.refl _), pop_sub64 rfl rfl (by omega) (by omega)⟩) ?_
       refine ahg 17 rfl rfl (by kernel_rfl) (by kernel_rfl) rfl (fun hc => by have hq := hc; (try simp at hq); exact ⟨_, OpenTo.upd (t := 61) rfl (hc) (OpenTo.upd (t := 59) rfl (hc) (OpenTo.refl _)), pop_idx (j := k - 1) (a := l.getD (k - 1) swap0) ty53 ty140 rfl rfl (by omega) (getD_some (by omega))⟩) ?_
       refine ahg 18 rfl rfl (by kernel_rfl) (by kernel_rfl) rfl (fun hc => ⟨_, OpenTo.upd (t := 62) rfl (hc) (OpenTo.refl _), pop_fieldAddr ty140 rfl ty9 (by decide) rfl⟩) ?_
       refine ahg 19 rfl rfl (by kernel_rfl) (by kernel_rfl) rfl (fun hc => ⟨_, OpenTo.upd (t := 63) rfl (hc) (OpenTo.refl _), pop_load ty9 rfl rfl rfl⟩) ?_
       refine ahg 20 rfl rfl (by kernel_rfl) (by kernel_rfl) rfl (fun hc => ⟨_, OpenTo.upd (t := 64) rfl (hc) (OpenTo.upd (t := 58) rfl (hc) (OpenTo.refl _)), pop_call ca118 rfl (WeakL.refl _) c_strings_Compare⟩) ?_
       refine ahg 21 rfl rfl (by kernel_rfl) (by kernel_rfl) rfl (fun hc => ⟨_, OpenTo.upd (t := 65) rfl (hc) (OpenTo.upd (t := 56) rfl (hc) (OpenTo.refl _)), pop_buildSlice (hs := [_, _]) ty22 ty3 rfl rfl (by decide) (by decide) rfl⟩) ?_
       refine ahg 22 rfl rfl (by kernel_rfl) (by kernel_rfl) rfl (fun hc => ⟨_, OpenTo.upd (t := 66) rfl (hc) (OpenTo.refl _), pop_call ca116 rfl (WeakL.refl _) (c_cmp_Or_int (l := [_, _]) (by simp))⟩) ?_
       refine ahg 23 rfl rfl (by kernel_rfl) (by kernel_rfl) rfl (fun hc => ⟨_, OpenTo.upd (t := 67) rfl (hc) (OpenTo.refl _), pop_leq rfl rfl⟩) ?_
       refine ahp 24 rfl rfl (by kernel_rfl) (by kernel_rfl) (pop_picko rfl (.inr ⟨_, rfl, fun h => by simp_all⟩) (.inl rfl)) ?_
       refine ahp 25 rfl rfl (by kernel_rfl) (by kernel_rfl) (pop_assign rfl) ?_
       refine ahz (by kernel_rfl) ?_
       refine hw_cond rfl (fun h11 => ?_) (fun h12 => ?_)
       ·try simp at h11
        refine hw_reg ?_
        refine dp rfl (pop_assign rfl) ?_
        refine dn ?_
        refine hw_ret ?_
        refine ret_p rfl ?_
        show HVal.int .i64 _ = _
        (rw [hg, swapsGo]; simp_all; done)
       ·try simp at h12
        refine hw_skip ?_
        refine blockQ_n ?_
        refine blockQ_n ?_
        refine seqQ_n ?_
        refine hw_reg1 ?_
        refine dp rfl (pop_add64 rfl rfl (by omega) (by omega)) ?_
        refine dp rfl (pop_move rfl) ?_
        refine dn ?_
        refine ⟨k + 1, ?_, ?_, ⟨rfl, trivial⟩, (by repeat (first | exact keeps_refl | refine keeps_upd rfl ?_ | refine keeps_loop rfl rfl ?_)), List.Perm.refl _⟩
        ·refine ⟨by omega, ?_⟩
         rw [hg, swapsGo]; simp_all
         intro h1 h2; have := h12 h1; omega
        ·dsimp only; omega
    ·try simp at h6
     have hnk : l.length ≤ k := by omega
     obtain rfl : k = l.length := by omega
     rw [drop_all (Nat.le_refl _)] at hg
     refine hw_exit ?_
     refine seqQ_x ?_
     refine loopQ_x ?_
     refine blockQ_eq ?_
     refine seqQ_n ?_
     refine hw_reg ?_
     refine dp rfl (pop_assign rfl) ?_
     refine dn ?_
     refine hw_ret ?_
     refine ret_p rfl ?_
     show HVal.int .i64 _ = _
     (rw [hg]; rfl)
end Go.Proofs.YtmgbigiegjlieaaGreatDoor
end
section
namespace Go.HL
/-- after i swaps -/
def Rev (l c : List Str) (i : Nat) : Prop := c.length = l.length ∧ ∀ k, k < l.length → c[k]? = if k < i ∨ l.length - i ≤ k then l[l.length - 1 - k]? else l[k]?
theorem rev_start (l : List Str) : Rev l l 0 := ⟨rfl, fun k hk => by rw [if_neg (by omega)]⟩
theorem rev_step {l c : List Str} {i : Nat} {a b : Str} (h : Rev l c i) (hi : i < l.length - 1 - i) (ha : c[i]? = some a) (hb : c[l.length - 1 - i]? = some b) : Rev l ((c.set i b).set (l.length - 1 - i) a) (i + 1) := by
 obtain ⟨h1, h2⟩ := h
 refine ⟨by simp [h1], fun k hk => ?_⟩
 have ea := h2 i (by omega)
 have eb := h2 (l.length - 1 - i) (by omega)
 rw [if_neg (by omega), ha] at ea
 rw [if_neg (by omega), hb] at eb
 by_cases e1 : k = l.length - 1 - i
 ·subst e1
  rw [if_pos (by omega)]
  have : l.length - 1 - (l.length - 1 - i) = i := by omega
  rw [this, ← ea, List.getElem?_set_self (by simp; omega)]
 ·rw [List.getElem?_set_ne (by omega)]
  by_cases e2 : k = i
  ·subst e2
   rw [if_pos (by omega), ← eb, List.getElem?_set_self (by omega)]
  ·rw [List.getElem?_set_ne (by omega), h2 k hk]
   by_cases e3 : k < i ∨ l.length - i ≤ k
   ·rw [if_pos e3, if_pos (by omega)]
   ·rw [if_neg e3, if_neg (by omega)]
theorem rev_end {l c : List Str} {i : Nat} (h : Rev l c i) (hi : l.length ≤ 2 * i + 1) : c = l.reverse := by
 obtain ⟨h1, h2⟩ := h
 apply List.ext_getElem?
 intro k
 by_cases hk : k < l.length
 ·rw [h2 k hk]
  rw [List.getElem?_reverse hk]
  by_cases e : k < i ∨ l.length - i ≤ k
  ·rw [if_pos e]
  ·rw [if_neg e]
   congr 1; omega
 ·rw [List.getElem?_eq_none (by omega), List.getElem?_eq_none (by simp; omega)]
end Go.HL
end
section
namespace Go.Proofs.YtmgbigiegjlieaaGreatDoor
open Go.HL
set_option maxRecDepth 100000
set_option linter.unusedVariables false
set_option linter.unusedSimpArgs false
/-- slices.Clone[[]string,string] -/
theorem c_slices_Clone_string_string [Tracks] {l : List Str} (hl : l.length ≤ 1000000) : ConA Tryz.prog 23 [eSs l] 1 (l.map .str) := by
 refine Con.of_body Tryz.func23 rfl Tryz.ntmps23 rfl rfl ?_
 refine hw_reg ?_
 refine dp rfl (pop_assign rfl) ?_
 refine dn ?_
 refine hw_seq ?_
 refine hw_reg ?_
 refine dp rfl (pop_move rfl) ?_
 refine de rfl (eop_eqnil ty26 rfl rfl fun b4 hb4 => ?_)
 refine dn ?_
 refine hw_cond rfl (fun h1 => ?_) (fun h2 => ?_)
 ·try simp at h1
  refine hw_reg ?_
  refine dp rfl (pop_assign rfl) ?_
  refine dn ?_
  refine hw_ret ?_
  exact ret_g (Ghost.arr_nil 1) rfl ⟨_, rfl, by simp_all⟩
 ·try simp at h2
  refine hw_skip ?_
  refine seqQ_n ?_
  refine hw_reg ?_
  refine de rfl (eop_mk0 ty26 ty9 fun v5 => ?_)
  refine dp rfl (pop_move rfl) ?_
  refine de rfl (eop_append (i := 0) ty26 ty9 rfl rfl rfl rfl rfl (by simp [flat, hcells]) (by simp; omega) fun v7 => ?_)
  refine dp rfl (pop_assign rfl) ?_
  refine dn ?_
  refine hw_ret ?_
  exact ret_a rfl rfl

/-- slices.Reverse[[]string,string] -/
theorem c_slices_Reverse_string_string [Tracks] {l : List Str} {v : Value} (hl : l.length ≤ 1000000) : Con Tryz.prog 120 [.raw v] [.arr v 1 (l.map .str)] (fun x M' => x = .tup [] ∧ M' = [.arr v 1 (l.reverse.map .str)]) := by
 refine Con.of_body Tryz.func120 rfl Tryz.ntmps120 rfl rfl ?_
 refine hw_reg ?_
 refine dp rfl (pop_move rfl) ?_
 refine de rfl (eop_len (i := 0) ty26 rfl rfl ?_)
 rw [List.length_map]
 refine dp rfl (pop_sub64 rfl rfl (by omega) (by omega)) ?_
 refine dp rfl (pop_assign rfl) ?_
 refine dp rfl (pop_assign rfl) ?_
 refine dn ?_
 refine hw_block ?_
 refine hw_loopw3 [2, 3, 7, 8, 9, 10, 11, 12, 13, 14, 15, 16, 17, 18, 19, 20, 21, 22, 23, 24, 25, 26, 27] (fun (i : Nat) (j : Int) (c : List Str) => [(2, .int .i64 i), (3, .int .i64 j)]) (fun (i : Nat) (j : Int) (c : List Str) => [.arr v 1 (c.map .str)]) (fun (i : Nat) (j : Int) (c : List Str) => i ≤ l.length ∧ j = (l.length : Int) - 1 - i ∧ Rev l c i) (fun (i : Nat) (j : Int) (c : List Str) => l.length - i) (0) ((l.length : Int) - 1) (l) ?_ ?_ ?_ ?_
 ·exact ⟨Nat.zero_le _, by omega, rev_start l⟩
 ·exact ⟨rfl, rfl, trivial⟩
 ·exact List.Perm.refl _
 ·intro i j c hinv
  obtain ⟨hi, hj, hr⟩ := hinv
  refine hw_seq ?_
  refine hw_reg ?_
  refine dp rfl (pop_move rfl) ?_
  refine dp rfl (pop_move rfl) ?_
  refine dp rfl (pop_lss rfl rfl) ?_
  refine dn ?_
  refine hw_cond rfl (fun h1 => ?_) (fun h2 => ?_)
  ·try simp at h1
   have hlen := hr.1
   obtain ⟨x, hx⟩ : ∃ x, c[i]? = some x := ⟨_, List.getElem?_eq_getElem (by omega)⟩
   obtain ⟨y, hy⟩ : ∃ y, c[l.length - 1 - i]? = some y := ⟨_, List.getElem?_eq_getElem (by omega)⟩
   refine hw_arr (i := 0) rfl (fun h0 he => ?_) (fun b off cap hv => ?_)
   ·exfalso; simp at he; subst he; simp at hlen; omega
   subst hv
   refine hw_skip ?_
   refine seqQ_n ?_
   refine hw_seq ?_
   refine hw_block ?_
   refine hw_draw1 (fun M => M = [.arr (.slice (some ⟨b, off, none⟩) (c.map HVal.str).length cap) 1 (c.map .str)]) [7, 11] mixed ?_
   refine ahp 0 rfl rfl (by kernel_rfl) (by kernel_rfl) (pop_move rfl) ?_
   refine ahp 1 rfl rfl (by kernel_rfl) (by kernel_rfl) (pop_move rfl) ?_
   refine ahp 2 rfl rfl (by kernel_rfl) (by kernel_rfl) (pop_move rfl) ?_
   refine ahp 3 rfl rfl (by kernel_rfl) (by kernel_rfl) (pop_move rfl) ?_
   refine ahp 4 rfl rfl (by kernel_rfl) (by kernel_rfl) (pop_move rfl) ?_
   refine ahp 5 rfl rfl (by kernel_rfl) (by kernel_rfl) (pop_move rfl) ?_
   refine ahp 6 rfl rfl (by kernel_rfl) (by kernel_rfl) (pop_idxraw (j := l.length - 1 - i) ty26 ty9 rfl rfl (by omega) (by simp; omega)) ?_
   refine ahl 7 rfl rfl (by kernel_rfl) (by kernel_rfl) (by simp) rfl (fun M hM => by subst hM; exact eop_load_arr (i := 0) (j := l.length - 1 - i) (f := 0) (y := .str y) ty9 rfl rfl rfl (by simp [hy]) (.inl ⟨rfl, rfl⟩) ⟨rfl, rfl⟩) ?_
   refine ahp 8 rfl rfl (by kernel_rfl) (by kernel_rfl) (pop_move rfl) ?_
   refine ahp 9 rfl rfl (by kernel_rfl) (by kernel_rfl) (pop_move rfl) ?_
   refine ahp 10 rfl rfl (by kernel_rfl) (by kernel_rfl) (pop_idxraw (j := i) ty26 ty9 rfl rfl rfl (by simp; omega)) ?_
   refine ahl 11 rfl rfl (by kernel_rfl) (by kernel_rfl) (by simp) rfl (fun M hM => by subst hM; exact eop_load_arr (i := 0) (j := i) (f := 0) (y := .str x) ty9 rfl rfl rfl (by simp [hx]) (.inl ⟨rfl, rfl⟩) ⟨rfl, rfl⟩) ?_
   refine ahp 12 rfl rfl (by kernel_rfl) (by kernel_rfl) (pop_idxraw (j := i) ty26 ty9 rfl rfl rfl (by simp; omega)) ?_
   refine ahe 13 rfl (by kernel_rfl) ?_
   refine hop_e0 (eop_store_arr (i := 0) (j := i) (f := 0) (y := .str x) (y' := .str y) ty9 rfl rfl rfl rfl (by simp [hx]) rfl rfl (by simp [hcells]) rfl ?_)
   refine ⟨fun _ => .inr (by simp [Before, Region.binds]), ?_⟩
   refine ahp 14 rfl rfl (by kernel_rfl) (by kernel_rfl) (pop_idxraw (j := l.length - 1 - i) ty26 ty9 rfl rfl (by omega) (by simp; omega)) ?_
   refine ahe 15 rfl (by kernel_rfl) ?_
   refine hop_e0 (eop_store_arr (i := 0) (j := l.length - 1 - i) (f := 0) (y := .str y) (y' := .str x) ty9 rfl rfl rfl rfl (by simp [List.getElem?_set]; rw [if_neg (by omega)]; simp [hy]) rfl rfl (by simp [hcells]) rfl ?_)
   refine ⟨fun _ => .inr (by simp [Before, Region.binds]), ?_⟩
   refine ahz (by kernel_rfl) ?_
   refine blockQ_n ?_
   refine seqQ_n ?_
   refine hw_reg1 ?_
   refine dp rfl (pop_move rfl) ?_
   refine dp rfl (pop_add64 rfl rfl (by omega) (by omega)) ?_
   refine dp rfl (pop_move rfl) ?_
   refine dp rfl (pop_sub64 rfl rfl (by omega) (by omega)) ?_
   refine dp rfl (pop_assign rfl) ?_
   refine dp rfl (pop_assign rfl) ?_
   refine dn ?_
   refine ⟨i + 1, j - 1, (c.set i y).set (l.length - 1 - i) x, ?_, ?_, ⟨rfl, rfl, trivial⟩, (by repeat (first | exact keeps_refl | refine keeps_upd rfl ?_ | refine keeps_loop rfl rfl ?_)), perm_eq (by simp [List.map_set])⟩
   ·exact ⟨by omega, by omega, rev_step hr (by omega) hx hy⟩
   ·dsimp only; omega
  ·try simp at h2
   have hend := rev_end hr (by omega)
   refine hw_exit ?_
   refine seqQ_x ?_
   refine loopQ3_x ?_
   refine blockQ_eq ?_
   exact ⟨_, _, Ghost.sub (Sub.refl _), _, _, rfl, Weak.refl _, rfl, by rw [hend]⟩
end Go.Proofs.YtmgbigiegjlieaaGreatDoor
end
section
namespace Go.HL
def turnTeams (r : Room) (s : List Swap) : List Str := if checkSwaps r s != 0 then [] else (turns r s).map (·.team)
theorem checkSwaps_ok {r : Room} {l : List Swap} (h : checkSwaps r l = 0) : checkRoom r = 0 ∧ l.length ≤ 600 := by
 unfold checkSwaps at h
 by_cases h1 : checkRoom r = 0
 ·rw [if_neg (by simp [h1])] at h
  split at h
  ·omega
  ·exact ⟨h1, by omega⟩
 ·rw [if_pos (by simpa using h1)] at h; exact absurd h h1
theorem orI_zero {a b : Int} (h : orI [a, b] = 0) : a = 0 ∧ b = 0 := by
 simp only [orI] at h
 split at h <;> simp_all
theorem openFault_ok {r : Room} {k : List Keep} {s : List Swap} (h : openFault r k s = 0) : checkRoom r = 0 ∧ checkSwaps r s = 0 ∧ checkKeeps r k = 0 := by
 unfold openFault at h
 by_cases h1 : orI [checkKeeps r k, checkSwaps r s] = 0
 ·obtain ⟨h2, h3⟩ := orI_zero h1
  exact ⟨(checkSwaps_ok h3).1, h3, h2⟩
 ·rw [if_pos (by simpa using h1)] at h; exact absurd h h1
theorem turns_len {r : Room} {s : List Swap} (h : checkRoom r = 0) : (turns r s).length ≤ 600 := by
 obtain ⟨_, h1, _, h2, h3, _⟩ := checkRoom_ok h
 unfold turns
 rw [turnsFrom_len]
 have := Nat.mul_le_mul (show r.Rounds.toNat ≤ 30 by omega) h1
 omega
theorem keepIn_snoc (r : Room) (t : Turn) (k : List Keep) (x : Keep) : ∀ p, keepIn r t p (k ++ [x]) = (if x.Team = t.of ∧ x.Round = t.round then { keepIn r t p k with Player := x.Player, At := r.Start } else keepIn r t p k) := by
 induction k with
 | nil => intro p; simp [keepIn]
 | cons y k ih => intro p; simp only [List.cons_append, keepIn]; exact ih _
theorem openFrom_snoc (r : Room) (k : List Keep) (t : Turn) : ∀ (l : List Turn) (i : Nat), openFrom r k i (l ++ [t]) = openFrom r k i l ++ [keepIn r t ⟨(i + l.length : Nat), t.team, [], 0, false⟩ k]
 | [], i => by simp [openFrom]
 | y :: l, i => by
   simp only [List.cons_append, openFrom, openFrom_snoc r k t l (i + 1), List.length_cons]
   have : i + 1 + l.length = i + (l.length + 1) := by omega
   rw [this]
end Go.HL
end
section
namespace Go.Proofs.YtmgbigiegjlieaaGreatDoor
open Go.HL
set_option maxRecDepth 100000
set_option linter.unusedVariables false
set_option linter.unusedSimpArgs false
/-- benchwarmer/draft.turns -/
theorem c_draft_turns [Tracks] {r : Room} {s : List Swap} (ht : r.Teams.length ≤ 20) (hr0 : 1 ≤ r.Rounds) (hr : r.Rounds ≤ 30) (hl : s.length ≤ 1000000) : ConP Tryz.prog 75 [.vptr (hcells (eRoom r)) 0, eSwaps s] (eTurns (turns r s)) := by
 refine Con.of_body Tryz.func75 rfl Tryz.ntmps75 rfl rfl ?_
 refine hw_reg ?_
 refine dp rfl (pop_assign rfl) ?_
 refine dn ?_
 refine hw_reg ?_
 refine dp rfl (pop_assign rfl) ?_
 refine dn ?_
 refine hw_ghost (Ghost.arr_nil 3) ?_
 refine hw_seq ?_
 refine hw_reg ?_
 refine dp rfl (pop_assign rfl) ?_
 refine dn ?_
 refine hw_block ?_
 refine hw_loopw2 [5, 6, 7, 9, 10, 11, 12, 13, 14, 15, 16, 17, 18, 19, 20, 21, 22, 23, 24, 25, 26, 27, 28, 29, 30, 31, 32, 33, 34, 35, 36, 37, 38, 39, 40, 41, 42, 43, 44, 45, 46, 47] (fun (n : Nat) (v : Value) => [(6, .int .i64 ((n : Int) + 1)), (5, .raw v)]) (fun (n : Nat) (v : Value) => [.arr v 3 ((turnsFrom r s n).map eTurn)]) (fun (n : Nat) (v : Value) => n ≤ r.Rounds.toNat) (fun (n : Nat) (v : Value) => r.Rounds.toNat - n) (0) (.slice none 0 0) ?_ ?_ ?_ ?_
 ·exact Nat.zero_le _
 ·exact ⟨rfl, rfl, trivial⟩
 ·exact List.Perm.refl _
 ·intro n v hn
  refine hw_seq ?_
  refine hw_reg ?_
  refine dp rfl (pop_move rfl) ?_
  refine dp rfl (pop_move rfl) ?_
  refine dp rfl ((pop_nilCheck rfl)) ?_
  refine dp rfl (pop_fieldAddr ty28 rfl ty3 (by decide) rfl) ?_
  refine dp rfl (pop_load ty3 rfl rfl rfl) ?_
  refine dp rfl (pop_leq rfl rfl) ?_
  refine dn ?_
  refine hw_cond rfl (fun h1 => ?_) (fun h2 => ?_)
  ·try simp at h1
   have hn30 : n < r.Rounds.toNat := by omega
   refine hw_skip ?_
   refine seqQ_n ?_
   refine hw_seq ?_
   refine hw_block ?_
   refine hw_reg ?_
   refine dp rfl (pop_move rfl) ?_
   refine dp rfl ((pop_nilCheck rfl)) ?_
   refine dp rfl (pop_fieldAddr ty28 rfl ty26 (by decide) rfl) ?_
   refine dp rfl (pop_load ty26 rfl rfl rfl) ?_
   refine de rfl (eop_calla ca23 rfl (WeakL.refl _) (c_slices_Clone_string_string (by omega)) fun v22 => ?_)
   refine dp rfl (pop_assign rfl) ?_
   refine dn ?_
   refine hw_join [23, 24, 25, 26, 27, 28, 29, 30] (fun (L : List Str) => []) (fun (L : List Str) => [.arr v22 1 (L.map .str), .arr v 3 ((turnsFrom r s n).map eTurn)]) (fun (L : List Str) => L = if backwards r.Way ((n : Int) + 1) then r.Teams.reverse else r.Teams) ?_ ?_
   ·skip
    refine hw_reg ?_
    refine dp rfl (pop_move rfl) ?_
    refine dp rfl ((pop_nilCheck rfl)) ?_
    refine dp rfl (pop_fieldAddr ty28 rfl ty3 (by decide) rfl) ?_
    refine dp rfl (pop_load ty3 rfl rfl rfl) ?_
    refine dp rfl (pop_move rfl) ?_
    refine dp rfl (pop_call ca119 rfl (WeakL.refl _) c_draft_backwards) ?_
    refine dn ?_
    refine hw_cond rfl (fun h3 => ?_) (fun h4 => ?_)
    ·try simp at h3
     refine hw_reg1 ?_
     refine dp rfl (pop_move rfl) ?_
     refine de rfl (eop_callf (M1 := [_]) (R := [_]) ca120 rfl (WeakL.refl _) (List.Perm.refl _) (c_slices_Reverse_string_string (l := r.Teams) (by omega)) ?_)
     rintro _ _ ⟨rfl, rfl⟩
     refine dn ?_
     refine ⟨_, ?_, trivial, (by repeat (first | exact keeps_refl | refine keeps_upd rfl ?_ | refine keeps_loop rfl rfl ?_)), List.Perm.refl _⟩
     ·simp_all
    ·try simp at h4
     refine hw_skip ?_
     refine ⟨_, ?_, trivial, (by repeat (first | exact keeps_refl | refine keeps_upd rfl ?_ | refine keeps_loop rfl rfl ?_)), List.Perm.refl _⟩
     ·simp_all
   ·intro L hL
    have hLl : L.length = r.Teams.length := by rw [hL]; split <;> simp
    have hb := turnsFrom_len r s n
    have hm := Nat.mul_le_mul (show n ≤ 30 by omega) (show r.Teams.length ≤ 20 by omega)
    refine hw_ghost (Ghost.fa0 7 rfl) ?_
    refine hw_reg ?_
    refine dp rfl (pop_move rfl) ?_
    refine dp rfl (pop_lenm ty26 rfl) ?_
    refine dp rfl (pop_move rfl) ?_
    refine dn ?_
    refine hw_block ?_
    refine hw_loopw2 [5, 9, 33, 34, 35, 36, 37, 38, 39, 40, 41, 42, 43, 44, 45, 46, 47] (fun (k : Nat) (u : Value) => [(33, .int .i64 k), (5, .raw u)]) (fun (k : Nat) (u : Value) => [.arr u 3 ((turnsFrom r s n).map eTurn ++ (L.take k).map fun t => eTurn ⟨(n : Int) + 1, t, owner ((n : Int) + 1) t s⟩)]) (fun (k : Nat) (u : Value) => k ≤ L.length ∧ (True)) (fun (k : Nat) (u : Value) => L.length - k) (0) (v) ?_ ?_ ?_ ?_
    ·exact ⟨Nat.zero_le _, by simp_all⟩
    ·exact ⟨rfl, rfl, trivial⟩
    ·exact perm_eq (by simp)
    ·intro k u hinv
     obtain ⟨hk, -⟩ := hinv
     refine hw_reg ?_
     refine dp rfl (pop_lss rfl rfl) ?_
     refine dn ?_
     refine hw_seq ?_
     refine hw_cond rfl (fun h5 => ?_) (fun h6 => ?_)
     ·try simp at h5
      obtain ⟨x, hx⟩ : ∃ x, L[k]? = some x := ⟨_, List.getElem?_eq_getElem h5⟩
      have hdx := drop_cons hx
      refine hw_skip ?_
      refine seqQ_n ?_
      refine hw_seq ?_
      refine hw_block ?_
      refine hw_reg ?_
      refine dp rfl (pop_idx ty26 ty9 rfl rfl rfl (by assumption)) ?_
      refine dp rfl (pop_load ty9 rfl rfl rfl) ?_
      refine dp rfl (pop_assign rfl) ?_
      refine dn ?_
      refine hw_reg1 ?_
      refine dp rfl (pop_move rfl) ?_
      refine dp rfl (pop_move rfl) ?_
      refine dp rfl (pop_move rfl) ?_
      refine dp rfl (pop_move rfl) ?_
      refine dp rfl (pop_move rfl) ?_
      refine dp rfl (pop_move rfl) ?_
      refine dp rfl (pop_call ca121 rfl (WeakL.refl _) (c_draft_owner (by assumption))) ?_
      refine dp rfl (pop_build (cs := [_, _, _]) ty128 pl128 rfl) ?_
      refine dp rfl (pop_buildSlice (hs := [_]) ty124 ty128 rfl rfl (by decide) (by decide) rfl) ?_
      refine de rfl (eop_append (i := 0) ty124 ty128 rfl rfl rfl rfl rfl (by simp [flat, hcells]) (by simp; omega) fun v46 => ?_)
      refine dp rfl (pop_assign rfl) ?_
      refine dn ?_
      refine blockQ_n ?_
      refine seqQ_n ?_
      refine hw_reg1 ?_
      refine dp rfl (pop_add64 rfl rfl (by omega) (by omega)) ?_
      refine dp rfl (pop_move rfl) ?_
      refine dn ?_
      refine ⟨k + 1, _, ?_, ?_, ⟨rfl, rfl, trivial⟩, (by repeat (first | exact keeps_refl | refine keeps_upd rfl ?_ | refine keeps_loop rfl rfl ?_)), perm_eq (by simp [List.take_add_one, hx])⟩
      ·exact ⟨by omega, trivial⟩
      ·dsimp only; omega
     ·try simp at h6
      have hnk : L.length ≤ k := by omega
      obtain rfl : k = L.length := by omega
      refine hw_exit ?_
      refine seqQ_x ?_
      refine loopQ2_x ?_
      refine blockQ_eq ?_
      refine blockQ_n ?_
      refine seqQ_n ?_
      refine hw_reg1 ?_
      refine dp rfl (pop_move rfl) ?_
      refine dp rfl (pop_add64 rfl rfl (by omega) (by omega)) ?_
      refine dp rfl (pop_assign rfl) ?_
      refine dn ?_
      refine ⟨n + 1, _, ?_, ?_, ⟨rfl, rfl, trivial⟩, (by repeat (first | exact keeps_refl | refine keeps_upd rfl ?_ | refine keeps_loop rfl rfl ?_)), perm_eq (by simp [turnsFrom, roundTurns, hL, List.map_append, Function.comp_def])⟩
      ·omega
      ·dsimp only; omega
  ·try simp at h2
   obtain rfl : n = r.Rounds.toNat := by omega
   refine hw_exit ?_
   refine seqQ_x ?_
   refine loopQ2_x ?_
   refine blockQ_eq ?_
   refine seqQ_n ?_
   refine hw_reg ?_
   refine dp rfl (pop_move rfl) ?_
   refine dp rfl (pop_assign rfl) ?_
   refine dn ?_
   refine hw_ret ?_
   exact ret_fa (M := []) 4 rfl rfl rfl

/-- benchwarmer/draft.Turns -/
theorem c_draft_Turns [Tracks] {r : Room} {s : List Swap} (ht : r.Teams.length ≤ 1000000) (hp : r.Players.length ≤ 1000000) (hl : s.length ≤ 1000000) : ConP Tryz.prog 44 [eRoom r, eSwaps s] (.tup [eSs (turnTeams r s), .int .i64 (checkSwaps r s)]) := by
 refine Con.of_body Tryz.func44 rfl Tryz.ntmps44 rfl rfl ?_
 refine hw_reg ?_
 refine dp rfl (pop_box rfl rfl) ?_
 refine dp rfl (pop_assign rfl) ?_
 refine dp rfl (pop_assign rfl) ?_
 refine dn ?_
 refine hw_seq ?_
 refine hw_reg ?_
 refine dp rfl (pop_loadw ty28 rfl rfl rfl rfl) ?_
 refine dp rfl (pop_move rfl) ?_
 refine dp rfl (pop_call ca74 rfl (WeakL.refl _) (c_draft_CheckSwaps (by assumption) (by assumption) (by assumption))) ?_
 refine dp rfl (pop_assign rfl) ?_
 refine dn ?_
 refine hw_reg ?_
 refine dp rfl (pop_move rfl) ?_
 refine dp rfl (pop_neq rfl rfl) ?_
 refine dn ?_
 refine hw_cond rfl (fun h1 => ?_) (fun h2 => ?_)
 ·try simp at h1
  refine hw_reg ?_
  refine dp rfl (pop_move rfl) ?_
  refine dp rfl (pop_assign rfl) ?_
  refine dp rfl (pop_assign rfl) ?_
  refine dn ?_
  refine hw_ret ?_
  exact ret_w rfl (weak_tup2 (by rw [turnTeams, if_pos (by simp_all)]; exact weak_nil 1) (Weak.refl _))
 ·try simp at h2
  refine hw_skip ?_
  refine seqQ_n ?_
  refine hw_reg ?_
  refine dp rfl (pop_assign rfl) ?_
  refine dn ?_
  refine hw_ghost (Ghost.arr_nil 1) ?_
  refine hw_seq ?_
  refine hw_reg ?_
  obtain ⟨_, hq1, _, hq2, hq3, _⟩ := checkRoom_ok (r := r) ((checkSwaps_ok (l := s) h2).1)
  have hlen := turns_len (r := r) (s := s) (checkSwaps_ok h2).1
  refine dp rfl (pop_move rfl) ?_
  refine dp rfl (pop_call ca75 rfl (WeakL.refl _) (c_draft_turns (by assumption) (by assumption) (by assumption) (by assumption))) ?_
  refine dp rfl (pop_lenm ty124 rfl) ?_
  refine dp rfl (pop_move rfl) ?_
  refine dn ?_
  refine hw_block ?_
  refine hw_loopw2 [7, 9, 19, 20, 21, 22, 23, 24, 25, 26, 27, 28] (fun (k : Nat) (u : Value) => [(19, .int .i64 k), (7, .raw u)]) (fun (k : Nat) (u : Value) => [.arr u 1 (((turns r s).take k).map fun t => .str t.team)]) (fun (k : Nat) (u : Value) => k ≤ (turns r s).length ∧ (True)) (fun (k : Nat) (u : Value) => (turns r s).length - k) (0) (.slice none 0 0) ?_ ?_ ?_ ?_
  ·exact ⟨Nat.zero_le _, by simp_all⟩
  ·exact ⟨rfl, rfl, trivial⟩
  ·exact perm_eq (by simp)
  ·intro k u hinv
   obtain ⟨hk, -⟩ := hinv
   refine hw_reg ?_
   refine dp rfl (pop_lss rfl rfl) ?_
   refine dn ?_
   refine hw_seq ?_
   refine hw_cond rfl (fun h3 => ?_) (fun h4 => ?_)
   ·try simp at h3
    obtain ⟨x, hx⟩ : ∃ x, (turns r s)[k]? = some x := ⟨_, List.getElem?_eq_getElem h3⟩
    have hdx := drop_cons hx
    refine hw_skip ?_
    refine seqQ_n ?_
    refine hw_seq ?_
    refine hw_block ?_
    refine hw_reg ?_
    refine dp rfl (pop_idx ty124 ty128 rfl rfl rfl (by assumption)) ?_
    refine dp rfl (pop_loadw ty128 rfl rfl rfl rfl) ?_
    refine de rfl (eop_alloc ty128 rfl fun b9 => ?_)
    refine de0 (eop_storew ty128 rfl rfl rfl rfl rfl ?_)
    refine dn ?_
    refine hw_ghost (Ghost.fc0 9 rfl) ?_
    refine hw_reg1 ?_
    refine dp rfl (pop_move rfl) ?_
    refine dp rfl (pop_fieldAddr ty128 rfl ty9 (by decide) rfl) ?_
    refine dp rfl (pop_load ty9 rfl rfl rfl) ?_
    refine dp rfl (pop_buildSlice (hs := [_]) ty26 ty9 rfl rfl (by decide) (by decide) rfl) ?_
    refine de rfl (eop_append (i := 0) ty26 ty9 rfl rfl rfl rfl rfl (by simp [flat, hcells]) (by simp; omega) fun v27 => ?_)
    refine dp rfl (pop_assign rfl) ?_
    refine dn ?_
    refine blockQ_n ?_
    refine seqQ_n ?_
    refine hw_reg1 ?_
    refine dp rfl (pop_add64 rfl rfl (by omega) (by omega)) ?_
    refine dp rfl (pop_move rfl) ?_
    refine dn ?_
    refine ⟨k + 1, _, ?_, ?_, ⟨rfl, rfl, trivial⟩, (by repeat (first | exact keeps_refl | refine keeps_upd rfl ?_ | refine keeps_loop rfl rfl ?_)), perm_eq (by simp [List.take_add_one, hx])⟩
    ·exact ⟨by omega, trivial⟩
    ·dsimp only; omega
   ·try simp at h4
    have hnk : (turns r s).length ≤ k := by omega
    obtain rfl : k = (turns r s).length := by omega
    refine hw_exit ?_
    refine seqQ_x ?_
    refine loopQ2_x ?_
    refine blockQ_eq ?_
    refine seqQ_n ?_
    refine hw_reg ?_
    refine dp rfl (pop_move rfl) ?_
    refine dp rfl (pop_assign rfl) ?_
    refine dp rfl (pop_assign rfl) ?_
    refine dn ?_
    refine hw_ret ?_
    (refine ret_fa (M := []) 4 rfl rfl ?_
     simp_all [turnTeams, eSs, Function.comp_def, ofVal, ofVal1])

end Go.Proofs.YtmgbigiegjlieaaGreatDoor
end
section
namespace Go.HL
def ResC (P : Program) (e : Env) : List ResultVar → List HVal → Prop
 | [], [] => True
 | .tmp t :: r, h :: l => e t = some h ∧ ResC P e r l
 | .cell a t :: r, h :: l => (∃ cs d size bytes zero, e a = some (.vptr cs 0) ∧ Fits P t d size bytes zero ∧ ((d.isAgg = false ∧ cs[0]? = some h) ∨ (d.isAgg = true ∧ size = cs.length ∧ h = .agg cs))) ∧ ResC P e r l
 | _, _ => False
def tupOf : List HVal → HVal
 | [h] => h
 | l => .tup l
def RetC [Tracks] (P : Program) (rs : List ResultVar) (Q : HVal → List MObj → Prop) : Exit → Env → List MObj → Prop
 | .normal, e, M | .ret, e, M => ∃ e' M', Ghost e M e' M' ∧ ∃ l h', ResC P e' rs l ∧ Weak (tupOf l) h' ∧ Q h' M'
 | _, _, _ => False
theorem resC_run [Tracks] {P : Program} {I : Imm} {e : Env} {tmps : Array Value} (he : EnvV I e tmps) {M : List MObj} {w : World} (hs : Sat P I M w) : ∀ (rs : List ResultVar) (l : List HVal), ResC P e rs l →
 ∃ vs : List Value, (rs.mapM (resRun tmps)).run P w = .ok vs w ∧ VL I l vs := by
 intro rs
 induction rs with
 | nil =>
   intro l h
   cases l with
   | nil => exact ⟨[], by simp, VL.nil⟩
   | cons _ _ => exact h.elim
 | cons r rs ih =>
   intro l h
   cases l with
   | nil => cases r <;> exact h.elim
   | cons x l =>
     cases r with
     | tmp t =>
       obtain ⟨h1, h2⟩ := h
       obtain ⟨vs, h3, h4⟩ := ih l h2
       obtain ⟨v, h5, h6⟩ := he t x h1
       refine ⟨v :: vs, ?_, VL.cons h6 h4⟩
       simp only [List.mapM_cons, resRun, Sem.run_bind, Sem.run_pure, Result.andThen_ok, h3]
       simp [h5]
     | cell a t =>
       obtain ⟨⟨cs, d, size, bytes, zero, h1, hf, hh⟩, h2⟩ := h
       obtain ⟨vs, h3, h4⟩ := ih l h2
       obtain ⟨v, h5, h6⟩ := he a _ h1
       obtain ⟨b, base, rc, el, fr, g1, g2, g3, g4⟩ := h6.vptr_inv
       obtain ⟨v', h7, h8⟩ := run_loadVar (I := I) (h := x) (o := base + 0) (off := 0) (base := base) hf (hs.imm _ _ g2) rfl g3 g4 (by
        rcases hh with hh | ⟨p1, p2, p3⟩
        ·exact .inl hh
        ·exact .inr ⟨p1, by omega, by rw [p2]; simpa using p3⟩)
       refine ⟨v' :: vs, ?_, VL.cons h8 h4⟩
       have hg : tmps.getD a undef = .pointer (some ⟨b, base + 0, none⟩) := by simp [h5, g1]
       simp only [List.mapM_cons, resRun, Sem.run_bind, Sem.run_pure, Result.andThen_ok, hg, asAddr, h7, h3]

theorem Con.of_bodyc [Tracks] {P : Program} {f : FuncId} {fn : Func} {c : Code} {hargs : List HVal} {M : List MObj} {Q : HVal → List MObj → Prop}
 {n : Nat} (hf : P.funcs[f]? = some fn) (hb : fn.body = some c) (hnt : fn.ntmps = n) (hn' : Nat.ble hargs.length n = true) {rs : List ResultVar} (hrs : fn.results.toList = rs) (h : HWp P n c (argsE hargs) M (RetC P rs Q)) : Con P f hargs M Q := by
 have hn := Nat.le_of_ble_eq_true hn'
 subst hnt hrs
 intro I F w args h1 h2
 refine calls_of_wp hf hb ?_
 have hlen := h1.1
 refine wp_mono (h I F _ w rfl (by simp; omega) ?_ h2) ?_
 ·intro t x hx
  obtain ⟨v, h3, h4⟩ := h1.get hx
  have hlt : t < args.length := lt_of_get h3
  refine ⟨v, ?_, h4⟩
  rw [Array.getElem?_append_left (by simpa using hlt)]
  simpa using h3
 ·have key : ∀ (a' : Act) (w' : World), a'.defers = [] → (∃ J e M', Le I J ∧ (∃ e' M'', Ghost e M' e' M'' ∧ ∃ l h', ResC P e' fn.results.toList l ∧ Weak (tupOf l) h' ∧ Q h' M'') ∧ EnvV J e a'.tmps ∧ Sat P J (M' ++ F) w') →
   a'.defers = [] ∧ ∃ v, (results fn a'.tmps).run P w' = .ok v w' ∧ (∃ v_1 h M' J, Ending.returned v = Ending.returned v_1 ∧ Le I J ∧ Q h M' ∧ V J h v_1 ∧ Sat P J (M' ++ F) w') := by
   rintro a' w' hd ⟨J, e, M', hl, ⟨e', M'', hg, l, h', hr, hw, hq⟩, he, hs⟩
   obtain ⟨J2, hl2, he2, hs2⟩ := hg J F a'.tmps w' he hs
   refine ⟨hd, ?_⟩
   obtain ⟨vs, h3, h4⟩ := resC_run he2 hs2 _ _ hr
   have hrun : (results fn a'.tmps).run P w' = .ok (if h : vs.length = 1 then vs[0] else .tuple vs.toArray) w' := by
    rw [results_eq]
    have hm : (fn.results.mapM (resRun a'.tmps)).run P w' = .ok vs.toArray w' := by
     rw [Array.mapM_eq_mapM_toList]
     simp only [Sem.run_map, h3, Result.andThen_ok]
    simp only [Sem.run_bind, Sem.run_pure]
    rw [hm]
    simp
   refine ⟨_, hrun, _, h', M'', J2, rfl, hl.trans hl2, hq, ?_, hs2⟩
   apply hw
   match l, h4 with
   | [], h4 =>
     have : vs = [] := by have := h4.1; simpa using this
     subst this
     exact .tup (by simp) (fun j c v h _ => by simp at h)
   | [x], h4 =>
     have hl1 : vs.length = 1 := by have := h4.1; simpa using this
     match vs, hl1, h4 with
     | [v], _, h4 => exact h4.head
   | x :: y :: r, h4 =>
     have hl1 : vs.length = r.length + 2 := by have := h4.1; simpa using this
     rw [dif_neg (by omega)]
     exact .tup (by simp [hl1]) (fun j c v h1 h2 => h4.2 j c v h1 (by simpa using h2))
  rintro x a' w' ⟨p1, p2, J, e, M', p3, p4, p5, p6⟩
  cases x with
  | normal => exact key a' w' p1 ⟨J, e, M', p3, p4, p5, p6⟩
  | ret => exact key a' w' p1 ⟨J, e, M', p3, p4, p5, p6⟩
  | exit id => exact p4.elim
  | goto l => exact p4.elim
  | panic ch => exact p4.elim
  | outgrown => exact p4.elim

section
variable {P : Program} {e : Env} {dst : Option Tmp} {ty : TypeId} {pos : String} {af : Array Edge} {g : Option (Nat × Bool)} {M : List MObj} {K : HVal → List MObj → Prop}
theorem Fits.arrD [Tracks] {t : TypeId} {n el size bytes : Nat} {zero : Value} (h : Fits P t (.arr n el) size bytes zero) : P.underlying t = some (.array n el) := by
 obtain ⟨x, h1, h2⟩ := h.underlying
 cases x <;> simp [descOf] at h2
 obtain ⟨rfl, rfl⟩ := h2
 exact h1
theorem run_indexAtA [Tracks] {t el : TypeId} {n size bytes sz b2 : Nat} {zero z2 : Value} {d : TD} (hf : Fits P t (.arr n el) size bytes zero) (hel : Fits P el d sz b2 z2) {k : IntKind} {j b o : Nat} (hj : j < n) (w : World) :
 (Instr.indexAt t (.pointer (some ⟨b, o, none⟩)) (.int k (j : Int))).run P w = .ok (.pointer (some ⟨b, o + j * sz, none⟩)) w := by
 have h1 : (0 : Int) ≤ (j : Int) ∧ (j : Int) < (n : Int) := by omega
 simp [Instr.indexAt, asIntOf, run_underlying hf.arrD, h1, hel.run_sizeOf, addr_add, Instr.sureAddr]
 intro h; omega
/-- An element of an array. -/
theorem pop_idxa [Tracks] {x y : Operand} {t el : TypeId} {n size bytes sz b2 : Nat} {zero z2 : Value} {d : TD} {cs : List HVal} {off : Nat} {k : IntKind} {i : Int} {j : Nat}
 (hf : Fits P t (.arr n el) size bytes zero) (hel : Fits P el d sz b2 z2) (hx : evalO e x = some (.vptr cs off)) (hy : evalO e y = some (.int k i)) (hi : i = (j : Int)) (hj : j < n) :
 POp P e ⟨dst, .indexAddr t x y, ty, pos, af, g⟩ (.vptr cs (off + j * sz)) :=
 POp.of_val fun I a w ho => by
  subst hi
  obtain ⟨b, base, rc, el, fr, h1, h2, h3, h4⟩ := (ho.one (x := x) (by simp [Op.operands]) hx).vptr_inv
  have h5 := (ho.one (x := y) (by simp [Op.operands]) hy).int_inv
  refine ⟨.pointer (some ⟨b, base + off + j * sz, none⟩), by simp [execOp, h1, h5, run_indexAtA hf hel hj], ?_⟩
  rw [Nat.add_assoc]; exact .vptr h2 h3 h4
theorem pop_idxa_raw [Tracks] {x y : Operand} {t el : TypeId} {n size bytes sz b2 : Nat} {zero z2 : Value} {d : TD} {b o : Nat} {k : IntKind} {i : Int} {j : Nat}
 (hf : Fits P t (.arr n el) size bytes zero) (hel : Fits P el d sz b2 z2) (hx : evalO e x = some (.raw (.pointer (some ⟨b, o, none⟩)))) (hy : evalO e y = some (.int k i)) (hi : i = (j : Int)) (hj : j < n) :
 POp P e ⟨dst, .indexAddr t x y, ty, pos, af, g⟩ (.raw (.pointer (some ⟨b, o + j * sz, none⟩))) :=
 POp.of_val fun I a w ho => by
  subst hi
  have h1 := (ho.one (x := x) (by simp [Op.operands]) hx).raw_inv
  have h5 := (ho.one (x := y) (by simp [Op.operands]) hy).int_inv
  exact ⟨_, by simp [execOp, h1, h5, run_indexAtA hf hel hj], .raw _ rfl⟩

theorem pop_indexByte [Tracks] {f : FuncId} {fn : Func} {args : Array Operand} {ats : Array TypeId} {x y : Operand} {s : List UInt8} {c : Int} (hf : P.funcs[f]? = some fn) (h1 : (fn.name == "runtime.NumGoroutine") = false) (h2 : fn.body.isNone = true)
 (h3 : (Extern.findNext fn).isNone = true) (h4 : Extern.find fn = some Extern.BytealgIndexByte.indexByte) (ha : args = #[x, y]) (hx : evalO e x = some (.str s)) (hy : evalO e y = some (.int .u8 c)) :
 POp P e ⟨dst, .call ⟨.value (.func f), args, ats⟩, ty, pos, af, g⟩ (.int .i64 (Lib.indexByte s c.toNat.toUInt8)) :=
 POp.of_val fun I a w ho => by
  subst ha
  have e1 := (ho.one (x := x) (by simp [Op.operands, Call.operands]) hx).str_inv
  have e2 := (ho.one (x := y) (by simp [Op.operands, Call.operands]) hy).int_inv
  refine ⟨_, ?_, .int _ _⟩
  have h3' : Extern.findNext fn = none := by cases h : Extern.findNext fn with | none => rfl | some _ => rw [h] at h3; simp at h3
  have hcmp : (Extern.BytealgIndexByte.indexByte #[.string ⟨s.toArray⟩, .int .u8 c]).run P w = .ok (.int .i64 (Lib.indexByte s c.toNat.toUInt8)) w := by
   have := Lib.run_indexByteString (P := P) ⟨s.toArray⟩ c w
   simpa using this
  have hev : a.eval (.func f) = .func (.func f) #[] #[] := rfl
  have hmap : (#[x, y] : Array Operand).map a.eval = #[.string ⟨s.toArray⟩, .int .u8 c] := by simp [e1, e2]
  have hargs : (#[] : Array Value) ++ #[.string ⟨s.toArray⟩, .int .u8 c] ++ #[] = #[.string ⟨s.toArray⟩, .int .u8 c] := rfl
  simp only [execOp, resolve, hev, hmap, Deferred.ofValue, invoke, callFunc, Sem.run_bind, Sem.run_pure, Result.andThen_ok, run_program, hf, h1, h2, h3', h4, Bool.false_eq_true, if_false, if_true, run_mark, hargs, hcmp]
end
end Go.HL
end
section
namespace Go.HL
def asciiSet (l : List UInt8) : List HVal := (List.range 256).map fun i => .bool (l.contains (UInt8.ofNat i))
theorem asciiSet_len (l : List UInt8) : (asciiSet l).length = 256 := by simp [asciiSet]
theorem asciiSet_get (l : List UInt8) (c : UInt8) : (asciiSet l)[c.toNat]? = some (.bool (l.contains c)) := by
 have := c.toNat_lt
 simp [asciiSet, List.getElem?_range, this]
theorem flat_bools {α : Type} (f : α → Bool) : ∀ l : List α, flat (l.map fun i => .bool (f i)) = true
 | [] => rfl
 | x :: l => by simp only [List.map_cons, flat]; exact flat_bools f l
theorem asciiSet_flat (l : List UInt8) : flat (asciiSet l) = true := flat_bools _ _
theorem asciiSet_add (l : List UInt8) (c : UInt8) : setL (asciiSet l) (0 + c.toNat * 1) [.bool true] = asciiSet (l ++ [c]) := by
 have hc := c.toNat_lt
 have hl : 0 + c.toNat * 1 = c.toNat := by omega
 rw [hl]
 apply List.ext_getElem?
 intro i
 have hlen := asciiSet_len l
 simp only [setL, List.length_singleton]
 by_cases hi : i < c.toNat
 ·rw [List.getElem?_append_left (by simp; omega), List.getElem?_append_left (by simp [hlen]; omega), List.getElem?_take_of_lt hi]
  have h256 : i < 256 := by omega
  have hne : UInt8.ofNat i ≠ c := fun h => by
   have := congrArg UInt8.toNat h
   rw [UInt8.toNat_ofNat_of_lt' (by simpa [UInt8.size] using h256)] at this; omega
  simp [asciiSet, List.getElem?_range, h256, hne]
 ·by_cases he : i = c.toNat
  ·subst he
   rw [List.getElem?_append_left (by simp [hlen]; omega), List.getElem?_append_right (by simp [hlen]; omega)]
   rw [asciiSet_get]
   simp [hlen, Nat.min_eq_left (Nat.le_of_lt hc)]
  ·rw [List.getElem?_append_right (by simp [hlen]; omega), List.getElem?_drop]
   have e1 : c.toNat + 1 + (i - ((asciiSet l).take c.toNat ++ [HVal.bool true]).length) = i := by simp [hlen]; omega
   rw [e1]
   by_cases h256 : i < 256
   ·have hne : UInt8.ofNat i ≠ c := fun h => by
     have := congrArg UInt8.toNat h
     rw [UInt8.toNat_ofNat_of_lt' (by simpa [UInt8.size] using h256)] at this; omega
    simp [asciiSet, List.getElem?_range, h256, hne]
   ·rw [List.getElem?_eq_none (by rw [asciiSet_len]; omega), List.getElem?_eq_none (by rw [asciiSet_len]; omega)]
def rtrim (p : UInt8 → Bool) (s : Str) : Str := (s.reverse.dropWhile p).reverse
theorem rtrim_snoc (p : UInt8 → Bool) (s : Str) (c : UInt8) : rtrim p (s ++ [c]) = if p c then rtrim p s else s ++ [c] := by
 unfold rtrim
 rw [List.reverse_append]
 simp only [List.reverse_cons, List.reverse_nil, List.nil_append, List.singleton_append, List.dropWhile_cons]
 split <;> simp
theorem dw_len (p : UInt8 → Bool) : ∀ s : Str, (s.dropWhile p).length ≤ s.length
 | [] => Nat.le_refl _
 | x :: s => by
   rw [List.dropWhile_cons]
   split
   ·exact Nat.le_succ_of_le (dw_len p s)
   ·exact Nat.le_refl _
theorem rtrim_len (p : UInt8 → Bool) (s : Str) : (rtrim p s).length ≤ s.length := by
 unfold rtrim
 rw [List.length_reverse]
 have := dw_len p s.reverse
 rwa [List.length_reverse] at this
theorem dw_nil (p : UInt8 → Bool) : ∀ s : Str, s.dropWhile p = [] → ∀ c ∈ s, p c = true
 | [], _, c, h => by cases h
 | x :: s, h, c, hc => by
   rw [List.dropWhile_cons] at h
   by_cases hx : p x = true
   ·rw [if_pos hx] at h
    rcases List.mem_cons.1 hc with rfl | hc
    ·exact hx
    ·exact dw_nil p s h c hc
   ·rw [if_neg hx] at h; cases h
theorem trim_nil (p : UInt8 → Bool) (s : Str) : ((rtrim p s).dropWhile p == []) = s.all p := by
 induction s using List.reverseRecOn' with
 | nil => rfl
 | snoc s c ih =>
   rw [rtrim_snoc]
   by_cases hc : p c = true
   ·rw [if_pos hc, ih]; simp [hc]
   ·rw [if_neg hc]
    have : (s ++ [c]).all p = false := by simp [hc]
    rw [this]
    cases hd : (s ++ [c]).dropWhile p with
    | nil => exact absurd (dw_nil _ _ hd c (by simp)) hc
    | cons _ _ => rfl
where
 List.reverseRecOn' {motive : Str → Prop} (nil : motive []) (snoc : ∀ s c, motive s → motive (s ++ [c])) (l : Str) : motive l := by
  have : ∀ n (l : Str), l.length = n → motive l := by
   intro n
   induction n with
   | zero => intro l h; rw [List.length_eq_zero_iff.1 h]; exact nil
   | succ n ih =>
     intro l h
     have hne : l ≠ [] := fun h0 => by subst h0; simp at h
     rw [← List.dropLast_concat_getLast hne]
     exact snoc _ _ (ih _ (by simp [h]))
  exact this l.length l rfl
def cut38 : Str := [97, 98, 99, 100, 101, 102, 103, 104, 105, 106, 107, 108, 109, 110, 111, 112, 113, 114, 115, 116, 117, 118, 119, 120, 121, 122, 48, 49, 50, 51, 52, 53, 54, 55, 56, 57, 45, 95]
def small26 : Str := [97, 98, 99, 100, 101, 102, 103, 104, 105, 106, 107, 108, 109, 110, 111, 112, 113, 114, 115, 116, 117, 118, 119, 120, 121, 122]
theorem all256 {p : UInt8 → Bool} (h : (List.range 256).all (fun i => p (UInt8.ofNat i)) = true) (c : UInt8) : p c = true := by
 have := List.all_eq_true.1 h c.toNat (List.mem_range.2 c.toNat_lt)
 simpa using this
theorem cut38_eq (c : UInt8) : cut38.contains c = keyCh c := by
 have := all256 (p := fun c => cut38.contains c == keyCh c) (by kernel_rfl) c
 simpa using this
theorem small26_eq (c : UInt8) : decide (0 ≤ Lib.indexByte small26 c) = (decide (97 ≤ c.toNat) && decide (c.toNat ≤ 122)) := by
 have := all256 (p := fun c => decide (0 ≤ Lib.indexByte small26 c) == (decide (97 ≤ c.toNat) && decide (c.toNat ≤ 122))) (by kernel_rfl) c
 simpa using this
theorem key_ref (s : Str) : key s = ((!(out s.length 1 40) && ((rtrim (cut38.contains ·) s).dropWhile (cut38.contains ·) == [])) && decide (0 ≤ Lib.indexByte small26 (s.headD 0))) := by
 rw [trim_nil, small26_eq]
 have : (fun x => cut38.contains x) = keyCh := funext cut38_eq
 rw [this]
 unfold key keyHd
 cases s with
 | nil => simp [out]
 | cons x r =>
   simp only [List.headD_cons]
   have h1 : (!(out ((x :: r).length : Int) 1 40)) = decide ((x :: r).length ≤ 40) := by
    simp only [out, List.length_cons]
    rw [Bool.eq_iff_iff]; simp; omega
   rw [h1]
   have h2 : ((x :: r) != []) = true := rfl
   rw [h2]
   have hb : ∀ a b c d : Bool, (true && a && c && d && b) = (a && b && (c && d)) := by decide
   exact hb _ _ _ _
theorem moment_ref (n : Int) : (if out n 0 345686399999 then (1 : Int) else 0) = if moment n then 0 else 1 := by
 have : out n 0 345686399999 = !(moment n) := by
  simp only [out, moment]; rw [Bool.eq_iff_iff]; simp; try omega
 rw [this]; cases moment n <;> rfl
def ownFrom (r : Room) : Nat → List Str
 | 0 => []
 | n + 1 => ownFrom r n ++ (if backwards r.Way ((n : Int) + 1) then r.Teams.reverse else r.Teams)
def ownTurns (r : Room) : List Str := ownFrom r r.Rounds.toNat
theorem ownFrom_len (r : Room) : ∀ n, (ownFrom r n).length = n * r.Teams.length
 | 0 => by simp [ownFrom]
 | n + 1 => by
   have : (if backwards r.Way ((n : Int) + 1) then r.Teams.reverse else r.Teams).length = r.Teams.length := by split <;> simp
   simp only [ownFrom, List.length_append, ownFrom_len r n, this, Nat.succ_mul]
end Go.HL
end
section
namespace Go.Proofs.YtmgbigiegjlieaaGreatDoor
open Go.HL
set_option maxRecDepth 100000
set_option linter.unusedVariables false
set_option linter.unusedSimpArgs false
/-- strings.makeASCIISet -/
theorem c_strings_makeASCIISet [Tracks] {l : Str} (hl : l.length ≤ 1000000) (ha : ∀ c ∈ l, c.toNat < 128) : ConP Tryz.prog 98 [.str l] (.tup [.agg (asciiSet l), .bool true]) := by
 refine Con.of_bodyc Tryz.func98 rfl Tryz.ntmps98 rfl rfl ?_
 refine hw_reg ?_
 refine de rfl (eop_alloc ty147 rfl fun b2 => ?_)
 refine dp rfl (pop_assign rfl) ?_
 refine dn ?_
 refine hw_seq ?_
 refine hw_reg ?_
 refine dp rfl (pop_assign rfl) ?_
 refine dn ?_
 refine hw_block ?_
 refine hw_loopw [3, 4, 5, 6, 7, 8, 9, 10, 11, 12, 13, 14, 15, 16, 17, 18, 19] (fun (k : Nat) => [(4, .int .i64 k)]) (fun (k : Nat) => [.cells b2 (asciiSet (l.take k))]) (fun (k : Nat) => k ≤ l.length ∧ (True)) (fun (k : Nat) => l.length - k) (0) ?_ ?_ ?_ ?_
 ·exact ⟨Nat.zero_le _, by simp_all⟩
 ·exact ⟨rfl, trivial⟩
 ·exact perm_eq rfl
 ·intro k hinv
  obtain ⟨hk, -⟩ := hinv
  refine hw_seq ?_
  refine hw_reg ?_
  refine dp rfl (pop_move rfl) ?_
  refine dp rfl (pop_move rfl) ?_
  refine dp rfl (pop_lens ty9 rfl) ?_
  refine dp rfl (pop_lss rfl rfl) ?_
  refine dn ?_
  refine hw_cond rfl (fun h1 => ?_) (fun h2 => ?_)
  ·try simp at h1
   obtain ⟨x, hx⟩ : ∃ x, l[k]? = some x := ⟨_, List.getElem?_eq_getElem h1⟩
   have hdx := drop_cons hx
   have hc := ha x (List.mem_of_getElem? hx)
   refine hw_skip ?_
   refine seqQ_n ?_
   refine hw_seq ?_
   refine hw_block ?_
   refine hw_reg ?_
   refine dp rfl (pop_move rfl) ?_
   refine dp rfl (pop_move rfl) ?_
   refine dp rfl (pop_indexs ty9 rfl rfl rfl (by assumption)) ?_
   refine dp rfl (pop_assign rfl) ?_
   refine dn ?_
   refine hw_seq ?_
   refine hw_reg ?_
   refine dp rfl (pop_move rfl) ?_
   refine dp rfl (pop_geq rfl rfl) ?_
   refine dn ?_
   refine hw_cond rfl (fun h3 => ?_) (fun h3 => ?_)
   ·exfalso
    try simp at h3
    omega
   ·try simp at h3
    refine hw_skip ?_
    refine seqQ_n ?_
    refine hw_reg1 ?_
    refine dp rfl (pop_move rfl) ?_
    refine dp rfl (pop_idxa_raw ty147 ty4 rfl rfl rfl (by omega)) ?_
    refine de0 (eop_store (i := 0) ty4 rfl rfl rfl rfl rfl (by rw [asciiSet_len]; omega) ?_)
    refine dn ?_
    refine blockQ_n ?_
    refine seqQ_n ?_
    refine hw_reg1 ?_
    refine dp rfl (pop_move rfl) ?_
    refine dp rfl (pop_add64 rfl rfl (by omega) (by omega)) ?_
    refine dp rfl (pop_assign rfl) ?_
    refine dn ?_
    refine ⟨k + 1, ?_, ?_, ⟨rfl, trivial⟩, (by repeat (first | exact keeps_refl | refine keeps_upd rfl ?_ | refine keeps_loop rfl rfl ?_)), perm_eq (by show [MObj.cells b2 (setL _ (0 + x.toNat * 1) [.bool true])] = _; rw [asciiSet_add]; dsimp only; rw [List.take_add_one, hx]; rfl)⟩
    ·exact ⟨by omega, trivial⟩
    ·dsimp only; omega
  ·try simp at h2
   have hnk : l.length ≤ k := by omega
   obtain rfl : k = l.length := by omega
   refine hw_exit ?_
   refine seqQ_x ?_
   refine loopQ_x ?_
   refine blockQ_eq ?_
   refine seqQ_n ?_
   refine hw_ghost (Ghost.of_eq (M' := [.cells b2 (asciiSet l)]) (by rw [List.take_length])) ?_
   refine hw_reg ?_
   refine de rfl (eop_loadw (i := 0) (h := .agg (asciiSet l)) ty147 rfl rfl rfl rfl (asciiSet_len l) ?_)
   refine de0 (eop_storew (h := .agg (asciiSet l)) ty147 rfl rfl (by simp [okElem, asciiSet_len]) (asciiSet_flat l) (asciiSet_len l) ?_)
   refine dp rfl (pop_assign rfl) ?_
   refine dn ?_
   refine hw_ret ?_
   refine ⟨_, _, Ghost.fc0 2 rfl, [_, _], _, ⟨⟨_, _, _, _, _, rfl, ty147, .inr ⟨rfl, rfl, rfl⟩⟩, ⟨rfl, trivial⟩⟩, Weak.refl _, ?_, rfl⟩
   rfl

/-- (*strings.asciiSet).contains -/
theorem c_strings_asciiSet_contains [Tracks] {l : Str} {c : UInt8}  : ConP Tryz.prog 139 [.vptr (asciiSet l) 0, .int .u8 c.toNat] (.bool (l.contains c)) := by
 have hc := c.toNat_lt
 refine Con.of_body Tryz.func139 rfl Tryz.ntmps139 rfl rfl ?_
 refine hw_reg ?_
 refine dp rfl (pop_assign rfl) ?_
 refine dn ?_
 refine hw_reg ?_
 refine dp rfl (pop_move rfl) ?_
 refine dp rfl (pop_move rfl) ?_
 refine dp rfl ((pop_nilCheck rfl)) ?_
 refine dp rfl (pop_idxa ty147 ty4 rfl rfl rfl (by omega)) ?_
 refine dp rfl (pop_load ty4 rfl rfl (by rw [show 0 + c.toNat * 1 = c.toNat from by omega]; exact asciiSet_get l c)) ?_
 refine dp rfl (pop_assign rfl) ?_
 refine dn ?_
 refine hw_ret ?_
 refine ret_p rfl ?_
 rfl

/-- strings.trimLeftASCII -/
theorem c_strings_trimLeftASCII [Tracks] {s l : Str} (hl : s.length ≤ 1000000) : ConP Tryz.prog 99 [.str s, .vptr (asciiSet l) 0] (.str (s.dropWhile (l.contains ·))) := by
 refine Con.of_body Tryz.func99 rfl Tryz.ntmps99 rfl rfl ?_
 refine hw_reg ?_
 refine dp rfl (pop_assign rfl) ?_
 refine dn ?_
 refine hw_seq ?_
 refine hw_block ?_
 refine hw_loopw [0, 5, 6, 7, 8, 9, 10, 11, 12, 13, 14] (fun (t : Str) => [(0, .str t)]) (fun (t : Str) => []) (fun (t : Str) => t.length ≤ s.length ∧ s.dropWhile (l.contains ·) = t.dropWhile (l.contains ·)) (fun (t : Str) => t.length) (s) ?_ ?_ ?_ ?_
 ·exact ⟨Nat.le_refl _, rfl⟩
 ·exact ⟨rfl, trivial⟩
 ·exact List.Perm.refl _
 ·intro t hinv
  obtain ⟨ht, hg⟩ := hinv
  refine hw_seq ?_
  refine hw_reg ?_
  refine dp rfl (pop_move rfl) ?_
  refine dp rfl (pop_lens ty9 rfl) ?_
  refine dp rfl (pop_gtr rfl rfl) ?_
  refine dn ?_
  refine hw_cond rfl (fun h1 => ?_) (fun h2 => ?_)
  ·try simp at h1
   obtain ⟨x, u, rfl⟩ : ∃ x u, t = x :: u := by cases t with | nil => simp at h1 | cons x u => exact ⟨x, u, rfl⟩
   have hlen : (x :: u).length = u.length + 1 := rfl
   refine hw_skip ?_
   refine seqQ_n ?_
   refine hw_block ?_
   refine hw_seq ?_
   refine hw_reg ?_
   refine dp rfl (pop_move rfl) ?_
   refine dp rfl (pop_move rfl) ?_
   refine dp rfl (pop_indexs (j := 0) (b := x) ty9 rfl rfl rfl rfl) ?_
   refine dp rfl (pop_call ca139 rfl (WeakL.refl _) c_strings_asciiSet_contains) ?_
   refine dp rfl (pop_not rfl) ?_
   refine dn ?_
   refine hw_cond rfl (fun h3 => ?_) (fun h4 => ?_)
   ·try simp at h3
    refine hw_exit ?_
    refine seqQ_x ?_
    refine blockQ_ne rfl ?_
    refine loopQ_x ?_
    refine blockQ_eq ?_
    refine seqQ_n ?_
    refine hw_reg ?_
    refine dp rfl (pop_move rfl) ?_
    refine dp rfl (pop_assign rfl) ?_
    refine dn ?_
    refine hw_ret ?_
    refine ret_p rfl ?_
    show HVal.str _ = _
    rw [hg]; simp_all [List.dropWhile_cons]
   ·try simp at h4
    refine hw_skip ?_
    refine seqQ_n ?_
    refine hw_reg1 ?_
    refine dp rfl (pop_move rfl) ?_
    refine dp rfl (pop_slices (l := 1) ty9 rfl ⟨_, _, rfl, rfl⟩ rfl (by omega) (by omega)) ?_
    refine dp rfl (pop_assign rfl) ?_
    refine dn ?_
    refine blockQ_n ?_
    refine ⟨_, ?_, ?_, ⟨rfl, trivial⟩, (by repeat (first | exact keeps_refl | refine keeps_upd rfl ?_ | refine keeps_loop rfl rfl ?_)), List.Perm.refl _⟩
    ·refine ⟨by simp at ht ⊢; omega, ?_⟩
     rw [hg]; simp_all [List.dropWhile_cons]
    ·dsimp only; simp
  ·try simp at h2
   obtain rfl : t = [] := by simpa using h2
   refine hw_exit ?_
   refine seqQ_x ?_
   refine loopQ_x ?_
   refine blockQ_eq ?_
   refine seqQ_n ?_
   refine hw_reg ?_
   refine dp rfl (pop_move rfl) ?_
   refine dp rfl (pop_assign rfl) ?_
   refine dn ?_
   refine hw_ret ?_
   refine ret_p rfl ?_
   show HVal.str _ = _
   rw [hg]; simp_all [List.dropWhile_cons]

/-- strings.trimRightASCII -/
theorem c_strings_trimRightASCII [Tracks] {s l : Str} (hl : s.length ≤ 1000000) : ConP Tryz.prog 100 [.str s, .vptr (asciiSet l) 0] (.str (rtrim (l.contains ·) s)) := by
 refine Con.of_body Tryz.func100 rfl Tryz.ntmps100 rfl rfl ?_
 refine hw_reg ?_
 refine dp rfl (pop_assign rfl) ?_
 refine dn ?_
 refine hw_seq ?_
 refine hw_block ?_
 refine hw_loopw [0, 5, 6, 7, 8, 9, 10, 11, 12, 13, 14, 15, 16, 17, 18, 19, 20] (fun (t : Str) => [(0, .str t)]) (fun (t : Str) => []) (fun (t : Str) => t.length ≤ s.length ∧ rtrim (l.contains ·) s = rtrim (l.contains ·) t) (fun (t : Str) => t.length) (s) ?_ ?_ ?_ ?_
 ·exact ⟨Nat.le_refl _, rfl⟩
 ·exact ⟨rfl, trivial⟩
 ·exact List.Perm.refl _
 ·intro t hinv
  obtain ⟨ht, hg⟩ := hinv
  refine hw_seq ?_
  refine hw_reg ?_
  refine dp rfl (pop_move rfl) ?_
  refine dp rfl (pop_lens ty9 rfl) ?_
  refine dp rfl (pop_gtr rfl rfl) ?_
  refine dn ?_
  refine hw_cond rfl (fun h1 => ?_) (fun h2 => ?_)
  ·try simp at h1
   obtain ⟨u, x, rfl⟩ : ∃ u x, t = u ++ [x] := ⟨_, _, (List.dropLast_concat_getLast (by intro h0; subst h0; simp at h1)).symm⟩
   have hlen : (u ++ [x]).length = u.length + 1 := by simp
   refine hw_skip ?_
   refine seqQ_n ?_
   refine hw_block ?_
   refine hw_seq ?_
   refine hw_reg ?_
   refine dp rfl (pop_move rfl) ?_
   refine dp rfl (pop_move rfl) ?_
   refine dp rfl (pop_move rfl) ?_
   refine dp rfl (pop_lens ty9 rfl) ?_
   refine dp rfl (pop_sub64 rfl rfl (by omega) (by omega)) ?_
   refine dp rfl (pop_indexs (j := u.length) (b := x) ty9 rfl rfl (by omega) (by simp)) ?_
   refine dp rfl (pop_call ca139 rfl (WeakL.refl _) c_strings_asciiSet_contains) ?_
   refine dp rfl (pop_not rfl) ?_
   refine dn ?_
   refine hw_cond rfl (fun h3 => ?_) (fun h4 => ?_)
   ·try simp at h3
    refine hw_exit ?_
    refine seqQ_x ?_
    refine blockQ_ne rfl ?_
    refine loopQ_x ?_
    refine blockQ_eq ?_
    refine seqQ_n ?_
    refine hw_reg ?_
    refine dp rfl (pop_move rfl) ?_
    refine dp rfl (pop_assign rfl) ?_
    refine dn ?_
    refine hw_ret ?_
    refine ret_p rfl ?_
    show HVal.str _ = _
    rw [hg]; first | rfl | (rw [rtrim_snoc, if_neg (by simp_all)])
   ·try simp at h4
    refine hw_skip ?_
    refine seqQ_n ?_
    refine hw_reg1 ?_
    refine dp rfl (pop_move rfl) ?_
    refine dp rfl (pop_move rfl) ?_
    refine dp rfl (pop_lens ty9 rfl) ?_
    refine dp rfl (pop_sub64 rfl rfl (by omega) (by omega)) ?_
    refine dp rfl (pop_slices (l := 0) (h := u.length) ty9 rfl rfl ⟨_, _, rfl, by omega⟩ (by omega) (by omega)) ?_
    refine dp rfl (pop_assign rfl) ?_
    refine dn ?_
    refine blockQ_n ?_
    refine ⟨_, ?_, ?_, ⟨rfl, trivial⟩, (by repeat (first | exact keeps_refl | refine keeps_upd rfl ?_ | refine keeps_loop rfl rfl ?_)), List.Perm.refl _⟩
    ·refine ⟨by simp at ht ⊢; omega, ?_⟩
     rw [hg, rtrim_snoc, if_pos (by simp_all)]; simp
    ·dsimp only; simp
  ·try simp at h2
   obtain rfl : t = [] := by simpa using h2
   refine hw_exit ?_
   refine seqQ_x ?_
   refine loopQ_x ?_
   refine blockQ_eq ?_
   refine seqQ_n ?_
   refine hw_reg ?_
   refine dp rfl (pop_move rfl) ?_
   refine dp rfl (pop_assign rfl) ?_
   refine dn ?_
   refine hw_ret ?_
   refine ret_p rfl ?_
   show HVal.str _ = _
   rw [hg]; first | rfl | (rw [rtrim_snoc, if_neg (by simp_all)])

/-- strings.Trim -/
theorem c_strings_Trim [Tracks] {s l : Str} (hs : s.length ≤ 1000000) (hl : l.length ≤ 1000000) (h2l : 2 ≤ l.length) (ha : ∀ c ∈ l, c.toNat < 128) : ConP Tryz.prog 59 [.str s, .str l] (.str ((rtrim (l.contains ·) s).dropWhile (l.contains ·))) := by
 refine Con.of_body Tryz.func59 rfl Tryz.ntmps59 rfl rfl ?_
 refine hw_reg ?_
 refine dp rfl (pop_assign rfl) ?_
 refine dn ?_
 refine hw_seq ?_
 refine hw_reg ?_
 refine dp rfl (pop_move rfl) ?_
 refine dp rfl (pop_eqls rfl rfl) ?_
 refine dp rfl (pop_move rfl) ?_
 refine dg rfl rfl (fun hc => ⟨_, OpenTo.refl _, pop_move rfl⟩) ?_
 refine dg rfl rfl (fun hc => ⟨_, OpenTo.upd (t := 10) rfl (hc) (OpenTo.refl _), pop_eqls rfl rfl⟩) ?_
 refine dp rfl (pop_picko rfl (.inl rfl) (.inr ⟨_, rfl, fun h => by simp_all⟩)) ?_
 refine dn ?_
 refine hw_cond rfl (fun h1 => ?_) (fun h2 => ?_)
 ·try simp at h1
  refine hw_reg ?_
  refine dp rfl (pop_move rfl) ?_
  refine dp rfl (pop_assign rfl) ?_
  refine dn ?_
  refine hw_ret ?_
  refine ret_p rfl ?_
  show HVal.str _ = _
  (rcases h1 with rfl | rfl <;> first | (simp at h2l; done) | (simp [rtrim]; done))
 ·try simp at h2
  refine hw_skip ?_
  refine seqQ_n ?_
  refine hw_seq ?_
  refine hw_reg ?_
  refine dp rfl (pop_move rfl) ?_
  refine dp rfl (pop_lens ty9 rfl) ?_
  refine dp rfl (pop_eql rfl rfl) ?_
  refine dp rfl (pop_move rfl) ?_
  refine dg rfl rfl (fun hc => ⟨_, OpenTo.refl _, pop_move rfl⟩) ?_
  refine dg rfl rfl (fun hc => ⟨_, OpenTo.upd (t := 18) rfl (hc) (OpenTo.refl _), pop_indexs (j := 0) (b := l.headD 0) ty9 rfl rfl rfl (hd0 (by intro h0; subst h0; simp at h2l))⟩) ?_
  refine dg rfl rfl (fun hc => ⟨_, OpenTo.upd (t := 19) rfl (hc) (OpenTo.refl _), pop_lss rfl rfl⟩) ?_
  refine dp rfl (pop_picko rfl (.inr ⟨_, rfl, fun h => by simp_all⟩) (.inl rfl)) ?_
  refine dn ?_
  refine hw_cond rfl (fun h3 => ?_) (fun h3 => ?_)
  ·exfalso
   try simp at h3
   omega
  ·try simp at h3
   refine hw_skip ?_
   refine seqQ_n ?_
   refine hw_seq ?_
   refine hw_reg ?_
   refine dp rfl (pop_move rfl) ?_
   refine dp rfl (pop_call ca98 rfl (WeakL.refl _) (c_strings_makeASCIISet (by assumption) (by assumption))) ?_
   refine dp rfl (pop_move rfl) ?_
   refine dp rfl (pop_extract rfl rfl) ?_
   refine dp rfl (pop_extract rfl rfl) ?_
   refine de rfl (eop_alloc ty147 rfl fun b5 => ?_)
   refine de0 (eop_storew ty147 rfl rfl rfl rfl rfl ?_)
   refine dp rfl (pop_assign rfl) ?_
   refine dn ?_
   refine hw_ghost (Ghost.fc0 5 rfl) ?_
   refine hw_reg ?_
   refine dp rfl (pop_move rfl) ?_
   refine dn ?_
   refine hw_cond_t rfl ?_
   refine hw_reg ?_
   refine dp rfl (pop_move rfl) ?_
   refine dp rfl (pop_call ca100 rfl (WeakL.refl _) (c_strings_trimRightASCII (by assumption))) ?_
   refine dp rfl (pop_call ca99 rfl (WeakL.refl _) (c_strings_trimLeftASCII (Nat.le_trans (rtrim_len _ _) hs))) ?_
   refine dp rfl (pop_assign rfl) ?_
   refine dn ?_
   refine hw_ret ?_
   refine ret_p rfl ?_
   show HVal.str _ = _
   rfl

/-- internal/stringslite.IndexByte -/
theorem c_internal_stringslite_IndexByte [Tracks] {s : Str} {c : Int}  : ConP Tryz.prog 103 [.str s, .int .u8 c] (.int .i64 (Lib.indexByte s c.toNat.toUInt8)) := by
 refine Con.of_body Tryz.func103 rfl Tryz.ntmps103 rfl rfl ?_
 refine hw_reg ?_
 refine dp rfl (pop_assign rfl) ?_
 refine dn ?_
 refine hw_reg ?_
 refine dp rfl (pop_move rfl) ?_
 refine dp rfl (pop_move rfl) ?_
 refine dp rfl (pop_indexByte Tryz.func143 (by kernel_rfl) (by kernel_rfl) (by kernel_rfl) (by kernel_rfl) rfl rfl rfl) ?_
 refine dp rfl (pop_assign rfl) ?_
 refine dn ?_
 refine hw_ret ?_
 refine ret_p rfl ?_
 rfl

/-- strings.IndexByte -/
theorem c_strings_IndexByte [Tracks] {s : Str} {c : Int}  : ConP Tryz.prog 60 [.str s, .int .u8 c] (.int .i64 (Lib.indexByte s c.toNat.toUInt8)) := by
 refine Con.of_body Tryz.func60 rfl Tryz.ntmps60 rfl rfl ?_
 refine hw_reg ?_
 refine dp rfl (pop_assign rfl) ?_
 refine dn ?_
 refine hw_reg ?_
 refine dp rfl (pop_move rfl) ?_
 refine dp rfl (pop_move rfl) ?_
 refine dp rfl (pop_call ca103 rfl (WeakL.refl _) c_internal_stringslite_IndexByte) ?_
 refine dp rfl (pop_assign rfl) ?_
 refine dn ?_
 refine hw_ret ?_
 refine ret_p rfl ?_
 rfl

/-- benchwarmer/benchref1.in -/
theorem c_benchref1_in [Tracks] {n lo hi : Int}  : ConP Tryz.prog 27 [.int .i64 n, .int .i64 lo, .int .i64 hi] (.bool (!(out n lo hi))) := by
 refine Con.of_body Tryz.func27 rfl Tryz.ntmps27 rfl rfl ?_
 refine hw_reg ?_
 refine dp rfl (pop_assign rfl) ?_
 refine dn ?_
 refine hw_reg ?_
 refine dp rfl (pop_move rfl) ?_
 refine dp rfl (pop_move rfl) ?_
 refine dp rfl (pop_leq rfl rfl) ?_
 refine dp rfl (pop_move rfl) ?_
 refine dg rfl rfl (fun hc => ⟨_, OpenTo.refl _, pop_move rfl⟩) ?_
 refine dg rfl rfl (fun hc => ⟨_, OpenTo.refl _, pop_move rfl⟩) ?_
 refine dg rfl rfl (fun hc => ⟨_, OpenTo.upd (t := 12) rfl (hc) (OpenTo.upd (t := 11) rfl (hc) (OpenTo.refl _)), pop_leq rfl rfl⟩) ?_
 refine dp rfl (pop_picko rfl (.inr ⟨_, rfl, fun h => by simp_all⟩) (.inl rfl)) ?_
 refine dp rfl (pop_assign rfl) ?_
 refine dn ?_
 refine hw_ret ?_
 refine ret_p rfl ?_
 show HVal.bool _ = _
 congr 1; simp [out]; rw [Bool.eq_iff_iff]; simp; try omega

/-- benchwarmer/benchref1.Key -/
theorem c_benchref1_Key [Tracks] {s : Str} (hs : s.length ≤ 1000000) : ConP Tryz.prog 28 [.str s] (.bool (key s)) := by
 refine Con.of_body Tryz.func28 rfl Tryz.ntmps28 rfl rfl ?_
 refine hw_reg ?_
 refine dp rfl (pop_assign rfl) ?_
 refine dn ?_
 refine hw_reg ?_
 refine dp rfl (pop_move rfl) ?_
 refine dp rfl (pop_lens ty9 rfl) ?_
 refine dp rfl (pop_call ca27 rfl (WeakL.refl _) c_benchref1_in) ?_
 refine dp rfl (pop_move rfl) ?_
 refine dg rfl rfl (fun hc => ⟨_, OpenTo.refl _, pop_move rfl⟩) ?_
 refine dg rfl rfl (fun hc => ⟨_, OpenTo.upd (t := 7) rfl (hc) (OpenTo.refl _), pop_call ca59 rfl (WeakL.refl _) (c_strings_Trim (l := cut38) hs (by decide) (by decide) (by decide))⟩) ?_
 refine dg rfl rfl (fun hc => ⟨_, OpenTo.upd (t := 8) rfl (hc) (OpenTo.refl _), pop_eqls rfl rfl⟩) ?_
 refine dp rfl (pop_picko rfl (.inr ⟨_, rfl, fun h => by simp_all⟩) (.inl rfl)) ?_
 refine dp rfl (pop_move rfl) ?_
 refine dg rfl rfl (fun hc => ⟨_, OpenTo.refl _, pop_move rfl⟩) ?_
 refine dg rfl rfl (fun hc => ⟨_, OpenTo.upd (t := 12) rfl (hc) (OpenTo.refl _), pop_indexs (j := 0) (b := s.headD 0) ty9 rfl rfl rfl (hd0 (by rintro rfl; simp [out] at hc))⟩) ?_
 refine dg rfl rfl (fun hc => ⟨_, OpenTo.upd (t := 13) rfl (hc) (OpenTo.refl _), pop_call ca60 rfl (WeakL.refl _) c_strings_IndexByte⟩) ?_
 refine dg rfl rfl (fun hc => ⟨_, OpenTo.upd (t := 14) rfl (hc) (OpenTo.refl _), pop_geq rfl rfl⟩) ?_
 refine dp rfl (pop_picko rfl (.inr ⟨_, rfl, fun h => by simp_all⟩) (.inl rfl)) ?_
 refine dp rfl (pop_assign rfl) ?_
 refine dn ?_
 refine hw_ret ?_
 refine ret_p rfl ?_
 show HVal.bool _ = _
 rw [key_ref]
 simp [cut38, small26]

/-- benchwarmer/benchref1.SpanFault -/
theorem c_benchref1_SpanFault [Tracks] {n lo hi : Int}  : ConP Tryz.prog 61 [.int .i64 n, .int .i64 lo, .int .i64 hi] (.int .i64 (if out n lo hi then 1 else 0)) := by
 refine Con.of_body Tryz.func61 rfl Tryz.ntmps61 rfl rfl ?_
 refine hw_reg ?_
 refine dp rfl (pop_assign rfl) ?_
 refine dn ?_
 refine hw_seq ?_
 refine hw_reg ?_
 refine dp rfl (pop_move rfl) ?_
 refine dp rfl (pop_move rfl) ?_
 refine dp rfl (pop_move rfl) ?_
 refine dp rfl (pop_call ca27 rfl (WeakL.refl _) c_benchref1_in) ?_
 refine dp rfl (pop_not rfl) ?_
 refine dn ?_
 refine hw_cond rfl (fun h1 => ?_) (fun h2 => ?_)
 ·try simp at h1
  refine hw_reg ?_
  refine dp rfl (pop_assign rfl) ?_
  refine dn ?_
  refine hw_ret ?_
  refine ret_p rfl ?_
  show HVal.int .i64 _ = _
  simp_all
 ·try simp at h2
  refine hw_skip ?_
  refine seqQ_n ?_
  refine hw_reg ?_
  refine dp rfl (pop_assign rfl) ?_
  refine dn ?_
  refine hw_ret ?_
  refine ret_p rfl ?_
  show HVal.int .i64 _ = _
  simp_all

/-- benchwarmer/benchref1.MomentFault -/
theorem c_benchref1_MomentFault [Tracks] {n : Int}  : ConP Tryz.prog 29 [.int .i64 n] (.int .i64 (if moment n then 0 else 1)) := by
 refine Con.of_body Tryz.func29 rfl Tryz.ntmps29 rfl rfl ?_
 refine hw_reg ?_
 refine dp rfl (pop_assign rfl) ?_
 refine dn ?_
 refine hw_reg ?_
 refine dp rfl (pop_move rfl) ?_
 refine dp rfl (pop_call ca61 rfl (WeakL.refl _) c_benchref1_SpanFault) ?_
 refine dp rfl (pop_assign rfl) ?_
 refine dn ?_
 refine hw_ret ?_
 refine ret_p rfl ?_
 show HVal.int .i64 _ = _
 rw [moment_ref]

/-- benchwarmer/benchref1.teamsFault -/
theorem c_benchref1_teamsFault [Tracks] {l : List Str} (hl : l.length ≤ 1000000) (hs : ∀ s ∈ l, s.length ≤ 1000000) : ConP Tryz.prog 134 [eSs l] (.int .i64 (teamsFault l)) := by
 refine Con.of_body Tryz.func134 rfl Tryz.ntmps134 rfl rfl ?_
 refine hw_reg ?_
 refine dp rfl (pop_assign rfl) ?_
 refine dn ?_
 refine hw_seq ?_
 refine hw_block ?_
 refine hw_reg ?_
 refine dp rfl (pop_move rfl) ?_
 refine dp rfl (pop_lenm ty26 rfl) ?_
 refine dp rfl (pop_eql rfl rfl) ?_
 refine dp rfl (pop_assign rfl) ?_
 refine dn ?_
 refine hw_cond rfl (fun h1 => ?_) (fun h2 => ?_)
 ·try simp at h1
  refine hw_reg ?_
  refine dp rfl (pop_assign rfl) ?_
  refine dn ?_
  refine hw_ret ?_
  refine ret_p rfl ?_
  show HVal.int .i64 _ = _
  (rw [teamsFault, if_pos (by simp_all)]; done)
 ·try simp at h2
  refine hw_reg ?_
  refine dp rfl (pop_move rfl) ?_
  refine dp rfl (pop_lenm ty26 rfl) ?_
  refine dp rfl (pop_gtr rfl rfl) ?_
  refine dp rfl (pop_assign rfl) ?_
  refine dn ?_
  refine hw_cond rfl (fun h3 => ?_) (fun h4 => ?_)
  ·try simp at h3
   refine hw_reg ?_
   refine dp rfl (pop_assign rfl) ?_
   refine dn ?_
   refine hw_ret ?_
   refine ret_p rfl ?_
   show HVal.int .i64 _ = _
   (rw [teamsFault, if_neg (by simp_all), if_pos (by omega)]; done)
  ·try simp at h4
   refine hw_skip ?_
   refine blockQ_n ?_
   refine seqQ_n ?_
   refine hw_seq ?_
   refine hw_reg ?_
   refine dp rfl (pop_move rfl) ?_
   refine dp rfl (pop_lenm ty26 rfl) ?_
   refine dp rfl (pop_move rfl) ?_
   refine dn ?_
   refine hw_block ?_
   refine hw_loopw [2, 3, 4, 15, 16, 17, 18, 19, 20, 21, 22, 23, 24, 25, 26, 27, 28, 29, 30] (fun (k : Nat) => [(15, .int .i64 k)]) (fun (k : Nat) => []) (fun (k : Nat) => k ≤ l.length ∧ (teamsFault l = teamsGo l k (l.drop k))) (fun (k : Nat) => l.length - k) (0) ?_ ?_ ?_ ?_
   ·refine ⟨Nat.zero_le _, ?_⟩
    rw [teamsFault, if_neg (by simp_all), if_neg (by omega)]; rfl
   ·exact ⟨rfl, trivial⟩
   ·exact List.Perm.refl _
   ·intro k hinv
    obtain ⟨hk, hg⟩ := hinv
    refine hw_reg ?_
    refine dp rfl (pop_lss rfl rfl) ?_
    refine dn ?_
    refine hw_seq ?_
    refine hw_cond rfl (fun h5 => ?_) (fun h6 => ?_)
    ·try simp at h5
     obtain ⟨x, hx⟩ : ∃ x, l[k]? = some x := ⟨_, List.getElem?_eq_getElem h5⟩
     have hdx := drop_cons hx
     rw [hdx] at hg
     refine hw_skip ?_
     refine seqQ_n ?_
     refine hw_seq ?_
     refine hw_block ?_
     refine hw_reg ?_
     refine dp rfl (pop_move rfl) ?_
     refine dp rfl (pop_idx ty26 ty9 rfl rfl rfl (by assumption)) ?_
     refine dp rfl (pop_load ty9 rfl rfl rfl) ?_
     refine dp rfl (pop_assign rfl) ?_
     refine dp rfl (pop_assign rfl) ?_
     refine dn ?_
     refine hw_block ?_
     refine hw_reg ?_
     refine dp rfl (pop_move rfl) ?_
     refine dp rfl (pop_call ca28 rfl (WeakL.refl _) (c_benchref1_Key (hs x (List.mem_of_getElem? hx)))) ?_
     refine dp rfl (pop_not rfl) ?_
     refine dp rfl (pop_assign rfl) ?_
     refine dn ?_
     refine hw_cond rfl (fun h7 => ?_) (fun h8 => ?_)
     ·try simp at h7
      refine hw_reg ?_
      refine dp rfl (pop_assign rfl) ?_
      refine dn ?_
      refine hw_ret ?_
      refine ret_p rfl ?_
      show HVal.int .i64 _ = _
      (rw [hg]; simp_all [teamsGo]; done)
     ·try simp at h8
      refine hw_reg ?_
      refine dp rfl (pop_move rfl) ?_
      refine dp rfl (pop_move rfl) ?_
      refine dp rfl (pop_slicem ty26 ty9 rfl rfl ⟨_, _, rfl, rfl⟩ (by omega) (by omega)) ?_
      refine dp rfl (pop_move rfl) ?_
      refine dp rfl (pop_call ca42 rfl (WeakL.refl _) (c_slices_Contains_string_string (by simp; omega))) ?_
      refine dp rfl (pop_assign rfl) ?_
      refine dn ?_
      refine hw_cond rfl (fun h9 => ?_) (fun h10 => ?_)
      ·try simp at h9
       refine hw_reg ?_
       refine dp rfl (pop_assign rfl) ?_
       refine dn ?_
       refine hw_ret ?_
       refine ret_p rfl ?_
       show HVal.int .i64 _ = _
       (rw [hg]; simp_all [teamsGo]; done)
      ·try simp at h10
       refine hw_skip ?_
       refine blockQ_n ?_
       refine blockQ_n ?_
       refine seqQ_n ?_
       refine hw_reg1 ?_
       refine dp rfl (pop_add64 rfl rfl (by omega) (by omega)) ?_
       refine dp rfl (pop_move rfl) ?_
       refine dn ?_
       refine ⟨k + 1, ?_, ?_, ⟨rfl, trivial⟩, (by repeat (first | exact keeps_refl | refine keeps_upd rfl ?_ | refine keeps_loop rfl rfl ?_)), List.Perm.refl _⟩
       ·refine ⟨by omega, ?_⟩
        rw [hg]; simp_all [teamsGo]
       ·dsimp only; omega
    ·try simp at h6
     have hnk : l.length ≤ k := by omega
     obtain rfl : k = l.length := by omega
     rw [drop_all (Nat.le_refl _)] at hg
     refine hw_exit ?_
     refine seqQ_x ?_
     refine loopQ_x ?_
     refine blockQ_eq ?_
     refine seqQ_n ?_
     refine hw_reg ?_
     refine dp rfl (pop_assign rfl) ?_
     refine dn ?_
     refine hw_ret ?_
     refine ret_p rfl ?_
     show HVal.int .i64 _ = _
     (rw [hg]; simp_all [teamsGo]; done)

/-- benchwarmer/benchref1.playersFault -/
theorem c_benchref1_playersFault [Tracks] {l : List Str} (hl : l.length ≤ 1000000) (hs : ∀ s ∈ l, s.length ≤ 1000000) : ConP Tryz.prog 135 [eSs l] (.int .i64 (playersFault l)) := by
 refine Con.of_body Tryz.func135 rfl Tryz.ntmps135 rfl rfl ?_
 refine hw_reg ?_
 refine dp rfl (pop_assign rfl) ?_
 refine dn ?_
 refine hw_seq ?_
 refine hw_reg ?_
 refine dp rfl (pop_move rfl) ?_
 refine dp rfl (pop_lenm ty26 rfl) ?_
 refine dp rfl (pop_gtr rfl rfl) ?_
 refine dn ?_
 refine hw_cond rfl (fun h1 => ?_) (fun h2 => ?_)
 ·try simp at h1
  refine hw_reg ?_
  refine dp rfl (pop_assign rfl) ?_
  refine dn ?_
  refine hw_ret ?_
  refine ret_p rfl ?_
  show HVal.int .i64 _ = _
  (rw [playersFault, if_pos (by omega)]; done)
 ·try simp at h2
  refine hw_skip ?_
  refine seqQ_n ?_
  refine hw_seq ?_
  refine hw_reg ?_
  refine dp rfl (pop_move rfl) ?_
  refine dp rfl (pop_lenm ty26 rfl) ?_
  refine dp rfl (pop_move rfl) ?_
  refine dn ?_
  refine hw_block ?_
  refine hw_loopw [2, 3, 4, 10, 11, 12, 13, 14, 15, 16, 17, 18, 19, 20, 21, 22, 23, 24, 25, 26, 27, 28, 29, 30, 31] (fun (k : Nat) => [(10, .int .i64 k)]) (fun (k : Nat) => []) (fun (k : Nat) => k ≤ l.length ∧ (playersFault l = risingGo l k (l.drop k))) (fun (k : Nat) => l.length - k) (0) ?_ ?_ ?_ ?_
  ·refine ⟨Nat.zero_le _, ?_⟩
   rw [playersFault, if_neg (by omega)]; rfl
  ·exact ⟨rfl, trivial⟩
  ·exact List.Perm.refl _
  ·intro k hinv
   obtain ⟨hk, hg⟩ := hinv
   refine hw_reg ?_
   refine dp rfl (pop_lss rfl rfl) ?_
   refine dn ?_
   refine hw_seq ?_
   refine hw_cond rfl (fun h3 => ?_) (fun h4 => ?_)
   ·try simp at h3
    obtain ⟨x, hx⟩ : ∃ x, l[k]? = some x := ⟨_, List.getElem?_eq_getElem h3⟩
    have hdx := drop_cons hx
    rw [hdx] at hg
    refine hw_skip ?_
    refine seqQ_n ?_
    refine hw_seq ?_
    refine hw_block ?_
    refine hw_reg ?_
    refine dp rfl (pop_move rfl) ?_
    refine dp rfl (pop_idx ty26 ty9 rfl rfl rfl (by assumption)) ?_
    refine dp rfl (pop_load ty9 rfl rfl rfl) ?_
    refine dp rfl (pop_assign rfl) ?_
    refine dp rfl (pop_assign rfl) ?_
    refine dn ?_
    refine hw_block ?_
    refine hw_reg ?_
    refine dp rfl (pop_move rfl) ?_
    refine dp rfl (pop_call ca28 rfl (WeakL.refl _) (c_benchref1_Key (hs x (List.mem_of_getElem? hx)))) ?_
    refine dp rfl (pop_not rfl) ?_
    refine dp rfl (pop_assign rfl) ?_
    refine dn ?_
    refine hw_cond rfl (fun h5 => ?_) (fun h6 => ?_)
    ·try simp at h5
     refine hw_reg ?_
     refine dp rfl (pop_assign rfl) ?_
     refine dn ?_
     refine hw_ret ?_
     refine ret_p rfl ?_
     show HVal.int .i64 _ = _
     (rw [hg]; simp_all [risingGo, leS]; done)
    ·try simp at h6
     refine hw_reg ?_
     refine dp rfl (pop_move rfl) ?_
     refine dp rfl (pop_gtr rfl rfl) ?_
     refine dp rfl (pop_move rfl) ?_
     refine dg rfl rfl (fun hc => ⟨_, OpenTo.refl _, pop_move rfl⟩) ?_
     refine dg rfl rfl (fun hc => ⟨_, OpenTo.refl _, pop_move rfl⟩) ?_
     refine dg rfl rfl (fun hc => ⟨_, OpenTo.refl _, pop_move rfl⟩) ?_
     refine dg rfl rfl (fun hc => by have hq := hc; (try simp at hq); exact ⟨_, OpenTo.upd (t := 25) rfl (hc) (OpenTo.refl _), pop_sub64 rfl rfl (by omega) (by omega)⟩) ?_
     refine dg rfl rfl (fun hc => by have hq := hc; (try simp at hq); exact ⟨_, OpenTo.upd (t := 26) rfl (hc) (OpenTo.upd (t := 24) rfl (hc) (OpenTo.refl _)), pop_idx (j := k - 1) (a := l.getD (k - 1) []) ty26 ty9 rfl rfl (by omega) (getD_some (by omega))⟩) ?_
     refine dg rfl rfl (fun hc => ⟨_, OpenTo.upd (t := 27) rfl (hc) (OpenTo.refl _), pop_load ty9 rfl rfl rfl⟩) ?_
     refine dg rfl rfl (fun hc => ⟨_, OpenTo.upd (t := 28) rfl (hc) (OpenTo.upd (t := 23) rfl (hc) (OpenTo.refl _)), pop_leqs rfl rfl⟩) ?_
     refine dp rfl (pop_picko rfl (.inr ⟨_, rfl, fun h => by simp_all⟩) (.inl rfl)) ?_
     refine dp rfl (pop_assign rfl) ?_
     refine dn ?_
     refine hw_cond rfl (fun h7 => ?_) (fun h8 => ?_)
     ·try simp at h7
      refine hw_reg ?_
      refine dp rfl (pop_assign rfl) ?_
      refine dn ?_
      refine hw_ret ?_
      refine ret_p rfl ?_
      show HVal.int .i64 _ = _
      (rw [hg]; simp_all [risingGo, leS]; done)
     ·try simp at h8
      refine hw_skip ?_
      refine blockQ_n ?_
      refine blockQ_n ?_
      refine seqQ_n ?_
      refine hw_reg1 ?_
      refine dp rfl (pop_add64 rfl rfl (by omega) (by omega)) ?_
      refine dp rfl (pop_move rfl) ?_
      refine dn ?_
      refine ⟨k + 1, ?_, ?_, ⟨rfl, trivial⟩, (by repeat (first | exact keeps_refl | refine keeps_upd rfl ?_ | refine keeps_loop rfl rfl ?_)), List.Perm.refl _⟩
      ·refine ⟨by omega, ?_⟩
       rw [hg]; simp_all [risingGo, leS]
      ·dsimp only; omega
   ·try simp at h4
    have hnk : l.length ≤ k := by omega
    obtain rfl : k = l.length := by omega
    rw [drop_all (Nat.le_refl _)] at hg
    refine hw_exit ?_
    refine seqQ_x ?_
    refine loopQ_x ?_
    refine blockQ_eq ?_
    refine seqQ_n ?_
    refine hw_reg ?_
    refine dp rfl (pop_assign rfl) ?_
    refine dn ?_
    refine hw_ret ?_
    refine ret_p rfl ?_
    show HVal.int .i64 _ = _
    (rw [hg]; simp_all [risingGo, leS]; done)

/-- benchwarmer/benchref1.RoomFault -/
theorem c_benchref1_RoomFault [Tracks] {r : Room} (ht : r.Teams.length ≤ 1000000) (hp : r.Players.length ≤ 1000000) (hs1 : ∀ s ∈ r.Teams, s.length ≤ 1000000) (hs2 : ∀ s ∈ r.Players, s.length ≤ 1000000) : ConP Tryz.prog 86 [eRoom r] (.int .i64 (checkRoom r)) := by
 refine Con.of_body Tryz.func86 rfl Tryz.ntmps86 rfl rfl ?_
 refine hw_reg ?_
 refine dp rfl (pop_box rfl rfl) ?_
 refine dp rfl (pop_assign rfl) ?_
 refine dn ?_
 refine hw_seq ?_
 refine hw_reg ?_
 refine dp rfl (pop_fieldAddr ty28 rfl ty26 (by decide) rfl) ?_
 refine dp rfl (pop_load ty26 rfl rfl rfl) ?_
 refine dp rfl (pop_call ca134 rfl (WeakL.refl _) (c_benchref1_teamsFault (by assumption) (by assumption))) ?_
 refine dp rfl (pop_assign rfl) ?_
 refine dn ?_
 refine hw_reg ?_
 refine dp rfl (pop_move rfl) ?_
 refine dp rfl (pop_neq rfl rfl) ?_
 refine dn ?_
 refine hw_cond rfl (fun h1 => ?_) (fun h2 => ?_)
 ·try simp at h1
  refine hw_reg ?_
  refine dp rfl (pop_move rfl) ?_
  refine dp rfl (pop_assign rfl) ?_
  refine dn ?_
  refine hw_ret ?_
  refine ret_p rfl ?_
  show HVal.int .i64 _ = _
  simp_all [checkRoom]
 ·try simp at h2
  refine hw_skip ?_
  refine seqQ_n ?_
  refine hw_seq ?_
  refine hw_block ?_
  refine hw_reg ?_
  refine dp rfl (pop_fieldAddr ty28 rfl ty3 (by decide) rfl) ?_
  refine dp rfl (pop_load ty3 rfl rfl rfl) ?_
  refine dp rfl (pop_call ca27 rfl (WeakL.refl _) c_benchref1_in) ?_
  refine dp rfl (pop_not rfl) ?_
  refine dp rfl (pop_assign rfl) ?_
  refine dn ?_
  refine hw_cond rfl (fun h3 => ?_) (fun h4 => ?_)
  ·try simp at h3
   refine hw_reg ?_
   refine dp rfl (pop_assign rfl) ?_
   refine dn ?_
   refine hw_ret ?_
   refine ret_p rfl ?_
   show HVal.int .i64 _ = _
   simp_all [checkRoom]
  ·try simp at h4
   refine hw_reg ?_
   refine dp rfl (pop_fieldAddr ty28 rfl ty3 (by decide) rfl) ?_
   refine dp rfl (pop_load ty3 rfl rfl rfl) ?_
   refine dp rfl (pop_call ca27 rfl (WeakL.refl _) c_benchref1_in) ?_
   refine dp rfl (pop_not rfl) ?_
   refine dp rfl (pop_assign rfl) ?_
   refine dn ?_
   refine hw_cond rfl (fun h5 => ?_) (fun h6 => ?_)
   ·try simp at h5
    refine hw_reg ?_
    refine dp rfl (pop_assign rfl) ?_
    refine dn ?_
    refine hw_ret ?_
    refine ret_p rfl ?_
    show HVal.int .i64 _ = _
    simp_all [checkRoom]
   ·try simp at h6
    refine hw_skip ?_
    refine blockQ_n ?_
    refine seqQ_n ?_
    refine hw_seq ?_
    refine hw_reg ?_
    refine dp rfl (pop_fieldAddr ty28 rfl ty26 (by decide) rfl) ?_
    refine dp rfl (pop_load ty26 rfl rfl rfl) ?_
    refine dp rfl (pop_call ca135 rfl (WeakL.refl _) (c_benchref1_playersFault (by assumption) (by assumption))) ?_
    refine dp rfl (pop_assign rfl) ?_
    refine dn ?_
    refine hw_reg ?_
    refine dp rfl (pop_move rfl) ?_
    refine dp rfl (pop_neq rfl rfl) ?_
    refine dn ?_
    refine hw_cond rfl (fun h7 => ?_) (fun h8 => ?_)
    ·try simp at h7
     refine hw_reg ?_
     refine dp rfl (pop_move rfl) ?_
     refine dp rfl (pop_assign rfl) ?_
     refine dn ?_
     refine hw_ret ?_
     refine ret_p rfl ?_
     show HVal.int .i64 _ = _
     simp_all [checkRoom]
    ·try simp at h8
     refine hw_skip ?_
     refine seqQ_n ?_
     refine hw_seq ?_
     refine hw_block ?_
     refine hw_reg ?_
     refine dp rfl (pop_fieldAddr ty28 rfl ty3 (by decide) rfl) ?_
     refine dp rfl (pop_load ty3 rfl rfl rfl) ?_
     refine dp rfl (pop_call ca27 rfl (WeakL.refl _) c_benchref1_in) ?_
     refine dp rfl (pop_not rfl) ?_
     refine dp rfl (pop_move rfl) ?_
     refine dg rfl rfl (fun hc => ⟨_, OpenTo.refl _, pop_fieldAddr ty28 rfl ty3 (by decide) rfl⟩) ?_
     refine dg rfl rfl (fun hc => ⟨_, OpenTo.upd (t := 33) rfl (hc) (OpenTo.refl _), pop_load ty3 rfl rfl rfl⟩) ?_
     refine dg rfl rfl (fun hc => ⟨_, OpenTo.upd (t := 34) rfl (hc) (OpenTo.refl _), pop_call ca29 rfl (WeakL.refl _) c_benchref1_MomentFault⟩) ?_
     refine dg rfl rfl (fun hc => ⟨_, OpenTo.upd (t := 35) rfl (hc) (OpenTo.refl _), pop_neq rfl rfl⟩) ?_
     refine dp rfl (pop_picko rfl (.inl rfl) (.inr ⟨_, rfl, fun h => by simp_all⟩)) ?_
     refine dp rfl (pop_assign rfl) ?_
     refine dn ?_
     refine hw_cond rfl (fun h9 => ?_) (fun h10 => ?_)
     ·try simp at h9
      refine hw_reg ?_
      refine dp rfl (pop_assign rfl) ?_
      refine dn ?_
      refine hw_ret ?_
      refine ret_p rfl ?_
      show HVal.int .i64 _ = _
      simp_all [checkRoom]
     ·try simp at h10
      refine hw_reg ?_
      refine dp rfl (pop_fieldAddr ty28 rfl ty26 (by decide) rfl) ?_
      refine dp rfl (pop_load ty26 rfl rfl rfl) ?_
      refine dp rfl (pop_lenm ty26 rfl) ?_
      refine dp rfl (pop_fieldAddr ty28 rfl ty26 (by decide) rfl) ?_
      refine dp rfl (pop_load ty26 rfl rfl rfl) ?_
      refine dp rfl (pop_lenm ty26 rfl) ?_
      refine dp rfl (pop_fieldAddr ty28 rfl ty3 (by decide) rfl) ?_
      refine dp rfl (pop_load ty3 rfl rfl rfl) ?_
      have hR := out_f (n := r.Rounds) (lo := 1) (hi := 30) (by simp_all)
      have hm := mul_bd (a := (r.Teams.length : Int)) (b := r.Rounds) (A := 1000000) (B := 30) (by omega) (by omega) (by omega) (by omega)
      refine dp rfl (pop_mul64 rfl rfl (by omega) (by omega)) ?_
      refine dp rfl (pop_lss rfl rfl) ?_
      refine dp rfl (pop_assign rfl) ?_
      refine dn ?_
      refine hw_cond rfl (fun h11 => ?_) (fun h12 => ?_)
      ·try simp at h11
       refine hw_reg ?_
       refine dp rfl (pop_assign rfl) ?_
       refine dn ?_
       refine hw_ret ?_
       refine ret_p rfl ?_
       show HVal.int .i64 _ = _
       simp_all [checkRoom]
      ·try simp at h12
       refine hw_skip ?_
       refine blockQ_n ?_
       refine seqQ_n ?_
       refine hw_reg ?_
       refine dp rfl (pop_assign rfl) ?_
       refine dn ?_
       refine hw_ret ?_
       refine ret_p rfl ?_
       show HVal.int .i64 _ = _
       simp_all [checkRoom]

/-- benchwarmer/benchref1.backwards -/
theorem c_benchref1_backwards [Tracks] {way round : Int}  : ConP Tryz.prog 168 [.int .i64 way, .int .i64 round] (.bool (backwards way round)) := by
 refine Con.of_body Tryz.func168 rfl Tryz.ntmps168 rfl rfl ?_
 refine hw_reg ?_
 refine dp rfl (pop_assign rfl) ?_
 refine dn ?_
 refine hw_seq ?_
 refine hw_reg ?_
 refine dp rfl (pop_move rfl) ?_
 refine dn ?_
 refine hw_block ?_
 refine hw_reg ?_
 refine dp rfl (pop_eql rfl rfl) ?_
 refine dp rfl (pop_assign rfl) ?_
 refine dn ?_
 refine hw_cond rfl (fun h1 => ?_) (fun h2 => ?_)
 ·try simp at h1
  refine hw_reg ?_
  refine dp rfl (pop_move rfl) ?_
  refine dp rfl (pop_rem rfl rfl (by omega)) ?_
  refine dp rfl (pop_eql rfl rfl) ?_
  refine dp rfl (pop_assign rfl) ?_
  refine dn ?_
  refine hw_ret ?_
  refine ret_p rfl ?_
  show HVal.bool _ = _
  simp_all [backwards]
 ·try simp at h2
  refine hw_reg ?_
  refine dp rfl (pop_eql rfl rfl) ?_
  refine dp rfl (pop_assign rfl) ?_
  refine dn ?_
  refine hw_cond rfl (fun h3 => ?_) (fun h4 => ?_)
  ·try simp at h3
   refine hw_reg ?_
   refine dp rfl (pop_move rfl) ?_
   refine dp rfl (pop_eql rfl rfl) ?_
   refine dp rfl (pop_move rfl) ?_
   refine dg rfl rfl (fun hc => ⟨_, OpenTo.refl _, pop_move rfl⟩) ?_
   refine dg rfl rfl (fun hc => ⟨_, OpenTo.upd (t := 16) rfl (hc) (OpenTo.refl _), pop_gtr rfl rfl⟩) ?_
   refine dg rfl rfl (fun hc => ⟨_, OpenTo.upd (t := 17) rfl (hc) (OpenTo.refl _), pop_move rfl⟩) ?_
   refine dg rfl rfl (fun hc => ⟨_, OpenTo.refl _, pop_move rfl⟩) ?_
   refine dg rfl rfl (fun hc => by have hq := hc; (try simp at hq); exact ⟨_, OpenTo.upd (t := 19) rfl (hc) (OpenTo.refl _), pop_rem rfl rfl (by omega)⟩) ?_
   refine dg rfl rfl (fun hc => ⟨_, OpenTo.upd (t := 20) rfl (hc) (OpenTo.refl _), pop_eql rfl rfl⟩) ?_
   refine dg rfl rfl (fun hc => ⟨_, OpenTo.upd (t := 18) rfl (hc) (OpenTo.refl _), pop_picko rfl (.inr ⟨_, rfl, fun h => by simp_all⟩) (.inl rfl)⟩) ?_
   refine dp rfl (pop_picko rfl (.inl rfl) (.inr ⟨_, rfl, fun h => by simp_all⟩)) ?_
   refine dp rfl (pop_assign rfl) ?_
   refine dn ?_
   refine hw_ret ?_
   refine ret_p rfl ?_
   show HVal.bool _ = _
   simp_all [backwards]
  ·try simp at h4
   refine hw_skip ?_
   refine blockQ_n ?_
   refine seqQ_n ?_
   refine hw_reg ?_
   refine dp rfl (pop_assign rfl) ?_
   refine dn ?_
   refine hw_ret ?_
   refine ret_p rfl ?_
   show HVal.bool _ = _
   simp_all [backwards]

/-- benchwarmer/benchref1.ownTurns -/
theorem c_benchref1_ownTurns [Tracks] {r : Room} (ht : r.Teams.length ≤ 20) (hr0 : 1 ≤ r.Rounds) (hr : r.Rounds ≤ 30) : ConP Tryz.prog 137 [eRoom r] (eSs (ownTurns r)) := by
 refine Con.of_body Tryz.func137 rfl Tryz.ntmps137 rfl rfl ?_
 refine hw_reg ?_
 refine dp rfl (pop_box rfl rfl) ?_
 refine dp rfl (pop_assign rfl) ?_
 refine dn ?_
 refine hw_reg ?_
 refine dp rfl (pop_assign rfl) ?_
 refine dn ?_
 refine hw_ghost (Ghost.arr_nil 1) ?_
 refine hw_seq ?_
 refine hw_reg ?_
 refine dp rfl (pop_assign rfl) ?_
 refine dn ?_
 refine hw_block ?_
 refine hw_loopw2 [3, 4, 5, 6, 7, 8, 9, 10, 11, 12, 13, 14, 15, 16, 17, 18, 19, 20, 21, 22, 23] (fun (n : Nat) (v : Value) => [(4, .int .i64 ((n : Int) + 1)), (3, .raw v)]) (fun (n : Nat) (v : Value) => [.arr v 1 ((ownFrom r n).map .str)]) (fun (n : Nat) (v : Value) => n ≤ r.Rounds.toNat) (fun (n : Nat) (v : Value) => r.Rounds.toNat - n) (0) (.slice none 0 0) ?_ ?_ ?_ ?_
 ·exact Nat.zero_le _
 ·exact ⟨rfl, rfl, trivial⟩
 ·exact List.Perm.refl _
 ·intro n v hn
  refine hw_seq ?_
  refine hw_reg ?_
  refine dp rfl (pop_move rfl) ?_
  refine dp rfl (pop_fieldAddr ty28 rfl ty3 (by decide) rfl) ?_
  refine dp rfl (pop_load ty3 rfl rfl rfl) ?_
  refine dp rfl (pop_leq rfl rfl) ?_
  refine dn ?_
  refine hw_cond rfl (fun h1 => ?_) (fun h2 => ?_)
  ·try simp at h1
   have hn30 : n < r.Rounds.toNat := by omega
   refine hw_skip ?_
   refine seqQ_n ?_
   refine hw_seq ?_
   refine hw_block ?_
   refine hw_reg ?_
   refine dp rfl (pop_fieldAddr ty28 rfl ty26 (by decide) rfl) ?_
   refine dp rfl (pop_load ty26 rfl rfl rfl) ?_
   refine de rfl (eop_calla ca23 rfl (WeakL.refl _) (c_slices_Clone_string_string (by omega)) fun v14 => ?_)
   refine dp rfl (pop_assign rfl) ?_
   refine dn ?_
   refine hw_join [15, 16, 17, 18, 19, 20] (fun (L : List Str) => []) (fun (L : List Str) => [.arr v14 1 (L.map .str), .arr v 1 ((ownFrom r n).map .str)]) (fun (L : List Str) => L = if backwards r.Way ((n : Int) + 1) then r.Teams.reverse else r.Teams) ?_ ?_
   ·skip
    refine hw_reg ?_
    refine dp rfl (pop_fieldAddr ty28 rfl ty3 (by decide) rfl) ?_
    refine dp rfl (pop_load ty3 rfl rfl rfl) ?_
    refine dp rfl (pop_move rfl) ?_
    refine dp rfl (pop_call ca168 rfl (WeakL.refl _) c_benchref1_backwards) ?_
    refine dn ?_
    refine hw_cond rfl (fun h3 => ?_) (fun h4 => ?_)
    ·try simp at h3
     refine hw_reg1 ?_
     refine dp rfl (pop_move rfl) ?_
     refine de rfl (eop_callf (M1 := [_]) (R := [_]) ca120 rfl (WeakL.refl _) (List.Perm.refl _) (c_slices_Reverse_string_string (l := r.Teams) (by omega)) ?_)
     rintro _ _ ⟨rfl, rfl⟩
     refine dn ?_
     refine ⟨_, ?_, trivial, (by repeat (first | exact keeps_refl | refine keeps_upd rfl ?_ | refine keeps_loop rfl rfl ?_)), List.Perm.refl _⟩
     ·simp_all
    ·try simp at h4
     refine hw_skip ?_
     refine ⟨_, ?_, trivial, (by repeat (first | exact keeps_refl | refine keeps_upd rfl ?_ | refine keeps_loop rfl rfl ?_)), List.Perm.refl _⟩
     ·simp_all
   ·intro L hL
    have hLl : L.length = r.Teams.length := by rw [hL]; split <;> simp
    have hb := ownFrom_len r n
    have hm := Nat.mul_le_mul (show n ≤ 30 by omega) (show r.Teams.length ≤ 20 by omega)
    refine hw_ghost (Ghost.fa0 5 rfl) ?_
    refine hw_reg1 ?_
    refine dp rfl (pop_move rfl) ?_
    refine dp rfl (pop_move rfl) ?_
    refine de rfl (eop_append (i := 0) ty26 ty9 rfl rfl rfl rfl rfl (by simp [flat, hcells]) (by simp; omega) fun v23 => ?_)
    refine dp rfl (pop_assign rfl) ?_
    refine dn ?_
    refine blockQ_n ?_
    refine seqQ_n ?_
    refine hw_reg1 ?_
    refine dp rfl (pop_move rfl) ?_
    refine dp rfl (pop_add64 rfl rfl (by omega) (by omega)) ?_
    refine dp rfl (pop_assign rfl) ?_
    refine dn ?_
    refine ⟨n + 1, _, ?_, ?_, ⟨rfl, rfl, trivial⟩, (by repeat (first | exact keeps_refl | refine keeps_upd rfl ?_ | refine keeps_loop rfl rfl ?_)), perm_eq (by simp [ownFrom, hL, List.map_append])⟩
    ·omega
    ·dsimp only; omega
  ·try simp at h2
   obtain rfl : n = r.Rounds.toNat := by omega
   refine hw_exit ?_
   refine seqQ_x ?_
   refine loopQ2_x ?_
   refine blockQ_eq ?_
   refine seqQ_n ?_
   refine hw_reg ?_
   refine dp rfl (pop_move rfl) ?_
   refine dp rfl (pop_assign rfl) ?_
   refine dn ?_
   refine hw_ret ?_
   exact ret_fa (M := []) 2 rfl rfl rfl

/-- benchwarmer/benchref1.swapped -/
theorem c_benchref1_swapped [Tracks] {l : List Swap} {round : Int} {of : Str} (hl : l.length ≤ 1000000) : ConP Tryz.prog 51 [eSwaps l, .int .i64 round, .str of] (.tup [.str (owner round of l), .bool (l.any fun x => x.Round == round && x.Of == of)]) := by
 refine Con.of_body Tryz.func51 rfl Tryz.ntmps51 rfl rfl ?_
 refine hw_reg ?_
 refine dp rfl (pop_assign rfl) ?_
 refine dp rfl (pop_assign rfl) ?_
 refine dn ?_
 refine hw_seq ?_
 refine hw_reg ?_
 refine dp rfl (pop_move rfl) ?_
 refine dp rfl (pop_lenm ty53 rfl) ?_
 refine dp rfl (pop_move rfl) ?_
 refine dn ?_
 refine hw_block ?_
 refine hw_loopw [6, 7, 9, 12, 13, 14, 15, 16, 17, 18, 19, 20, 21, 22, 23, 24, 25, 26, 27, 28] (fun (k : Nat) => [(12, .int .i64 k)]) (fun (k : Nat) => []) (fun (k : Nat) => k ≤ l.length ∧ ((owner round of l = owner round of (l.drop k)) ∧ (l.any fun x => x.Round == round && x.Of == of) = (l.drop k).any fun x => x.Round == round && x.Of == of)) (fun (k : Nat) => l.length - k) (0) ?_ ?_ ?_ ?_
 ·exact ⟨Nat.zero_le _, rfl, rfl⟩
 ·exact ⟨rfl, trivial⟩
 ·exact List.Perm.refl _
 ·intro k hinv
  obtain ⟨hk, hg, hg2⟩ := hinv
  refine hw_reg ?_
  refine dp rfl (pop_lss rfl rfl) ?_
  refine dn ?_
  refine hw_seq ?_
  refine hw_cond rfl (fun h1 => ?_) (fun h2 => ?_)
  ·try simp at h1
   obtain ⟨x, hx⟩ : ∃ x, l[k]? = some x := ⟨_, List.getElem?_eq_getElem h1⟩
   have hdx := drop_cons hx
   rw [hdx] at hg hg2
   refine hw_skip ?_
   refine seqQ_n ?_
   refine hw_seq ?_
   refine hw_block ?_
   refine hw_reg ?_
   refine dp rfl (pop_idx ty53 ty140 rfl rfl rfl (by assumption)) ?_
   refine dp rfl (pop_loadw ty140 rfl rfl rfl rfl) ?_
   refine de rfl (eop_alloc ty140 rfl fun b9 => ?_)
   refine de0 (eop_storew ty140 rfl rfl rfl rfl rfl ?_)
   refine dn ?_
   refine hw_ghost (Ghost.fc0 9 rfl) ?_
   refine hw_reg ?_
   refine dp rfl (pop_fieldAddr ty140 rfl ty3 (by decide) rfl) ?_
   refine dp rfl (pop_load ty3 rfl rfl rfl) ?_
   refine dp rfl (pop_move rfl) ?_
   refine dp rfl (pop_eql rfl rfl) ?_
   refine dp rfl (pop_move rfl) ?_
   refine dg rfl rfl (fun hc => ⟨_, OpenTo.refl _, pop_fieldAddr ty140 rfl ty9 (by decide) rfl⟩) ?_
   refine dg rfl rfl (fun hc => ⟨_, OpenTo.upd (t := 21) rfl (hc) (OpenTo.refl _), pop_load ty9 rfl rfl rfl⟩) ?_
   refine dg rfl rfl (fun hc => ⟨_, OpenTo.refl _, pop_move rfl⟩) ?_
   refine dg rfl rfl (fun hc => ⟨_, OpenTo.upd (t := 23) rfl (hc) (OpenTo.upd (t := 22) rfl (hc) (OpenTo.refl _)), pop_eqls rfl rfl⟩) ?_
   refine dp rfl (pop_picko rfl (.inr ⟨_, rfl, fun h => by simp_all⟩) (.inl rfl)) ?_
   refine dn ?_
   refine hw_cond rfl (fun h3 => ?_) (fun h4 => ?_)
   ·try simp at h3
    refine hw_reg ?_
    refine dp rfl (pop_fieldAddr ty140 rfl ty9 (by decide) rfl) ?_
    refine dp rfl (pop_load ty9 rfl rfl rfl) ?_
    refine dp rfl (pop_assign rfl) ?_
    refine dp rfl (pop_assign rfl) ?_
    refine dn ?_
    refine hw_ret ?_
    refine ret_p rfl ?_
    show HVal.tup _ = _
    rw [hg, hg2]; simp_all [owner, ofVal, ofVal1]
   ·try simp at h4
    refine hw_skip ?_
    refine blockQ_n ?_
    refine seqQ_n ?_
    refine hw_reg1 ?_
    refine dp rfl (pop_add64 rfl rfl (by omega) (by omega)) ?_
    refine dp rfl (pop_move rfl) ?_
    refine dn ?_
    refine ⟨k + 1, ?_, ?_, ⟨rfl, trivial⟩, (by repeat (first | exact keeps_refl | refine keeps_upd rfl ?_ | refine keeps_loop rfl rfl ?_)), List.Perm.refl _⟩
    ·refine ⟨by omega, ?_, ?_⟩
     ·rw [hg]; simp_all [owner]
     ·rw [hg2]; simp_all
    ·dsimp only; omega
  ·try simp at h2
   have hnk : l.length ≤ k := by omega
   obtain rfl : k = l.length := by omega
   rw [drop_all (Nat.le_refl _)] at hg hg2
   refine hw_exit ?_
   refine seqQ_x ?_
   refine loopQ_x ?_
   refine blockQ_eq ?_
   refine seqQ_n ?_
   refine hw_reg ?_
   refine dp rfl (pop_move rfl) ?_
   refine dp rfl (pop_assign rfl) ?_
   refine dp rfl (pop_assign rfl) ?_
   refine dn ?_
   refine hw_ret ?_
   refine ret_p rfl ?_
   show HVal.tup _ = _
   rw [hg, hg2]; simp_all [owner, ofVal, ofVal1]
end Go.Proofs.YtmgbigiegjlieaaGreatDoor
end
section
namespace Go.Proofs
open Go.Shelf
def Tryz.lays190_ren : Go.Shelf.Ren := ⟨fun | 190 => 129 | 125 => 161 | 258 => 160 | 128 => 197 | 129 => 163 | 302 => 188 | 303 => 189 | 304 => 190 | 305 => 191 | 306 => 192 | 307 => 193 | 308 => 194 | 309 => 195 | 310 => 196 | 333 => 223 | 329 => 224 | 330 => 225 | 334 => 226 | 335 => 227 | 336 => 228 | 344 => 237 | n => n, fun | 31 => 26 | 9 => 9 | 3 => 3 | 46 => 208 | 0 => 0 | 51 => 211 | 53 => 179 | 4 => 4 | 183 => 225 | 182 => 224 | 131 => 73 | 5 => 5 | 218 => 255 | 222 => 259 | 228 => 271 | 229 => 272 | n => n, fun | n => n⟩
theorem Tryz.lays190 : Go.Proofs.Lays.n190 Tryz.prog Tryz.lays190_ren := {
 mixed := by kernel_rfl
 f125 := Tryz.func161.trans (congrArg some (by kernel_rfl))
 f128 := Tryz.func197.trans (congrArg some (by kernel_rfl))
 f129 := Tryz.func163.trans (congrArg some (by kernel_rfl))
 f190 := Tryz.func129.trans (congrArg some (by kernel_rfl))
 f258 := Tryz.func160.trans (congrArg some (by kernel_rfl))
 f302 := Tryz.func188.trans (congrArg some (by kernel_rfl))
 f303 := Tryz.func189.trans (congrArg some (by kernel_rfl))
 f304 := Tryz.func190.trans (congrArg some (by kernel_rfl))
 f305 := Tryz.func191.trans (congrArg some (by kernel_rfl))
 f306 := Tryz.func192.trans (congrArg some (by kernel_rfl))
 f307 := Tryz.func193.trans (congrArg some (by kernel_rfl))
 f308 := Tryz.func194.trans (congrArg some (by kernel_rfl))
 f309 := Tryz.func195.trans (congrArg some (by kernel_rfl))
 f310 := Tryz.func196.trans (congrArg some (by kernel_rfl))
 f329 := Tryz.func224.trans (congrArg some (by kernel_rfl))
 f330 := Tryz.func225.trans (congrArg some (by kernel_rfl))
 f333 := Tryz.func223.trans (congrArg some (by kernel_rfl))
 f334 := Tryz.func226.trans (congrArg some (by kernel_rfl))
 f335 := Tryz.func227.trans (congrArg some (by kernel_rfl))
 f336 := Tryz.func228.trans (congrArg some (by kernel_rfl))
 f344 := Tryz.func237.trans (congrArg some (by kernel_rfl))
 t0 := Tryz.underlying0
 a0 := Tryz.isAgg0
 z0 := Tryz.sizeOf0
 v0 := Tryz.zeroValue0
 t3 := Tryz.underlying3
 a3 := Tryz.isAgg3
 z3 := Tryz.sizeOf3
 v3 := Tryz.zeroValue3
 t4 := Tryz.underlying4
 a4 := Tryz.isAgg4
 z4 := Tryz.sizeOf4
 v4 := Tryz.zeroValue4
 t5 := Tryz.underlying5
 a5 := Tryz.isAgg5
 z5 := Tryz.sizeOf5
 v5 := Tryz.zeroValue5
 t9 := Tryz.underlying9
 a9 := Tryz.isAgg9
 z9 := Tryz.sizeOf9
 v9 := Tryz.zeroValue9
 t31 := Tryz.underlying26
 a31 := Tryz.isAgg26
 z31 := Tryz.sizeOf26
 v31 := Tryz.zeroValue26
 t46 := Tryz.underlying208
 a46 := Tryz.isAgg208
 z46 := Tryz.sizeOf208
 v46 := Tryz.zeroValue208
 t51 := Tryz.underlying211
 a51 := Tryz.isAgg211
 z51 := Tryz.sizeOf211
 v51 := Tryz.zeroValue211
 t53 := Tryz.underlying179
 a53 := Tryz.isAgg179
 z53 := Tryz.sizeOf179
 v53 := Tryz.zeroValue179
 t131 := Tryz.underlying73
 a131 := Tryz.isAgg73
 z131 := Tryz.sizeOf73
 v131 := Tryz.zeroValue73
 t182 := Tryz.underlying224
 a182 := Tryz.isAgg224
 z182 := Tryz.sizeOf224
 v182 := Tryz.zeroValue224
 t183 := Tryz.underlying225
 a183 := Tryz.isAgg225
 z183 := Tryz.sizeOf225
 v183 := Tryz.zeroValue225
 t218 := Tryz.underlying255
 a218 := Tryz.isAgg255
 z218 := Tryz.sizeOf255
 v218 := Tryz.zeroValue255
 t222 := Tryz.underlying259
 a222 := Tryz.isAgg259
 z222 := Tryz.sizeOf259
 v222 := Tryz.zeroValue259
 t228 := Tryz.underlying271
 a228 := Tryz.isAgg271
 z228 := Tryz.sizeOf271
 v228 := Tryz.zeroValue271
 t229 := Tryz.underlying272
 a229 := Tryz.isAgg272
 z229 := Tryz.sizeOf272
 v229 := Tryz.zeroValue272 }
def Tryz.lays194_ren : Go.Shelf.Ren := ⟨fun | 194 => 200 | n => n, fun | 31 => 26 | 9 => 9 | 3 => 3 | 4 => 4 | 0 => 0 | n => n, fun | n => n⟩
theorem Tryz.lays194 : Go.Proofs.Lays.n194 Tryz.prog Tryz.lays194_ren := {
 mixed := by kernel_rfl
 f194 := Tryz.func200.trans (congrArg some (by kernel_rfl))
 t0 := Tryz.underlying0
 a0 := Tryz.isAgg0
 z0 := Tryz.sizeOf0
 v0 := Tryz.zeroValue0
 t3 := Tryz.underlying3
 a3 := Tryz.isAgg3
 z3 := Tryz.sizeOf3
 v3 := Tryz.zeroValue3
 t4 := Tryz.underlying4
 a4 := Tryz.isAgg4
 z4 := Tryz.sizeOf4
 v4 := Tryz.zeroValue4
 t9 := Tryz.underlying9
 a9 := Tryz.isAgg9
 z9 := Tryz.sizeOf9
 v9 := Tryz.zeroValue9
 t31 := Tryz.underlying26
 a31 := Tryz.isAgg26
 z31 := Tryz.sizeOf26
 v31 := Tryz.zeroValue26 }
def Tryz.lays171_ren : Go.Shelf.Ren := ⟨fun | 171 => 21 | 243 => 48 | 246 => 85 | 283 => 130 | 284 => 131 | 285 => 132 | 286 => 133 | 129 => 163 | 317 => 162 | 318 => 164 | 319 => 165 | 320 => 166 | 337 => 198 | 338 => 199 | n => n, fun | 3 => 3 | 9 => 9 | 2 => 2 | 4 => 4 | 171 => 178 | 0 => 0 | 53 => 179 | 37 => 63 | 5 => 5 | 173 => 182 | 212 => 210 | 51 => 211 | 20 => 20 | 213 => 212 | 46 => 208 | 232 => 261 | 233 => 262 | n => n, fun | 17 => 1 | 18 => 6 | 19 => 7 | n => n⟩
theorem Tryz.lays171 : Go.Proofs.Lays.n171 Tryz.prog Tryz.lays171_ren := {
 mixed := by kernel_rfl
 f129 := Tryz.func163.trans (congrArg some (by kernel_rfl))
 f171 := Tryz.func21.trans (congrArg some (by kernel_rfl))
 f243 := Tryz.func48.trans (congrArg some (by kernel_rfl))
 f246 := Tryz.func85.trans (congrArg some (by kernel_rfl))
 f283 := Tryz.func130.trans (congrArg some (by kernel_rfl))
 f284 := Tryz.func131.trans (congrArg some (by kernel_rfl))
 f285 := Tryz.func132.trans (congrArg some (by kernel_rfl))
 f286 := Tryz.func133.trans (congrArg some (by kernel_rfl))
 f317 := Tryz.func162.trans (congrArg some (by kernel_rfl))
 f318 := Tryz.func164.trans (congrArg some (by kernel_rfl))
 f319 := Tryz.func165.trans (congrArg some (by kernel_rfl))
 f320 := Tryz.func166.trans (congrArg some (by kernel_rfl))
 f337 := Tryz.func198.trans (congrArg some (by kernel_rfl))
 f338 := Tryz.func199.trans (congrArg some (by kernel_rfl))
 t0 := Tryz.underlying0
 a0 := Tryz.isAgg0
 z0 := Tryz.sizeOf0
 v0 := Tryz.zeroValue0
 t2 := Tryz.underlying2
 a2 := Tryz.isAgg2
 z2 := Tryz.sizeOf2
 v2 := Tryz.zeroValue2
 t3 := Tryz.underlying3
 a3 := Tryz.isAgg3
 z3 := Tryz.sizeOf3
 v3 := Tryz.zeroValue3
 t4 := Tryz.underlying4
 a4 := Tryz.isAgg4
 z4 := Tryz.sizeOf4
 v4 := Tryz.zeroValue4
 t5 := Tryz.underlying5
 a5 := Tryz.isAgg5
 z5 := Tryz.sizeOf5
 v5 := Tryz.zeroValue5
 t9 := Tryz.underlying9
 a9 := Tryz.isAgg9
 z9 := Tryz.sizeOf9
 v9 := Tryz.zeroValue9
 t20 := Tryz.underlying20
 a20 := Tryz.isAgg20
 z20 := Tryz.sizeOf20
 v20 := Tryz.zeroValue20
 t37 := Tryz.underlying63
 a37 := Tryz.isAgg63
 z37 := Tryz.sizeOf63
 v37 := Tryz.zeroValue63
 t46 := Tryz.underlying208
 a46 := Tryz.isAgg208
 z46 := Tryz.sizeOf208
 v46 := Tryz.zeroValue208
 t51 := Tryz.underlying211
 a51 := Tryz.isAgg211
 z51 := Tryz.sizeOf211
 v51 := Tryz.zeroValue211
 t53 := Tryz.underlying179
 a53 := Tryz.isAgg179
 z53 := Tryz.sizeOf179
 v53 := Tryz.zeroValue179
 t171 := Tryz.underlying178
 a171 := Tryz.isAgg178
 z171 := Tryz.sizeOf178
 v171 := Tryz.zeroValue178
 t173 := Tryz.underlying182
 a173 := Tryz.isAgg182
 z173 := Tryz.sizeOf182
 v173 := Tryz.zeroValue182
 t212 := Tryz.underlying210
 a212 := Tryz.isAgg210
 z212 := Tryz.sizeOf210
 v212 := Tryz.zeroValue210
 t213 := Tryz.underlying212
 a213 := Tryz.isAgg212
 z213 := Tryz.sizeOf212
 t232 := Tryz.underlying261
 a232 := Tryz.isAgg261
 z232 := Tryz.sizeOf261
 v232 := Tryz.zeroValue261
 t233 := Tryz.underlying262
 a233 := Tryz.isAgg262
 z233 := Tryz.sizeOf262
 v233 := Tryz.zeroValue262
 g17 := by kernel_rfl
 g18 := by kernel_rfl
 g19 := by kernel_rfl }
def Tryz.laysm171_ren : Go.Shelf.Ren := ⟨fun | 171 => 21 | 243 => 48 | 246 => 85 | 283 => 130 | 284 => 131 | 285 => 132 | 286 => 133 | 129 => 163 | 317 => 162 | 318 => 164 | 319 => 165 | 320 => 166 | 337 => 198 | 338 => 199 | n => n, fun | 3 => 3 | 9 => 9 | 2 => 2 | 4 => 4 | 171 => 178 | 0 => 0 | 53 => 179 | 37 => 63 | 5 => 5 | 173 => 182 | 212 => 210 | 51 => 211 | 20 => 20 | 213 => 212 | 46 => 208 | 232 => 261 | 233 => 262 | n => n, fun | 17 => 1 | 18 => 6 | 19 => 7 | n => n⟩
theorem Tryz.laysm171 : Go.Proofs.LaysM.n171 Tryz.prog Tryz.laysm171_ren := {
 mixed := by kernel_rfl
 f129 := Tryz.func163.trans (congrArg some (by kernel_rfl))
 f171 := Tryz.func21.trans (congrArg some (by kernel_rfl))
 f243 := Tryz.func48.trans (congrArg some (by kernel_rfl))
 f246 := Tryz.func85.trans (congrArg some (by kernel_rfl))
 f283 := Tryz.func130.trans (congrArg some (by kernel_rfl))
 f284 := Tryz.func131.trans (congrArg some (by kernel_rfl))
 f285 := Tryz.func132.trans (congrArg some (by kernel_rfl))
 f286 := Tryz.func133.trans (congrArg some (by kernel_rfl))
 f317 := Tryz.func162.trans (congrArg some (by kernel_rfl))
 f318 := Tryz.func164.trans (congrArg some (by kernel_rfl))
 f319 := Tryz.func165.trans (congrArg some (by kernel_rfl))
 f320 := Tryz.func166.trans (congrArg some (by kernel_rfl))
 f337 := Tryz.func198.trans (congrArg some (by kernel_rfl))
 f338 := Tryz.func199.trans (congrArg some (by kernel_rfl))
 t0 := Tryz.underlying0
 a0 := Tryz.isAgg0
 z0 := Tryz.sizeOf0
 v0 := Tryz.zeroValue0
 t2 := Tryz.underlying2
 a2 := Tryz.isAgg2
 z2 := Tryz.sizeOf2
 v2 := Tryz.zeroValue2
 t3 := Tryz.underlying3
 a3 := Tryz.isAgg3
 z3 := Tryz.sizeOf3
 v3 := Tryz.zeroValue3
 t4 := Tryz.underlying4
 a4 := Tryz.isAgg4
 z4 := Tryz.sizeOf4
 v4 := Tryz.zeroValue4
 t5 := Tryz.underlying5
 a5 := Tryz.isAgg5
 z5 := Tryz.sizeOf5
 v5 := Tryz.zeroValue5
 t9 := Tryz.underlying9
 a9 := Tryz.isAgg9
 z9 := Tryz.sizeOf9
 v9 := Tryz.zeroValue9
 t20 := Tryz.underlying20
 a20 := Tryz.isAgg20
 z20 := Tryz.sizeOf20
 v20 := Tryz.zeroValue20
 t37 := Tryz.underlying63
 a37 := Tryz.isAgg63
 z37 := Tryz.sizeOf63
 v37 := Tryz.zeroValue63
 t46 := Tryz.underlying208
 a46 := Tryz.isAgg208
 z46 := Tryz.sizeOf208
 v46 := Tryz.zeroValue208
 t51 := Tryz.underlying211
 a51 := Tryz.isAgg211
 z51 := Tryz.sizeOf211
 v51 := Tryz.zeroValue211
 t53 := Tryz.underlying179
 a53 := Tryz.isAgg179
 z53 := Tryz.sizeOf179
 v53 := Tryz.zeroValue179
 t171 := Tryz.underlying178
 a171 := Tryz.isAgg178
 z171 := Tryz.sizeOf178
 v171 := Tryz.zeroValue178
 t173 := Tryz.underlying182
 a173 := Tryz.isAgg182
 z173 := Tryz.sizeOf182
 v173 := Tryz.zeroValue182
 t212 := Tryz.underlying210
 a212 := Tryz.isAgg210
 z212 := Tryz.sizeOf210
 v212 := Tryz.zeroValue210
 t213 := Tryz.underlying212
 a213 := Tryz.isAgg212
 z213 := Tryz.sizeOf212
 t232 := Tryz.underlying261
 a232 := Tryz.isAgg261
 z232 := Tryz.sizeOf261
 v232 := Tryz.zeroValue261
 t233 := Tryz.underlying262
 a233 := Tryz.isAgg262
 z233 := Tryz.sizeOf262
 v233 := Tryz.zeroValue262
 g17 := by kernel_rfl
 g18 := by kernel_rfl
 g19 := by kernel_rfl
 i0 := by kernel_rfl
 i2 := by kernel_rfl
 i3 := by kernel_rfl
 i4 := by kernel_rfl
 i5 := by kernel_rfl
 i9 := by kernel_rfl
 i20 := by kernel_rfl
 i37 := by kernel_rfl
 i46 := by kernel_rfl
 i51 := by kernel_rfl
 i53 := by kernel_rfl
 i171 := by kernel_rfl
 i173 := by kernel_rfl
 i212 := by kernel_rfl
 i232 := by kernel_rfl
 i233 := by kernel_rfl
 m17 := by kernel_rfl
 m18 := by kernel_rfl
 m19 := by kernel_rfl }
def Tryz.lays172_ren : Go.Shelf.Ren := ⟨fun | 172 => 112 | 244 => 148 | 245 => 149 | 247 => 177 | 279 => 178 | 280 => 179 | 281 => 180 | 282 => 181 | 287 => 203 | 316 => 204 | 171 => 21 | 205 => 205 | 321 => 229 | 322 => 230 | 243 => 48 | 246 => 85 | 283 => 130 | 284 => 131 | 285 => 132 | 286 => 133 | 129 => 163 | 317 => 162 | 318 => 164 | 319 => 165 | 320 => 166 | 337 => 198 | 338 => 199 | n => n, fun | 9 => 9 | 3 => 3 | 75 => 67 | 76 => 68 | 4 => 4 | 5 => 5 | 167 => 215 | 37 => 63 | 0 => 0 | 85 => 216 | 2 => 2 | 168 => 218 | 53 => 179 | 175 => 238 | 46 => 208 | 210 => 242 | 127 => 112 | 145 => 266 | 143 => 264 | 21 => 21 | 171 => 178 | 173 => 182 | 212 => 210 | 51 => 211 | 20 => 20 | 213 => 212 | 232 => 261 | 233 => 262 | 80 => 42 | n => n, fun | 15 => 4 | 16 => 5 | 17 => 1 | 18 => 6 | 19 => 7 | n => n⟩
theorem Tryz.lays172 : Go.Proofs.Lays.n172 Tryz.prog Tryz.lays172_ren := {
 mixed := by kernel_rfl
 f129 := Tryz.func163.trans (congrArg some (by kernel_rfl))
 f171 := Tryz.func21.trans (congrArg some (by kernel_rfl))
 f172 := Tryz.func112.trans (congrArg some (by kernel_rfl))
 f205 := Tryz.func205.trans (congrArg some (by kernel_rfl))
 f243 := Tryz.func48.trans (congrArg some (by kernel_rfl))
 f244 := Tryz.func148.trans (congrArg some (by kernel_rfl))
 f245 := Tryz.func149.trans (congrArg some (by kernel_rfl))
 f246 := Tryz.func85.trans (congrArg some (by kernel_rfl))
 f247 := Tryz.func177.trans (congrArg some (by kernel_rfl))
 f279 := Tryz.func178.trans (congrArg some (by kernel_rfl))
 f280 := Tryz.func179.trans (congrArg some (by kernel_rfl))
 f281 := Tryz.func180.trans (congrArg some (by kernel_rfl))
 f282 := Tryz.func181.trans (congrArg some (by kernel_rfl))
 f283 := Tryz.func130.trans (congrArg some (by kernel_rfl))
 f284 := Tryz.func131.trans (congrArg some (by kernel_rfl))
 f285 := Tryz.func132.trans (congrArg some (by kernel_rfl))
 f286 := Tryz.func133.trans (congrArg some (by kernel_rfl))
 f287 := Tryz.func203.trans (congrArg some (by kernel_rfl))
 f316 := Tryz.func204.trans (congrArg some (by kernel_rfl))
 f317 := Tryz.func162.trans (congrArg some (by kernel_rfl))
 f318 := Tryz.func164.trans (congrArg some (by kernel_rfl))
 f319 := Tryz.func165.trans (congrArg some (by kernel_rfl))
 f320 := Tryz.func166.trans (congrArg some (by kernel_rfl))
 f321 := Tryz.func229.trans (congrArg some (by kernel_rfl))
 f322 := Tryz.func230.trans (congrArg some (by kernel_rfl))
 f337 := Tryz.func198.trans (congrArg some (by kernel_rfl))
 f338 := Tryz.func199.trans (congrArg some (by kernel_rfl))
 t0 := Tryz.underlying0
 a0 := Tryz.isAgg0
 z0 := Tryz.sizeOf0
 v0 := Tryz.zeroValue0
 t2 := Tryz.underlying2
 a2 := Tryz.isAgg2
 z2 := Tryz.sizeOf2
 v2 := Tryz.zeroValue2
 t3 := Tryz.underlying3
 a3 := Tryz.isAgg3
 z3 := Tryz.sizeOf3
 v3 := Tryz.zeroValue3
 t4 := Tryz.underlying4
 a4 := Tryz.isAgg4
 z4 := Tryz.sizeOf4
 v4 := Tryz.zeroValue4
 t5 := Tryz.underlying5
 a5 := Tryz.isAgg5
 z5 := Tryz.sizeOf5
 v5 := Tryz.zeroValue5
 t9 := Tryz.underlying9
 a9 := Tryz.isAgg9
 z9 := Tryz.sizeOf9
 v9 := Tryz.zeroValue9
 t20 := Tryz.underlying20
 a20 := Tryz.isAgg20
 z20 := Tryz.sizeOf20
 v20 := Tryz.zeroValue20
 t21 := Tryz.underlying21
 a21 := Tryz.isAgg21
 z21 := Tryz.sizeOf21
 v21 := Tryz.zeroValue21
 t37 := Tryz.underlying63
 a37 := Tryz.isAgg63
 z37 := Tryz.sizeOf63
 v37 := Tryz.zeroValue63
 t46 := Tryz.underlying208
 a46 := Tryz.isAgg208
 z46 := Tryz.sizeOf208
 v46 := Tryz.zeroValue208
 t51 := Tryz.underlying211
 a51 := Tryz.isAgg211
 z51 := Tryz.sizeOf211
 v51 := Tryz.zeroValue211
 t53 := Tryz.underlying179
 a53 := Tryz.isAgg179
 z53 := Tryz.sizeOf179
 v53 := Tryz.zeroValue179
 t75 := Tryz.underlying67
 a75 := Tryz.isAgg67
 z75 := Tryz.sizeOf67
 v75 := Tryz.zeroValue67
 t76 := Tryz.underlying68
 a76 := Tryz.isAgg68
 z76 := Tryz.sizeOf68
 v76 := Tryz.zeroValue68
 t85 := Tryz.underlying216
 a85 := Tryz.isAgg216
 z85 := Tryz.sizeOf216
 v85 := Tryz.zeroValue216
 t127 := Tryz.underlying112
 a127 := Tryz.isAgg112
 z127 := Tryz.sizeOf112
 v127 := Tryz.zeroValue112
 t143 := Tryz.underlying264
 a143 := Tryz.isAgg264
 z143 := Tryz.sizeOf264
 v143 := Tryz.zeroValue264
 t145 := Tryz.underlying266
 a145 := Tryz.isAgg266
 z145 := Tryz.sizeOf266
 v145 := Tryz.zeroValue266
 t167 := Tryz.underlying215
 a167 := Tryz.isAgg215
 z167 := Tryz.sizeOf215
 v167 := Tryz.zeroValue215
 t168 := Tryz.underlying218
 a168 := Tryz.isAgg218
 z168 := Tryz.sizeOf218
 v168 := Tryz.zeroValue218
 t171 := Tryz.underlying178
 a171 := Tryz.isAgg178
 z171 := Tryz.sizeOf178
 v171 := Tryz.zeroValue178
 t173 := Tryz.underlying182
 a173 := Tryz.isAgg182
 z173 := Tryz.sizeOf182
 v173 := Tryz.zeroValue182
 t175 := Tryz.underlying238
 a175 := Tryz.isAgg238
 z175 := Tryz.sizeOf238
 v175 := Tryz.zeroValue238
 t210 := Tryz.underlying242
 a210 := Tryz.isAgg242
 z210 := Tryz.sizeOf242
 v210 := Tryz.zeroValue242
 t212 := Tryz.underlying210
 a212 := Tryz.isAgg210
 z212 := Tryz.sizeOf210
 v212 := Tryz.zeroValue210
 t213 := Tryz.underlying212
 a213 := Tryz.isAgg212
 z213 := Tryz.sizeOf212
 t232 := Tryz.underlying261
 a232 := Tryz.isAgg261
 z232 := Tryz.sizeOf261
 v232 := Tryz.zeroValue261
 t233 := Tryz.underlying262
 a233 := Tryz.isAgg262
 z233 := Tryz.sizeOf262
 v233 := Tryz.zeroValue262
 g15 := by kernel_rfl
 g16 := by kernel_rfl
 g17 := by kernel_rfl
 g18 := by kernel_rfl
 g19 := by kernel_rfl }
def Tryz.lays101_ren : Go.Shelf.Ren := ⟨fun | 101 => 111 | 208 => 147 | 206 => 176 | n => n, fun | 9 => 9 | 4 => 4 | 3 => 3 | n => n, fun | n => n⟩
theorem Tryz.lays101 : Go.Proofs.Lays.n101 Tryz.prog Tryz.lays101_ren := {
 mixed := by kernel_rfl
 f101 := Tryz.func111.trans (congrArg some (by kernel_rfl))
 f206 := Tryz.func176.trans (congrArg some (by kernel_rfl))
 f208 := Tryz.func147.trans (congrArg some (by kernel_rfl))
 t3 := Tryz.underlying3
 a3 := Tryz.isAgg3
 z3 := Tryz.sizeOf3
 v3 := Tryz.zeroValue3
 t4 := Tryz.underlying4
 a4 := Tryz.isAgg4
 z4 := Tryz.sizeOf4
 v4 := Tryz.zeroValue4
 t9 := Tryz.underlying9
 a9 := Tryz.isAgg9
 z9 := Tryz.sizeOf9
 v9 := Tryz.zeroValue9 }
end Go.Proofs
end
section
namespace Go.HL
variable {P : Program}
open Go.Sort Go.Proofs
theorem arr_some [Tracks] {I : Imm} {F : List MObj} {w : World} {b off n cap sz : Nat} {es : List HVal} (h : Sat P I (.arr (.slice (some ⟨b, off, none⟩) n cap) sz es :: F) w) :
 n = es.length ∧ ∃ rc el fr, w.heap[b]? = some (.cells rc el fr) ∧ Free fr rc.size ∧ (∀ e ∈ es, (hcells e).length = sz) ∧ (es.length ≤ cap ∧ cap ≤ 9223372036854775807) ∧ off + cap * sz ≤ rc.size ∧
  (∀ (i j : Nat) (e c : HVal) (v : Value), es[i]? = some e → (hcells e)[j]? = some c → rc[off + i * sz + j]? = some v → V I c v) := by
 rcases h.obj _ List.mem_cons_self with ⟨h0, _⟩ | ⟨b', off', cap', rc, el, fr, h1, h2, h3, h4, h5, h6, h7⟩
 ·cases h0
 ·cases h1
  exact ⟨rfl, rc, el, fr, h2, h3, h4, h5, h6, h7⟩
theorem holds_row [Tracks] {I : Imm} {F : List MObj} {w : World} {b off n cap : Nat} {l : List (List UInt8)} (h : Sat P I (.arr (.slice (some ⟨b, off, none⟩) n cap) 1 (l.map .str) :: F) w) :
 Holds encStr w b off l.toArray ∧ b < w.heap.size ∧ l.length ≤ cap ∧ n = l.length := by
 obtain ⟨h0, rc, el, fr, h2, h3, h4, h5, h6, h7⟩ := arr_some h
 simp only [List.length_map] at h0 h5
 refine ⟨fun j hj => ?_, ?_, h5.1, h0⟩
 ·have hj' : j < l.length := by simpa using hj
  have hlt : off + j < rc.size := by omega
  constructor
  ·rw [cell_of h2, Array.getElem?_eq_getElem hlt]
   have hv := h7 j 0 (.str l[j]) (.str l[j]) rc[off + j] (by simp [hj']) (by simp [hcells]) (by simp [Array.getElem?_eq_getElem hlt])
   rw [hv.str_inv]
   simp [hj', encStr]
  ·simp only [World.frozen?, h2]
   have := h3 (off + j) hlt
   simpa using this
 ·rcases Nat.lt_or_ge b w.heap.size with h' | h'
  ·exact h'
  ·simp [Array.getElem?_eq_none h'] at h2
theorem sat_row [Tracks] {I : Imm} {F : List MObj} {w : World} {b off n cap n' k : Nat} {os : Array Obj} {l zs : List (List UInt8)} (h : Sat P I (.arr (.slice (some ⟨b, off, none⟩) n cap) 1 (l.map .str) :: F) w) (hz : zs.length = l.length) (hn : n' ≤ l.length) :
 Sat P I (.arr (.slice (some ⟨b, off, none⟩) n' cap) 1 ((zs.take n').map .str) :: F) (grow (putRow encStr (Sort.ahead w k) b off zs.toArray) os) := by
 obtain ⟨h0, rc, el, fr, h2, h3, h4, h5, h6, h7⟩ := arr_some h
 simp only [List.length_map] at h0 h5
 have hlt : b < w.heap.size := by
  rcases Nat.lt_or_ge b w.heap.size with h' | h'
  ·exact h'
  ·simp [Array.getElem?_eq_none h'] at h2
 have hheap : ∀ c, c < w.heap.size → (grow (putRow encStr (Sort.ahead w k) b off zs.toArray) os).heap[c]? = (w.heap.modify b (onCells (putCells encStr off zs.toArray)))[c]? := fun c hc => by
  simp only [grow, putRow, mapBlock, Sort.ahead]
  rw [Array.getElem?_append_left (by simpa using hc)]
 refine h.change (m' := .arr (.slice (some ⟨b, off, none⟩) n' cap) 1 ((zs.take n').map .str)) (fun c hc hnc => ?_) (fun c hc => .inl hc) (by simp [MObj.blocks]) ?_ rfl rfl rfl
 ·rw [hheap c hc, Array.getElem?_modify]
  have : b ≠ c := fun hh => hnc (by subst hh; simp [MObj.blocks])
  rw [if_neg this]
 ·refine .inr ⟨b, off, cap, putCells encStr off zs.toArray rc, el, fr, ?_, ?_, ?_, ?_, ?_, ?_, ?_⟩
  ·simp [hz, Nat.min_eq_left hn]
  ·rw [hheap b hlt, Array.getElem?_modify, if_pos rfl, h2]; rfl
  ·simpa [putCells] using h3
  ·intro e he; obtain ⟨a, _, rfl⟩ := List.mem_map.1 he; simp [hcells]
  ·simp; omega
  ·simpa [putCells] using h6
  ·intro i j e c v a1 a2 a3
   have hi : i < n' := by
    have := lt_of_get a1; simp at this; omega
   rw [List.getElem?_map, List.getElem?_take_of_lt hi] at a1
   cases hq : zs[i]? with
   | none => rw [hq] at a1; simp at a1
   | some s =>
     rw [hq] at a1; simp at a1; subst a1
     have hj : j = 0 := by have := lt_of_get a2; simp [hcells] at this; omega
     subst hj
     simp [hcells] at a2; subst a2
     have hil : i < zs.length := lt_of_get hq
     have hr : off + i * 1 + 0 < rc.size := by omega
     rw [putCells, Array.getElem?_mapIdx, Array.getElem?_eq_getElem hr, Option.map_some, if_pos ⟨by omega, by simp; omega⟩] at a3
     have e1 : off + i * 1 + 0 - off = i := by omega
     rw [e1] at a3
     have e2 : zs.toArray[i]! = s := by
      rw [getElem!_pos zs.toArray i (by simpa using hil)]
      have := List.getElem?_eq_getElem hil
      rw [hq] at this; simpa using (Option.some.inj this).symm
     rw [e2] at a3
     cases a3
     exact .str s

theorem VL.one {I : Imm} {h : HVal} {args : List Value} (hv : VL I [h] args) : ∃ v, args = [v] ∧ V I h v := by
 obtain ⟨h1, h2⟩ := hv
 match args, h1 with
 | [v], _ => exact ⟨v, rfl, h2 0 h v rfl rfl⟩

def sortS (l : List (List UInt8)) : List (List UInt8) := l.mergeSort fun x y => decide (x ≤ y)
theorem sortS_len (l : List (List UInt8)) : (sortS l).length = l.length := by simp [sortS]

/-- A function that works on a slice of strings in place and hands on nothing. -/
theorem con_row [Tracks] {P : Program} {f : FuncId} {l zs : List (List UInt8)} {v : Value} (hz : zs.length = l.length)
 (h1 : ∀ (b off cap : Nat) (w : World), Holds encStr w b off l.toArray → b < w.heap.size → l.length ≤ cap → Calls P f #[.slice (some ⟨b, off, none⟩) l.length cap] w fun e w' => e = .returned (.tuple #[]) ∧ ∃ n os, w' = grow (putRow encStr (Sort.ahead w n) b off zs.toArray) os)
 (h0 : l = [] → ConP P f [.slice 1 []] (.tup [])) : Con P f [.raw v] [.arr v 1 (l.map .str)] fun x M' => x = .tup [] ∧ M' = [.arr v 1 (zs.map .str)] := by
 intro I F w args ha hs
 obtain ⟨u, rfl, hu⟩ := ha.one
 obtain rfl : u = v := hu.raw_inv
 rcases hs.obj (.arr u 1 (l.map .str)) (by simp) with ⟨rfl, hn⟩ | ⟨b, off, cap, rc, el, fr, rfl, _⟩
 ·have hl : l = [] := by simpa using hn
  subst hl
  have hz0 : zs = [] := List.length_eq_zero_iff.1 hz
  subst hz0
  refine (h0 rfl I (.arr (.slice none 0 0) 1 [] :: F) w [.slice none 0 0] (VL.cons (.slice0 _ _ _) VL.nil) (by simpa using hs)).mono ?_
  rintro _ w' ⟨v, h, M', J, rfl, hle, ⟨rfl, rfl⟩, hv, hsat⟩
  exact ⟨v, _, [.arr (.slice none 0 0) 1 []], J, rfl, hle, ⟨rfl, rfl⟩, hv, by simpa using hsat⟩
 ·rw [List.length_map] at hs ⊢
  obtain ⟨g1, g2, g3, g4⟩ := holds_row hs
  refine (h1 b off cap w g1 g2 g3).mono ?_
  rintro _ w' ⟨rfl, n, os, rfl⟩
  refine ⟨_, .tup [], _, I, rfl, .refl I, ⟨rfl, rfl⟩, .tup (by simp) (fun j c v h _ => by simp at h), ?_⟩
  have := sat_row (n' := l.length) (k := n) (os := os) hs hz (Nat.le_refl _)
  rw [← hz, List.take_length, hz] at this
  exact this
/-- The same, where the slice comes back, cut. -/
theorem con_rowc [Tracks] {P : Program} {f : FuncId} {l zs : List (List UInt8)} {v : Value} (hz : zs.length ≤ l.length)
 (h1 : ∀ (b off cap : Nat) (w : World), Holds encStr w b off l.toArray → b < w.heap.size → l.length ≤ cap → Calls P f #[.slice (some ⟨b, off, none⟩) l.length cap] w fun e w' => e = .returned (.slice (some ⟨b, off, none⟩) zs.length cap) ∧ ∃ n, w' = putRow encStr (Sort.ahead w n) b off (zs ++ List.replicate (l.length - zs.length) []).toArray)
 (h0 : l = [] → ∀ w, Calls P f #[.slice none 0 0] w fun e w' => e = .returned (.slice none 0 0) ∧ w' = w) : Con P f [.raw v] [.arr v 1 (l.map .str)] fun x M' => ∃ u, x = .raw u ∧ M' = [.arr u 1 (zs.map .str)] := by
 intro I F w args ha hs
 obtain ⟨u, rfl, hu⟩ := ha.one
 obtain rfl : u = v := hu.raw_inv
 rcases hs.obj (.arr u 1 (l.map .str)) (by simp) with ⟨rfl, hn⟩ | ⟨b, off, cap, rc, el, fr, rfl, _⟩
 ·have hl : l = [] := by simpa using hn
  subst hl
  have hz0 : zs = [] := List.length_eq_zero_iff.1 (by simpa using hz)
  subst hz0
  refine (h0 rfl w).mono ?_
  rintro _ w' ⟨rfl, rfl⟩
  exact ⟨_, .raw (.slice none 0 0), _, I, rfl, .refl I, ⟨_, rfl, rfl⟩, .raw _ rfl, hs⟩
 ·rw [List.length_map] at hs ⊢
  obtain ⟨g1, g2, g3, g4⟩ := holds_row hs
  refine (h1 b off cap w g1 g2 g3).mono ?_
  rintro _ w' ⟨rfl, n, rfl⟩
  refine ⟨_, .raw (.slice (some ⟨b, off, none⟩) zs.length cap), _, I, rfl, .refl I, ⟨_, rfl, rfl⟩, .raw _ rfl, ?_⟩
  have := sat_row (zs := zs ++ List.replicate (l.length - zs.length) []) (n' := zs.length) (k := n) (os := #[]) hs (by simp; omega) hz
  rw [List.take_left' rfl, grow_empty] at this
  exact this
end Go.HL
end
section
namespace Go.HL
theorem compactUpTo_le {α : Type} [BEq α] [LawfulBEq α] [Inhabited α] [DecidableEq α] (d : Array α) (m : Nat) : (Lib.compactUpTo d m).length ≤ m := by
 unfold Lib.compactUpTo
 rw [List.length_map]
 have := List.length_filter_le (Lib.keeps d) (List.range m)
 simpa using this
theorem compact_le (l : List Str) : (Lib.compact l).length ≤ l.length := compactUpTo_le _ _
end Go.HL
end
section
namespace Go.Proofs.YtmgbigiegjlieaaGreatDoor
open Go.HL
set_option maxRecDepth 100000
set_option linter.unusedVariables false
set_option linter.unusedSimpArgs false
/-- math/bits.Len64 -/
theorem c_math_bits_Len64 [Tracks]   : ConP Tryz.prog 163 [.int .u64 0] (.int .i64 0) := by
 refine Con.of_body Tryz.func163 rfl Tryz.ntmps163 rfl rfl ?_
 refine hw_reg ?_
 refine dp rfl (pop_assign rfl) ?_
 refine dn ?_
 refine hw_seq ?_
 refine hw_reg ?_
 refine dp rfl (pop_move rfl) ?_
 refine dp rfl (pop_geq rfl rfl) ?_
 refine dn ?_
 refine hw_cond_f rfl ?_
 refine hw_skip ?_
 refine seqQ_n ?_
 refine hw_seq ?_
 refine hw_reg ?_
 refine dp rfl (pop_move rfl) ?_
 refine dp rfl (pop_geq rfl rfl) ?_
 refine dn ?_
 refine hw_cond_f rfl ?_
 refine hw_skip ?_
 refine seqQ_n ?_
 refine hw_seq ?_
 refine hw_reg ?_
 refine dp rfl (pop_move rfl) ?_
 refine dp rfl (pop_geq rfl rfl) ?_
 refine dn ?_
 refine hw_cond_f rfl ?_
 refine hw_skip ?_
 refine seqQ_n ?_
 refine hw_reg ?_
 refine dp rfl (pop_move rfl) ?_
 refine dp rfl (pop_move rfl) ?_
 refine dp rfl (pop_conv ty179 ty5 rfl) ?_
 refine dp rfl (pop_indexs (j := 0) (b := 0) ty9 rfl rfl rfl rfl) ?_
 refine dp rfl (pop_conv ty5 ty3 rfl) ?_
 refine dp rfl (pop_add64 rfl rfl (by decide) (by decide)) ?_
 refine dp rfl (pop_assign rfl) ?_
 refine dn ?_
 refine hw_ret ?_
 refine ret_p rfl ?_
 rfl

/-- math/bits.Len -/
theorem c_math_bits_Len [Tracks]   : ConP Tryz.prog 161 [.int .u64 0] (.int .i64 0) := by
 refine Con.of_body Tryz.func161 rfl Tryz.ntmps161 rfl rfl ?_
 refine hw_reg ?_
 refine dp rfl (pop_assign rfl) ?_
 refine dn ?_
 refine hw_seq ?_
 refine hw_cond_f rfl ?_
 refine hw_skip ?_
 refine seqQ_n ?_
 refine hw_reg ?_
 refine dp rfl (pop_move rfl) ?_
 refine dp rfl (pop_call ca163 rfl (WeakL.refl _) c_math_bits_Len64) ?_
 refine dp rfl (pop_assign rfl) ?_
 refine dn ?_
 refine hw_ret ?_
 refine ret_p rfl ?_
 rfl

/-- slices.insertionSortOrdered[string] -/
theorem c_slices_insertionSortOrdered_string [Tracks]   : ConP Tryz.prog 188 [eSs [], .int .i64 0, .int .i64 0] (.tup []) := by
 refine Con.of_body Tryz.func188 rfl Tryz.ntmps188 rfl rfl ?_
 refine hw_reg ?_
 refine dp rfl (pop_move rfl) ?_
 refine dp rfl (pop_add64 rfl rfl (by omega) (by omega)) ?_
 refine dp rfl (pop_assign rfl) ?_
 refine dn ?_
 refine hw_block ?_
 refine hw_loopw [6, 7, 10, 11, 12, 13, 14, 15, 16, 17, 18, 19, 20, 21, 22, 23, 24, 25, 26, 27, 28, 29, 30, 31, 32, 33, 34, 35, 36, 37, 38, 39, 40, 41, 42, 43, 44, 45, 46, 47, 48] (fun (u : Unit) => [(6, .int .i64 1)]) (fun (u : Unit) => []) (fun (u : Unit) => True) (fun (u : Unit) => 0) (()) ?_ ?_ ?_ ?_
 ·trivial
 ·exact ⟨rfl, trivial⟩
 ·exact List.Perm.refl _
 ·intro u hu
  refine hw_seq ?_
  refine hw_reg ?_
  refine dp rfl (pop_move rfl) ?_
  refine dp rfl (pop_move rfl) ?_
  refine dp rfl (pop_lss rfl rfl) ?_
  refine dn ?_
  refine hw_cond_f rfl ?_
  refine hw_exit ?_
  refine seqQ_x ?_
  refine loopQ_x ?_
  refine blockQ_eq ?_
  refine ret_n rfl ?_
  rfl

/-- slices.pdqsortOrdered[string] -/
theorem c_slices_pdqsortOrdered_string [Tracks]   : ConP Tryz.prog 160 [eSs [], .int .i64 0, .int .i64 0, .int .i64 0] (.tup []) := by
 refine Con.of_body Tryz.func160 rfl Tryz.ntmps160 rfl rfl ?_
 refine hw_reg ?_
 refine dp rfl (pop_assign rfl) ?_
 refine dn ?_
 refine hw_reg ?_
 refine dp rfl (pop_assign rfl) ?_
 refine dn ?_
 refine hw_block ?_
 refine hw_loopw (1 :: 2 :: 3 :: 8 :: 9 :: 10 :: 11 :: 12 :: 13 :: 14 :: 15 :: 16 :: 17 :: 18 :: 19 :: 20 :: 21 :: 22 :: 23 :: 24 :: 25 :: 26 :: 27 :: 28 :: 29 :: 30 :: 31 :: 32 :: 33 :: 34 :: 35 :: 36 :: 37 :: 38 :: 39 :: 40 :: 41 :: 42 :: 43 :: 44 :: 45 :: 46 :: 47 :: 48 :: 49 :: 50 :: 51 :: 52 :: 53 :: 54 :: 55 :: 56 :: 57 :: 58 :: 59 :: 60 :: 61 :: 62 :: 63 :: 64 :: 65 :: 66 :: 67 :: 68 :: 69 :: 70 :: 71 :: 72 :: 73 :: 74 :: 75 :: 76 :: 77 :: 78 :: 79 :: 80 :: 81 :: 82 :: 83 :: 84 :: 85 :: 86 :: 87 :: 88 :: 89 :: 90 :: 91 :: 92 :: 93 :: 94 :: 95 :: 96 :: 97 :: 98 :: 99 :: 100 :: 101 :: 102 :: 103 :: 104 :: 105 :: 106 :: 107 :: 108 :: 109 :: 110 :: 111 :: 112 :: 113 :: 114 :: 115 :: 116 :: 117 :: 118 :: 119 :: 120 :: 121 :: 122 :: 123 :: 124 :: 125 :: 126 :: 127 :: 128 :: 129 :: 130 :: 131 :: 132 :: 133 :: []) (fun (u : Unit) => [(1, .int .i64 0), (2, .int .i64 0)]) (fun (u : Unit) => []) (fun (u : Unit) => True) (fun (u : Unit) => 0) (()) ?_ ?_ ?_ ?_
 ·trivial
 ·exact ⟨rfl, rfl, trivial⟩
 ·exact List.Perm.refl _
 ·intro u hu
  refine hw_block ?_
  refine hw_reg ?_
  refine dp rfl (pop_move rfl) ?_
  refine dp rfl (pop_move rfl) ?_
  refine dp rfl (pop_sub64 rfl rfl (by omega) (by omega)) ?_
  refine dp rfl (pop_assign rfl) ?_
  refine dn ?_
  refine hw_seq ?_
  refine hw_reg ?_
  refine dp rfl (pop_move rfl) ?_
  refine dp rfl (pop_leq rfl rfl) ?_
  refine dn ?_
  refine hw_cond_t rfl ?_
  refine hw_reg ?_
  refine dp rfl (pop_move rfl) ?_
  refine dp rfl (pop_move rfl) ?_
  refine dp rfl (pop_move rfl) ?_
  refine dp rfl (pop_call ca188 rfl (WeakL.refl _) c_slices_insertionSortOrdered_string) ?_
  refine dn ?_
  refine hw_ret ?_
  refine ret_p rfl ?_
  rfl

/-- slices.Sort[[]string,string] -/
theorem c_slices_Sort_nil [Tracks]   : ConP Tryz.prog 129 [eSs []] (.tup []) := by
 refine Con.of_body Tryz.func129 rfl Tryz.ntmps129 rfl rfl ?_
 refine hw_reg ?_
 refine dp rfl (pop_move rfl) ?_
 refine dp rfl (pop_lenm ty26 rfl) ?_
 refine dp rfl (pop_assign rfl) ?_
 refine dn ?_
 refine hw_reg1 ?_
 refine dp rfl (pop_move rfl) ?_
 refine dp rfl (pop_move rfl) ?_
 refine dp rfl (pop_move rfl) ?_
 refine dp rfl (pop_conv ty3 ty208 rfl) ?_
 refine dp rfl (pop_call ca161 rfl (WeakL.refl _) c_math_bits_Len) ?_
 refine dp rfl (pop_call ca160 rfl (WeakL.refl _) c_slices_pdqsortOrdered_string) ?_
 refine dn ?_
 refine ret_n rfl ?_
 rfl

/-- slices.Sort: the slice holds the same strings in order -/
theorem c_slices_Sort [Tracks] {l : List Str} {v : Value} (hl : l.length ≤ 1000000) : Con Tryz.prog 129 [.raw v] [.arr v 1 (l.map .str)] fun x M' => x = .tup [] ∧ M' = [.arr v 1 ((sortS l).map .str)] :=
 con_row (sortS_len l) (fun b off cap w h1 h2 _ => Any.slices_Sort_string Tryz.lays190 b off cap l w h1 h2 (by omega)) (fun _ => c_slices_Sort_nil)

/-- slices.Compact: the slice is cut to the strings that differ from the one before -/
theorem c_slices_Compact [Tracks] {l : List Str} {v : Value} (hl : l.length ≤ 1000000) : Con Tryz.prog 200 [.raw v] [.arr v 1 (l.map .str)] fun x M' => ∃ u, x = .raw u ∧ M' = [.arr u 1 ((Lib.compact l).map .str)] :=
 con_rowc (compact_le l) (fun b off cap w h1 h2 h3 => Any.slices_Compact_string Tryz.lays194 b off cap l w h1 (by omega) h3) (fun _ w => Any.slices_Compact_string_empty Tryz.lays194 none 0 w)

/-- benchwarmer/benchref1.once -/
theorem c_benchref1_once [Tracks] {l : List Str} (hl : l.length ≤ 1000000) : ConA Tryz.prog 167 [eSs l] 1 ((Lib.compact (sortS l)).map .str) := by
 refine Con.of_body Tryz.func167 rfl Tryz.ntmps167 rfl rfl ?_
 refine hw_reg ?_
 refine dp rfl (pop_assign rfl) ?_
 refine dn ?_
 refine hw_reg ?_
 refine dp rfl (pop_move rfl) ?_
 refine de rfl (eop_calla ca23 rfl (WeakL.refl _) (c_slices_Clone_string_string (by assumption)) fun v4 => ?_)
 refine dp rfl (pop_assign rfl) ?_
 refine dn ?_
 refine hw_reg ?_
 refine dp rfl (pop_move rfl) ?_
 refine de rfl (eop_callf (M1 := [_]) (R := []) ca129 rfl (WeakL.refl _) (List.Perm.refl _) (c_slices_Sort hl) ?_)
 rintro _ _ ⟨rfl, rfl⟩
 refine dn ?_
 refine hw_reg ?_
 refine dp rfl (pop_move rfl) ?_
 refine de rfl (eop_callf (M1 := [_]) (R := []) ca200 rfl (WeakL.refl _) (List.Perm.refl _) (c_slices_Compact (l := sortS l) (by rw [sortS_len]; exact hl)) ?_)
 rintro _ _ ⟨u8, rfl, rfl⟩
 refine dp rfl (pop_assign rfl) ?_
 refine dn ?_
 refine hw_ret ?_
 refine ret_a rfl ?_
 rfl

/-- benchwarmer/benchref1.twice -/
theorem c_benchref1_twice [Tracks] {l : List Str} (hl : l.length ≤ 1000000) : ConP Tryz.prog 136 [eSs l] (.bool (decide ((Lib.compact (sortS l)).length < l.length))) := by
 refine Con.of_body Tryz.func136 rfl Tryz.ntmps136 rfl rfl ?_
 refine hw_reg ?_
 refine dp rfl (pop_assign rfl) ?_
 refine dn ?_
 refine hw_reg ?_
 refine dp rfl (pop_move rfl) ?_
 refine de rfl (eop_calla ca167 rfl (WeakL.refl _) (c_benchref1_once (by assumption)) fun v4 => ?_)
 refine de rfl (eop_len (i := 0) ty26 rfl rfl ?_)
 rw [List.length_map]
 refine dp rfl (pop_move rfl) ?_
 refine dp rfl (pop_lenm ty26 rfl) ?_
 refine dp rfl (pop_lss rfl rfl) ?_
 refine dp rfl (pop_assign rfl) ?_
 refine dn ?_
 refine hw_ret ?_
 refine ret_g Ghost.drop rfl ⟨?_, rfl⟩
 show HVal.bool _ = _
 simp
end Go.Proofs.YtmgbigiegjlieaaGreatDoor
end
section
namespace Go.HL
open Op (bytesLess)
theorem cmpI_flip (a b : Int) : cmpI a b = -cmpI b a := by
 unfold cmpI; split <;> split <;> (try split) <;> omega
theorem cmpS_flip (a b : Str) : cmpS a b = -cmpS b a := by
 rw [cmpS_eq, cmpS_eq]
 rcases less_total a b with h | h | h
 ·have hne : a ≠ b := fun e => by subst e; rw [less_irrefl] at h; cases h
  simp [h, less_asymm h, hne.symm]
 ·subst h; simp [less_irrefl]
 ·have hne : a ≠ b := fun e => by subst e; rw [less_irrefl] at h; cases h
  simp [h, less_asymm h, hne]
theorem orI_flip (a b : Int) : orI [-a, -b] = -orI [a, b] := by
 by_cases h1 : a = 0 <;> by_cases h2 : b = 0 <;> simp [orI, h1, h2]
theorem ord_flip (a b c d : Int) (h1 : a = -b) (h2 : c = -d) : decide (0 ≤ orI [a, c]) = decide (orI [b, d] ≤ 0) := by
 subst h1 h2; rw [orI_flip, Bool.eq_iff_iff]; simp
theorem ord_is (a c : Str) (e f : Int) : decide (0 ≤ orI [cmpI e f, cmpS a c]) = decide (orI [cmpI f e, cmpS c a] ≤ 0) := ord_flip _ _ _ _ (cmpI_flip _ _) (cmpS_flip _ _)
theorem ord_si (a c : Str) (e f : Int) : decide (0 ≤ orI [cmpS a c, cmpI e f]) = decide (orI [cmpS c a, cmpI f e] ≤ 0) := ord_flip _ _ _ _ (cmpS_flip _ _) (cmpI_flip _ _)
def refSwaps (r : Room) (l : List Swap) : Int := if 600 < l.length then 2 else swapsGo r l 0 l
def isTwice (l : List Str) : Bool := decide ((Lib.compact (sortS l)).length < l.length)
def refKeepsGo (r : Room) (l : List Keep) : Nat → List Str → List Keep → Int
 | _, who, [] => if isTwice who then 6 else 0
 | k, who, x :: t => if !(r.Teams.contains x.Team) || !(r.Players.contains x.Player) then 8 else if out x.Round 1 r.Rounds then 1
   else if decide (0 < k) && decide (orI [cmpS x.Team (l.getD (k - 1) keep0).Team, cmpI x.Round (l.getD (k - 1) keep0).Round] ≤ 0) then 7
   else refKeepsGo r l (k + 1) (who ++ [x.Player]) t
def refKeeps (r : Room) (l : List Keep) : Int := if 600 < l.length then 2 else refKeepsGo r l 0 [] l
def draftFault (r : Room) (k : List Keep) (s : List Swap) : Int := if checkRoom r != 0 then checkRoom r else orI [refKeeps r k, refSwaps r s]
def refOpenFault (r : Room) (k : List Keep) (s : List Swap) : Int := if draftFault r k s != 0 then draftFault r k s else clashGo s k
def tfor (r : Room) (s : List Swap) : Nat → List Str → List Turn
 | _, [] => []
 | i, t :: l => ⟨((i / r.Teams.length : Nat) : Int) + 1, t, owner (((i / r.Teams.length : Nat) : Int) + 1) t s⟩ :: tfor r s (i + 1) l
theorem tfor_len (r : Room) (s : List Swap) : ∀ (i : Nat) (l : List Str), (tfor r s i l).length = l.length
 | _, [] => rfl
 | i, _ :: l => by simp [tfor, tfor_len r s (i + 1) l]
theorem tfor_app (r : Room) (s : List Swap) : ∀ (i : Nat) (a b : List Str), tfor r s i (a ++ b) = tfor r s i a ++ tfor r s (i + a.length) b
 | i, [], b => by simp [tfor]
 | i, x :: a, b => by
   have : i + 1 + a.length = i + (a.length + 1) := by omega
   simp [tfor, tfor_app r s (i + 1) a b, this]
theorem tfor_get (r : Room) (s : List Swap) : ∀ (l : List Str) (i j : Nat) (t : Str), l[j]? = some t → (tfor r s i l)[j]? = some ⟨(((i + j) / r.Teams.length : Nat) : Int) + 1, t, owner ((((i + j) / r.Teams.length : Nat) : Int) + 1) t s⟩
 | [], i, j, t, h => by simp at h
 | x :: l, i, 0, t, h => by simp at h; subst h; simp [tfor]
 | x :: l, i, j + 1, t, h => by
   have := tfor_get r s l (i + 1) j t (by simpa using h)
   have e : i + 1 + j = i + (j + 1) := by omega
   rw [e] at this
   simpa [tfor] using this
theorem tfor_round (r : Room) (s : List Swap) (n : Nat) : ∀ (l : List Str) (i : Nat), n * r.Teams.length ≤ i → i + l.length ≤ (n + 1) * r.Teams.length → tfor r s i l = l.map fun t => ⟨(n : Int) + 1, t, owner ((n : Int) + 1) t s⟩
 | [], i, _, _ => rfl
 | t :: l, i, h1, h2 => by
   simp only [List.length_cons] at h2
   have hd : i / r.Teams.length = n := by
    rw [Nat.succ_mul] at h2
    rw [Nat.div_eq_iff (by omega)]
    constructor <;> omega
   simp only [tfor, hd, List.map_cons, tfor_round r s n l (i + 1) (by omega) (by omega)]
theorem tfor_turns (r : Room) (s : List Swap) : ∀ n, tfor r s 0 (ownFrom r n) = turnsFrom r s n
 | 0 => rfl
 | n + 1 => by
   rw [ownFrom, tfor_app, tfor_turns r s n, turnsFrom, Nat.zero_add, ownFrom_len]
   congr 1
   have hl : (if backwards r.Way ((n : Int) + 1) then r.Teams.reverse else r.Teams).length = r.Teams.length := by split <;> simp
   rw [tfor_round r s n _ _ (Nat.le_refl _) (by rw [hl, Nat.succ_mul]; omega)]
   rfl
theorem ref_turns (r : Room) (s : List Swap) : tfor r s 0 (ownTurns r) = turns r s := tfor_turns r s _
theorem tdiv_nat (a b : Nat) : ((a : Int)).tdiv (b : Int) = ((a / b : Nat) : Int) := by
 simp [Int.ofNat_tdiv]
theorem take_map_snoc {α β : Type} (f : α → β) {l : List α} {k : Nat} {x : α} (h : l[k]? = some x) : (l.take (k + 1)).map f = (l.take k).map f ++ [f x] := by
 rw [List.take_add_one, h]; simp
end Go.HL
end
section
namespace Go.HL
variable {P : Program}
section
variable {P : Program} {e : Env} {dst : Option Tmp} {ty : TypeId} {pos : String} {af : Array Edge} {g : Option (Nat × Bool)} {M : List MObj} {K : HVal → List MObj → Prop}
theorem perm_erase {α : Type} : ∀ {l : List α} {i : Nat} {x : α}, l[i]? = some x → l.Perm (x :: l.eraseIdx i)
 | [], i, x, h => by simp at h
 | y :: l, 0, x, h => by simp at h; subst h; exact .refl _
 | y :: l, i + 1, x, h => by
   have := perm_erase (l := l) (i := i) (x := x) (by simpa using h)
   exact (this.cons y).trans (.swap _ _ _)
/-- A call on one of the owned objects. -/
theorem eop_callx [Tracks] {f : FuncId} {args : Array Operand} {ats : Array TypeId} {hs hs' : List HVal} {i : Nat} {m : MObj} {Q : HVal → List MObj → Prop} (hc : Callable P f) (ha : evalL e args.toList = some hs) (hw : WeakL hs hs') (hm : M[i]? = some m)
 (hp : Con P f hs' [m] Q) (hk : ∀ h M', Q h M' → K h (M' ++ M.eraseIdx i)) : EOp P e M ⟨dst, .call ⟨.value (.func f), args, ats⟩, ty, pos, af, g⟩ K :=
 eop_callf (M1 := [m]) hc ha hw (perm_erase hm) hp hk
/-- The length of an owned slice. -/
theorem eop_lenm [Tracks] {α : Type} {f : α → HVal} {x : Operand} {t el : TypeId} {size bytes : Nat} {zero : Value} {i : Nat} {v : Value} {sz : Nat} {es : List α} (hf : Fits P t (.slice el) size bytes zero) (hx : evalO e x = some (.raw v))
 (hm : M[i]? = some (.arr v sz (es.map f))) (hk : K (.int .i64 es.length) M) : EOp P e M ⟨dst, .call ⟨.builtin .len, #[x], #[t]⟩, ty, pos, af, g⟩ K := by
 refine eop_len hf hx hm ?_
 rw [List.length_map]; exact hk
/-- An element of an owned slice is loaded, whole or in part, through its address. -/
theorem eop_load_el [Tracks] {α : Type} {f : α → HVal} {x : Operand} {t : TypeId} {d : TD} {size bytes : Nat} {zero : Value} {i b off cap n sz j o : Nat} {es : List α} {y : α} (k : Nat) {h : HVal} (hf : Fits P t d size bytes zero)
 (hx : evalO e x = some (.raw (.pointer (some ⟨b, o, none⟩)))) (ho' : o = off + j * sz + k) (hm : M[i]? = some (.arr (.slice (some ⟨b, off, none⟩) n cap) sz (es.map f))) (hj : es[j]? = some y)
 (hd : d.isAgg = false) (hh : (hcells (f y))[k]? = some h) (hk : K h M) : EOp P e M ⟨dst, .load t x, ty, pos, af, g⟩ K :=
 eop_load_arr (j := j) (f := k) (y := f y) hf hx ho' hm (by rw [List.getElem?_map, hj]; rfl) (.inl ⟨hd, hh⟩) hk
end
section
variable {P : Program} {ops : Array Oper} {n : Nat} {K : Env → List MObj → Prop} {rest : List Oper} {e : Env} {M : List MObj} {d : Nat} {op : Op} {ty : TypeId} {pos : String} {af : Array Edge}
/-- An operation with an effect under a guard: what it brings about holds where it is not carried out as well. -/
theorem dgx [Tracks] {j : Nat} {want c : Bool} (Q : HVal → List MObj → Prop) (hd : Nat.blt d n = true) (hg : guardC ops e j want = some c) (hn : c = false → ∃ x, Q x M)
 (hp : c = true → ∃ e2, OpenTo e e2 ∧ EOp P e2 M ⟨some d, op, ty, pos, af, some (j, want)⟩ Q)
 (k : ∀ x M', Q x M' → Der P ops n K rest (upd e d (.opt c x)) M') : Der P ops n K (⟨some d, op, ty, pos, af, some (j, want)⟩ :: rest) e M :=
 ⟨fun t ht => by simp at ht; subst ht; exact blt_lt hd, c, hg, fun hc => by
  obtain ⟨e2, h1, h2⟩ := hp hc
  intro I F a w ho hs
  exact Oper.wp_noQ (fun _ _ ⟨v, x, M', J, h3, h4, h5, h7, h8⟩ => ⟨v, .opt c x, M', J, h3, h4, k x M' h5, .opt (fun _ => h7) (fun hf => by rw [hc] at hf; cases hf), h8⟩) (h2 I F a w (ho.open h1) hs),
  fun hc => by
   obtain ⟨x, hx⟩ := hn hc
   subst hc
   exact ⟨x, k x M hx⟩⟩
end
def tailOff (cap off sz : Nat) : Nat := if cap = 1 then off else off + sz
theorem Sat.arr_tail [Tracks] {I : Imm} {F : List MObj} {w : World} {b off cap sz : Nat} {x : HVal} {es : List HVal} (h : Sat P I (.arr (.slice (some ⟨b, off, none⟩) (es.length + 1) cap) sz (x :: es) :: F) w) :
 Sat P I (.arr (.slice (some ⟨b, tailOff cap off sz, none⟩) es.length (cap - 1)) sz es :: F) w := by
 obtain ⟨_, rc, el, fr, h2, h3, h4, h5, h6, h7⟩ := arr_some h
 simp only [List.length_cons] at h5
 refine h.change (m' := .arr (.slice (some ⟨b, tailOff cap off sz, none⟩) es.length (cap - 1)) sz es) (fun _ _ _ => rfl) (fun c hc => .inl hc) (by simp [MObj.blocks]) ?_ rfl rfl rfl
 have hcs : cap * sz = (cap - 1) * sz + sz := by
  conv => lhs; rw [show cap = cap - 1 + 1 by omega]
  rw [Nat.succ_mul]
 refine .inr ⟨b, tailOff cap off sz, cap - 1, rc, el, fr, rfl, h2, h3, fun e he => h4 e (List.mem_cons_of_mem _ he), by omega, ?_, ?_⟩
 ·unfold tailOff; split
  ·omega
  ·omega
 ·intro i j e c v a1 a2 a3
  have hi := lt_of_get a1
  have ht : tailOff cap off sz = off + sz := by unfold tailOff; rw [if_neg (by omega)]
  rw [ht] at a3
  refine h7 (i + 1) j e c v (by simpa using a1) a2 ?_
  rw [Nat.succ_mul]
  have e1 : off + (i * sz + sz) + j = off + sz + i * sz + j := by omega
  rw [e1]; exact a3
theorem Ghost.tail [Tracks] {e : Env} {M : List MObj} {b off cap sz : Nat} {x : HVal} {es : List HVal} : Ghost e (.arr (.slice (some ⟨b, off, none⟩) (es.length + 1) cap) sz (x :: es) :: M) e (.arr (.slice (some ⟨b, tailOff cap off sz, none⟩) es.length (cap - 1)) sz es :: M) :=
 fun _ I F tmps w h1 h2 => ⟨I, .refl I, h1, h2.arr_tail⟩
section
variable {P : Program} {e : Env} {dst : Option Tmp} {ty : TypeId} {pos : String} {af : Array Edge} {g : Option (Nat × Bool)}
/-- The tail of a slice whose header is known. -/
theorem pop_tail [Tracks] {x : Operand} {t el : TypeId} {size bytes sz b2 : Nat} {zero z2 : Value} {d : TD} {b off n cap : Nat}
 (hf : Fits P t (.slice el) size bytes zero) (hel : Fits P el d sz b2 z2) (hx : evalO e x = some (.raw (.slice (some ⟨b, off, none⟩) (n + 1) cap))) (hc : n + 1 ≤ cap) :
 POp P e ⟨dst, .slice t x (some (.const (.int .i64 1))) none none, ty, pos, af, g⟩ (.raw (.slice (some ⟨b, tailOff cap off sz, none⟩) n (cap - 1))) :=
 POp.of_val fun I a w ho => by
  have h1 := (ho.one (x := x) (by simp [Op.operands]) hx).raw_inv
  have hb : (Instr.sliceBounds true (n + 1) cap (Option.map a.eval (some (.const (.int .i64 1)))) (Option.map a.eval none) none).run P w = .ok (1, n + 1, cap) w :=
   run_bounds (P := P) (e := e) (lo := some (.const (.int .i64 1))) (hi := none) (l := 1) (h := n + 1) (len := n + 1) (cap := cap) ho (by intro y hy; simp [Op.operands, hy]) (by intro y hy; simp [Op.operands, hy]) ⟨_, _, rfl, rfl⟩ rfl (by omega) (Nat.le_refl _) hc true w
  refine ⟨_, ?_, .raw _ rfl⟩
  simp only [Option.map_some, Option.map_none] at hb
  simp [execOp, Instr.sliceAt, run_underlying hf.slice, h1, Instr.slice, hb, hel.run_sizeOf, tailOff]
  try (split <;> simp_all [addr_add])
end
end Go.HL
end
section
namespace Go.HL
abbrev pAt (b : Nat) : HVal := .raw (.pointer (some ⟨b, 0, none⟩))
/-- A stream of numbers of which a have been drawn. -/
abbrev St (b : Nat) (l : List Int) (a : Nat) : MObj := .cells b [.slice 1 (l.map (.int .i64)), .int .i64 (a : Int)]
def below (x n : Int) : Int := if n < 1 then 0 else if x.tmod n < 0 then x.tmod n + n else x.tmod n
theorem below_nat (x n : Int) : ∃ y : Nat, below x n = (y : Int) ∧ (y : Int) < max n 1 := by
 have h : 0 ≤ below x n ∧ below x n < max n 1 := by
  unfold below
  split
  ·omega
  ·have h1 := Int.tmod_lt_of_pos x (show 0 < n by omega)
   have h2 : -n < x.tmod n := by
    have := Int.neg_lt_tmod_of_pos' x n (by omega)
    exact this
   split <;> omega
 exact ⟨(below x n).toNat, by omega, by omega⟩
where
 Int.neg_lt_tmod_of_pos' (x n : Int) (h : 0 < n) : -n < x.tmod n := by
  rcases Int.le_total 0 x with hx | hx
  ·have := Int.tmod_nonneg n hx; omega
  ·have e : x.tmod n = -((-x).tmod n) := by rw [Int.neg_tmod]; simp
   have := Int.tmod_lt_of_pos (-x) h
   omega
theorem getI {L : List Int} {y : Nat} (h : (y : Int) < max (L.length : Int) 1) (h0 : 0 < L.length) : ∃ z, L[y]? = some z ∧ z ∈ L :=
 ⟨L[y]'(by omega), List.getElem?_eq_getElem _, List.getElem_mem _⟩
theorem getS {L : List Str} {y : Nat} (h : (y : Int) < max (L.length : Int) 1) (h0 : 0 < L.length) : ∃ z, L[y]? = some z ∧ z ∈ L :=
 ⟨L[y]'(by omega), List.getElem?_eq_getElem _, List.getElem_mem _⟩
theorem tmod_nat (a b : Nat) : ((a : Int)).tmod (b : Int) = ((a % b : Nat) : Int) := by
 exact (Int.ofNat_tmod a b).symm
end Go.HL
end
section
namespace Go.Proofs.YtmgbigiegjlieaaGreatDoor
open Go.HL
set_option maxRecDepth 100000
set_option linter.unusedVariables false
set_option linter.unusedSimpArgs false
/-- benchwarmer/benchmake.Below -/
theorem c_benchmake_Below [Tracks] {x n : Int} (hn : n ≤ 4000000000) : ConP Tryz.prog 49 [.int .i64 x, .int .i64 n] (.int .i64 (below x n)) := by
 refine Con.of_body Tryz.func49 rfl Tryz.ntmps49 rfl rfl ?_
 refine hw_reg ?_
 refine dp rfl (pop_assign rfl) ?_
 refine dn ?_
 refine hw_seq ?_
 refine hw_reg ?_
 refine dp rfl (pop_move rfl) ?_
 refine dp rfl (pop_lss rfl rfl) ?_
 refine dn ?_
 refine hw_cond rfl (fun h1 => ?_) (fun h2 => ?_)
 ·try simp at h1
  refine hw_reg ?_
  refine dp rfl (pop_assign rfl) ?_
  refine dn ?_
  refine hw_ret ?_
  refine ret_p rfl ?_
  show HVal.int .i64 _ = _
  simp_all [below]
  try omega
 ·try simp at h2
  refine hw_skip ?_
  refine seqQ_n ?_
  refine hw_reg ?_
  refine dp rfl (pop_move rfl) ?_
  refine dp rfl (pop_move rfl) ?_
  refine dp rfl (pop_rem rfl rfl (by omega)) ?_
  refine dp rfl (pop_assign rfl) ?_
  refine dn ?_
  refine hw_seq ?_
  refine hw_reg ?_
  refine dp rfl (pop_move rfl) ?_
  refine dp rfl (pop_lss rfl rfl) ?_
  refine dn ?_
  refine hw_cond rfl (fun h3 => ?_) (fun h4 => ?_)
  ·try simp at h3
   refine hw_reg1 ?_
   refine dp rfl (pop_move rfl) ?_
   refine dp rfl (pop_move rfl) ?_
   have hm := Int.tmod_lt_of_pos x (show 0 < n by omega)
   obtain ⟨y, hy1, hy2⟩ := below_nat x n
   have hb : below x n = x.tmod n + n := by unfold below; rw [if_neg (by omega), if_pos (by omega)]
   refine dp rfl (pop_add64 rfl rfl (by omega) (by omega)) ?_
   refine dp rfl (pop_assign rfl) ?_
   refine dn ?_
   refine seqQ_n ?_
   refine hw_reg ?_
   refine dp rfl (pop_move rfl) ?_
   refine dp rfl (pop_assign rfl) ?_
   refine dn ?_
   refine hw_ret ?_
   refine ret_p rfl ?_
   show HVal.int .i64 _ = _
   simp_all [below]
   try omega
  ·try simp at h4
   refine hw_skip ?_
   refine seqQ_n ?_
   refine hw_reg ?_
   refine dp rfl (pop_move rfl) ?_
   refine dp rfl (pop_assign rfl) ?_
   refine dn ?_
   refine hw_ret ?_
   refine ret_p rfl ?_
   show HVal.int .i64 _ = _
   simp_all [below]
   try omega

/-- (*benchwarmer/benchmake.Stream).Next -/
theorem c_benchmake_Stream_Next [Tracks] {b : Nat} {l : List Int} {a : Nat} {n : Int} (ha : a ≤ 1000000) (hn : n ≤ 4000000000) : Con Tryz.prog 22 [pAt b, .int .i64 n] [St b l a] (fun x M' => ∃ y : Nat, x = .int .i64 (y : Int) ∧ (y : Int) < max n 1 ∧ M' = [St b l (a + 1)]) := by
 refine Con.of_body Tryz.func22 rfl Tryz.ntmps22 rfl rfl ?_
 refine hw_reg ?_
 refine dp rfl (pop_assign rfl) ?_
 refine dn ?_
 refine hw_reg ?_
 refine dp rfl (pop_move rfl) ?_
 refine dp rfl ((pop_nilCheck_raw rfl)) ?_
 refine dp rfl (pop_fieldAddr_raw ty25 rfl ty3 (by decide) rfl) ?_
 refine de rfl (eop_load (i := 0) ty3 rfl rfl (.inl ⟨rfl, rfl⟩) ?_)
 refine dp rfl (pop_add64 rfl rfl (by omega) (by omega)) ?_
 refine dp rfl ((pop_nilCheck_raw rfl)) ?_
 refine dp rfl (pop_fieldAddr_raw ty25 rfl ty3 (by decide) rfl) ?_
 refine de0 (eop_store (i := 0) ty3 rfl rfl rfl rfl rfl (Nat.le_of_ble_eq_true rfl) ?_)
 refine dn ?_
 refine hw_seq ?_
 refine hw_reg ?_
 refine dp rfl (pop_move rfl) ?_
 refine dp rfl ((pop_nilCheck_raw rfl)) ?_
 refine dp rfl (pop_fieldAddr_raw ty25 rfl ty22 (by decide) rfl) ?_
 refine de rfl (eop_load (i := 0) ty22 rfl rfl (.inl ⟨rfl, rfl⟩) ?_)
 refine dp rfl (pop_lenm ty22 rfl) ?_
 refine dp rfl (pop_eql rfl rfl) ?_
 refine dn ?_
 refine hw_cond rfl (fun h1 => ?_) (fun h2 => ?_)
 ·try simp at h1
  refine hw_reg ?_
  refine dp rfl (pop_move rfl) ?_
  refine dp rfl ((pop_nilCheck_raw rfl)) ?_
  refine dp rfl (pop_fieldAddr_raw ty25 rfl ty3 (by decide) rfl) ?_
  refine de rfl (eop_load (i := 0) ty3 rfl rfl (.inl ⟨rfl, rfl⟩) ?_)
  refine dp rfl (pop_mul rfl rfl) ?_
  refine dp rfl (pop_move rfl) ?_
  refine dp rfl (pop_call ca49 rfl (WeakL.refl _) (c_benchmake_Below (by assumption))) ?_
  refine dp rfl (pop_assign rfl) ?_
  refine dn ?_
  refine hw_ret ?_
  refine ret_q rfl ?_
  obtain ⟨y, h1, h2⟩ := below_nat _ n
  exact ⟨y, congrArg _ h1, h2, rfl⟩
 ·try simp at h2
  refine hw_skip ?_
  refine seqQ_n ?_
  have hl0 : 0 < l.length := List.length_pos_iff.2 (by simpa using h2)
  refine hw_draw (fun M => ∃ i : Nat, M[i]? = some (St b l (a + 1))) [3, 8] mixed ?_
  refine ahp 0 rfl rfl (by kernel_rfl) (by kernel_rfl) (pop_move rfl) ?_
  refine ahp 1 rfl rfl (by kernel_rfl) (by kernel_rfl) ((pop_nilCheck_raw rfl)) ?_
  refine ahp 2 rfl rfl (by kernel_rfl) (by kernel_rfl) (pop_fieldAddr_raw ty25 rfl ty3 (by decide) rfl) ?_
  refine ahl 3 rfl rfl (by kernel_rfl) (by kernel_rfl) (by simp) (⟨0, rfl⟩) (fun M hM => by obtain ⟨i, hi⟩ := hM; exact eop_load (i := i) ty3 rfl hi (.inl ⟨rfl, rfl⟩) ⟨rfl, rfl⟩) ?_
  refine ahp 4 rfl rfl (by kernel_rfl) (by kernel_rfl) (pop_sub64 rfl rfl (by omega) (by omega)) ?_
  refine ahp 5 rfl rfl (by kernel_rfl) (by kernel_rfl) (pop_move rfl) ?_
  refine ahp 6 rfl rfl (by kernel_rfl) (by kernel_rfl) ((pop_nilCheck_raw rfl)) ?_
  refine ahp 7 rfl rfl (by kernel_rfl) (by kernel_rfl) (pop_fieldAddr_raw ty25 rfl ty22 (by decide) rfl) ?_
  refine ahl 8 rfl rfl (by kernel_rfl) (by kernel_rfl) (by simp) (⟨0, rfl⟩) (fun M hM => by obtain ⟨i, hi⟩ := hM; exact eop_load (i := i) ty22 rfl hi (.inl ⟨rfl, rfl⟩) ⟨rfl, rfl⟩) ?_
  refine ahp 9 rfl rfl (by kernel_rfl) (by kernel_rfl) (pop_lenm ty22 rfl) ?_
  refine ahp 10 rfl rfl (by kernel_rfl) (by kernel_rfl) (pop_eq (h' := .int .i64 ((a % l.length : Nat) : Int)) (pop_rem rfl rfl (by omega)) (by show HVal.int .i64 (((a : Int) + 1 - 1).tmod _) = _; rw [show ((a : Int) + 1 - 1) = (a : Int) by omega]; exact congrArg _ (tmod_nat _ _))) ?_
  refine ahp 11 rfl rfl (by kernel_rfl) (by kernel_rfl) (pop_assign rfl) ?_
  refine ahz (by kernel_rfl) ?_
  refine hw_draw (fun M => ∃ i : Nat, M[i]? = some (St b l (a + 1))) [3, 8] mixed ?_
  refine ahp 0 rfl rfl (by kernel_rfl) (by kernel_rfl) (pop_move rfl) ?_
  refine ahp 1 rfl rfl (by kernel_rfl) (by kernel_rfl) ((pop_nilCheck_raw rfl)) ?_
  refine ahp 2 rfl rfl (by kernel_rfl) (by kernel_rfl) (pop_fieldAddr_raw ty25 rfl ty3 (by decide) rfl) ?_
  refine ahl 3 rfl rfl (by kernel_rfl) (by kernel_rfl) (by simp) (⟨0, rfl⟩) (fun M hM => by obtain ⟨i, hi⟩ := hM; exact eop_load (i := i) ty3 rfl hi (.inl ⟨rfl, rfl⟩) ⟨rfl, rfl⟩) ?_
  refine ahp 4 rfl rfl (by kernel_rfl) (by kernel_rfl) (pop_sub64 rfl rfl (by omega) (by omega)) ?_
  refine ahp 5 rfl rfl (by kernel_rfl) (by kernel_rfl) (pop_move rfl) ?_
  refine ahp 6 rfl rfl (by kernel_rfl) (by kernel_rfl) ((pop_nilCheck_raw rfl)) ?_
  refine ahp 7 rfl rfl (by kernel_rfl) (by kernel_rfl) (pop_fieldAddr_raw ty25 rfl ty22 (by decide) rfl) ?_
  refine ahl 8 rfl rfl (by kernel_rfl) (by kernel_rfl) (by simp) (⟨0, rfl⟩) (fun M hM => by obtain ⟨i, hi⟩ := hM; exact eop_load (i := i) ty22 rfl hi (.inl ⟨rfl, rfl⟩) ⟨rfl, rfl⟩) ?_
  refine ahp 9 rfl rfl (by kernel_rfl) (by kernel_rfl) (pop_lenm ty22 rfl) ?_
  refine ahp 10 rfl rfl (by kernel_rfl) (by kernel_rfl) (pop_quo rfl rfl (by omega)) ?_
  refine ahp 11 rfl rfl (by kernel_rfl) (by kernel_rfl) (pop_assign rfl) ?_
  refine ahz (by kernel_rfl) ?_
  refine hw_reg ?_
  refine dp rfl (pop_move rfl) ?_
  refine dp rfl ((pop_nilCheck_raw rfl)) ?_
  refine dp rfl (pop_fieldAddr_raw ty25 rfl ty22 (by decide) rfl) ?_
  refine de rfl (eop_load (i := 0) ty22 rfl rfl (.inl ⟨rfl, rfl⟩) ?_)
  refine dp rfl (pop_move rfl) ?_
  refine dp rfl (pop_idx (j := a % l.length) (a := l[a % l.length]'(Nat.mod_lt _ (by omega))) ty22 ty3 rfl rfl rfl (List.getElem?_eq_getElem _)) ?_
  refine dp rfl (pop_load ty3 rfl rfl rfl) ?_
  refine dp rfl (pop_call ca49 rfl (WeakL.refl _) (c_benchmake_Below (by omega))) ?_
  refine dp rfl (pop_move rfl) ?_
  refine dp rfl (pop_move rfl) ?_
  refine dp rfl (pop_add rfl rfl) ?_
  refine dp rfl (pop_mul rfl rfl) ?_
  refine dp rfl (pop_add rfl rfl) ?_
  refine dp rfl (pop_move rfl) ?_
  refine dp rfl (pop_call ca49 rfl (WeakL.refl _) (c_benchmake_Below (by assumption))) ?_
  refine dp rfl (pop_assign rfl) ?_
  refine dn ?_
  refine hw_ret ?_
  refine ret_q rfl ?_
  obtain ⟨y, h1, h2⟩ := below_nat _ n
  exact ⟨y, congrArg _ h1, h2, rfl⟩

/-- (*benchwarmer/benchmake.Stream).Range -/
theorem c_benchmake_Stream_Range [Tracks] {b : Nat} {l : List Int} {a : Nat} {lo hi : Int} (ha : a ≤ 1000000) (hlh : lo ≤ hi) (h0 : -1000000000 ≤ lo) (h1 : hi ≤ 1000000000) : Con Tryz.prog 19 [pAt b, .int .i64 lo, .int .i64 hi] [St b l a] (fun x M' => ∃ y : Int, x = .int .i64 y ∧ (lo ≤ y ∧ y ≤ hi) ∧ M' = [St b l (a + 1)]) := by
 refine Con.of_body Tryz.func19 rfl Tryz.ntmps19 rfl rfl ?_
 refine hw_reg ?_
 refine dp rfl (pop_assign rfl) ?_
 refine dn ?_
 refine hw_seq ?_
 refine hw_reg ?_
 refine dp rfl (pop_move rfl) ?_
 refine dp rfl (pop_move rfl) ?_
 refine dp rfl (pop_lss rfl rfl) ?_
 refine dn ?_
 refine hw_cond rfl (fun h1 => ?_) (fun h1 => ?_)
 ·exfalso
  try simp at h1
  omega
 ·try simp at h1
  refine hw_skip ?_
  refine seqQ_n ?_
  refine hw_reg ?_
  refine dp rfl (pop_move rfl) ?_
  refine dp rfl (pop_move rfl) ?_
  refine dp rfl (pop_move rfl) ?_
  refine dp rfl (pop_move rfl) ?_
  refine dp rfl (pop_sub64 rfl rfl (by omega) (by omega)) ?_
  refine dp rfl (pop_add64 rfl rfl (by omega) (by omega)) ?_
  refine de rfl (eop_callx (i := 0) ca22 rfl (WeakL.refl _) rfl (c_benchmake_Stream_Next (by assumption) (by omega)) ?_)
  rintro _ _ ⟨y17, rfl, hy17, rfl⟩
  refine dp rfl (pop_add64 rfl rfl (by omega) (by omega)) ?_
  refine dp rfl (pop_assign rfl) ?_
  refine dn ?_
  refine hw_ret ?_
  exact ret_q rfl ⟨_, rfl, by omega, rfl⟩

/-- (*benchwarmer/benchmake.Stream).Flip -/
theorem c_benchmake_Stream_Flip [Tracks] {b : Nat} {l : List Int} {a : Nat} {n : Int} (ha : a ≤ 1000000) (hn : n ≤ 4000000000) : Con Tryz.prog 7 [pAt b, .int .i64 n] [St b l a] (fun x M' => ∃ y : Bool, x = .bool y ∧ M' = [St b l (a + 1)]) := by
 refine Con.of_body Tryz.func7 rfl Tryz.ntmps7 rfl rfl ?_
 refine hw_reg ?_
 refine dp rfl (pop_assign rfl) ?_
 refine dn ?_
 refine hw_reg ?_
 refine dp rfl (pop_move rfl) ?_
 refine dp rfl (pop_move rfl) ?_
 refine de rfl (eop_callx (i := 0) ca22 rfl (WeakL.refl _) rfl (c_benchmake_Stream_Next (by assumption) (by assumption)) ?_)
 rintro _ _ ⟨y7, rfl, hy7, rfl⟩
 refine dp rfl (pop_eql rfl rfl) ?_
 refine dp rfl (pop_assign rfl) ?_
 refine dn ?_
 refine hw_ret ?_
 exact ret_q rfl ⟨_, rfl, rfl⟩

/-- (*benchwarmer/benchmake.Stream).Pick -/
theorem c_benchmake_Stream_Pick [Tracks] {b : Nat} {l : List Int} {a : Nat} {L : List Int} (ha : a ≤ 1000000) (h0 : 0 < L.length) (h1 : L.length ≤ 1000000) : Con Tryz.prog 20 [pAt b, .slice 1 (L.map (.int .i64))] [St b l a] (fun x M' => ∃ y : Int, x = .int .i64 y ∧ y ∈ L ∧ M' = [St b l (a + 1)]) := by
 refine Con.of_body Tryz.func20 rfl Tryz.ntmps20 rfl rfl ?_
 refine hw_reg ?_
 refine dp rfl (pop_assign rfl) ?_
 refine dn ?_
 refine hw_reg ?_
 refine dp rfl (pop_move rfl) ?_
 refine dp rfl (pop_move rfl) ?_
 refine dp rfl (pop_move rfl) ?_
 refine dp rfl (pop_lenm ty22 rfl) ?_
 refine de rfl (eop_callx (i := 0) ca22 rfl (WeakL.refl _) rfl (c_benchmake_Stream_Next (by assumption) (by omega)) ?_)
 rintro _ _ ⟨y9, rfl, hy9, rfl⟩
 obtain ⟨z, hz, hm⟩ := getI hy9 h0
 refine dp rfl (pop_idx (j := y9) (a := z) ty22 ty3 rfl rfl rfl hz) ?_
 refine dp rfl (pop_load ty3 rfl rfl rfl) ?_
 refine dp rfl (pop_assign rfl) ?_
 refine dn ?_
 refine hw_ret ?_
 exact ret_q rfl ⟨_, rfl, hm, rfl⟩

/-- (*benchwarmer/benchmake.Stream).Some -/
theorem c_benchmake_Stream_Some [Tracks] {b : Nat} {l : List Int} {a : Nat} {L : List Str} (ha : a ≤ 1000000) (h0 : 0 < L.length) (h1 : L.length ≤ 1000000) : Con Tryz.prog 9 [pAt b, eSs L] [St b l a] (fun x M' => ∃ y : Str, x = .str y ∧ y ∈ L ∧ M' = [St b l (a + 1)]) := by
 refine Con.of_body Tryz.func9 rfl Tryz.ntmps9 rfl rfl ?_
 refine hw_reg ?_
 refine dp rfl (pop_assign rfl) ?_
 refine dn ?_
 refine hw_reg ?_
 refine dp rfl (pop_move rfl) ?_
 refine dp rfl (pop_move rfl) ?_
 refine dp rfl (pop_move rfl) ?_
 refine dp rfl (pop_lenm ty26 rfl) ?_
 refine de rfl (eop_callx (i := 0) ca22 rfl (WeakL.refl _) rfl (c_benchmake_Stream_Next (by assumption) (by omega)) ?_)
 rintro _ _ ⟨y9, rfl, hy9, rfl⟩
 obtain ⟨z, hz, hm⟩ := getS hy9 h0
 refine dp rfl (pop_idx (j := y9) (a := z) ty26 ty9 rfl rfl rfl hz) ?_
 refine dp rfl (pop_load ty9 rfl rfl rfl) ?_
 refine dp rfl (pop_assign rfl) ?_
 refine dn ?_
 refine hw_ret ?_
 exact ret_q rfl ⟨_, rfl, hm, rfl⟩

/-- (*benchwarmer/benchmake.Stream).Odd -/
theorem c_benchmake_Stream_Odd [Tracks] {b : Nat} {l : List Int} {a : Nat} {lo hi : Int} (ha : a ≤ 900000) (hlh : lo ≤ hi) (h0 : -1000000000 ≤ lo) (h1 : hi ≤ 1000000000) : Con Tryz.prog 8 [pAt b, .int .i64 lo, .int .i64 hi] [St b l a] (fun x M' => ∃ y : Int, x = .int .i64 y ∧ M' = [St b l (a + 2)]) := by
 refine Con.of_body Tryz.func8 rfl Tryz.ntmps8 rfl rfl ?_
 refine hw_reg ?_
 refine dp rfl (pop_assign rfl) ?_
 refine dn ?_
 refine hw_seq ?_
 refine hw_reg ?_
 refine dp rfl (pop_move rfl) ?_
 refine de rfl (eop_callx (i := 0) ca7 rfl (WeakL.refl _) rfl (c_benchmake_Stream_Flip (by omega) (by omega)) ?_)
 rintro _ _ ⟨y8, rfl, rfl⟩
 refine dn ?_
 refine hw_cond rfl (fun h1 => ?_) (fun h2 => ?_)
 ·try simp at h1
  refine hw_reg ?_
  refine dp rfl (pop_move rfl) ?_
  refine dp rfl (pop_move rfl) ?_
  refine dp rfl (pop_sub64 rfl rfl (by omega) (by omega)) ?_
  refine dp rfl (pop_move rfl) ?_
  refine dp rfl (pop_add64 rfl rfl (by omega) (by omega)) ?_
  refine dp rfl (pop_move rfl) ?_
  refine dp rfl (pop_move rfl) ?_
  refine dp rfl (pop_buildSlice (hs := [_, _, _, _, _, _]) ty22 ty3 rfl rfl (by decide) (by decide) rfl) ?_
  refine de rfl (eop_callx (i := 0) ca20 rfl (WeakL.refl _) rfl (c_benchmake_Stream_Pick (L := [_, _, _, _, _, _]) (by omega) (by simp_all) (by simp_all)) ?_)
  rintro _ _ ⟨y17, rfl, hy17, rfl⟩
  refine dp rfl (pop_assign rfl) ?_
  refine dn ?_
  refine hw_ret ?_
  exact ret_q rfl ⟨_, rfl, rfl⟩
 ·try simp at h2
  refine hw_skip ?_
  refine seqQ_n ?_
  refine hw_reg ?_
  refine dp rfl (pop_move rfl) ?_
  refine dp rfl (pop_move rfl) ?_
  refine dp rfl (pop_move rfl) ?_
  refine de rfl (eop_callx (i := 0) ca19 rfl (WeakL.refl _) rfl (c_benchmake_Stream_Range (by omega) (by assumption) (by assumption) (by assumption)) ?_)
  rintro _ _ ⟨y21, rfl, hy21, rfl⟩
  refine dp rfl (pop_assign rfl) ?_
  refine dn ?_
  refine hw_ret ?_
  exact ret_q rfl ⟨_, rfl, rfl⟩
end Go.Proofs.YtmgbigiegjlieaaGreatDoor
end
section
namespace Go.HL
variable {P : Program}
open Go.Sort Go.Proofs
section
variable {P : Program} {n : Nat} {e : Env} {M : List MObj} {Q : Exit → Env → List MObj → Prop} {c c' : Code}
def JoinG [Tracks] {ι : Type} (e : Env) (ks : List Nat) (W : ι → List (Nat × HVal)) (MM : ι → List MObj) (Iv : ι → Prop) (Q : Exit → Env → List MObj → Prop) : Exit → Env → List MObj → Prop
 | .normal, e', M => ∃ e2 M2, Ghost e' M e2 M2 ∧ ∃ j, Iv j ∧ HoldsW e2 (W j) ∧ Keeps ks e e2 ∧ M2.Perm (MM j)
 | x, e', M => Q x e' M
theorem hw_joing [Tracks] {ι : Type} (ks : List Nat) (W : ι → List (Nat × HVal)) (MM : ι → List MObj) (Iv : ι → Prop) (h1 : HWp P n c e M (JoinG e ks W MM Iv Q))
 (h2 : ∀ i, Iv i → HWp P n c' (loopE e ks (W i)) (MM i) Q) : HWp P n (.seq c c') e M Q := by
 refine hw_seq (hw_mono h1 ?_)
 intro x e1 M1 hq
 cases x with
 | normal =>
   obtain ⟨e2, M2, hg, j, a1, a2, a3, a4⟩ := hq
   exact hw_ghost (hg.trans ((Ghost.sub (Sub.loopE a2 a3)).trans (Ghost.perm a4))) (h2 j a1)
 | _ => exact hq
theorem joinG_n [Tracks] {ι : Type} {e0 e2 : Env} {M2 : List MObj} {ks : List Nat} {W : ι → List (Nat × HVal)} {MM : ι → List MObj} {Iv : ι → Prop} (hg : Ghost e M e2 M2) (h : JoinG e0 ks W MM Iv Q .normal e2 M2) : JoinG e0 ks W MM Iv Q .normal e M := by
 obtain ⟨e3, M3, g, r⟩ := h
 exact ⟨e3, M3, hg.trans g, r⟩
theorem joinG_z [Tracks] {ι : Type} {e0 : Env} {ks : List Nat} {W : ι → List (Nat × HVal)} {MM : ι → List MObj} {Iv : ι → Prop} (j : ι) (h : Iv j) (hW : HoldsW e (W j)) (hk : Keeps ks e0 e) (hM : M.Perm (MM j)) : JoinG e0 ks W MM Iv Q .normal e M :=
 ⟨e, M, Ghost.sub (Sub.refl _), j, h, hW, hk, hM⟩
end
/-- Another view of the state within a region. -/
theorem dghost [Tracks] {P : Program} {ops : Array Oper} {n : Nat} {K : Env → List MObj → Prop} {rest : List Oper} {e : Env} {M M' : List MObj} (hm : M = M') (k : Der P ops n K rest e M') : Der P ops n K rest e M := hm ▸ k
/-- The header of an owned slice, with its capacity. -/
theorem hw_arrc [Tracks] {P : Program} {n : Nat} {e : Env} {M : List MObj} {c : Code} {Q : Exit → Env → List MObj → Prop} {i : Nat} {v : Value} {sz : Nat} {es : List HVal} (hm : M[i]? = some (.arr v sz es))
 (h0 : v = .slice none 0 0 → es = [] → HWp P n c e M Q) (h1 : ∀ b off cap, v = .slice (some ⟨b, off, none⟩) es.length cap → es.length ≤ cap → HWp P n c e M Q) : HWp P n c e M Q := fun I F a w a1 a2 a3 a4 => by
 rcases a4.obj _ (List.mem_append_left _ (List.mem_of_getElem? hm)) with ⟨g1, g2⟩ | ⟨b, off, cap, rc, el, fr, g1, _, _, _, g5, _⟩
 ·exact h0 g1 g2 I F a w a1 a2 a3 a4
 ·exact h1 b off cap g1 g5.1 I F a w a1 a2 a3 a4
theorem permTo [Tracks] {α : Type} {l r : List α} {x : α} (i : Nat) (h : l[i]? = some x) (hr : (l.eraseIdx i).Perm r) : l.Perm (x :: r) := (perm_erase h).trans (hr.cons x)
theorem permToE [Tracks] {α : Type} {l r : List α} {x y : α} (i : Nat) (h : l[i]? = some y) (hy : y = x) (hr : (l.eraseIdx i).Perm r) : l.Perm (x :: r) := hy ▸ permTo i h hr
theorem conp_of_calls [Tracks] {P : Program} {f : FuncId} {hargs : List HVal} {h : HVal} (hc : ∀ (I : Imm) (w : World) (args : List Value), VL I hargs args → ∃ v, V I h v ∧ Calls P f args.toArray w fun e w' => e = .returned v ∧ w' = w) : ConP P f hargs h := by
 intro I F w args ha hs
 obtain ⟨v, hv, hcalls⟩ := hc I w args ha
 refine hcalls.mono ?_
 rintro _ w' ⟨rfl, rfl⟩
 exact ⟨v, h, [], I, rfl, .refl I, ⟨rfl, rfl⟩, hv, hs⟩
end Go.HL
end
section
namespace Go.HL
abbrev nilS : HVal := .raw (.slice none 0 0)
abbrev RoomC (b : Nat) (t : HVal) (R W : Int) (p : HVal) (C S : Int) : MObj := .cells b [t, .int .i64 R, .int .i64 W, p, .int .i64 C, .int .i64 S]
structure GoodRoom (r : Room) : Prop where
 t0 : 0 < r.Teams.length
 t4 : r.Teams.length ≤ 4
 p20 : r.Players.length ≤ 20
 p1 : 1 ≤ r.Players.length
 ts : ∀ s ∈ r.Teams, s.length ≤ 1000000
 ps : ∀ s ∈ r.Players, s.length ≤ 1000000
def team3 : List Str := [[116, 99], [116, 97], [116, 98]]
theorem team3_len : ∀ s ∈ team3, s.length ≤ 100 := by decide
theorem dec_len {i : Nat} (h : i < 100) : (Lib.decDigits i).length ≤ 10 := by
 have : (List.range 100).all (fun i => decide ((Lib.decDigits i).length ≤ 10)) = true := by kernel_rfl
 have := List.all_eq_true.1 this i (List.mem_range.2 h)
 simpa using this
theorem good_room {T Pl : List Str} {R W C S : Int} {k : Nat} (hT : 1 ≤ T.length ∧ T.length ≤ 3) (hP : Pl.length = k) (hk : 1 ≤ k ∧ k ≤ 19) (h1 : ∀ s ∈ T, s.length ≤ 100) (h2 : ∀ s ∈ Pl, s.length ≤ 100) : GoodRoom ⟨T, R, W, Pl, C, S⟩ :=
 ⟨by dsimp only; omega, by dsimp only; omega, by dsimp only; omega, by dsimp only; omega, fun s hs => by have := h1 s hs; omega, fun s hs => by have := h2 s hs; omega⟩
theorem good_roomT {T Pl : List Str} {R W C S : Int} {k : Nat} {y : Str} (hT : 1 ≤ T.length ∧ T.length ≤ 3) (hP : Pl.length = k) (hk : 1 ≤ k ∧ k ≤ 19) (h1 : ∀ s ∈ T, s.length ≤ 100) (h2 : ∀ s ∈ Pl, s.length ≤ 100) (hy : y.length ≤ 100) : GoodRoom ⟨T ++ [y], R, W, Pl, C, S⟩ :=
 ⟨by simp, by simp; omega, by dsimp only; omega, by dsimp only; omega, fun s hs => by
  rcases List.mem_append.1 hs with h | h
  ·have := h1 s h; omega
  ·simp at h; subst h; omega, fun s hs => by have := h2 s hs; omega⟩
theorem good_roomP {T Pl : List Str} {R W C S : Int} {k : Nat} {y : Str} (hT : 1 ≤ T.length ∧ T.length ≤ 3) (hP : Pl.length = k) (hk : k ≤ 19) (h1 : ∀ s ∈ T, s.length ≤ 100) (h2 : ∀ s ∈ Pl, s.length ≤ 100) (hy : y.length ≤ 100) : GoodRoom ⟨T, R, W, Pl ++ [y], C, S⟩ :=
 ⟨by dsimp only; omega, by dsimp only; omega, by simp; omega, by simp, fun s hs => by have := h1 s hs; omega, fun s hs => by
  rcases List.mem_append.1 hs with h | h
  ·have := h2 s h; omega
  ·simp at h; subst h; omega⟩
end Go.HL
end
section
namespace Go.Proofs.YtmgbigiegjlieaaGreatDoor
open Go.HL
set_option maxRecDepth 100000
set_option linter.unusedVariables false
set_option linter.unusedSimpArgs false
/-- strconv.Itoa of a small number -/
theorem c_strconv_Itoa [Tracks] {i : Nat} (hi : i < 100) : ConP Tryz.prog 21 [.int .i64 (i : Int)] (.str (Lib.decDigits i)) :=
 conp_of_calls fun I w args ha => by
  obtain ⟨u, rfl, hu⟩ := ha.one
  obtain rfl := hu.int_inv
  exact ⟨_, .str _, Any.strconv_Itoa_small Tryz.lays171 i hi w⟩

set_option maxHeartbeats 2000000 in
/-- (*benchwarmer/benchmake.Stream).RoomOf -/
theorem c_benchmake_Stream_RoomOf [Tracks] {b : Nat} {l : List Int} {a : Nat}  (ha : a ≤ 800000) : Con Tryz.prog 5 [pAt b] [St b l a] (fun x M' => ∃ r a', x = eRoom r ∧ GoodRoom r ∧ a' ≤ a + 20 ∧ M' = [St b l a']) := by
 refine Con.of_bodyc Tryz.func5 rfl Tryz.ntmps5 rfl rfl ?_
 refine hw_reg ?_
 refine de rfl (eop_alloc ty28 rfl fun b2 => ?_)
 refine dn ?_
 refine hw_join [3, 5, 6, 7, 8, 9, 10, 11, 12, 13, 14, 15, 16, 17, 18, 19] (fun (q : Nat × List Str × Int × Int × Int × Int) => [(3, pAt q.1)]) (fun (q : Nat × List Str × Int × Int × Int × Int) => [RoomC q.1 (eSs q.2.1) q.2.2.1 q.2.2.2.1 nilS q.2.2.2.2.1 q.2.2.2.2.2, RoomC b2 nilS 0 0 nilS 0 0, St b l (a + 5)]) (fun (q : Nat × List Str × Int × Int × Int × Int) => (1 ≤ q.2.1.length ∧ q.2.1.length ≤ 3) ∧ (1 ≤ q.2.2.1 ∧ q.2.2.1 ≤ 4) ∧ ∀ s ∈ q.2.1, s.length ≤ 100) ?_ ?_
 ·skip
  refine hw_draw1 (fun _ => True) [] mixed ?_
  refine ahp 0 rfl rfl (by kernel_rfl) (by kernel_rfl) (pop_buildSlice (hs := [_, _, _]) ty26 ty9 rfl rfl (by decide) (by decide) rfl) ?_
  refine ahp 1 rfl rfl (by kernel_rfl) (by kernel_rfl) (pop_move rfl) ?_
  refine ahp 4 rfl rfl (by kernel_rfl) (by kernel_rfl) (pop_move rfl) ?_
  refine ahp 6 rfl rfl (by kernel_rfl) (by kernel_rfl) (pop_move rfl) ?_
  refine ahp 8 rfl rfl (by kernel_rfl) (by kernel_rfl) (pop_move rfl) ?_
  refine ahp 9 rfl rfl (by kernel_rfl) (by kernel_rfl) (pop_buildSlice (hs := [_, _]) ty22 ty3 rfl rfl (by decide) (by decide) rfl) ?_
  refine ahp 11 rfl rfl (by kernel_rfl) (by kernel_rfl) (pop_move rfl) ?_
  refine ahp 12 rfl rfl (by kernel_rfl) (by kernel_rfl) (pop_buildSlice (hs := [_, _, _]) ty22 ty3 rfl rfl (by decide) (by decide) rfl) ?_
  refine ahe2 2 15 rfl rfl (by kernel_rfl) ?_ ?_
  ·skip
   refine hop_e rfl (eop_callx (i := 1) ca19 rfl (WeakL.refl _) rfl (c_benchmake_Stream_Range (by omega) (by omega) (by omega) (by omega)) ?_)
   rintro _ _ ⟨y7, rfl, hy7, rfl⟩
   refine ⟨fun _ => .inl trivial, ?_⟩
   refine ahp 3 rfl rfl (by kernel_rfl) (by kernel_rfl) (pop_slicem (es := team3) (f := HVal.str) (h := y7.toNat) ty26 ty9 rfl rfl ⟨_, _, rfl, by omega⟩ (by omega) (by simp [team3]; omega)) ?_
   refine ahe2 5 15 rfl rfl (by kernel_rfl) ?_ ?_
   ·skip
    refine hop_e rfl (eop_callx (i := 0) ca19 rfl (WeakL.refl _) rfl (c_benchmake_Stream_Range (by omega) (by omega) (by omega) (by omega)) ?_)
    rintro _ _ ⟨y10, rfl, hy10, rfl⟩
    refine ⟨fun _ => .inl trivial, ?_⟩
    refine ahe2 7 15 rfl rfl (by kernel_rfl) ?_ ?_
    ·skip
     refine hop_e rfl (eop_callx (i := 0) ca19 rfl (WeakL.refl _) rfl (c_benchmake_Stream_Range (by omega) (by omega) (by omega) (by omega)) ?_)
     rintro _ _ ⟨y12, rfl, hy12, rfl⟩
     refine ⟨fun _ => .inl trivial, ?_⟩
     refine ahe2 10 15 rfl rfl (by kernel_rfl) ?_ ?_
     ·skip
      refine hop_e rfl (eop_callx (i := 0) ca20 rfl (WeakL.refl _) rfl (c_benchmake_Stream_Pick (L := [_, _]) (by omega) (by simp_all) (by simp_all)) ?_)
      rintro _ _ ⟨y15, rfl, hy15, rfl⟩
      refine ⟨fun _ => .inl trivial, ?_⟩
      refine ahe2 13 15 rfl rfl (by kernel_rfl) ?_ ?_
      ·skip
       refine hop_e rfl (eop_callx (i := 0) ca20 rfl (WeakL.refl _) rfl (c_benchmake_Stream_Pick (L := [_, _, _]) (by omega) (by simp_all) (by simp_all)) ?_)
       rintro _ _ ⟨y18, rfl, hy18, rfl⟩
       refine ⟨fun _ => .inl trivial, ?_⟩
       refine ahp 14 rfl rfl (by kernel_rfl) (by kernel_rfl) (pop_build (cs := [_, _, _, _, _, _]) ty28 pl28 rfl) ?_
       refine ahe 15 rfl (by kernel_rfl) ?_
       refine hop_e rfl (eop_alloc ty28 rfl fun b3 => ?_)
       refine ⟨fun _ => .inl trivial, ?_⟩
       refine ahe 16 rfl (by kernel_rfl) ?_
       refine hop_e0 (eop_store (i := 0) ty28 rfl rfl rfl rfl rfl (Nat.le_of_ble_eq_true rfl) ?_)
       refine ⟨fun _ => .inl trivial, ?_⟩
       refine ahz (by kernel_rfl) ?_
       refine ⟨(b3, (team3.take y7.toNat).drop 0, y10, y12, y15, y18), ?_, ⟨rfl, trivial⟩, (by repeat (first | exact keeps_refl | refine keeps_upd rfl ?_ | refine keeps_loop rfl rfl ?_)), ?_⟩
       ·refine ⟨by simp [team3]; omega, by dsimp only; omega, fun s hs => ?_⟩
        exact team3_len s (List.mem_of_mem_take hs)
       ·repeat (first | exact List.Perm.nil | refine permTo 0 rfl ?_ | refine permTo 1 rfl ?_ | refine permTo 2 rfl ?_ | refine permTo 3 rfl ?_ | (refine permToE 0 rfl ?hq ?_; (case hq => simp [setL, hcells]; done)) | (refine permToE 1 rfl ?hq ?_; (case hq => simp [setL, hcells]; done)) | (refine permToE 2 rfl ?hq ?_; (case hq => simp [setL, hcells]; done)) | (refine permToE 3 rfl ?hq ?_; (case hq => simp [setL, hcells]; done)) | fail)
      ·skip
       refine hop_e rfl (eop_alloc ty28 rfl fun b3 => ?_)
       refine ⟨fun _ => .inl trivial, ?_⟩
       refine ahe 13 rfl (by kernel_rfl) ?_
       refine hop_e rfl (eop_callx (i := 1) ca20 rfl (WeakL.refl _) rfl (c_benchmake_Stream_Pick (L := [_, _, _]) (by omega) (by simp_all) (by simp_all)) ?_)
       rintro _ _ ⟨y18, rfl, hy18, rfl⟩
       refine ⟨fun _ => .inl trivial, ?_⟩
       refine ahp 14 rfl rfl (by kernel_rfl) (by kernel_rfl) (pop_build (cs := [_, _, _, _, _, _]) ty28 pl28 rfl) ?_
       refine ahe 16 rfl (by kernel_rfl) ?_
       refine hop_e0 (eop_store (i := 1) ty28 rfl rfl rfl rfl rfl (Nat.le_of_ble_eq_true rfl) ?_)
       refine ⟨fun _ => .inl trivial, ?_⟩
       refine ahz (by kernel_rfl) ?_
       refine ⟨(b3, (team3.take y7.toNat).drop 0, y10, y12, y15, y18), ?_, ⟨rfl, trivial⟩, (by repeat (first | exact keeps_refl | refine keeps_upd rfl ?_ | refine keeps_loop rfl rfl ?_)), ?_⟩
       ·refine ⟨by simp [team3]; omega, by dsimp only; omega, fun s hs => ?_⟩
        exact team3_len s (List.mem_of_mem_take hs)
       ·repeat (first | exact List.Perm.nil | refine permTo 0 rfl ?_ | refine permTo 1 rfl ?_ | refine permTo 2 rfl ?_ | refine permTo 3 rfl ?_ | (refine permToE 0 rfl ?hq ?_; (case hq => simp [setL, hcells]; done)) | (refine permToE 1 rfl ?hq ?_; (case hq => simp [setL, hcells]; done)) | (refine permToE 2 rfl ?hq ?_; (case hq => simp [setL, hcells]; done)) | (refine permToE 3 rfl ?hq ?_; (case hq => simp [setL, hcells]; done)) | fail)
     ·skip
      refine hop_e rfl (eop_alloc ty28 rfl fun b3 => ?_)
      refine ⟨fun _ => .inl trivial, ?_⟩
      refine ahe 10 rfl (by kernel_rfl) ?_
      refine hop_e rfl (eop_callx (i := 1) ca20 rfl (WeakL.refl _) rfl (c_benchmake_Stream_Pick (L := [_, _]) (by omega) (by simp_all) (by simp_all)) ?_)
      rintro _ _ ⟨y15, rfl, hy15, rfl⟩
      refine ⟨fun _ => .inl trivial, ?_⟩
      refine ahe 13 rfl (by kernel_rfl) ?_
      refine hop_e rfl (eop_callx (i := 0) ca20 rfl (WeakL.refl _) rfl (c_benchmake_Stream_Pick (L := [_, _, _]) (by omega) (by simp_all) (by simp_all)) ?_)
      rintro _ _ ⟨y18, rfl, hy18, rfl⟩
      refine ⟨fun _ => .inl trivial, ?_⟩
      refine ahp 14 rfl rfl (by kernel_rfl) (by kernel_rfl) (pop_build (cs := [_, _, _, _, _, _]) ty28 pl28 rfl) ?_
      refine ahe 16 rfl (by kernel_rfl) ?_
      refine hop_e0 (eop_store (i := 1) ty28 rfl rfl rfl rfl rfl (Nat.le_of_ble_eq_true rfl) ?_)
      refine ⟨fun _ => .inl trivial, ?_⟩
      refine ahz (by kernel_rfl) ?_
      refine ⟨(b3, (team3.take y7.toNat).drop 0, y10, y12, y15, y18), ?_, ⟨rfl, trivial⟩, (by repeat (first | exact keeps_refl | refine keeps_upd rfl ?_ | refine keeps_loop rfl rfl ?_)), ?_⟩
      ·refine ⟨by simp [team3]; omega, by dsimp only; omega, fun s hs => ?_⟩
       exact team3_len s (List.mem_of_mem_take hs)
      ·repeat (first | exact List.Perm.nil | refine permTo 0 rfl ?_ | refine permTo 1 rfl ?_ | refine permTo 2 rfl ?_ | refine permTo 3 rfl ?_ | (refine permToE 0 rfl ?hq ?_; (case hq => simp [setL, hcells]; done)) | (refine permToE 1 rfl ?hq ?_; (case hq => simp [setL, hcells]; done)) | (refine permToE 2 rfl ?hq ?_; (case hq => simp [setL, hcells]; done)) | (refine permToE 3 rfl ?hq ?_; (case hq => simp [setL, hcells]; done)) | fail)
    ·skip
     refine hop_e rfl (eop_alloc ty28 rfl fun b3 => ?_)
     refine ⟨fun _ => .inl trivial, ?_⟩
     refine ahe 7 rfl (by kernel_rfl) ?_
     refine hop_e rfl (eop_callx (i := 1) ca19 rfl (WeakL.refl _) rfl (c_benchmake_Stream_Range (by omega) (by omega) (by omega) (by omega)) ?_)
     rintro _ _ ⟨y12, rfl, hy12, rfl⟩
     refine ⟨fun _ => .inl trivial, ?_⟩
     refine ahe 10 rfl (by kernel_rfl) ?_
     refine hop_e rfl (eop_callx (i := 0) ca20 rfl (WeakL.refl _) rfl (c_benchmake_Stream_Pick (L := [_, _]) (by omega) (by simp_all) (by simp_all)) ?_)
     rintro _ _ ⟨y15, rfl, hy15, rfl⟩
     refine ⟨fun _ => .inl trivial, ?_⟩
     refine ahe 13 rfl (by kernel_rfl) ?_
     refine hop_e rfl (eop_callx (i := 0) ca20 rfl (WeakL.refl _) rfl (c_benchmake_Stream_Pick (L := [_, _, _]) (by omega) (by simp_all) (by simp_all)) ?_)
     rintro _ _ ⟨y18, rfl, hy18, rfl⟩
     refine ⟨fun _ => .inl trivial, ?_⟩
     refine ahp 14 rfl rfl (by kernel_rfl) (by kernel_rfl) (pop_build (cs := [_, _, _, _, _, _]) ty28 pl28 rfl) ?_
     refine ahe 16 rfl (by kernel_rfl) ?_
     refine hop_e0 (eop_store (i := 1) ty28 rfl rfl rfl rfl rfl (Nat.le_of_ble_eq_true rfl) ?_)
     refine ⟨fun _ => .inl trivial, ?_⟩
     refine ahz (by kernel_rfl) ?_
     refine ⟨(b3, (team3.take y7.toNat).drop 0, y10, y12, y15, y18), ?_, ⟨rfl, trivial⟩, (by repeat (first | exact keeps_refl | refine keeps_upd rfl ?_ | refine keeps_loop rfl rfl ?_)), ?_⟩
     ·refine ⟨by simp [team3]; omega, by dsimp only; omega, fun s hs => ?_⟩
      exact team3_len s (List.mem_of_mem_take hs)
     ·repeat (first | exact List.Perm.nil | refine permTo 0 rfl ?_ | refine permTo 1 rfl ?_ | refine permTo 2 rfl ?_ | refine permTo 3 rfl ?_ | (refine permToE 0 rfl ?hq ?_; (case hq => simp [setL, hcells]; done)) | (refine permToE 1 rfl ?hq ?_; (case hq => simp [setL, hcells]; done)) | (refine permToE 2 rfl ?hq ?_; (case hq => simp [setL, hcells]; done)) | (refine permToE 3 rfl ?hq ?_; (case hq => simp [setL, hcells]; done)) | fail)
   ·skip
    refine hop_e rfl (eop_alloc ty28 rfl fun b3 => ?_)
    refine ⟨fun _ => .inl trivial, ?_⟩
    refine ahe 5 rfl (by kernel_rfl) ?_
    refine hop_e rfl (eop_callx (i := 1) ca19 rfl (WeakL.refl _) rfl (c_benchmake_Stream_Range (by omega) (by omega) (by omega) (by omega)) ?_)
    rintro _ _ ⟨y10, rfl, hy10, rfl⟩
    refine ⟨fun _ => .inl trivial, ?_⟩
    refine ahe 7 rfl (by kernel_rfl) ?_
    refine hop_e rfl (eop_callx (i := 0) ca19 rfl (WeakL.refl _) rfl (c_benchmake_Stream_Range (by omega) (by omega) (by omega) (by omega)) ?_)
    rintro _ _ ⟨y12, rfl, hy12, rfl⟩
    refine ⟨fun _ => .inl trivial, ?_⟩
    refine ahe 10 rfl (by kernel_rfl) ?_
    refine hop_e rfl (eop_callx (i := 0) ca20 rfl (WeakL.refl _) rfl (c_benchmake_Stream_Pick (L := [_, _]) (by omega) (by simp_all) (by simp_all)) ?_)
    rintro _ _ ⟨y15, rfl, hy15, rfl⟩
    refine ⟨fun _ => .inl trivial, ?_⟩
    refine ahe 13 rfl (by kernel_rfl) ?_
    refine hop_e rfl (eop_callx (i := 0) ca20 rfl (WeakL.refl _) rfl (c_benchmake_Stream_Pick (L := [_, _, _]) (by omega) (by simp_all) (by simp_all)) ?_)
    rintro _ _ ⟨y18, rfl, hy18, rfl⟩
    refine ⟨fun _ => .inl trivial, ?_⟩
    refine ahp 14 rfl rfl (by kernel_rfl) (by kernel_rfl) (pop_build (cs := [_, _, _, _, _, _]) ty28 pl28 rfl) ?_
    refine ahe 16 rfl (by kernel_rfl) ?_
    refine hop_e0 (eop_store (i := 1) ty28 rfl rfl rfl rfl rfl (Nat.le_of_ble_eq_true rfl) ?_)
    refine ⟨fun _ => .inl trivial, ?_⟩
    refine ahz (by kernel_rfl) ?_
    refine ⟨(b3, (team3.take y7.toNat).drop 0, y10, y12, y15, y18), ?_, ⟨rfl, trivial⟩, (by repeat (first | exact keeps_refl | refine keeps_upd rfl ?_ | refine keeps_loop rfl rfl ?_)), ?_⟩
    ·refine ⟨by simp [team3]; omega, by dsimp only; omega, fun s hs => ?_⟩
     exact team3_len s (List.mem_of_mem_take hs)
    ·repeat (first | exact List.Perm.nil | refine permTo 0 rfl ?_ | refine permTo 1 rfl ?_ | refine permTo 2 rfl ?_ | refine permTo 3 rfl ?_ | (refine permToE 0 rfl ?hq ?_; (case hq => simp [setL, hcells]; done)) | (refine permToE 1 rfl ?hq ?_; (case hq => simp [setL, hcells]; done)) | (refine permToE 2 rfl ?hq ?_; (case hq => simp [setL, hcells]; done)) | (refine permToE 3 rfl ?hq ?_; (case hq => simp [setL, hcells]; done)) | fail)
  ·skip
   refine hop_e rfl (eop_alloc ty28 rfl fun b3 => ?_)
   refine ⟨fun _ => .inl trivial, ?_⟩
   refine ahe 2 rfl (by kernel_rfl) ?_
   refine hop_e rfl (eop_callx (i := 2) ca19 rfl (WeakL.refl _) rfl (c_benchmake_Stream_Range (by omega) (by omega) (by omega) (by omega)) ?_)
   rintro _ _ ⟨y7, rfl, hy7, rfl⟩
   refine ⟨fun _ => .inl trivial, ?_⟩
   refine ahp 3 rfl rfl (by kernel_rfl) (by kernel_rfl) (pop_slicem (es := team3) (f := HVal.str) (h := y7.toNat) ty26 ty9 rfl rfl ⟨_, _, rfl, by omega⟩ (by omega) (by simp [team3]; omega)) ?_
   refine ahe 5 rfl (by kernel_rfl) ?_
   refine hop_e rfl (eop_callx (i := 0) ca19 rfl (WeakL.refl _) rfl (c_benchmake_Stream_Range (by omega) (by omega) (by omega) (by omega)) ?_)
   rintro _ _ ⟨y10, rfl, hy10, rfl⟩
   refine ⟨fun _ => .inl trivial, ?_⟩
   refine ahe 7 rfl (by kernel_rfl) ?_
   refine hop_e rfl (eop_callx (i := 0) ca19 rfl (WeakL.refl _) rfl (c_benchmake_Stream_Range (by omega) (by omega) (by omega) (by omega)) ?_)
   rintro _ _ ⟨y12, rfl, hy12, rfl⟩
   refine ⟨fun _ => .inl trivial, ?_⟩
   refine ahe 10 rfl (by kernel_rfl) ?_
   refine hop_e rfl (eop_callx (i := 0) ca20 rfl (WeakL.refl _) rfl (c_benchmake_Stream_Pick (L := [_, _]) (by omega) (by simp_all) (by simp_all)) ?_)
   rintro _ _ ⟨y15, rfl, hy15, rfl⟩
   refine ⟨fun _ => .inl trivial, ?_⟩
   refine ahe 13 rfl (by kernel_rfl) ?_
   refine hop_e rfl (eop_callx (i := 0) ca20 rfl (WeakL.refl _) rfl (c_benchmake_Stream_Pick (L := [_, _, _]) (by omega) (by simp_all) (by simp_all)) ?_)
   rintro _ _ ⟨y18, rfl, hy18, rfl⟩
   refine ⟨fun _ => .inl trivial, ?_⟩
   refine ahp 14 rfl rfl (by kernel_rfl) (by kernel_rfl) (pop_build (cs := [_, _, _, _, _, _]) ty28 pl28 rfl) ?_
   refine ahe 16 rfl (by kernel_rfl) ?_
   refine hop_e0 (eop_store (i := 1) ty28 rfl rfl rfl rfl rfl (Nat.le_of_ble_eq_true rfl) ?_)
   refine ⟨fun _ => .inl trivial, ?_⟩
   refine ahz (by kernel_rfl) ?_
   refine ⟨(b3, (team3.take y7.toNat).drop 0, y10, y12, y15, y18), ?_, ⟨rfl, trivial⟩, (by repeat (first | exact keeps_refl | refine keeps_upd rfl ?_ | refine keeps_loop rfl rfl ?_)), ?_⟩
   ·refine ⟨by simp [team3]; omega, by dsimp only; omega, fun s hs => ?_⟩
    exact team3_len s (List.mem_of_mem_take hs)
   ·repeat (first | exact List.Perm.nil | refine permTo 0 rfl ?_ | refine permTo 1 rfl ?_ | refine permTo 2 rfl ?_ | refine permTo 3 rfl ?_ | (refine permToE 0 rfl ?hq ?_; (case hq => simp [setL, hcells]; done)) | (refine permToE 1 rfl ?hq ?_; (case hq => simp [setL, hcells]; done)) | (refine permToE 2 rfl ?hq ?_; (case hq => simp [setL, hcells]; done)) | (refine permToE 3 rfl ?hq ?_; (case hq => simp [setL, hcells]; done)) | fail)
 ·intro q hq
  obtain ⟨b3, T, R, Wy, C, S⟩ := q
  dsimp only at hq
  obtain ⟨hT, hR, hTs⟩ := hq
  refine hw_seq ?_
  refine hw_draw (fun M => ∃ i : Nat, M[i]? = some (RoomC b3 (eSs (T)) R Wy nilS C S)) [1, 4] mixed ?_
  refine ahp 0 rfl rfl (by kernel_rfl) (by kernel_rfl) (pop_fieldAddr_raw ty28 rfl ty26 (by decide) rfl) ?_
  refine ahl 1 rfl rfl (by kernel_rfl) (by kernel_rfl) (by simp) (⟨0, rfl⟩) (fun M hM => by obtain ⟨i, hi⟩ := hM; exact eop_load (i := i) ty26 rfl hi (.inl ⟨rfl, rfl⟩) ⟨rfl, rfl⟩) ?_
  refine ahp 2 rfl rfl (by kernel_rfl) (by kernel_rfl) (pop_lenm ty26 rfl) ?_
  refine ahp 3 rfl rfl (by kernel_rfl) (by kernel_rfl) (pop_fieldAddr_raw ty28 rfl ty3 (by decide) rfl) ?_
  refine ahl 4 rfl rfl (by kernel_rfl) (by kernel_rfl) (by simp) (⟨0, rfl⟩) (fun M hM => by obtain ⟨i, hi⟩ := hM; exact eop_load (i := i) ty3 rfl hi (.inl ⟨rfl, rfl⟩) ⟨rfl, rfl⟩) ?_
  have hm1 : 0 < (T.length : Int) * R := Int.mul_pos (by omega) (by omega)
  have hm := mul_bd (a := (T.length : Int)) (b := R) (A := 3) (B := 4) (by omega) (by omega) (by omega) (by omega)
  refine ahp 5 rfl rfl (by kernel_rfl) (by kernel_rfl) (pop_mul64 rfl rfl (by omega) (by omega)) ?_
  refine ahp 6 rfl rfl (by kernel_rfl) (by kernel_rfl) (pop_move rfl) ?_
  refine ahp 7 rfl rfl (by kernel_rfl) (by kernel_rfl) (pop_buildSlice (hs := [_, _, _, _]) ty22 ty3 rfl rfl (by decide) (by decide) rfl) ?_
  refine ahp 10 rfl rfl (by kernel_rfl) (by kernel_rfl) (pop_move rfl) ?_
  refine ahe 8 rfl (by kernel_rfl) ?_
  refine hop_e rfl (eop_callx (i := 2) ca20 rfl (WeakL.refl _) rfl (c_benchmake_Stream_Pick (L := [_, _, _, _]) (by omega) (by simp_all) (by simp_all)) ?_)
  rintro _ _ ⟨y28, rfl, hy28, rfl⟩
  refine ⟨fun _ => by first | exact .inl ⟨0, rfl⟩ | exact .inl ⟨1, rfl⟩ | exact .inl ⟨2, rfl⟩ | exact .inr (by simp [Before, Region.binds]), ?_⟩
  have hy3 : 0 ≤ y28 ∧ y28 ≤ 3 := by simp at hy28; omega
  refine ahp 9 rfl rfl (by kernel_rfl) (by kernel_rfl) (pop_add64 rfl rfl (by omega) (by omega)) ?_
  refine ahz (by kernel_rfl) ?_
  refine hw_ghost (Ghost.arr_nil 1) ?_
  refine hw_block ?_
  refine hw_loopw3 [4, 30, 31, 32, 33, 34, 35, 36, 37, 38, 39, 40, 41, 42] (fun (k : Nat) (v : Value) (Pl : List Str) => [(30, .int .i64 k)]) (fun (k : Nat) (v : Value) (Pl : List Str) => [.arr v 1 (Pl.map .str), RoomC b3 (eSs (T)) R Wy (.raw v) C S, RoomC b2 nilS 0 0 nilS 0 0, St b l (a + 6)]) (fun (k : Nat) (v : Value) (Pl : List Str) => k ≤ 15 ∧ Pl.length = k ∧ ∀ s ∈ Pl, s.length ≤ 100) (fun (k : Nat) (v : Value) (Pl : List Str) => 15 - k) (0) (.slice none 0 0) ([]) ?_ ?_ ?_ ?_
  ·exact ⟨by omega, rfl, by simp⟩
  ·exact ⟨rfl, trivial⟩
  ·repeat (first | exact List.Perm.nil | refine permTo 0 rfl ?_ | refine permTo 1 rfl ?_ | refine permTo 2 rfl ?_ | refine permTo 3 rfl ?_ | (refine permToE 0 rfl ?hq ?_; (case hq => simp [setL, hcells]; done)) | (refine permToE 1 rfl ?hq ?_; (case hq => simp [setL, hcells]; done)) | (refine permToE 2 rfl ?hq ?_; (case hq => simp [setL, hcells]; done)) | (refine permToE 3 rfl ?hq ?_; (case hq => simp [setL, hcells]; done)) | fail)
  ·intro k v Pl hinv
   obtain ⟨hk, hPl, hPs⟩ := hinv
   refine hw_reg ?_
   refine dp rfl (pop_lss rfl rfl) ?_
   refine dn ?_
   refine hw_seq ?_
   refine hw_cond rfl (fun h1 => ?_) (fun h2 => ?_)
   ·try simp at h1
    refine hw_skip ?_
    refine seqQ_n ?_
    refine hw_seq ?_
    refine hw_block ?_
    refine hw_reg ?_
    refine dp rfl (pop_move rfl) ?_
    refine dp rfl (pop_assign rfl) ?_
    refine dn ?_
    refine hw_draw1 (fun _ => True) [] mixed ?_
    refine ahp 0 rfl rfl (by kernel_rfl) (by kernel_rfl) (pop_fieldAddr_raw ty28 rfl ty26 (by decide) rfl) ?_
    refine ahp 2 rfl rfl (by kernel_rfl) (by kernel_rfl) (pop_move rfl) ?_
    refine ahp 3 rfl rfl (by kernel_rfl) (by kernel_rfl) (pop_add64 rfl rfl (by omega) (by omega)) ?_
    refine ahp 4 rfl rfl (by kernel_rfl) (by kernel_rfl) (pop_call ca21 rfl (WeakL.refl _) (c_strconv_Itoa (i := 10 + k) (by omega))) ?_
    have hdl := dec_len (i := 10 + k) (by omega)
    refine ahp 5 rfl rfl (by kernel_rfl) (by kernel_rfl) (pop_adds rfl rfl (by simp; omega)) ?_
    refine ahp 6 rfl rfl (by kernel_rfl) (by kernel_rfl) (pop_buildSlice (hs := [_]) ty26 ty9 rfl rfl (by decide) (by decide) rfl) ?_
    refine ahe 1 rfl (by kernel_rfl) ?_
    refine hop_e rfl (eop_load (i := 1) ty26 rfl rfl (.inl ⟨rfl, rfl⟩) ?_)
    refine ⟨fun _ => .inl trivial, ?_⟩
    refine ahe 7 rfl (by kernel_rfl) ?_
    refine hop_e rfl (eop_append (i := 0) ty26 ty9 rfl rfl rfl rfl rfl (by simp [flat, hcells]) (by simp; omega) fun v40 => ?_)
    refine ⟨fun _ => .inl trivial, ?_⟩
    refine ahp 8 rfl rfl (by kernel_rfl) (by kernel_rfl) (pop_fieldAddr_raw ty28 rfl ty26 (by decide) rfl) ?_
    refine ahe 9 rfl (by kernel_rfl) ?_
    refine hop_e0 (eop_store (i := 1) ty26 rfl rfl rfl rfl rfl (Nat.le_of_ble_eq_true rfl) ?_)
    refine ⟨fun _ => .inl trivial, ?_⟩
    refine ahz (by kernel_rfl) ?_
    refine blockQ_n ?_
    refine seqQ_n ?_
    refine hw_reg1 ?_
    refine dp rfl (pop_add64 rfl rfl (by omega) (by omega)) ?_
    refine dp rfl (pop_move rfl) ?_
    refine dn ?_
    refine ⟨k + 1, v40, Pl ++ [112 :: Lib.decDigits (10 + k)], ?_, ?_, ⟨rfl, trivial⟩, (by repeat (first | exact keeps_refl | refine keeps_upd rfl ?_ | refine keeps_loop rfl rfl ?_)), ?_⟩
    ·refine ⟨by omega, by simp [hPl], fun s hs => ?_⟩
     rcases List.mem_append.1 hs with h | h
     ·exact hPs s h
     ·have := dec_len (i := 10 + k) (by omega)
      simp at h; subst h; simp; omega
    ·dsimp only; omega
    ·repeat (first | exact List.Perm.nil | refine permTo 0 rfl ?_ | refine permTo 1 rfl ?_ | refine permTo 2 rfl ?_ | refine permTo 3 rfl ?_ | (refine permToE 0 rfl ?hq ?_; (case hq => simp [setL, hcells]; done)) | (refine permToE 1 rfl ?hq ?_; (case hq => simp [setL, hcells]; done)) | (refine permToE 2 rfl ?hq ?_; (case hq => simp [setL, hcells]; done)) | (refine permToE 3 rfl ?hq ?_; (case hq => simp [setL, hcells]; done)) | fail)
   ·try simp at h2
    refine hw_exit ?_
    refine seqQ_x ?_
    refine loopQ3_x ?_
    refine blockQ_eq ?_
    refine seqQ_n ?_
    refine hw_joing [43, 44, 45, 46, 47, 48, 49, 50, 51, 52, 53, 54, 55, 56, 57, 58, 59, 60, 61, 62, 63, 64, 65, 66, 67, 68, 69, 70, 71, 72, 73, 74, 75, 76, 77, 78, 79, 80, 81, 82] (fun (q : Room × Nat) => []) (fun (q : Room × Nat) => [.cells b3 (hcells (eRoom q.1)), RoomC b2 nilS 0 0 nilS 0 0, St b l q.2]) (fun (q : Room × Nat) => GoodRoom q.1 ∧ q.2 ≤ a + 20) ?_ ?_
    ·skip
     refine hw_reg ?_
     refine dp rfl (pop_move rfl) ?_
     refine de rfl (eop_callx (i := 3) ca7 rfl (WeakL.refl _) rfl (c_benchmake_Stream_Flip (by omega) (by omega)) ?_)
     rintro _ _ ⟨y44, rfl, rfl⟩
     refine dn ?_
     refine hw_cond rfl (fun h3 => ?_) (fun h4 => ?_)
     ·try simp at h3
      refine hw_reg ?_
      refine dp rfl (pop_move rfl) ?_
      refine de rfl (eop_callx (i := 0) ca22 rfl (WeakL.refl _) rfl (c_benchmake_Stream_Next (by omega) (by omega)) ?_)
      rintro _ _ ⟨y46, rfl, hy46, rfl⟩
      refine dn ?_
      refine hw_block ?_
      refine hw_reg ?_
      refine dp rfl (pop_eql rfl rfl) ?_
      refine dp rfl (pop_assign rfl) ?_
      refine dn ?_
      refine hw_cond rfl (fun h5 => ?_) (fun h6 => ?_)
      ·try simp at h5
       refine hw_reg1 ?_
       refine dp rfl (pop_fieldAddr_raw ty28 rfl ty26 (by decide) rfl) ?_
       refine de rfl (eop_load (i := 2) ty26 rfl rfl (.inl ⟨rfl, rfl⟩) ?_)
       refine de rfl (eop_calla ca23 rfl (WeakL.refl _) (c_slices_Clone_string_string (by omega)) fun v57 => ?_)
       refine dp rfl (pop_move rfl) ?_
       refine dp rfl (pop_buildSlice (hs := [_, _, _]) ty26 ty9 rfl rfl (by decide) (by decide) rfl) ?_
       refine de rfl (eop_callx (i := 1) ca9 rfl (WeakL.refl _) rfl (c_benchmake_Stream_Some (L := [_, _, _]) (by omega) (by simp_all) (by simp_all)) ?_)
       rintro _ _ ⟨y60, rfl, hy60, rfl⟩
       refine dp rfl (pop_buildSlice (hs := [_]) ty26 ty9 rfl rfl (by decide) (by decide) rfl) ?_
       refine de rfl (eop_append (i := 1) ty26 ty9 rfl rfl rfl rfl rfl (by simp [flat, hcells]) (by simp; omega) fun v62 => ?_)
       refine dp rfl (pop_fieldAddr_raw ty28 rfl ty26 (by decide) rfl) ?_
       refine de0 (eop_store (i := 3) ty26 rfl rfl rfl rfl rfl (Nat.le_of_ble_eq_true rfl) ?_)
       refine dn ?_
       refine blockQ_n ?_
       (first | refine joinG_n (Ghost.fcell (i := 0) (k := 0) (j := 3) rfl rfl rfl) ?_ | refine joinG_n (Ghost.fcell (i := 0) (k := 1) (j := 3) rfl rfl rfl) ?_ | refine joinG_n (Ghost.fcell (i := 0) (k := 2) (j := 3) rfl rfl rfl) ?_ | refine joinG_n (Ghost.fcell (i := 0) (k := 3) (j := 3) rfl rfl rfl) ?_ | refine joinG_n (Ghost.fcell (i := 1) (k := 0) (j := 3) rfl rfl rfl) ?_ | refine joinG_n (Ghost.fcell (i := 1) (k := 1) (j := 3) rfl rfl rfl) ?_ | refine joinG_n (Ghost.fcell (i := 1) (k := 2) (j := 3) rfl rfl rfl) ?_ | refine joinG_n (Ghost.fcell (i := 1) (k := 3) (j := 3) rfl rfl rfl) ?_ | refine joinG_n (Ghost.fcell (i := 2) (k := 0) (j := 3) rfl rfl rfl) ?_ | refine joinG_n (Ghost.fcell (i := 2) (k := 1) (j := 3) rfl rfl rfl) ?_ | refine joinG_n (Ghost.fcell (i := 2) (k := 2) (j := 3) rfl rfl rfl) ?_ | refine joinG_n (Ghost.fcell (i := 2) (k := 3) (j := 3) rfl rfl rfl) ?_ | refine joinG_n (Ghost.fcell (i := 3) (k := 0) (j := 3) rfl rfl rfl) ?_ | refine joinG_n (Ghost.fcell (i := 3) (k := 1) (j := 3) rfl rfl rfl) ?_ | refine joinG_n (Ghost.fcell (i := 3) (k := 2) (j := 3) rfl rfl rfl) ?_ | refine joinG_n (Ghost.fcell (i := 3) (k := 3) (j := 3) rfl rfl rfl) ?_)
       (first | refine joinG_n (Ghost.fcell (i := 0) (k := 0) (j := 0) rfl rfl rfl) ?_ | refine joinG_n (Ghost.fcell (i := 0) (k := 1) (j := 0) rfl rfl rfl) ?_ | refine joinG_n (Ghost.fcell (i := 0) (k := 2) (j := 0) rfl rfl rfl) ?_ | refine joinG_n (Ghost.fcell (i := 0) (k := 3) (j := 0) rfl rfl rfl) ?_ | refine joinG_n (Ghost.fcell (i := 1) (k := 0) (j := 0) rfl rfl rfl) ?_ | refine joinG_n (Ghost.fcell (i := 1) (k := 1) (j := 0) rfl rfl rfl) ?_ | refine joinG_n (Ghost.fcell (i := 1) (k := 2) (j := 0) rfl rfl rfl) ?_ | refine joinG_n (Ghost.fcell (i := 1) (k := 3) (j := 0) rfl rfl rfl) ?_ | refine joinG_n (Ghost.fcell (i := 2) (k := 0) (j := 0) rfl rfl rfl) ?_ | refine joinG_n (Ghost.fcell (i := 2) (k := 1) (j := 0) rfl rfl rfl) ?_ | refine joinG_n (Ghost.fcell (i := 2) (k := 2) (j := 0) rfl rfl rfl) ?_ | refine joinG_n (Ghost.fcell (i := 2) (k := 3) (j := 0) rfl rfl rfl) ?_ | refine joinG_n (Ghost.fcell (i := 3) (k := 0) (j := 0) rfl rfl rfl) ?_ | refine joinG_n (Ghost.fcell (i := 3) (k := 1) (j := 0) rfl rfl rfl) ?_ | refine joinG_n (Ghost.fcell (i := 3) (k := 2) (j := 0) rfl rfl rfl) ?_ | refine joinG_n (Ghost.fcell (i := 3) (k := 3) (j := 0) rfl rfl rfl) ?_)
       refine joinG_z (⟨T ++ [y60], R, Wy, Pl, C, S⟩, a + 9) ⟨?_, by dsimp only; omega⟩ trivial (by repeat (first | exact keeps_refl | refine keeps_upd rfl ?_ | refine keeps_loop rfl rfl ?_)) ?_
       ·exact good_roomT hT hPl (by omega) hTs hPs (by simp at hy60; rcases hy60 with rfl | rfl | rfl <;> simp)
       ·repeat (first | exact List.Perm.nil | refine permTo 0 rfl ?_ | refine permTo 1 rfl ?_ | refine permTo 2 rfl ?_ | refine permTo 3 rfl ?_ | (refine permToE 0 rfl ?hq ?_; (case hq => simp [setL, hcells]; done)) | (refine permToE 1 rfl ?hq ?_; (case hq => simp [setL, hcells]; done)) | (refine permToE 2 rfl ?hq ?_; (case hq => simp [setL, hcells]; done)) | (refine permToE 3 rfl ?hq ?_; (case hq => simp [setL, hcells]; done)) | fail)
      ·try simp at h6
       refine hw_reg ?_
       refine dp rfl (pop_eql rfl rfl) ?_
       refine dp rfl (pop_assign rfl) ?_
       refine dn ?_
       refine hw_cond rfl (fun h7 => ?_) (fun h8 => ?_)
       ·try simp at h7
        refine hw_reg1 ?_
        refine dp rfl (pop_move rfl) ?_
        refine de rfl (eop_callx (i := 0) ca8 rfl (WeakL.refl _) rfl (c_benchmake_Stream_Odd (by omega) (by omega) (by omega) (by omega)) ?_)
        rintro _ _ ⟨y67, rfl, rfl⟩
        refine dp rfl (pop_move rfl) ?_
        refine de rfl (eop_callx (i := 0) ca8 rfl (WeakL.refl _) rfl (c_benchmake_Stream_Odd (by omega) (by omega) (by omega) (by omega)) ?_)
        rintro _ _ ⟨y69, rfl, rfl⟩
        refine dp rfl (pop_fieldAddr_raw ty28 rfl ty3 (by decide) rfl) ?_
        refine de0 (eop_store (i := 2) ty3 rfl rfl rfl rfl rfl (Nat.le_of_ble_eq_true rfl) ?_)
        refine dp rfl (pop_fieldAddr_raw ty28 rfl ty3 (by decide) rfl) ?_
        refine de0 (eop_store (i := 2) ty3 rfl rfl rfl rfl rfl (Nat.le_of_ble_eq_true rfl) ?_)
        refine dn ?_
        refine blockQ_n ?_
        (first | refine joinG_n (Ghost.fcell (i := 0) (k := 0) (j := 3) rfl rfl rfl) ?_ | refine joinG_n (Ghost.fcell (i := 0) (k := 1) (j := 3) rfl rfl rfl) ?_ | refine joinG_n (Ghost.fcell (i := 0) (k := 2) (j := 3) rfl rfl rfl) ?_ | refine joinG_n (Ghost.fcell (i := 0) (k := 3) (j := 3) rfl rfl rfl) ?_ | refine joinG_n (Ghost.fcell (i := 1) (k := 0) (j := 3) rfl rfl rfl) ?_ | refine joinG_n (Ghost.fcell (i := 1) (k := 1) (j := 3) rfl rfl rfl) ?_ | refine joinG_n (Ghost.fcell (i := 1) (k := 2) (j := 3) rfl rfl rfl) ?_ | refine joinG_n (Ghost.fcell (i := 1) (k := 3) (j := 3) rfl rfl rfl) ?_ | refine joinG_n (Ghost.fcell (i := 2) (k := 0) (j := 3) rfl rfl rfl) ?_ | refine joinG_n (Ghost.fcell (i := 2) (k := 1) (j := 3) rfl rfl rfl) ?_ | refine joinG_n (Ghost.fcell (i := 2) (k := 2) (j := 3) rfl rfl rfl) ?_ | refine joinG_n (Ghost.fcell (i := 2) (k := 3) (j := 3) rfl rfl rfl) ?_ | refine joinG_n (Ghost.fcell (i := 3) (k := 0) (j := 3) rfl rfl rfl) ?_ | refine joinG_n (Ghost.fcell (i := 3) (k := 1) (j := 3) rfl rfl rfl) ?_ | refine joinG_n (Ghost.fcell (i := 3) (k := 2) (j := 3) rfl rfl rfl) ?_ | refine joinG_n (Ghost.fcell (i := 3) (k := 3) (j := 3) rfl rfl rfl) ?_)
        refine joinG_z (⟨T, y67, y69, Pl, C, S⟩, a + 12) ⟨?_, by dsimp only; omega⟩ trivial (by repeat (first | exact keeps_refl | refine keeps_upd rfl ?_ | refine keeps_loop rfl rfl ?_)) ?_
        ·exact good_room hT hPl (by omega) hTs hPs
        ·repeat (first | exact List.Perm.nil | refine permTo 0 rfl ?_ | refine permTo 1 rfl ?_ | refine permTo 2 rfl ?_ | refine permTo 3 rfl ?_ | (refine permToE 0 rfl ?hq ?_; (case hq => simp [setL, hcells]; done)) | (refine permToE 1 rfl ?hq ?_; (case hq => simp [setL, hcells]; done)) | (refine permToE 2 rfl ?hq ?_; (case hq => simp [setL, hcells]; done)) | (refine permToE 3 rfl ?hq ?_; (case hq => simp [setL, hcells]; done)) | fail)
       ·try simp at h8
        refine hw_reg ?_
        refine dp rfl (pop_eql rfl rfl) ?_
        refine dp rfl (pop_assign rfl) ?_
        refine dn ?_
        refine hw_cond rfl (fun h9 => ?_) (fun h10 => ?_)
        ·try simp at h9
         obtain ⟨Px, Pt, rfl⟩ : ∃ x t, Pl = x :: t := by
          cases Pl with
          | nil => simp at hPl; omega
          | cons x t => exact ⟨x, t, rfl⟩
         have hPt : Pt.length = k - 1 := by simp at hPl; omega
         have hPts : ∀ s ∈ Pt, s.length ≤ 100 := fun s hs => hPs s (List.mem_cons_of_mem _ hs)
         refine hw_arrc (i := 1) rfl (fun h0 he => ?_) (fun bb off cap hv hcap => ?_)
         ·exfalso; simp at he
         subst hv
         refine hw_ghost (Ghost.perm (List.Perm.swap _ _ _)) ?_
         refine hw_ghost (Ghost.tail (x := .str Px) (es := Pt.map .str)) ?_
         simp only [List.map_cons, List.length_cons] at hcap
         refine hw_draw1 (fun M => ∃ i : Nat, M[i]? = some (RoomC b3 (eSs (T)) R Wy (.raw (.slice (some ⟨bb, off, none⟩) ((Px :: Pt).map HVal.str).length cap)) C S)) [1] mixed ?_
         refine ahp 0 rfl rfl (by kernel_rfl) (by kernel_rfl) (pop_fieldAddr_raw ty28 rfl ty26 (by decide) rfl) ?_
         refine ahl 1 rfl rfl (by kernel_rfl) (by kernel_rfl) (by simp) (⟨2, rfl⟩) (fun M hM => by obtain ⟨i, hi⟩ := hM; exact eop_load (i := i) ty26 rfl hi (.inl ⟨rfl, rfl⟩) ⟨rfl, rfl⟩) ?_
         refine ahp 2 rfl rfl (by kernel_rfl) (by kernel_rfl) (pop_tail (n := (Pt.map HVal.str).length) ty26 ty9 rfl hcap) ?_
         refine ahp 3 rfl rfl (by kernel_rfl) (by kernel_rfl) (pop_move rfl) ?_
         refine ahp 4 rfl rfl (by kernel_rfl) (by kernel_rfl) (pop_buildSlice (hs := [_, _, _]) ty26 ty9 rfl rfl (by decide) (by decide) rfl) ?_
         refine ahe 5 rfl (by kernel_rfl) ?_
         refine hop_e rfl (eop_callx (i := 1) ca9 rfl (WeakL.refl _) rfl (c_benchmake_Stream_Some (L := [_, _, _]) (by omega) (by simp_all) (by simp_all)) ?_)
         rintro _ _ ⟨y79, rfl, hy79, rfl⟩
         refine ⟨fun _ => by first | exact .inl ⟨0, rfl⟩ | exact .inl ⟨1, rfl⟩ | exact .inl ⟨2, rfl⟩ | exact .inr (by simp [Before, Region.binds]), ?_⟩
         refine ahp 6 rfl rfl (by kernel_rfl) (by kernel_rfl) (pop_buildSlice (hs := [_]) ty26 ty9 rfl rfl (by decide) (by decide) rfl) ?_
         refine ahe 7 rfl (by kernel_rfl) ?_
         refine hop_e rfl (eop_append (i := 1) ty26 ty9 rfl rfl rfl rfl rfl (by simp [flat, hcells]) (by simp; omega) fun v81 => ?_)
         refine ⟨fun _ => by first | exact .inl ⟨0, rfl⟩ | exact .inl ⟨1, rfl⟩ | exact .inl ⟨2, rfl⟩ | exact .inr (by simp [Before, Region.binds]), ?_⟩
         refine ahp 8 rfl rfl (by kernel_rfl) (by kernel_rfl) (pop_fieldAddr_raw ty28 rfl ty26 (by decide) rfl) ?_
         refine ahe 9 rfl (by kernel_rfl) ?_
         refine hop_e0 (eop_store (i := 2) ty26 rfl rfl rfl rfl rfl (Nat.le_of_ble_eq_true rfl) ?_)
         refine ⟨fun _ => by first | exact .inl ⟨0, rfl⟩ | exact .inl ⟨1, rfl⟩ | exact .inl ⟨2, rfl⟩ | exact .inr (by simp [Before, Region.binds]), ?_⟩
         refine ahz (by kernel_rfl) ?_
         refine blockQ_n ?_
         (first | refine joinG_n (Ghost.fcell (i := 0) (k := 0) (j := 3) rfl rfl rfl) ?_ | refine joinG_n (Ghost.fcell (i := 0) (k := 1) (j := 3) rfl rfl rfl) ?_ | refine joinG_n (Ghost.fcell (i := 0) (k := 2) (j := 3) rfl rfl rfl) ?_ | refine joinG_n (Ghost.fcell (i := 0) (k := 3) (j := 3) rfl rfl rfl) ?_ | refine joinG_n (Ghost.fcell (i := 1) (k := 0) (j := 3) rfl rfl rfl) ?_ | refine joinG_n (Ghost.fcell (i := 1) (k := 1) (j := 3) rfl rfl rfl) ?_ | refine joinG_n (Ghost.fcell (i := 1) (k := 2) (j := 3) rfl rfl rfl) ?_ | refine joinG_n (Ghost.fcell (i := 1) (k := 3) (j := 3) rfl rfl rfl) ?_ | refine joinG_n (Ghost.fcell (i := 2) (k := 0) (j := 3) rfl rfl rfl) ?_ | refine joinG_n (Ghost.fcell (i := 2) (k := 1) (j := 3) rfl rfl rfl) ?_ | refine joinG_n (Ghost.fcell (i := 2) (k := 2) (j := 3) rfl rfl rfl) ?_ | refine joinG_n (Ghost.fcell (i := 2) (k := 3) (j := 3) rfl rfl rfl) ?_ | refine joinG_n (Ghost.fcell (i := 3) (k := 0) (j := 3) rfl rfl rfl) ?_ | refine joinG_n (Ghost.fcell (i := 3) (k := 1) (j := 3) rfl rfl rfl) ?_ | refine joinG_n (Ghost.fcell (i := 3) (k := 2) (j := 3) rfl rfl rfl) ?_ | refine joinG_n (Ghost.fcell (i := 3) (k := 3) (j := 3) rfl rfl rfl) ?_)
         refine joinG_z (⟨T, R, Wy, Pt ++ [y79], C, S⟩, a + 9) ⟨?_, by dsimp only; omega⟩ trivial (by repeat (first | exact keeps_refl | refine keeps_upd rfl ?_ | refine keeps_loop rfl rfl ?_)) ?_
         ·exact good_roomP hT hPt (by omega) hTs hPts (by simp at hy79; rcases hy79 with rfl | rfl | rfl <;> simp)
         ·repeat (first | exact List.Perm.nil | refine permTo 0 rfl ?_ | refine permTo 1 rfl ?_ | refine permTo 2 rfl ?_ | refine permTo 3 rfl ?_ | (refine permToE 0 rfl ?hq ?_; (case hq => simp [setL, hcells]; done)) | (refine permToE 1 rfl ?hq ?_; (case hq => simp [setL, hcells]; done)) | (refine permToE 2 rfl ?hq ?_; (case hq => simp [setL, hcells]; done)) | (refine permToE 3 rfl ?hq ?_; (case hq => simp [setL, hcells]; done)) | fail)
        ·try simp at h10
         refine hw_reg1 ?_
         refine dp rfl (pop_move rfl) ?_
         refine de rfl (eop_callx (i := 0) ca8 rfl (WeakL.refl _) rfl (c_benchmake_Stream_Odd (by omega) (by omega) (by omega) (by omega)) ?_)
         rintro _ _ ⟨y48, rfl, rfl⟩
         refine dp rfl (pop_move rfl) ?_
         refine de rfl (eop_callx (i := 0) ca8 rfl (WeakL.refl _) rfl (c_benchmake_Stream_Odd (by omega) (by omega) (by omega) (by omega)) ?_)
         rintro _ _ ⟨y50, rfl, rfl⟩
         refine dp rfl (pop_fieldAddr_raw ty28 rfl ty3 (by decide) rfl) ?_
         refine de0 (eop_store (i := 2) ty3 rfl rfl rfl rfl rfl (Nat.le_of_ble_eq_true rfl) ?_)
         refine dp rfl (pop_fieldAddr_raw ty28 rfl ty3 (by decide) rfl) ?_
         refine de0 (eop_store (i := 2) ty3 rfl rfl rfl rfl rfl (Nat.le_of_ble_eq_true rfl) ?_)
         refine dn ?_
         refine blockQ_n ?_
         (first | refine joinG_n (Ghost.fcell (i := 0) (k := 0) (j := 3) rfl rfl rfl) ?_ | refine joinG_n (Ghost.fcell (i := 0) (k := 1) (j := 3) rfl rfl rfl) ?_ | refine joinG_n (Ghost.fcell (i := 0) (k := 2) (j := 3) rfl rfl rfl) ?_ | refine joinG_n (Ghost.fcell (i := 0) (k := 3) (j := 3) rfl rfl rfl) ?_ | refine joinG_n (Ghost.fcell (i := 1) (k := 0) (j := 3) rfl rfl rfl) ?_ | refine joinG_n (Ghost.fcell (i := 1) (k := 1) (j := 3) rfl rfl rfl) ?_ | refine joinG_n (Ghost.fcell (i := 1) (k := 2) (j := 3) rfl rfl rfl) ?_ | refine joinG_n (Ghost.fcell (i := 1) (k := 3) (j := 3) rfl rfl rfl) ?_ | refine joinG_n (Ghost.fcell (i := 2) (k := 0) (j := 3) rfl rfl rfl) ?_ | refine joinG_n (Ghost.fcell (i := 2) (k := 1) (j := 3) rfl rfl rfl) ?_ | refine joinG_n (Ghost.fcell (i := 2) (k := 2) (j := 3) rfl rfl rfl) ?_ | refine joinG_n (Ghost.fcell (i := 2) (k := 3) (j := 3) rfl rfl rfl) ?_ | refine joinG_n (Ghost.fcell (i := 3) (k := 0) (j := 3) rfl rfl rfl) ?_ | refine joinG_n (Ghost.fcell (i := 3) (k := 1) (j := 3) rfl rfl rfl) ?_ | refine joinG_n (Ghost.fcell (i := 3) (k := 2) (j := 3) rfl rfl rfl) ?_ | refine joinG_n (Ghost.fcell (i := 3) (k := 3) (j := 3) rfl rfl rfl) ?_)
         refine joinG_z (⟨T, R, Wy, Pl, y48, y50⟩, a + 12) ⟨?_, by dsimp only; omega⟩ trivial (by repeat (first | exact keeps_refl | refine keeps_upd rfl ?_ | refine keeps_loop rfl rfl ?_)) ?_
         ·exact good_room hT hPl (by omega) hTs hPs
         ·repeat (first | exact List.Perm.nil | refine permTo 0 rfl ?_ | refine permTo 1 rfl ?_ | refine permTo 2 rfl ?_ | refine permTo 3 rfl ?_ | (refine permToE 0 rfl ?hq ?_; (case hq => simp [setL, hcells]; done)) | (refine permToE 1 rfl ?hq ?_; (case hq => simp [setL, hcells]; done)) | (refine permToE 2 rfl ?hq ?_; (case hq => simp [setL, hcells]; done)) | (refine permToE 3 rfl ?hq ?_; (case hq => simp [setL, hcells]; done)) | fail)
     ·try simp at h4
      refine hw_skip ?_
      (first | refine joinG_n (Ghost.fcell (i := 0) (k := 0) (j := 3) rfl rfl rfl) ?_ | refine joinG_n (Ghost.fcell (i := 0) (k := 1) (j := 3) rfl rfl rfl) ?_ | refine joinG_n (Ghost.fcell (i := 0) (k := 2) (j := 3) rfl rfl rfl) ?_ | refine joinG_n (Ghost.fcell (i := 0) (k := 3) (j := 3) rfl rfl rfl) ?_ | refine joinG_n (Ghost.fcell (i := 1) (k := 0) (j := 3) rfl rfl rfl) ?_ | refine joinG_n (Ghost.fcell (i := 1) (k := 1) (j := 3) rfl rfl rfl) ?_ | refine joinG_n (Ghost.fcell (i := 1) (k := 2) (j := 3) rfl rfl rfl) ?_ | refine joinG_n (Ghost.fcell (i := 1) (k := 3) (j := 3) rfl rfl rfl) ?_ | refine joinG_n (Ghost.fcell (i := 2) (k := 0) (j := 3) rfl rfl rfl) ?_ | refine joinG_n (Ghost.fcell (i := 2) (k := 1) (j := 3) rfl rfl rfl) ?_ | refine joinG_n (Ghost.fcell (i := 2) (k := 2) (j := 3) rfl rfl rfl) ?_ | refine joinG_n (Ghost.fcell (i := 2) (k := 3) (j := 3) rfl rfl rfl) ?_ | refine joinG_n (Ghost.fcell (i := 3) (k := 0) (j := 3) rfl rfl rfl) ?_ | refine joinG_n (Ghost.fcell (i := 3) (k := 1) (j := 3) rfl rfl rfl) ?_ | refine joinG_n (Ghost.fcell (i := 3) (k := 2) (j := 3) rfl rfl rfl) ?_ | refine joinG_n (Ghost.fcell (i := 3) (k := 3) (j := 3) rfl rfl rfl) ?_)
      refine joinG_z (⟨T, R, Wy, Pl, C, S⟩, a + 7) ⟨?_, by dsimp only; omega⟩ trivial (by repeat (first | exact keeps_refl | refine keeps_upd rfl ?_ | refine keeps_loop rfl rfl ?_)) ?_
      ·exact good_room hT hPl (by omega) hTs hPs
      ·repeat (first | exact List.Perm.nil | refine permTo 0 rfl ?_ | refine permTo 1 rfl ?_ | refine permTo 2 rfl ?_ | refine permTo 3 rfl ?_ | (refine permToE 0 rfl ?hq ?_; (case hq => simp [setL, hcells]; done)) | (refine permToE 1 rfl ?hq ?_; (case hq => simp [setL, hcells]; done)) | (refine permToE 2 rfl ?hq ?_; (case hq => simp [setL, hcells]; done)) | (refine permToE 3 rfl ?hq ?_; (case hq => simp [setL, hcells]; done)) | fail)
    ·intro q hq2
     obtain ⟨r, a2⟩ := q
     dsimp only at hq2
     refine hw_reg ?_
     refine de rfl (eop_loadw (i := 0) ty28 rfl rfl rfl rfl rfl ?_)
     refine de0 (eop_store (i := 1) ty28 rfl rfl rfl rfl rfl (Nat.le_of_ble_eq_true rfl) ?_)
     refine dn ?_
     refine hw_ret ?_
     exact ⟨_, _, (Ghost.drop).trans (Ghost.fc0 2 rfl), [_], _, ⟨⟨_, _, _, _, _, rfl, ty28, .inr ⟨rfl, rfl, rfl⟩⟩, trivial⟩, Weak.refl _, r, a2, rfl, hq2.1, hq2.2, rfl⟩
end Go.Proofs.YtmgbigiegjlieaaGreatDoor
end
