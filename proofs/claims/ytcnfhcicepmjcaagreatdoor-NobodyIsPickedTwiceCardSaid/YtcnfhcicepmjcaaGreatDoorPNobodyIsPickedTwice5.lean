/- Part 5 of the proof: a program logic, contracts of functions and plain facts; no conditions. -/
import Derived.Test.YtcnfhcicepmjcaaGreatDoorPNobodyIsPickedTwice4
import Derived.KernelRfl
set_option linter.unusedVariables false
set_option linter.unusedSimpArgs false
section
namespace Go.Proofs.YtcnfhcicepmjcaaGreatDoor
open Go.HL
set_option maxRecDepth 100000
set_option linter.unusedVariables false
set_option linter.unusedSimpArgs false
/-- slices.IndexFunc[[]string,string] -/
theorem c_slices_IndexFunc_string_string [Tracks] {l : List Str} {fid : FuncId} {caps : List HVal} {p : Str → Bool} (hca : Callable Tryz.prog fid) (hp : ∀ x, ConP Tryz.prog fid ([HVal.str x] ++ caps) (.bool (p x))) (hl : l.length ≤ 1000000) : ConP Tryz.prog 212 [.slice 1 (l.map HVal.str), .fn (.func fid) [] caps] (.int .i64 (idxF p l 0)) := by
 refine Con.of_body Tryz.func212 rfl Tryz.ntmps212 rfl rfl ?_
 refine hw_reg ?_
 refine dp rfl (pop_assign rfl) ?_
 refine dn ?_
 refine hw_seq ?_
 refine hw_reg ?_
 refine dp rfl (pop_move rfl) ?_
 refine dp rfl (pop_lenm ty28 rfl) ?_
 refine dp rfl (pop_move rfl) ?_
 refine dn ?_
 refine hw_block ?_
 refine hw_loopw [4, 5, 8, 9, 10, 11, 12, 13, 14, 15, 16, 17, 18] (fun (k : Nat) => [(8, .int .i64 k)]) (fun (k : Nat) => []) (fun (k : Nat) => k ≤ l.length ∧ (idxF p l 0 = idxF p (l.drop k) k)) (fun (k : Nat) => l.length - k) (0) ?_ ?_ ?_ ?_
 ·exact ⟨Nat.zero_le _, rfl⟩
 ·exact ⟨rfl, trivial⟩
 ·exact List.Perm.refl _
 ·intro k hinv
  obtain ⟨hk, hg⟩ := hinv
  refine hw_reg ?_
  refine dp rfl (pop_lss rfl rfl) ?_
  refine dn ?_
  refine hw_seq ?_
  refine hw_cond rfl (fun h1 => ?_) (fun h2 => ?_)
  ·try simp at h1
   obtain ⟨x, hx⟩ : ∃ x, l[k]? = some x := ⟨_, List.getElem?_eq_getElem h1⟩
   have hdx := drop_cons hx
   rw [hdx] at hg
   refine hw_skip ?_
   refine seqQ_n ?_
   refine hw_seq ?_
   refine hw_block ?_
   refine hw_reg ?_
   refine dp rfl (pop_move rfl) ?_
   refine dp rfl (pop_assign rfl) ?_
   refine dn ?_
   refine hw_reg ?_
   refine dp rfl (pop_move rfl) ?_
   refine dp rfl (pop_move rfl) ?_
   refine dp rfl (pop_move rfl) ?_
   refine dp rfl (pop_idx ty28 ty9 rfl rfl rfl (by assumption)) ?_
   refine dp rfl (pop_load ty9 rfl rfl rfl) ?_
   refine dp rfl (pop_callv hca rfl rfl (WeakL.refl _) (hp _)) ?_
   refine dn ?_
   refine hw_cond rfl (fun h3 => ?_) (fun h4 => ?_)
   ·try simp at h3
    refine hw_reg ?_
    refine dp rfl (pop_move rfl) ?_
    refine dp rfl (pop_assign rfl) ?_
    refine dn ?_
    refine hw_ret ?_
    refine ret_p rfl ?_
    show HVal.int .i64 _ = _
    (rw [hg]; simp_all [idxF])
   ·try simp at h4
    refine hw_skip ?_
    refine blockQ_n ?_
    refine seqQ_n ?_
    refine hw_reg1 ?_
    refine dp rfl (pop_add64 rfl rfl (by omega) (by omega)) ?_
    refine dp rfl (pop_move rfl) ?_
    refine dn ?_
    refine ⟨k + 1, ?_, ?_, ⟨rfl, trivial⟩, (by repeat (first | exact keeps_refl | refine keeps_upd rfl ?_ | refine keeps_loop rfl rfl ?_)), List.Perm.refl _⟩
    ·refine ⟨by omega, ?_⟩
     rw [hg, idxF, if_neg (by simp_all)]; rfl
    ·dsimp only; omega
  ·try simp at h2
   have hnk : l.length ≤ k := by omega
   obtain rfl : k = l.length := by omega
   rw [drop_all (Nat.le_refl _)] at hg
   refine hw_exit ?_
   refine seqQ_x ?_
   refine loopQ_x ?_
   refine blockQ_eq ?_
   refine seqQ_n ?_
   refine hw_reg ?_
   refine dp rfl (pop_assign rfl) ?_
   refine dn ?_
   refine hw_ret ?_
   refine ret_p rfl ?_
   show HVal.int .i64 _ = _
   (rw [hg]; rfl)

/-- slices.DeleteFunc[[]string,string] -/
theorem c_slices_DeleteFunc_string_string [Tracks] {l : List Str} {fid : FuncId} {caps : List HVal} {p : Str → Bool} {v : Value} (hca : Callable Tryz.prog fid) (hp : ∀ x, ConP Tryz.prog fid ([HVal.str x] ++ caps) (.bool (p x))) (hl : l.length ≤ 1000000) : Con Tryz.prog 132 [.raw v, .fn (.func fid) [] caps] [.arr v 1 (l.map HVal.str)] (fun x M' => ∃ u, x = .raw u ∧ M' = [.arr u 1 ((l.filter (fun x => !p x)).map HVal.str)]) := by
 refine Con.of_body Tryz.func132 rfl Tryz.ntmps132 rfl rfl ?_
 refine hw_reg ?_
 refine dp rfl (pop_assign rfl) ?_
 refine dn ?_
 refine hw_reg ?_
 refine dp rfl (pop_move rfl) ?_
 refine dp rfl (pop_move rfl) ?_
 refine de rfl (eop_callb (hs' := [.slice 1 (l.map HVal.str), .fn (.func fid) [] caps]) ca212 rfl ⟨.arr (i := 0) rfl, .weak (Weak.refl _), trivial⟩ (c_slices_IndexFunc_string_string (p := p) hca hp hl) rfl ?_)
 refine dp rfl (pop_assign rfl) ?_
 refine dn ?_
 refine hw_seq ?_
 refine hw_reg ?_
 refine dp rfl (pop_move rfl) ?_
 refine dp rfl (pop_eql rfl rfl) ?_
 refine dn ?_
 refine hw_cond rfl (fun h1 => ?_) (fun h2 => ?_)
 ·try simp at h1
  refine hw_reg ?_
  refine dp rfl (pop_move rfl) ?_
  refine dp rfl (pop_assign rfl) ?_
  refine dn ?_
  refine hw_ret ?_
  (refine ret_q rfl ⟨_, rfl, ?_⟩
   rw [idxF_none p l 0 (by omega) h1]
   done)
 ·try simp at h2
  refine hw_skip ?_
  refine seqQ_n ?_
  refine hw_seq ?_
  obtain ⟨i0, hi0, hil, ⟨x0, hx0, hp0⟩, hb0⟩ := idxF_found p l 0 (by omega) h2
  rw [Int.zero_add] at hi0
  obtain ⟨hD0, hn0⟩ := DelInv.start (p := p) hil hx0 hp0 hb0
  refine hw_arrc (i := 0) rfl (fun h0 he => ?_) (fun b off cap hv hcap => ?_)
  ·exfalso; have := congrArg List.length he; simp at this; subst this; simp at hil
  rw [List.length_map] at hv hcap
  subst hv
  refine hw_reg ?_
  refine dp rfl (pop_move rfl) ?_
  refine dp rfl (pop_eq (pop_add64 rfl rfl (by rw [hi0]; omega) (by rw [hi0]; omega)) (congrArg _ (by rw [hi0]))) ?_
  refine dp rfl (pop_assign rfl) ?_
  refine dn ?_
  refine hw_block ?_
  refine hw_loopw2 [5, 6, 7, 16, 17, 18, 19, 20, 21, 22, 23, 24, 25, 26, 27, 28, 29, 30, 31, 32, 33, 34, 35] (fun (j : Nat) (D : List Str) => [(6, .int .i64 (j : Int)), (5, .int .i64 (((l.take j).filter (fun x => !p x)).length : Int))]) (fun (j : Nat) (D : List Str) => [.arr (.slice (some ⟨b, off, none⟩) l.length cap) 1 (D.map HVal.str)]) (fun (j : Nat) (D : List Str) => DelInv p l j D) (fun (j : Nat) (D : List Str) => l.length - j) (i0 + 1) (l) ?_ ?_ ?_ ?_
  ·exact hD0
  ·exact ⟨rfl, some_int (by rw [hn0, hi0]), trivial⟩
  ·exact List.Perm.refl _
  ·intro j D hD
   have hlt0 := hD.lt
   have hle0 := hD.len
   refine hw_seq ?_
   refine hw_reg ?_
   refine dp rfl (pop_move rfl) ?_
   refine dp rfl (pop_move rfl) ?_
   refine de rfl (eop_lenm (i := 0) ty28 rfl rfl ?_)
   refine dp rfl (pop_lss rfl rfl) ?_
   refine dn ?_
   refine hw_cond rfl (fun h3 => ?_) (fun h4 => ?_)
   ·try simp at h3
    obtain ⟨x, hx⟩ : ∃ x, l[j]? = some x := ⟨_, List.getElem?_eq_getElem (by omega)⟩
    refine hw_skip ?_
    refine seqQ_n ?_
    refine hw_seq ?_
    refine hw_block ?_
    refine hw_reg ?_
    refine dp rfl (pop_move rfl) ?_
    refine dp rfl (pop_move rfl) ?_
    refine dp rfl (pop_idxraw (j := j) ty28 ty9 rfl rfl rfl (by omega)) ?_
    refine de rfl (eop_load_el (i := 0) (j := j) 0 ty9 rfl rfl rfl (hD.get hx) rfl rfl ?_)
    refine dp rfl (pop_assign rfl) ?_
    refine dn ?_
    refine hw_reg ?_
    refine dp rfl (pop_move rfl) ?_
    refine dp rfl (pop_move rfl) ?_
    refine dp rfl (pop_callv hca rfl rfl (WeakL.refl _) (hp _)) ?_
    refine dp rfl (pop_not rfl) ?_
    refine dn ?_
    refine hw_cond rfl (fun h5 => ?_) (fun h6 => ?_)
    ·try simp at h5
     refine hw_reg ?_
     refine dp rfl (pop_move rfl) ?_
     refine dp rfl (pop_move rfl) ?_
     refine dp rfl (pop_move rfl) ?_
     refine dp rfl (pop_idxraw (j := ((l.take j).filter (fun x => !p x)).length) ty28 ty9 rfl rfl rfl (by have := hD.lt; omega)) ?_
     refine de0 (eop_store_elw (i := 0) (j := ((l.take j).filter (fun x => !p x)).length) (y := D[((l.take j).filter (fun x => !p x)).length]'(by have := hD.lt; have := hD.len; omega)) (y' := x) ty9 rfl rfl rfl rfl (List.getElem?_eq_getElem _) rfl rfl rfl ?_)
     refine dn ?_
     refine hw_reg1 ?_
     refine dp rfl (pop_move rfl) ?_
     refine dp rfl (pop_add64 rfl rfl (by omega) (by have := hD.lt; omega)) ?_
     refine dp rfl (pop_assign rfl) ?_
     refine dn ?_
     refine blockQ_n ?_
     refine seqQ_n ?_
     refine hw_reg1 ?_
     refine dp rfl (pop_move rfl) ?_
     refine dp rfl (pop_add64 rfl rfl (by omega) (by omega)) ?_
     refine dp rfl (pop_assign rfl) ?_
     refine dn ?_
     exact ⟨j + 1, _, (hD.keep hx (by simp_all)).1, by dsimp only; omega, ⟨rfl, some_int (by rw [(hD.keep hx (by simp_all)).2]; rfl), trivial⟩, (by repeat (first | exact keeps_refl | refine keeps_upd rfl ?_ | refine keeps_loop rfl rfl ?_)), List.Perm.refl _⟩
    ·try simp at h6
     refine hw_skip ?_
     refine blockQ_n ?_
     refine seqQ_n ?_
     refine hw_reg1 ?_
     refine dp rfl (pop_move rfl) ?_
     refine dp rfl (pop_add64 rfl rfl (by omega) (by omega)) ?_
     refine dp rfl (pop_assign rfl) ?_
     refine dn ?_
     exact ⟨j + 1, _, (hD.skip hx (by simp_all)).1, by dsimp only; omega, ⟨rfl, some_int (by rw [(hD.skip hx (by simp_all)).2]), trivial⟩, (by repeat (first | exact keeps_refl | refine keeps_upd rfl ?_ | refine keeps_loop rfl rfl ?_)), List.Perm.refl _⟩
   ·try simp at h4
    obtain rfl : j = l.length := by have := hD.jle; omega
    have hend := hD.done
    refine hw_exit ?_
    refine seqQ_x ?_
    refine loopQ2_x ?_
    refine blockQ_eq ?_
    refine seqQ_n ?_
    refine hw_reg ?_
    refine dp rfl (pop_move rfl) ?_
    refine dp rfl (pop_move rfl) ?_
    refine dp rfl (pop_slraw (l := ((l.take l.length).filter (fun x => !p x)).length) ty28 ty9 rfl ⟨_, _, rfl, rfl⟩ rfl (by omega) (by omega) hcap) ?_
    refine de0 (eop_clear_at (i := 0) (m := ((l.take l.length).filter (fun x => !p x)).length) (((l.take l.length).filter (fun x => !p x)).length) ty28 ty9 rfl rfl rfl (slOff_or (by omega) hcap) rfl (by omega) (Nat.le_refl _) (by rw [List.length_map, hD.len]; omega) ?_)
    refine dn ?_
    refine hw_reg ?_
    refine dp rfl (pop_move rfl) ?_
    refine dp rfl (pop_move rfl) ?_
    refine dp rfl (pop_slraw0 (h := ((l.take l.length).filter (fun x => !p x)).length) ty28 ty9 rfl ⟨_, _, rfl, rfl⟩ (by omega)) ?_
    refine dp rfl (pop_assign rfl) ?_
    refine dn ?_
    refine hw_ret ?_
    (refine ret_q rfl ⟨_, rfl, ?_⟩
     rw [List.take_length, ← List.map_take, hend]; rfl)

/-- (*benchwarmer/draft.run).last -/
theorem c_draft_run_last [Tracks] {r : Room} {A T l : List Pick} {S : List Str}  (hl : l.length ≤ 1000000) : ConP Tryz.prog 128 [.vptr (RunH r A T l S) 0] (.int .i64 (lastAt r l)) := by
 refine Con.of_body Tryz.func128 rfl Tryz.ntmps128 rfl rfl ?_
 refine hw_reg ?_
 refine dp rfl (pop_assign rfl) ?_
 refine dn ?_
 refine hw_seq ?_
 refine hw_reg ?_
 refine dp rfl (pop_move rfl) ?_
 refine dp rfl ((pop_nilCheck rfl)) ?_
 refine dp rfl (pop_fieldAddr ty216 rfl ty72 (by decide) rfl) ?_
 refine dp rfl (pop_load ty72 rfl rfl rfl) ?_
 refine dp rfl (pop_lenm ty72 rfl) ?_
 refine dp rfl (pop_eql rfl rfl) ?_
 refine dn ?_
 refine hw_cond rfl (fun h1 => ?_) (fun h2 => ?_)
 ·try simp at h1
  refine hw_reg ?_
  refine dp rfl (pop_move rfl) ?_
  refine dp rfl ((pop_nilCheck rfl)) ?_
  refine dp rfl (pop_fieldAddr ty216 rfl ty214 (by decide) rfl) ?_
  refine dp rfl (pop_load ty214 rfl rfl rfl) ?_
  refine dp rfl ((pop_nilCheck rfl)) ?_
  refine dp rfl (pop_fieldAddr ty64 rfl ty3 (by decide) rfl) ?_
  refine dp rfl (pop_load ty3 rfl rfl rfl) ?_
  refine dp rfl (pop_assign rfl) ?_
  refine dn ?_
  refine hw_ret ?_
  refine ret_p rfl ?_
  show HVal.int .i64 _ = _
  (rw [lastAt_z h1]; done)
 ·try simp at h2
  refine hw_skip ?_
  refine seqQ_n ?_
  have hl0 : 0 < l.length := List.length_pos_iff.2 h2
  refine hw_draw (fun _ => True) [] mixed ?_
  refine ahp 0 rfl rfl (by kernel_rfl) (by kernel_rfl) (pop_move rfl) ?_
  refine ahp 1 rfl rfl (by kernel_rfl) (by kernel_rfl) ((pop_nilCheck rfl)) ?_
  refine ahp 2 rfl rfl (by kernel_rfl) (by kernel_rfl) (pop_fieldAddr ty216 rfl ty72 (by decide) rfl) ?_
  refine ahp 3 rfl rfl (by kernel_rfl) (by kernel_rfl) (pop_load ty72 rfl rfl rfl) ?_
  refine ahp 4 rfl rfl (by kernel_rfl) (by kernel_rfl) (pop_move rfl) ?_
  refine ahp 5 rfl rfl (by kernel_rfl) (by kernel_rfl) ((pop_nilCheck rfl)) ?_
  refine ahp 6 rfl rfl (by kernel_rfl) (by kernel_rfl) (pop_fieldAddr ty216 rfl ty72 (by decide) rfl) ?_
  refine ahp 7 rfl rfl (by kernel_rfl) (by kernel_rfl) (pop_load ty72 rfl rfl rfl) ?_
  refine ahp 8 rfl rfl (by kernel_rfl) (by kernel_rfl) (pop_lenm ty72 rfl) ?_
  refine ahp 9 rfl rfl (by kernel_rfl) (by kernel_rfl) (pop_sub64 rfl rfl (by omega) (by omega)) ?_
  refine ahp 10 rfl rfl (by kernel_rfl) (by kernel_rfl) (pop_idx (j := l.length - 1) (a := l.getD (l.length - 1) pick0) ty72 ty79 rfl rfl (by omega) (getD_some (by omega))) ?_
  refine ahp 11 rfl rfl (by kernel_rfl) (by kernel_rfl) (pop_fieldAddr ty79 rfl ty3 (by decide) rfl) ?_
  refine ahp 12 rfl rfl (by kernel_rfl) (by kernel_rfl) (pop_load ty3 rfl rfl rfl) ?_
  refine ahp 13 rfl rfl (by kernel_rfl) (by kernel_rfl) (pop_assign rfl) ?_
  refine ahz (by kernel_rfl) ?_
  refine hw_ret ?_
  refine ret_p rfl ?_
  show HVal.int .i64 _ = _
  (rw [lastAt_n h2])

/-- (*benchwarmer/draft.run).fault -/
theorem c_draft_run_fault [Tracks] {r : Room} {k : List Keep} {s : List Swap} {A T l : List Pick} {S : List Str} {fr : List Pick} {p : Pick} (hl : l.length ≤ 1000000) (hT : T = fr.drop l.length) (h0 : l.length < fr.length) (ok : RunOk r k s l S) (hpl : r.Players.length ≤ 1000000) (hso : SortedS r.Players) : ConP Tryz.prog 207 [.vptr (RunH r A T l S) 0, ePick p] (.int .i64 (pkF r k fr l p)) := by
 subst hT
 refine Con.of_body Tryz.func207 rfl Tryz.ntmps207 rfl rfl ?_
 refine hw_reg ?_
 refine dp rfl (pop_box rfl rfl) ?_
 refine dp rfl (pop_assign rfl) ?_
 refine dn ?_
 refine hw_seq ?_
 refine hw_reg ?_
 refine dp rfl (pop_move rfl) ?_
 refine dp rfl ((pop_nilCheck rfl)) ?_
 refine dp rfl (pop_fieldAddr ty216 rfl ty72 (by decide) rfl) ?_
 refine dp rfl (pop_load ty72 rfl rfl rfl) ?_
 refine dp rfl (pop_idx (j := 0) (a := fr.getD l.length pick0) ty72 ty79 rfl rfl rfl (drop_get h0)) ?_
 refine dp rfl (pop_loadw ty79 rfl rfl rfl rfl) ?_
 refine de rfl (eop_alloc ty79 rfl fun b5 => ?_)
 refine de0 (eop_storew ty79 rfl rfl rfl rfl rfl ?_)
 refine dn ?_
 refine hw_ghost (Ghost.fc0 5 rfl) ?_
 refine hw_block ?_
 refine hw_reg ?_
 refine dp rfl (pop_fieldAddr ty79 rfl ty3 (by decide) rfl) ?_
 refine dp rfl (pop_load ty3 rfl rfl rfl) ?_
 refine dp rfl (pop_call ca93 rfl (WeakL.refl _) c_base_Moment) ?_
 refine dp rfl (pop_not rfl) ?_
 refine dp rfl (pop_assign rfl) ?_
 refine dn ?_
 refine hw_cond rfl (fun h1 => ?_) (fun h2 => ?_)
 ·try simp at h1
  refine hw_reg ?_
  refine dp rfl (pop_assign rfl) ?_
  refine dn ?_
  refine hw_ret ?_
  refine ret_p rfl ?_
  show HVal.int .i64 _ = _
  (rw [pf1 h1]; done)
 ·try simp at h2
  refine hw_reg ?_
  refine dp rfl (pop_fieldAddr ty79 rfl ty3 (by decide) rfl) ?_
  refine dp rfl (pop_load ty3 rfl rfl rfl) ?_
  refine dp rfl (pop_fieldAddr ty79 rfl ty3 (by decide) rfl) ?_
  refine dp rfl (pop_load ty3 rfl rfl rfl) ?_
  refine dp rfl (pop_neq rfl rfl) ?_
  refine dp rfl (pop_assign rfl) ?_
  refine dn ?_
  refine hw_cond rfl (fun h3 => ?_) (fun h4 => ?_)
  ·try simp at h3
   refine hw_reg ?_
   refine dp rfl (pop_assign rfl) ?_
   refine dn ?_
   refine hw_ret ?_
   refine ret_p rfl ?_
   show HVal.int .i64 _ = _
   (rw [pf2 h2 h3]; done)
  ·try simp at h4
   refine hw_reg ?_
   refine dp rfl (pop_fieldAddr ty79 rfl ty9 (by decide) rfl) ?_
   refine dp rfl (pop_load ty9 rfl rfl rfl) ?_
   refine dp rfl (pop_fieldAddr ty79 rfl ty9 (by decide) rfl) ?_
   refine dp rfl (pop_load ty9 rfl rfl rfl) ?_
   refine dp rfl (pop_neqs rfl rfl) ?_
   refine dp rfl (pop_assign rfl) ?_
   refine dn ?_
   refine hw_cond rfl (fun h5 => ?_) (fun h6 => ?_)
   ·try simp at h5
    refine hw_reg ?_
    refine dp rfl (pop_assign rfl) ?_
    refine dn ?_
    refine hw_ret ?_
    refine ret_p rfl ?_
    show HVal.int .i64 _ = _
    (rw [pf3 h2 h4 h5]; done)
   ·try simp at h6
    refine hw_draw (fun _ => True) [] mixed ?_
    refine ahp 0 rfl rfl (by kernel_rfl) (by kernel_rfl) (pop_move rfl) ?_
    refine ahp 1 rfl rfl (by kernel_rfl) (by kernel_rfl) ((pop_nilCheck rfl)) ?_
    refine ahp 2 rfl rfl (by kernel_rfl) (by kernel_rfl) (pop_fieldAddr ty216 rfl ty214 (by decide) rfl) ?_
    refine ahp 3 rfl rfl (by kernel_rfl) (by kernel_rfl) (pop_load ty214 rfl rfl rfl) ?_
    refine ahp 4 rfl rfl (by kernel_rfl) (by kernel_rfl) (pop_fieldAddr ty79 rfl ty9 (by decide) rfl) ?_
    refine ahp 5 rfl rfl (by kernel_rfl) (by kernel_rfl) (pop_load ty9 rfl rfl rfl) ?_
    refine ahp 6 rfl rfl (by kernel_rfl) (by kernel_rfl) (pop_call ca278 rfl (WeakL.refl _) (c_draft_has (by assumption) (by assumption))) ?_
    refine ahp 7 rfl rfl (by kernel_rfl) (by kernel_rfl) (pop_not rfl) ?_
    refine ahp 8 rfl rfl (by kernel_rfl) (by kernel_rfl) (pop_assign rfl) ?_
    refine ahz (by kernel_rfl) ?_
    refine hw_cond rfl (fun h7 => ?_) (fun h8 => ?_)
    ·try simp at h7
     refine hw_reg ?_
     refine dp rfl (pop_assign rfl) ?_
     refine dn ?_
     refine hw_ret ?_
     refine ret_p rfl ?_
     show HVal.int .i64 _ = _
     (rw [pf4 h2 h4 h6 h7]; done)
    ·try simp at h8
     refine hw_draw (fun _ => True) [] mixed ?_
     refine ahp 0 rfl rfl (by kernel_rfl) (by kernel_rfl) (pop_move rfl) ?_
     refine ahp 1 rfl rfl (by kernel_rfl) (by kernel_rfl) ((pop_nilCheck rfl)) ?_
     refine ahp 2 rfl rfl (by kernel_rfl) (by kernel_rfl) (pop_fieldAddr ty216 rfl ty149 (by decide) rfl) ?_
     refine ahp 3 rfl rfl (by kernel_rfl) (by kernel_rfl) (pop_load ty149 rfl rfl rfl) ?_
     refine ahp 4 rfl rfl (by kernel_rfl) (by kernel_rfl) (pop_fieldAddr ty79 rfl ty9 (by decide) rfl) ?_
     refine ahp 5 rfl rfl (by kernel_rfl) (by kernel_rfl) (pop_load ty9 rfl rfl rfl) ?_
     refine ahp 6 rfl rfl (by kernel_rfl) (by kernel_rfl) (pop_eq (pop_lookup_h ty149 ty9 ty4 rfl rfl) (congrArg HVal.bool (ok.gone p.Player h8))) ?_
     refine ahp 7 rfl rfl (by kernel_rfl) (by kernel_rfl) (pop_assign rfl) ?_
     refine ahz (by kernel_rfl) ?_
     refine hw_cond rfl (fun h9 => ?_) (fun h10 => ?_)
     ·try simp at h9
      refine hw_reg ?_
      refine dp rfl (pop_assign rfl) ?_
      refine dn ?_
      refine hw_ret ?_
      refine ret_p rfl ?_
      show HVal.int .i64 _ = _
      (rw [pf5 h2 h4 h6 h8 h9]; done)
     ·try simp at h10
      refine hw_draw (fun _ => True) [] mixed ?_
      refine ahp 0 rfl rfl (by kernel_rfl) (by kernel_rfl) (pop_fieldAddr ty79 rfl ty3 (by decide) rfl) ?_
      refine ahp 1 rfl rfl (by kernel_rfl) (by kernel_rfl) (pop_load ty3 rfl rfl rfl) ?_
      refine ahp 2 rfl rfl (by kernel_rfl) (by kernel_rfl) (pop_move rfl) ?_
      refine ahp 3 rfl rfl (by kernel_rfl) (by kernel_rfl) (pop_call ca128 rfl (WeakL.refl _) (c_draft_run_last (by assumption))) ?_
      refine ahp 4 rfl rfl (by kernel_rfl) (by kernel_rfl) (pop_lss rfl rfl) ?_
      refine ahp 5 rfl rfl (by kernel_rfl) (by kernel_rfl) (pop_assign rfl) ?_
      refine ahz (by kernel_rfl) ?_
      refine hw_cond rfl (fun h11 => ?_) (fun h12 => ?_)
      ·try simp at h11
       refine hw_reg ?_
       refine dp rfl (pop_assign rfl) ?_
       refine dn ?_
       refine hw_ret ?_
       refine ret_p rfl ?_
       show HVal.int .i64 _ = _
       (rw [pf6 h2 h4 h6 h8 h10 h11]; done)
      ·try simp at h12
       refine hw_skip ?_
       refine blockQ_n ?_
       refine seqQ_n ?_
       refine hw_reg ?_
       refine dp rfl (pop_assign rfl) ?_
       refine dn ?_
       refine hw_ret ?_
       refine ret_p rfl ?_
       show HVal.int .i64 _ = _
       (rw [pf0 h2 h4 h6 h8 h10 (by omega)]; done)

/-- (*benchwarmer/draft.run).wish$1 -/
theorem c_draft_run_wish_1 [Tracks] {r : Room} {A T l : List Pick} {S : List Str} {p : Str} {g : Str → Bool} (hS : ∀ x, S.contains x = g x) : ConP Tryz.prog 224 [.str p, .vptr [.vptr (RunH r A T l S) 0] 0] (.bool (!(g p))) := by
 refine Con.of_body Tryz.func224 rfl Tryz.ntmps224 rfl rfl ?_
 refine hw_reg ?_
 refine dp rfl (pop_assign rfl) ?_
 refine dn ?_
 refine hw_reg ?_
 refine dp rfl (pop_load ty211 rfl rfl rfl) ?_
 refine dp rfl ((pop_nilCheck rfl)) ?_
 refine dp rfl (pop_fieldAddr ty216 rfl ty149 (by decide) rfl) ?_
 refine dp rfl (pop_load ty149 rfl rfl rfl) ?_
 refine dp rfl (pop_move rfl) ?_
 refine dp rfl (pop_eq (pop_lookup_h ty149 ty9 ty4 rfl rfl) (congrArg HVal.bool (hS p))) ?_
 refine dp rfl (pop_not rfl) ?_
 refine dp rfl (pop_assign rfl) ?_
 refine dn ?_
 refine hw_ret ?_
 refine ret_p rfl ?_
 rfl

/-- (*benchwarmer/draft.run).wish -/
theorem c_draft_run_wish [Tracks] {r : Room} {A T l : List Pick} {S : List Str} {w : List Wish} {team : Str} {g : Str → Bool} (hw : w.length ≤ 1000000) (hwp : ∀ y ∈ w, y.Players.length ≤ 1000000) (hpl : r.Players.length ≤ 1000000) (hf : ∃ s ∈ r.Players, g s = false) (hS : ∀ x, S.contains x = g x) : ConP Tryz.prog 138 [.vptr (RunH r A T l S) 0, eWishes w, .str team] (.str (wishOf r g w team)) := by
 refine Con.of_body Tryz.func138 rfl Tryz.ntmps138 rfl rfl ?_
 refine hw_reg ?_
 refine dp rfl (pop_box rfl rfl) ?_
 refine dp rfl (pop_assign rfl) ?_
 refine dn ?_
 refine hw_reg ?_
 refine dp rfl (pop_makeFunc rfl rfl) ?_
 refine dp rfl (pop_assign rfl) ?_
 refine dn ?_
 refine hw_seq ?_
 refine hw_reg ?_
 refine dp rfl (pop_move rfl) ?_
 refine dp rfl (pop_lenm ty70 rfl) ?_
 refine dp rfl (pop_move rfl) ?_
 refine dn ?_
 refine hw_block ?_
 refine hw_loopw [6, 9, 10, 14, 15, 16, 17, 18, 19, 20, 21, 22, 23, 24, 25, 26, 27, 28, 29, 30, 31, 32, 33] (fun (k : Nat) => [(14, .int .i64 k)]) (fun (k : Nat) => []) (fun (k : Nat) => k ≤ w.length ∧ (wishGo g team w = wishGo g team (w.drop k))) (fun (k : Nat) => w.length - k) (0) ?_ ?_ ?_ ?_
 ·exact ⟨Nat.zero_le _, rfl⟩
 ·exact ⟨rfl, trivial⟩
 ·exact List.Perm.refl _
 ·intro k hinv
  obtain ⟨hk, hg⟩ := hinv
  refine hw_reg ?_
  refine dp rfl (pop_lss rfl rfl) ?_
  refine dn ?_
  refine hw_seq ?_
  refine hw_cond rfl (fun h1 => ?_) (fun h2 => ?_)
  ·try simp at h1
   obtain ⟨y, hy⟩ : ∃ y, w[k]? = some y := ⟨_, List.getElem?_eq_getElem h1⟩
   have hdy := drop_cons hy
   rw [hdy] at hg
   refine hw_skip ?_
   refine seqQ_n ?_
   refine hw_seq ?_
   refine hw_block ?_
   refine hw_reg ?_
   refine dp rfl (pop_idx ty70 ty87 rfl rfl rfl (by assumption)) ?_
   refine dp rfl (pop_loadw ty87 rfl rfl rfl rfl) ?_
   refine de rfl (eop_alloc ty87 rfl fun b9 => ?_)
   refine de0 (eop_storew ty87 rfl rfl rfl rfl rfl ?_)
   refine dn ?_
   refine hw_ghost (Ghost.fc0 9 rfl) ?_
   refine hw_seq ?_
   refine hw_reg ?_
   refine dp rfl (pop_fieldAddr ty87 rfl ty9 (by decide) rfl) ?_
   refine dp rfl (pop_load ty9 rfl rfl rfl) ?_
   refine dp rfl (pop_move rfl) ?_
   refine dp rfl (pop_neqs rfl rfl) ?_
   refine dn ?_
   refine hw_cond rfl (fun h3 => ?_) (fun h4 => ?_)
   ·try simp at h3
    refine hw_exit ?_
    refine seqQ_x ?_
    refine blockQ_eq ?_
    refine seqQ_n ?_
    refine hw_reg1 ?_
    refine dp rfl (pop_add64 rfl rfl (by omega) (by omega)) ?_
    refine dp rfl (pop_move rfl) ?_
    refine dn ?_
    refine ⟨k + 1, ?_, ?_, ⟨rfl, trivial⟩, (by repeat (first | exact keeps_refl | refine keeps_upd rfl ?_ | refine keeps_loop rfl rfl ?_)), List.Perm.refl _⟩
    ·refine ⟨by omega, ?_⟩
     (rw [hg, wish_3 h3]; done)
    ·dsimp only; omega
   ·try simp at h4
    refine hw_skip ?_
    refine seqQ_n ?_
    refine hw_reg ?_
    refine dp rfl (pop_fieldAddr ty87 rfl ty28 (by decide) rfl) ?_
    refine dp rfl (pop_load ty28 rfl rfl rfl) ?_
    refine dp rfl (pop_move rfl) ?_
    refine dp rfl (pop_call ca212 rfl (WeakL.refl _) (c_slices_IndexFunc_string_string (p := fun s => !(g s)) ca224 (fun _ => c_draft_run_wish_1 hS) (hwp y (List.mem_of_getElem? hy)))) ?_
    refine dp rfl (pop_assign rfl) ?_
    refine dn ?_
    refine hw_reg ?_
    refine dp rfl (pop_move rfl) ?_
    refine dp rfl (pop_geq rfl rfl) ?_
    refine dn ?_
    refine hw_cond rfl (fun h5 => ?_) (fun h6 => ?_)
    ·try simp at h5
     obtain ⟨i, z, hi, hz, hfz⟩ := idxF_find h5
     refine hw_reg ?_
     refine dp rfl (pop_fieldAddr ty87 rfl ty28 (by decide) rfl) ?_
     refine dp rfl (pop_load ty28 rfl rfl rfl) ?_
     refine dp rfl (pop_move rfl) ?_
     refine dp rfl (pop_idx (j := i) (a := z) ty28 ty9 rfl rfl hi hz) ?_
     refine dp rfl (pop_load ty9 rfl rfl rfl) ?_
     refine dp rfl (pop_assign rfl) ?_
     refine dn ?_
     refine hw_ret ?_
     refine ret_p rfl ?_
     show HVal.str _ = _
     (rw [wishOf, hg, wish_1 h4 hfz]; done)
    ·try simp at h6
     refine hw_skip ?_
     refine blockQ_n ?_
     refine seqQ_n ?_
     refine hw_reg1 ?_
     refine dp rfl (pop_add64 rfl rfl (by omega) (by omega)) ?_
     refine dp rfl (pop_move rfl) ?_
     refine dn ?_
     refine ⟨k + 1, ?_, ?_, ⟨rfl, trivial⟩, (by repeat (first | exact keeps_refl | refine keeps_upd rfl ?_ | refine keeps_loop rfl rfl ?_)), List.Perm.refl _⟩
     ·refine ⟨by omega, ?_⟩
      (rw [hg, wish_2 h4 (idxF_miss h6)])
     ·dsimp only; omega
  ·try simp at h2
   have hnk : w.length ≤ k := by omega
   obtain rfl : k = w.length := by omega
   rw [drop_all (Nat.le_refl _)] at hg
   refine hw_exit ?_
   refine seqQ_x ?_
   refine loopQ_x ?_
   refine blockQ_eq ?_
   refine seqQ_n ?_
   obtain ⟨s0, hs0, hs1⟩ := hf
   obtain ⟨i, z, hi, hz, hfz⟩ := idxF_find (p := fun s => !(g s)) (l := r.Players) (idxF_pos ⟨s0, hs0, by rw [hs1]; rfl⟩)
   refine hw_draw (fun _ => True) [] mixed ?_
   refine ahp 0 rfl rfl (by kernel_rfl) (by kernel_rfl) (pop_load ty211 rfl rfl rfl) ?_
   refine ahp 1 rfl rfl (by kernel_rfl) (by kernel_rfl) ((pop_nilCheck rfl)) ?_
   refine ahp 2 rfl rfl (by kernel_rfl) (by kernel_rfl) (pop_fieldAddr ty216 rfl ty214 (by decide) rfl) ?_
   refine ahp 3 rfl rfl (by kernel_rfl) (by kernel_rfl) (pop_load ty214 rfl rfl rfl) ?_
   refine ahp 4 rfl rfl (by kernel_rfl) (by kernel_rfl) ((pop_nilCheck rfl)) ?_
   refine ahp 5 rfl rfl (by kernel_rfl) (by kernel_rfl) (pop_fieldAddr ty64 rfl ty28 (by decide) rfl) ?_
   refine ahp 6 rfl rfl (by kernel_rfl) (by kernel_rfl) (pop_load ty28 rfl rfl rfl) ?_
   refine ahp 7 rfl rfl (by kernel_rfl) (by kernel_rfl) (pop_load ty211 rfl rfl rfl) ?_
   refine ahp 8 rfl rfl (by kernel_rfl) (by kernel_rfl) ((pop_nilCheck rfl)) ?_
   refine ahp 9 rfl rfl (by kernel_rfl) (by kernel_rfl) (pop_fieldAddr ty216 rfl ty214 (by decide) rfl) ?_
   refine ahp 10 rfl rfl (by kernel_rfl) (by kernel_rfl) (pop_load ty214 rfl rfl rfl) ?_
   refine ahp 11 rfl rfl (by kernel_rfl) (by kernel_rfl) ((pop_nilCheck rfl)) ?_
   refine ahp 12 rfl rfl (by kernel_rfl) (by kernel_rfl) (pop_fieldAddr ty64 rfl ty28 (by decide) rfl) ?_
   refine ahp 13 rfl rfl (by kernel_rfl) (by kernel_rfl) (pop_load ty28 rfl rfl rfl) ?_
   refine ahp 14 rfl rfl (by kernel_rfl) (by kernel_rfl) (pop_move rfl) ?_
   refine ahp 15 rfl rfl (by kernel_rfl) (by kernel_rfl) (pop_call ca212 rfl (WeakL.refl _) (c_slices_IndexFunc_string_string (p := fun s => !(g s)) ca224 (fun _ => c_draft_run_wish_1 hS) (hpl))) ?_
   refine ahp 16 rfl rfl (by kernel_rfl) (by kernel_rfl) (pop_idx (j := i) (a := z) ty28 ty9 rfl rfl hi hz) ?_
   refine ahp 17 rfl rfl (by kernel_rfl) (by kernel_rfl) (pop_load ty9 rfl rfl rfl) ?_
   refine ahp 18 rfl rfl (by kernel_rfl) (by kernel_rfl) (pop_assign rfl) ?_
   refine ahz (by kernel_rfl) ?_
   refine hw_ret ?_
   refine ret_p rfl ?_
   show HVal.str _ = _
   (rw [wishOf, hg]; simp only [wishGo]; rw [hfz]; rfl)

/-- (*benchwarmer/draft.run).pick -/
theorem c_draft_run_pick [Tracks] {b m : Nat} {va v : Value} {r : Room} {A T l : List Pick} {S : List Str} {p : Pick} (h0 : 0 < T.length) (hl : l.length ≤ 1000) : Con Tryz.prog 139 [pAt b, ePick p] (RunM b m va v r A T l S) (fun x M' => ∃ v', x = .tup [] ∧ M' = RunM b m va v' r A (T.drop 1) (l ++ [p]) (sadd p.Player S)) := by
 refine Con.of_body Tryz.func139 rfl Tryz.ntmps139 rfl rfl ?_
 refine hw_reg ?_
 refine dp rfl (pop_box rfl rfl) ?_
 refine dn ?_
 refine hw_draw (fun M => ∃ i : Nat, M[i]? = some (.cells b [.vptr (hcells (eRoom r)) 0, .raw va, ePicks T, .raw v, .raw (.map (some m))])) [5, 12] mixed ?_
 refine ahp 0 rfl rfl (by kernel_rfl) (by kernel_rfl) (pop_move rfl) ?_
 refine ahp 1 rfl rfl (by kernel_rfl) (by kernel_rfl) (pop_move rfl) ?_
 refine ahp 2 rfl rfl (by kernel_rfl) (by kernel_rfl) (pop_move rfl) ?_
 refine ahp 3 rfl rfl (by kernel_rfl) (by kernel_rfl) ((pop_nilCheck_raw rfl)) ?_
 refine ahp 4 rfl rfl (by kernel_rfl) (by kernel_rfl) (pop_fieldAddr_raw ty216 rfl ty72 (by decide) rfl) ?_
 refine ahl 5 rfl rfl (by kernel_rfl) (by kernel_rfl) (by simp) (⟨0, rfl⟩) (fun M hM => by obtain ⟨i, hi⟩ := hM; exact eop_load (i := i) ty72 rfl hi (.inl ⟨rfl, rfl⟩) ⟨rfl, rfl⟩) ?_
 refine ahp 6 rfl rfl (by kernel_rfl) (by kernel_rfl) (pop_loadw ty79 rfl rfl rfl rfl) ?_
 refine ahp 7 rfl rfl (by kernel_rfl) (by kernel_rfl) (pop_buildSlice (hs := [_]) ty72 ty79 rfl rfl (by decide) (by decide) rfl) ?_
 refine ahp 9 rfl rfl (by kernel_rfl) (by kernel_rfl) (pop_move rfl) ?_
 refine ahp 10 rfl rfl (by kernel_rfl) (by kernel_rfl) ((pop_nilCheck_raw rfl)) ?_
 refine ahp 11 rfl rfl (by kernel_rfl) (by kernel_rfl) (pop_fieldAddr_raw ty216 rfl ty72 (by decide) rfl) ?_
 refine ahl 12 rfl rfl (by kernel_rfl) (by kernel_rfl) (by simp) (⟨0, rfl⟩) (fun M hM => by obtain ⟨i, hi⟩ := hM; exact eop_load (i := i) ty72 rfl hi (.inl ⟨rfl, rfl⟩) ⟨rfl, rfl⟩) ?_
 refine ahp 13 rfl rfl (by kernel_rfl) (by kernel_rfl) (pop_slicem (l := 1) ty72 ty79 rfl ⟨_, _, rfl, rfl⟩ rfl (by omega) (by omega)) ?_
 refine ahe 8 rfl (by kernel_rfl) ?_
 refine hop_e rfl (eop_append (i := 2) ty72 ty79 rfl rfl rfl rfl rfl (by simp [flat, hcells]) (by simp; omega) fun v12 => ?_)
 refine ⟨fun _ => by first | exact .inl ⟨0, rfl⟩ | exact .inl ⟨1, rfl⟩ | exact .inl ⟨2, rfl⟩ | exact .inr (by simp [Before, Region.binds]), ?_⟩
 refine ahp 14 rfl rfl (by kernel_rfl) (by kernel_rfl) ((pop_nilCheck_raw rfl)) ?_
 refine ahp 15 rfl rfl (by kernel_rfl) (by kernel_rfl) (pop_fieldAddr_raw ty216 rfl ty72 (by decide) rfl) ?_
 refine ahe 16 rfl (by kernel_rfl) ?_
 refine hop_e0 (eop_store (i := 0) ty72 rfl rfl rfl rfl rfl (Nat.le_of_ble_eq_true rfl) ?_)
 refine ⟨fun _ => by first | exact .inl ⟨0, rfl⟩ | exact .inl ⟨1, rfl⟩ | exact .inl ⟨2, rfl⟩ | exact .inr (by simp [Before, Region.binds]), ?_⟩
 refine ahp 17 rfl rfl (by kernel_rfl) (by kernel_rfl) ((pop_nilCheck_raw rfl)) ?_
 refine ahp 18 rfl rfl (by kernel_rfl) (by kernel_rfl) (pop_fieldAddr_raw ty216 rfl ty72 (by decide) rfl) ?_
 refine ahe 19 rfl (by kernel_rfl) ?_
 refine hop_e0 (eop_store (i := 0) ty72 rfl rfl rfl rfl rfl (Nat.le_of_ble_eq_true rfl) ?_)
 refine ⟨fun _ => by first | exact .inl ⟨0, rfl⟩ | exact .inl ⟨1, rfl⟩ | exact .inl ⟨2, rfl⟩ | exact .inr (by simp [Before, Region.binds]), ?_⟩
 refine ahz (by kernel_rfl) ?_
 refine hw_ghost (Ghost.perm (M' := RunM b m va v12 r A (T.drop 1) (l ++ [p]) S) (perm_eq (by simp [setL, hcells]; done))) ?_
 refine hw_draw1 (fun _ => True) [] mixed ?_
 refine ahp 0 rfl rfl (by kernel_rfl) (by kernel_rfl) (pop_move rfl) ?_
 refine ahp 1 rfl rfl (by kernel_rfl) (by kernel_rfl) ((pop_nilCheck_raw rfl)) ?_
 refine ahp 2 rfl rfl (by kernel_rfl) (by kernel_rfl) (pop_fieldAddr_raw ty216 rfl ty149 (by decide) rfl) ?_
 refine ahp 4 rfl rfl (by kernel_rfl) (by kernel_rfl) ((pop_fieldAddr ty79 rfl ty9 (by decide) rfl)) ?_
 refine ahp 5 rfl rfl (by kernel_rfl) (by kernel_rfl) (pop_load ty9 rfl rfl rfl) ?_
 refine ahe 3 rfl (by kernel_rfl) ?_
 refine hop_e rfl (eop_load (i := 0) ty149 rfl rfl (.inl ⟨rfl, rfl⟩) ?_)
 refine ⟨fun _ => .inl trivial, ?_⟩
 refine ahe 6 rfl (by kernel_rfl) ?_
 refine hop_e0 (eop_update_set (i := 3) ty149 ty9 rfl rfl rfl rfl ?_)
 refine ⟨fun _ => .inl trivial, ?_⟩
 refine ahz (by kernel_rfl) ?_
 exact ret_q rfl ⟨v12, rfl, rfl⟩

/-- benchwarmer/draft.open -/
theorem c_draft_open_a [Tracks] {r : Room} {l : List Keep} {s : List Swap} (ht : r.Teams.length ≤ 20) (hr0 : 1 ≤ r.Rounds) (hr : r.Rounds ≤ 30) (hk0 : l.length ≤ 1000000) (hl : s.length ≤ 1000000) (hlen : (turns r s).length ≤ 600) : ConA Tryz.prog 223 [.vptr (hcells (eRoom r)) 0, eKeeps l, eSwaps s] 5 ((open1 r l s).map ePick) := by
 refine Con.of_body Tryz.func223 rfl Tryz.ntmps223 rfl rfl ?_
 refine hw_reg ?_
 refine dp rfl (pop_assign rfl) ?_
 refine dn ?_
 refine hw_reg ?_
 refine dp rfl (pop_assign rfl) ?_
 refine dn ?_
 refine hw_ghost (Ghost.arr_nil 5) ?_
 refine hw_seq ?_
 refine hw_reg ?_
 refine dp rfl (pop_move rfl) ?_
 refine dp rfl (pop_move rfl) ?_
 refine dp rfl (pop_call ca131 rfl (WeakL.refl _) (c_draft_turns (by assumption) (by assumption) (by assumption) (by assumption))) ?_
 refine dp rfl (pop_lenm ty220 rfl) ?_
 refine dp rfl (pop_move rfl) ?_
 refine dn ?_
 refine hw_block ?_
 refine hw_loopw2 [7, 8, 9, 10, 12, 17, 18, 19, 20, 21, 22, 23, 24, 25, 26, 27, 28, 29, 30, 31, 32, 33, 34, 35, 36, 37, 38, 39, 40, 41, 42, 43, 44, 45, 46, 47, 48, 49, 50, 51, 52, 53, 54, 55, 56, 57] (fun (i : Nat) (u : Value) => [(17, .int .i64 i), (7, .raw u)]) (fun (i : Nat) (u : Value) => [.arr u 5 ((openFrom r l 0 ((turns r s).take i)).map ePick)]) (fun (i : Nat) (u : Value) => i ≤ (turns r s).length ∧ (True)) (fun (i : Nat) (u : Value) => (turns r s).length - i) (0) (.slice none 0 0) ?_ ?_ ?_ ?_
 ·exact ⟨Nat.zero_le _, by simp_all⟩
 ·exact ⟨rfl, rfl, trivial⟩
 ·exact perm_eq (by simp [openFrom])
 ·intro i u hinv
  obtain ⟨hi, -⟩ := hinv
  refine hw_reg ?_
  refine dp rfl (pop_lss rfl rfl) ?_
  refine dn ?_
  refine hw_seq ?_
  refine hw_cond rfl (fun h1 => ?_) (fun h2 => ?_)
  ·try simp at h1
   obtain ⟨t, ht⟩ : ∃ t, (turns r s)[i]? = some t := ⟨_, List.getElem?_eq_getElem h1⟩
   have hdt := drop_cons ht
   refine hw_skip ?_
   refine seqQ_n ?_
   refine hw_seq ?_
   refine hw_block ?_
   refine hw_reg ?_
   refine dp rfl (pop_move rfl) ?_
   refine dp rfl (pop_idx ty220 ty223 rfl rfl rfl (by assumption)) ?_
   refine dp rfl (pop_loadw ty223 rfl rfl rfl rfl) ?_
   refine de rfl (eop_alloc ty223 rfl fun b9 => ?_)
   refine dp rfl (pop_assign rfl) ?_
   refine de0 (eop_storew ty223 rfl rfl rfl rfl rfl ?_)
   refine dn ?_
   refine hw_ghost (Ghost.fc0 9 rfl) ?_
   refine hw_reg ?_
   refine dp rfl (pop_move rfl) ?_
   refine dp rfl (pop_fieldAddr ty223 rfl ty9 (by decide) rfl) ?_
   refine dp rfl (pop_load ty9 rfl rfl rfl) ?_
   refine dp rfl (pop_build (cs := [_, _, _, _, _]) ty79 pl79 rfl) ?_
   refine de rfl (eop_alloc ty79 rfl fun b10 => ?_)
   refine de0 (eop_storew ty79 rfl rfl rfl rfl rfl ?_)
   refine dn ?_
   refine hw_seq ?_
   refine hw_reg ?_
   refine dp rfl (pop_move rfl) ?_
   refine dp rfl (pop_lenm ty66 rfl) ?_
   refine dp rfl (pop_move rfl) ?_
   refine dn ?_
   refine hw_block ?_
   refine hw_loopw2 [12, 28, 29, 30, 31, 32, 33, 34, 35, 36, 37, 38, 39, 40, 41, 42, 43, 44, 45, 46, 47, 48, 49, 50, 51, 52] (fun (k : Nat) (p : Pick) => [(28, .int .i64 k)]) (fun (k : Nat) (p : Pick) => [.cells b10 (hcells (ePick p)), .arr u 5 ((openFrom r l 0 ((turns r s).take i)).map ePick)]) (fun (k : Nat) (p : Pick) => k ≤ l.length ∧ (p = keepIn r t ⟨i, t.team, [], 0, false⟩ (l.take k))) (fun (k : Nat) (p : Pick) => l.length - k) (0) (⟨i, t.team, [], 0, false⟩) ?_ ?_ ?_ ?_
   ·exact ⟨Nat.zero_le _, by simp [keepIn]⟩
   ·exact ⟨rfl, trivial⟩
   ·exact List.Perm.refl _
   ·intro k p hinv
    obtain ⟨hk, hp⟩ := hinv
    refine hw_reg ?_
    refine dp rfl (pop_lss rfl rfl) ?_
    refine dn ?_
    refine hw_seq ?_
    refine hw_cond rfl (fun h3 => ?_) (fun h4 => ?_)
    ·try simp at h3
     obtain ⟨x, hx⟩ : ∃ x, l[k]? = some x := ⟨_, List.getElem?_eq_getElem h3⟩
     have hdx := drop_cons hx
     refine hw_skip ?_
     refine seqQ_n ?_
     refine hw_seq ?_
     refine hw_block ?_
     refine hw_reg ?_
     refine dp rfl (pop_idx ty66 ty194 rfl rfl rfl (by assumption)) ?_
     refine dp rfl (pop_loadw ty194 rfl rfl rfl rfl) ?_
     refine de rfl (eop_alloc ty194 rfl fun b12 => ?_)
     refine de0 (eop_storew ty194 rfl rfl rfl rfl rfl ?_)
     refine dn ?_
     refine hw_ghost (Ghost.fc0 12 rfl) ?_
     refine hw_reg ?_
     refine dp rfl (pop_fieldAddr ty194 rfl ty9 (by decide) rfl) ?_
     refine dp rfl (pop_load ty9 rfl rfl rfl) ?_
     refine dp rfl (pop_fieldAddr ty223 rfl ty9 (by decide) rfl) ?_
     refine dp rfl (pop_load ty9 rfl rfl rfl) ?_
     refine dp rfl (pop_eqls rfl rfl) ?_
     refine dp rfl (pop_move rfl) ?_
     refine dg rfl rfl (fun hc => ⟨_, OpenTo.refl _, pop_fieldAddr ty194 rfl ty3 (by decide) rfl⟩) ?_
     refine dg rfl rfl (fun hc => ⟨_, OpenTo.upd (t := 38) rfl (hc) (OpenTo.refl _), pop_load ty3 rfl rfl rfl⟩) ?_
     refine dg rfl rfl (fun hc => ⟨_, OpenTo.refl _, pop_fieldAddr ty223 rfl ty3 (by decide) rfl⟩) ?_
     refine dg rfl rfl (fun hc => ⟨_, OpenTo.upd (t := 40) rfl (hc) (OpenTo.refl _), pop_load ty3 rfl rfl rfl⟩) ?_
     refine dg rfl rfl (fun hc => ⟨_, OpenTo.upd (t := 41) rfl (hc) (OpenTo.upd (t := 39) rfl (hc) (OpenTo.refl _)), pop_eql rfl rfl⟩) ?_
     refine dp rfl (pop_picko rfl (.inr ⟨_, rfl, fun h => by simp_all⟩) (.inl rfl)) ?_
     refine dn ?_
     refine hw_cond rfl (fun h5 => ?_) (fun h6 => ?_)
     ·try simp at h5
      refine hw_draw1 (fun _ => True) [] mixed ?_
      refine ahp 0 rfl rfl (by kernel_rfl) (by kernel_rfl) (pop_fieldAddr ty194 rfl ty9 (by decide) rfl) ?_
      refine ahp 1 rfl rfl (by kernel_rfl) (by kernel_rfl) (pop_load ty9 rfl rfl rfl) ?_
      refine ahp 2 rfl rfl (by kernel_rfl) (by kernel_rfl) (pop_move rfl) ?_
      refine ahp 3 rfl rfl (by kernel_rfl) (by kernel_rfl) ((pop_nilCheck rfl)) ?_
      refine ahp 4 rfl rfl (by kernel_rfl) (by kernel_rfl) (pop_fieldAddr ty64 rfl ty3 (by decide) rfl) ?_
      refine ahp 5 rfl rfl (by kernel_rfl) (by kernel_rfl) (pop_load ty3 rfl rfl rfl) ?_
      refine ahp 6 rfl rfl (by kernel_rfl) (by kernel_rfl) (pop_fieldAddr_raw ty79 rfl ty9 (by decide) rfl) ?_
      refine ahe 7 rfl (by kernel_rfl) ?_
      refine hop_e0 (eop_store (i := 0) ty9 rfl rfl rfl rfl rfl (Nat.le_of_ble_eq_true rfl) ?_)
      refine ⟨fun _ => .inl trivial, ?_⟩
      refine ahp 8 rfl rfl (by kernel_rfl) (by kernel_rfl) (pop_fieldAddr_raw ty79 rfl ty3 (by decide) rfl) ?_
      refine ahe 9 rfl (by kernel_rfl) ?_
      refine hop_e0 (eop_store (i := 0) ty3 rfl rfl rfl rfl rfl (Nat.le_of_ble_eq_true rfl) ?_)
      refine ⟨fun _ => .inl trivial, ?_⟩
      refine ahz (by kernel_rfl) ?_
      refine blockQ_n ?_
      refine seqQ_n ?_
      refine hw_reg1 ?_
      refine dp rfl (pop_add64 rfl rfl (by omega) (by omega)) ?_
      refine dp rfl (pop_move rfl) ?_
      refine dn ?_
      exact ⟨k + 1, { p with Player := x.Player, At := r.Start }, ⟨by omega, by rw [List.take_add_one, hx, hp]; exact (keepIn_snoc r t _ x _).symm ▸ (by simp_all)⟩, by dsimp only; omega, ⟨rfl, trivial⟩, (by repeat (first | exact keeps_refl | refine keeps_upd rfl ?_ | refine keeps_loop rfl rfl ?_)), List.Perm.refl _⟩
     ·try simp at h6
      refine hw_skip ?_
      refine blockQ_n ?_
      refine seqQ_n ?_
      refine hw_reg1 ?_
      refine dp rfl (pop_add64 rfl rfl (by omega) (by omega)) ?_
      refine dp rfl (pop_move rfl) ?_
      refine dn ?_
      exact ⟨k + 1, p, ⟨by omega, by rw [List.take_add_one, hx, hp]; exact (keepIn_snoc r t _ x _).symm ▸ (by simp_all)⟩, by dsimp only; omega, ⟨rfl, trivial⟩, (by repeat (first | exact keeps_refl | refine keeps_upd rfl ?_ | refine keeps_loop rfl rfl ?_)), List.Perm.refl _⟩
    ·try simp at h4
     have hnk : l.length ≤ k := by omega
     obtain rfl : k = l.length := by omega
     rw [List.take_length] at hp
     subst hp
     refine hw_exit ?_
     refine seqQ_x ?_
     refine loopQ2_x ?_
     refine blockQ_eq ?_
     refine seqQ_n ?_
     have ho : (openFrom r l 0 ((turns r s).take i)).length ≤ 600 := by rw [openFrom_len]; simp; omega
     refine hw_reg1 ?_
     refine dp rfl (pop_move rfl) ?_
     refine de rfl (eop_loadw (i := 0) ty79 rfl rfl rfl rfl rfl ?_)
     refine dp rfl (pop_buildSlice (hs := [_]) ty72 ty79 rfl rfl (by decide) (by decide) rfl) ?_
     refine de rfl (eop_append (i := 1) ty72 ty79 rfl rfl rfl rfl rfl (by simp [flat, hcells]) (by simp; omega) fun v56 => ?_)
     refine dp rfl (pop_assign rfl) ?_
     refine dn ?_
     refine blockQ_n ?_
     refine seqQ_n ?_
     refine hw_ghost Ghost.drop ?_
     refine hw_reg1 ?_
     refine dp rfl (pop_add64 rfl rfl (by omega) (by omega)) ?_
     refine dp rfl (pop_move rfl) ?_
     refine dn ?_
     refine ⟨i + 1, _, ?_, ?_, ⟨rfl, rfl, trivial⟩, (by repeat (first | exact keeps_refl | refine keeps_upd rfl ?_ | refine keeps_loop rfl rfl ?_)), perm_eq (by simp [List.take_add_one, ht, openFrom_snoc, Nat.min_eq_left hi])⟩
     ·exact ⟨by omega, trivial⟩
     ·dsimp only; omega
  ·try simp at h2
   have hni : (turns r s).length ≤ i := by omega
   obtain rfl : i = (turns r s).length := by omega
   refine hw_exit ?_
   refine seqQ_x ?_
   refine loopQ2_x ?_
   refine blockQ_eq ?_
   refine seqQ_n ?_
   refine hw_reg ?_
   refine dp rfl (pop_move rfl) ?_
   refine dp rfl (pop_assign rfl) ?_
   refine dn ?_
   refine hw_ret ?_
   exact ret_a rfl (by simp [open1])

/-- benchwarmer/draft.newRun -/
theorem c_draft_newRun [Tracks] {r : Room} {k : List Keep} {s : List Swap} (h : openFault r k s = 0) (hk0 : k.length ≤ 1000000) (hl : s.length ≤ 1000000) : Con Tryz.prog 137 [.vptr (hcells (eRoom r)) 0, eKeeps k, eSwaps s] [] (fun x M' => ∃ b m va v S, x = pAt b ∧ RunOk r k s [] S ∧ M' = RunM b m va v r (open1 r k s) (freeP r k s) [] S) := by
 have hro := room_ok (openFault_ok h).1
 have ht := hro.t20
 have hr0 := hro.r1
 have hr := hro.r30
 have hlen := turns_len (r := r) (s := s) (openFault_ok h).1
 have hop := open_pos (k := k) (s := s) hro
 have hol : (open1 r k s).length ≤ 600 := by unfold open1; rw [openFrom_len]; exact hlen
 refine Con.of_body Tryz.func137 rfl Tryz.ntmps137 rfl rfl ?_
 refine hw_reg ?_
 refine dp rfl (pop_assign rfl) ?_
 refine dn ?_
 refine hw_reg ?_
 refine dp rfl (pop_move rfl) ?_
 refine dp rfl (pop_move rfl) ?_
 refine dp rfl (pop_move rfl) ?_
 refine dp rfl (pop_move rfl) ?_
 refine de rfl (eop_calla ca223 rfl (WeakL.refl _) (c_draft_open_a (by assumption) (by assumption) (by assumption) (by assumption) (by assumption) (by assumption)) fun v14 => ?_)
 refine de rfl (eop_makeMap fun m15 => ?_)
 refine dp rfl (pop_build (cs := [_, _, _, _, _]) ty216 pl216 rfl) ?_
 refine de rfl (eop_box rfl rfl fun b => ?_)
 refine dp rfl (pop_assign rfl) ?_
 refine dn ?_
 refine hw_ghost (Ghost.perm (M' := [.arr v14 5 ((open1 r k s).map ePick), .cells b [.vptr (hcells (eRoom r)) 0, .raw v14, .raw (.slice none 0 0), .raw (.slice none 0 0), .raw (.map (some m15))], .map m15 (sk (mset []))]) (by repeat (first | exact List.Perm.nil | refine permTo 0 rfl ?_ | refine permTo 1 rfl ?_ | refine permTo 2 rfl ?_ | refine permTo 3 rfl ?_ | (refine permToE 0 rfl ?hq ?_; (case hq => simp [setL, hcells]; done)) | (refine permToE 1 rfl ?hq ?_; (case hq => simp [setL, hcells]; done)) | (refine permToE 2 rfl ?hq ?_; (case hq => simp [setL, hcells]; done)) | (refine permToE 3 rfl ?hq ?_; (case hq => simp [setL, hcells]; done)) | fail))) ?_
 refine hw_arrc (i := 0) rfl (fun h0 he => ?_) (fun ob off cap hv hcap => ?_)
 ·exfalso; have := congrArg List.length he; simp at this; rw [this] at hop; simp at hop
 rw [List.length_map] at hv hcap
 subst hv
 refine hw_seq ?_
 refine hw_reg ?_
 refine dp rfl (pop_move rfl) ?_
 refine dp rfl ((pop_nilCheck_raw rfl)) ?_
 refine dp rfl (pop_fieldAddr_raw ty216 rfl ty72 (by decide) rfl) ?_
 refine de rfl (eop_load (i := 1) ty72 rfl rfl (.inl ⟨rfl, rfl⟩) ?_)
 refine de rfl (eop_lenm (i := 0) ty72 rfl rfl ?_)
 refine dp rfl (pop_move rfl) ?_
 refine dn ?_
 refine hw_ghost (Ghost.arr_nil 5) ?_
 refine hw_block ?_
 refine hw_loopw3 [9, 23, 24, 25, 26, 27, 28, 29, 30, 31, 32, 33, 34, 35, 36, 37, 38, 39, 40, 41, 42, 43, 44, 45, 46] (fun (i : Nat) (u : Value) (S : List Str) => [(23, .int .i64 i)]) (fun (i : Nat) (u : Value) (S : List Str) => [.cells b [.vptr (hcells (eRoom r)) 0, .raw (.slice (some ⟨ob, off, none⟩) (open1 r k s).length cap), .raw u, .raw (.slice none 0 0), .raw (.map (some m15))], .arr (.slice (some ⟨ob, off, none⟩) (open1 r k s).length cap) 5 ((open1 r k s).map ePick), .arr u 5 ((((open1 r k s).take i).filter fun p => p.Player == []).map ePick), .map m15 (sk (mset S))]) (fun (i : Nat) (u : Value) (S : List Str) => i ≤ (open1 r k s).length ∧ (∀ x, S.contains x = ((open1 r k s).take i).any fun p => !(p.Player == []) && p.Player == x)) (fun (i : Nat) (u : Value) (S : List Str) => (open1 r k s).length - i) (0) (.slice none 0 0) ([]) ?_ ?_ ?_ ?_
 ·exact ⟨Nat.zero_le _, by simp⟩
 ·exact ⟨rfl, trivial⟩
 ·repeat (first | exact List.Perm.nil | refine permTo 0 rfl ?_ | refine permTo 1 rfl ?_ | refine permTo 2 rfl ?_ | refine permTo 3 rfl ?_ | (refine permToE 0 rfl ?hq ?_; (case hq => simp [setL, hcells]; done)) | (refine permToE 1 rfl ?hq ?_; (case hq => simp [setL, hcells]; done)) | (refine permToE 2 rfl ?hq ?_; (case hq => simp [setL, hcells]; done)) | (refine permToE 3 rfl ?hq ?_; (case hq => simp [setL, hcells]; done)) | fail)
 ·intro i u S hinv
  obtain ⟨hi, hS⟩ := hinv
  refine hw_reg ?_
  refine dp rfl (pop_lss rfl rfl) ?_
  refine dn ?_
  refine hw_seq ?_
  refine hw_cond rfl (fun h1 => ?_) (fun h2 => ?_)
  ·try simp at h1
   obtain ⟨x, hx⟩ : ∃ x, (open1 r k s)[i]? = some x := ⟨_, List.getElem?_eq_getElem h1⟩
   have hdx := drop_cons hx
   have hfl : (((open1 r k s).take i).filter fun p => p.Player == []).length ≤ 600 := Nat.le_trans (List.length_filter_le _ _) (by simp; omega)
   refine hw_skip ?_
   refine seqQ_n ?_
   refine hw_seq ?_
   refine hw_block ?_
   refine hw_reg ?_
   refine dp rfl (pop_idxraw (j := i) ty72 ty79 rfl rfl rfl (by omega)) ?_
   refine de rfl (eop_load_elw (i := 1) (j := i) (f := ePick) (es := open1 r k s) ty79 rfl rfl rfl hx rfl rfl rfl ?_)
   refine de rfl (eop_alloc ty79 rfl fun b9 => ?_)
   refine de0 (eop_storew ty79 rfl rfl rfl rfl rfl ?_)
   refine dn ?_
   refine hw_ghost (Ghost.fc0 9 rfl) ?_
   refine hw_reg ?_
   refine dp rfl ((pop_fieldAddr ty79 rfl ty9 (by decide) rfl)) ?_
   refine dp rfl (pop_load ty9 rfl rfl rfl) ?_
   refine dp rfl (pop_eqls rfl rfl) ?_
   refine dn ?_
   refine hw_cond rfl (fun h3 => ?_) (fun h4 => ?_)
   ·try simp at h3
    refine hw_draw1 (fun _ => True) [] mixed ?_
    refine ahp 0 rfl rfl (by kernel_rfl) (by kernel_rfl) (pop_move rfl) ?_
    refine ahp 1 rfl rfl (by kernel_rfl) (by kernel_rfl) (pop_move rfl) ?_
    refine ahp 2 rfl rfl (by kernel_rfl) (by kernel_rfl) ((pop_nilCheck_raw rfl)) ?_
    refine ahp 3 rfl rfl (by kernel_rfl) (by kernel_rfl) (pop_fieldAddr_raw ty216 rfl ty72 (by decide) rfl) ?_
    refine ahp 5 rfl rfl (by kernel_rfl) (by kernel_rfl) (pop_loadw ty79 rfl rfl rfl rfl) ?_
    refine ahp 6 rfl rfl (by kernel_rfl) (by kernel_rfl) (pop_buildSlice (hs := [_]) ty72 ty79 rfl rfl (by decide) (by decide) rfl) ?_
    refine ahe 4 rfl (by kernel_rfl) ?_
    refine hop_e rfl (eop_load (i := 0) ty72 rfl rfl (.inl ⟨rfl, rfl⟩) ?_)
    refine ⟨fun _ => .inl trivial, ?_⟩
    refine ahe 7 rfl (by kernel_rfl) ?_
    refine hop_e rfl (eop_append (i := 2) ty72 ty79 rfl rfl rfl rfl rfl (by simp [flat, hcells]) (by simp only [List.length_map, List.length_cons, List.length_nil]; omega) fun v37 => ?_)
    refine ⟨fun _ => .inl trivial, ?_⟩
    refine ahp 8 rfl rfl (by kernel_rfl) (by kernel_rfl) ((pop_nilCheck_raw rfl)) ?_
    refine ahp 9 rfl rfl (by kernel_rfl) (by kernel_rfl) (pop_fieldAddr_raw ty216 rfl ty72 (by decide) rfl) ?_
    refine ahe 10 rfl (by kernel_rfl) ?_
    refine hop_e0 (eop_store (i := 0) ty72 rfl rfl rfl rfl rfl (Nat.le_of_ble_eq_true rfl) ?_)
    refine ⟨fun _ => .inl trivial, ?_⟩
    refine ahz (by kernel_rfl) ?_
    refine blockQ_n ?_
    refine seqQ_n ?_
    refine hw_reg1 ?_
    refine dp rfl (pop_add64 rfl rfl (by omega) (by omega)) ?_
    refine dp rfl (pop_move rfl) ?_
    refine dn ?_
    exact ⟨i + 1, v37, S, ⟨by omega, fun y => by rw [any_snoc _ hx, hS y]; simp [h3]⟩, by dsimp only; omega, ⟨rfl, trivial⟩, (by repeat (first | exact keeps_refl | refine keeps_upd rfl ?_ | refine keeps_loop rfl rfl ?_)), perm_eq (by dsimp only; rw [filter_snoc1 _ hx]; simp [h3, setL, hcells])⟩
   ·try simp at h4
    refine hw_draw1 (fun _ => True) [] mixed ?_
    refine ahp 0 rfl rfl (by kernel_rfl) (by kernel_rfl) (pop_move rfl) ?_
    refine ahp 1 rfl rfl (by kernel_rfl) (by kernel_rfl) ((pop_nilCheck_raw rfl)) ?_
    refine ahp 2 rfl rfl (by kernel_rfl) (by kernel_rfl) (pop_fieldAddr_raw ty216 rfl ty149 (by decide) rfl) ?_
    refine ahp 4 rfl rfl (by kernel_rfl) (by kernel_rfl) ((pop_fieldAddr ty79 rfl ty9 (by decide) rfl)) ?_
    refine ahp 5 rfl rfl (by kernel_rfl) (by kernel_rfl) (pop_load ty9 rfl rfl rfl) ?_
    refine ahe 3 rfl (by kernel_rfl) ?_
    refine hop_e rfl (eop_load (i := 0) ty149 rfl rfl (.inl ⟨rfl, rfl⟩) ?_)
    refine ⟨fun _ => .inl trivial, ?_⟩
    refine ahe 6 rfl (by kernel_rfl) ?_
    refine hop_e0 (eop_update_set (i := 3) ty149 ty9 rfl rfl rfl rfl ?_)
    refine ⟨fun _ => .inl trivial, ?_⟩
    refine ahz (by kernel_rfl) ?_
    refine blockQ_n ?_
    refine seqQ_n ?_
    refine hw_reg1 ?_
    refine dp rfl (pop_add64 rfl rfl (by omega) (by omega)) ?_
    refine dp rfl (pop_move rfl) ?_
    refine dn ?_
    have e4 : (x.Player == []) = false := by simpa using h4
    exact ⟨i + 1, u, sadd x.Player S, ⟨by omega, fun y => by simp only [any_snoc _ hx, sadd_contains, hS y, e4, Bool.not_false, Bool.true_and]⟩, by dsimp only; omega, ⟨rfl, trivial⟩, (by repeat (first | exact keeps_refl | refine keeps_upd rfl ?_ | refine keeps_loop rfl rfl ?_)), perm_eq (by dsimp only; rw [filter_snoc1 _ hx]; simp [h4])⟩
  ·try simp at h2
   have hni : (open1 r k s).length ≤ i := by omega
   obtain rfl : i = (open1 r k s).length := by omega
   rw [List.take_length] at hS ⊢
   refine hw_exit ?_
   refine seqQ_x ?_
   refine loopQ3_x ?_
   refine blockQ_eq ?_
   refine seqQ_n ?_
   refine hw_ghost (Ghost.fcell (i := 2) (k := 0) (j := 2) rfl rfl rfl) ?_
   refine hw_ghost (Ghost.arr_nil 5) ?_
   refine hw_reg ?_
   refine dp rfl (pop_move rfl) ?_
   refine dp rfl (pop_assign rfl) ?_
   refine dn ?_
   refine hw_ret ?_
   refine ret_g (Ghost.perm (M' := RunM b m15 (.slice (some ⟨ob, off, none⟩) (open1 r k s).length cap) (.slice none 0 0) r (open1 r k s) (freeP r k s) [] S) (by repeat (first | exact List.Perm.nil | refine permTo 0 rfl ?_ | refine permTo 1 rfl ?_ | refine permTo 2 rfl ?_ | refine permTo 3 rfl ?_ | (refine permToE 0 rfl ?hq ?_; (case hq => simp [setL, hcells]; done)) | (refine permToE 1 rfl ?hq ?_; (case hq => simp [setL, hcells]; done)) | (refine permToE 2 rfl ?hq ?_; (case hq => simp [setL, hcells]; done)) | (refine permToE 3 rfl ?hq ?_; (case hq => simp [setL, hcells]; done)) | fail))) rfl ⟨b, m15, _, _, S, rfl, run_start h hS, rfl⟩

/-- benchwarmer/draft.follow -/
theorem c_draft_follow [Tracks] {r : Room} {k : List Keep} {s : List Swap} {l : List Pick}  (ht : r.Teams.length ≤ 1000000) (hp : r.Players.length ≤ 1000000) (hk0 : k.length ≤ 1000000) (hl : s.length ≤ 1000000) (hll : l.length ≤ 1000) : Con Tryz.prog 129 [.vptr (hcells (eRoom r)) 0, eKeeps k, eSwaps s, ePicks l] [] (fun res M' => ∃ v, res = .tup [.raw v, .int .i64 (picksE r k s l)] ∧ (picksE r k s l = 0 → ∃ b m va u S, v = .pointer (some ⟨b, 0, none⟩) ∧ RunOk r k s l S ∧ M' = RunM b m va u r (open1 r k s) ((freeP r k s).drop l.length) l S)) := by
 refine Con.of_body Tryz.func129 rfl Tryz.ntmps129 rfl rfl ?_
 refine hw_reg ?_
 refine dp rfl (pop_assign rfl) ?_
 refine dp rfl (pop_assign rfl) ?_
 refine dn ?_
 refine hw_seq ?_
 refine hw_reg ?_
 refine dp rfl (pop_move rfl) ?_
 refine dp rfl ((pop_nilCheck rfl)) ?_
 refine dp rfl (pop_loadw ty64 rfl rfl rfl rfl) ?_
 refine dp rfl (pop_move rfl) ?_
 refine dp rfl (pop_move rfl) ?_
 refine dp rfl (pop_call ca206 rfl (WeakL.refl _) (c_draft_openFault (by assumption) (by assumption) (by assumption) (by assumption))) ?_
 refine dp rfl (pop_assign rfl) ?_
 refine dn ?_
 refine hw_reg ?_
 refine dp rfl (pop_move rfl) ?_
 refine dp rfl (pop_neq rfl rfl) ?_
 refine dn ?_
 refine hw_cond rfl (fun h1 => ?_) (fun h2 => ?_)
 ·try simp at h1
  refine hw_reg ?_
  refine dp rfl (pop_move rfl) ?_
  refine dp rfl (pop_assign rfl) ?_
  refine dp rfl (pop_assign rfl) ?_
  refine dn ?_
  refine hw_ret ?_
  (refine ret_g Ghost.clear rfl ⟨.pointer none, ?_, fun h0 => ?_⟩
   ·show HVal.tup _ = _
    (rw [picksE, if_pos (by simpa using h1)]; rfl)
   ·exfalso
    first
    | (rw [picksE, if_pos (by simpa using h1)] at h0; exact absurd h0 h1)
    | (rw [picksE, if_neg (by simpa using h2), pksR, if_pos (by omega)] at h0; simp at h0; done)
    | (rw [picksE, if_neg (by simpa using h2), hg, pgo_ne (by simpa using h7)] at h0; exact absurd h0 (by simpa using h7)))
 ·try simp at h2
  refine hw_skip ?_
  refine seqQ_n ?_
  have hof : openFault r k s = 0 := by simpa using h2
  have hso := (room_ok (openFault_ok hof).1).sorted
  refine hw_reg ?_
  refine dp rfl (pop_move rfl) ?_
  refine dp rfl (pop_move rfl) ?_
  refine dp rfl (pop_move rfl) ?_
  refine de rfl (eop_callf (M1 := []) (R := []) ca137 rfl (WeakL.refl _) (List.Perm.refl _) (c_draft_newRun (k := k) (s := s) hof hk0 hl) ?_)
  rintro _ _ ⟨b, m, va, v0, S0, rfl, ok0, rfl⟩
  refine dp rfl (pop_assign rfl) ?_
  refine dn ?_
  refine hw_seq ?_
  refine hw_reg ?_
  refine dp rfl (pop_move rfl) ?_
  refine dp rfl (pop_lenm ty72 rfl) ?_
  refine dp rfl (pop_move rfl) ?_
  refine dp rfl ((pop_nilCheck_raw rfl)) ?_
  refine dp rfl (pop_fieldAddr_raw ty216 rfl ty72 (by decide) rfl) ?_
  refine de rfl (eop_load (i := 0) ty72 rfl rfl (.inl ⟨rfl, rfl⟩) ?_)
  refine dp rfl (pop_lenm ty72 rfl) ?_
  refine dp rfl (pop_gtr rfl rfl) ?_
  refine dn ?_
  refine hw_cond rfl (fun h3 => ?_) (fun h4 => ?_)
  ·try simp at h3
   refine hw_reg ?_
   refine dp rfl (pop_assign rfl) ?_
   refine dp rfl (pop_assign rfl) ?_
   refine dn ?_
   refine hw_ret ?_
   (refine ret_g Ghost.clear rfl ⟨.pointer none, ?_, fun h0 => ?_⟩
    ·show HVal.tup _ = _
     (rw [picksE, if_neg (by simpa using h2), pksR, if_pos (by omega)]; rfl)
    ·exfalso
     first
     | (rw [picksE, if_pos (by simpa using h1)] at h0; exact absurd h0 h1)
     | (rw [picksE, if_neg (by simpa using h2), pksR, if_pos (by omega)] at h0; simp at h0; done)
     | (rw [picksE, if_neg (by simpa using h2), hg, pgo_ne (by simpa using h7)] at h0; exact absurd h0 (by simpa using h7)))
  ·try simp at h4
   refine hw_skip ?_
   refine seqQ_n ?_
   refine hw_seq ?_
   refine hw_reg ?_
   refine dp rfl (pop_move rfl) ?_
   refine dp rfl (pop_lenm ty72 rfl) ?_
   refine dp rfl (pop_move rfl) ?_
   refine dn ?_
   refine hw_block ?_
   refine hw_loopw3 [8, 9, 13, 14, 38, 39, 40, 41, 42, 43, 44, 45, 46, 47, 48, 49, 50, 51] (fun (i : Nat) (v : Value) (S : List Str) => [(38, .int .i64 i)]) (fun (i : Nat) (v : Value) (S : List Str) => (RunM b m va v r (open1 r k s) ((freeP r k s).drop i) (l.take i) S)) (fun (i : Nat) (v : Value) (S : List Str) => i ≤ l.length ∧ (RunOk r k s (l.take i) S ∧ pksR r k s l = pksGo r k (freeP r k s) l i (l.drop i))) (fun (i : Nat) (v : Value) (S : List Str) => l.length - i) (0) (v0) (S0) ?_ ?_ ?_ ?_
   ·refine ⟨Nat.zero_le _, ok0, ?_⟩
    rw [pksR, if_neg (by omega)]; rfl
   ·exact ⟨rfl, trivial⟩
   ·exact List.Perm.refl _
   ·intro i v S hinv
    obtain ⟨hi, ok, hg⟩ := hinv
    refine hw_reg ?_
    refine dp rfl (pop_lss rfl rfl) ?_
    refine dn ?_
    refine hw_seq ?_
    refine hw_cond rfl (fun h5 => ?_) (fun h6 => ?_)
    ·try simp at h5
     obtain ⟨x, hx⟩ : ∃ x, l[i]? = some x := ⟨_, List.getElem?_eq_getElem h5⟩
     have hdx := drop_cons hx
     rw [hdx] at hg
     refine hw_skip ?_
     refine seqQ_n ?_
     refine hw_seq ?_
     refine hw_block ?_
     refine hw_reg ?_
     refine dp rfl (pop_idx ty72 ty79 rfl rfl rfl (by assumption)) ?_
     refine dp rfl (pop_loadw ty79 rfl rfl rfl rfl) ?_
     refine de rfl (eop_alloc ty79 rfl fun b13 => ?_)
     refine de0 (eop_storew ty79 rfl rfl rfl rfl rfl ?_)
     refine dn ?_
     refine hw_ghost (Ghost.fc0 13 rfl) ?_
     refine hw_seq ?_
     refine hw_reg ?_
     refine dp rfl (pop_move rfl) ?_
     refine dp rfl (pop_loadw ty79 rfl rfl rfl rfl) ?_
     refine de rfl (eop_callw (hs' := [.vptr (RunH r (open1 r k s) ((freeP r k s).drop i) (l.take i) S) 0, ePick x]) ca207 rfl ⟨bowRun0, .refl, trivial⟩ (c_draft_run_fault (k := k) (s := s) (fr := freeP r k s) (by simp; omega) (by rw [List.length_take, Nat.min_eq_left hi]) (by simp; omega) ok hp hso) rfl ?_)
     refine dp rfl (pop_assign rfl) ?_
     refine dn ?_
     refine hw_reg ?_
     refine dp rfl (pop_move rfl) ?_
     refine dp rfl (pop_neq rfl rfl) ?_
     refine dn ?_
     refine hw_cond rfl (fun h7 => ?_) (fun h8 => ?_)
     ·try simp at h7
      refine hw_reg ?_
      refine dp rfl (pop_move rfl) ?_
      refine dp rfl (pop_assign rfl) ?_
      refine dp rfl (pop_assign rfl) ?_
      refine dn ?_
      refine hw_ret ?_
      (refine ret_g Ghost.clear rfl ⟨.pointer none, ?_, fun h0 => ?_⟩
       ·show HVal.tup _ = _
        (rw [picksE, if_neg (by simpa using h2), hg, pgo_ne (by simpa using h7)]; rfl)
       ·exfalso
        (rw [picksE, if_neg (by simpa using h2), hg, pgo_ne (by simpa using h7)] at h0; exact absurd h0 (by simpa using h7)))
     ·try simp at h8
      refine hw_skip ?_
      refine seqQ_n ?_
      refine hw_reg1 ?_
      refine dp rfl (pop_move rfl) ?_
      refine dp rfl (pop_loadw ty79 rfl rfl rfl rfl) ?_
      refine de rfl (eop_callf (M1 := (RunM b m va v r (open1 r k s) ((freeP r k s).drop i) (l.take i) S)) (R := []) ca139 rfl (WeakL.refl _) (List.Perm.refl _) (c_draft_run_pick (p := x) (by simp; omega) (by simp; omega)) ?_)
      rintro _ _ ⟨v50, rfl, rfl⟩
      refine dn ?_
      refine blockQ_n ?_
      refine seqQ_n ?_
      refine hw_reg1 ?_
      refine dp rfl (pop_add64 rfl rfl (by omega) (by omega)) ?_
      refine dp rfl (pop_move rfl) ?_
      refine dn ?_
      exact ⟨i + 1, v50, sadd x.Player S, ⟨by omega, by rw [take_snoc' hx]; exact ok.add x, by rw [hg, pgo_z (by simpa using h8)]⟩, by dsimp only; omega, ⟨rfl, trivial⟩, (by repeat (first | exact keeps_refl | refine keeps_upd rfl ?_ | refine keeps_loop rfl rfl ?_)), perm_eq (by dsimp only; rw [take_snoc' hx, List.drop_drop]; rfl)⟩
    ·try simp at h6
     have hni : l.length ≤ i := by omega
     obtain rfl : i = l.length := by omega
     rw [drop_all (Nat.le_refl _)] at hg
     rw [List.take_length] at ok
     refine hw_ghost (Ghost.of_eq (M' := (RunM b m va v r (open1 r k s) ((freeP r k s).drop l.length) l S)) (by rw [List.take_length])) ?_
     refine hw_exit ?_
     refine seqQ_x ?_
     refine loopQ3_x ?_
     refine blockQ_eq ?_
     refine seqQ_n ?_
     refine hw_reg ?_
     refine dp rfl (pop_move rfl) ?_
     refine dp rfl (pop_assign rfl) ?_
     refine dp rfl (pop_assign rfl) ?_
     refine dn ?_
     refine hw_ret ?_
     (have hz : picksE r k s l = 0 := by rw [picksE, if_neg (by simpa using h2), hg]; rfl
      rw [hz]
      exact ret_q rfl ⟨_, rfl, fun _ => ⟨b, m, va, v, S, rfl, ok, rfl⟩⟩)
end Go.Proofs.YtcnfhcicepmjcaaGreatDoor
end
section
namespace Go.Proofs.YtcnfhcicepmjcaaGreatDoor
open Go.HL
set_option maxRecDepth 100000
set_option linter.unusedVariables false
set_option linter.unusedSimpArgs false
/-- slices.IndexFunc[[]benchwarmer/api.Wishes,benchwarmer/api.Wishes] -/
theorem c_slices_IndexFunc_api_Wishes_api_Wishes [Tracks] {l : List Wish} {fid : FuncId} {caps : List HVal} {p : Wish → Bool} (hca : Callable Tryz.prog fid) (hp : ∀ x, ConP Tryz.prog fid ([eWish x] ++ caps) (.bool (p x))) (hl : l.length ≤ 1000000) : ConP Tryz.prog 204 [.slice 2 (l.map eWish), .fn (.func fid) [] caps] (.int .i64 (idxF p l 0)) := by
 refine Con.of_body Tryz.func204 rfl Tryz.ntmps204 rfl rfl ?_
 refine hw_reg ?_
 refine dp rfl (pop_assign rfl) ?_
 refine dn ?_
 refine hw_seq ?_
 refine hw_reg ?_
 refine dp rfl (pop_move rfl) ?_
 refine dp rfl (pop_lenm ty70 rfl) ?_
 refine dp rfl (pop_move rfl) ?_
 refine dn ?_
 refine hw_block ?_
 refine hw_loopw [4, 5, 8, 9, 10, 11, 12, 13, 14, 15, 16, 17, 18] (fun (k : Nat) => [(8, .int .i64 k)]) (fun (k : Nat) => []) (fun (k : Nat) => k ≤ l.length ∧ (idxF p l 0 = idxF p (l.drop k) k)) (fun (k : Nat) => l.length - k) (0) ?_ ?_ ?_ ?_
 ·exact ⟨Nat.zero_le _, rfl⟩
 ·exact ⟨rfl, trivial⟩
 ·exact List.Perm.refl _
 ·intro k hinv
  obtain ⟨hk, hg⟩ := hinv
  refine hw_reg ?_
  refine dp rfl (pop_lss rfl rfl) ?_
  refine dn ?_
  refine hw_seq ?_
  refine hw_cond rfl (fun h1 => ?_) (fun h2 => ?_)
  ·try simp at h1
   obtain ⟨x, hx⟩ : ∃ x, l[k]? = some x := ⟨_, List.getElem?_eq_getElem h1⟩
   have hdx := drop_cons hx
   rw [hdx] at hg
   refine hw_skip ?_
   refine seqQ_n ?_
   refine hw_seq ?_
   refine hw_block ?_
   refine hw_reg ?_
   refine dp rfl (pop_move rfl) ?_
   refine dp rfl (pop_assign rfl) ?_
   refine dn ?_
   refine hw_reg ?_
   refine dp rfl (pop_move rfl) ?_
   refine dp rfl (pop_move rfl) ?_
   refine dp rfl (pop_move rfl) ?_
   refine dp rfl (pop_idx ty70 ty87 rfl rfl rfl (by assumption)) ?_
   refine dp rfl (pop_loadw ty87 rfl rfl rfl rfl) ?_
   refine dp rfl (pop_callv hca rfl rfl (WeakL.refl _) (hp _)) ?_
   refine dn ?_
   refine hw_cond rfl (fun h3 => ?_) (fun h4 => ?_)
   ·try simp at h3
    refine hw_reg ?_
    refine dp rfl (pop_move rfl) ?_
    refine dp rfl (pop_assign rfl) ?_
    refine dn ?_
    refine hw_ret ?_
    refine ret_p rfl ?_
    show HVal.int .i64 _ = _
    (rw [hg]; simp_all [idxF])
   ·try simp at h4
    refine hw_skip ?_
    refine blockQ_n ?_
    refine seqQ_n ?_
    refine hw_reg1 ?_
    refine dp rfl (pop_add64 rfl rfl (by omega) (by omega)) ?_
    refine dp rfl (pop_move rfl) ?_
    refine dn ?_
    refine ⟨k + 1, ?_, ?_, ⟨rfl, trivial⟩, (by repeat (first | exact keeps_refl | refine keeps_upd rfl ?_ | refine keeps_loop rfl rfl ?_)), List.Perm.refl _⟩
    ·refine ⟨by omega, ?_⟩
     rw [hg, idxF, if_neg (by simp_all)]; rfl
    ·dsimp only; omega
  ·try simp at h2
   have hnk : l.length ≤ k := by omega
   obtain rfl : k = l.length := by omega
   rw [drop_all (Nat.le_refl _)] at hg
   refine hw_exit ?_
   refine seqQ_x ?_
   refine loopQ_x ?_
   refine blockQ_eq ?_
   refine seqQ_n ?_
   refine hw_reg ?_
   refine dp rfl (pop_assign rfl) ?_
   refine dn ?_
   refine hw_ret ?_
   refine ret_p rfl ?_
   show HVal.int .i64 _ = _
   (rw [hg]; rfl)

/-- slices.ContainsFunc[[]benchwarmer/api.Wishes,benchwarmer/api.Wishes] -/
theorem c_slices_ContainsFunc_api_Wishes_api_Wishes [Tracks] {l : List Wish} {fid : FuncId} {caps : List HVal} {p : Wish → Bool} (hca : Callable Tryz.prog fid) (hp : ∀ x, ConP Tryz.prog fid ([eWish x] ++ caps) (.bool (p x))) (hl : l.length ≤ 1000000) : ConP Tryz.prog 123 [.slice 2 (l.map eWish), .fn (.func fid) [] caps] (.bool (l.any p)) := by
 refine Con.of_body Tryz.func123 rfl Tryz.ntmps123 rfl rfl ?_
 refine hw_reg ?_
 refine dp rfl (pop_assign rfl) ?_
 refine dn ?_
 refine hw_reg ?_
 refine dp rfl (pop_move rfl) ?_
 refine dp rfl (pop_move rfl) ?_
 refine dp rfl (pop_call ca204 rfl (WeakL.refl _) (c_slices_IndexFunc_api_Wishes_api_Wishes hca hp hl)) ?_
 refine dp rfl (pop_geq rfl rfl) ?_
 refine dp rfl (pop_assign rfl) ?_
 refine dn ?_
 refine hw_ret ?_
 refine ret_p rfl ?_
 congr 1; exact idxF_nonneg p l 0 (by omega)

/-- benchwarmer/draft.CheckWishes$1 -/
theorem c_draft_CheckWishes_1 [Tracks] {y x : Wish}  : ConP Tryz.prog 277 [eWish y, .vptr (hcells (eWish x)) 0] (.bool (y.Team == x.Team)) := by
 refine Con.of_body Tryz.func277 rfl Tryz.ntmps277 rfl rfl ?_
 refine hw_reg ?_
 refine dp rfl (pop_box rfl rfl) ?_
 refine dp rfl (pop_assign rfl) ?_
 refine dn ?_
 refine hw_reg ?_
 refine dp rfl (pop_fieldAddr ty87 rfl ty9 (by decide) rfl) ?_
 refine dp rfl (pop_load ty9 rfl rfl rfl) ?_
 refine dp rfl (pop_fieldAddr ty87 rfl ty9 (by decide) rfl) ?_
 refine dp rfl (pop_load ty9 rfl rfl rfl) ?_
 refine dp rfl (pop_eqls rfl rfl) ?_
 refine dp rfl (pop_assign rfl) ?_
 refine dn ?_
 refine hw_ret ?_
 refine ret_p rfl ?_
 rfl

/-- benchwarmer/draft.CheckWishes -/
theorem c_draft_CheckWishes [Tracks] {r : Room} {w : List Wish} (ht : r.Teams.length ≤ 1000000) (hp : r.Players.length ≤ 1000000) (hw : w.length ≤ 1000000) (hwp : ∀ y ∈ w, y.Players.length ≤ 1000000) : ConP Tryz.prog 205 [eRoom r, eWishes w] (.int .i64 (wishesE r w)) := by
 refine Con.of_body Tryz.func205 rfl Tryz.ntmps205 rfl rfl ?_
 refine hw_reg ?_
 refine dp rfl (pop_box rfl rfl) ?_
 refine dp rfl (pop_assign rfl) ?_
 refine dn ?_
 refine hw_seq ?_
 refine hw_reg ?_
 refine dp rfl (pop_loadw ty64 rfl rfl rfl rfl) ?_
 refine dp rfl (pop_call ca208 rfl (WeakL.refl _) (c_draft_CheckRoom (by assumption) (by assumption))) ?_
 refine dp rfl (pop_assign rfl) ?_
 refine dn ?_
 refine hw_reg ?_
 refine dp rfl (pop_move rfl) ?_
 refine dp rfl (pop_neq rfl rfl) ?_
 refine dn ?_
 refine hw_cond rfl (fun h1 => ?_) (fun h2 => ?_)
 ·try simp at h1
  refine hw_reg ?_
  refine dp rfl (pop_move rfl) ?_
  refine dp rfl (pop_assign rfl) ?_
  refine dn ?_
  refine hw_ret ?_
  (refine ret_p rfl ?_
   show HVal.int .i64 _ = _
   first
   | (rw [wishesE, if_pos (by simpa using h1)]; done)
   | (rw [wishesE, if_neg (by simpa using h2), wishesR, if_pos (by omega)]; done)
   | (rw [wishesE, if_neg (by simpa using h2), hg, ws8 h7]; done)
   | (rw [wishesE, if_neg (by simpa using h2), hg, ws6 h8 (by simpa using h9)]; done)
   | (rw [wishesE, if_neg (by simpa using h2), hg, ws2 h8 (by simpa using h10) (by omega)]; done)
   | (rw [wishesE, if_neg (by simpa using h2), hg]; rfl))
 ·try simp at h2
  refine hw_skip ?_
  refine seqQ_n ?_
  refine hw_seq ?_
  have hso := (checkRoom_ok (r := r) (by simpa using h2)).1
  refine hw_reg ?_
  refine dp rfl (pop_move rfl) ?_
  refine dp rfl (pop_lenm ty70 rfl) ?_
  refine dp rfl (pop_gtr rfl rfl) ?_
  refine dn ?_
  refine hw_cond rfl (fun h3 => ?_) (fun h4 => ?_)
  ·try simp at h3
   refine hw_reg ?_
   refine dp rfl (pop_assign rfl) ?_
   refine dn ?_
   refine hw_ret ?_
   (refine ret_p rfl ?_
    show HVal.int .i64 _ = _
    first
    | (rw [wishesE, if_pos (by simpa using h1)]; done)
    | (rw [wishesE, if_neg (by simpa using h2), wishesR, if_pos (by omega)]; done)
    | (rw [wishesE, if_neg (by simpa using h2), hg, ws8 h7]; done)
    | (rw [wishesE, if_neg (by simpa using h2), hg, ws6 h8 (by simpa using h9)]; done)
    | (rw [wishesE, if_neg (by simpa using h2), hg, ws2 h8 (by simpa using h10) (by omega)]; done)
    | (rw [wishesE, if_neg (by simpa using h2), hg]; rfl))
  ·try simp at h4
   refine hw_skip ?_
   refine seqQ_n ?_
   refine hw_seq ?_
   refine hw_reg ?_
   refine dp rfl (pop_move rfl) ?_
   refine dp rfl (pop_lenm ty70 rfl) ?_
   refine dp rfl (pop_move rfl) ?_
   refine dn ?_
   refine hw_block ?_
   refine hw_loopw [4, 6, 7, 8, 10, 21, 22, 23, 24, 25, 26, 27, 28, 29, 30, 31, 32, 33, 34, 35, 36, 37, 38, 39, 40, 41, 42, 43, 44, 45, 46, 47, 48, 49, 50, 51, 52, 53, 54, 55, 56, 57, 58, 59, 60, 61] (fun (k : Nat) => [(21, .int .i64 k)]) (fun (k : Nat) => []) (fun (k : Nat) => k ≤ w.length ∧ (wishesR r w = wsGo r w k (w.drop k))) (fun (k : Nat) => w.length - k) (0) ?_ ?_ ?_ ?_
   ·refine ⟨Nat.zero_le _, ?_⟩
    rw [wishesR, if_neg (by omega)]; rfl
   ·exact ⟨rfl, trivial⟩
   ·exact List.Perm.refl _
   ·intro k hinv
    obtain ⟨hk, hg⟩ := hinv
    refine hw_reg ?_
    refine dp rfl (pop_lss rfl rfl) ?_
    refine dn ?_
    refine hw_seq ?_
    refine hw_cond rfl (fun h5 => ?_) (fun h6 => ?_)
    ·try simp at h5
     obtain ⟨x, hx⟩ : ∃ x, w[k]? = some x := ⟨_, List.getElem?_eq_getElem h5⟩
     have hdx := drop_cons hx
     rw [hdx] at hg
     refine hw_skip ?_
     refine seqQ_n ?_
     refine hw_seq ?_
     refine hw_block ?_
     refine hw_reg ?_
     refine dp rfl (pop_move rfl) ?_
     refine dp rfl (pop_idx ty70 ty87 rfl rfl rfl (by assumption)) ?_
     refine dp rfl (pop_loadw ty87 rfl rfl rfl rfl) ?_
     refine de rfl (eop_alloc ty87 rfl fun b7 => ?_)
     refine dp rfl (pop_assign rfl) ?_
     refine de0 (eop_storew ty87 rfl rfl rfl rfl rfl ?_)
     refine dn ?_
     refine hw_ghost (Ghost.fc0 7 rfl) ?_
     refine hw_seq ?_
     refine hw_block ?_
     refine hw_reg ?_
     refine dp rfl (pop_fieldAddr ty64 rfl ty28 (by decide) rfl) ?_
     refine dp rfl (pop_load ty28 rfl rfl rfl) ?_
     refine dp rfl (pop_fieldAddr ty87 rfl ty9 (by decide) rfl) ?_
     refine dp rfl (pop_load ty9 rfl rfl rfl) ?_
     refine dp rfl (pop_call ca89 rfl (WeakL.refl _) (c_slices_Contains_string_string (by omega))) ?_
     refine dp rfl (pop_not rfl) ?_
     refine dp rfl (pop_assign rfl) ?_
     refine dn ?_
     refine hw_cond rfl (fun h7 => ?_) (fun h8 => ?_)
     ·try simp at h7
      refine hw_reg ?_
      refine dp rfl (pop_assign rfl) ?_
      refine dn ?_
      refine hw_ret ?_
      (refine ret_p rfl ?_
       show HVal.int .i64 _ = _
       first
       | (rw [wishesE, if_pos (by simpa using h1)]; done)
       | (rw [wishesE, if_neg (by simpa using h2), wishesR, if_pos (by omega)]; done)
       | (rw [wishesE, if_neg (by simpa using h2), hg, ws8 h7]; done)
       | (rw [wishesE, if_neg (by simpa using h2), hg, ws6 h8 (by simpa using h9)]; done)
       | (rw [wishesE, if_neg (by simpa using h2), hg, ws2 h8 (by simpa using h10) (by omega)]; done)
       | (rw [wishesE, if_neg (by simpa using h2), hg]; rfl))
     ·try simp at h8
      refine hw_reg ?_
      refine dp rfl (pop_move rfl) ?_
      refine dp rfl (pop_move rfl) ?_
      refine dp rfl (pop_slicem ty70 ty87 rfl rfl ⟨_, _, rfl, rfl⟩ (by omega) (by omega)) ?_
      refine dp rfl (pop_makeFunc rfl rfl) ?_
      refine dp rfl (pop_call ca123 rfl (WeakL.refl _) (c_slices_ContainsFunc_api_Wishes_api_Wishes (p := fun y => y.Team == x.Team) ca277 (fun _ => c_draft_CheckWishes_1) (by simp; omega))) ?_
      refine dp rfl (pop_assign rfl) ?_
      refine dn ?_
      refine hw_cond rfl (fun h9 => ?_) (fun h10 => ?_)
      ·try simp at h9
       refine hw_reg ?_
       refine dp rfl (pop_assign rfl) ?_
       refine dn ?_
       refine hw_ret ?_
       (refine ret_p rfl ?_
        show HVal.int .i64 _ = _
        first
        | (rw [wishesE, if_pos (by simpa using h1)]; done)
        | (rw [wishesE, if_neg (by simpa using h2), wishesR, if_pos (by omega)]; done)
        | (rw [wishesE, if_neg (by simpa using h2), hg, ws8 h7]; done)
        | (rw [wishesE, if_neg (by simpa using h2), hg, ws6 h8 (by simpa using h9)]; done)
        | (rw [wishesE, if_neg (by simpa using h2), hg, ws2 h8 (by simpa using h10) (by omega)]; done)
        | (rw [wishesE, if_neg (by simpa using h2), hg]; rfl))
      ·try simp at h10
       have hxp := hwp x (List.mem_of_getElem? hx)
       refine hw_reg ?_
       refine dp rfl (pop_fieldAddr ty87 rfl ty28 (by decide) rfl) ?_
       refine dp rfl (pop_load ty28 rfl rfl rfl) ?_
       refine dp rfl (pop_lenm ty28 rfl) ?_
       refine dp rfl (pop_gtr rfl rfl) ?_
       refine dp rfl (pop_assign rfl) ?_
       refine dn ?_
       refine hw_cond rfl (fun h11 => ?_) (fun h12 => ?_)
       ·try simp at h11
        refine hw_reg ?_
        refine dp rfl (pop_assign rfl) ?_
        refine dn ?_
        refine hw_ret ?_
        (refine ret_p rfl ?_
         show HVal.int .i64 _ = _
         first
         | (rw [wishesE, if_pos (by simpa using h1)]; done)
         | (rw [wishesE, if_neg (by simpa using h2), wishesR, if_pos (by omega)]; done)
         | (rw [wishesE, if_neg (by simpa using h2), hg, ws8 h7]; done)
         | (rw [wishesE, if_neg (by simpa using h2), hg, ws6 h8 (by simpa using h9)]; done)
         | (rw [wishesE, if_neg (by simpa using h2), hg, ws2 h8 (by simpa using h10) (by omega)]; done)
         | (rw [wishesE, if_neg (by simpa using h2), hg]; rfl))
       ·try simp at h12
        refine hw_skip ?_
        refine blockQ_n ?_
        refine seqQ_n ?_
        refine hw_reg ?_
        refine de rfl (eop_makeMap fun m44 => ?_)
        refine dp rfl (pop_assign rfl) ?_
        refine dn ?_
        refine hw_reg ?_
        refine dp rfl (pop_fieldAddr ty87 rfl ty28 (by decide) rfl) ?_
        refine dp rfl (pop_load ty28 rfl rfl rfl) ?_
        refine dp rfl (pop_lenm ty28 rfl) ?_
        refine dp rfl (pop_move rfl) ?_
        refine dn ?_
        refine hw_block ?_
        refine hw_loopw2 [4, 10, 48, 49, 50, 51, 52, 53, 54, 55, 56, 57, 58, 59, 60] (fun (j : Nat) (S : List Str) => [(48, .int .i64 j)]) (fun (j : Nat) (S : List Str) => [.map m44 (sk (mset S))]) (fun (j : Nat) (S : List Str) => j ≤ x.Players.length ∧ (wpGo r x.Players 0 x.Players = wpGo r x.Players j (x.Players.drop j) ∧ ∀ y, S.contains y = (x.Players.take j).contains y)) (fun (j : Nat) (S : List Str) => x.Players.length - j) (0) ([]) ?_ ?_ ?_ ?_
        ·exact ⟨Nat.zero_le _, rfl, by simp⟩
        ·exact ⟨rfl, trivial⟩
        ·exact List.Perm.refl _
        ·intro j S hinv
         obtain ⟨hj, hg2, hS⟩ := hinv
         refine hw_reg ?_
         refine dp rfl (pop_lss rfl rfl) ?_
         refine dn ?_
         refine hw_seq ?_
         refine hw_cond rfl (fun h13 => ?_) (fun h14 => ?_)
         ·try simp at h13
          obtain ⟨y, hy⟩ : ∃ y, x.Players[j]? = some y := ⟨_, List.getElem?_eq_getElem h13⟩
          have hdy := drop_cons hy
          rw [hdy] at hg2
          refine hw_skip ?_
          refine seqQ_n ?_
          refine hw_seq ?_
          refine hw_block ?_
          refine hw_reg ?_
          refine dp rfl (pop_idx ty28 ty9 rfl rfl rfl (by assumption)) ?_
          refine dp rfl (pop_load ty9 rfl rfl rfl) ?_
          refine dp rfl (pop_assign rfl) ?_
          refine dn ?_
          refine hw_seq ?_
          refine hw_reg ?_
          refine dp rfl (pop_move rfl) ?_
          refine dp rfl (pop_call ca278 rfl (WeakL.refl _) (c_draft_has hp hso)) ?_
          refine dp rfl (pop_not rfl) ?_
          refine dn ?_
          refine hw_cond rfl (fun h15 => ?_) (fun h16 => ?_)
          ·try simp at h15
           refine hw_reg ?_
           refine dp rfl (pop_assign rfl) ?_
           refine dn ?_
           refine hw_ret ?_
           (refine ret_g Ghost.drop rfl ⟨?_, rfl⟩
            show HVal.int .i64 _ = _
            first
            | (rw [wishesE, if_neg (by simpa using h2), hg, wsP h8 (by simpa using h10) (by omega) (hg2.trans (wp8 h15)) (by decide)]; done)
            | (rw [wishesE, if_neg (by simpa using h2), hg, wsP h8 (by simpa using h10) (by omega) (hg2.trans (wp6 h16 (by rw [← hS y]; simpa using h17))) (by decide)]; done))
          ·try simp at h16
           refine hw_skip ?_
           refine seqQ_n ?_
           refine hw_seq ?_
           refine hw_reg ?_
           refine dp rfl (pop_move rfl) ?_
           refine dp rfl (pop_move rfl) ?_
           refine de rfl (eop_lookup_set (i := 0) ty149 ty9 ty4 rfl rfl rfl ?_)
           refine dn ?_
           refine hw_cond rfl (fun h17 => ?_) (fun h18 => ?_)
           ·try simp at h17
            refine hw_reg ?_
            refine dp rfl (pop_assign rfl) ?_
            refine dn ?_
            refine hw_ret ?_
            (refine ret_g Ghost.drop rfl ⟨?_, rfl⟩
             show HVal.int .i64 _ = _
             (rw [wishesE, if_neg (by simpa using h2), hg, wsP h8 (by simpa using h10) (by omega) (hg2.trans (wp6 h16 (by rw [← hS y]; simpa using h17))) (by decide)]; done))
           ·try simp at h18
            refine hw_skip ?_
            refine seqQ_n ?_
            refine hw_reg1 ?_
            refine dp rfl (pop_move rfl) ?_
            refine dp rfl (pop_move rfl) ?_
            refine de0 (eop_update_set (i := 0) ty149 ty9 rfl rfl rfl rfl ?_)
            refine dn ?_
            refine blockQ_n ?_
            refine seqQ_n ?_
            refine hw_reg1 ?_
            refine dp rfl (pop_add64 rfl rfl (by omega) (by omega)) ?_
            refine dp rfl (pop_move rfl) ?_
            refine dn ?_
            refine ⟨j + 1, sadd y S, ?_, ?_, ⟨rfl, trivial⟩, (by repeat (first | exact keeps_refl | refine keeps_upd rfl ?_ | refine keeps_loop rfl rfl ?_)), List.Perm.refl _⟩
            ·refine ⟨by omega, ?_, fun z => ?_⟩
             ·rw [hg2, wp0 h16 (by rw [← hS y]; simpa using h18)]
             ·rw [sadd_contains, hS z, set_snoc hy]
            ·dsimp only; omega
         ·try simp at h14
          have hnj : x.Players.length ≤ j := by omega
          obtain rfl : j = x.Players.length := by omega
          rw [drop_all (Nat.le_refl _)] at hg2
          replace hg2 : wpGo r x.Players 0 x.Players = 0 := hg2
          refine hw_ghost Ghost.drop ?_
          refine hw_exit ?_
          refine seqQ_x ?_
          refine loopQ2_x ?_
          refine blockQ_eq ?_
          refine blockQ_n ?_
          refine seqQ_n ?_
          refine hw_reg1 ?_
          refine dp rfl (pop_add64 rfl rfl (by omega) (by omega)) ?_
          refine dp rfl (pop_move rfl) ?_
          refine dn ?_
          refine ⟨k + 1, ?_, ?_, ⟨rfl, trivial⟩, (by repeat (first | exact keeps_refl | refine keeps_upd rfl ?_ | refine keeps_loop rfl rfl ?_)), List.Perm.refl _⟩
          ·refine ⟨by omega, ?_⟩
           rw [hg, ws0 h8 (by simpa using h10) (by omega) hg2]
          ·dsimp only; omega
    ·try simp at h6
     have hnk : w.length ≤ k := by omega
     obtain rfl : k = w.length := by omega
     rw [drop_all (Nat.le_refl _)] at hg
     refine hw_exit ?_
     refine seqQ_x ?_
     refine loopQ_x ?_
     refine blockQ_eq ?_
     refine seqQ_n ?_
     refine hw_reg ?_
     refine dp rfl (pop_assign rfl) ?_
     refine dn ?_
     refine hw_ret ?_
     (refine ret_p rfl ?_
      show HVal.int .i64 _ = _
      (rw [wishesE, if_neg (by simpa using h2), hg]; rfl))

/-- (*benchwarmer/draft.run).auto -/
theorem c_draft_run_auto [Tracks] {b m : Nat} {va v : Value} {r : Room} {A T l : List Pick} {S : List Str} {w : List Wish} {n : Int} {p : Pick} {g : Str → Bool} (hp0 : T[0]? = some p) (hl : l.length ≤ 1000) (hw : w.length ≤ 1000000) (hwp : ∀ y ∈ w, y.Players.length ≤ 1000000) (hpl : r.Players.length ≤ 1000000) (hf : ∃ s ∈ r.Players, g s = false) (hS : ∀ x, S.contains x = g x) : Con Tryz.prog 127 [pAt b, eWishes w, .int .i64 n] (RunM b m va v r A T l S) (fun x M' => ∃ v', x = .tup [] ∧ M' = RunM b m va v' r A (T.drop 1) (l ++ [⟨p.No, p.Team, wishOf r g w p.Team, n, true⟩]) (sadd (wishOf r g w p.Team) S)) := by
 refine Con.of_body Tryz.func127 rfl Tryz.ntmps127 rfl rfl ?_
 refine hw_reg ?_
 refine dp rfl (pop_move rfl) ?_
 refine dp rfl ((pop_nilCheck_raw rfl)) ?_
 refine dp rfl (pop_fieldAddr_raw ty216 rfl ty72 (by decide) rfl) ?_
 refine de rfl (eop_load (i := 0) ty72 rfl rfl (.inl ⟨rfl, rfl⟩) ?_)
 refine dp rfl (pop_idx (j := 0) (a := p) ty72 ty79 rfl rfl rfl hp0) ?_
 refine dp rfl (pop_loadw ty79 rfl rfl rfl rfl) ?_
 refine de rfl (eop_alloc ty79 rfl fun b6 => ?_)
 refine de0 (eop_store (i := 0) ty79 rfl rfl rfl rfl rfl (Nat.le_of_ble_eq_true rfl) ?_)
 refine dn ?_
 refine hw_reg ?_
 refine dp rfl (pop_move rfl) ?_
 refine dp rfl (pop_move rfl) ?_
 refine dp rfl (pop_fieldAddr_raw ty79 rfl ty9 (by decide) rfl) ?_
 refine de rfl (eop_load (i := 0) ty9 rfl rfl (.inl ⟨rfl, rfl⟩) ?_)
 refine de rfl (eop_callw (hs' := [.vptr (RunH r A T l S) 0, eWishes w, .str p.Team]) ca138 rfl ⟨bowRunC, .refl, .refl, trivial⟩ (c_draft_run_wish (g := g) hw hwp hpl hf hS) rfl ?_)
 refine dp rfl (pop_move rfl) ?_
 refine dp rfl (pop_fieldAddr_raw ty79 rfl ty9 (by decide) rfl) ?_
 refine de0 (eop_store (i := 0) ty9 rfl rfl rfl rfl rfl (Nat.le_of_ble_eq_true rfl) ?_)
 refine dp rfl (pop_fieldAddr_raw ty79 rfl ty3 (by decide) rfl) ?_
 refine de0 (eop_store (i := 0) ty3 rfl rfl rfl rfl rfl (Nat.le_of_ble_eq_true rfl) ?_)
 refine dp rfl (pop_fieldAddr_raw ty79 rfl ty4 (by decide) rfl) ?_
 refine de0 (eop_store (i := 0) ty4 rfl rfl rfl rfl rfl (Nat.le_of_ble_eq_true rfl) ?_)
 refine dn ?_
 refine hw_reg1 ?_
 refine dp rfl (pop_move rfl) ?_
 refine de rfl (eop_loadw (i := 0) (h := ePick ⟨p.No, p.Team, wishOf r g w p.Team, n, true⟩) ty79 rfl rfl rfl rfl rfl ?_)
 refine de rfl (eop_callf (M1 := (RunM b m va v r A T l S)) (R := [_]) ca139 rfl (WeakL.refl _) (List.perm_append_comm (l₁ := [_])) (c_draft_run_pick (p := ⟨p.No, p.Team, wishOf r g w p.Team, n, true⟩) (lt_of_get hp0) hl) ?_)
 rintro _ _ ⟨v24, rfl, rfl⟩
 refine dn ?_
 exact ret_g ((Ghost.perm List.perm_append_comm).trans Ghost.drop) rfl ⟨v24, rfl, rfl⟩

/-- benchwarmer/draft.wished -/
theorem c_draft_wished [Tracks] {r : Room} {k : List Keep} {s : List Swap} {l : List Pick} {w : List Wish} (ht : r.Teams.length ≤ 1000000) (hp : r.Players.length ≤ 1000000) (hk0 : k.length ≤ 1000000) (hl : s.length ≤ 1000000) (hll : l.length ≤ 1000) (hw : w.length ≤ 1000000) (hwp : ∀ y ∈ w, y.Players.length ≤ 1000000) : Con Tryz.prog 126 [.vptr (hcells (eRoom r)) 0, eKeeps k, eSwaps s, ePicks l, eWishes w] [] (fun res M' => ∃ v, res = .tup [.raw v, .int .i64 (wishedE r k s l w)] ∧ (wishedE r k s l w = 0 → ∃ b m va u S, v = .pointer (some ⟨b, 0, none⟩) ∧ RunOk r k s l S ∧ M' = RunM b m va u r (open1 r k s) ((freeP r k s).drop l.length) l S)) := by
 refine Con.of_body Tryz.func126 rfl Tryz.ntmps126 rfl rfl ?_
 refine hw_reg ?_
 refine dp rfl (pop_assign rfl) ?_
 refine dp rfl (pop_assign rfl) ?_
 refine dn ?_
 refine hw_reg ?_
 refine dp rfl (pop_move rfl) ?_
 refine dp rfl (pop_move rfl) ?_
 refine dp rfl (pop_move rfl) ?_
 refine dp rfl (pop_move rfl) ?_
 refine de rfl (eop_callf (M1 := []) (R := []) ca129 rfl (WeakL.refl _) (List.Perm.refl _) (c_draft_follow ht hp hk0 hl hll) ?_)
 rintro _ M20 ⟨v20, rfl, hv20⟩
 refine dp rfl (pop_move rfl) ?_
 refine dp rfl (pop_extract rfl rfl) ?_
 refine dp rfl (pop_extract rfl rfl) ?_
 refine dp rfl (pop_assign rfl) ?_
 refine dp rfl (pop_assign rfl) ?_
 refine dn ?_
 refine hw_seq ?_
 refine hw_reg ?_
 refine dp rfl (pop_move rfl) ?_
 refine dp rfl (pop_neq rfl rfl) ?_
 refine dn ?_
 refine hw_cond rfl (fun h1 => ?_) (fun h2 => ?_)
 ·try simp at h1
  refine hw_reg ?_
  refine dp rfl (pop_move rfl) ?_
  refine dp rfl (pop_assign rfl) ?_
  refine dp rfl (pop_assign rfl) ?_
  refine dn ?_
  refine hw_ret ?_
  (refine ret_g Ghost.clear rfl ⟨.pointer none, ?_, fun h0 => ?_⟩
   ·show HVal.tup _ = _
    (rw [wishedE, if_pos (by simpa using h1)]; rfl)
   ·exfalso
    first | (rw [wishedE, if_pos (by simpa using h1)] at h0; exact h1 h0) | (rw [wishedE, if_neg (by simpa using h2)] at h0; exact h3 h0))
 ·try simp at h2
  refine hw_skip ?_
  refine seqQ_n ?_
  refine hw_seq ?_
  refine hw_reg ?_
  refine dp rfl (pop_move rfl) ?_
  refine dp rfl ((pop_nilCheck rfl)) ?_
  refine dp rfl (pop_loadw ty64 rfl rfl rfl rfl) ?_
  refine dp rfl (pop_move rfl) ?_
  refine dp rfl (pop_call ca205 rfl (WeakL.refl _) (c_draft_CheckWishes (by assumption) (by assumption) (by assumption) (by assumption))) ?_
  refine dp rfl (pop_assign rfl) ?_
  refine dn ?_
  refine hw_reg ?_
  refine dp rfl (pop_move rfl) ?_
  refine dp rfl (pop_neq rfl rfl) ?_
  refine dn ?_
  refine hw_cond rfl (fun h3 => ?_) (fun h4 => ?_)
  ·try simp at h3
   refine hw_reg ?_
   refine dp rfl (pop_move rfl) ?_
   refine dp rfl (pop_assign rfl) ?_
   refine dp rfl (pop_assign rfl) ?_
   refine dn ?_
   refine hw_ret ?_
   (refine ret_g Ghost.clear rfl ⟨.pointer none, ?_, fun h0 => ?_⟩
    ·show HVal.tup _ = _
     (rw [wishedE, if_neg (by simpa using h2)]; rfl)
    ·exfalso
     first | (rw [wishedE, if_pos (by simpa using h1)] at h0; exact h1 h0) | (rw [wishedE, if_neg (by simpa using h2)] at h0; exact h3 h0))
  ·try simp at h4
   refine hw_skip ?_
   refine seqQ_n ?_
   refine hw_reg ?_
   refine dp rfl (pop_move rfl) ?_
   refine dp rfl (pop_assign rfl) ?_
   refine dp rfl (pop_assign rfl) ?_
   refine dn ?_
   refine hw_ret ?_
   (have hz : wishedE r k s l w = 0 := by rw [wishedE, if_neg (by simpa using h2)]; exact h4
    rw [hz]
    obtain ⟨b, m, va, u, S, rfl, ok, rfl⟩ := hv20 (by simpa using h2)
    exact ret_q rfl ⟨_, rfl, fun _ => ⟨b, m, va, u, S, rfl, ok, rfl⟩⟩)

/-- benchwarmer/draft.Finish -/
theorem c_draft_Finish [Tracks] {r : Room} {k : List Keep} {s : List Swap} {l : List Pick} {w : List Wish} (ht : r.Teams.length ≤ 1000000) (hp : r.Players.length ≤ 1000000) (hk0 : k.length ≤ 1000000) (hl : s.length ≤ 1000000) (hll : l.length ≤ 1000) (hw : w.length ≤ 1000000) (hwp : ∀ y ∈ w, y.Players.length ≤ 1000000) : ConP Tryz.prog 40 [eRoom r, eKeeps k, eSwaps s, ePicks l, eWishes w] (.tup [ePicks (if wishedE r k s l w != 0 then [] else finL r k s w l), .int .i64 (wishedE r k s l w)]) := by
 refine Con.of_body Tryz.func40 rfl Tryz.ntmps40 rfl rfl ?_
 refine hw_reg ?_
 refine dp rfl (pop_box rfl rfl) ?_
 refine dp rfl (pop_assign rfl) ?_
 refine dp rfl (pop_assign rfl) ?_
 refine dn ?_
 refine hw_reg ?_
 refine dp rfl (pop_move rfl) ?_
 refine dp rfl (pop_move rfl) ?_
 refine dp rfl (pop_move rfl) ?_
 refine dp rfl (pop_move rfl) ?_
 refine de rfl (eop_callf (M1 := []) (R := []) ca126 rfl (WeakL.refl _) (List.Perm.refl _) (c_draft_wished ht hp hk0 hl hll hw hwp) ?_)
 rintro _ M19 ⟨v19, rfl, hv19⟩
 refine dp rfl (pop_move rfl) ?_
 refine dp rfl (pop_extract rfl rfl) ?_
 refine dp rfl (pop_extract rfl rfl) ?_
 refine dp rfl (pop_assign rfl) ?_
 refine dp rfl (pop_assign rfl) ?_
 refine dn ?_
 refine hw_seq ?_
 refine hw_reg ?_
 refine dp rfl (pop_move rfl) ?_
 refine dp rfl (pop_neq rfl rfl) ?_
 refine dn ?_
 refine hw_cond rfl (fun h1 => ?_) (fun h2 => ?_)
 ·try simp at h1
  refine hw_reg ?_
  refine dp rfl (pop_move rfl) ?_
  refine dp rfl (pop_assign rfl) ?_
  refine dp rfl (pop_assign rfl) ?_
  refine dn ?_
  refine hw_ret ?_
  exact ⟨_, [], Ghost.clear, _, _, rfl, weak_tup2 (weak_nil 5) (Weak.refl _), by rw [if_pos (by simpa using h1)]; rfl, rfl⟩
 ·try simp at h2
  refine hw_skip ?_
  refine seqQ_n ?_
  refine hw_seq ?_
  refine hw_block ?_
  obtain ⟨b, m, va, u0, S0, rfl, ok0, rfl⟩ := hv19 (by simpa using h2)
  obtain ⟨hpk, hwk⟩ := wishedE_ok (by simpa using h2)
  obtain ⟨hof, hlf, _⟩ := picksE_ok hpk
  have hro := room_ok (openFault_ok hof).1
  have hwin : ∀ y ∈ w, ∀ x ∈ y.Players, x ∈ r.Players := fun y hy => (wishes_in hwk y hy).1
  have hcl := hro.clock
  have hfl : (freeP r k s).length ≤ 600 := by have h5 := free_len hof; have h6 := turns_len (r := r) (s := s) (openFault_ok hof).1; omega
  refine hw_loopw3 [25, 26, 27, 28, 29, 30, 31, 32, 33, 34, 35] (fun (v : Value) (S : List Str) (L : List Pick) => []) (fun (v : Value) (S : List Str) (L : List Pick) => (RunM b m va v r (open1 r k s) ((freeP r k s).drop L.length) L S)) (fun (v : Value) (S : List Str) (L : List Pick) => finL r k s w l = finGo r k (freeP r k s) w ((freeP r k s).length - L.length) L ∧ RunOk r k s L S ∧ L.length ≤ (freeP r k s).length) (fun (v : Value) (S : List Str) (L : List Pick) => (freeP r k s).length - L.length) (u0) (S0) (l) ?_ ?_ ?_ ?_
  ·exact ⟨rfl, ok0, hlf⟩
  ·exact trivial
  ·exact List.Perm.refl _
  ·intro v S L hinv
   obtain ⟨hg, ok, hLf⟩ := hinv
   refine hw_seq ?_
   refine hw_reg ?_
   refine dp rfl (pop_move rfl) ?_
   refine dp rfl ((pop_nilCheck_raw rfl)) ?_
   refine dp rfl (pop_fieldAddr_raw ty216 rfl ty72 (by decide) rfl) ?_
   refine de rfl (eop_load (i := 0) ty72 rfl rfl (.inl ⟨rfl, rfl⟩) ?_)
   refine dp rfl (pop_lenm ty72 rfl) ?_
   refine dp rfl (pop_gtr rfl rfl) ?_
   refine dn ?_
   refine hw_cond rfl (fun h3 => ?_) (fun h4 => ?_)
   ·try simp at h3
    have hLl : L.length < (freeP r k s).length := by omega
    refine hw_skip ?_
    refine seqQ_n ?_
    refine hw_block ?_
    refine hw_reg1 ?_
    refine dp rfl (pop_move rfl) ?_
    refine dp rfl (pop_move rfl) ?_
    refine dp rfl (pop_move rfl) ?_
    refine de rfl (eop_callw (hs' := [.vptr (RunH r (open1 r k s) ((freeP r k s).drop L.length) L S) 0]) ca128 rfl ⟨bowRun0, trivial⟩ (c_draft_run_last (by omega)) rfl ?_)
    refine de rfl (eop_callf (M1 := (RunM b m va v r (open1 r k s) ((freeP r k s).drop L.length) L S)) (R := []) ca127 rfl (WeakL.refl _) (List.Perm.refl _) (c_draft_run_auto (p := (freeP r k s).getD L.length pick0) (g := fun y => S.contains y) (n := lastAt r L) (drop_get hLl) (by omega) hw hwp hp (left_ex hof hLl ok) (fun _ => rfl)) ?_)
    rintro _ _ ⟨v99, rfl, rfl⟩
    rw [wish_ok ok hwin]
    refine dn ?_
    refine blockQ_n ?_
    exact ⟨v99, sadd (wishOf r (goneB k L) w ((freeP r k s).getD L.length pick0).Team) S, L ++ [autoP r k (freeP r k s) w L (lastAt r L)], ⟨by rw [hg, fin_go hLl, List.length_append]; rfl, ok.add (autoP r k (freeP r k s) w L (lastAt r L)), by simp; omega⟩, by dsimp only; simp; omega, trivial, (by repeat (first | exact keeps_refl | refine keeps_upd rfl ?_ | refine keeps_loop rfl rfl ?_)), perm_eq (by dsimp only; rw [List.drop_drop, List.length_append]; rfl)⟩
   ·try simp at h4
    have hLn : (freeP r k s).length ≤ L.length := by omega
    rw [fin_stop hLn] at hg
    refine hw_exit ?_
    refine seqQ_x ?_
    refine loopQ3_x ?_
    refine blockQ_eq ?_
    refine seqQ_n ?_
    refine hw_reg ?_
    refine dp rfl (pop_move rfl) ?_
    refine dp rfl ((pop_nilCheck_raw rfl)) ?_
    refine dp rfl (pop_fieldAddr_raw ty216 rfl ty72 (by decide) rfl) ?_
    refine de rfl (eop_load (i := 0) ty72 rfl rfl (.inl ⟨rfl, rfl⟩) ?_)
    refine dp rfl (pop_assign rfl) ?_
    refine dp rfl (pop_assign rfl) ?_
    refine dn ?_
    refine hw_ret ?_
    (refine ret_g ((Ghost.fa 10 (i := 2) rfl rfl).trans Ghost.clear) rfl ⟨?_, rfl⟩
     rw [if_neg (by simpa using h2), hg, h2]; rfl)

end Go.Proofs.YtcnfhcicepmjcaaGreatDoor
end
section
namespace Go.Proofs.YtcnfhcicepmjcaaGreatDoor
open Go.HL
set_option maxRecDepth 100000
set_option linter.unusedVariables false
set_option linter.unusedSimpArgs false
end Go.Proofs.YtcnfhcicepmjcaaGreatDoor
end
section
namespace Go.Proofs.YtcnfhcicepmjcaaGreatDoor
open Go.HL
set_option maxRecDepth 100000
set_option linter.unusedVariables false
set_option linter.unusedSimpArgs false
/-- slices.IndexFunc[[]benchwarmer/api.Pick,benchwarmer/api.Pick] -/
theorem c_slices_IndexFunc_api_Pick_api_Pick [Tracks] {l : List Pick} {fid : FuncId} {caps : List HVal} {p : Pick → Bool} (hca : Callable Tryz.prog fid) (hp : ∀ x, ConP Tryz.prog fid ([ePick x] ++ caps) (.bool (p x))) (hl : l.length ≤ 1000000) : ConP Tryz.prog 140 [.slice 5 (l.map ePick), .fn (.func fid) [] caps] (.int .i64 (idxF p l 0)) := by
 refine Con.of_body Tryz.func140 rfl Tryz.ntmps140 rfl rfl ?_
 refine hw_reg ?_
 refine dp rfl (pop_assign rfl) ?_
 refine dn ?_
 refine hw_seq ?_
 refine hw_reg ?_
 refine dp rfl (pop_move rfl) ?_
 refine dp rfl (pop_lenm ty72 rfl) ?_
 refine dp rfl (pop_move rfl) ?_
 refine dn ?_
 refine hw_block ?_
 refine hw_loopw [4, 5, 8, 9, 10, 11, 12, 13, 14, 15, 16, 17, 18] (fun (k : Nat) => [(8, .int .i64 k)]) (fun (k : Nat) => []) (fun (k : Nat) => k ≤ l.length ∧ (idxF p l 0 = idxF p (l.drop k) k)) (fun (k : Nat) => l.length - k) (0) ?_ ?_ ?_ ?_
 ·exact ⟨Nat.zero_le _, rfl⟩
 ·exact ⟨rfl, trivial⟩
 ·exact List.Perm.refl _
 ·intro k hinv
  obtain ⟨hk, hg⟩ := hinv
  refine hw_reg ?_
  refine dp rfl (pop_lss rfl rfl) ?_
  refine dn ?_
  refine hw_seq ?_
  refine hw_cond rfl (fun h1 => ?_) (fun h2 => ?_)
  ·try simp at h1
   obtain ⟨x, hx⟩ : ∃ x, l[k]? = some x := ⟨_, List.getElem?_eq_getElem h1⟩
   have hdx := drop_cons hx
   rw [hdx] at hg
   refine hw_skip ?_
   refine seqQ_n ?_
   refine hw_seq ?_
   refine hw_block ?_
   refine hw_reg ?_
   refine dp rfl (pop_move rfl) ?_
   refine dp rfl (pop_assign rfl) ?_
   refine dn ?_
   refine hw_reg ?_
   refine dp rfl (pop_move rfl) ?_
   refine dp rfl (pop_move rfl) ?_
   refine dp rfl (pop_move rfl) ?_
   refine dp rfl (pop_idx ty72 ty79 rfl rfl rfl (by assumption)) ?_
   refine dp rfl (pop_loadw ty79 rfl rfl rfl rfl) ?_
   refine dp rfl (pop_callv hca rfl rfl (WeakL.refl _) (hp _)) ?_
   refine dn ?_
   refine hw_cond rfl (fun h3 => ?_) (fun h4 => ?_)
   ·try simp at h3
    refine hw_reg ?_
    refine dp rfl (pop_move rfl) ?_
    refine dp rfl (pop_assign rfl) ?_
    refine dn ?_
    refine hw_ret ?_
    refine ret_p rfl ?_
    show HVal.int .i64 _ = _
    (rw [hg]; simp_all [idxF])
   ·try simp at h4
    refine hw_skip ?_
    refine blockQ_n ?_
    refine seqQ_n ?_
    refine hw_reg1 ?_
    refine dp rfl (pop_add64 rfl rfl (by omega) (by omega)) ?_
    refine dp rfl (pop_move rfl) ?_
    refine dn ?_
    refine ⟨k + 1, ?_, ?_, ⟨rfl, trivial⟩, (by repeat (first | exact keeps_refl | refine keeps_upd rfl ?_ | refine keeps_loop rfl rfl ?_)), List.Perm.refl _⟩
    ·refine ⟨by omega, ?_⟩
     rw [hg, idxF, if_neg (by simp_all)]; rfl
    ·dsimp only; omega
  ·try simp at h2
   have hnk : l.length ≤ k := by omega
   obtain rfl : k = l.length := by omega
   rw [drop_all (Nat.le_refl _)] at hg
   refine hw_exit ?_
   refine seqQ_x ?_
   refine loopQ_x ?_
   refine blockQ_eq ?_
   refine seqQ_n ?_
   refine hw_reg ?_
   refine dp rfl (pop_assign rfl) ?_
   refine dn ?_
   refine hw_ret ?_
   refine ret_p rfl ?_
   show HVal.int .i64 _ = _
   (rw [hg]; rfl)

/-- slices.ContainsFunc[[]benchwarmer/api.Pick,benchwarmer/api.Pick] -/
theorem c_slices_ContainsFunc_api_Pick_api_Pick [Tracks] {l : List Pick} {fid : FuncId} {caps : List HVal} {p : Pick → Bool} (hca : Callable Tryz.prog fid) (hp : ∀ x, ConP Tryz.prog fid ([ePick x] ++ caps) (.bool (p x))) (hl : l.length ≤ 1000000) : ConP Tryz.prog 53 [.slice 5 (l.map ePick), .fn (.func fid) [] caps] (.bool (l.any p)) := by
 refine Con.of_body Tryz.func53 rfl Tryz.ntmps53 rfl rfl ?_
 refine hw_reg ?_
 refine dp rfl (pop_assign rfl) ?_
 refine dn ?_
 refine hw_reg ?_
 refine dp rfl (pop_move rfl) ?_
 refine dp rfl (pop_move rfl) ?_
 refine dp rfl (pop_call ca140 rfl (WeakL.refl _) (c_slices_IndexFunc_api_Pick_api_Pick hca hp hl)) ?_
 refine dp rfl (pop_geq rfl rfl) ?_
 refine dp rfl (pop_assign rfl) ?_
 refine dn ?_
 refine hw_ret ?_
 refine ret_p rfl ?_
 congr 1; exact idxF_nonneg p l 0 (by omega)

/-- slices.DeleteFunc[[]benchwarmer/api.Pick,benchwarmer/api.Pick] -/
theorem c_slices_DeleteFunc_api_Pick_api_Pick [Tracks] {l : List Pick} {fid : FuncId} {caps : List HVal} {p : Pick → Bool} {v : Value} (hca : Callable Tryz.prog fid) (hp : ∀ x, ConP Tryz.prog fid ([ePick x] ++ caps) (.bool (p x))) (hl : l.length ≤ 1000000) : Con Tryz.prog 201 [.raw v, .fn (.func fid) [] caps] [.arr v 5 (l.map ePick)] (fun x M' => ∃ u, x = .raw u ∧ M' = [.arr u 5 ((l.filter (fun x => !p x)).map ePick)]) := by
 refine Con.of_body Tryz.func201 rfl Tryz.ntmps201 rfl rfl ?_
 refine hw_reg ?_
 refine dp rfl (pop_assign rfl) ?_
 refine dn ?_
 refine hw_reg ?_
 refine dp rfl (pop_move rfl) ?_
 refine dp rfl (pop_move rfl) ?_
 refine de rfl (eop_callb (hs' := [.slice 5 (l.map ePick), .fn (.func fid) [] caps]) ca140 rfl ⟨.arr (i := 0) rfl, .weak (Weak.refl _), trivial⟩ (c_slices_IndexFunc_api_Pick_api_Pick (p := p) hca hp hl) rfl ?_)
 refine dp rfl (pop_assign rfl) ?_
 refine dn ?_
 refine hw_seq ?_
 refine hw_reg ?_
 refine dp rfl (pop_move rfl) ?_
 refine dp rfl (pop_eql rfl rfl) ?_
 refine dn ?_
 refine hw_cond rfl (fun h1 => ?_) (fun h2 => ?_)
 ·try simp at h1
  refine hw_reg ?_
  refine dp rfl (pop_move rfl) ?_
  refine dp rfl (pop_assign rfl) ?_
  refine dn ?_
  refine hw_ret ?_
  (refine ret_q rfl ⟨_, rfl, ?_⟩
   rw [idxF_none p l 0 (by omega) h1]
   done)
 ·try simp at h2
  refine hw_skip ?_
  refine seqQ_n ?_
  refine hw_seq ?_
  obtain ⟨i0, hi0, hil, ⟨x0, hx0, hp0⟩, hb0⟩ := idxF_found p l 0 (by omega) h2
  rw [Int.zero_add] at hi0
  obtain ⟨hD0, hn0⟩ := DelInv.start (p := p) hil hx0 hp0 hb0
  refine hw_arrc (i := 0) rfl (fun h0 he => ?_) (fun b off cap hv hcap => ?_)
  ·exfalso; have := congrArg List.length he; simp at this; subst this; simp at hil
  rw [List.length_map] at hv hcap
  subst hv
  refine hw_reg ?_
  refine dp rfl (pop_move rfl) ?_
  refine dp rfl (pop_eq (pop_add64 rfl rfl (by rw [hi0]; omega) (by rw [hi0]; omega)) (congrArg _ (by rw [hi0]))) ?_
  refine dp rfl (pop_assign rfl) ?_
  refine dn ?_
  refine hw_block ?_
  refine hw_loopw2 [5, 6, 7, 16, 17, 18, 19, 20, 21, 22, 23, 24, 25, 26, 27, 28, 29, 30, 31, 32, 33, 34, 35] (fun (j : Nat) (D : List Pick) => [(6, .int .i64 (j : Int)), (5, .int .i64 (((l.take j).filter (fun x => !p x)).length : Int))]) (fun (j : Nat) (D : List Pick) => [.arr (.slice (some ⟨b, off, none⟩) l.length cap) 5 (D.map ePick)]) (fun (j : Nat) (D : List Pick) => DelInv p l j D) (fun (j : Nat) (D : List Pick) => l.length - j) (i0 + 1) (l) ?_ ?_ ?_ ?_
  ·exact hD0
  ·exact ⟨rfl, some_int (by rw [hn0, hi0]), trivial⟩
  ·exact List.Perm.refl _
  ·intro j D hD
   have hlt0 := hD.lt
   have hle0 := hD.len
   refine hw_seq ?_
   refine hw_reg ?_
   refine dp rfl (pop_move rfl) ?_
   refine dp rfl (pop_move rfl) ?_
   refine de rfl (eop_lenm (i := 0) ty72 rfl rfl ?_)
   refine dp rfl (pop_lss rfl rfl) ?_
   refine dn ?_
   refine hw_cond rfl (fun h3 => ?_) (fun h4 => ?_)
   ·try simp at h3
    obtain ⟨x, hx⟩ : ∃ x, l[j]? = some x := ⟨_, List.getElem?_eq_getElem (by omega)⟩
    refine hw_skip ?_
    refine seqQ_n ?_
    refine hw_seq ?_
    refine hw_block ?_
    refine hw_reg ?_
    refine dp rfl (pop_move rfl) ?_
    refine dp rfl (pop_move rfl) ?_
    refine dp rfl (pop_idxraw (j := j) ty72 ty79 rfl rfl rfl (by omega)) ?_
    refine de rfl (eop_load_elw (i := 0) (j := j) ty79 rfl rfl rfl (hD.get hx) rfl rfl rfl ?_)
    refine de rfl (eop_alloc ty79 rfl fun b7 => ?_)
    refine de0 (eop_storew ty79 rfl rfl rfl rfl rfl ?_)
    refine dn ?_
    refine hw_ghost (Ghost.fc0 7 rfl) ?_
    refine hw_reg ?_
    refine dp rfl (pop_move rfl) ?_
    refine dp rfl (pop_loadw ty79 rfl rfl rfl rfl) ?_
    refine dp rfl (pop_callv hca rfl rfl (WeakL.refl _) (hp _)) ?_
    refine dp rfl (pop_not rfl) ?_
    refine dn ?_
    refine hw_cond rfl (fun h5 => ?_) (fun h6 => ?_)
    ·try simp at h5
     refine hw_reg ?_
     refine dp rfl (pop_move rfl) ?_
     refine dp rfl (pop_move rfl) ?_
     refine dp rfl (pop_loadw ty79 rfl rfl rfl rfl) ?_
     refine dp rfl (pop_idxraw (j := ((l.take j).filter (fun x => !p x)).length) ty72 ty79 rfl rfl rfl (by have := hD.lt; omega)) ?_
     refine de0 (eop_store_elw (i := 0) (j := ((l.take j).filter (fun x => !p x)).length) (y := D[((l.take j).filter (fun x => !p x)).length]'(by have := hD.lt; have := hD.len; omega)) (y' := x) ty79 rfl rfl rfl rfl (List.getElem?_eq_getElem _) rfl rfl rfl ?_)
     refine dn ?_
     refine hw_reg1 ?_
     refine dp rfl (pop_move rfl) ?_
     refine dp rfl (pop_add64 rfl rfl (by omega) (by have := hD.lt; omega)) ?_
     refine dp rfl (pop_assign rfl) ?_
     refine dn ?_
     refine blockQ_n ?_
     refine seqQ_n ?_
     refine hw_reg1 ?_
     refine dp rfl (pop_move rfl) ?_
     refine dp rfl (pop_add64 rfl rfl (by omega) (by omega)) ?_
     refine dp rfl (pop_assign rfl) ?_
     refine dn ?_
     exact ⟨j + 1, _, (hD.keep hx (by simp_all)).1, by dsimp only; omega, ⟨rfl, some_int (by rw [(hD.keep hx (by simp_all)).2]; rfl), trivial⟩, (by repeat (first | exact keeps_refl | refine keeps_upd rfl ?_ | refine keeps_loop rfl rfl ?_)), List.Perm.refl _⟩
    ·try simp at h6
     refine hw_skip ?_
     refine blockQ_n ?_
     refine seqQ_n ?_
     refine hw_reg1 ?_
     refine dp rfl (pop_move rfl) ?_
     refine dp rfl (pop_add64 rfl rfl (by omega) (by omega)) ?_
     refine dp rfl (pop_assign rfl) ?_
     refine dn ?_
     exact ⟨j + 1, _, (hD.skip hx (by simp_all)).1, by dsimp only; omega, ⟨rfl, some_int (by rw [(hD.skip hx (by simp_all)).2]), trivial⟩, (by repeat (first | exact keeps_refl | refine keeps_upd rfl ?_ | refine keeps_loop rfl rfl ?_)), List.Perm.refl _⟩
   ·try simp at h4
    obtain rfl : j = l.length := by have := hD.jle; omega
    have hend := hD.done
    refine hw_exit ?_
    refine seqQ_x ?_
    refine loopQ2_x ?_
    refine blockQ_eq ?_
    refine seqQ_n ?_
    refine hw_reg ?_
    refine dp rfl (pop_move rfl) ?_
    refine dp rfl (pop_move rfl) ?_
    refine dp rfl (pop_slraw (l := ((l.take l.length).filter (fun x => !p x)).length) ty72 ty79 rfl ⟨_, _, rfl, rfl⟩ rfl (by omega) (by omega) hcap) ?_
    refine de0 (eop_clear_at (i := 0) (m := ((l.take l.length).filter (fun x => !p x)).length) (((l.take l.length).filter (fun x => !p x)).length) ty72 ty79 rfl rfl rfl (slOff_or (by omega) hcap) rfl (by omega) (Nat.le_refl _) (by rw [List.length_map, hD.len]; omega) ?_)
    refine dn ?_
    refine hw_reg ?_
    refine dp rfl (pop_move rfl) ?_
    refine dp rfl (pop_move rfl) ?_
    refine dp rfl (pop_slraw0 (h := ((l.take l.length).filter (fun x => !p x)).length) ty72 ty79 rfl ⟨_, _, rfl, rfl⟩ (by omega)) ?_
    refine dp rfl (pop_assign rfl) ?_
    refine dn ?_
    refine hw_ret ?_
    (refine ret_q rfl ⟨_, rfl, ?_⟩
     rw [List.take_length, ← List.map_take, hend]; rfl)

/-- slices.IndexFunc[[]benchwarmer/api.Keep,benchwarmer/api.Keep] -/
theorem c_slices_IndexFunc_api_Keep_api_Keep [Tracks] {l : List Keep} {fid : FuncId} {caps : List HVal} {p : Keep → Bool} (hca : Callable Tryz.prog fid) (hp : ∀ x, ConP Tryz.prog fid ([eKeep x] ++ caps) (.bool (p x))) (hl : l.length ≤ 1000000) : ConP Tryz.prog 274 [.slice 3 (l.map eKeep), .fn (.func fid) [] caps] (.int .i64 (idxF p l 0)) := by
 refine Con.of_body Tryz.func274 rfl Tryz.ntmps274 rfl rfl ?_
 refine hw_reg ?_
 refine dp rfl (pop_assign rfl) ?_
 refine dn ?_
 refine hw_seq ?_
 refine hw_reg ?_
 refine dp rfl (pop_move rfl) ?_
 refine dp rfl (pop_lenm ty66 rfl) ?_
 refine dp rfl (pop_move rfl) ?_
 refine dn ?_
 refine hw_block ?_
 refine hw_loopw [4, 5, 8, 9, 10, 11, 12, 13, 14, 15, 16, 17, 18] (fun (k : Nat) => [(8, .int .i64 k)]) (fun (k : Nat) => []) (fun (k : Nat) => k ≤ l.length ∧ (idxF p l 0 = idxF p (l.drop k) k)) (fun (k : Nat) => l.length - k) (0) ?_ ?_ ?_ ?_
 ·exact ⟨Nat.zero_le _, rfl⟩
 ·exact ⟨rfl, trivial⟩
 ·exact List.Perm.refl _
 ·intro k hinv
  obtain ⟨hk, hg⟩ := hinv
  refine hw_reg ?_
  refine dp rfl (pop_lss rfl rfl) ?_
  refine dn ?_
  refine hw_seq ?_
  refine hw_cond rfl (fun h1 => ?_) (fun h2 => ?_)
  ·try simp at h1
   obtain ⟨x, hx⟩ : ∃ x, l[k]? = some x := ⟨_, List.getElem?_eq_getElem h1⟩
   have hdx := drop_cons hx
   rw [hdx] at hg
   refine hw_skip ?_
   refine seqQ_n ?_
   refine hw_seq ?_
   refine hw_block ?_
   refine hw_reg ?_
   refine dp rfl (pop_move rfl) ?_
   refine dp rfl (pop_assign rfl) ?_
   refine dn ?_
   refine hw_reg ?_
   refine dp rfl (pop_move rfl) ?_
   refine dp rfl (pop_move rfl) ?_
   refine dp rfl (pop_move rfl) ?_
   refine dp rfl (pop_idx ty66 ty194 rfl rfl rfl (by assumption)) ?_
   refine dp rfl (pop_loadw ty194 rfl rfl rfl rfl) ?_
   refine dp rfl (pop_callv hca rfl rfl (WeakL.refl _) (hp _)) ?_
   refine dn ?_
   refine hw_cond rfl (fun h3 => ?_) (fun h4 => ?_)
   ·try simp at h3
    refine hw_reg ?_
    refine dp rfl (pop_move rfl) ?_
    refine dp rfl (pop_assign rfl) ?_
    refine dn ?_
    refine hw_ret ?_
    refine ret_p rfl ?_
    show HVal.int .i64 _ = _
    (rw [hg]; simp_all [idxF])
   ·try simp at h4
    refine hw_skip ?_
    refine blockQ_n ?_
    refine seqQ_n ?_
    refine hw_reg1 ?_
    refine dp rfl (pop_add64 rfl rfl (by omega) (by omega)) ?_
    refine dp rfl (pop_move rfl) ?_
    refine dn ?_
    refine ⟨k + 1, ?_, ?_, ⟨rfl, trivial⟩, (by repeat (first | exact keeps_refl | refine keeps_upd rfl ?_ | refine keeps_loop rfl rfl ?_)), List.Perm.refl _⟩
    ·refine ⟨by omega, ?_⟩
     rw [hg, idxF, if_neg (by simp_all)]; rfl
    ·dsimp only; omega
  ·try simp at h2
   have hnk : l.length ≤ k := by omega
   obtain rfl : k = l.length := by omega
   rw [drop_all (Nat.le_refl _)] at hg
   refine hw_exit ?_
   refine seqQ_x ?_
   refine loopQ_x ?_
   refine blockQ_eq ?_
   refine seqQ_n ?_
   refine hw_reg ?_
   refine dp rfl (pop_assign rfl) ?_
   refine dn ?_
   refine hw_ret ?_
   refine ret_p rfl ?_
   show HVal.int .i64 _ = _
   (rw [hg]; rfl)

/-- slices.ContainsFunc[[]benchwarmer/api.Keep,benchwarmer/api.Keep] -/
theorem c_slices_ContainsFunc_api_Keep_api_Keep [Tracks] {l : List Keep} {fid : FuncId} {caps : List HVal} {p : Keep → Bool} (hca : Callable Tryz.prog fid) (hp : ∀ x, ConP Tryz.prog fid ([eKeep x] ++ caps) (.bool (p x))) (hl : l.length ≤ 1000000) : ConP Tryz.prog 198 [.slice 3 (l.map eKeep), .fn (.func fid) [] caps] (.bool (l.any p)) := by
 refine Con.of_body Tryz.func198 rfl Tryz.ntmps198 rfl rfl ?_
 refine hw_reg ?_
 refine dp rfl (pop_assign rfl) ?_
 refine dn ?_
 refine hw_reg ?_
 refine dp rfl (pop_move rfl) ?_
 refine dp rfl (pop_move rfl) ?_
 refine dp rfl (pop_call ca274 rfl (WeakL.refl _) (c_slices_IndexFunc_api_Keep_api_Keep hca hp hl)) ?_
 refine dp rfl (pop_geq rfl rfl) ?_
 refine dp rfl (pop_assign rfl) ?_
 refine dn ?_
 refine hw_ret ?_
 refine ret_p rfl ?_
 congr 1; exact idxF_nonneg p l 0 (by omega)

/-- benchwarmer/benchref1.OpenOf -/
theorem c_benchref1_OpenOf_a [Tracks] {r : Room} {l : List Keep} {s : List Swap} (ht0 : 0 < r.Teams.length) (ht : r.Teams.length ≤ 20) (hr0 : 1 ≤ r.Rounds) (hr : r.Rounds ≤ 30) (hk0 : l.length ≤ 1000000) (hl : s.length ≤ 1000000) (hlen : (turns r s).length ≤ 600) : ConA Tryz.prog 202 [eRoom r, eKeeps l, eSwaps s] 5 ((open1 r l s).map ePick) := by
 have ho := ownFrom_len r r.Rounds.toNat
 have hm := Nat.mul_le_mul (show r.Rounds.toNat ≤ 30 by omega) ht
 have ho6 : (ownTurns r).length ≤ 600 := by unfold ownTurns; omega
 have hot : (ownTurns r).length = (turns r s).length := by rw [← ref_turns, tfor_len]
 refine Con.of_body Tryz.func202 rfl Tryz.ntmps202 rfl rfl ?_
 refine hw_reg ?_
 refine dp rfl (pop_box rfl rfl) ?_
 refine dp rfl (pop_assign rfl) ?_
 refine dn ?_
 refine hw_reg ?_
 refine dp rfl (pop_loadw ty64 rfl rfl rfl rfl) ?_
 refine dp rfl (pop_call ca275 rfl (WeakL.refl _) (c_benchref1_ownTurns (by assumption) (by assumption) (by assumption))) ?_
 refine dp rfl (pop_assign rfl) ?_
 refine dn ?_
 refine hw_reg ?_
 refine dp rfl (pop_assign rfl) ?_
 refine dn ?_
 refine hw_ghost (Ghost.arr_nil 5) ?_
 refine hw_seq ?_
 refine hw_reg ?_
 refine dp rfl (pop_loadw ty64 rfl rfl rfl rfl) ?_
 refine dp rfl (pop_move rfl) ?_
 refine dp rfl (pop_call ca276 rfl (WeakL.refl _) (c_benchref1_TurnsFor (by assumption) (by assumption) (by assumption) (by assumption) (by assumption))) ?_
 refine dp rfl (pop_lenm ty28 rfl) ?_
 refine dp rfl (pop_move rfl) ?_
 refine dn ?_
 refine hw_block ?_
 refine hw_loopw2 [8, 9, 10, 11, 13, 20, 21, 22, 23, 24, 25, 26, 27, 28, 29, 30, 31, 32, 33, 34, 35, 36, 37, 38, 39, 40, 41, 42, 43, 44, 45, 46, 47, 48, 49, 50, 51, 52, 53, 54, 55, 56, 57, 58, 59, 60, 61, 62, 63] (fun (i : Nat) (u : Value) => [(20, .int .i64 i), (8, .raw u)]) (fun (i : Nat) (u : Value) => [.arr u 5 ((openFrom r l 0 ((turns r s).take i)).map ePick)]) (fun (i : Nat) (u : Value) => i ≤ (turns r s).length ∧ (True)) (fun (i : Nat) (u : Value) => (turns r s).length - i) (0) (.slice none 0 0) ?_ ?_ ?_ ?_
 ·exact ⟨Nat.zero_le _, by simp_all⟩
 ·exact ⟨rfl, rfl, trivial⟩
 ·exact perm_eq (by simp [openFrom])
 ·intro i u hinv
  obtain ⟨hi, -⟩ := hinv
  refine hw_reg ?_
  refine dp rfl (pop_lss rfl rfl) ?_
  refine dn ?_
  refine hw_seq ?_
  refine hw_cond rfl (fun h1 => ?_) (fun h2 => ?_)
  ·try simp at h1
   obtain ⟨t, ht⟩ : ∃ t, (turns r s)[i]? = some t := ⟨_, List.getElem?_eq_getElem h1⟩
   have hdt := drop_cons ht
   obtain ⟨w, hw⟩ : ∃ w, (ownTurns r)[i]? = some w := ⟨_, List.getElem?_eq_getElem (by omega)⟩
   have htw := tfor_get r s _ 0 i w hw
   rw [ref_turns, ht, Nat.zero_add] at htw
   obtain rfl := Option.some.inj htw
   have hdl := Nat.div_le_self i r.Teams.length
   have hdn : (0:Int) ≤ ((i / r.Teams.length : Nat) : Int) := Int.natCast_nonneg _
   refine hw_skip ?_
   refine seqQ_n ?_
   refine hw_seq ?_
   refine hw_block ?_
   refine hw_reg ?_
   refine dp rfl (pop_move rfl) ?_
   refine dp rfl (pop_idx (j := i) (a := owner (((i / r.Teams.length : Nat) : Int) + 1) w s) ty28 ty9 rfl rfl rfl (by rw [List.getElem?_map, ht]; rfl)) ?_
   refine dp rfl (pop_load ty9 rfl rfl rfl) ?_
   refine dp rfl (pop_assign rfl) ?_
   refine dp rfl (pop_assign rfl) ?_
   refine dn ?_
   refine hw_reg ?_
   refine dp rfl (pop_move rfl) ?_
   refine dp rfl (pop_move rfl) ?_
   refine dp rfl (pop_build (cs := [_, _, _, _, _]) ty79 pl79 rfl) ?_
   refine de rfl (eop_alloc ty79 rfl fun b11 => ?_)
   refine de0 (eop_storew ty79 rfl rfl rfl rfl rfl ?_)
   refine dn ?_
   refine hw_seq ?_
   refine hw_reg ?_
   refine dp rfl (pop_move rfl) ?_
   refine dp rfl (pop_lenm ty66 rfl) ?_
   refine dp rfl (pop_move rfl) ?_
   refine dn ?_
   refine hw_block ?_
   refine hw_loopw2 [13, 30, 31, 32, 33, 34, 35, 36, 37, 38, 39, 40, 41, 42, 43, 44, 45, 46, 47, 48, 49, 50, 51, 52, 53, 54, 55, 56, 57, 58] (fun (k : Nat) (p : Pick) => [(30, .int .i64 k)]) (fun (k : Nat) (p : Pick) => [.cells b11 (hcells (ePick p)), .arr u 5 ((openFrom r l 0 ((turns r s).take i)).map ePick)]) (fun (k : Nat) (p : Pick) => k ≤ l.length ∧ (p = keepIn r (⟨((i / r.Teams.length : Nat) : Int) + 1, w, owner (((i / r.Teams.length : Nat) : Int) + 1) w s⟩ : Turn) ⟨i, (⟨((i / r.Teams.length : Nat) : Int) + 1, w, owner (((i / r.Teams.length : Nat) : Int) + 1) w s⟩ : Turn).team, [], 0, false⟩ (l.take k))) (fun (k : Nat) (p : Pick) => l.length - k) (0) (⟨i, owner (((i / r.Teams.length : Nat) : Int) + 1) w s, [], 0, false⟩) ?_ ?_ ?_ ?_
   ·exact ⟨Nat.zero_le _, by simp [keepIn]⟩
   ·exact ⟨rfl, trivial⟩
   ·exact List.Perm.refl _
   ·intro k p hinv
    obtain ⟨hk, hp⟩ := hinv
    refine hw_reg ?_
    refine dp rfl (pop_lss rfl rfl) ?_
    refine dn ?_
    refine hw_seq ?_
    refine hw_cond rfl (fun h3 => ?_) (fun h4 => ?_)
    ·try simp at h3
     obtain ⟨x, hx⟩ : ∃ x, l[k]? = some x := ⟨_, List.getElem?_eq_getElem h3⟩
     have hdx := drop_cons hx
     refine hw_skip ?_
     refine seqQ_n ?_
     refine hw_seq ?_
     refine hw_block ?_
     refine hw_reg ?_
     refine dp rfl (pop_idx ty66 ty194 rfl rfl rfl (by assumption)) ?_
     refine dp rfl (pop_loadw ty194 rfl rfl rfl rfl) ?_
     refine de rfl (eop_alloc ty194 rfl fun b13 => ?_)
     refine de0 (eop_storew ty194 rfl rfl rfl rfl rfl ?_)
     refine dn ?_
     refine hw_ghost (Ghost.fc0 13 rfl) ?_
     refine hw_draw (fun _ => True) [] mixed ?_
     refine ahp 0 rfl rfl (by kernel_rfl) (by kernel_rfl) (pop_fieldAddr ty194 rfl ty9 (by decide) rfl) ?_
     refine ahp 1 rfl rfl (by kernel_rfl) (by kernel_rfl) (pop_load ty9 rfl rfl rfl) ?_
     refine ahp 2 rfl rfl (by kernel_rfl) (by kernel_rfl) (pop_move rfl) ?_
     refine ahp 3 rfl rfl (by kernel_rfl) (by kernel_rfl) (pop_move rfl) ?_
     refine ahp 4 rfl rfl (by kernel_rfl) (by kernel_rfl) (pop_idx (j := i) (a := w) ty28 ty9 rfl rfl rfl hw) ?_
     refine ahp 5 rfl rfl (by kernel_rfl) (by kernel_rfl) (pop_load ty9 rfl rfl rfl) ?_
     refine ahp 6 rfl rfl (by kernel_rfl) (by kernel_rfl) (pop_eqls rfl rfl) ?_
     refine ahp 7 rfl rfl (by kernel_rfl) (by kernel_rfl) (pop_move rfl) ?_
     refine ahg 8 rfl rfl (by kernel_rfl) (by kernel_rfl) rfl (fun hc => ⟨_, OpenTo.refl _, pop_fieldAddr ty194 rfl ty3 (by decide) rfl⟩) ?_
     refine ahg 9 rfl rfl (by kernel_rfl) (by kernel_rfl) rfl (fun hc => ⟨_, OpenTo.upd (t := 42) rfl (hc) (OpenTo.refl _), pop_load ty3 rfl rfl rfl⟩) ?_
     refine ahg 10 rfl rfl (by kernel_rfl) (by kernel_rfl) rfl (fun hc => ⟨_, OpenTo.refl _, pop_move rfl⟩) ?_
     refine ahg 11 rfl rfl (by kernel_rfl) (by kernel_rfl) rfl (fun hc => ⟨_, OpenTo.refl _, pop_fieldAddr ty64 rfl ty28 (by decide) rfl⟩) ?_
     refine ahg 12 rfl rfl (by kernel_rfl) (by kernel_rfl) rfl (fun hc => ⟨_, OpenTo.upd (t := 45) rfl (hc) (OpenTo.refl _), pop_load ty28 rfl rfl rfl⟩) ?_
     refine ahg 13 rfl rfl (by kernel_rfl) (by kernel_rfl) rfl (fun hc => ⟨_, OpenTo.upd (t := 46) rfl (hc) (OpenTo.refl _), pop_lenm ty28 rfl⟩) ?_
     refine ahg 14 rfl rfl (by kernel_rfl) (by kernel_rfl) rfl (fun hc => by have hq := hc; (try simp at hq); exact ⟨_, OpenTo.upd (t := 47) rfl (hc) (OpenTo.upd (t := 44) rfl (hc) (OpenTo.refl _)), pop_eq (pop_quo64 rfl rfl (by omega) (by omega) (by omega)) (congrArg _ (tdiv_nat _ _))⟩) ?_
     refine ahg 15 rfl rfl (by kernel_rfl) (by kernel_rfl) rfl (fun hc => by have hq := hc; (try simp at hq); exact ⟨_, OpenTo.upd (t := 48) rfl (hc) (OpenTo.refl _), pop_add64 rfl rfl (by omega) (by omega)⟩) ?_
     refine ahg 16 rfl rfl (by kernel_rfl) (by kernel_rfl) rfl (fun hc => ⟨_, OpenTo.upd (t := 49) rfl (hc) (OpenTo.upd (t := 43) rfl (hc) (OpenTo.refl _)), pop_eql rfl rfl⟩) ?_
     refine ahp 17 rfl rfl (by kernel_rfl) (by kernel_rfl) (pop_picko rfl (.inr ⟨_, rfl, fun h => by simp_all⟩) (.inl rfl)) ?_
     refine ahz (by kernel_rfl) ?_
     refine hw_cond rfl (fun h5 => ?_) (fun h6 => ?_)
     ·try simp at h5
      refine hw_draw1 (fun _ => True) [] mixed ?_
      refine ahp 0 rfl rfl (by kernel_rfl) (by kernel_rfl) (pop_fieldAddr ty194 rfl ty9 (by decide) rfl) ?_
      refine ahp 1 rfl rfl (by kernel_rfl) (by kernel_rfl) (pop_load ty9 rfl rfl rfl) ?_
      refine ahp 2 rfl rfl (by kernel_rfl) (by kernel_rfl) (pop_fieldAddr ty64 rfl ty3 (by decide) rfl) ?_
      refine ahp 3 rfl rfl (by kernel_rfl) (by kernel_rfl) (pop_load ty3 rfl rfl rfl) ?_
      refine ahp 4 rfl rfl (by kernel_rfl) (by kernel_rfl) (pop_fieldAddr_raw ty79 rfl ty9 (by decide) rfl) ?_
      refine ahe 5 rfl (by kernel_rfl) ?_
      refine hop_e0 (eop_store (i := 0) ty9 rfl rfl rfl rfl rfl (Nat.le_of_ble_eq_true rfl) ?_)
      refine ⟨fun _ => .inl trivial, ?_⟩
      refine ahp 6 rfl rfl (by kernel_rfl) (by kernel_rfl) (pop_fieldAddr_raw ty79 rfl ty3 (by decide) rfl) ?_
      refine ahe 7 rfl (by kernel_rfl) ?_
      refine hop_e0 (eop_store (i := 0) ty3 rfl rfl rfl rfl rfl (Nat.le_of_ble_eq_true rfl) ?_)
      refine ⟨fun _ => .inl trivial, ?_⟩
      refine ahz (by kernel_rfl) ?_
      refine blockQ_n ?_
      refine seqQ_n ?_
      refine hw_reg1 ?_
      refine dp rfl (pop_add64 rfl rfl (by omega) (by omega)) ?_
      refine dp rfl (pop_move rfl) ?_
      refine dn ?_
      exact ⟨k + 1, { p with Player := x.Player, At := r.Start }, ⟨by omega, by rw [List.take_add_one, hx, hp]; exact (keepIn_snoc r _ _ x _).symm ▸ (by simp_all)⟩, by dsimp only; omega, ⟨rfl, trivial⟩, (by repeat (first | exact keeps_refl | refine keeps_upd rfl ?_ | refine keeps_loop rfl rfl ?_)), List.Perm.refl _⟩
     ·try simp at h6
      refine hw_skip ?_
      refine blockQ_n ?_
      refine seqQ_n ?_
      refine hw_reg1 ?_
      refine dp rfl (pop_add64 rfl rfl (by omega) (by omega)) ?_
      refine dp rfl (pop_move rfl) ?_
      refine dn ?_
      exact ⟨k + 1, p, ⟨by omega, by rw [List.take_add_one, hx, hp]; exact (keepIn_snoc r _ _ x _).symm ▸ (by simp_all)⟩, by dsimp only; omega, ⟨rfl, trivial⟩, (by repeat (first | exact keeps_refl | refine keeps_upd rfl ?_ | refine keeps_loop rfl rfl ?_)), List.Perm.refl _⟩
    ·try simp at h4
     have hnk : l.length ≤ k := by omega
     obtain rfl : k = l.length := by omega
     rw [List.take_length] at hp
     subst hp
     refine hw_exit ?_
     refine seqQ_x ?_
     refine loopQ2_x ?_
     refine blockQ_eq ?_
     refine seqQ_n ?_
     have ho7 : (openFrom r l 0 ((turns r s).take i)).length ≤ 600 := by rw [openFrom_len]; simp; omega
     refine hw_reg1 ?_
     refine dp rfl (pop_move rfl) ?_
     refine de rfl (eop_loadw (i := 0) ty79 rfl rfl rfl rfl rfl ?_)
     refine dp rfl (pop_buildSlice (hs := [_]) ty72 ty79 rfl rfl (by decide) (by decide) rfl) ?_
     refine de rfl (eop_append (i := 1) ty72 ty79 rfl rfl rfl rfl rfl (by simp [flat, hcells]) (by simp; omega) fun v62 => ?_)
     refine dp rfl (pop_assign rfl) ?_
     refine dn ?_
     refine blockQ_n ?_
     refine seqQ_n ?_
     refine hw_ghost Ghost.drop ?_
     refine hw_reg1 ?_
     refine dp rfl (pop_add64 rfl rfl (by omega) (by omega)) ?_
     refine dp rfl (pop_move rfl) ?_
     refine dn ?_
     refine ⟨i + 1, _, ?_, ?_, ⟨rfl, rfl, trivial⟩, (by repeat (first | exact keeps_refl | refine keeps_upd rfl ?_ | refine keeps_loop rfl rfl ?_)), perm_eq (by simp [List.take_add_one, ht, openFrom_snoc, Nat.min_eq_left hi])⟩
     ·exact ⟨by omega, trivial⟩
     ·dsimp only; omega
  ·try simp at h2
   have hni : (turns r s).length ≤ i := by omega
   obtain rfl : i = (turns r s).length := by omega
   refine hw_exit ?_
   refine seqQ_x ?_
   refine loopQ2_x ?_
   refine blockQ_eq ?_
   refine seqQ_n ?_
   refine hw_reg ?_
   refine dp rfl (pop_move rfl) ?_
   refine dp rfl (pop_assign rfl) ?_
   refine dn ?_
   refine hw_ret ?_
   exact ret_a rfl (by simp [open1])

/-- benchwarmer/benchref1.free$1 -/
theorem c_benchref1_free_1 [Tracks] {p : Pick}  : ConP Tryz.prog 203 [ePick p] (.bool (!(p.Player == []))) := by
 refine Con.of_body Tryz.func203 rfl Tryz.ntmps203 rfl rfl ?_
 refine hw_reg ?_
 refine dp rfl (pop_box rfl rfl) ?_
 refine dp rfl (pop_assign rfl) ?_
 refine dn ?_
 refine hw_reg ?_
 refine dp rfl (pop_fieldAddr ty79 rfl ty9 (by decide) rfl) ?_
 refine dp rfl (pop_load ty9 rfl rfl rfl) ?_
 refine dp rfl (pop_neqs rfl rfl) ?_
 refine dp rfl (pop_assign rfl) ?_
 refine dn ?_
 refine hw_ret ?_
 refine ret_p rfl ?_
 show HVal.bool _ = _
 rfl

/-- benchwarmer/benchref1.free -/
theorem c_benchref1_free [Tracks] {r : Room} {k : List Keep} {s : List Swap} (h : openFault r k s = 0) (hk0 : k.length ≤ 1000000) (hl : s.length ≤ 1000000) : ConP Tryz.prog 122 [eRoom r, eKeeps k, eSwaps s] (ePicks (freeP r k s)) := by
 have hro := room_ok (openFault_ok h).1
 have ht0 := hro.t0
 have ht := hro.t20
 have hr0 := hro.r1
 have hr := hro.r30
 have hlen := turns_len (r := r) (s := s) (openFault_ok h).1
 have hol : (open1 r k s).length ≤ 600 := by unfold open1; rw [openFrom_len]; exact hlen
 have hfl : (freeP r k s).length ≤ 600 := Nat.le_trans (List.length_filter_le _ _) hol
 refine Con.of_body Tryz.func122 rfl Tryz.ntmps122 rfl rfl ?_
 refine hw_reg ?_
 refine dp rfl (pop_box rfl rfl) ?_
 refine dp rfl (pop_assign rfl) ?_
 refine dn ?_
 refine hw_reg ?_
 refine dp rfl (pop_loadw ty64 rfl rfl rfl rfl) ?_
 refine dp rfl (pop_move rfl) ?_
 refine dp rfl (pop_move rfl) ?_
 refine de rfl (eop_calla ca202 rfl (WeakL.refl _) (c_benchref1_OpenOf_a (by assumption) (by assumption) (by assumption) (by assumption) (by assumption) (by assumption) (by assumption)) fun v10 => ?_)
 refine de rfl (eop_callx (i := 0) ca201 rfl (WeakL.refl _) rfl (c_slices_DeleteFunc_api_Pick_api_Pick (l := open1 r k s) (p := fun x => !(x.Player == [])) ca203 (fun _ => c_benchref1_free_1) (by omega)) ?_)
 rintro _ _ ⟨u11, rfl, rfl⟩
 refine dp rfl (pop_assign rfl) ?_
 refine dn ?_
 refine hw_ret ?_
 refine ret_fa (M := []) 6 rfl rfl ?_
 simp [freeP]

/-- benchwarmer/benchref1.LeftOf$1$1 -/
theorem c_benchref1_LeftOf_1_1 [Tracks] {y : Keep} {x : Str}  : ConP Tryz.prog 199 [eKeep y, .vptr [.str x] 0] (.bool (y.Player == x)) := by
 refine Con.of_body Tryz.func199 rfl Tryz.ntmps199 rfl rfl ?_
 refine hw_reg ?_
 refine dp rfl (pop_box rfl rfl) ?_
 refine dp rfl (pop_assign rfl) ?_
 refine dn ?_
 refine hw_reg ?_
 refine dp rfl (pop_fieldAddr ty194 rfl ty9 (by decide) rfl) ?_
 refine dp rfl (pop_load ty9 rfl rfl rfl) ?_
 refine dp rfl (pop_load ty9 rfl rfl rfl) ?_
 refine dp rfl (pop_eqls rfl rfl) ?_
 refine dp rfl (pop_assign rfl) ?_
 refine dn ?_
 refine hw_ret ?_
 refine ret_p rfl ?_
 rfl

/-- benchwarmer/benchref1.LeftOf$1$2 -/
theorem c_benchref1_LeftOf_1_2 [Tracks] {y : Pick} {x : Str}  : ConP Tryz.prog 200 [ePick y, .vptr [.str x] 0] (.bool (y.Player == x)) := by
 refine Con.of_body Tryz.func200 rfl Tryz.ntmps200 rfl rfl ?_
 refine hw_reg ?_
 refine dp rfl (pop_box rfl rfl) ?_
 refine dp rfl (pop_assign rfl) ?_
 refine dn ?_
 refine hw_reg ?_
 refine dp rfl (pop_fieldAddr ty79 rfl ty9 (by decide) rfl) ?_
 refine dp rfl (pop_load ty9 rfl rfl rfl) ?_
 refine dp rfl (pop_load ty9 rfl rfl rfl) ?_
 refine dp rfl (pop_eqls rfl rfl) ?_
 refine dp rfl (pop_assign rfl) ?_
 refine dn ?_
 refine hw_ret ?_
 refine ret_p rfl ?_
 rfl

/-- benchwarmer/benchref1.LeftOf$1 -/
theorem c_benchref1_LeftOf_1 [Tracks] {k : List Keep} {l : List Pick} {x : Str} (hk0 : k.length ≤ 1000000) (hl : l.length ≤ 1000000) : ConP Tryz.prog 197 [.str x, .vptr [eKeeps k] 0, .vptr [ePicks l] 0] (.bool (goneB k l x)) := by
 refine Con.of_body Tryz.func197 rfl Tryz.ntmps197 rfl rfl ?_
 refine hw_reg ?_
 refine dp rfl (pop_box rfl rfl) ?_
 refine dp rfl (pop_assign rfl) ?_
 refine dn ?_
 refine hw_reg ?_
 refine dp rfl (pop_load ty66 rfl rfl rfl) ?_
 refine dp rfl (pop_makeFunc rfl rfl) ?_
 refine dp rfl (pop_call ca198 rfl (WeakL.refl _) (c_slices_ContainsFunc_api_Keep_api_Keep (p := fun y => y.Player == x) ca199 (fun _ => c_benchref1_LeftOf_1_1) hk0)) ?_
 refine dp rfl (pop_move rfl) ?_
 refine dg rfl rfl (fun hc => ⟨_, OpenTo.refl _, pop_load ty72 rfl rfl rfl⟩) ?_
 refine dg rfl rfl (fun hc => ⟨_, OpenTo.refl _, pop_makeFunc rfl rfl⟩) ?_
 refine dg rfl rfl (fun hc => ⟨_, OpenTo.upd (t := 10) rfl (hc) (OpenTo.upd (t := 9) rfl (hc) (OpenTo.refl _)), pop_call ca53 rfl (WeakL.refl _) (c_slices_ContainsFunc_api_Pick_api_Pick (p := fun y => y.Player == x) ca200 (fun _ => c_benchref1_LeftOf_1_2) hl)⟩) ?_
 refine dp rfl (pop_picko rfl (.inl rfl) (.inr ⟨_, rfl, fun h => by simp_all⟩)) ?_
 refine dp rfl (pop_assign rfl) ?_
 refine dn ?_
 refine hw_ret ?_
 refine ret_p rfl ?_
 show HVal.bool _ = _
 unfold goneB
 cases k.any (fun y => y.Player == x) <;> rfl

/-- benchwarmer/benchref1.LeftOf -/
theorem c_benchref1_LeftOf [Tracks] {r : Room} {k : List Keep} {l : List Pick} (hp : r.Players.length ≤ 1000000) (hk0 : k.length ≤ 1000000) (hll : l.length ≤ 1000000) : ConP Tryz.prog 121 [eRoom r, eKeeps k, ePicks l] (eSs (leftL r k l)) := by
 refine Con.of_body Tryz.func121 rfl Tryz.ntmps121 rfl rfl ?_
 refine hw_reg ?_
 refine dp rfl (pop_box rfl rfl) ?_
 refine dp rfl (pop_box rfl rfl) ?_
 refine dp rfl (pop_box rfl rfl) ?_
 refine dp rfl (pop_assign rfl) ?_
 refine dn ?_
 refine hw_reg ?_
 refine dp rfl ((pop_fieldAddr ty64 rfl ty28 (by decide) rfl)) ?_
 refine dp rfl (pop_load ty28 rfl rfl rfl) ?_
 refine de rfl (eop_calla ca48 rfl (WeakL.refl _) (c_slices_Clone_string_string (by assumption)) fun v9 => ?_)
 refine dp rfl (pop_makeFunc rfl rfl) ?_
 refine de rfl (eop_callx (i := 0) ca132 rfl (WeakL.refl _) rfl (c_slices_DeleteFunc_string_string (l := r.Players) (p := goneB k l) ca197 (fun _ => c_benchref1_LeftOf_1 hk0 hll) hp) ?_)
 rintro _ _ ⟨u11, rfl, rfl⟩
 refine dp rfl (pop_assign rfl) ?_
 refine dn ?_
 refine hw_ret ?_
 exact ret_fa (M := []) 6 rfl rfl rfl

/-- benchwarmer/benchref1.NextOf -/
theorem c_benchref1_NextOf [Tracks] {r : Room} {k : List Keep} {s : List Swap} {l : List Pick}  (h : openFault r k s = 0) (hk0 : k.length ≤ 1000000) (hl : s.length ≤ 1000000) (hlf : l.length ≤ (freeP r k s).length) : ConP Tryz.prog 120 [eRoom r, eKeeps k, eSwaps s, ePicks l] (.tup [ePick (nextP r k s l), .bool (decide (l.length < (freeP r k s).length))]) := by
 have hro := room_ok (openFault_ok h).1
 have ht0 := hro.t0
 have ht := hro.t20
 have hr0 := hro.r1
 have hr := hro.r30
 have hlen := turns_len (r := r) (s := s) (openFault_ok h).1
 have hol : (open1 r k s).length ≤ 600 := by unfold open1; rw [openFrom_len]; exact hlen
 have hfl : (freeP r k s).length ≤ 600 := Nat.le_trans (List.length_filter_le _ _) hol
 refine Con.of_bodyc Tryz.func120 rfl Tryz.ntmps120 rfl rfl ?_
 refine hw_reg ?_
 refine dp rfl (pop_box rfl rfl) ?_
 refine de rfl (eop_alloc ty79 rfl fun b8 => ?_)
 refine dp rfl (pop_assign rfl) ?_
 refine dn ?_
 refine hw_reg ?_
 refine dp rfl (pop_loadw ty64 rfl rfl rfl rfl) ?_
 refine dp rfl (pop_move rfl) ?_
 refine dp rfl (pop_move rfl) ?_
 refine dp rfl (pop_call ca122 rfl (WeakL.refl _) (c_benchref1_free (by assumption) (by assumption) (by assumption))) ?_
 refine dp rfl (pop_assign rfl) ?_
 refine dn ?_
 refine hw_seq ?_
 refine hw_reg ?_
 refine dp rfl (pop_move rfl) ?_
 refine dp rfl (pop_lenm ty72 rfl) ?_
 refine dp rfl (pop_move rfl) ?_
 refine dp rfl (pop_lenm ty72 rfl) ?_
 refine dp rfl (pop_eql rfl rfl) ?_
 refine dn ?_
 refine hw_cond rfl (fun h1 => ?_) (fun h2 => ?_)
 ·try simp at h1
  refine hw_reg ?_
  refine dp rfl (pop_build (cs := [_, _, _, _, _]) ty79 pl79 rfl) ?_
  refine de0 (eop_store (i := 0) ty79 rfl rfl rfl rfl rfl (Nat.le_of_ble_eq_true rfl) ?_)
  refine dp rfl (pop_assign rfl) ?_
  refine dn ?_
  refine hw_ret ?_
  refine ⟨_, _, Ghost.fc0 8 rfl, [_, _], _, ⟨⟨_, _, _, _, _, rfl, ty79, .inr ⟨rfl, rfl, rfl⟩⟩, ⟨rfl, trivial⟩⟩, Weak.refl _, ?_, rfl⟩
  show HVal.tup _ = _
  (rw [nextP, if_neg (by omega), show decide (l.length < (freeP r k s).length) = false by simp; omega]; rfl)
 ·try simp at h2
  refine hw_skip ?_
  refine seqQ_n ?_
  refine hw_reg ?_
  refine dp rfl (pop_move rfl) ?_
  refine dp rfl (pop_move rfl) ?_
  refine dp rfl (pop_lenm ty72 rfl) ?_
  refine dp rfl (pop_idx (j := l.length) (a := (freeP r k s).getD l.length pick0) ty72 ty79 rfl rfl rfl (getD_some (by omega))) ?_
  refine dp rfl (pop_loadw ty79 rfl rfl rfl rfl) ?_
  refine de0 (eop_store (i := 0) ty79 rfl rfl rfl rfl rfl (Nat.le_of_ble_eq_true rfl) ?_)
  refine dp rfl (pop_assign rfl) ?_
  refine dn ?_
  refine hw_ret ?_
  refine ⟨_, _, Ghost.fc0 8 rfl, [_, _], _, ⟨⟨_, _, _, _, _, rfl, ty79, .inr ⟨rfl, rfl, rfl⟩⟩, ⟨rfl, trivial⟩⟩, Weak.refl _, ?_, rfl⟩
  show HVal.tup _ = _
  (rw [nextP, if_pos (by omega), show decide (l.length < (freeP r k s).length) = true by simp; omega]; rfl)
end Go.Proofs.YtcnfhcicepmjcaaGreatDoor
end
section
namespace Go.Proofs.YtcnfhcicepmjcaaGreatDoor
open Go.HL
set_option maxRecDepth 100000
set_option linter.unusedVariables false
set_option linter.unusedSimpArgs false
/-- benchwarmer/benchref1.PicksFault -/
theorem c_benchref1_PicksFault [Tracks] {r : Room} {k : List Keep} {s : List Swap} {l : List Pick}  (ht : r.Teams.length ≤ 1000000) (hp : r.Players.length ≤ 1000000) (hk0 : k.length ≤ 1000000) (hl : s.length ≤ 1000000) (hs1 : ∀ s ∈ r.Teams, s.length ≤ 1000000) (hs2 : ∀ s ∈ r.Players, s.length ≤ 1000000) (hll : l.length ≤ 1000) : ConP Tryz.prog 37 [eRoom r, eKeeps k, eSwaps s, ePicks l] (.int .i64 (picksE r k s l)) := by
 refine Con.of_body Tryz.func37 rfl Tryz.ntmps37 rfl rfl ?_
 refine hw_reg ?_
 refine dp rfl (pop_box rfl rfl) ?_
 refine dp rfl (pop_assign rfl) ?_
 refine dn ?_
 refine hw_seq ?_
 refine hw_reg ?_
 refine dp rfl (pop_loadw ty64 rfl rfl rfl rfl) ?_
 refine dp rfl (pop_move rfl) ?_
 refine dp rfl (pop_move rfl) ?_
 refine dp rfl (pop_eq (pop_call ca119 rfl (WeakL.refl _) (c_benchref1_OpenFault ht hp hs1 hs2 hk0 hl)) (congrArg (HVal.int .i64) (openFault_ref r k s))) ?_
 refine dp rfl (pop_assign rfl) ?_
 refine dn ?_
 refine hw_reg ?_
 refine dp rfl (pop_move rfl) ?_
 refine dp rfl (pop_neq rfl rfl) ?_
 refine dn ?_
 refine hw_cond rfl (fun h1 => ?_) (fun h2 => ?_)
 ·try simp at h1
  refine hw_reg ?_
  refine dp rfl (pop_move rfl) ?_
  refine dp rfl (pop_assign rfl) ?_
  refine dn ?_
  refine hw_ret ?_
  refine ret_p rfl ?_
  show HVal.int .i64 _ = _
  (rw [picksE, if_pos (by simpa using h1)]; done)
 ·try simp at h2
  refine hw_skip ?_
  refine seqQ_n ?_
  have hof : openFault r k s = 0 := by simpa using h2
  have hfl : (freeP r k s).length ≤ 600 := by have h5 := free_len hof; have h6 := turns_len (r := r) (s := s) (openFault_ok hof).1; omega
  refine hw_reg ?_
  refine dp rfl (pop_loadw ty64 rfl rfl rfl rfl) ?_
  refine dp rfl (pop_move rfl) ?_
  refine dp rfl (pop_move rfl) ?_
  refine dp rfl (pop_call ca122 rfl (WeakL.refl _) (c_benchref1_free hof hk0 hl)) ?_
  refine dp rfl (pop_assign rfl) ?_
  refine dn ?_
  refine hw_seq ?_
  refine hw_reg ?_
  refine dp rfl (pop_move rfl) ?_
  refine dp rfl (pop_lenm ty72 rfl) ?_
  refine dp rfl (pop_move rfl) ?_
  refine dp rfl (pop_lenm ty72 rfl) ?_
  refine dp rfl (pop_gtr rfl rfl) ?_
  refine dn ?_
  refine hw_cond rfl (fun h3 => ?_) (fun h4 => ?_)
  ·try simp at h3
   refine hw_reg ?_
   refine dp rfl (pop_assign rfl) ?_
   refine dn ?_
   refine hw_ret ?_
   refine ret_p rfl ?_
   show HVal.int .i64 _ = _
   (rw [picksE, if_neg (by simpa using h2), pksR, if_pos (by omega)]; done)
  ·try simp at h4
   refine hw_skip ?_
   refine seqQ_n ?_
   refine hw_reg ?_
   refine dp rfl (pop_fieldAddr ty64 rfl ty3 (by decide) rfl) ?_
   refine dp rfl (pop_load ty3 rfl rfl rfl) ?_
   refine dp rfl (pop_assign rfl) ?_
   refine dn ?_
   refine hw_seq ?_
   refine hw_reg ?_
   refine dp rfl (pop_move rfl) ?_
   refine dp rfl (pop_lenm ty72 rfl) ?_
   refine dp rfl (pop_move rfl) ?_
   refine dn ?_
   refine hw_block ?_
   refine hw_loopw [8, 11, 12, 13, 34, 35, 36, 37, 38, 39, 40, 41, 42, 43, 44, 45, 46, 47, 48, 49, 50, 51, 52, 53, 54, 55, 56, 57, 58, 59, 60, 61, 62, 63, 64, 65, 66, 67, 68, 69, 70, 71, 72, 73, 74, 75, 76, 77, 78, 79, 80, 81, 82, 83, 84, 85, 86, 87] (fun (i : Nat) => [(34, .int .i64 i), (11, .int .i64 (lastAt r (l.take i)))]) (fun (i : Nat) => []) (fun (i : Nat) => i ≤ l.length ∧ (pksR r k s l = pksGo r k (freeP r k s) l i (l.drop i))) (fun (i : Nat) => l.length - i) (0) ?_ ?_ ?_ ?_
   ·refine ⟨Nat.zero_le _, ?_⟩
    rw [pksR, if_neg (by omega)]; rfl
   ·exact ⟨rfl, rfl, trivial⟩
   ·exact List.Perm.refl _
   ·intro i hinv
    obtain ⟨hi, hg⟩ := hinv
    refine hw_reg ?_
    refine dp rfl (pop_lss rfl rfl) ?_
    refine dn ?_
    refine hw_seq ?_
    refine hw_cond rfl (fun h5 => ?_) (fun h6 => ?_)
    ·try simp at h5
     obtain ⟨x, hx⟩ : ∃ x, l[i]? = some x := ⟨_, List.getElem?_eq_getElem h5⟩
     have hdx := drop_cons hx
     rw [hdx] at hg
     refine hw_skip ?_
     refine seqQ_n ?_
     refine hw_seq ?_
     refine hw_block ?_
     refine hw_reg ?_
     refine dp rfl (pop_move rfl) ?_
     refine dp rfl (pop_idx ty72 ty79 rfl rfl rfl (by assumption)) ?_
     refine dp rfl (pop_loadw ty79 rfl rfl rfl rfl) ?_
     refine de rfl (eop_alloc ty79 rfl fun b13 => ?_)
     refine dp rfl (pop_assign rfl) ?_
     refine de0 (eop_storew ty79 rfl rfl rfl rfl rfl ?_)
     refine dn ?_
     refine hw_ghost (Ghost.fc0 13 rfl) ?_
     refine hw_seq ?_
     refine hw_block ?_
     refine hw_reg ?_
     refine dp rfl (pop_fieldAddr ty79 rfl ty3 (by decide) rfl) ?_
     refine dp rfl (pop_load ty3 rfl rfl rfl) ?_
     refine dp rfl (pop_call ca21 rfl (WeakL.refl _) c_benchref1_MomentFault) ?_
     refine dp rfl (pop_neq rfl rfl) ?_
     refine dp rfl (pop_assign rfl) ?_
     refine dn ?_
     refine hw_cond rfl (fun h7 => ?_) (fun h8 => ?_)
     ·try simp at h7
      refine hw_reg ?_
      refine dp rfl (pop_assign rfl) ?_
      refine dn ?_
      refine hw_ret ?_
      refine ret_p rfl ?_
      show HVal.int .i64 _ = _
      (rw [picksE, if_neg (by simpa using h2), hg, pgo_ne (by rw [pf1 h7]; decide), pf1 h7]; done)
     ·try simp at h8
      have hti : (l.take i).length = i := by simp; omega
      refine hw_draw (fun _ => True) [] mixed ?_
      refine ahp 0 rfl rfl (by kernel_rfl) (by kernel_rfl) (pop_fieldAddr ty79 rfl ty3 (by decide) rfl) ?_
      refine ahp 1 rfl rfl (by kernel_rfl) (by kernel_rfl) (pop_load ty3 rfl rfl rfl) ?_
      refine ahp 2 rfl rfl (by kernel_rfl) (by kernel_rfl) (pop_move rfl) ?_
      refine ahp 3 rfl rfl (by kernel_rfl) (by kernel_rfl) (pop_move rfl) ?_
      refine ahp 4 rfl rfl (by kernel_rfl) (by kernel_rfl) (pop_idx (j := i) (a := (freeP r k s).getD i pick0) ty72 ty79 rfl rfl rfl (getD_some (by omega))) ?_
      refine ahp 5 rfl rfl (by kernel_rfl) (by kernel_rfl) (pop_fieldAddr ty79 rfl ty3 (by decide) rfl) ?_
      refine ahp 6 rfl rfl (by kernel_rfl) (by kernel_rfl) (pop_load ty3 rfl rfl rfl) ?_
      refine ahp 7 rfl rfl (by kernel_rfl) (by kernel_rfl) (pop_neq rfl rfl) ?_
      refine ahp 8 rfl rfl (by kernel_rfl) (by kernel_rfl) (pop_assign rfl) ?_
      refine ahz (by kernel_rfl) ?_
      refine hw_cond rfl (fun h9 => ?_) (fun h10 => ?_)
      ·try simp at h9
       refine hw_reg ?_
       refine dp rfl (pop_assign rfl) ?_
       refine dn ?_
       refine hw_ret ?_
       refine ret_p rfl ?_
       show HVal.int .i64 _ = _
       (rw [picksE, if_neg (by simpa using h2), hg, pgo_ne (by rw [pf2 h8 (by rw [hti]; exact h9)]; decide), pf2 h8 (by rw [hti]; exact h9)]; done)
      ·try simp at h10
       refine hw_draw (fun _ => True) [] mixed ?_
       refine ahp 0 rfl rfl (by kernel_rfl) (by kernel_rfl) (pop_fieldAddr ty79 rfl ty9 (by decide) rfl) ?_
       refine ahp 1 rfl rfl (by kernel_rfl) (by kernel_rfl) (pop_load ty9 rfl rfl rfl) ?_
       refine ahp 2 rfl rfl (by kernel_rfl) (by kernel_rfl) (pop_move rfl) ?_
       refine ahp 3 rfl rfl (by kernel_rfl) (by kernel_rfl) (pop_move rfl) ?_
       refine ahp 4 rfl rfl (by kernel_rfl) (by kernel_rfl) (pop_idx (j := i) (a := (freeP r k s).getD i pick0) ty72 ty79 rfl rfl rfl (getD_some (by omega))) ?_
       refine ahp 5 rfl rfl (by kernel_rfl) (by kernel_rfl) (pop_fieldAddr ty79 rfl ty9 (by decide) rfl) ?_
       refine ahp 6 rfl rfl (by kernel_rfl) (by kernel_rfl) (pop_load ty9 rfl rfl rfl) ?_
       refine ahp 7 rfl rfl (by kernel_rfl) (by kernel_rfl) (pop_neqs rfl rfl) ?_
       refine ahp 8 rfl rfl (by kernel_rfl) (by kernel_rfl) (pop_assign rfl) ?_
       refine ahz (by kernel_rfl) ?_
       refine hw_cond rfl (fun h11 => ?_) (fun h12 => ?_)
       ·try simp at h11
        refine hw_reg ?_
        refine dp rfl (pop_assign rfl) ?_
        refine dn ?_
        refine hw_ret ?_
        refine ret_p rfl ?_
        show HVal.int .i64 _ = _
        (rw [picksE, if_neg (by simpa using h2), hg, pgo_ne (by rw [pf3 h8 (by rw [hti]; exact h10) (by rw [hti]; exact h11)]; decide), pf3 h8 (by rw [hti]; exact h10) (by rw [hti]; exact h11)]; done)
       ·try simp at h12
        refine hw_reg ?_
        refine dp rfl (pop_fieldAddr ty64 rfl ty28 (by decide) rfl) ?_
        refine dp rfl (pop_load ty28 rfl rfl rfl) ?_
        refine dp rfl (pop_fieldAddr ty79 rfl ty9 (by decide) rfl) ?_
        refine dp rfl (pop_load ty9 rfl rfl rfl) ?_
        refine dp rfl (pop_call ca89 rfl (WeakL.refl _) (c_slices_Contains_string_string (by omega))) ?_
        refine dp rfl (pop_not rfl) ?_
        refine dp rfl (pop_assign rfl) ?_
        refine dn ?_
        refine hw_cond rfl (fun h13 => ?_) (fun h14 => ?_)
        ·try simp at h13
         refine hw_reg ?_
         refine dp rfl (pop_assign rfl) ?_
         refine dn ?_
         refine hw_ret ?_
         refine ret_p rfl ?_
         show HVal.int .i64 _ = _
         (rw [picksE, if_neg (by simpa using h2), hg, pgo_ne (by rw [pf4 h8 (by rw [hti]; exact h10) (by rw [hti]; exact h12) h13]; decide), pf4 h8 (by rw [hti]; exact h10) (by rw [hti]; exact h12) h13]; done)
        ·try simp at h14
         refine hw_draw (fun _ => True) [] mixed ?_
         refine ahp 0 rfl rfl (by kernel_rfl) (by kernel_rfl) (pop_loadw ty64 rfl rfl rfl rfl) ?_
         refine ahp 1 rfl rfl (by kernel_rfl) (by kernel_rfl) (pop_move rfl) ?_
         refine ahp 2 rfl rfl (by kernel_rfl) (by kernel_rfl) (pop_move rfl) ?_
         refine ahp 3 rfl rfl (by kernel_rfl) (by kernel_rfl) (pop_move rfl) ?_
         refine ahp 4 rfl rfl (by kernel_rfl) (by kernel_rfl) (pop_slicem ty72 ty79 rfl rfl ⟨_, _, rfl, rfl⟩ (by omega) (by omega)) ?_
         refine ahp 5 rfl rfl (by kernel_rfl) (by kernel_rfl) (pop_call ca121 rfl (WeakL.refl _) (c_benchref1_LeftOf (l := (l.take i).drop 0) hp hk0 (by simp; omega))) ?_
         refine ahp 6 rfl rfl (by kernel_rfl) (by kernel_rfl) (pop_fieldAddr ty79 rfl ty9 (by decide) rfl) ?_
         refine ahp 7 rfl rfl (by kernel_rfl) (by kernel_rfl) (pop_load ty9 rfl rfl rfl) ?_
         refine ahp 8 rfl rfl (by kernel_rfl) (by kernel_rfl) (pop_call ca89 rfl (WeakL.refl _) (c_slices_Contains_string_string (Nat.le_trans (List.length_filter_le _ _) (by omega)))) ?_
         refine ahp 9 rfl rfl (by kernel_rfl) (by kernel_rfl) (pop_not rfl) ?_
         refine ahp 10 rfl rfl (by kernel_rfl) (by kernel_rfl) (pop_assign rfl) ?_
         refine ahz (by kernel_rfl) ?_
         refine hw_cond rfl (fun h15 => ?_) (fun h16 => ?_)
         ·try simp at h15
          refine hw_reg ?_
          refine dp rfl (pop_assign rfl) ?_
          refine dn ?_
          refine hw_ret ?_
          refine ret_p rfl ?_
          show HVal.int .i64 _ = _
          (rw [picksE, if_neg (by simpa using h2), hg, pgo_ne (by rw [pf5 h8 (by rw [hti]; exact h10) (by rw [hti]; exact h12) h14 (b_true fun q => h15 (by simpa using (left_mem h14).2 q))]; decide), pf5 h8 (by rw [hti]; exact h10) (by rw [hti]; exact h12) h14 (b_true fun q => h15 (by simpa using (left_mem h14).2 q))]; done)
         ·try simp at h16
          have hgo : goneB k (l.take i) x.Player = false := (left_mem h14).1 (by simpa using h16)
          refine hw_reg ?_
          refine dp rfl (pop_fieldAddr ty79 rfl ty3 (by decide) rfl) ?_
          refine dp rfl (pop_load ty3 rfl rfl rfl) ?_
          refine dp rfl (pop_move rfl) ?_
          refine dp rfl (pop_lss rfl rfl) ?_
          refine dp rfl (pop_assign rfl) ?_
          refine dn ?_
          refine hw_cond rfl (fun h17 => ?_) (fun h18 => ?_)
          ·try simp at h17
           refine hw_reg ?_
           refine dp rfl (pop_assign rfl) ?_
           refine dn ?_
           refine hw_ret ?_
           refine ret_p rfl ?_
           show HVal.int .i64 _ = _
           (rw [picksE, if_neg (by simpa using h2), hg, pgo_ne (by rw [pf6 h8 (by rw [hti]; exact h10) (by rw [hti]; exact h12) h14 hgo (by omega)]; decide), pf6 h8 (by rw [hti]; exact h10) (by rw [hti]; exact h12) h14 hgo (by omega)]; done)
          ·try simp at h18
           refine hw_skip ?_
           refine blockQ_n ?_
           refine seqQ_n ?_
           refine hw_reg1 ?_
           refine dp rfl (pop_fieldAddr ty79 rfl ty3 (by decide) rfl) ?_
           refine dp rfl (pop_load ty3 rfl rfl rfl) ?_
           refine dp rfl (pop_assign rfl) ?_
           refine dn ?_
           refine blockQ_n ?_
           refine seqQ_n ?_
           refine hw_reg1 ?_
           refine dp rfl (pop_add64 rfl rfl (by omega) (by omega)) ?_
           refine dp rfl (pop_move rfl) ?_
           refine dn ?_
           exact ⟨i + 1, ⟨by omega, by rw [hg, pgo_z (pf0 h8 (by rw [hti]; exact h10) (by rw [hti]; exact h12) h14 hgo (by omega))]⟩, by dsimp only; omega, ⟨rfl, some_int (by rw [take_snoc' hx, lastAt_snoc]), trivial⟩, (by repeat (first | exact keeps_refl | refine keeps_upd rfl ?_ | refine keeps_loop rfl rfl ?_)), List.Perm.refl _⟩
    ·try simp at h6
     have hni : l.length ≤ i := by omega
     obtain rfl : i = l.length := by omega
     rw [drop_all (Nat.le_refl _)] at hg
     refine hw_exit ?_
     refine seqQ_x ?_
     refine loopQ_x ?_
     refine blockQ_eq ?_
     refine seqQ_n ?_
     refine hw_reg ?_
     refine dp rfl (pop_assign rfl) ?_
     refine dn ?_
     refine hw_ret ?_
     refine ret_p rfl ?_
     show HVal.int .i64 _ = _
     (rw [picksE, if_neg (by simpa using h2), hg]; rfl)

/-- benchwarmer/benchref1.WishesFault$1 -/
theorem c_benchref1_WishesFault_1 [Tracks] {y x : Wish}  : ConP Tryz.prog 124 [eWish y, .vptr (hcells (eWish x)) 0] (.bool (y.Team == x.Team)) := by
 refine Con.of_body Tryz.func124 rfl Tryz.ntmps124 rfl rfl ?_
 refine hw_reg ?_
 refine dp rfl (pop_box rfl rfl) ?_
 refine dp rfl (pop_assign rfl) ?_
 refine dn ?_
 refine hw_reg ?_
 refine dp rfl (pop_fieldAddr ty87 rfl ty9 (by decide) rfl) ?_
 refine dp rfl (pop_load ty9 rfl rfl rfl) ?_
 refine dp rfl (pop_fieldAddr ty87 rfl ty9 (by decide) rfl) ?_
 refine dp rfl (pop_load ty9 rfl rfl rfl) ?_
 refine dp rfl (pop_eqls rfl rfl) ?_
 refine dp rfl (pop_assign rfl) ?_
 refine dn ?_
 refine hw_ret ?_
 refine ret_p rfl ?_
 rfl

/-- benchwarmer/benchref1.WishesFault -/
theorem c_benchref1_WishesFault [Tracks] {r : Room} {w : List Wish} (ht : r.Teams.length ≤ 1000000) (hp : r.Players.length ≤ 1000000) (hw : w.length ≤ 1000000) (hwp : ∀ y ∈ w, y.Players.length ≤ 1000000) : ConP Tryz.prog 38 [eRoom r, eWishes w] (.int .i64 (wishesR r w)) := by
 refine Con.of_body Tryz.func38 rfl Tryz.ntmps38 rfl rfl ?_
 refine hw_reg ?_
 refine dp rfl (pop_box rfl rfl) ?_
 refine dp rfl (pop_assign rfl) ?_
 refine dn ?_
 refine hw_seq ?_
 refine hw_reg ?_
 refine dp rfl (pop_move rfl) ?_
 refine dp rfl (pop_lenm ty70 rfl) ?_
 refine dp rfl (pop_gtr rfl rfl) ?_
 refine dn ?_
 refine hw_cond rfl (fun h1 => ?_) (fun h2 => ?_)
 ·try simp at h1
  refine hw_reg ?_
  refine dp rfl (pop_assign rfl) ?_
  refine dn ?_
  refine hw_ret ?_
  refine ret_p rfl ?_
  show HVal.int .i64 _ = _
  (rw [wishesR, if_pos (by omega)]; done)
 ·try simp at h2
  refine hw_skip ?_
  refine seqQ_n ?_
  refine hw_seq ?_
  refine hw_reg ?_
  refine dp rfl (pop_move rfl) ?_
  refine dp rfl (pop_lenm ty70 rfl) ?_
  refine dp rfl (pop_move rfl) ?_
  refine dn ?_
  refine hw_block ?_
  refine hw_loopw [4, 5, 6, 7, 8, 14, 15, 16, 17, 18, 19, 20, 21, 22, 23, 24, 25, 26, 27, 28, 29, 30, 31, 32, 33, 34, 35, 36, 37, 38, 39, 40, 41, 42, 43, 44, 45, 46, 47, 48, 49, 50, 51, 52, 53, 54, 55, 56, 57, 58, 59] (fun (k : Nat) => [(14, .int .i64 k)]) (fun (k : Nat) => []) (fun (k : Nat) => k ≤ w.length ∧ (wishesR r w = wsGo r w k (w.drop k))) (fun (k : Nat) => w.length - k) (0) ?_ ?_ ?_ ?_
  ·refine ⟨Nat.zero_le _, ?_⟩
   rw [wishesR, if_neg (by omega)]; rfl
  ·exact ⟨rfl, trivial⟩
  ·exact List.Perm.refl _
  ·intro k hinv
   obtain ⟨hk, hg⟩ := hinv
   refine hw_reg ?_
   refine dp rfl (pop_lss rfl rfl) ?_
   refine dn ?_
   refine hw_seq ?_
   refine hw_cond rfl (fun h3 => ?_) (fun h4 => ?_)
   ·try simp at h3
    obtain ⟨x, hx⟩ : ∃ x, w[k]? = some x := ⟨_, List.getElem?_eq_getElem h3⟩
    have hdx := drop_cons hx
    rw [hdx] at hg
    refine hw_skip ?_
    refine seqQ_n ?_
    refine hw_seq ?_
    refine hw_block ?_
    refine hw_reg ?_
    refine dp rfl (pop_move rfl) ?_
    refine dp rfl (pop_idx ty70 ty87 rfl rfl rfl (by assumption)) ?_
    refine dp rfl (pop_loadw ty87 rfl rfl rfl rfl) ?_
    refine de rfl (eop_alloc ty87 rfl fun b6 => ?_)
    refine dp rfl (pop_assign rfl) ?_
    refine de0 (eop_storew ty87 rfl rfl rfl rfl rfl ?_)
    refine dn ?_
    refine hw_ghost (Ghost.fc0 6 rfl) ?_
    refine hw_seq ?_
    refine hw_block ?_
    refine hw_reg ?_
    refine dp rfl (pop_fieldAddr ty64 rfl ty28 (by decide) rfl) ?_
    refine dp rfl (pop_load ty28 rfl rfl rfl) ?_
    refine dp rfl (pop_fieldAddr ty87 rfl ty9 (by decide) rfl) ?_
    refine dp rfl (pop_load ty9 rfl rfl rfl) ?_
    refine dp rfl (pop_call ca89 rfl (WeakL.refl _) (c_slices_Contains_string_string (by omega))) ?_
    refine dp rfl (pop_not rfl) ?_
    refine dp rfl (pop_assign rfl) ?_
    refine dn ?_
    refine hw_cond rfl (fun h5 => ?_) (fun h6 => ?_)
    ·try simp at h5
     refine hw_reg ?_
     refine dp rfl (pop_assign rfl) ?_
     refine dn ?_
     refine hw_ret ?_
     refine ret_p rfl ?_
     show HVal.int .i64 _ = _
     (rw [hg, ws8 h5]; done)
    ·try simp at h6
     refine hw_reg ?_
     refine dp rfl (pop_move rfl) ?_
     refine dp rfl (pop_move rfl) ?_
     refine dp rfl (pop_slicem ty70 ty87 rfl rfl ⟨_, _, rfl, rfl⟩ (by omega) (by omega)) ?_
     refine dp rfl (pop_makeFunc rfl rfl) ?_
     refine dp rfl (pop_call ca123 rfl (WeakL.refl _) (c_slices_ContainsFunc_api_Wishes_api_Wishes (p := fun y => y.Team == x.Team) ca124 (fun _ => c_benchref1_WishesFault_1) (by simp; omega))) ?_
     refine dp rfl (pop_assign rfl) ?_
     refine dn ?_
     refine hw_cond rfl (fun h7 => ?_) (fun h8 => ?_)
     ·try simp at h7
      refine hw_reg ?_
      refine dp rfl (pop_assign rfl) ?_
      refine dn ?_
      refine hw_ret ?_
      refine ret_p rfl ?_
      show HVal.int .i64 _ = _
      (rw [hg, ws6 h6 (by simpa using h7)]; done)
     ·try simp at h8
      have hxp := hwp x (List.mem_of_getElem? hx)
      refine hw_reg ?_
      refine dp rfl (pop_fieldAddr ty87 rfl ty28 (by decide) rfl) ?_
      refine dp rfl (pop_load ty28 rfl rfl rfl) ?_
      refine dp rfl (pop_lenm ty28 rfl) ?_
      refine dp rfl (pop_gtr rfl rfl) ?_
      refine dp rfl (pop_assign rfl) ?_
      refine dn ?_
      refine hw_cond rfl (fun h9 => ?_) (fun h10 => ?_)
      ·try simp at h9
       refine hw_reg ?_
       refine dp rfl (pop_assign rfl) ?_
       refine dn ?_
       refine hw_ret ?_
       refine ret_p rfl ?_
       show HVal.int .i64 _ = _
       (rw [hg, ws2 h6 (by simpa using h8) (by omega)]; done)
      ·try simp at h10
       refine hw_skip ?_
       refine blockQ_n ?_
       refine seqQ_n ?_
       refine hw_reg ?_
       refine dp rfl (pop_fieldAddr ty87 rfl ty28 (by decide) rfl) ?_
       refine dp rfl (pop_load ty28 rfl rfl rfl) ?_
       refine dp rfl (pop_lenm ty28 rfl) ?_
       refine dp rfl (pop_move rfl) ?_
       refine dn ?_
       refine hw_block ?_
       refine hw_loopw [4, 7, 8, 40, 41, 42, 43, 44, 45, 46, 47, 48, 49, 50, 51, 52, 53, 54, 55, 56, 57, 58] (fun (j : Nat) => [(40, .int .i64 j)]) (fun (j : Nat) => []) (fun (j : Nat) => j ≤ x.Players.length ∧ (wpGo r x.Players 0 x.Players = wpGo r x.Players j (x.Players.drop j))) (fun (j : Nat) => x.Players.length - j) (0) ?_ ?_ ?_ ?_
       ·exact ⟨Nat.zero_le _, rfl⟩
       ·exact ⟨rfl, trivial⟩
       ·exact List.Perm.refl _
       ·intro j hinv
        obtain ⟨hj, hg2⟩ := hinv
        refine hw_reg ?_
        refine dp rfl (pop_lss rfl rfl) ?_
        refine dn ?_
        refine hw_seq ?_
        refine hw_cond rfl (fun h11 => ?_) (fun h12 => ?_)
        ·try simp at h11
         obtain ⟨y, hy⟩ : ∃ y, x.Players[j]? = some y := ⟨_, List.getElem?_eq_getElem h11⟩
         have hdy := drop_cons hy
         rw [hdy] at hg2
         refine hw_skip ?_
         refine seqQ_n ?_
         refine hw_seq ?_
         refine hw_block ?_
         refine hw_reg ?_
         refine dp rfl (pop_move rfl) ?_
         refine dp rfl (pop_idx ty28 ty9 rfl rfl rfl (by assumption)) ?_
         refine dp rfl (pop_load ty9 rfl rfl rfl) ?_
         refine dp rfl (pop_assign rfl) ?_
         refine dp rfl (pop_assign rfl) ?_
         refine dn ?_
         refine hw_block ?_
         refine hw_reg ?_
         refine dp rfl (pop_fieldAddr ty64 rfl ty28 (by decide) rfl) ?_
         refine dp rfl (pop_load ty28 rfl rfl rfl) ?_
         refine dp rfl (pop_move rfl) ?_
         refine dp rfl (pop_call ca89 rfl (WeakL.refl _) (c_slices_Contains_string_string (by omega))) ?_
         refine dp rfl (pop_not rfl) ?_
         refine dp rfl (pop_assign rfl) ?_
         refine dn ?_
         refine hw_cond rfl (fun h13 => ?_) (fun h14 => ?_)
         ·try simp at h13
          refine hw_reg ?_
          refine dp rfl (pop_assign rfl) ?_
          refine dn ?_
          refine hw_ret ?_
          refine ret_p rfl ?_
          show HVal.int .i64 _ = _
          (rw [hg, wsP h6 (by simpa using h8) (by omega) (hg2.trans (wp8 h13)) (by decide)]; done)
         ·try simp at h14
          refine hw_reg ?_
          refine dp rfl (pop_fieldAddr ty87 rfl ty28 (by decide) rfl) ?_
          refine dp rfl (pop_load ty28 rfl rfl rfl) ?_
          refine dp rfl (pop_move rfl) ?_
          refine dp rfl (pop_slicem ty28 ty9 rfl rfl ⟨_, _, rfl, rfl⟩ (by omega) (by omega)) ?_
          refine dp rfl (pop_move rfl) ?_
          refine dp rfl (pop_call ca89 rfl (WeakL.refl _) (c_slices_Contains_string_string (by simp; omega))) ?_
          refine dp rfl (pop_assign rfl) ?_
          refine dn ?_
          refine hw_cond rfl (fun h15 => ?_) (fun h16 => ?_)
          ·try simp at h15
           refine hw_reg ?_
           refine dp rfl (pop_assign rfl) ?_
           refine dn ?_
           refine hw_ret ?_
           refine ret_p rfl ?_
           show HVal.int .i64 _ = _
           (rw [hg, wsP h6 (by simpa using h8) (by omega) (hg2.trans (wp6 h14 (by simpa using h15))) (by decide)]; done)
          ·try simp at h16
           refine hw_skip ?_
           refine blockQ_n ?_
           refine blockQ_n ?_
           refine seqQ_n ?_
           refine hw_reg1 ?_
           refine dp rfl (pop_add64 rfl rfl (by omega) (by omega)) ?_
           refine dp rfl (pop_move rfl) ?_
           refine dn ?_
           refine ⟨j + 1, ?_, ?_, ⟨rfl, trivial⟩, (by repeat (first | exact keeps_refl | refine keeps_upd rfl ?_ | refine keeps_loop rfl rfl ?_)), List.Perm.refl _⟩
           ·refine ⟨by omega, ?_⟩
            rw [hg2, wp0 h14 (by simpa using h16)]
           ·dsimp only; omega
        ·try simp at h12
         have hnj : x.Players.length ≤ j := by omega
         obtain rfl : j = x.Players.length := by omega
         rw [drop_all (Nat.le_refl _)] at hg2
         replace hg2 : wpGo r x.Players 0 x.Players = 0 := hg2
         refine hw_exit ?_
         refine seqQ_x ?_
         refine loopQ_x ?_
         refine blockQ_eq ?_
         refine blockQ_n ?_
         refine seqQ_n ?_
         refine hw_reg1 ?_
         refine dp rfl (pop_add64 rfl rfl (by omega) (by omega)) ?_
         refine dp rfl (pop_move rfl) ?_
         refine dn ?_
         refine ⟨k + 1, ?_, ?_, ⟨rfl, trivial⟩, (by repeat (first | exact keeps_refl | refine keeps_upd rfl ?_ | refine keeps_loop rfl rfl ?_)), List.Perm.refl _⟩
         ·refine ⟨by omega, ?_⟩
          rw [hg, ws0 h6 (by simpa using h8) (by omega) hg2]
         ·dsimp only; omega
   ·try simp at h4
    have hnk : w.length ≤ k := by omega
    obtain rfl : k = w.length := by omega
    rw [drop_all (Nat.le_refl _)] at hg
    refine hw_exit ?_
    refine seqQ_x ?_
    refine loopQ_x ?_
    refine blockQ_eq ?_
    refine seqQ_n ?_
    refine hw_reg ?_
    refine dp rfl (pop_assign rfl) ?_
    refine dn ?_
    refine hw_ret ?_
    refine ret_p rfl ?_
    show HVal.int .i64 _ = _
    (rw [hg]; rfl)
end Go.Proofs.YtcnfhcicepmjcaaGreatDoor
end
section
namespace Go.Proofs.YtcnfhcicepmjcaaGreatDoor
open Go.HL
set_option maxRecDepth 100000
set_option linter.unusedVariables false
set_option linter.unusedSimpArgs false

end Go.Proofs.YtcnfhcicepmjcaaGreatDoor
end
section
namespace Go.Proofs.YtcnfhcicepmjcaaGreatDoor
open Go.HL
set_option maxRecDepth 100000
set_option linter.unusedVariables false
set_option linter.unusedSimpArgs false
set_option maxHeartbeats 2000000 in
/-- (*benchwarmer/benchmake.Stream).Order -/
theorem c_benchmake_Stream_Order [Tracks] {b : Nat} {l : List Int} {a : Nat} {n : Nat} (ha : a ≤ 800000) (hn1 : 1 ≤ n) (hn2 : n ≤ 1000) : Con Tryz.prog 85 [pAt b, .int .i64 (n : Int)] [St b l a] (fun x M' => ∃ (L : List Int) (a' : Nat), x = .slice 1 (L.map (.int .i64)) ∧ (L.length = n ∧ ∀ i ∈ L, (0 : Int) ≤ i ∧ i < n) ∧ a' ≤ a + n ∧ M' = [St b l a']) := by
 refine Con.of_body Tryz.func85 rfl Tryz.ntmps85 rfl rfl ?_
 refine hw_reg ?_
 refine dp rfl (pop_assign rfl) ?_
 refine dn ?_
 refine hw_reg ?_
 refine dp rfl (pop_assign rfl) ?_
 refine dn ?_
 refine hw_ghost (Ghost.arr_nil 1) ?_
 refine hw_seq ?_
 refine hw_reg ?_
 refine dp rfl (pop_move rfl) ?_
 refine dp rfl (pop_move rfl) ?_
 refine dn ?_
 refine hw_block ?_
 refine hw_loopw3 [5, 6, 10, 11, 12, 13, 14, 15, 16, 17] (fun (k : Nat) (u : Value) (L : List Int) => [(10, .int .i64 (k : Int)), (5, .raw u)]) (fun (k : Nat) (u : Value) (L : List Int) => [.arr u 1 (L.map (HVal.int .i64)), St b l a]) (fun (k : Nat) (u : Value) (L : List Int) => k ≤ n ∧ L.length = k ∧ ∀ i ∈ L, (0 : Int) ≤ i ∧ i < n) (fun (k : Nat) (u : Value) (L : List Int) => n - k) (0) (.slice none 0 0) ([]) ?_ ?_ ?_ ?_
 ·exact ⟨by omega, rfl, by simp⟩
 ·exact ⟨rfl, rfl, trivial⟩
 ·exact perm_eq rfl
 ·intro k u L hinv
  obtain ⟨hk, hL, hLb⟩ := hinv
  refine hw_reg ?_
  refine dp rfl (pop_lss rfl rfl) ?_
  refine dn ?_
  refine hw_seq ?_
  refine hw_cond rfl (fun h1 => ?_) (fun h2 => ?_)
  ·try simp at h1
   have hkn : k < n := by omega
   refine hw_skip ?_
   refine seqQ_n ?_
   refine hw_seq ?_
   refine hw_block ?_
   refine hw_reg ?_
   refine dp rfl (pop_move rfl) ?_
   refine dp rfl (pop_assign rfl) ?_
   refine dn ?_
   refine hw_reg1 ?_
   refine dp rfl (pop_move rfl) ?_
   refine dp rfl (pop_move rfl) ?_
   refine dp rfl (pop_buildSlice (hs := [_]) ty22 ty3 rfl rfl (by decide) (by decide) rfl) ?_
   refine de rfl (eop_append (i := 0) ty22 ty3 rfl rfl rfl rfl rfl (by simp [flat, hcells]) (by simp; omega) fun v16 => ?_)
   refine dp rfl (pop_assign rfl) ?_
   refine dn ?_
   refine blockQ_n ?_
   refine seqQ_n ?_
   refine hw_reg1 ?_
   refine dp rfl (pop_add64 rfl rfl (by omega) (by omega)) ?_
   refine dp rfl (pop_move rfl) ?_
   refine dn ?_
   exact ⟨k + 1, v16, L ++ [(k : Int)], ⟨by omega, by simp [hL], fun i hi => by rcases List.mem_append.1 hi with h | h; exact hLb i h; (simp at h; omega)⟩, by dsimp only; omega, ⟨rfl, rfl, trivial⟩, (by repeat (first | exact keeps_refl | refine keeps_upd rfl ?_ | refine keeps_loop rfl rfl ?_)), perm_eq (by simp)⟩
  ·try simp at h2
   obtain rfl : n = k := by omega
   refine hw_exit ?_
   refine seqQ_x ?_
   refine loopQ3_x ?_
   refine blockQ_eq ?_
   refine seqQ_n ?_
   refine hw_seq ?_
   refine hw_ghost (Ghost.perm (M' := [St b l a, .arr u 1 (L.map (.int .i64))]) (by repeat (first | exact List.Perm.nil | refine permTo 0 rfl ?_ | refine permTo 1 rfl ?_ | refine permTo 2 rfl ?_ | refine permTo 3 rfl ?_ | (refine permToE 0 rfl ?hq ?_; (case hq => simp [setL, hcells]; done)) | (refine permToE 1 rfl ?hq ?_; (case hq => simp [setL, hcells]; done)) | (refine permToE 2 rfl ?hq ?_; (case hq => simp [setL, hcells]; done)) | (refine permToE 3 rfl ?hq ?_; (case hq => simp [setL, hcells]; done)) | fail))) ?_
   refine hw_arrc (i := 1) rfl (fun h0 he => ?_) (fun ob off cap hv hcap => ?_)
   ·exfalso; have := congrArg List.length he; simp at this; subst this; simp at hL; omega
   rw [List.length_map, hL] at hv hcap
   subst hv
   refine hw_reg ?_
   refine dp rfl (pop_move rfl) ?_
   refine dp rfl (pop_sub64 rfl rfl (by omega) (by omega)) ?_
   refine dp rfl (pop_assign rfl) ?_
   refine dn ?_
   refine hw_block ?_
   refine hw_loopw3 [7, 8, 20, 21, 22, 23, 24, 25, 26, 27, 28, 29, 30, 31, 32, 33, 34, 35, 36, 37, 38, 39, 40, 41] (fun (m : Nat) (L : List Int) (a2 : Nat) => [(7, .int .i64 (m : Int))]) (fun (m : Nat) (L : List Int) (a2 : Nat) => [St b l a2, .arr (.slice (some ⟨ob, off, none⟩) n cap) 1 (L.map (HVal.int .i64))]) (fun (m : Nat) (L : List Int) (a2 : Nat) => m < n ∧ (L.length = n ∧ ∀ i ∈ L, (0 : Int) ≤ i ∧ i < n) ∧ a2 + m ≤ a + n) (fun (m : Nat) (L : List Int) (a2 : Nat) => m) (n - 1) (L) (a) ?_ ?_ ?_ ?_
   ·exact ⟨by omega, ⟨hL, hLb⟩, by omega⟩
   ·exact ⟨some_int (by omega), trivial⟩
   ·exact List.Perm.refl _
   ·intro m L a2 hinv
    obtain ⟨hm, ⟨hL, hLb⟩, ha2⟩ := hinv
    refine hw_seq ?_
    refine hw_reg ?_
    refine dp rfl (pop_move rfl) ?_
    refine dp rfl (pop_gtr rfl rfl) ?_
    refine dn ?_
    refine hw_cond rfl (fun h3 => ?_) (fun h4 => ?_)
    ·try simp at h3
     have hm0 : 0 < m := by omega
     refine hw_skip ?_
     refine seqQ_n ?_
     refine hw_seq ?_
     refine hw_block ?_
     refine hw_reg ?_
     refine dp rfl (pop_move rfl) ?_
     refine dp rfl (pop_move rfl) ?_
     refine dp rfl (pop_add64 rfl rfl (by omega) (by omega)) ?_
     refine de rfl (eop_callx (i := 0) ca83 rfl (WeakL.refl _) rfl (c_benchmake_Stream_Next (by omega) (by omega)) ?_)
     rintro _ _ ⟨y27, rfl, hy27, rfl⟩
     refine dp rfl (pop_assign rfl) ?_
     refine dn ?_
     obtain ⟨z1, hz1⟩ : ∃ z, L[y27]? = some z := ⟨_, List.getElem?_eq_getElem (by omega)⟩
     obtain ⟨z2, hz2⟩ : ∃ z, L[m]? = some z := ⟨_, List.getElem?_eq_getElem (by omega)⟩
     obtain ⟨z3, hz3⟩ : ∃ z, (L.set m z1)[y27]? = some z := ⟨_, List.getElem?_eq_getElem (by simp; omega)⟩
     refine hw_draw1 (fun M => ∃ i : Nat, M[i]? = some (.arr (.slice (some ⟨ob, off, none⟩) n cap) 1 (L.map (HVal.int .i64)))) [7, 11] mixed ?_
     refine ahp 0 rfl rfl (by kernel_rfl) (by kernel_rfl) (pop_move rfl) ?_
     refine ahp 1 rfl rfl (by kernel_rfl) (by kernel_rfl) (pop_move rfl) ?_
     refine ahp 2 rfl rfl (by kernel_rfl) (by kernel_rfl) (pop_move rfl) ?_
     refine ahp 3 rfl rfl (by kernel_rfl) (by kernel_rfl) (pop_move rfl) ?_
     refine ahp 4 rfl rfl (by kernel_rfl) (by kernel_rfl) (pop_move rfl) ?_
     refine ahp 5 rfl rfl (by kernel_rfl) (by kernel_rfl) (pop_move rfl) ?_
     refine ahp 6 rfl rfl (by kernel_rfl) (by kernel_rfl) (pop_idxraw (j := y27) ty22 ty3 rfl rfl rfl (by omega)) ?_
     refine ahl 7 rfl rfl (by kernel_rfl) (by kernel_rfl) (by simp) (⟨1, rfl⟩) (fun M hM => by obtain ⟨i, hi⟩ := hM; exact eop_load_el (i := i) (j := y27) 0 ty3 rfl (by omega) hi hz1 rfl rfl ⟨rfl, rfl⟩) ?_
     refine ahp 8 rfl rfl (by kernel_rfl) (by kernel_rfl) (pop_move rfl) ?_
     refine ahp 9 rfl rfl (by kernel_rfl) (by kernel_rfl) (pop_move rfl) ?_
     refine ahp 10 rfl rfl (by kernel_rfl) (by kernel_rfl) (pop_idxraw (j := m) ty22 ty3 rfl rfl rfl (by omega)) ?_
     refine ahl 11 rfl rfl (by kernel_rfl) (by kernel_rfl) (by simp) (⟨1, rfl⟩) (fun M hM => by obtain ⟨i, hi⟩ := hM; exact eop_load_el (i := i) (j := m) 0 ty3 rfl (by omega) hi hz2 rfl rfl ⟨rfl, rfl⟩) ?_
     refine ahp 12 rfl rfl (by kernel_rfl) (by kernel_rfl) (pop_idxraw (j := m) ty22 ty3 rfl rfl rfl (by omega)) ?_
     refine ahe 13 rfl (by kernel_rfl) ?_
     refine hop_e0 (eop_store_elw (i := 1) (f := HVal.int .i64) (es := L) (j := m) (y := z2) (y' := z1) ty3 rfl rfl rfl rfl hz2 rfl rfl rfl ?_)
     refine ⟨fun _ => .inr (by simp [Before, Region.binds]), ?_⟩
     refine ahp 14 rfl rfl (by kernel_rfl) (by kernel_rfl) (pop_idxraw (j := y27) ty22 ty3 rfl rfl rfl (by omega)) ?_
     refine ahe 15 rfl (by kernel_rfl) ?_
     refine hop_e0 (eop_store_elw (i := 1) (f := HVal.int .i64) (es := L.set m z1) (j := y27) (y := z3) (y' := z2) ty3 rfl rfl rfl rfl hz3 rfl rfl rfl ?_)
     refine ⟨fun _ => .inr (by simp [Before, Region.binds]), ?_⟩
     refine ahz (by kernel_rfl) ?_
     refine blockQ_n ?_
     refine seqQ_n ?_
     refine hw_reg1 ?_
     refine dp rfl (pop_move rfl) ?_
     refine dp rfl (pop_sub64 rfl rfl (by omega) (by omega)) ?_
     refine dp rfl (pop_assign rfl) ?_
     refine dn ?_
     exact ⟨m - 1, (L.set m z1).set y27 z2, a2 + 1, ⟨by omega, ⟨by simp [hL], all_set (P := fun i : Int => 0 ≤ i ∧ i < n) (all_set (P := fun i : Int => 0 ≤ i ∧ i < n) hLb (hLb z1 (List.mem_of_getElem? hz1))) (hLb z2 (List.mem_of_getElem? hz2))⟩, by omega⟩, by dsimp only; omega, ⟨some_int (by omega), trivial⟩, (by repeat (first | exact keeps_refl | refine keeps_upd rfl ?_ | refine keeps_loop rfl rfl ?_)), perm_eq (by simp [List.map_set])⟩
    ·try simp at h4
     refine hw_exit ?_
     refine seqQ_x ?_
     refine loopQ3_x ?_
     refine blockQ_eq ?_
     refine seqQ_n ?_
     refine hw_reg ?_
     refine dp rfl (pop_move rfl) ?_
     refine dp rfl (pop_assign rfl) ?_
     refine dn ?_
     refine hw_ret ?_
     refine ret_g (Ghost.fa 4 (i := 1) rfl rfl) rfl ⟨L, a2, rfl, ⟨hL, hLb⟩, by omega, rfl⟩

/-- benchwarmer/benchref1.LeftOf -/
theorem c_benchref1_LeftOf_a [Tracks] {r : Room} {k : List Keep} {l : List Pick} (hp : r.Players.length ≤ 1000000) (hk0 : k.length ≤ 1000000) (hll : l.length ≤ 1000000) : ConA Tryz.prog 121 [eRoom r, eKeeps k, ePicks l] 1 ((leftL r k l).map .str) := by
 refine Con.of_body Tryz.func121 rfl Tryz.ntmps121 rfl rfl ?_
 refine hw_reg ?_
 refine dp rfl (pop_box rfl rfl) ?_
 refine dp rfl (pop_box rfl rfl) ?_
 refine dp rfl (pop_box rfl rfl) ?_
 refine dp rfl (pop_assign rfl) ?_
 refine dn ?_
 refine hw_reg ?_
 refine dp rfl ((pop_fieldAddr ty64 rfl ty28 (by decide) rfl)) ?_
 refine dp rfl (pop_load ty28 rfl rfl rfl) ?_
 refine de rfl (eop_calla ca48 rfl (WeakL.refl _) (c_slices_Clone_string_string (by assumption)) fun v9 => ?_)
 refine dp rfl (pop_makeFunc rfl rfl) ?_
 refine de rfl (eop_callx (i := 0) ca132 rfl (WeakL.refl _) rfl (c_slices_DeleteFunc_string_string (l := r.Players) (p := goneB k l) ca197 (fun _ => c_benchref1_LeftOf_1 hk0 hll) hp) ?_)
 rintro _ _ ⟨u11, rfl, rfl⟩
 refine dp rfl (pop_assign rfl) ?_
 refine dn ?_
 refine hw_ret ?_
 exact ret_a rfl rfl

set_option maxHeartbeats 4000000 in
/-- (*benchwarmer/benchmake.Stream).PickList -/
theorem c_benchmake_Stream_PickList [Tracks] {b : Nat} {l : List Int} {a : Nat} {r : Room} {ks : List Keep} {ss : List Swap} (ha : a ≤ 700000) (hr : GoodRoom r) (hk0 : ks.length ≤ 1000000) (hl0 : ss.length ≤ 1000000) : Con Tryz.prog 36 [pAt b, eRoom r, eKeeps ks, eSwaps ss] [St b l a] (fun x M' => ∃ k a', x = ePicks k ∧ GoodPicks k ∧ a' ≤ a + 100 ∧ M' = [St b l a']) := by
 have ht := hr.t4
 have hp := hr.p20
 refine Con.of_body Tryz.func36 rfl Tryz.ntmps36 rfl rfl ?_
 refine hw_reg ?_
 refine dp rfl (pop_box rfl rfl) ?_
 refine dp rfl (pop_assign rfl) ?_
 refine dn ?_
 refine hw_seq ?_
 refine hw_reg ?_
 refine dp rfl (pop_loadw ty64 rfl rfl rfl rfl) ?_
 refine dp rfl (pop_move rfl) ?_
 refine dp rfl (pop_move rfl) ?_
 refine dp rfl (pop_eq (pop_call ca119 rfl (WeakL.refl _) (c_benchref1_OpenFault (by omega) (by omega) hr.ts hr.ps hk0 hl0)) (congrArg (HVal.int .i64) (openFault_ref r ks ss))) ?_
 refine dp rfl (pop_neq rfl rfl) ?_
 refine dn ?_
 refine hw_cond rfl (fun h1 => ?_) (fun h2 => ?_)
 ·try simp at h1
  refine hw_reg ?_
  refine dp rfl (pop_assign rfl) ?_
  refine dn ?_
  refine hw_ret ?_
  exact ⟨_, _, Ghost.sub (Sub.refl _), _, .slice 5 [], rfl, weak_nil 5, [], a, rfl, ⟨by simp⟩, by omega, rfl⟩
 ·try simp at h2
  refine hw_skip ?_
  refine seqQ_n ?_
  refine hw_reg ?_
  refine dp rfl (pop_assign rfl) ?_
  refine dn ?_
  have hof : openFault r ks ss = 0 := by simpa using h2
  refine hw_ghost (Ghost.arr_nil 5) ?_
  refine hw_reg ?_
  refine dp rfl ((pop_fieldAddr ty64 rfl ty3 (by decide) rfl)) ?_
  refine dp rfl (pop_load ty3 rfl rfl rfl) ?_
  refine dp rfl (pop_assign rfl) ?_
  refine dn ?_
  refine hw_joing [9, 10, 11, 12, 21, 22, 23, 24, 25, 26, 27, 28, 29, 30, 31, 32, 33, 34, 35, 36, 37, 38, 39, 40, 41, 42, 43, 44, 45, 46, 47, 48, 49, 50, 51, 52, 53, 54, 55, 56] (fun (q : GL Pick) => [(9, .raw q.u)]) (fun (q : GL Pick) => [St b l q.a, .arr q.u 5 (q.out.map ePick)]) (fun (q : GL Pick) => q.out.length ≤ 8 ∧ q.a ≤ a + 30) ?_ ?_
  ·skip
   refine hw_reg ?_
   refine dp rfl (pop_move rfl) ?_
   refine de rfl (eop_callx (i := 1) ca49 rfl (WeakL.refl _) rfl (c_benchmake_Stream_Range (by omega) (by omega) (by omega) (by omega)) ?_)
   rintro _ _ ⟨y22, rfl, hy22, rfl⟩
   refine dp rfl (pop_move rfl) ?_
   refine dn ?_
   refine hw_block ?_
   refine hw_loopw3 [9, 10, 11, 12, 23, 24, 25, 26, 27, 28, 29, 30, 31, 32, 33, 34, 35, 36, 37, 38, 39, 40, 41, 42, 43, 44, 45, 46, 47, 48, 49, 50, 51, 52, 53, 54, 55, 56] (fun (k : Nat) (at1 : Int) (q : GL Pick) => [(23, .int .i64 (k : Int)), (9, .raw q.u), (10, .int .i64 at1)]) (fun (k : Nat) (at1 : Int) (q : GL Pick) => [St b l q.a, .arr q.u 5 (q.out.map ePick)]) (fun (k : Nat) (at1 : Int) (q : GL Pick) => k ≤ 8 ∧ (q.out.length ≤ k ∧ q.out.length ≤ (freeP r ks ss).length) ∧ q.a ≤ a + 1 + 3 * k) (fun (k : Nat) (at1 : Int) (q : GL Pick) => 8 - k) (0) (r.Start) (⟨.slice none 0 0, [], a + 1⟩) ?_ ?_ ?_ ?_
   ·exact ⟨by omega, ⟨by simp, by simp⟩, by dsimp only; omega⟩
   ·exact ⟨rfl, rfl, rfl, trivial⟩
   ·repeat (first | exact List.Perm.nil | refine permTo 0 rfl ?_ | refine permTo 1 rfl ?_ | refine permTo 2 rfl ?_ | refine permTo 3 rfl ?_ | (refine permToE 0 rfl ?hq ?_; (case hq => simp [setL, hcells]; done)) | (refine permToE 1 rfl ?hq ?_; (case hq => simp [setL, hcells]; done)) | (refine permToE 2 rfl ?hq ?_; (case hq => simp [setL, hcells]; done)) | (refine permToE 3 rfl ?hq ?_; (case hq => simp [setL, hcells]; done)) | fail)
   ·intro k at1 q hinv
    obtain ⟨hk, hq, hqa⟩ := hinv
    obtain ⟨u, out, a2⟩ := q
    dsimp only at hq hqa
    obtain ⟨g1, g2⟩ := hq
    refine hw_reg ?_
    refine dp rfl (pop_lss rfl rfl) ?_
    refine dn ?_
    refine hw_seq ?_
    refine hw_cond rfl (fun h3 => ?_) (fun h4 => ?_)
    ·try simp at h3
     have hk8 : k < 8 := by omega
     refine hw_skip ?_
     refine seqQ_n ?_
     refine hw_seq ?_
     refine hw_block ?_
     refine hw_reg ?_
     refine dp rfl (pop_loadw ty64 rfl rfl rfl rfl) ?_
     refine dp rfl (pop_move rfl) ?_
     refine dp rfl (pop_move rfl) ?_
     refine dp rfl (pop_move rfl) ?_
     refine de rfl (eop_callw (hs' := [eRoom r, eKeeps ks, eSwaps ss, ePicks out]) ca120 rfl ⟨.refl, .refl, .refl, .arr (i := 1) rfl, trivial⟩ (c_benchref1_NextOf hof hk0 hl0 g2) rfl ?_)
     refine dp rfl (pop_move rfl) ?_
     refine dp rfl (pop_extract rfl rfl) ?_
     refine dp rfl (pop_extract rfl rfl) ?_
     refine de rfl (eop_alloc ty79 rfl fun b11 => ?_)
     refine de0 (eop_store (i := 0) ty79 rfl rfl rfl rfl rfl (Nat.le_of_ble_eq_true rfl) ?_)
     refine dp rfl (pop_assign rfl) ?_
     refine dn ?_
     refine hw_seq ?_
     refine hw_reg ?_
     refine dp rfl (pop_move rfl) ?_
     refine dp rfl (pop_not rfl) ?_
     refine dn ?_
     refine hw_cond rfl (fun h5 => ?_) (fun h6 => ?_)
     ·try simp at h5
      refine hw_exit ?_
      refine seqQ_x ?_
      refine blockQ_ne rfl ?_
      refine seqQ_x ?_
      refine loopQ3_x ?_
      refine blockQ_eq ?_
      refine joinG_n Ghost.drop ?_
      refine joinG_z ⟨u, out, a2⟩ ⟨by dsimp only; omega, by dsimp only; omega⟩ ⟨rfl, trivial⟩ (by repeat (first | exact keeps_refl | refine keeps_upd rfl ?_ | refine keeps_loop rfl rfl ?_)) ?_
      repeat (first | exact List.Perm.nil | refine permTo 0 rfl ?_ | refine permTo 1 rfl ?_ | refine permTo 2 rfl ?_ | refine permTo 3 rfl ?_ | (refine permToE 0 rfl ?hq ?_; (case hq => simp [setL, hcells]; done)) | (refine permToE 1 rfl ?hq ?_; (case hq => simp [setL, hcells]; done)) | (refine permToE 2 rfl ?hq ?_; (case hq => simp [setL, hcells]; done)) | (refine permToE 3 rfl ?hq ?_; (case hq => simp [setL, hcells]; done)) | fail)
     ·try simp at h6
      refine hw_skip ?_
      refine seqQ_n ?_
      have hLl : out.length < (freeP r ks ss).length := by omega
      have hln := left_ne hof hLl
      have hlm : (leftL r ks out).length ≤ r.Players.length := List.length_filter_le _ _
      refine hw_reg ?_
      refine dp rfl (pop_move rfl) ?_
      refine dp rfl (pop_move rfl) ?_
      refine dp rfl (pop_buildSlice (hs := [_, _, _]) ty22 ty3 rfl rfl (by decide) (by decide) rfl) ?_
      refine de rfl (eop_callx (i := 1) ca11 rfl (WeakL.refl _) rfl (c_benchmake_Stream_Pick (L := [_, _, _]) (by simp; omega) (by simp_all) (by simp_all)) ?_)
      rintro _ _ ⟨y38, rfl, hy38, rfl⟩
      refine dp rfl (pop_add rfl rfl) ?_
      refine dp rfl (pop_assign rfl) ?_
      refine dn ?_
      refine hw_reg ?_
      refine dp rfl (pop_move rfl) ?_
      refine dp rfl (pop_loadw ty64 rfl rfl rfl rfl) ?_
      refine dp rfl (pop_move rfl) ?_
      refine dp rfl (pop_move rfl) ?_
      refine de rfl (EOp.fz (eop_callba (hs' := [eRoom r, eKeeps ks, ePicks out]) ca121 rfl ⟨.weak (Weak.refl _), .weak (Weak.refl _), .arr (i := 2) rfl, trivial⟩ (c_benchref1_LeftOf_a (by omega) hk0 (by omega)) (fun y hy => by obtain ⟨z, _, rfl⟩ := List.mem_map.1 hy; rfl) fun v => ⟨v, rfl, rfl⟩) ?_)
      refine de rfl (eop_callx (i := 0) ca13 rfl (WeakL.refl _) rfl (c_benchmake_Stream_Some (by simp; omega) (by assumption) (by omega)) ?_)
      rintro _ _ ⟨y45, rfl, hy45, rfl⟩
      refine dp rfl (pop_move rfl) ?_
      refine dp rfl (pop_move rfl) ?_
      refine de rfl (eop_callx (i := 0) ca84 rfl (WeakL.refl _) rfl (c_benchmake_Stream_Flip (by simp; omega) (by omega)) ?_)
      rintro _ _ ⟨y48, rfl, rfl⟩
      refine dp rfl (pop_fieldAddr_raw ty79 rfl ty9 (by decide) rfl) ?_
      refine de0 (eop_store (i := 1) ty9 rfl rfl rfl rfl rfl (Nat.le_of_ble_eq_true rfl) ?_)
      refine dp rfl (pop_fieldAddr_raw ty79 rfl ty3 (by decide) rfl) ?_
      refine de0 (eop_store (i := 1) ty3 rfl rfl rfl rfl rfl (Nat.le_of_ble_eq_true rfl) ?_)
      refine dp rfl (pop_fieldAddr_raw ty79 rfl ty4 (by decide) rfl) ?_
      refine de0 (eop_store (i := 1) ty4 rfl rfl rfl rfl rfl (Nat.le_of_ble_eq_true rfl) ?_)
      refine dn ?_
      refine hw_ghost (Ghost.of_eq (M' := [St b l (a2 + 1 + 1 + 1), .cells b11 (hcells (ePick ⟨(nextP r ks ss out).No, (nextP r ks ss out).Team, y45, IntKind.wrap .i64 (at1 + y38), y48⟩)), .arr u 5 (out.map ePick)]) rfl) ?_
      refine hw_ghost (Ghost.fc 11 (i := 1) rfl rfl) ?_
      refine hw_reg1 ?_
      refine dp rfl (pop_move rfl) ?_
      refine dp rfl (pop_loadw ty79 rfl rfl rfl rfl) ?_
      refine dp rfl (pop_buildSlice (hs := [_]) ty72 ty79 rfl rfl (by decide) (by decide) rfl) ?_
      refine de rfl (eop_append (i := 1) ty72 ty79 rfl rfl rfl rfl rfl (by simp [flat, hcells]) (by simp; omega) fun v55 => ?_)
      refine dp rfl (pop_assign rfl) ?_
      refine dn ?_
      refine blockQ_n ?_
      refine seqQ_n ?_
      refine hw_reg1 ?_
      refine dp rfl (pop_add64 rfl rfl (by omega) (by omega)) ?_
      refine dp rfl (pop_move rfl) ?_
      refine dn ?_
      exact ⟨k + 1, IntKind.wrap .i64 (at1 + y38), ⟨v55, out ++ [⟨(nextP r ks ss out).No, (nextP r ks ss out).Team, y45, IntKind.wrap .i64 (at1 + y38), y48⟩], a2 + 3⟩, ⟨by omega, ⟨by simp; omega, by simp; omega⟩, by dsimp only; omega⟩, by dsimp only; omega, ⟨rfl, rfl, rfl, trivial⟩, (by repeat (first | exact keeps_refl | refine keeps_upd rfl ?_ | refine keeps_loop rfl rfl ?_)), by repeat (first | exact List.Perm.nil | refine permTo 0 rfl ?_ | refine permTo 1 rfl ?_ | refine permTo 2 rfl ?_ | refine permTo 3 rfl ?_ | (refine permToE 0 rfl ?hq ?_; (case hq => simp [setL, hcells]; done)) | (refine permToE 1 rfl ?hq ?_; (case hq => simp [setL, hcells]; done)) | (refine permToE 2 rfl ?hq ?_; (case hq => simp [setL, hcells]; done)) | (refine permToE 3 rfl ?hq ?_; (case hq => simp [setL, hcells]; done)) | fail)⟩
    ·try simp at h4
     refine hw_exit ?_
     refine seqQ_x ?_
     refine loopQ3_x ?_
     refine blockQ_eq ?_
     refine joinG_z ⟨u, out, a2⟩ ⟨by dsimp only; omega, by dsimp only; omega⟩ ⟨rfl, trivial⟩ (by repeat (first | exact keeps_refl | refine keeps_upd rfl ?_ | refine keeps_loop rfl rfl ?_)) ?_
     repeat (first | exact List.Perm.nil | refine permTo 0 rfl ?_ | refine permTo 1 rfl ?_ | refine permTo 2 rfl ?_ | refine permTo 3 rfl ?_ | (refine permToE 0 rfl ?hq ?_; (case hq => simp [setL, hcells]; done)) | (refine permToE 1 rfl ?hq ?_; (case hq => simp [setL, hcells]; done)) | (refine permToE 2 rfl ?hq ?_; (case hq => simp [setL, hcells]; done)) | (refine permToE 3 rfl ?hq ?_; (case hq => simp [setL, hcells]; done)) | fail)
  ·intro q hq3
   obtain ⟨u, out, a2⟩ := q
   dsimp only at hq3
   obtain ⟨g1, g3⟩ := hq3
   refine hw_join (13 :: 57 :: 58 :: 59 :: 60 :: 61 :: 62 :: 63 :: 64 :: 65 :: 66 :: 67 :: 68 :: 69 :: 70 :: 71 :: 72 :: 73 :: 74 :: 75 :: 76 :: 77 :: 78 :: 79 :: 80 :: 81 :: 82 :: 83 :: 84 :: 85 :: 86 :: 87 :: 88 :: 89 :: 90 :: 91 :: 92 :: 93 :: 94 :: 95 :: 96 :: 97 :: 98 :: 99 :: 100 :: 101 :: 102 :: 103 :: 104 :: 105 :: 106 :: 107 :: 108 :: 109 :: 110 :: 111 :: 112 :: 113 :: 114 :: 115 :: 116 :: 117 :: 118 :: 119 :: 120 :: 121 :: 122 :: 123 :: 124 :: 125 :: []) (fun (q : List Pick × Nat) => []) (fun (q : List Pick × Nat) => [St b l q.2, .arr u 5 (q.1.map ePick)]) (fun (q : List Pick × Nat) => q.1.length ≤ 8 ∧ q.2 ≤ a + 100) ?_ ?_
   ·skip
    refine hw_reg ?_
    refine dp rfl (pop_move rfl) ?_
    refine de rfl (eop_lenm (i := 1) ty72 rfl rfl ?_)
    refine dp rfl (pop_gtr rfl rfl) ?_
    refine dp rfl (pop_move rfl) ?_
    refine dg rfl rfl (fun hc => ⟨_, OpenTo.refl _, pop_move rfl⟩) ?_
    refine dgx (fun x M' => ∃ (y : Bool) (a3 : Nat), x = .bool y ∧ a3 ≤ a2 + 1 ∧ M' = [St b l a3, .arr u 5 (out.map ePick)]) rfl rfl (fun hc => ⟨_, false, a2, rfl, by omega, rfl⟩) (fun hc => ⟨_, OpenTo.upd (t := 61) rfl (hc) (OpenTo.refl _), eop_callx (i := 0) ca84 rfl (WeakL.refl _) rfl (c_benchmake_Stream_Flip (a := a2) (by omega) (by omega)) (fun h M' hh => by
     obtain ⟨y, h1, h2⟩ := hh
     exact ⟨y, a2 + 1, h1, by omega, by rw [h2]; rfl⟩)⟩) ?_
    rintro _ _ ⟨y, a3, rfl, ha3, rfl⟩
    refine dp rfl (pop_picko rfl (.inr ⟨_, rfl, fun h => by simp_all⟩) (.inl rfl)) ?_
    refine dn ?_
    refine hw_cond rfl (fun h7 => ?_) (fun h8 => ?_)
    ·try simp at h7
     have ho0 : 0 < out.length := by simp_all
     refine hw_arrc (i := 1) rfl (fun h0 he => ?_) (fun ob off cap hv hcap => ?_)
     ·exfalso; have := congrArg List.length he; simp at this; subst this; simp at ho0
     subst hv
     refine hw_reg ?_
     refine dp rfl (pop_move rfl) ?_
     refine dp rfl (pop_move rfl) ?_
     refine dp rfl (pop_move rfl) ?_
     refine de rfl (eop_lenm (i := 1) ty72 rfl rfl ?_)
     refine de rfl (eop_callx (i := 0) ca83 rfl (WeakL.refl _) rfl (c_benchmake_Stream_Next (by omega) (by omega)) ?_)
     rintro _ _ ⟨y68, rfl, hy68, rfl⟩
     refine dp rfl (pop_idxraw (j := y68) ty72 ty79 rfl rfl rfl (by simp; omega)) ?_
     refine dp rfl (pop_assign rfl) ?_
     refine dn ?_
     obtain ⟨x, hx⟩ : ∃ x, out[y68]? = some x := ⟨_, List.getElem?_eq_getElem (by omega)⟩
     obtain ⟨x0, hx0⟩ : ∃ x, out[0]? = some x := ⟨_, List.getElem?_eq_getElem (by omega)⟩
     refine hw_reg ?_
     refine dp rfl (pop_move rfl) ?_
     refine de rfl (eop_callx (i := 0) ca83 rfl (WeakL.refl _) rfl (c_benchmake_Stream_Next (by omega) (by omega)) ?_)
     rintro _ _ ⟨y71, rfl, hy71, rfl⟩
     refine dn ?_
     refine hw_block ?_
     refine hw_reg ?_
     refine dp rfl (pop_eql rfl rfl) ?_
     refine dp rfl (pop_assign rfl) ?_
     refine dn ?_
     refine hw_cond rfl (fun h9 => ?_) (fun h10 => ?_)
     ·try simp at h9
      refine hw_draw1 (fun M => ∃ i : Nat, M[i]? = some (.arr (.slice (some ⟨ob, off, none⟩) (out.map ePick).length cap) 5 (out.map ePick))) [6, 10, 18] mixed ?_
      refine ahp 0 rfl rfl (by kernel_rfl) (by kernel_rfl) (pop_move rfl) ?_
      refine ahp 1 rfl rfl (by kernel_rfl) (by kernel_rfl) (pop_move rfl) ?_
      refine ahp 2 rfl rfl (by kernel_rfl) (by kernel_rfl) (pop_move rfl) ?_
      refine ahp 3 rfl rfl (by kernel_rfl) (by kernel_rfl) (pop_move rfl) ?_
      refine ahp 4 rfl rfl (by kernel_rfl) (by kernel_rfl) ((pop_nilCheck_raw rfl)) ?_
      refine ahp 5 rfl rfl (by kernel_rfl) (by kernel_rfl) ((pop_fieldAddr_raw ty79 rfl ty3 (by decide) rfl)) ?_
      refine ahl 6 rfl rfl (by kernel_rfl) (by kernel_rfl) (by simp) ⟨1, rfl⟩ (fun M hM => by obtain ⟨i, hi⟩ := hM; exact eop_load_el (i := i) (j := y68) 0 ty3 rfl (by omega) hi hx rfl rfl ⟨rfl, rfl⟩) ?_
      refine ahp 7 rfl rfl (by kernel_rfl) (by kernel_rfl) (pop_move rfl) ?_
      refine ahp 8 rfl rfl (by kernel_rfl) (by kernel_rfl) ((pop_nilCheck_raw rfl)) ?_
      refine ahp 9 rfl rfl (by kernel_rfl) (by kernel_rfl) ((pop_fieldAddr_raw ty79 rfl ty3 (by decide) rfl)) ?_
      refine ahl 10 rfl rfl (by kernel_rfl) (by kernel_rfl) (by simp) ⟨1, rfl⟩ (fun M hM => by obtain ⟨i, hi⟩ := hM; exact eop_load_el (i := i) (j := y68) 0 ty3 rfl (by omega) hi hx rfl rfl ⟨rfl, rfl⟩) ?_
      refine ahp 11 rfl rfl (by kernel_rfl) (by kernel_rfl) (pop_add rfl rfl) ?_
      refine ahp 12 rfl rfl (by kernel_rfl) (by kernel_rfl) (pop_buildSlice (hs := [_, _, _]) ty22 ty3 rfl rfl (by decide) (by decide) rfl) ?_
      refine ahp 14 rfl rfl (by kernel_rfl) (by kernel_rfl) (pop_move rfl) ?_
      refine ahp 15 rfl rfl (by kernel_rfl) (by kernel_rfl) (pop_move rfl) ?_
      refine ahp 16 rfl rfl (by kernel_rfl) (by kernel_rfl) ((pop_nilCheck_raw rfl)) ?_
      refine ahp 17 rfl rfl (by kernel_rfl) (by kernel_rfl) ((pop_fieldAddr_raw ty79 rfl ty9 (by decide) rfl)) ?_
      refine ahl 18 rfl rfl (by kernel_rfl) (by kernel_rfl) (by simp) ⟨1, rfl⟩ (fun M hM => by obtain ⟨i, hi⟩ := hM; exact eop_load_el (i := i) (j := y68) 1 ty9 rfl (by omega) hi hx rfl rfl ⟨rfl, rfl⟩) ?_
      refine ahp 19 rfl rfl (by kernel_rfl) (by kernel_rfl) (pop_buildSlice (hs := [_, _, _]) ty28 ty9 rfl rfl (by decide) (by decide) rfl) ?_
      refine ahe 13 rfl (by kernel_rfl) ?_
      refine hop_e rfl (eop_callx (i := 0) ca11 rfl (WeakL.refl _) rfl (c_benchmake_Stream_Pick (L := [_, _, _]) (by omega) (by simp_all) (by simp_all)) ?_)
      rintro _ _ ⟨y102, rfl, hy102, rfl⟩
      refine ⟨fun _ => by first | exact .inl ⟨0, rfl⟩ | exact .inl ⟨1, rfl⟩ | exact .inl ⟨2, rfl⟩ | exact .inr (by simp [Before, Region.binds]), ?_⟩
      refine ahe 20 rfl (by kernel_rfl) ?_
      refine hop_e rfl (eop_callx (i := 0) ca13 rfl (WeakL.refl _) rfl (c_benchmake_Stream_Some (L := [_, _, _]) (by omega) (by simp_all) (by simp_all)) ?_)
      rintro _ _ ⟨y109, rfl, hy109, rfl⟩
      refine ⟨fun _ => by first | exact .inl ⟨0, rfl⟩ | exact .inl ⟨1, rfl⟩ | exact .inl ⟨2, rfl⟩ | exact .inr (by simp [Before, Region.binds]), ?_⟩
      refine ahp 21 rfl rfl (by kernel_rfl) (by kernel_rfl) ((pop_nilCheck_raw rfl)) ?_
      refine ahp 22 rfl rfl (by kernel_rfl) (by kernel_rfl) ((pop_fieldAddr_raw ty79 rfl ty3 (by decide) rfl)) ?_
      refine ahe 23 rfl (by kernel_rfl) ?_
      refine hop_e0 (eop_store_arr (i := 1) (j := y68) (f := 0) (y := ePick x) (y' := ePick ⟨y102, x.Team, x.Player, x.At, x.Auto⟩) ty3 rfl (by omega) rfl rfl (map_get hx) rfl rfl (by simp [hcells]) rfl ?_)
      refine ⟨fun _ => .inr (by simp [Before, Region.binds]), ?_⟩
      refine ahp 24 rfl rfl (by kernel_rfl) (by kernel_rfl) ((pop_nilCheck_raw rfl)) ?_
      refine ahp 25 rfl rfl (by kernel_rfl) (by kernel_rfl) ((pop_fieldAddr_raw ty79 rfl ty9 (by decide) rfl)) ?_
      refine ahe 26 rfl (by kernel_rfl) ?_
      refine hop_e0 (eop_store_arr (i := 1) (j := y68) (f := 1) (y := ePick ⟨y102, x.Team, x.Player, x.At, x.Auto⟩) (y' := ePick ⟨y102, y109, x.Player, x.At, x.Auto⟩) ty9 rfl (by omega) rfl rfl (set_self (map_get hx)) rfl rfl (by simp [hcells]) rfl ?_)
      refine ⟨fun _ => .inr (by simp [Before, Region.binds]), ?_⟩
      refine ahz (by kernel_rfl) ?_
      refine blockQ_n ?_
      exact ⟨(out.set y68 ⟨y102, y109, x.Player, x.At, x.Auto⟩, a3 + 4), ⟨by simp; omega, by dsimp only; omega⟩, trivial, (by repeat (first | exact keeps_refl | refine keeps_upd rfl ?_ | refine keeps_loop rfl rfl ?_)), by repeat (first | exact List.Perm.nil | refine permTo 0 rfl ?_ | refine permTo 1 rfl ?_ | refine permTo 2 rfl ?_ | refine permTo 3 rfl ?_ | (refine permToE 0 rfl ?hq ?_; (case hq => simp [setL, hcells]; done)) | (refine permToE 1 rfl ?hq ?_; (case hq => simp [setL, hcells]; done)) | (refine permToE 2 rfl ?hq ?_; (case hq => simp [setL, hcells]; done)) | (refine permToE 3 rfl ?hq ?_; (case hq => simp [setL, hcells]; done)) | fail)⟩
     ·try simp at h10
      refine hw_reg ?_
      refine dp rfl (pop_eql rfl rfl) ?_
      refine dp rfl (pop_assign rfl) ?_
      refine dn ?_
      refine hw_cond rfl (fun h11 => ?_) (fun h12 => ?_)
      ·try simp at h11
       refine hw_reg1 ?_
       refine dp rfl (pop_move rfl) ?_
       refine dp rfl (pop_move rfl) ?_
       refine dp rfl (pop_move rfl) ?_
       refine dp rfl (pop_idxraw (j := 0) ty72 ty79 rfl rfl rfl (by simp; omega)) ?_
       refine dp rfl ((pop_fieldAddr_raw ty79 rfl ty9 (by decide) rfl)) ?_
       refine de rfl (eop_load_el (i := 1) (j := 0) 2 ty9 rfl (by omega) rfl hx0 rfl rfl ?_)
       refine dp rfl (pop_buildSlice (hs := [_, _]) ty28 ty9 rfl rfl (by decide) (by decide) rfl) ?_
       refine de rfl (eop_callx (i := 0) ca13 rfl (WeakL.refl _) rfl (c_benchmake_Stream_Some (L := [_, _]) (by omega) (by simp_all) (by simp_all)) ?_)
       rintro _ _ ⟨y123, rfl, hy123, rfl⟩
       refine dp rfl ((pop_nilCheck_raw rfl)) ?_
       refine dp rfl ((pop_fieldAddr_raw ty79 rfl ty9 (by decide) rfl)) ?_
       refine de0 (eop_store_arr (i := 1) (j := y68) (f := 2) (y := ePick x) (y' := ePick ⟨x.No, x.Team, y123, x.At, x.Auto⟩) ty9 rfl (by omega) rfl rfl (map_get hx) rfl rfl (by simp [hcells]) rfl ?_)
       refine dn ?_
       refine blockQ_n ?_
       exact ⟨(out.set y68 ⟨x.No, x.Team, y123, x.At, x.Auto⟩, a3 + 3), ⟨by simp; omega, by dsimp only; omega⟩, trivial, (by repeat (first | exact keeps_refl | refine keeps_upd rfl ?_ | refine keeps_loop rfl rfl ?_)), by repeat (first | exact List.Perm.nil | refine permTo 0 rfl ?_ | refine permTo 1 rfl ?_ | refine permTo 2 rfl ?_ | refine permTo 3 rfl ?_ | (refine permToE 0 rfl ?hq ?_; (case hq => simp [setL, hcells]; done)) | (refine permToE 1 rfl ?hq ?_; (case hq => simp [setL, hcells]; done)) | (refine permToE 2 rfl ?hq ?_; (case hq => simp [setL, hcells]; done)) | (refine permToE 3 rfl ?hq ?_; (case hq => simp [setL, hcells]; done)) | fail)⟩
      ·try simp at h12
       refine hw_draw1 (fun M => ∃ i : Nat, M[i]? = some (.arr (.slice (some ⟨ob, off, none⟩) (out.map ePick).length cap) 5 (out.map ePick))) [5, 10] mixed ?_
       refine ahp 0 rfl rfl (by kernel_rfl) (by kernel_rfl) (pop_move rfl) ?_
       refine ahp 1 rfl rfl (by kernel_rfl) (by kernel_rfl) (pop_move rfl) ?_
       refine ahp 2 rfl rfl (by kernel_rfl) (by kernel_rfl) (pop_move rfl) ?_
       refine ahp 3 rfl rfl (by kernel_rfl) (by kernel_rfl) ((pop_nilCheck_raw rfl)) ?_
       refine ahp 4 rfl rfl (by kernel_rfl) (by kernel_rfl) ((pop_fieldAddr_raw ty79 rfl ty3 (by decide) rfl)) ?_
       refine ahl 5 rfl rfl (by kernel_rfl) (by kernel_rfl) (by simp) ⟨1, rfl⟩ (fun M hM => by obtain ⟨i, hi⟩ := hM; exact eop_load_el (i := i) (j := y68) 3 ty3 rfl (by omega) hi hx rfl rfl ⟨rfl, rfl⟩) ?_
       refine ahp 6 rfl rfl (by kernel_rfl) (by kernel_rfl) (pop_sub rfl rfl) ?_
       refine ahp 7 rfl rfl (by kernel_rfl) (by kernel_rfl) (pop_move rfl) ?_
       refine ahp 8 rfl rfl (by kernel_rfl) (by kernel_rfl) ((pop_nilCheck_raw rfl)) ?_
       refine ahp 9 rfl rfl (by kernel_rfl) (by kernel_rfl) ((pop_fieldAddr_raw ty79 rfl ty3 (by decide) rfl)) ?_
       refine ahl 10 rfl rfl (by kernel_rfl) (by kernel_rfl) (by simp) ⟨1, rfl⟩ (fun M hM => by obtain ⟨i, hi⟩ := hM; exact eop_load_el (i := i) (j := y68) 3 ty3 rfl (by omega) hi hx rfl rfl ⟨rfl, rfl⟩) ?_
       refine ahp 11 rfl rfl (by kernel_rfl) (by kernel_rfl) (pop_buildSlice (hs := [_, _, _]) ty22 ty3 rfl rfl (by decide) (by decide) rfl) ?_
       refine ahe 12 rfl (by kernel_rfl) ?_
       refine hop_e rfl (eop_callx (i := 0) ca11 rfl (WeakL.refl _) rfl (c_benchmake_Stream_Pick (L := [_, _, _]) (by omega) (by simp_all) (by simp_all)) ?_)
       rintro _ _ ⟨y84, rfl, hy84, rfl⟩
       refine ⟨fun _ => by first | exact .inl ⟨0, rfl⟩ | exact .inl ⟨1, rfl⟩ | exact .inl ⟨2, rfl⟩ | exact .inr (by simp [Before, Region.binds]), ?_⟩
       refine ahp 13 rfl rfl (by kernel_rfl) (by kernel_rfl) ((pop_nilCheck_raw rfl)) ?_
       refine ahp 14 rfl rfl (by kernel_rfl) (by kernel_rfl) ((pop_fieldAddr_raw ty79 rfl ty3 (by decide) rfl)) ?_
       refine ahe 15 rfl (by kernel_rfl) ?_
       refine hop_e0 (eop_store_arr (i := 1) (j := y68) (f := 3) (y := ePick x) (y' := ePick ⟨x.No, x.Team, x.Player, y84, x.Auto⟩) ty3 rfl (by omega) rfl rfl (map_get hx) rfl rfl (by simp [hcells]) rfl ?_)
       refine ⟨fun _ => .inr (by simp [Before, Region.binds]), ?_⟩
       refine ahz (by kernel_rfl) ?_
       refine blockQ_n ?_
       exact ⟨(out.set y68 ⟨x.No, x.Team, x.Player, y84, x.Auto⟩, a3 + 3), ⟨by simp; omega, by dsimp only; omega⟩, trivial, (by repeat (first | exact keeps_refl | refine keeps_upd rfl ?_ | refine keeps_loop rfl rfl ?_)), by repeat (first | exact List.Perm.nil | refine permTo 0 rfl ?_ | refine permTo 1 rfl ?_ | refine permTo 2 rfl ?_ | refine permTo 3 rfl ?_ | (refine permToE 0 rfl ?hq ?_; (case hq => simp [setL, hcells]; done)) | (refine permToE 1 rfl ?hq ?_; (case hq => simp [setL, hcells]; done)) | (refine permToE 2 rfl ?hq ?_; (case hq => simp [setL, hcells]; done)) | (refine permToE 3 rfl ?hq ?_; (case hq => simp [setL, hcells]; done)) | fail)⟩
    ·try simp at h8
     refine hw_skip ?_
     exact ⟨(out, a3), ⟨by dsimp only; omega, by dsimp only; omega⟩, trivial, (by repeat (first | exact keeps_refl | refine keeps_upd rfl ?_ | refine keeps_loop rfl rfl ?_)), by repeat (first | exact List.Perm.nil | refine permTo 0 rfl ?_ | refine permTo 1 rfl ?_ | refine permTo 2 rfl ?_ | refine permTo 3 rfl ?_ | (refine permToE 0 rfl ?hq ?_; (case hq => simp [setL, hcells]; done)) | (refine permToE 1 rfl ?hq ?_; (case hq => simp [setL, hcells]; done)) | (refine permToE 2 rfl ?hq ?_; (case hq => simp [setL, hcells]; done)) | (refine permToE 3 rfl ?hq ?_; (case hq => simp [setL, hcells]; done)) | fail)⟩
   ·intro q hq3
    obtain ⟨k1, a4⟩ := q
    dsimp only at hq3
    obtain ⟨q1, q3⟩ := hq3
    refine hw_reg ?_
    refine dp rfl (pop_move rfl) ?_
    refine dp rfl (pop_assign rfl) ?_
    refine dn ?_
    refine hw_ret ?_
    refine ret_g (Ghost.fa 8 (i := 1) rfl rfl) rfl ⟨k1, a4, rfl, ⟨by omega⟩, by omega, rfl⟩
end Go.Proofs.YtcnfhcicepmjcaaGreatDoor
end
section
namespace Go.Proofs.YtcnfhcicepmjcaaGreatDoor
open Go.HL
set_option maxRecDepth 100000
set_option linter.unusedVariables false
set_option linter.unusedSimpArgs false
set_option maxHeartbeats 4000000 in
/-- (*benchwarmer/benchmake.Stream).WishList -/
theorem c_benchmake_Stream_WishList [Tracks] {b : Nat} {l : List Int} {a : Nat} {r : Room} (ha : a ≤ 700000) (hr : GoodRoom r) : Con Tryz.prog 35 [pAt b, eRoom r] [St b l a] (fun x M' => ∃ k a', x = eWishes k ∧ GoodWishes k ∧ a' ≤ a + 250 ∧ M' = [St b l a']) := by
 have ht4 := hr.t4
 have hp20 := hr.p20
 have hp1 := hr.p1
 refine Con.of_body Tryz.func35 rfl Tryz.ntmps35 rfl rfl ?_
 refine hw_reg ?_
 refine dp rfl (pop_box rfl rfl) ?_
 refine dp rfl (pop_assign rfl) ?_
 refine dn ?_
 refine hw_reg ?_
 refine dp rfl (pop_assign rfl) ?_
 refine dn ?_
 refine hw_ghost (Ghost.arr_nil 2) ?_
 refine hw_seq ?_
 refine hw_reg ?_
 refine dp rfl ((pop_fieldAddr ty64 rfl ty28 (by decide) rfl)) ?_
 refine dp rfl (pop_load ty28 rfl rfl rfl) ?_
 refine dp rfl (pop_lenm ty28 rfl) ?_
 refine dp rfl (pop_move rfl) ?_
 refine dn ?_
 refine hw_block ?_
 refine hw_loopw2 [5, 7, 8, 10, 15, 16, 17, 18, 19, 20, 21, 22, 23, 24, 25, 26, 27, 28, 29, 30, 31, 32, 33, 34, 35, 36, 37, 38, 39, 40, 41, 42, 43, 44, 45, 46, 47, 48, 49, 50, 51] (fun (k : Nat) (q : GL Wish) => [(15, .int .i64 k), (5, .raw q.u)]) (fun (k : Nat) (q : GL Wish) => [St b l q.a, .arr q.u 2 (q.out.map eWish)]) (fun (k : Nat) (q : GL Wish) => k ≤ r.Teams.length ∧ (GLok GoodW k (a + 50 * k) q)) (fun (k : Nat) (q : GL Wish) => r.Teams.length - k) (0) (⟨.slice none 0 0, [], a⟩) ?_ ?_ ?_ ?_
 ·exact ⟨Nat.zero_le _, ⟨by simp, by simp, by dsimp only; omega⟩⟩
 ·exact ⟨rfl, rfl, trivial⟩
 ·repeat (first | exact List.Perm.nil | refine permTo 0 rfl ?_ | refine permTo 1 rfl ?_ | refine permTo 2 rfl ?_ | refine permTo 3 rfl ?_ | (refine permToE 0 rfl ?hq ?_; (case hq => simp [setL, hcells]; done)) | (refine permToE 1 rfl ?hq ?_; (case hq => simp [setL, hcells]; done)) | (refine permToE 2 rfl ?hq ?_; (case hq => simp [setL, hcells]; done)) | (refine permToE 3 rfl ?hq ?_; (case hq => simp [setL, hcells]; done)) | fail)
 ·intro k q hinv
  obtain ⟨hk, hq⟩ := hinv
  obtain ⟨u, out, a2⟩ := q
  obtain ⟨g1, g2, g3⟩ := id hq
  dsimp only at g1 g2 g3
  refine hw_reg ?_
  refine dp rfl (pop_lss rfl rfl) ?_
  refine dn ?_
  refine hw_seq ?_
  refine hw_cond rfl (fun h1 => ?_) (fun h2 => ?_)
  ·try simp at h1
   obtain ⟨x, hx⟩ : ∃ x, r.Teams[k]? = some x := ⟨_, List.getElem?_eq_getElem h1⟩
   have hdx := drop_cons hx
   refine hw_skip ?_
   refine seqQ_n ?_
   refine hw_seq ?_
   refine hw_block ?_
   refine hw_reg ?_
   refine dp rfl (pop_idx ty28 ty9 rfl rfl rfl (by assumption)) ?_
   refine dp rfl (pop_load ty9 rfl rfl rfl) ?_
   refine dp rfl (pop_assign rfl) ?_
   refine dn ?_
   refine hw_seq ?_
   refine hw_reg ?_
   refine dp rfl (pop_move rfl) ?_
   refine de rfl (eop_callx (i := 0) ca84 rfl (WeakL.refl _) rfl (c_benchmake_Stream_Flip (by simp; omega) (by omega)) ?_)
   rintro _ _ ⟨y20, rfl, rfl⟩
   refine dn ?_
   refine hw_cond rfl (fun h3 => ?_) (fun h4 => ?_)
   ·try simp at h3
    refine hw_exit ?_
    refine seqQ_x ?_
    refine blockQ_eq ?_
    refine seqQ_n ?_
    refine hw_reg1 ?_
    refine dp rfl (pop_add64 rfl rfl (by omega) (by omega)) ?_
    refine dp rfl (pop_move rfl) ?_
    refine dn ?_
    exact ⟨k + 1, ⟨u, out, a2 + 1⟩, ⟨by omega, hq.same (by omega)⟩, by dsimp only; omega, ⟨rfl, rfl, trivial⟩, (by repeat (first | exact keeps_refl | refine keeps_upd rfl ?_ | refine keeps_loop rfl rfl ?_)), by repeat (first | exact List.Perm.nil | refine permTo 0 rfl ?_ | refine permTo 1 rfl ?_ | refine permTo 2 rfl ?_ | refine permTo 3 rfl ?_ | (refine permToE 0 rfl ?hq ?_; (case hq => simp [setL, hcells]; done)) | (refine permToE 1 rfl ?hq ?_; (case hq => simp [setL, hcells]; done)) | (refine permToE 2 rfl ?hq ?_; (case hq => simp [setL, hcells]; done)) | (refine permToE 3 rfl ?hq ?_; (case hq => simp [setL, hcells]; done)) | fail)⟩
   ·try simp at h4
    refine hw_skip ?_
    refine seqQ_n ?_
    refine hw_reg ?_
    refine dp rfl (pop_move rfl) ?_
    refine dp rfl (pop_build (cs := [_, _]) ty87 pl87 rfl) ?_
    refine de rfl (eop_alloc ty87 rfl fun b8 => ?_)
    refine de0 (eop_store (i := 0) ty87 rfl rfl rfl rfl rfl (Nat.le_of_ble_eq_true rfl) ?_)
    refine dn ?_
    refine hw_ghost (Ghost.arr_nil 1) ?_
    refine hw_seq ?_
    refine hw_reg ?_
    refine dp rfl (pop_move rfl) ?_
    refine dp rfl ((pop_fieldAddr ty64 rfl ty28 (by decide) rfl)) ?_
    refine dp rfl (pop_load ty28 rfl rfl rfl) ?_
    refine dp rfl (pop_lenm ty28 rfl) ?_
    refine de rfl (eop_callx (i := 2) ca85 rfl (WeakL.refl _) rfl (c_benchmake_Stream_Order (a := a2 + 1) (n := r.Players.length) (by omega) (by omega) (by omega)) ?_)
    rintro _ _ ⟨L27, a27, rfl, hL27, ha27, rfl⟩
    refine dp rfl (pop_lenm ty22 rfl) ?_
    refine dp rfl (pop_move rfl) ?_
    refine dn ?_
    obtain ⟨hLn, hLb⟩ := hL27
    refine hw_block ?_
    refine hw_loopw2 [10, 29, 30, 31, 32, 33, 34, 35, 36, 37, 38, 39, 40, 41, 42, 43, 44, 45, 46] (fun (j : Nat) (p : GL Str) => [(29, .int .i64 j)]) (fun (j : Nat) (p : GL Str) => [St b l p.a, .arr u 2 (out.map eWish), .cells b8 [.str x, .raw p.u], .arr p.u 1 (p.out.map .str)]) (fun (j : Nat) (p : GL Str) => j ≤ L27.length ∧ (p.out.length ≤ j ∧ p.a ≤ a27 + j)) (fun (j : Nat) (p : GL Str) => L27.length - j) (0) (⟨.slice none 0 0, [], a27⟩) ?_ ?_ ?_ ?_
    ·exact ⟨Nat.zero_le _, by simp, by dsimp only; omega⟩
    ·exact ⟨rfl, trivial⟩
    ·repeat (first | exact List.Perm.nil | refine permTo 0 rfl ?_ | refine permTo 1 rfl ?_ | refine permTo 2 rfl ?_ | refine permTo 3 rfl ?_ | (refine permToE 0 rfl ?hq ?_; (case hq => simp [setL, hcells]; done)) | (refine permToE 1 rfl ?hq ?_; (case hq => simp [setL, hcells]; done)) | (refine permToE 2 rfl ?hq ?_; (case hq => simp [setL, hcells]; done)) | (refine permToE 3 rfl ?hq ?_; (case hq => simp [setL, hcells]; done)) | fail)
    ·intro j p hinv
     obtain ⟨hj, hp⟩ := hinv
     obtain ⟨v, ps, a5⟩ := p
     dsimp only at hp
     obtain ⟨hp2, hp3⟩ := hp
     refine hw_reg ?_
     refine dp rfl (pop_lss rfl rfl) ?_
     refine dn ?_
     refine hw_seq ?_
     refine hw_cond rfl (fun h5 => ?_) (fun h6 => ?_)
     ·try simp at h5
      obtain ⟨y, hy⟩ : ∃ y, L27[j]? = some y := ⟨_, List.getElem?_eq_getElem h5⟩
      have hdy := drop_cons hy
      refine hw_skip ?_
      refine seqQ_n ?_
      refine hw_seq ?_
      refine hw_block ?_
      refine hw_reg ?_
      refine dp rfl (pop_idx ty22 ty3 rfl rfl rfl (by assumption)) ?_
      refine dp rfl (pop_load ty3 rfl rfl rfl) ?_
      refine dp rfl (pop_assign rfl) ?_
      refine dn ?_
      refine hw_reg ?_
      refine dp rfl (pop_move rfl) ?_
      refine de rfl (eop_callx (i := 0) ca84 rfl (WeakL.refl _) rfl (c_benchmake_Stream_Flip (by simp; omega) (by omega)) ?_)
      rintro _ _ ⟨y34, rfl, rfl⟩
      refine dp rfl (pop_not rfl) ?_
      refine dn ?_
      refine hw_cond rfl (fun h7 => ?_) (fun h8 => ?_)
      ·try simp at h7
       refine hw_draw1 (fun _ => True) [] mixed ?_
       refine ahp 0 rfl rfl (by kernel_rfl) (by kernel_rfl) (pop_fieldAddr_raw ty87 rfl ty28 (by decide) rfl) ?_
       refine ahp 2 rfl rfl (by kernel_rfl) (by kernel_rfl) ((pop_fieldAddr ty64 rfl ty28 (by decide) rfl)) ?_
       refine ahp 3 rfl rfl (by kernel_rfl) (by kernel_rfl) (pop_load ty28 rfl rfl rfl) ?_
       refine ahp 4 rfl rfl (by kernel_rfl) (by kernel_rfl) (pop_move rfl) ?_
       refine ahp 5 rfl rfl (by kernel_rfl) (by kernel_rfl) (pop_idx (j := y.toNat) (a := r.Players.getD y.toNat []) ty28 ty9 rfl rfl (by have := hLb y (List.mem_of_getElem? hy); omega) (getD_some (by have := hLb y (List.mem_of_getElem? hy); omega))) ?_
       refine ahp 6 rfl rfl (by kernel_rfl) (by kernel_rfl) (pop_load ty9 rfl rfl rfl) ?_
       refine ahp 7 rfl rfl (by kernel_rfl) (by kernel_rfl) (pop_buildSlice (hs := [_]) ty28 ty9 rfl rfl (by decide) (by decide) rfl) ?_
       refine ahe 1 rfl (by kernel_rfl) ?_
       refine hop_e rfl (eop_load (i := 2) ty28 rfl rfl (.inl ⟨rfl, rfl⟩) ?_)
       refine ⟨fun _ => .inl trivial, ?_⟩
       refine ahe 8 rfl (by kernel_rfl) ?_
       refine hop_e rfl (eop_append (i := 3) ty28 ty9 rfl rfl rfl rfl rfl (by simp [flat, hcells]) (by simp; omega) fun v44 => ?_)
       refine ⟨fun _ => .inl trivial, ?_⟩
       refine ahp 9 rfl rfl (by kernel_rfl) (by kernel_rfl) (pop_fieldAddr_raw ty87 rfl ty28 (by decide) rfl) ?_
       refine ahe 10 rfl (by kernel_rfl) ?_
       refine hop_e0 (eop_store (i := 2) ty28 rfl rfl rfl rfl rfl (Nat.le_of_ble_eq_true rfl) ?_)
       refine ⟨fun _ => .inl trivial, ?_⟩
       refine ahz (by kernel_rfl) ?_
       refine blockQ_n ?_
       refine seqQ_n ?_
       refine hw_reg1 ?_
       refine dp rfl (pop_add64 rfl rfl (by omega) (by omega)) ?_
       refine dp rfl (pop_move rfl) ?_
       refine dn ?_
       exact ⟨j + 1, ⟨v44, ps ++ [r.Players.getD y.toNat []], a5 + 1⟩, ⟨by omega, by simp; omega, by dsimp only; omega⟩, by dsimp only; omega, ⟨rfl, trivial⟩, (by repeat (first | exact keeps_refl | refine keeps_upd rfl ?_ | refine keeps_loop rfl rfl ?_)), by repeat (first | exact List.Perm.nil | refine permTo 0 rfl ?_ | refine permTo 1 rfl ?_ | refine permTo 2 rfl ?_ | refine permTo 3 rfl ?_ | (refine permToE 0 rfl ?hq ?_; (case hq => simp [setL, hcells]; done)) | (refine permToE 1 rfl ?hq ?_; (case hq => simp [setL, hcells]; done)) | (refine permToE 2 rfl ?hq ?_; (case hq => simp [setL, hcells]; done)) | (refine permToE 3 rfl ?hq ?_; (case hq => simp [setL, hcells]; done)) | fail)⟩
      ·try simp at h8
       refine hw_skip ?_
       refine blockQ_n ?_
       refine seqQ_n ?_
       refine hw_reg1 ?_
       refine dp rfl (pop_add64 rfl rfl (by omega) (by omega)) ?_
       refine dp rfl (pop_move rfl) ?_
       refine dn ?_
       exact ⟨j + 1, ⟨v, ps, a5 + 1⟩, ⟨by omega, by dsimp only; omega, by dsimp only; omega⟩, by dsimp only; omega, ⟨rfl, trivial⟩, (by repeat (first | exact keeps_refl | refine keeps_upd rfl ?_ | refine keeps_loop rfl rfl ?_)), by repeat (first | exact List.Perm.nil | refine permTo 0 rfl ?_ | refine permTo 1 rfl ?_ | refine permTo 2 rfl ?_ | refine permTo 3 rfl ?_ | (refine permToE 0 rfl ?hq ?_; (case hq => simp [setL, hcells]; done)) | (refine permToE 1 rfl ?hq ?_; (case hq => simp [setL, hcells]; done)) | (refine permToE 2 rfl ?hq ?_; (case hq => simp [setL, hcells]; done)) | (refine permToE 3 rfl ?hq ?_; (case hq => simp [setL, hcells]; done)) | fail)⟩
     ·try simp at h6
      have hnj : L27.length ≤ j := by omega
      obtain rfl : j = L27.length := by omega
      refine hw_exit ?_
      refine seqQ_x ?_
      refine loopQ2_x ?_
      refine blockQ_eq ?_
      refine seqQ_n ?_
      refine hw_ghost (Ghost.fcell (i := 3) (k := 2) (j := 1) rfl rfl rfl) ?_
      refine hw_ghost (Ghost.of_eq (M' := [St b l a5, .arr u 2 (out.map eWish), .cells b8 (hcells (eWish ⟨x, ps⟩))]) rfl) ?_
      refine hw_ghost (Ghost.fc 8 (i := 2) rfl rfl) ?_
      refine hw_reg1 ?_
      refine dp rfl (pop_move rfl) ?_
      refine dp rfl (pop_loadw ty87 rfl rfl rfl rfl) ?_
      refine dp rfl (pop_buildSlice (hs := [_]) ty70 ty87 rfl rfl (by decide) (by decide) rfl) ?_
      refine de rfl (eop_append (i := 1) ty70 ty87 rfl rfl rfl rfl rfl (by simp [flat, hcells]) (by simp; omega) fun v50 => ?_)
      refine dp rfl (pop_assign rfl) ?_
      refine dn ?_
      refine blockQ_n ?_
      refine seqQ_n ?_
      refine hw_reg1 ?_
      refine dp rfl (pop_add64 rfl rfl (by omega) (by omega)) ?_
      refine dp rfl (pop_move rfl) ?_
      refine dn ?_
      exact ⟨k + 1, ⟨v50, out ++ [⟨x, ps⟩], a5⟩, ⟨by omega, hq.add (x := (⟨x, ps⟩ : Wish)) (by dsimp only [GoodW]; omega) (by omega)⟩, by dsimp only; omega, ⟨rfl, rfl, trivial⟩, (by repeat (first | exact keeps_refl | refine keeps_upd rfl ?_ | refine keeps_loop rfl rfl ?_)), by repeat (first | exact List.Perm.nil | refine permTo 0 rfl ?_ | refine permTo 1 rfl ?_ | refine permTo 2 rfl ?_ | refine permTo 3 rfl ?_ | (refine permToE 0 rfl ?hq ?_; (case hq => simp [setL, hcells]; done)) | (refine permToE 1 rfl ?hq ?_; (case hq => simp [setL, hcells]; done)) | (refine permToE 2 rfl ?hq ?_; (case hq => simp [setL, hcells]; done)) | (refine permToE 3 rfl ?hq ?_; (case hq => simp [setL, hcells]; done)) | fail)⟩
  ·try simp at h2
   have hnk : r.Teams.length ≤ k := by omega
   obtain rfl : k = r.Teams.length := by omega
   refine hw_exit ?_
   refine seqQ_x ?_
   refine loopQ2_x ?_
   refine blockQ_eq ?_
   refine seqQ_n ?_
   refine hw_join [11, 52, 53, 54, 55, 56, 57, 58, 59, 60, 61, 62, 63, 64, 65, 66, 67, 68, 69, 70, 71, 72, 73, 74, 75, 76, 77, 78, 79, 80, 81, 82, 83, 84, 85, 86, 87, 88, 89, 90, 91] (fun (q : List Wish × Nat) => []) (fun (q : List Wish × Nat) => [St b l q.2, .arr u 2 (q.1.map eWish)]) (fun (q : List Wish × Nat) => q.1.length ≤ 4 ∧ (∀ x ∈ q.1, x.Players.length ≤ 100) ∧ q.2 ≤ a + 250) ?_ ?_
   ·skip
    refine hw_reg ?_
    refine dp rfl (pop_move rfl) ?_
    refine de rfl (eop_lenm (i := 1) ty70 rfl rfl ?_)
    refine dp rfl (pop_gtr rfl rfl) ?_
    refine dp rfl (pop_move rfl) ?_
    refine dg rfl rfl (fun hc => ⟨_, OpenTo.refl _, pop_move rfl⟩) ?_
    refine dgx (fun x M' => ∃ (y : Bool) (a3 : Nat), x = .bool y ∧ a3 ≤ a2 + 1 ∧ M' = [St b l a3, .arr u 2 (out.map eWish)]) rfl rfl (fun hc => ⟨_, false, a2, rfl, by omega, rfl⟩) (fun hc => ⟨_, OpenTo.upd (t := 56) rfl (hc) (OpenTo.refl _), eop_callx (i := 0) ca84 rfl (WeakL.refl _) rfl (c_benchmake_Stream_Flip (a := a2) (by omega) (by omega)) (fun h M' hh => by
     obtain ⟨y, h1, h2⟩ := hh
     exact ⟨y, a2 + 1, h1, by omega, by rw [h2]; rfl⟩)⟩) ?_
    rintro _ _ ⟨y, a3, rfl, ha3, rfl⟩
    refine dp rfl (pop_picko rfl (.inr ⟨_, rfl, fun h => by simp_all⟩) (.inl rfl)) ?_
    refine dn ?_
    refine hw_cond rfl (fun h9 => ?_) (fun h10 => ?_)
    ·try simp at h9
     have ho0 : 0 < out.length := by simp_all
     refine hw_arrc (i := 1) rfl (fun h0 he => ?_) (fun ob off cap hv hcap => ?_)
     ·exfalso; have := congrArg List.length he; simp at this; subst this; simp at ho0
     subst hv
     refine hw_reg ?_
     refine dp rfl (pop_move rfl) ?_
     refine dp rfl (pop_move rfl) ?_
     refine dp rfl (pop_move rfl) ?_
     refine de rfl (eop_lenm (i := 1) ty70 rfl rfl ?_)
     refine de rfl (eop_callx (i := 0) ca83 rfl (WeakL.refl _) rfl (c_benchmake_Stream_Next (by omega) (by omega)) ?_)
     rintro _ _ ⟨y63, rfl, hy63, rfl⟩
     refine dp rfl (pop_idxraw (j := y63) ty70 ty87 rfl rfl rfl (by simp; omega)) ?_
     refine dp rfl (pop_assign rfl) ?_
     refine dn ?_
     obtain ⟨x, hx⟩ : ∃ x, out[y63]? = some x := ⟨_, List.getElem?_eq_getElem (by omega)⟩
     obtain ⟨x0, hx0⟩ : ∃ x, out[0]? = some x := ⟨_, List.getElem?_eq_getElem (by omega)⟩
     have hgx := g2 x (List.mem_of_getElem? hx)
     dsimp only [GoodW] at hgx
     refine hw_draw1 (fun M => ∃ i : Nat, M[i]? = some (.arr (.slice (some ⟨ob, off, none⟩) (out.map eWish).length cap) 2 (out.map eWish))) [6, 10, 16] mixed ?_
     refine ahp 0 rfl rfl (by kernel_rfl) (by kernel_rfl) (pop_move rfl) ?_
     refine ahp 1 rfl rfl (by kernel_rfl) (by kernel_rfl) (pop_move rfl) ?_
     refine ahp 2 rfl rfl (by kernel_rfl) (by kernel_rfl) (pop_move rfl) ?_
     refine ahp 3 rfl rfl (by kernel_rfl) (by kernel_rfl) (pop_move rfl) ?_
     refine ahp 4 rfl rfl (by kernel_rfl) (by kernel_rfl) ((pop_nilCheck_raw rfl)) ?_
     refine ahp 5 rfl rfl (by kernel_rfl) (by kernel_rfl) ((pop_fieldAddr_raw ty87 rfl ty9 (by decide) rfl)) ?_
     refine ahl 6 rfl rfl (by kernel_rfl) (by kernel_rfl) (by simp) ⟨1, rfl⟩ (fun M hM => by obtain ⟨i, hi⟩ := hM; exact eop_load_el (i := i) (j := y63) 0 ty9 rfl (by omega) hi hx rfl rfl ⟨rfl, rfl⟩) ?_
     refine ahp 7 rfl rfl (by kernel_rfl) (by kernel_rfl) (pop_move rfl) ?_
     refine ahp 8 rfl rfl (by kernel_rfl) (by kernel_rfl) (pop_idxraw (j := 0) ty70 ty87 rfl rfl rfl (by simp; omega)) ?_
     refine ahp 9 rfl rfl (by kernel_rfl) (by kernel_rfl) ((pop_fieldAddr_raw ty87 rfl ty9 (by decide) rfl)) ?_
     refine ahl 10 rfl rfl (by kernel_rfl) (by kernel_rfl) (by simp) ⟨1, rfl⟩ (fun M hM => by obtain ⟨i, hi⟩ := hM; exact eop_load_el (i := i) (j := 0) 0 ty9 rfl (by omega) hi hx0 rfl rfl ⟨rfl, rfl⟩) ?_
     refine ahp 11 rfl rfl (by kernel_rfl) (by kernel_rfl) (pop_buildSlice (hs := [_, _, _]) ty28 ty9 rfl rfl (by decide) (by decide) rfl) ?_
     refine ahp 13 rfl rfl (by kernel_rfl) (by kernel_rfl) (pop_move rfl) ?_
     refine ahp 14 rfl rfl (by kernel_rfl) (by kernel_rfl) ((pop_nilCheck_raw rfl)) ?_
     refine ahp 15 rfl rfl (by kernel_rfl) (by kernel_rfl) ((pop_fieldAddr_raw ty87 rfl ty28 (by decide) rfl)) ?_
     refine ahl 16 rfl rfl (by kernel_rfl) (by kernel_rfl) (by simp) ⟨1, rfl⟩ (fun M hM => by obtain ⟨i, hi⟩ := hM; exact eop_load_el (i := i) (j := y63) 1 ty28 rfl (by omega) hi hx rfl rfl ⟨rfl, rfl⟩) ?_
     refine ahp 18 rfl rfl (by kernel_rfl) (by kernel_rfl) (pop_move rfl) ?_
     refine ahp 19 rfl rfl (by kernel_rfl) (by kernel_rfl) (pop_buildSlice (hs := [_, _]) ty28 ty9 rfl rfl (by decide) (by decide) rfl) ?_
     refine ahe 12 rfl (by kernel_rfl) ?_
     refine hop_e rfl (eop_callx (i := 0) ca13 rfl (WeakL.refl _) rfl (c_benchmake_Stream_Some (L := [_, _, _]) (by omega) (by simp_all) (by simp_all)) ?_)
     rintro _ _ ⟨y77, rfl, hy77, rfl⟩
     refine ⟨fun _ => by first | exact .inl ⟨0, rfl⟩ | exact .inl ⟨1, rfl⟩ | exact .inl ⟨2, rfl⟩ | exact .inr (by simp [Before, Region.binds]), ?_⟩
     refine ahe 17 rfl (by kernel_rfl) ?_
     refine hop_e rfl (eop_calla ca48 rfl (WeakL.refl _) (c_slices_Clone_string_string (by omega)) fun v82 => ?_)
     refine ⟨fun _ => by first | exact .inl ⟨0, rfl⟩ | exact .inl ⟨1, rfl⟩ | exact .inl ⟨2, rfl⟩ | exact .inr (by simp [Before, Region.binds]), ?_⟩
     refine ahe 20 rfl (by kernel_rfl) ?_
     refine hop_e rfl (eop_callx (i := 1) ca13 rfl (WeakL.refl _) rfl (c_benchmake_Stream_Some (L := [_, _]) (by omega) (by simp_all) (by simp_all)) ?_)
     rintro _ _ ⟨y85, rfl, hy85, rfl⟩
     refine ⟨fun _ => by first | exact .inl ⟨0, rfl⟩ | exact .inl ⟨1, rfl⟩ | exact .inl ⟨2, rfl⟩ | exact .inr (by simp [Before, Region.binds]), ?_⟩
     refine ahp 21 rfl rfl (by kernel_rfl) (by kernel_rfl) (pop_buildSlice (hs := [_]) ty28 ty9 rfl rfl (by decide) (by decide) rfl) ?_
     refine ahe 22 rfl (by kernel_rfl) ?_
     refine hop_e rfl (EOp.fzi (N := [St b l (a3 + 1 + 1 + 1), .arr (.slice (some ⟨ob, off, none⟩) (out.map eWish).length cap) 2 (out.map eWish)]) (sz := 1) (es := (x.Players ++ [y85]).map .str) 1 (eop_append (i := 1) ty28 ty9 rfl rfl rfl rfl rfl (by simp [flat, hcells]) (by simp; omega) fun v => ⟨v, rfl, by simp, rfl⟩) ?_)
     refine ⟨fun _ => .inl ⟨1, rfl⟩, ?_⟩
     refine ahp 23 rfl rfl (by kernel_rfl) (by kernel_rfl) ((pop_nilCheck_raw rfl)) ?_
     refine ahp 24 rfl rfl (by kernel_rfl) (by kernel_rfl) ((pop_fieldAddr_raw ty87 rfl ty9 (by decide) rfl)) ?_
     refine ahe 25 rfl (by kernel_rfl) ?_
     refine hop_e0 (eop_store_arr (i := 1) (j := y63) (f := 0) (y := eWish x) (y' := eWish ⟨y77, x.Players⟩) ty9 rfl (by omega) rfl rfl (map_get hx) rfl rfl (by simp [hcells]) rfl ?_)
     refine ⟨fun _ => .inr (by simp [Before, Region.binds]), ?_⟩
     refine ahp 26 rfl rfl (by kernel_rfl) (by kernel_rfl) ((pop_nilCheck_raw rfl)) ?_
     refine ahp 27 rfl rfl (by kernel_rfl) (by kernel_rfl) ((pop_fieldAddr_raw ty87 rfl ty28 (by decide) rfl)) ?_
     refine ahe 28 rfl (by kernel_rfl) ?_
     refine hop_e0 (eop_store_arr (i := 1) (j := y63) (f := 1) (y := eWish ⟨y77, x.Players⟩) (y' := eWish ⟨y77, x.Players ++ [y85]⟩) ty28 rfl (by omega) rfl rfl (set_self (map_get hx)) rfl rfl (by simp [hcells]) rfl ?_)
     refine ⟨fun _ => .inr (by simp [Before, Region.binds]), ?_⟩
     refine ahz (by kernel_rfl) ?_
     exact ⟨(out.set y63 ⟨y77, x.Players ++ [y85]⟩, a3 + 3), ⟨by simp; omega, all_set (P := fun x : Wish => x.Players.length ≤ 100) (fun x hx => by have := g2 x hx; dsimp only [GoodW] at this; omega) (by simp; omega), by dsimp only; omega⟩, trivial, (by repeat (first | exact keeps_refl | refine keeps_upd rfl ?_ | refine keeps_loop rfl rfl ?_)), by repeat (first | exact List.Perm.nil | refine permTo 0 rfl ?_ | refine permTo 1 rfl ?_ | refine permTo 2 rfl ?_ | refine permTo 3 rfl ?_ | (refine permToE 0 rfl ?hq ?_; (case hq => simp [setL, hcells]; done)) | (refine permToE 1 rfl ?hq ?_; (case hq => simp [setL, hcells]; done)) | (refine permToE 2 rfl ?hq ?_; (case hq => simp [setL, hcells]; done)) | (refine permToE 3 rfl ?hq ?_; (case hq => simp [setL, hcells]; done)) | fail)⟩
    ·try simp at h10
     refine hw_skip ?_
     exact ⟨(out, a3), ⟨by dsimp only; omega, fun x hx => by have := g2 x hx; dsimp only [GoodW] at this; omega, by dsimp only; omega⟩, trivial, (by repeat (first | exact keeps_refl | refine keeps_upd rfl ?_ | refine keeps_loop rfl rfl ?_)), by repeat (first | exact List.Perm.nil | refine permTo 0 rfl ?_ | refine permTo 1 rfl ?_ | refine permTo 2 rfl ?_ | refine permTo 3 rfl ?_ | (refine permToE 0 rfl ?hq ?_; (case hq => simp [setL, hcells]; done)) | (refine permToE 1 rfl ?hq ?_; (case hq => simp [setL, hcells]; done)) | (refine permToE 2 rfl ?hq ?_; (case hq => simp [setL, hcells]; done)) | (refine permToE 3 rfl ?hq ?_; (case hq => simp [setL, hcells]; done)) | fail)⟩
   ·intro q hq3
    obtain ⟨k1, a4⟩ := q
    dsimp only at hq3
    obtain ⟨q1, q2, q3⟩ := hq3
    refine hw_reg ?_
    refine dp rfl (pop_move rfl) ?_
    refine dp rfl (pop_assign rfl) ?_
    refine dn ?_
    refine hw_ret ?_
    refine ret_g (Ghost.fa 4 (i := 1) rfl rfl) rfl ⟨k1, a4, rfl, ⟨by omega, q2⟩, by omega, rfl⟩
end Go.Proofs.YtcnfhcicepmjcaaGreatDoor
end
section
namespace Go.HL
section
variable {r : Room} {k : List Keep} {s : List Swap} {l : List Pick} {w : List Wish} {n : Int}
def fiL (r : Room) (k : List Keep) (s : List Swap) (l : List Pick) (w : List Wish) : List Pick := if wishedE r k s l w != 0 then [] else finL r k s w l
theorem wishesE_z (e : checkRoom r = 0) : wishesR r w = wishesE r w := by simp [wishesE, e]
end
end Go.HL
end
section
namespace Go.HL
def ptrB : Value → Nat
 | .pointer (some a) => a.block
 | _ => 0
section
variable {r : Room} {k : List Keep} {s : List Swap} {l : List Pick}
def nxA (r : Room) (k : List Keep) (s : List Swap) (l : List Pick) : Pick := if picksE r k s l != 0 then pick0 else nextP r k s l
def nxB (r : Room) (k : List Keep) (s : List Swap) (l : List Pick) : Bool := if picksE r k s l != 0 then false else decide (l.length < (freeP r k s).length)
def leA (r : Room) (k : List Keep) (s : List Swap) (l : List Pick) : List Str := if picksE r k s l != 0 then [] else leftL r k l
def putNo (A : List Pick) (p : Pick) : List Pick := A.set p.No.toNat p
def allP (A l : List Pick) : List Pick := l.foldl putNo A
def teamsA (r : Room) (A : List Pick) : List Wish := r.Teams.map fun t => ⟨t, (A.filter fun p => p.Team == t && !(p.Player == [])).map (·.Player)⟩
def teamsB (r : Room) (A : List Pick) : List Wish := r.Teams.map fun t => ⟨t, (A.filter fun p => p.Team == t).map (·.Player)⟩
def teA (r : Room) (k : List Keep) (s : List Swap) (l : List Pick) : List Wish := if picksE r k s l != 0 then [] else teamsA r (allP (open1 r k s) l)
theorem nx_none (h : ¬ picksE r k s l = 0 ∨ (freeP r k s).length ≤ l.length) : nxA r k s l = pick0 ∧ nxB r k s l = false := by
 unfold nxA nxB nextP
 by_cases e : picksE r k s l = 0
 ·have h1 : ¬ l.length < (freeP r k s).length := by rcases h with h | h; (exact absurd e h); omega
  simp [e, h1]
 ·simp [e]
theorem nx_some (h : picksE r k s l = 0) (h2 : l.length < (freeP r k s).length) : nxA r k s l = (freeP r k s).getD l.length pick0 ∧ nxB r k s l = true := by
 unfold nxA nxB nextP; simp [h, h2]
theorem le_ref (h : picksE r k s l = 0) : leA r k s l = leftL r k l := by simp [leA, h]
theorem left_run {S : List Str} (ok : RunOk r k s l S) : (r.Players.filter fun p => !(S.contains p)) = leftL r k l := by
 unfold leftL
 exact List.filter_congr fun x hx => by rw [ok.gone x hx]
/-! all turns, and who was picked in them -/
def NoInc (A : List Pick) : Prop := ∀ (i : Nat) (p : Pick), A[i]? = some p → p.No = (i : Int)
theorem openFrom_no : ∀ (t : List Turn) (i j : Nat) (p : Pick), (openFrom r k i t)[j]? = some p → p.No = ((i + j : Nat) : Int)
 | [], i, j, p, h => by simp [openFrom] at h
 | x :: t, i, 0, p, h => by
   simp only [openFrom, List.getElem?_cons_zero, Option.some.injEq] at h
   subst h; rw [(keepIn_fix r x k _).1]; rfl
 | x :: t, i, j + 1, p, h => by
   simp only [openFrom, List.getElem?_cons_succ] at h
   rw [openFrom_no t (i + 1) j p h]; congr 1; omega
theorem open_no : NoInc (open1 r k s) := fun i p h => by
 have := openFrom_no _ 0 i p h
 rw [this]; congr 1; omega
theorem NoInc.pw {A : List Pick} (h : NoInc A) : A.Pairwise fun a b => a.No < b.No :=
 List.pairwise_iff_getElem.2 fun i j hi hj hij => by
  rw [h i _ (List.getElem?_eq_getElem hi), h j _ (List.getElem?_eq_getElem hj)]; omega
theorem NoInc.put {A : List Pick} (h : NoInc A) {p : Pick} (hp : 0 ≤ p.No) : NoInc (putNo A p) := fun i x hx => by
 unfold putNo at hx
 by_cases e : p.No.toNat = i
 ·subst e
  have hlt := lt_of_get hx
  rw [List.length_set] at hlt
  rw [List.getElem?_set_self hlt] at hx; cases hx; omega
 ·rw [List.getElem?_set_ne e] at hx; exact h i x hx
theorem filter_set {α : Type} (q : α → Bool) {x y : α} (hx : q x = true) (hy : q y = false) : ∀ {A : List α} {j : Nat}, A[j]? = some y → ((A.set j x).filter q).Perm (A.filter q ++ [x])
 | [], j, h => by simp at h
 | a :: A, 0, h => by
   simp at h; subst h
   simp only [List.set_cons_zero, List.filter_cons, hx, hy, if_true, Bool.false_eq_true, if_false]
   exact (List.perm_append_comm (l₁ := [x]))
 | a :: A, j + 1, h => by
   simp only [List.getElem?_cons_succ] at h
   have := filter_set q hx hy h
   simp only [List.set_cons_succ, List.filter_cons]
   split
   ·exact this.cons a
   ·exact this
def isP (p : Pick) : Bool := !(p.Player == [])
structure AllOk (r : Room) (k : List Keep) (s : List Swap) (l : List Pick) (i : Nat) (A : List Pick) : Prop where
 inc : NoInc A
 len : A.length = (open1 r k s).length
 free : ∀ (j : Nat) (p : Pick), i ≤ j → (freeP r k s)[j]? = some p → A[p.No.toNat]? = some p
 perm : (A.filter isP).Perm ((open1 r k s).filter isP ++ l.take i)
theorem free_mem {j : Nat} {p : Pick} (h : (freeP r k s)[j]? = some p) : p ∈ open1 r k s ∧ p.Player = [] := by
 have := List.mem_filter.1 (List.mem_of_getElem? h)
 exact ⟨this.1, by simpa using this.2⟩
theorem free_at {j : Nat} {p : Pick} (h : (freeP r k s)[j]? = some p) : 0 ≤ p.No ∧ (open1 r k s)[p.No.toNat]? = some p := by
 obtain ⟨m, hm⟩ := List.getElem?_of_mem (free_mem h).1
 have := open_no m p hm
 exact ⟨by omega, by rw [this]; simpa using hm⟩
theorem all_start : AllOk r k s l 0 (open1 r k s) := ⟨open_no, rfl, fun j p _ h => (free_at h).2, by simp⟩
theorem pick_at (h : picksE r k s l = 0) {i : Nat} {x : Pick} (hx : l[i]? = some x) : ∃ p, (freeP r k s)[i]? = some p ∧ x.No = p.No ∧ x.Player ≠ [] := by
 obtain ⟨h1, h2, h3⟩ := picksE_ok h
 have hi := lt_of_get hx
 obtain ⟨_, a2, _, a4, _⟩ := pkF_ok (pksGo_at l 0 rfl h3 i x (Nat.zero_le _) hx)
 have hg := getD_some (d := pick0) (show i < (freeP r k s).length by omega)
 refine ⟨_, hg, ?_, (room_ok (openFault_ok h1).1).ne _ a4⟩
 rw [a2]; congr 2; simp; omega
theorem AllOk.step (h : picksE r k s l = 0) {i : Nat} {x : Pick} (hx : l[i]? = some x) {A : List Pick} (ok : AllOk r k s l i A) : AllOk r k s l (i + 1) (putNo A x) ∧ 0 ≤ x.No ∧ x.No.toNat < A.length ∧ ∃ y, A[x.No.toNat]? = some y := by
 obtain ⟨p, hp, hn, hpl⟩ := pick_at h hx
 obtain ⟨n0, _⟩ := free_at hp
 have hA := ok.free i p (Nat.le_refl _) hp
 have hlt := lt_of_get hA
 refine ⟨⟨ok.inc.put (by omega), by unfold putNo; rw [List.length_set]; exact ok.len, fun j q hj hq => ?_, ?_⟩, by omega, by rw [hn]; exact hlt, p, by rw [hn]; exact hA⟩
 ·have hq1 := ok.free j q (by omega) hq
  have hne : p.No < q.No := by
   have hpw : (freeP r k s).Pairwise fun a b => a.No < b.No := (open_no (r := r) (k := k) (s := s)).pw.sublist List.filter_sublist
   obtain ⟨hi', e1⟩ := List.getElem?_eq_some_iff.1 hp
   obtain ⟨hj', e2⟩ := List.getElem?_eq_some_iff.1 hq
   have := List.pairwise_iff_getElem.1 hpw i j hi' hj' (by omega)
   rw [e1, e2] at this; exact this
  unfold putNo
  rw [List.getElem?_set_ne (by omega)]; exact hq1
 ·have hf := filter_set isP (x := x) (y := p) (by unfold isP; simpa using hpl) (by unfold isP; simp [(free_mem hp).2]) hA
  unfold putNo
  rw [hn, take_snoc' hx, ← List.append_assoc]
  exact hf.trans (ok.perm.append_right _)
theorem allP_snoc {A : List Pick} {i : Nat} {x : Pick} (hx : l[i]? = some x) : allP A (l.take (i + 1)) = putNo (allP A (l.take i)) x := by
 unfold allP; rw [take_snoc' hx, List.foldl_append]; rfl
theorem all_ok (h : picksE r k s l = 0) : ∀ i, i ≤ l.length → AllOk r k s l i (allP (open1 r k s) (l.take i))
 | 0, _ => by simpa [allP] using all_start
 | i + 1, hi => by
   have hx := List.getElem?_eq_getElem (l := l) (i := i) (by omega)
   rw [allP_snoc hx]
   exact ((all_ok h i (by omega)).step h hx).1
end
end Go.HL
end
section
namespace Go.HL
section
variable {P : Program} {e : Env} {dst : Option Tmp} {ty : TypeId} {pos : String} {af : Array Edge} {g : Option (Nat × Bool)} {M : List MObj} {K : HVal → List MObj → Prop}
end
/-- The variable whose address is in a cell of an owned variable. -/
theorem Ghost.fpcell [Tracks] {e : Env} {M : List MObj} {i k b b' off j : Nat} {cs cs' : List HVal} (hm : M[i]? = some (.cells b' cs')) (hc : (M.eraseIdx i)[k]? = some (.cells b cs)) (hj : cs[j]? = some (.raw (.pointer (some ⟨b', off, none⟩)))) :
 Ghost e M e ((M.eraseIdx i).set k (.cells b (cs.set j (.vptr cs' off)))) := fun _ I F tmps w h1 hs => by
 obtain ⟨J, hl, hs', hv⟩ := (hs.pull hm).freeze_cells
 refine ⟨J, hl, h1.mono hl, Sat.unpull hc ((hs'.pull hc).change (m' := .cells b (cs.set j (.vptr cs' off))) (fun _ _ _ => rfl) (fun x hx => .inl hx) (by simp [MObj.blocks]) ?_ rfl rfl rfl)⟩
 obtain ⟨rc, el, fr, a1, a2, a3⟩ := (hs'.pull hc).obj _ List.mem_cons_self
 refine ⟨rc, el, fr, a1, a2, by rw [a3.1]; simp, fun n c u b1 b2 => ?_⟩
 by_cases hn : n = j
 ·subst hn
  have hlt := lt_of_get hj
  simp [hlt] at b1
  subst b1
  have := a3.2 n _ u hj b2
  rw [this.raw_inv]; exact hv off
 ·rw [List.getElem?_set_ne (Ne.symm hn)] at b1
  exact a3.2 n c u b1 b2
end Go.HL
end
section
namespace Go.Proofs.YtcnfhcicepmjcaaGreatDoor
open Go.HL
set_option maxRecDepth 100000
set_option linter.unusedVariables false
set_option linter.unusedSimpArgs false
/-- benchwarmer/draft.CheckPicks -/
theorem c_draft_CheckPicks [Tracks] {r : Room} {k : List Keep} {s : List Swap} {l : List Pick}  (ht : r.Teams.length ≤ 1000000) (hp : r.Players.length ≤ 1000000) (hk0 : k.length ≤ 1000000) (hl : s.length ≤ 1000000) (hll : l.length ≤ 1000) : ConP Tryz.prog 41 [eRoom r, eKeeps k, eSwaps s, ePicks l] (.int .i64 (picksE r k s l)) := by
 refine Con.of_body Tryz.func41 rfl Tryz.ntmps41 rfl rfl ?_
 refine hw_reg ?_
 refine dp rfl (pop_box rfl rfl) ?_
 refine dp rfl (pop_assign rfl) ?_
 refine dn ?_
 refine hw_reg ?_
 refine dp rfl (pop_move rfl) ?_
 refine dp rfl (pop_move rfl) ?_
 refine dp rfl (pop_move rfl) ?_
 refine de rfl (eop_callf (M1 := []) (R := []) ca129 rfl (WeakL.refl _) (List.Perm.refl _) (c_draft_follow ht hp hk0 hl hll) ?_)
 rintro _ M15 ⟨v15, rfl, hv15⟩
 refine dp rfl (pop_move rfl) ?_
 refine dp rfl (pop_extract rfl rfl) ?_
 refine dp rfl (pop_extract rfl rfl) ?_
 refine dp rfl (pop_assign rfl) ?_
 refine dp rfl (pop_assign rfl) ?_
 refine dn ?_
 refine hw_reg ?_
 refine dp rfl (pop_move rfl) ?_
 refine dp rfl (pop_assign rfl) ?_
 refine dn ?_
 refine hw_ret ?_
 exact ret_g Ghost.clear rfl ⟨rfl, rfl⟩

/-- benchwarmer/draft.Next -/
theorem c_draft_Next [Tracks] {r : Room} {k : List Keep} {s : List Swap} {l : List Pick}  (ht : r.Teams.length ≤ 1000000) (hp : r.Players.length ≤ 1000000) (hk0 : k.length ≤ 1000000) (hl : s.length ≤ 1000000) (hll : l.length ≤ 1000) : ConP Tryz.prog 42 [eRoom r, eKeeps k, eSwaps s, ePicks l] (.tup [ePick (nxA r k s l), .bool (nxB r k s l), .int .i64 (picksE r k s l)]) := by
 refine Con.of_bodyc Tryz.func42 rfl Tryz.ntmps42 rfl rfl ?_
 refine hw_reg ?_
 refine dp rfl (pop_box rfl rfl) ?_
 refine de rfl (eop_alloc ty79 rfl fun b8 => ?_)
 refine dp rfl (pop_assign rfl) ?_
 refine dp rfl (pop_assign rfl) ?_
 refine dn ?_
 refine hw_reg ?_
 refine dp rfl (pop_move rfl) ?_
 refine dp rfl (pop_move rfl) ?_
 refine dp rfl (pop_move rfl) ?_
 refine de rfl (eop_callf (M1 := []) (R := [_]) ca129 rfl (WeakL.refl _) (List.Perm.refl _) (c_draft_follow ht hp hk0 hl hll) ?_)
 rintro _ M17 ⟨v17, rfl, hv17⟩
 refine dp rfl (pop_move rfl) ?_
 refine dp rfl (pop_extract rfl rfl) ?_
 refine dp rfl (pop_extract rfl rfl) ?_
 refine dp rfl (pop_assign rfl) ?_
 refine dp rfl (pop_assign rfl) ?_
 refine dn ?_
 refine hw_seq ?_
 refine hw_reg ?_
 refine dp rfl (pop_move rfl) ?_
 refine dp rfl (pop_neq rfl rfl) ?_
 refine dp rfl (pop_move rfl) ?_
 refine dg rfl rfl (fun hc => ⟨_, OpenTo.refl _, pop_move rfl⟩) ?_
 refine dg (h := .raw v17) rfl rfl (fun hc => by
  obtain ⟨b, m, va, u, S, rfl, ok, rfl⟩ := hv17 (by simpa using hc)
  exact ⟨_, OpenTo.upd (t := 23) rfl (hc) (OpenTo.refl _), pop_nilCheck_raw rfl⟩) ?_
 refine dg (h := .raw (.pointer (some ⟨ptrB v17, 0 + 2, none⟩))) rfl rfl (fun hc => by
  obtain ⟨b, m, va, u, S, rfl, ok, rfl⟩ := hv17 (by simpa using hc)
  exact ⟨_, OpenTo.upd (t := 24) rfl (hc) (OpenTo.refl _), pop_fieldAddr_raw ty216 rfl ty72 (by decide) rfl⟩) ?_
 refine dgl (h := ePicks ((freeP r k s).drop l.length)) rfl rfl (fun hc => by
  obtain ⟨b, m, va, u, S, rfl, ok, rfl⟩ := hv17 (by simpa using hc)
  exact ⟨_, OpenTo.upd (t := 25) rfl (hc) (OpenTo.refl _), eop_load (i := 0) ty72 rfl rfl (.inl ⟨rfl, rfl⟩) ⟨rfl, rfl⟩⟩) ?_
 refine dg rfl rfl (fun hc => ⟨_, OpenTo.upd (t := 26) rfl (hc) (OpenTo.refl _), pop_lenm ty72 rfl⟩) ?_
 refine dg rfl rfl (fun hc => ⟨_, OpenTo.upd (t := 27) rfl (hc) (OpenTo.refl _), pop_eql rfl rfl⟩) ?_
 refine dp rfl (pop_picko rfl (.inl rfl) (.inr ⟨_, rfl, fun h => by simp_all⟩)) ?_
 refine dn ?_
 refine hw_cond rfl (fun h1 => ?_) (fun h2 => ?_)
 ·try simp at h1
  refine hw_ghost (Ghost.suffix (R := M17)) ?_
  refine hw_reg ?_
  refine dp rfl (pop_build (cs := [_, _, _, _, _]) ty79 pl79 rfl) ?_
  refine dp rfl (pop_move rfl) ?_
  refine de0 (eop_store (i := 0) ty79 rfl rfl rfl rfl rfl (Nat.le_of_ble_eq_true rfl) ?_)
  refine dp rfl (pop_assign rfl) ?_
  refine dp rfl (pop_assign rfl) ?_
  refine dn ?_
  refine hw_ret ?_
  (refine ⟨_, _, Ghost.fc0 8 rfl, [_, _, _], _, ⟨⟨_, _, _, _, _, rfl, ty79, .inr ⟨rfl, rfl, rfl⟩⟩, ⟨rfl, ⟨rfl, trivial⟩⟩⟩, Weak.refl _, ?_, rfl⟩
   obtain ⟨q1, q2⟩ := nx_none (r := r) (k := k) (s := s) (l := l) (by by_cases e : picksE r k s l = 0; (right; rcases h1 with h1 | h1; exact absurd e h1; omega); exact .inl e)
   show HVal.tup _ = _
   rw [q1, q2]; rfl)
 ·try simp at h2
  refine hw_skip ?_
  refine seqQ_n ?_
  have hz : picksE r k s l = 0 := by simpa using h2.1
  obtain ⟨b, m, va, u, S, rfl, ok, rfl⟩ := hv17 hz
  have hlf : l.length < (freeP r k s).length := by have := h2.2; omega
  refine hw_reg ?_
  refine dp rfl (pop_move rfl) ?_
  refine dp rfl ((pop_nilCheck_raw rfl)) ?_
  refine dp rfl (pop_fieldAddr_raw ty216 rfl ty72 (by decide) rfl) ?_
  refine de rfl (eop_load (i := 0) ty72 rfl rfl (.inl ⟨rfl, rfl⟩) ?_)
  refine dp rfl (pop_idx (j := 0) (a := (freeP r k s).getD l.length pick0) ty72 ty79 rfl rfl rfl (drop_get hlf)) ?_
  refine dp rfl (pop_loadw ty79 rfl rfl rfl rfl) ?_
  refine de0 (eop_store (i := 4) ty79 rfl rfl rfl rfl rfl (Nat.le_of_ble_eq_true rfl) ?_)
  refine dp rfl (pop_assign rfl) ?_
  refine dp rfl (pop_assign rfl) ?_
  refine dn ?_
  refine hw_ret ?_
  (refine ⟨_, _, (Ghost.fc 8 (i := 4) rfl rfl).trans Ghost.clear, [_, _, _], _, ⟨⟨_, _, _, _, _, rfl, ty79, .inr ⟨rfl, rfl, rfl⟩⟩, ⟨rfl, ⟨rfl, trivial⟩⟩⟩, Weak.refl _, ?_, rfl⟩
   obtain ⟨q1, q2⟩ := nx_some hz hlf
   show HVal.tup _ = _
   rw [q1, q2, hz]; rfl)

/-- benchwarmer/draft.Left$1 -/
theorem c_draft_Left_1 [Tracks] {r : Room} {A T l : List Pick} {S : List Str} {p : Str}  : ConP Tryz.prog 133 [.str p, .vptr [.vptr (RunH r A T l S) 0] 0] (.bool (S.contains p)) := by
 refine Con.of_body Tryz.func133 rfl Tryz.ntmps133 rfl rfl ?_
 refine hw_reg ?_
 refine dp rfl (pop_assign rfl) ?_
 refine dn ?_
 refine hw_reg ?_
 refine dp rfl (pop_load ty211 rfl rfl rfl) ?_
 refine dp rfl ((pop_nilCheck rfl)) ?_
 refine dp rfl (pop_fieldAddr ty216 rfl ty149 (by decide) rfl) ?_
 refine dp rfl (pop_load ty149 rfl rfl rfl) ?_
 refine dp rfl (pop_move rfl) ?_
 refine dp rfl (pop_lookup_h ty149 ty9 ty4 rfl rfl) ?_
 refine dp rfl (pop_assign rfl) ?_
 refine dn ?_
 refine hw_ret ?_
 refine ret_p rfl ?_
 rfl

/-- benchwarmer/draft.Left -/
theorem c_draft_Left [Tracks] {r : Room} {k : List Keep} {s : List Swap} {l : List Pick}  (ht : r.Teams.length ≤ 1000000) (hp : r.Players.length ≤ 1000000) (hk0 : k.length ≤ 1000000) (hl : s.length ≤ 1000000) (hll : l.length ≤ 1000) : ConP Tryz.prog 45 [eRoom r, eKeeps k, eSwaps s, ePicks l] (.tup [eSs (leA r k s l), .int .i64 (picksE r k s l)]) := by
 refine Con.of_body Tryz.func45 rfl Tryz.ntmps45 rfl rfl ?_
 refine hw_reg ?_
 refine dp rfl (pop_box rfl rfl) ?_
 refine dp rfl (pop_assign rfl) ?_
 refine dp rfl (pop_assign rfl) ?_
 refine dn ?_
 refine hw_reg ?_
 refine dp rfl (pop_move rfl) ?_
 refine dp rfl (pop_move rfl) ?_
 refine dp rfl (pop_move rfl) ?_
 refine de rfl (eop_callf (M1 := []) (R := []) ca129 rfl (WeakL.refl _) (List.Perm.refl _) (c_draft_follow ht hp hk0 hl hll) ?_)
 rintro _ M16 ⟨v16, rfl, hv16⟩
 refine dp rfl (pop_move rfl) ?_
 refine dp rfl (pop_extract rfl rfl) ?_
 refine dp rfl (pop_extract rfl rfl) ?_
 refine de rfl (eop_alloc ty211 rfl fun b10 => ?_)
 refine de0 (eop_store (i := 0) ty211 rfl rfl rfl rfl rfl (Nat.le_of_ble_eq_true rfl) ?_)
 refine dp rfl (pop_assign rfl) ?_
 refine dn ?_
 refine hw_seq ?_
 refine hw_reg ?_
 refine dp rfl (pop_move rfl) ?_
 refine dp rfl (pop_neq rfl rfl) ?_
 refine dn ?_
 refine hw_cond rfl (fun h1 => ?_) (fun h2 => ?_)
 ·try simp at h1
  refine hw_reg ?_
  refine dp rfl (pop_move rfl) ?_
  refine dp rfl (pop_assign rfl) ?_
  refine dp rfl (pop_assign rfl) ?_
  refine dn ?_
  refine hw_ret ?_
  exact ⟨_, [], Ghost.clear, _, _, rfl, weak_tup2 (weak_nil 1) (Weak.refl _), by rw [show leA r k s l = [] by simp [leA, h1]]; rfl, rfl⟩
 ·try simp at h2
  refine hw_skip ?_
  refine seqQ_n ?_
  have hz : picksE r k s l = 0 := by simpa using h2
  obtain ⟨b, m, va, u, S, rfl, ok, rfl⟩ := hv16 hz
  refine hw_ghost (Ghost.fcell (i := 2) (k := 1) (j := 1) rfl rfl rfl) ?_
  refine hw_ghost (Ghost.fcell (i := 2) (k := 1) (j := 3) rfl rfl rfl) ?_
  refine hw_ghost (Ghost.fmcell (i := 2) (k := 1) (j := 4) (L := mset S) rfl rfl rfl) ?_
  refine hw_ghost (Ghost.fpcell (i := 1) (k := 0) (j := 0) rfl rfl rfl) ?_
  refine hw_ghost (Ghost.fc 10 (i := 0) rfl rfl) ?_
  refine hw_reg ?_
  refine dp rfl ((pop_fieldAddr ty64 rfl ty28 (by decide) rfl)) ?_
  refine dp rfl (pop_load ty28 rfl rfl rfl) ?_
  refine de rfl (eop_calla ca48 rfl (WeakL.refl _) (c_slices_Clone_string_string (by assumption)) fun v24 => ?_)
  refine dp rfl (pop_makeFunc rfl rfl) ?_
  refine de rfl (eop_callx (i := 0) ca132 rfl (WeakL.refl _) rfl (c_slices_DeleteFunc_string_string (l := r.Players) (p := fun p => S.contains p) ca133 (fun _ => c_draft_Left_1) hp) ?_)
  rintro _ _ ⟨u26, rfl, rfl⟩
  refine dp rfl (pop_assign rfl) ?_
  refine dp rfl (pop_assign rfl) ?_
  refine dn ?_
  refine hw_ret ?_
  (refine ret_g (Ghost.fa0 8 rfl) rfl ⟨?_, rfl⟩
   rw [hz, le_ref hz, ← left_run ok]; rfl)

set_option maxHeartbeats 1000000 in
/-- benchwarmer/draft.Teams -/
theorem c_draft_Teams [Tracks] {r : Room} {k : List Keep} {s : List Swap} {l : List Pick}  (ht : r.Teams.length ≤ 1000000) (hp : r.Players.length ≤ 1000000) (hk0 : k.length ≤ 1000000) (hl : s.length ≤ 1000000) (hll : l.length ≤ 1000) : ConP Tryz.prog 44 [eRoom r, eKeeps k, eSwaps s, ePicks l] (.tup [eWishes (teA r k s l), .int .i64 (picksE r k s l)]) := by
 refine Con.of_body Tryz.func44 rfl Tryz.ntmps44 rfl rfl ?_
 refine hw_reg ?_
 refine dp rfl (pop_box rfl rfl) ?_
 refine dp rfl (pop_assign rfl) ?_
 refine dp rfl (pop_assign rfl) ?_
 refine dn ?_
 refine hw_reg ?_
 refine dp rfl (pop_move rfl) ?_
 refine dp rfl (pop_move rfl) ?_
 refine dp rfl (pop_move rfl) ?_
 refine de rfl (eop_callf (M1 := []) (R := []) ca129 rfl (WeakL.refl _) (List.Perm.refl _) (c_draft_follow ht hp hk0 hl hll) ?_)
 rintro _ M25 ⟨v25, rfl, hv25⟩
 refine dp rfl (pop_move rfl) ?_
 refine dp rfl (pop_extract rfl rfl) ?_
 refine dp rfl (pop_extract rfl rfl) ?_
 refine dp rfl (pop_assign rfl) ?_
 refine dp rfl (pop_assign rfl) ?_
 refine dn ?_
 refine hw_seq ?_
 refine hw_reg ?_
 refine dp rfl (pop_move rfl) ?_
 refine dp rfl (pop_neq rfl rfl) ?_
 refine dn ?_
 refine hw_cond rfl (fun h1 => ?_) (fun h2 => ?_)
 ·try simp at h1
  refine hw_reg ?_
  refine dp rfl (pop_move rfl) ?_
  refine dp rfl (pop_assign rfl) ?_
  refine dp rfl (pop_assign rfl) ?_
  refine dn ?_
  refine hw_ret ?_
  exact ⟨_, [], Ghost.clear, _, _, rfl, weak_tup2 (weak_nil 2) (Weak.refl _), by rw [show teA r k s l = [] by simp [teA, h1]]; rfl, rfl⟩
 ·try simp at h2
  refine hw_skip ?_
  refine seqQ_n ?_
  have hz : picksE r k s l = 0 := by simpa using h2
  obtain ⟨b, m, va, u, S, rfl, ok, rfl⟩ := hv25 hz
  have hof := (picksE_ok hz).1
  have hro := room_ok (openFault_ok hof).1
  have hop := open_pos (k := k) (s := s) hro
  have hol : (open1 r k s).length ≤ 600 := by unfold open1; rw [openFrom_len]; exact turns_len (openFault_ok hof).1
  have htm := hro.t20
  refine hw_reg ?_
  refine dp rfl (pop_move rfl) ?_
  refine dp rfl ((pop_nilCheck_raw rfl)) ?_
  refine dp rfl (pop_fieldAddr_raw ty216 rfl ty72 (by decide) rfl) ?_
  refine de rfl (eop_load (i := 0) ty72 rfl rfl (.inl ⟨rfl, rfl⟩) ?_)
  refine dp rfl (pop_assign rfl) ?_
  refine dn ?_
  refine hw_seq ?_
  refine hw_ghost (Ghost.fcell (i := 2) (k := 0) (j := 3) rfl rfl rfl) ?_
  refine hw_reg ?_
  refine dp rfl (pop_move rfl) ?_
  refine dp rfl ((pop_nilCheck_raw rfl)) ?_
  refine dp rfl (pop_fieldAddr_raw ty216 rfl ty72 (by decide) rfl) ?_
  refine de rfl (eop_load (i := 0) ty72 rfl rfl (.inl ⟨rfl, rfl⟩) ?_)
  refine dp rfl (pop_lenm ty72 rfl) ?_
  refine dp rfl (pop_move rfl) ?_
  refine dn ?_
  refine hw_ghost (Ghost.only (i := 1) rfl) ?_
  refine hw_arrc (i := 0) rfl (fun h0 he => ?_) (fun ob off cap hv hcap => ?_)
  ·exfalso; have := congrArg List.length he; simp at this; rw [this] at hop; simp at hop
  rw [List.length_map] at hv hcap
  subst hv
  generalize hn0 : (open1 r k s).length = n0 at *
  refine hw_block ?_
  refine hw_loopw [14, 40, 41, 42, 43, 44, 45, 46, 47, 48, 49] (fun (i : Nat) => [(40, .int .i64 i)]) (fun (i : Nat) => [.arr (.slice (some ⟨ob, off, none⟩) n0 cap) 5 ((allP (open1 r k s) (l.take i)).map ePick)]) (fun (i : Nat) => i ≤ l.length ∧ (True)) (fun (i : Nat) => l.length - i) (0) ?_ ?_ ?_ ?_
  ·exact ⟨Nat.zero_le _, trivial⟩
  ·exact ⟨rfl, trivial⟩
  ·exact perm_eq (by simp [allP])
  ·intro i hinv
   obtain ⟨hi, -⟩ := hinv
   refine hw_reg ?_
   refine dp rfl (pop_lss rfl rfl) ?_
   refine dn ?_
   refine hw_seq ?_
   refine hw_cond rfl (fun h3 => ?_) (fun h4 => ?_)
   ·try simp at h3
    obtain ⟨x, hx⟩ : ∃ x, l[i]? = some x := ⟨_, List.getElem?_eq_getElem h3⟩
    have hdx := drop_cons hx
    refine hw_skip ?_
    refine seqQ_n ?_
    refine hw_seq ?_
    refine hw_block ?_
    refine hw_reg ?_
    refine dp rfl (pop_idx ty72 ty79 rfl rfl rfl (by assumption)) ?_
    refine dp rfl (pop_loadw ty79 rfl rfl rfl rfl) ?_
    refine de rfl (eop_alloc ty79 rfl fun b14 => ?_)
    refine de0 (eop_storew ty79 rfl rfl rfl rfl rfl ?_)
    refine dn ?_
    refine hw_ghost (Ghost.fc0 14 rfl) ?_
    refine hw_reg1 ?_
    refine dp rfl (pop_move rfl) ?_
    refine dp rfl ((pop_fieldAddr ty79 rfl ty3 (by decide) rfl)) ?_
    refine dp rfl (pop_load ty3 rfl rfl rfl) ?_
    refine dp rfl (pop_loadw ty79 rfl rfl rfl rfl) ?_
    obtain ⟨okn, n1, n2, y, hy⟩ := (all_ok hz i hi).step hz hx
    have hAl := (all_ok hz i hi).len
    refine dp rfl (pop_idxraw (j := x.No.toNat) ty72 ty79 rfl rfl (by omega) (by omega)) ?_
    refine de0 (eop_store_elw (i := 0) (f := ePick) (es := allP (open1 r k s) (l.take i)) (j := x.No.toNat) (y := y) (y' := x) ty79 rfl rfl rfl rfl hy rfl rfl rfl ?_)
    refine dn ?_
    refine blockQ_n ?_
    refine seqQ_n ?_
    refine hw_reg1 ?_
    refine dp rfl (pop_add64 rfl rfl (by omega) (by omega)) ?_
    refine dp rfl (pop_move rfl) ?_
    refine dn ?_
    exact ⟨i + 1, ⟨by omega, trivial⟩, by dsimp only; omega, ⟨rfl, trivial⟩, (by repeat (first | exact keeps_refl | refine keeps_upd rfl ?_ | refine keeps_loop rfl rfl ?_)), perm_eq (by dsimp only; rw [allP_snoc hx]; rfl)⟩
   ·try simp at h4
    have hni : l.length ≤ i := by omega
    obtain rfl : i = l.length := by omega
    refine hw_exit ?_
    refine seqQ_x ?_
    refine loopQ_x ?_
    refine blockQ_eq ?_
    refine seqQ_n ?_
    have hAlln := (all_ok hz l.length (Nat.le_refl _)).len
    rw [List.take_length] at hAlln ⊢
    refine hw_ghost (Ghost.fa 12 (i := 0) rfl rfl) ?_
    refine hw_reg ?_
    refine dp rfl (pop_assign rfl) ?_
    refine dn ?_
    refine hw_ghost (Ghost.arr_nil 2) ?_
    refine hw_seq ?_
    refine hw_reg ?_
    refine dp rfl ((pop_fieldAddr ty64 rfl ty28 (by decide) rfl)) ?_
    refine dp rfl (pop_load ty28 rfl rfl rfl) ?_
    refine dp rfl (pop_lenm ty28 rfl) ?_
    refine dp rfl (pop_move rfl) ?_
    refine dn ?_
    refine hw_block ?_
    refine hw_loopw2 [15, 17, 18, 20, 53, 54, 55, 56, 57, 58, 59, 60, 61, 62, 63, 64, 65, 66, 67, 68, 69, 70, 71, 72, 73, 74, 75, 76, 77, 78, 79, 80, 81, 82, 83, 84, 85, 86] (fun (j : Nat) (u : Value) => [(53, .int .i64 j), (15, .raw u)]) (fun (j : Nat) (u : Value) => [.arr u 2 (((r.Teams.take j).map fun t => (⟨t, ((allP (open1 r k s) l).filter fun p => p.Team == t && !(p.Player == [])).map (·.Player)⟩ : Wish)).map eWish)]) (fun (j : Nat) (u : Value) => j ≤ r.Teams.length ∧ (True)) (fun (j : Nat) (u : Value) => r.Teams.length - j) (0) (.slice none 0 0) ?_ ?_ ?_ ?_
    ·exact ⟨Nat.zero_le _, by simp_all⟩
    ·exact ⟨rfl, rfl, trivial⟩
    ·exact perm_eq (by simp)
    ·intro j u hinv
     obtain ⟨hj, -⟩ := hinv
     refine hw_reg ?_
     refine dp rfl (pop_lss rfl rfl) ?_
     refine dn ?_
     refine hw_seq ?_
     refine hw_cond rfl (fun h5 => ?_) (fun h6 => ?_)
     ·try simp at h5
      obtain ⟨x, hx⟩ : ∃ x, r.Teams[j]? = some x := ⟨_, List.getElem?_eq_getElem h5⟩
      have hdx := drop_cons hx
      refine hw_skip ?_
      refine seqQ_n ?_
      refine hw_seq ?_
      refine hw_block ?_
      refine hw_reg ?_
      refine dp rfl (pop_idx ty28 ty9 rfl rfl rfl (by assumption)) ?_
      refine dp rfl (pop_load ty9 rfl rfl rfl) ?_
      refine dp rfl (pop_assign rfl) ?_
      refine dn ?_
      refine hw_reg ?_
      refine dp rfl (pop_move rfl) ?_
      refine dp rfl (pop_build (cs := [_, _]) ty87 pl87 rfl) ?_
      refine de rfl (eop_alloc ty87 rfl fun b18 => ?_)
      refine de0 (eop_store (i := 0) ty87 rfl rfl rfl rfl rfl (Nat.le_of_ble_eq_true rfl) ?_)
      refine dn ?_
      refine hw_ghost (Ghost.arr_nil 1) ?_
      refine hw_seq ?_
      refine hw_reg ?_
      refine dp rfl (pop_move rfl) ?_
      refine dp rfl (pop_lenm ty72 rfl) ?_
      refine dp rfl (pop_move rfl) ?_
      refine dn ?_
      refine hw_block ?_
      refine hw_loopw2 [20, 61, 62, 63, 64, 65, 66, 67, 68, 69, 70, 71, 72, 73, 74, 75, 76, 77, 78, 79, 80, 81] (fun (n : Nat) (v : Value) => [(61, .int .i64 n)]) (fun (n : Nat) (v : Value) => [.arr v 1 (((((allP (open1 r k s) l).take n).filter fun p => p.Team == x && !(p.Player == [])).map (·.Player)).map .str), .cells b18 [.str x, .raw v], .arr u 2 (((r.Teams.take j).map fun t => (⟨t, ((allP (open1 r k s) l).filter fun p => p.Team == t && !(p.Player == [])).map (·.Player)⟩ : Wish)).map eWish)]) (fun (n : Nat) (v : Value) => n ≤ (allP (open1 r k s) l).length ∧ (True)) (fun (n : Nat) (v : Value) => (allP (open1 r k s) l).length - n) (0) (.slice none 0 0) ?_ ?_ ?_ ?_
      ·exact ⟨Nat.zero_le _, trivial⟩
      ·exact ⟨rfl, trivial⟩
      ·exact perm_eq (by simp; rfl)
      ·intro n v hinv
       obtain ⟨hn, -⟩ := hinv
       refine hw_reg ?_
       refine dp rfl (pop_lss rfl rfl) ?_
       refine dn ?_
       refine hw_seq ?_
       refine hw_cond rfl (fun h7 => ?_) (fun h8 => ?_)
       ·try simp at h7
        obtain ⟨y, hy⟩ : ∃ y, (allP (open1 r k s) l)[n]? = some y := ⟨_, List.getElem?_eq_getElem h7⟩
        have hdy := drop_cons hy
        refine hw_skip ?_
        refine seqQ_n ?_
        refine hw_seq ?_
        refine hw_block ?_
        refine hw_reg ?_
        refine dp rfl (pop_idx ty72 ty79 rfl rfl rfl (by assumption)) ?_
        refine dp rfl (pop_loadw ty79 rfl rfl rfl rfl) ?_
        refine de rfl (eop_alloc ty79 rfl fun b20 => ?_)
        refine de0 (eop_storew ty79 rfl rfl rfl rfl rfl ?_)
        refine dn ?_
        refine hw_ghost (Ghost.fc0 20 rfl) ?_
        refine hw_reg ?_
        refine dp rfl ((pop_fieldAddr ty79 rfl ty9 (by decide) rfl)) ?_
        refine dp rfl (pop_load ty9 rfl rfl rfl) ?_
        refine dp rfl (pop_move rfl) ?_
        refine dp rfl (pop_eqls rfl rfl) ?_
        refine dp rfl (pop_move rfl) ?_
        refine dg rfl rfl (fun hc => ⟨_, OpenTo.refl _, (pop_fieldAddr ty79 rfl ty9 (by decide) rfl)⟩) ?_
        refine dg rfl rfl (fun hc => ⟨_, OpenTo.upd (t := 70) rfl (hc) (OpenTo.refl _), pop_load ty9 rfl rfl rfl⟩) ?_
        refine dg rfl rfl (fun hc => ⟨_, OpenTo.upd (t := 71) rfl (hc) (OpenTo.refl _), pop_neqs rfl rfl⟩) ?_
        refine dp rfl (pop_picko rfl (.inr ⟨_, rfl, fun h => by simp_all⟩) (.inl rfl)) ?_
        refine dn ?_
        refine hw_cond rfl (fun h9 => ?_) (fun h10 => ?_)
        ·try simp at h9
         refine hw_reg1 ?_
         refine dp rfl (pop_fieldAddr_raw ty87 rfl ty28 (by decide) rfl) ?_
         refine de rfl (eop_load (i := 1) ty28 rfl rfl (.inl ⟨rfl, rfl⟩) ?_)
         refine dp rfl ((pop_fieldAddr ty79 rfl ty9 (by decide) rfl)) ?_
         refine dp rfl (pop_load ty9 rfl rfl rfl) ?_
         refine dp rfl (pop_buildSlice (hs := [_]) ty28 ty9 rfl rfl (by decide) (by decide) rfl) ?_
         refine de rfl (eop_append (i := 0) ty28 ty9 rfl rfl rfl rfl rfl (by simp [flat, hcells]) (by have h1 := List.length_filter_le (fun p : Pick => p.Team == x && !(p.Player == [])) ((allP (open1 r k s) l).take n); have h2 : ((allP (open1 r k s) l).take n).length ≤ (allP (open1 r k s) l).length := (by rw [List.length_take]; omega); simp only [List.length_map, List.length_cons, List.length_nil]; omega) fun v79 => ?_)
         refine dp rfl (pop_fieldAddr_raw ty87 rfl ty28 (by decide) rfl) ?_
         refine de0 (eop_store (i := 1) ty28 rfl rfl rfl rfl rfl (Nat.le_of_ble_eq_true rfl) ?_)
         refine dn ?_
         refine blockQ_n ?_
         refine seqQ_n ?_
         refine hw_reg1 ?_
         refine dp rfl (pop_add64 rfl rfl (by omega) (by omega)) ?_
         refine dp rfl (pop_move rfl) ?_
         refine dn ?_
         exact ⟨n + 1, v79, ⟨by omega, trivial⟩, by dsimp only; omega, ⟨rfl, trivial⟩, (by repeat (first | exact keeps_refl | refine keeps_upd rfl ?_ | refine keeps_loop rfl rfl ?_)), perm_eq (by dsimp only; rw [filter_snoc1 _ hy, if_pos (by simpa using h9)]; simp [setL, hcells])⟩
        ·try simp at h10
         refine hw_skip ?_
         refine blockQ_n ?_
         refine seqQ_n ?_
         refine hw_reg1 ?_
         refine dp rfl (pop_add64 rfl rfl (by omega) (by omega)) ?_
         refine dp rfl (pop_move rfl) ?_
         refine dn ?_
         exact ⟨n + 1, v, ⟨by omega, trivial⟩, by dsimp only; omega, ⟨rfl, trivial⟩, (by repeat (first | exact keeps_refl | refine keeps_upd rfl ?_ | refine keeps_loop rfl rfl ?_)), perm_eq (by dsimp only; rw [filter_snoc1 _ hy, if_neg (by simpa using h10)]; simp)⟩
       ·try simp at h8
        have hnn : (allP (open1 r k s) l).length ≤ n := by omega
        obtain rfl : n = (allP (open1 r k s) l).length := by omega
        refine hw_exit ?_
        refine seqQ_x ?_
        refine loopQ2_x ?_
        refine blockQ_eq ?_
        refine seqQ_n ?_
        refine hw_ghost (Ghost.fcell (i := 0) (k := 0) (j := 1) rfl rfl rfl) ?_
        refine hw_ghost (Ghost.of_eq (M' := [.cells b18 (hcells (eWish ⟨x, (((allP (open1 r k s) l).take (allP (open1 r k s) l).length).filter fun p => p.Team == x && !(p.Player == [])).map (·.Player)⟩)), .arr u 2 (((r.Teams.take j).map fun t => (⟨t, ((allP (open1 r k s) l).filter fun p => p.Team == t && !(p.Player == [])).map (·.Player)⟩ : Wish)).map eWish)]) rfl) ?_
        refine hw_ghost (Ghost.fc 18 (i := 0) rfl rfl) ?_
        refine hw_reg1 ?_
        refine dp rfl (pop_move rfl) ?_
        refine dp rfl (pop_loadw ty87 rfl rfl rfl rfl) ?_
        refine dp rfl (pop_buildSlice (hs := [_]) ty70 ty87 rfl rfl (by decide) (by decide) rfl) ?_
        refine de rfl (eop_append (i := 0) ty70 ty87 rfl rfl rfl rfl rfl (by simp [flat, hcells]) (by simp; omega) fun v85 => ?_)
        refine dp rfl (pop_assign rfl) ?_
        refine dn ?_
        refine blockQ_n ?_
        refine seqQ_n ?_
        refine hw_reg1 ?_
        refine dp rfl (pop_add64 rfl rfl (by omega) (by omega)) ?_
        refine dp rfl (pop_move rfl) ?_
        refine dn ?_
        exact ⟨j + 1, v85, ⟨by omega, trivial⟩, by dsimp only; omega, ⟨rfl, rfl, trivial⟩, (by repeat (first | exact keeps_refl | refine keeps_upd rfl ?_ | refine keeps_loop rfl rfl ?_)), perm_eq (by simp [List.take_add_one, hx])⟩
     ·try simp at h6
      have hnj : r.Teams.length ≤ j := by omega
      obtain rfl : j = r.Teams.length := by omega
      refine hw_exit ?_
      refine seqQ_x ?_
      refine loopQ2_x ?_
      refine blockQ_eq ?_
      refine seqQ_n ?_
      refine hw_reg ?_
      refine dp rfl (pop_move rfl) ?_
      refine dp rfl (pop_assign rfl) ?_
      refine dp rfl (pop_assign rfl) ?_
      refine dn ?_
      refine hw_ret ?_
      (refine ret_g (Ghost.fa0 8 rfl) rfl ⟨?_, rfl⟩
       rw [hz, show teA r k s l = teamsA r (allP (open1 r k s) l) by simp [teA, hz], List.take_length]; rfl)
end Go.Proofs.YtcnfhcicepmjcaaGreatDoor
end
section
namespace Go.HL
def goalS : Str := [103, 111, 97, 108]
def play1 : Play := ⟨[115], 1, 0, 1, [109], [112], goalS, 2, 0⟩
def line1 : LineS := ⟨[112], 1, [⟨goalS, 2⟩]⟩
theorem ready_ln : lnGo [play1] [[115]] 1 5 [play1] = ⟨[[112]], [(([112], goalS), 2)]⟩ := by kernel_rfl
theorem ready_or : orI [playsE [play1], trustE [[115]]] = 0 := by kernel_rfl
theorem ready_full : fullB [(([112], goalS), 2)] [[112]] = false := by kernel_rfl
theorem ready_stats : statsOf [(([112], goalS), 2)] [112] = [⟨goalS, 2⟩] := by kernel_rfl
theorem ready_E : LinesE [play1] [[115]] 1 5 = 0 := by
 rw [LinesE, ready_or, if_neg (by decide), if_neg (by decide), linesE, ready_ln, clinesE, ready_full]; rfl
theorem ready_L : LinesL [play1] [[115]] 1 5 = [line1] := by
 rw [LinesL, ready_or, if_neg (by decide), if_neg (by decide), linesL, ready_ln, clinesL, ready_full, if_neg (by decide)]
 simp [sortS, ready_stats, line1]
end Go.HL
end
section
namespace Go.Proofs.YtcnfhcicepmjcaaGreatDoor
open Go.HL
set_option maxRecDepth 100000
set_option linter.unusedVariables false
set_option linter.unusedSimpArgs false
/-- benchwarmer/benchkeep1.ready -/
theorem c_benchkeep1_ready [Tracks]  (hT : Tracks.on = false) : ConP Tryz.prog 39 [] (.bool true) := by
 refine Con.of_body Tryz.func39 rfl Tryz.ntmps39 rfl rfl ?_
 refine hw_reg ?_
 refine dp rfl (pop_assign rfl) ?_
 refine dn ?_
 refine hw_reg ?_
 refine dp rfl (pop_build (cs := [_, _, _, _, _, _, _, _, _]) ty145 pl145 rfl) ?_
 refine dp rfl (pop_buildSlice (hs := [_]) ty26 ty145 rfl rfl (by decide) (by decide) rfl) ?_
 refine dp rfl (pop_buildSlice (hs := [_]) ty28 ty9 rfl rfl (by decide) (by decide) rfl) ?_
 refine dp rfl (pop_call (hs' := [ePlays [play1], eSs [[115]], .int .i64 1, .int .i64 5]) ca18 rfl (WeakL.refl _) (c_play_Lines hT (by decide) (by decide))) ?_
 refine dp rfl (pop_move rfl) ?_
 refine dp rfl (pop_extract rfl rfl) ?_
 refine dp rfl (pop_extract rfl rfl) ?_
 refine dp rfl (pop_assign rfl) ?_
 refine dp rfl (pop_assign rfl) ?_
 refine dn ?_
 simp only [ready_E, ready_L]
 refine hw_reg ?_
 refine dp rfl (pop_buildSlice (hs := [_, _]) ty28 ty9 rfl rfl (by decide) (by decide) rfl) ?_
 refine dp rfl (pop_buildSlice (hs := [_, _, _, _]) ty28 ty9 rfl rfl (by decide) (by decide) rfl) ?_
 refine dp rfl (pop_build (cs := [_, _, _, _, _, _]) ty64 pl64 rfl) ?_
 refine de rfl (eop_alloc ty64 rfl fun b3 => ?_)
 refine de0 (eop_storew ty64 rfl rfl rfl rfl rfl ?_)
 refine dn ?_
 refine hw_ghost (Ghost.fc0 3 rfl) ?_
 refine hw_reg ?_
 refine dp rfl (pop_loadw ty64 rfl rfl rfl rfl) ?_
 refine dp rfl (pop_call (hs' := [eRoom room1, eSwaps []]) ca43 rfl ⟨Weak.refl _, weak_nil 3, trivial⟩ (c_draft_Turns (r := room1) (s := []) (by decide) (by decide) (by decide))) ?_
 refine dp rfl (pop_move rfl) ?_
 refine dp rfl (pop_extract rfl rfl) ?_
 refine dp rfl (pop_extract rfl rfl) ?_
 refine dp rfl (pop_assign rfl) ?_
 refine dp rfl (pop_assign rfl) ?_
 refine dn ?_
 simp only [room1_turns, room1_ok]
 refine hw_reg ?_
 refine dp rfl (pop_build (cs := [_, _, _]) ty135 pl135 rfl) ?_
 refine dp rfl (pop_buildSlice (hs := [_]) ty119 ty135 rfl rfl (by decide) (by decide) rfl) ?_
 refine dp rfl (pop_build (cs := [_, _]) ty209 pl209 rfl) ?_
 refine dp rfl (pop_buildSlice (hs := [_]) ty121 ty209 rfl rfl (by decide) (by decide) rfl) ?_
 refine dp rfl (pop_call (hs' := [eAssets [asset1], ePlaces [place1]]) ca75 rfl (WeakL.refl _) (c_value_Fielded (l := [asset1]) (p := [place1]) (by decide) (by decide))) ?_
 refine dp rfl (pop_move rfl) ?_
 refine dp rfl (pop_extract rfl rfl) ?_
 refine dp rfl (pop_extract rfl rfl) ?_
 refine dp rfl (pop_extract rfl rfl) ?_
 refine dp rfl (pop_assign rfl) ?_
 refine dp rfl (pop_assign rfl) ?_
 refine dp rfl (pop_assign rfl) ?_
 refine dn ?_
 simp only [one_ok, one_sum, one_names]
 refine hw_reg ?_
 refine dp rfl (pop_move rfl) ?_
 refine dp rfl (pop_eql rfl rfl) ?_
 refine dp rfl (pop_move rfl) ?_
 refine dg rfl rfl (fun hc => ⟨_, OpenTo.refl _, pop_move rfl⟩) ?_
 refine dg rfl rfl (fun hc => ⟨_, OpenTo.upd (t := 36) rfl (hc) (OpenTo.refl _), pop_lenm ty39 rfl⟩) ?_
 refine dg rfl rfl (fun hc => ⟨_, OpenTo.upd (t := 37) rfl (hc) (OpenTo.refl _), pop_eql rfl rfl⟩) ?_
 refine dp rfl (pop_picko rfl (.inr ⟨_, rfl, fun h => by simp_all⟩) (.inl rfl)) ?_
 refine dp rfl (pop_move rfl) ?_
 refine dg rfl rfl (fun hc => ⟨_, OpenTo.refl _, pop_move rfl⟩) ?_
 refine dg rfl rfl (fun hc => ⟨_, OpenTo.upd (t := 41) rfl (hc) (OpenTo.refl _), pop_idx (j := 0) (a := line1) ty39 ty56 rfl rfl rfl rfl⟩) ?_
 refine dg rfl rfl (fun hc => ⟨_, OpenTo.upd (t := 42) rfl (hc) (OpenTo.refl _), pop_fieldAddr ty56 rfl ty54 (by decide) rfl⟩) ?_
 refine dg rfl rfl (fun hc => ⟨_, OpenTo.upd (t := 43) rfl (hc) (OpenTo.refl _), pop_load ty54 rfl rfl rfl⟩) ?_
 refine dg rfl rfl (fun hc => ⟨_, OpenTo.upd (t := 44) rfl (hc) (OpenTo.refl _), pop_lenm ty54 rfl⟩) ?_
 refine dg rfl rfl (fun hc => ⟨_, OpenTo.upd (t := 45) rfl (hc) (OpenTo.refl _), pop_eql rfl rfl⟩) ?_
 refine dp rfl (pop_picko rfl (.inr ⟨_, rfl, fun h => by simp_all⟩) (.inl rfl)) ?_
 refine dp rfl (pop_move rfl) ?_
 refine dg rfl rfl (fun hc => ⟨_, OpenTo.refl _, pop_move rfl⟩) ?_
 refine dg rfl rfl (fun hc => ⟨_, OpenTo.upd (t := 49) rfl (hc) (OpenTo.refl _), pop_eql rfl rfl⟩) ?_
 refine dp rfl (pop_picko rfl (.inr ⟨_, rfl, fun h => by simp_all⟩) (.inl rfl)) ?_
 refine dp rfl (pop_move rfl) ?_
 refine dg rfl rfl (fun hc => ⟨_, OpenTo.refl _, pop_move rfl⟩) ?_
 refine dg rfl rfl (fun hc => ⟨_, OpenTo.refl _, pop_buildSlice (hs := [_, _, _, _]) ty28 ty9 rfl rfl (by decide) (by decide) rfl⟩) ?_
 refine dg rfl rfl (fun hc => ⟨_, OpenTo.upd (t := 54) rfl (hc) (OpenTo.upd (t := 53) rfl (hc) (OpenTo.refl _)), pop_call ca125 rfl (WeakL.refl _) (c_slices_Equal_string_string (l := [[97], [98], [98], [97]]) (m := [[97], [98], [98], [97]]) (by decide))⟩) ?_
 refine dp rfl (pop_picko rfl (.inr ⟨_, rfl, fun h => by simp_all⟩) (.inl rfl)) ?_
 refine dp rfl (pop_move rfl) ?_
 refine dg rfl rfl (fun hc => ⟨_, OpenTo.refl _, pop_move rfl⟩) ?_
 refine dg rfl rfl (fun hc => ⟨_, OpenTo.upd (t := 58) rfl (hc) (OpenTo.refl _), pop_eql rfl rfl⟩) ?_
 refine dp rfl (pop_picko rfl (.inr ⟨_, rfl, fun h => by simp_all⟩) (.inl rfl)) ?_
 refine dp rfl (pop_move rfl) ?_
 refine dg rfl rfl (fun hc => ⟨_, OpenTo.refl _, pop_move rfl⟩) ?_
 refine dg rfl rfl (fun hc => ⟨_, OpenTo.upd (t := 62) rfl (hc) (OpenTo.refl _), pop_eql rfl rfl⟩) ?_
 refine dp rfl (pop_picko rfl (.inr ⟨_, rfl, fun h => by simp_all⟩) (.inl rfl)) ?_
 refine dp rfl (pop_assign rfl) ?_
 refine dn ?_
 refine hw_ret ?_
 refine ret_p rfl ?_
 rfl
end Go.Proofs.YtcnfhcicepmjcaaGreatDoor
end
section
namespace Go.HL
theorem pksGo_of {r : Room} {k : List Keep} {fr l : List Pick} : ∀ (t : List Pick) (i : Nat), l.drop i = t → (∀ (j : Nat) (p : Pick), i ≤ j → l[j]? = some p → pkF r k fr (l.take j) p = 0) → pksGo r k fr l i t = 0
 | [], _, _, _ => rfl
 | x :: t, i, hd, h => by
   have hx : l[i]? = some x := by
    have := congrArg (fun q => q[0]?) hd
    simpa [List.getElem?_drop] using this
   have hd' : l.drop (i + 1) = t := by
    have := drop_cons hx
    rw [hd] at this
    exact (List.cons.inj this).2.symm
   rw [pgo_z (h i x (Nat.le_refl _) hx)]
   exact pksGo_of t (i + 1) hd' fun j p hj hp => h j p (by omega) hp
section
variable {r : Room} {k : List Keep} {s : List Swap} {l : List Pick} {w : List Wish}
theorem picks_snoc (h : picksE r k s l = 0) (hl : l.length < (freeP r k s).length) {p : Pick} (hp : pkF r k (freeP r k s) l p = 0) : picksE r k s (l ++ [p]) = 0 := by
 obtain ⟨h1, h2, h3⟩ := picksE_ok h
 unfold picksE pksR
 rw [if_neg (by simp [h1]), if_neg (by simp; omega)]
 refine pksGo_of _ 0 rfl fun j q _ hq => ?_
 rcases Nat.lt_or_ge j l.length with hj | hj
 ·rw [List.getElem?_append_left hj] at hq
  rw [List.take_append_of_le_length (Nat.le_of_lt hj)]
  exact pksGo_at l 0 rfl h3 j q (Nat.zero_le _) hq
 ·have hlt := lt_of_get hq
  rw [List.length_append, List.length_singleton] at hlt
  have e : j = l.length := by omega
  subst e
  simp only [List.getElem?_concat_length, Option.some.injEq] at hq
  rw [List.take_left' rfl, ← hq]; exact hp
theorem wishGo_in {g : Str → Bool} {t : Str} : ∀ {w : List Wish} {x : Str}, wishGo g t w = some x → (∃ y ∈ w, x ∈ y.Players) ∧ g x = false
 | [], x, h => by simp [wishGo] at h
 | y :: w, x, h => by
   unfold wishGo at h
   by_cases e : y.Team = t
   ·rw [if_pos e] at h
    cases hf : y.Players.find? (fun s => !(g s)) with
    | some z =>
      rw [hf] at h
      simp only [Option.some.injEq] at h
      subst h
      obtain ⟨a, b⟩ := find_mem hf
      exact ⟨⟨y, List.mem_cons_self, a⟩, by simpa using b⟩
    | none =>
      rw [hf] at h
      obtain ⟨⟨y', a, b⟩, c⟩ := wishGo_in h
      exact ⟨⟨y', List.mem_cons_of_mem _ a, b⟩, c⟩
   ·rw [if_neg e] at h
    obtain ⟨⟨y', a, b⟩, c⟩ := wishGo_in h
    exact ⟨⟨y', List.mem_cons_of_mem _ a, b⟩, c⟩
theorem wish_in (h : openFault r k s = 0) (hl : l.length < (freeP r k s).length) (hw : ∀ y ∈ w, ∀ x ∈ y.Players, x ∈ r.Players) (t : Str) : wishOf r (goneB k l) w t ∈ r.Players ∧ goneB k l (wishOf r (goneB k l) w t) = false := by
 unfold wishOf
 cases hg : wishGo (goneB k l) t w with
 | some x =>
   obtain ⟨⟨y, a, b⟩, c⟩ := wishGo_in hg
   exact ⟨hw y a x b, c⟩
 | none =>
   have h0 := left_ne h hl
   obtain ⟨x, hx⟩ := List.exists_mem_of_length_pos h0
   obtain ⟨h1, h2⟩ := List.mem_filter.1 hx
   cases hf : r.Players.find? (fun s => !(goneB k l s)) with
   | none => exact absurd h2 (by simpa using List.find?_eq_none.1 hf x h1)
   | some z =>
     obtain ⟨a, b⟩ := find_mem hf
     exact ⟨a, by simpa using b⟩
theorem auto_pick (h : picksE r k s l = 0) (hl : l.length < (freeP r k s).length) (hw : ∀ y ∈ w, ∀ x ∈ y.Players, x ∈ r.Players) {n : Int} (hm : moment n = true) (hn : lastAt r l ≤ n) : picksE r k s (l ++ [autoP r k (freeP r k s) w l n]) = 0 := by
 obtain ⟨a, b⟩ := wish_in (t := ((freeP r k s).getD l.length pick0).Team) (picksE_ok h).1 hl hw
 exact picks_snoc h hl (pf0 hm rfl rfl a b (by show ¬ n < lastAt r l; omega))
theorem fin_ok (hw : ∀ y ∈ w, ∀ x ∈ y.Players, x ∈ r.Players) : ∀ (n : Nat) (l : List Pick), picksE r k s l = 0 → l.length + n = (freeP r k s).length → picksE r k s (finGo r k (freeP r k s) w n l) = 0 ∧ (finGo r k (freeP r k s) w n l).length = (freeP r k s).length
 | 0, l, h, hl => ⟨h, by simpa [finGo] using hl⟩
 | n + 1, l, h, hl => by
   rw [finGo]
   exact fin_ok hw n _ (auto_pick h (by omega) hw (last_moment h) (Int.le_refl _)) (by simp; omega)
theorem finL_ok (h : picksE r k s l = 0) (hw : ∀ y ∈ w, ∀ x ∈ y.Players, x ∈ r.Players) : picksE r k s (finL r k s w l) = 0 ∧ (finL r k s w l).length = (freeP r k s).length :=
 fin_ok hw _ l h (by have := (picksE_ok h).2.1; omega)
/-- What picks by lists have been so far. -/
structure AutOk (r : Room) (k : List Keep) (s : List Swap) (w : List Wish) (at' : Int) (l : List Pick) : Prop where
 ok : picksE r k s l = 0
 auto : ∀ p ∈ l, p.Auto = true ∧ p.At ≤ at'
 reg : ∀ (j : Nat) (p : Pick), l[j]? = some p → p.Player = wishOf r (goneB k (l.take j)) w p.Team
theorem AutOk.step {at' : Int} (h : AutOk r k s w at' l) (hl : l.length < (freeP r k s).length) (hw : ∀ y ∈ w, ∀ x ∈ y.Players, x ∈ r.Players) (hc : 0 ≤ r.Clock) (hd : dueB r l at' = true) : AutOk r k s w at' (l ++ [autoP r k (freeP r k s) w l (lastAt r l + r.Clock)]) := by
 simp only [dueB, Bool.and_eq_true, decide_eq_true_eq] at hd
 refine ⟨auto_pick h.ok hl hw hd.1 (by omega), fun p hp => ?_, fun j p hp => ?_⟩
 ·rcases List.mem_append.1 hp with hp | hp
  ·exact h.auto p hp
  ·rw [List.mem_singleton.1 hp]; exact ⟨rfl, hd.2⟩
 ·rcases Nat.lt_or_ge j l.length with hj | hj
  ·rw [List.getElem?_append_left hj] at hp
   rw [List.take_append_of_le_length (Nat.le_of_lt hj)]
   exact h.reg j p hp
  ·have hlt := lt_of_get hp
   rw [List.length_append, List.length_singleton] at hlt
   have e : j = l.length := by omega
   subst e
   simp only [List.getElem?_concat_length, Option.some.injEq] at hp
   rw [List.take_left' rfl, ← hp]; rfl
end
theorem picks_600 {r : Room} {k : List Keep} {s : List Swap} {l : List Pick} (h : picksE r k s l = 0) : l.length ≤ 600 := by
 obtain ⟨h1, h2, _⟩ := picksE_ok h
 have h3 : (freeP r k s).length ≤ (open1 r k s).length := List.length_filter_le _ _
 have h4 : (open1 r k s).length ≤ 600 := by unfold open1; rw [openFrom_len]; exact turns_len (openFault_ok h1).1
 omega
end Go.HL
end
section
namespace Go.Proofs.YtcnfhcicepmjcaaGreatDoor
open Go.HL
set_option maxRecDepth 100000
set_option linter.unusedVariables false
set_option linter.unusedSimpArgs false
theorem w_WishesFault [Tracks] {r : Room} {w : List Wish} (ht : r.Teams.length ≤ 1000000) (hp : r.Players.length ≤ 1000000) (hw : w.length ≤ 1000000) (hwp : ∀ y ∈ w, y.Players.length ≤ 1000000)  (e : checkRoom r = 0) : ConP Tryz.prog 38 [eRoom r, eWishes w] (.int .i64 (wishesE r w)) := by
 rw [← wishesE_z e]; exact c_benchref1_WishesFault ht hp hw hwp

theorem w_Finish [Tracks] {r : Room} {k : List Keep} {s : List Swap} {l : List Pick}  {w : List Wish} (ht : r.Teams.length ≤ 1000000) (hp : r.Players.length ≤ 1000000) (hk0 : k.length ≤ 1000000) (hl : s.length ≤ 1000000) (hll : l.length ≤ 1000)  (hw : w.length ≤ 1000000) (hwp : ∀ y ∈ w, y.Players.length ≤ 1000000)  : ConP Tryz.prog 40 [eRoom r, eKeeps k, eSwaps s, ePicks l, eWishes w] (.tup [ePicks (fiL r k s l w), .int .i64 (wishedE r k s l w)]) := c_draft_Finish ht hp hk0 hl hll hw hwp

end Go.Proofs.YtcnfhcicepmjcaaGreatDoor
end
