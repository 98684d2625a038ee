/- The statement is proved: the card of the law, out of its function's contract; no conditions. -/
import Derived.Test.YtkamelfigfbfiaaGreatDoorPLinesMended5
import Derived.LaidMore
import Derived.Lay
import Derived.OpenShut
import Derived.ProofKit
import Derived.SevenTiedAt
import Derived.Stop.Joined
import Derived.Test.YtkamelfigfbfiaaGreatDoorCards
import Derived.Test.YtkamelfigfbfiaaGreatDoorTie
set_option linter.unusedVariables false
set_option linter.unusedSimpArgs false
section
namespace Go.Proofs.YtkamelfigfbfiaaGreatDoor
open Go.HL
set_option maxRecDepth 100000
set_option linter.unusedVariables false
set_option linter.unusedSimpArgs false
/-- slices.Grow[[]benchwarmer/api.Line,benchwarmer/api.Line] -/
theorem c_grow_Line [Tracks] {n : Nat} (hn : n ≤ 1000000) : Con Tryz.prog 144 [.raw (.slice none 0 0), .int .i64 (n : Int)] [] (fun x M' => ∃ u, x = .raw u ∧ M' = [.arr u 3 []]) := by
 refine Con.of_body Tryz.func144 rfl Tryz.ntmps144 rfl rfl ?_
 refine hw_reg ?_
 refine dp rfl (pop_assign rfl) ?_
 refine dn ?_
 refine hw_seq ?_
 refine hw_reg ?_
 refine dp rfl (pop_move rfl) ?_
 refine dp rfl (pop_lss rfl rfl) ?_
 refine dn ?_
 refine hw_cond rfl (fun h1 => ?_) (fun h1 => ?_)
 ·exfalso
  try simp at h1
  omega
 ·try simp at h1
  refine hw_skip ?_
  refine seqQ_n ?_
  refine hw_seq ?_
  refine hw_reg ?_
  refine dp rfl (pop_move rfl) ?_
  refine dp rfl (pop_move rfl) ?_
  refine dp rfl (pop_capraw ty54 rfl) ?_
  refine dp rfl (pop_move rfl) ?_
  refine dp rfl (pop_len_raw ty54 rfl) ?_
  refine dp rfl (pop_sub64 rfl rfl (by omega) (by omega)) ?_
  refine dp rfl (pop_sub64 rfl rfl (by omega) (by omega)) ?_
  refine dp rfl (pop_assign rfl) ?_
  refine dn ?_
  refine hw_reg ?_
  refine dp rfl (pop_move rfl) ?_
  refine dp rfl (pop_gtr rfl rfl) ?_
  refine dn ?_
  refine hw_cond rfl (fun h2 => ?_) (fun h3 => ?_)
  ·try simp at h2
   refine hw_reg1 ?_
   refine dp rfl (pop_move rfl) ?_
   refine dp rfl (pop_move rfl) ?_
   refine dp rfl (pop_capraw ty54 rfl) ?_
   refine dp rfl (pop_slnil ty54 ty63 rfl rfl) ?_
   refine dp rfl (pop_move rfl) ?_
   refine de rfl (eop_appendmk (n := n) ty54 ty63 ty3 rfl rfl rfl rfl (by omega) (by omega) (by omega) fun b nc cells hnc hnm hcs => ?_)
   refine dp rfl (pop_move rfl) ?_
   refine dp rfl (pop_len_raw ty54 rfl) ?_
   refine dp rfl (pop_slraw0 (h := 0) ty54 ty63 rfl ⟨_, _, rfl, rfl⟩ (by omega)) ?_
   refine dp rfl (pop_assign rfl) ?_
   refine dn ?_
   refine seqQ_n ?_
   refine hw_reg ?_
   refine dp rfl (pop_move rfl) ?_
   refine dp rfl (pop_assign rfl) ?_
   refine dn ?_
   refine hw_ret ?_
   first
   | exact ret_g (Ghost.objarr hcs hnm) rfl ⟨_, rfl, rfl⟩
   | exact ret_g (Ghost.arr_nil 3) rfl ⟨_, rfl, rfl⟩
  ·try simp at h3
   refine hw_skip ?_
   refine seqQ_n ?_
   refine hw_reg ?_
   refine dp rfl (pop_move rfl) ?_
   refine dp rfl (pop_assign rfl) ?_
   refine dn ?_
   refine hw_ret ?_
   first
   | exact ret_g (Ghost.objarr hcs hnm) rfl ⟨_, rfl, rfl⟩
   | exact ret_g (Ghost.arr_nil 3) rfl ⟨_, rfl, rfl⟩

/-- slices.Concat[[]benchwarmer/api.Line,benchwarmer/api.Line] -/
theorem c_concat_Line [Tracks] {LL : List (List LineS)} (hl : LL.length ≤ 1000) (hs : LL.flatten.length ≤ 100000) : ConA Tryz.prog 98 [.slice 1 (LL.map fun l => HVal.slice 3 (l.map eLine))] 3 (LL.flatten.map eLine) := by
 refine Con.of_body Tryz.func98 rfl Tryz.ntmps98 rfl rfl ?_
 refine hw_reg ?_
 refine dp rfl (pop_assign rfl) ?_
 refine dn ?_
 refine hw_reg ?_
 refine dp rfl (pop_assign rfl) ?_
 refine dn ?_
 refine hw_seq ?_
 refine hw_reg ?_
 refine dp rfl (pop_move rfl) ?_
 refine dp rfl (pop_lenm (f := fun l : List LineS => HVal.slice 3 (l.map eLine)) (l := LL) ty199 rfl) ?_
 refine dp rfl (pop_move rfl) ?_
 refine dn ?_
 refine hw_block ?_
 refine hw_loopw [3, 5, 11, 12, 13, 14, 15, 16, 17, 18, 19, 20, 21, 22] (fun (i : Nat) => [(11, .int .i64 i), (3, .int .i64 ((LL.take i).flatten.length : Int))]) (fun (i : Nat) => []) (fun (i : Nat) => i ≤ LL.length ∧ (True)) (fun (i : Nat) => LL.length - i) (0) ?_ ?_ ?_ ?_
 ·exact ⟨Nat.zero_le _, trivial⟩
 ·exact ⟨rfl, rfl, trivial⟩
 ·exact List.Perm.refl _
 ·intro i hinv
  obtain ⟨hi, -⟩ := hinv
  refine hw_reg ?_
  refine dp rfl (pop_lss rfl rfl) ?_
  refine dn ?_
  refine hw_seq ?_
  refine hw_cond rfl (fun h1 => ?_) (fun h2 => ?_)
  ·try simp at h1
   obtain ⟨x, hx⟩ : ∃ x, LL[i]? = some x := ⟨_, List.getElem?_eq_getElem h1⟩
   have hdx := drop_cons hx
   refine hw_skip ?_
   refine seqQ_n ?_
   refine hw_seq ?_
   refine hw_block ?_
   refine hw_reg ?_
   refine dp rfl (pop_idx (f := fun l : List LineS => HVal.slice 3 (l.map eLine)) (l := LL) (j := i) (a := x) ty199 ty54 rfl rfl rfl hx) ?_
   refine dp rfl (pop_load ty54 rfl rfl rfl) ?_
   refine dp rfl (pop_assign rfl) ?_
   refine dn ?_
   refine hw_reg ?_
   refine dp rfl (pop_move rfl) ?_
   refine dp rfl (pop_move rfl) ?_
   refine dp rfl (pop_lenm ty54 rfl) ?_
   have hfl := flat_take_le LL (i + 1)
   have hfs := flat_take_snoc hx
   refine dp rfl (pop_add64 rfl rfl (by omega) (by omega)) ?_
   refine dp rfl (pop_assign rfl) ?_
   refine dn ?_
   refine hw_reg ?_
   refine dp rfl (pop_move rfl) ?_
   refine dp rfl (pop_lss rfl rfl) ?_
   refine dn ?_
   refine hw_cond rfl (fun h3 => ?_) (fun h3 => ?_)
   ·exfalso
    try simp at h3
    omega
   ·try simp at h3
    refine hw_skip ?_
    refine blockQ_n ?_
    refine seqQ_n ?_
    refine hw_reg1 ?_
    refine dp rfl (pop_add64 rfl rfl (by omega) (by omega)) ?_
    refine dp rfl (pop_move rfl) ?_
    refine dn ?_
    exact ⟨i + 1, ⟨by omega, trivial⟩, by dsimp only; omega, ⟨rfl, some_int (by rw [flat_take_snoc hx]; simp), trivial⟩, (by repeat (first | exact keeps_refl | refine keeps_upd rfl ?_ | refine keeps_loop rfl rfl ?_)), List.Perm.refl _⟩
  ·try simp at h2
   have hni : LL.length ≤ i := by omega
   obtain rfl : i = LL.length := by omega
   refine hw_exit ?_
   refine seqQ_x ?_
   refine loopQ_x ?_
   refine blockQ_eq ?_
   refine seqQ_n ?_
   rw [List.take_length]
   refine hw_reg ?_
   refine dp rfl (pop_move rfl) ?_
   refine de rfl (eop_callf (M1 := []) (R := []) ca144 rfl (WeakL.refl _) (List.Perm.refl _) (c_grow_Line (n := LL.flatten.length) (by omega)) ?_)
   rintro _ _ ⟨u24, rfl, rfl⟩
   refine dp rfl (pop_assign rfl) ?_
   refine dn ?_
   refine hw_seq ?_
   refine hw_reg ?_
   refine dp rfl (pop_move rfl) ?_
   refine dp rfl (pop_lenm (f := fun l : List LineS => HVal.slice 3 (l.map eLine)) (l := LL) ty199 rfl) ?_
   refine dp rfl (pop_move rfl) ?_
   refine dn ?_
   refine hw_block ?_
   refine hw_loopw2 [6, 8, 27, 28, 29, 30, 31, 32, 33, 34] (fun (j : Nat) (u : Value) => [(27, .int .i64 j), (6, .raw u)]) (fun (j : Nat) (u : Value) => [.arr u 3 ((LL.take j).flatten.map eLine)]) (fun (j : Nat) (u : Value) => j ≤ LL.length ∧ (True)) (fun (j : Nat) (u : Value) => LL.length - j) (0) (u24) ?_ ?_ ?_ ?_
   ·exact ⟨Nat.zero_le _, trivial⟩
   ·exact ⟨rfl, rfl, trivial⟩
   ·exact List.Perm.refl _
   ·intro j u hinv
    obtain ⟨hj, -⟩ := hinv
    refine hw_reg ?_
    refine dp rfl (pop_lss rfl rfl) ?_
    refine dn ?_
    refine hw_seq ?_
    refine hw_cond rfl (fun h4 => ?_) (fun h5 => ?_)
    ·try simp at h4
     obtain ⟨y, hy⟩ : ∃ y, LL[j]? = some y := ⟨_, List.getElem?_eq_getElem h4⟩
     have hdy := drop_cons hy
     refine hw_skip ?_
     refine seqQ_n ?_
     refine hw_seq ?_
     refine hw_block ?_
     refine hw_reg ?_
     refine dp rfl (pop_idx (f := fun l : List LineS => HVal.slice 3 (l.map eLine)) (l := LL) (j := j) (a := y) ty199 ty54 rfl rfl rfl hy) ?_
     refine dp rfl (pop_load ty54 rfl rfl rfl) ?_
     refine dp rfl (pop_assign rfl) ?_
     refine dn ?_
     refine hw_reg1 ?_
     refine dp rfl (pop_move rfl) ?_
     refine dp rfl (pop_move rfl) ?_
     refine de rfl (eop_append (i := 0) ty54 ty63 rfl rfl rfl rfl rfl (by simp [flat, hcells]) (by have h1 := flat_take_le LL (j + 1); have h2 := flat_take_snoc hy; simp only [List.length_map]; omega) fun v33 => ?_)
     refine dp rfl (pop_assign rfl) ?_
     refine dn ?_
     refine blockQ_n ?_
     refine seqQ_n ?_
     refine hw_reg1 ?_
     refine dp rfl (pop_add64 rfl rfl (by omega) (by omega)) ?_
     refine dp rfl (pop_move rfl) ?_
     refine dn ?_
     exact ⟨j + 1, v33, ⟨by omega, trivial⟩, by dsimp only; omega, ⟨rfl, rfl, trivial⟩, (by repeat (first | exact keeps_refl | refine keeps_upd rfl ?_ | refine keeps_loop rfl rfl ?_)), perm_eq (by dsimp only; rw [flat_take_app hy, List.map_append]; rfl)⟩
    ·try simp at h5
     have hnj : LL.length ≤ j := by omega
     obtain rfl : j = LL.length := by omega
     refine hw_exit ?_
     refine seqQ_x ?_
     refine loopQ2_x ?_
     refine blockQ_eq ?_
     refine seqQ_n ?_
     refine hw_reg ?_
     refine dp rfl (pop_move rfl) ?_
     refine dp rfl (pop_assign rfl) ?_
     refine dn ?_
     refine hw_ret ?_
     refine ret_a rfl ?_
     rw [List.take_length]

/-- slices.IndexFunc[[]benchwarmer/api.Line,benchwarmer/api.Line] -/
theorem c_slices_IndexFunc_api_Line_api_Line [Tracks] {l : List LineS} {fid : FuncId} {caps : List HVal} {p : LineS → Bool} (hca : Callable Tryz.prog fid) (hp : ∀ x, ConP Tryz.prog fid ([eLine x] ++ caps) (.bool (p x))) (hl : l.length ≤ 1000000) : ConP Tryz.prog 141 [.slice 3 (l.map eLine), .fn (.func fid) [] caps] (.int .i64 (idxF p l 0)) := by
 refine Con.of_body Tryz.func141 rfl Tryz.ntmps141 rfl rfl ?_
 refine hw_reg ?_
 refine dp rfl (pop_assign rfl) ?_
 refine dn ?_
 refine hw_seq ?_
 refine hw_reg ?_
 refine dp rfl (pop_move rfl) ?_
 refine dp rfl (pop_lenm ty54 rfl) ?_
 refine dp rfl (pop_move rfl) ?_
 refine dn ?_
 refine hw_block ?_
 refine hw_loopw [4, 5, 8, 9, 10, 11, 12, 13, 14, 15, 16, 17, 18] (fun (k : Nat) => [(8, .int .i64 k)]) (fun (k : Nat) => []) (fun (k : Nat) => k ≤ l.length ∧ (idxF p l 0 = idxF p (l.drop k) k)) (fun (k : Nat) => l.length - k) (0) ?_ ?_ ?_ ?_
 ·exact ⟨Nat.zero_le _, rfl⟩
 ·exact ⟨rfl, trivial⟩
 ·exact List.Perm.refl _
 ·intro k hinv
  obtain ⟨hk, hg⟩ := hinv
  refine hw_reg ?_
  refine dp rfl (pop_lss rfl rfl) ?_
  refine dn ?_
  refine hw_seq ?_
  refine hw_cond rfl (fun h1 => ?_) (fun h2 => ?_)
  ·try simp at h1
   obtain ⟨x, hx⟩ : ∃ x, l[k]? = some x := ⟨_, List.getElem?_eq_getElem h1⟩
   have hdx := drop_cons hx
   rw [hdx] at hg
   refine hw_skip ?_
   refine seqQ_n ?_
   refine hw_seq ?_
   refine hw_block ?_
   refine hw_reg ?_
   refine dp rfl (pop_move rfl) ?_
   refine dp rfl (pop_assign rfl) ?_
   refine dn ?_
   refine hw_reg ?_
   refine dp rfl (pop_move rfl) ?_
   refine dp rfl (pop_move rfl) ?_
   refine dp rfl (pop_move rfl) ?_
   refine dp rfl (pop_idx ty54 ty63 rfl rfl rfl (by first | assumption | simp_all)) ?_
   refine dp rfl (pop_loadw ty63 rfl rfl rfl rfl) ?_
   refine dp rfl (pop_callv hca rfl rfl (WeakL.refl _) (hp _)) ?_
   refine dn ?_
   refine hw_cond rfl (fun h3 => ?_) (fun h4 => ?_)
   ·try simp at h3
    refine hw_reg ?_
    refine dp rfl (pop_move rfl) ?_
    refine dp rfl (pop_assign rfl) ?_
    refine dn ?_
    refine hw_ret ?_
    refine ret_p rfl ?_
    show HVal.int .i64 _ = _
    first | (rw [hg]; rfl) | (rw [hg]; simp_all [idxF])
   ·try simp at h4
    refine hw_skip ?_
    refine blockQ_n ?_
    refine seqQ_n ?_
    refine hw_reg1 ?_
    refine dp rfl (pop_add64 rfl rfl (by omega) (by omega)) ?_
    refine dp rfl (pop_move rfl) ?_
    refine dn ?_
    refine ⟨k + 1, ?_, ?_, ⟨rfl, trivial⟩, (by repeat (first | exact keeps_refl | refine keeps_upd rfl ?_ | refine keeps_loop rfl rfl ?_)), List.Perm.refl _⟩
    ·refine ⟨by omega, ?_⟩
     rw [hg, idxF, if_neg (by simp_all)]; rfl
    ·dsimp only; omega
  ·try simp at h2
   have hnk : l.length ≤ k := by omega
   obtain rfl : k = l.length := by omega
   rw [drop_all (Nat.le_refl _)] at hg
   refine hw_exit ?_
   refine seqQ_x ?_
   refine loopQ_x ?_
   refine blockQ_eq ?_
   refine seqQ_n ?_
   refine hw_reg ?_
   refine dp rfl (pop_assign rfl) ?_
   refine dn ?_
   refine hw_ret ?_
   refine ret_p rfl ?_
   show HVal.int .i64 _ = _
   first | (rw [hg]; rfl) | (rw [hg]; simp_all [idxF])

/-- slices.ContainsFunc[[]benchwarmer/api.Line,benchwarmer/api.Line] -/
theorem c_slices_ContainsFunc_api_Line_api_Line [Tracks] {l : List LineS} {fid : FuncId} {caps : List HVal} {p : LineS → Bool} (hca : Callable Tryz.prog fid) (hp : ∀ x, ConP Tryz.prog fid ([eLine x] ++ caps) (.bool (p x))) (hl : l.length ≤ 1000000) : ConP Tryz.prog 95 [.slice 3 (l.map eLine), .fn (.func fid) [] caps] (.bool (l.any p)) := by
 refine Con.of_body Tryz.func95 rfl Tryz.ntmps95 rfl rfl ?_
 refine hw_reg ?_
 refine dp rfl (pop_assign rfl) ?_
 refine dn ?_
 refine hw_reg ?_
 refine dp rfl (pop_move rfl) ?_
 refine dp rfl (pop_move rfl) ?_
 refine dp rfl (pop_call ca141 rfl (WeakL.refl _) (c_slices_IndexFunc_api_Line_api_Line hca hp hl)) ?_
 refine dp rfl (pop_geq rfl rfl) ?_
 refine dp rfl (pop_assign rfl) ?_
 refine dn ?_
 refine hw_ret ?_
 refine ret_p rfl ?_
 congr 1; exact idxF_nonneg p l 0 (by omega)

/-- slices.Clone[[]benchwarmer/api.Line,benchwarmer/api.Line] -/
theorem c_slices_Clone_api_Line_api_Line [Tracks] {l : List LineS} (hl : l.length ≤ 1000000) : ConA Tryz.prog 93 [.slice 3 (l.map eLine)] 3 (l.map eLine) := by
 refine Con.of_body Tryz.func93 rfl Tryz.ntmps93 rfl rfl ?_
 refine hw_reg ?_
 refine dp rfl (pop_assign rfl) ?_
 refine dn ?_
 refine hw_seq ?_
 refine hw_reg ?_
 refine dp rfl (pop_move rfl) ?_
 refine de rfl (eop_eqnil ty54 rfl rfl fun b4 hb4 => ?_)
 refine dn ?_
 refine hw_cond rfl (fun h1 => ?_) (fun h2 => ?_)
 ·try simp at h1
  refine hw_reg ?_
  refine dp rfl (pop_assign rfl) ?_
  refine dn ?_
  refine hw_ret ?_
  first | exact ret_a rfl rfl | exact ret_g (Ghost.arr_nil 3) rfl ⟨_, rfl, by simp_all⟩
 ·try simp at h2
  refine hw_skip ?_
  refine seqQ_n ?_
  refine hw_reg ?_
  refine de rfl (eop_mk0 ty54 ty63 fun v5 => ?_)
  refine dp rfl (pop_move rfl) ?_
  refine de rfl (eop_append (i := 0) ty54 ty63 rfl rfl rfl rfl rfl (by simp [flat, hcells]) (by first | omega | (simp; omega)) fun v7 => ?_)
  refine dp rfl (pop_assign rfl) ?_
  refine dn ?_
  refine hw_ret ?_
  first | exact ret_a rfl rfl | exact ret_g (Ghost.arr_nil 3) rfl ⟨_, rfl, by simp_all⟩

/-- benchwarmer/benchref1.put$1 -/
theorem c_benchref1_put_1 [Tracks] {x : LineS} {p : Str} {w : Int}  : ConP Tryz.prog 142 [eLine x, .vptr [.str p] 0, .vptr [.int .i64 w] 0] (.bool (atPl p w x)) := by
 refine Con.of_body Tryz.func142 rfl Tryz.ntmps142 rfl rfl ?_
 refine hw_reg ?_
 refine dp rfl (pop_box rfl rfl) ?_
 refine dp rfl (pop_assign rfl) ?_
 refine dn ?_
 refine hw_reg ?_
 refine dp rfl (pop_fieldAddr ty63 rfl ty9 (by decide) rfl) ?_
 refine dp rfl (pop_load ty9 rfl rfl rfl) ?_
 refine dp rfl (pop_load ty9 rfl rfl rfl) ?_
 refine dp rfl (pop_eqls rfl rfl) ?_
 refine dp rfl (pop_move rfl) ?_
 refine dg rfl rfl (fun hc => ⟨_, OpenTo.refl _, pop_fieldAddr ty63 rfl ty3 (by decide) rfl⟩) ?_
 refine dg rfl rfl (fun hc => ⟨_, OpenTo.upd (t := 10) rfl (by first | exact hc | simp_all) (OpenTo.refl _), pop_load ty3 rfl rfl rfl⟩) ?_
 refine dg rfl rfl (fun hc => ⟨_, OpenTo.refl _, pop_load ty3 rfl rfl rfl⟩) ?_
 refine dg rfl rfl (fun hc => ⟨_, OpenTo.upd (t := 12) rfl (by first | exact hc | simp_all) (OpenTo.upd (t := 11) rfl (by first | exact hc | simp_all) (OpenTo.refl _)), pop_eql rfl rfl⟩) ?_
 refine dp rfl (pop_picko rfl (.inr ⟨_, rfl, fun h => by simp_all⟩) (.inl rfl)) ?_
 refine dp rfl (pop_assign rfl) ?_
 refine dn ?_
 refine hw_ret ?_
 refine ret_p rfl ?_
 show HVal.bool _ = _
 unfold atPl
 cases x.Player == p <;> simp_all

set_option maxHeartbeats 1000000 in
/-- benchwarmer/benchref1.put -/
theorem c_benchref1_put [Tracks] {v : Value} {l : List LineS} {p s : Str} {w n : Int} (hl : l.length ≤ 1000) (hs : ∀ x ∈ l, x.Stats.length ≤ 1000) : Con Tryz.prog 94 [.raw v, .str p, .int .i64 w, .str s, .int .i64 n] [.arr v 3 (l.map eLine)] (fun x M' => ∃ u, x = .raw u ∧ M' = [.arr u 3 ((putL p w s n l).map eLine)]) := by
 refine Con.of_body Tryz.func94 rfl Tryz.ntmps94 rfl rfl ?_
 refine hw_reg ?_
 refine dp rfl (pop_box rfl rfl) ?_
 refine dp rfl (pop_box rfl rfl) ?_
 refine dp rfl (pop_assign rfl) ?_
 refine dn ?_
 refine hw_arrl (i := 0) rfl (fun va vc hv => ?_)
 rw [List.length_map] at hv
 subst hv
 refine hw_reg ?_
 refine dp rfl (pop_move rfl) ?_
 refine dp rfl (pop_makeFunc rfl rfl) ?_
 refine de rfl (eop_callb (hs' := [.slice 3 (l.map eLine), .fn (.func 142) [] [.vptr [.str p] 0, .vptr [.int .i64 w] 0]]) ca141 rfl ⟨.arr (i := 0) rfl, .weak (Weak.refl _), trivial⟩ (c_slices_IndexFunc_api_Line_api_Line (l := l) (p := atPl p w) ca142 (fun _ => c_benchref1_put_1) (by omega)) rfl ?_)
 refine dp rfl (pop_assign rfl) ?_
 refine dn ?_
 refine hw_join [0, 11, 18, 19, 20, 21, 22, 23, 24, 25, 26, 27] (fun (q : Value × List LineS × Nat) => [(0, .raw q.1), (11, .int .i64 (q.2.2 : Int))]) (fun (q : Value × List LineS × Nat) => [.arr q.1 3 (q.2.1.map eLine)]) (fun (q : Value × List LineS × Nat) => ∃ st : List StatS, q.2.1[q.2.2]? = some ⟨p, w, st⟩ ∧ st.length ≤ 1000 ∧ q.2.1.set q.2.2 ⟨p, w, putSt st s n⟩ = putL p w s n l ∧ q.2.1.length ≤ 1001) ?_ ?_
 ·skip
  refine hw_reg ?_
  refine dp rfl (pop_move rfl) ?_
  refine dp rfl (pop_lss rfl rfl) ?_
  refine dn ?_
  refine hw_cond rfl (fun h1 => ?_) (fun h2 => ?_)
  ·try simp at h1
   refine hw_reg1 ?_
   refine dp rfl (pop_move rfl) ?_
   refine dp rfl (pop_load ty9 rfl rfl rfl) ?_
   refine dp rfl (pop_load ty3 rfl rfl rfl) ?_
   refine dp rfl (pop_weak (weak_line0 p w) (pop_build (cs := [_, _, _]) ty63 pl63 rfl)) ?_
   refine dp rfl (pop_buildSlice (hs := [_]) ty54 ty63 rfl rfl (by decide) (by decide) rfl) ?_
   refine de rfl (eop_append (i := 0) ty54 ty63 rfl rfl rfl rfl rfl (by simp [flat, hcells]) (by simp only [List.length_map, List.length_cons, List.length_nil]; omega) fun v25 => ?_)
   refine dp rfl (pop_move rfl) ?_
   refine dp rfl (pop_len_raw ty54 rfl) ?_
   refine dp rfl (pop_assign rfl) ?_
   refine dp rfl (pop_assign rfl) ?_
   refine dn ?_
   exact ⟨(v25, l ++ [⟨p, w, []⟩], l.length), ⟨[], by simp, by simp, put_new (by simpa using h1), by simp; omega⟩, ⟨rfl, some_int (by dsimp only), trivial⟩, (by repeat (first | exact keeps_refl | refine keeps_upd rfl ?_ | refine keeps_loop rfl rfl ?_)), perm_eq (by simp)⟩
  ·try simp at h2
   refine hw_skip ?_
   obtain ⟨i0, st0, hi0, hi1, hi2, hi3⟩ := put_old (s := s) (n := n) (l := l) (p := p) (w := w) (by simpa using h2)
   exact ⟨(_, l, i0), ⟨st0, hi2, hs _ (List.mem_of_getElem? hi2), hi3, by dsimp only; omega⟩, ⟨rfl, some_int hi0, trivial⟩, (by repeat (first | exact keeps_refl | refine keeps_upd rfl ?_ | refine keeps_loop rfl rfl ?_)), List.Perm.refl _⟩
 ·intro q hq
  obtain ⟨v1, l1, k⟩ := q
  dsimp only at hq ⊢
  obtain ⟨st, hk, hst, hset, hl1⟩ := hq
  have hkl := lt_of_get hk
  refine hw_reg ?_
  refine de rfl (eop_makeMap fun m28 => ?_)
  refine dp rfl (pop_assign rfl) ?_
  refine dn ?_
  refine hw_seq ?_
  refine hw_arrc (i := 1) rfl (fun h0 he => ?_) (fun b off cap hv hcap => ?_)
  ·exfalso; have := congrArg List.length he; simp at this; subst this; simp at hkl
  rw [List.length_map] at hv hcap
  subst hv
  refine hw_reg ?_
  refine dp rfl (pop_move rfl) ?_
  refine dp rfl (pop_move rfl) ?_
  refine dp rfl (pop_idxraw (j := k) ty54 ty63 rfl rfl rfl (by omega)) ?_
  refine dp rfl ((by first | exact pop_fieldAddr ty63 rfl ty61 (by decide) rfl | exact pop_fieldAddr_raw ty63 rfl ty61 (by decide) rfl)) ?_
  refine de rfl (eop_load_el (i := 1) (j := k) 2 ty61 rfl (by omega) rfl hk rfl rfl ?_)
  refine dp rfl (pop_lenm (f := eStat) (l := st) ty61 rfl) ?_
  refine dp rfl (pop_move rfl) ?_
  refine dn ?_
  refine hw_block ?_
  refine hw_loopw [14, 35, 36, 37, 38, 39, 40, 41, 42, 43, 44] (fun (j : Nat) => [(35, .int .i64 j)]) (fun (j : Nat) => [.map m28 (sk (em (HVal.int .i64) (stP (st.take j)))), .arr (.slice (some ⟨b, off, none⟩) l1.length cap) 3 (l1.map eLine)]) (fun (j : Nat) => j ≤ st.length ∧ (True)) (fun (j : Nat) => st.length - j) (0) ?_ ?_ ?_ ?_
  ·exact ⟨Nat.zero_le _, trivial⟩
  ·exact ⟨rfl, trivial⟩
  ·exact perm_eq rfl
  ·intro j hinv
   obtain ⟨hj, -⟩ := hinv
   refine hw_reg ?_
   refine dp rfl (pop_lss rfl rfl) ?_
   refine dn ?_
   refine hw_seq ?_
   refine hw_cond rfl (fun h3 => ?_) (fun h4 => ?_)
   ·try simp at h3
    obtain ⟨z, hz⟩ : ∃ z, st[j]? = some z := ⟨_, List.getElem?_eq_getElem h3⟩
    have hdz := drop_cons hz
    refine hw_skip ?_
    refine seqQ_n ?_
    refine hw_seq ?_
    refine hw_block ?_
    refine hw_reg ?_
    refine dp rfl (pop_idx (f := eStat) (l := st) (j := j) (a := z) ty61 ty121 rfl rfl rfl hz) ?_
    refine dp rfl (pop_loadw ty121 rfl rfl rfl rfl) ?_
    refine de rfl (eop_alloc ty121 rfl fun b14 => ?_)
    refine de0 (eop_storew ty121 rfl rfl rfl rfl rfl ?_)
    refine dn ?_
    refine hw_ghost (Ghost.fc0 14 rfl) ?_
    refine hw_reg1 ?_
    refine dp rfl (pop_move rfl) ?_
    refine dp rfl ((by first | exact pop_fieldAddr ty121 rfl ty9 (by decide) rfl | exact pop_fieldAddr_raw ty121 rfl ty9 (by decide) rfl)) ?_
    refine dp rfl (pop_load ty9 rfl rfl rfl) ?_
    refine dp rfl ((by first | exact pop_fieldAddr ty121 rfl ty3 (by decide) rfl | exact pop_fieldAddr_raw ty121 rfl ty3 (by decide) rfl)) ?_
    refine dp rfl (pop_load ty3 rfl rfl rfl) ?_
    refine de0 (eop_updateA (i := 0) (f := (HVal.int .i64)) (s := z.Name) (v := z.Count) ty155 ty9 rfl rfl rfl rfl ?_)
    refine dn ?_
    refine blockQ_n ?_
    refine seqQ_n ?_
    refine hw_reg1 ?_
    refine dp rfl (pop_add64 rfl rfl (by omega) (by omega)) ?_
    refine dp rfl (pop_move rfl) ?_
    refine dn ?_
    exact ⟨j + 1, ⟨by omega, trivial⟩, by dsimp only; omega, ⟨rfl, trivial⟩, (by repeat (first | exact keeps_refl | refine keeps_upd rfl ?_ | refine keeps_loop rfl rfl ?_)), perm_eq (by dsimp only; rw [stP_snoc hz]; rfl)⟩
   ·try simp at h4
    have hnj : st.length ≤ j := by omega
    obtain rfl : j = st.length := by omega
    rw [List.take_length]
    refine hw_exit ?_
    refine seqQ_x ?_
    refine loopQ_x ?_
    refine blockQ_eq ?_
    refine seqQ_n ?_
    refine hw_reg ?_
    refine dp rfl (pop_move rfl) ?_
    refine dp rfl (pop_move rfl) ?_
    refine dp rfl (pop_move rfl) ?_
    refine de0 (eop_updateA (i := 0) (f := (HVal.int .i64)) (s := s) (v := n) ty155 ty9 rfl rfl rfl rfl ?_)
    refine dn ?_
    refine hw_reg ?_
    refine dp rfl (pop_move rfl) ?_
    refine dp rfl (pop_move rfl) ?_
    refine dp rfl (pop_move rfl) ?_
    refine de rfl (eop_callf (M1 := [.map m28 (sk (em (HVal.int .i64) (aput s n (stP st))))]) (R := [.arr (.slice (some ⟨b, off, none⟩) l1.length cap) 3 (l1.map eLine)]) ca107 rfl (WeakL.refl _) (List.Perm.refl _) (c_benchref1_stats (c := aput s n (stP st)) (stP_nodup st).put (Nat.le_trans (aput_le _ _ _) (by have := stP_len st; omega))) ?_)
    rintro _ _ ⟨rfl, rfl⟩
    refine dp rfl (pop_idxraw (j := k) ty54 ty63 rfl rfl rfl (by omega)) ?_
    refine dp rfl ((by first | exact pop_fieldAddr ty63 rfl ty61 (by decide) rfl | exact pop_fieldAddr_raw ty63 rfl ty61 (by decide) rfl)) ?_
    refine de0 (eop_store_arr (i := 1) (j := k) (f := 2) (y := eLine ⟨p, w, st⟩) (y' := eLine ⟨p, w, putSt st s n⟩) ty61 rfl (by omega) rfl rfl (map_get hk) rfl rfl (by simp [hcells]) rfl ?_)
    refine dn ?_
    refine hw_reg ?_
    refine dp rfl (pop_move rfl) ?_
    refine dp rfl (pop_assign rfl) ?_
    refine dn ?_
    refine hw_ret ?_
    exact ret_g Ghost.drop rfl ⟨_, rfl, by rw [← hset, List.map_set]; rfl⟩

/-- benchwarmer/benchref1.MendedOf$1 -/
theorem c_benchref1_MendedOf_1 [Tracks] {x : LineS}  : ConP Tryz.prog 96 [eLine x] (.bool (decide (40 < x.Stats.length))) := by
 refine Con.of_body Tryz.func96 rfl Tryz.ntmps96 rfl rfl ?_
 refine hw_reg ?_
 refine dp rfl (pop_box rfl rfl) ?_
 refine dp rfl (pop_assign rfl) ?_
 refine dn ?_
 refine hw_reg ?_
 refine dp rfl (pop_fieldAddr ty63 rfl ty61 (by decide) rfl) ?_
 refine dp rfl (pop_load ty61 rfl rfl rfl) ?_
 refine dp rfl (pop_lenm ty61 rfl) ?_
 refine dp rfl (pop_gtr rfl rfl) ?_
 refine dp rfl (pop_assign rfl) ?_
 refine dn ?_
 refine hw_ret ?_
 refine ret_p rfl ?_
 show HVal.bool _ = _
 refine congrArg _ (decide_eq_decide.2 ?_)
 omega

set_option maxHeartbeats 1000000 in
/-- benchwarmer/benchref1.MendedOf -/
theorem c_benchref1_MendedOf [Tracks] {l : List LineS} {m : List MendS} {n : Int} (hl : l.length ≤ 6) (hs : ∀ x ∈ l, x.Stats.length ≤ 4) (hm : m.length ≤ 24) (h0 : linesFE l = 0) : ConP Tryz.prog 39 [eLines l, eMends m, .int .i64 n] (.tup [eLines (mdL l m n), .int .i64 0]) := by
 refine Con.of_body Tryz.func39 rfl Tryz.ntmps39 rfl rfl ?_
 refine hw_reg ?_
 refine dp rfl (pop_assign rfl) ?_
 refine dp rfl (pop_assign rfl) ?_
 refine dn ?_
 refine hw_reg ?_
 refine dp rfl (pop_move rfl) ?_
 refine de rfl (eop_calla ca93 rfl (WeakL.refl _) (c_slices_Clone_api_Line_api_Line (l := l) (by omega)) fun v12 => ?_)
 refine dp rfl (pop_assign rfl) ?_
 refine dn ?_
 refine hw_seq ?_
 refine hw_reg ?_
 refine dp rfl (pop_move rfl) ?_
 refine dp rfl (pop_lenm ty46 rfl) ?_
 refine dp rfl (pop_move rfl) ?_
 refine dn ?_
 refine hw_block ?_
 refine hw_loopw2 [8, 10, 15, 16, 17, 18, 19, 20, 21, 22, 23, 24, 25, 26, 27, 28, 29, 30, 31, 32, 33] (fun (k : Nat) (u : Value) => [(15, .int .i64 k), (8, .raw u)]) (fun (k : Nat) (u : Value) => [.arr u 3 ((rfGo l (m.take k) n).map eLine)]) (fun (k : Nat) (u : Value) => k ≤ m.length ∧ (True)) (fun (k : Nat) (u : Value) => m.length - k) (0) (v12) ?_ ?_ ?_ ?_
 ·exact ⟨Nat.zero_le _, trivial⟩
 ·exact ⟨rfl, rfl, trivial⟩
 ·exact perm_eq rfl
 ·intro k u hinv
  obtain ⟨hk, -⟩ := hinv
  have hrl := rfGo_len (m.take k) n l
  have hrs := rfGo_stats (m.take k) n l hs
  rw [List.length_take] at hrl hrs
  refine hw_reg ?_
  refine dp rfl (pop_lss rfl rfl) ?_
  refine dn ?_
  refine hw_seq ?_
  refine hw_cond rfl (fun h1 => ?_) (fun h2 => ?_)
  ·try simp at h1
   obtain ⟨x, hx⟩ : ∃ x, m[k]? = some x := ⟨_, List.getElem?_eq_getElem h1⟩
   have hdx := drop_cons hx
   refine hw_skip ?_
   refine seqQ_n ?_
   refine hw_seq ?_
   refine hw_block ?_
   refine hw_reg ?_
   refine dp rfl (pop_idx ty46 ty69 rfl rfl rfl (by first | assumption | simp_all)) ?_
   refine dp rfl (pop_loadw ty69 rfl rfl rfl rfl) ?_
   refine de rfl (eop_alloc ty69 rfl fun b10 => ?_)
   refine de0 (eop_storew ty69 rfl rfl rfl rfl rfl ?_)
   refine dn ?_
   refine hw_ghost (Ghost.fc0 10 rfl) ?_
   refine hw_reg ?_
   refine dp rfl ((by first | exact pop_fieldAddr ty69 rfl ty3 (by decide) rfl | exact pop_fieldAddr_raw ty69 rfl ty3 (by decide) rfl)) ?_
   refine dp rfl (pop_load ty3 rfl rfl rfl) ?_
   refine dp rfl (pop_move rfl) ?_
   refine dp rfl (pop_leq rfl rfl) ?_
   refine dn ?_
   refine hw_cond rfl (fun h3 => ?_) (fun h4 => ?_)
   ·try simp at h3
    refine hw_reg1 ?_
    refine dp rfl (pop_move rfl) ?_
    refine dp rfl ((by first | exact pop_fieldAddr ty69 rfl ty9 (by decide) rfl | exact pop_fieldAddr_raw ty69 rfl ty9 (by decide) rfl)) ?_
    refine dp rfl (pop_load ty9 rfl rfl rfl) ?_
    refine dp rfl ((by first | exact pop_fieldAddr ty69 rfl ty3 (by decide) rfl | exact pop_fieldAddr_raw ty69 rfl ty3 (by decide) rfl)) ?_
    refine dp rfl (pop_load ty3 rfl rfl rfl) ?_
    refine dp rfl ((by first | exact pop_fieldAddr ty69 rfl ty9 (by decide) rfl | exact pop_fieldAddr_raw ty69 rfl ty9 (by decide) rfl)) ?_
    refine dp rfl (pop_load ty9 rfl rfl rfl) ?_
    refine dp rfl ((by first | exact pop_fieldAddr ty69 rfl ty3 (by decide) rfl | exact pop_fieldAddr_raw ty69 rfl ty3 (by decide) rfl)) ?_
    refine dp rfl (pop_load ty3 rfl rfl rfl) ?_
    refine de rfl (eop_callx (i := 0) ca94 rfl (WeakL.refl _) rfl (c_benchref1_put (l := rfGo l (m.take k) n) (by omega) (fun y hy => by have := hrs y hy; omega)) ?_)
    rintro _ _ ⟨u32, rfl, rfl⟩
    refine dp rfl (pop_assign rfl) ?_
    refine dn ?_
    refine blockQ_n ?_
    refine seqQ_n ?_
    refine hw_reg1 ?_
    refine dp rfl (pop_add64 rfl rfl (by omega) (by omega)) ?_
    refine dp rfl (pop_move rfl) ?_
    refine dn ?_
    exact ⟨k + 1, u32, ⟨by omega, trivial⟩, by dsimp only; omega, ⟨rfl, rfl, trivial⟩, (by repeat (first | exact keeps_refl | refine keeps_upd rfl ?_ | refine keeps_loop rfl rfl ?_)), perm_eq (by dsimp only; rw [rfGo_snoc hx, rfStep, if_pos (by assumption)]; rfl)⟩
   ·try simp at h4
    refine hw_skip ?_
    refine blockQ_n ?_
    refine seqQ_n ?_
    refine hw_reg1 ?_
    refine dp rfl (pop_add64 rfl rfl (by omega) (by omega)) ?_
    refine dp rfl (pop_move rfl) ?_
    refine dn ?_
    exact ⟨k + 1, u, ⟨by omega, trivial⟩, by dsimp only; omega, ⟨rfl, rfl, trivial⟩, (by repeat (first | exact keeps_refl | refine keeps_upd rfl ?_ | refine keeps_loop rfl rfl ?_)), perm_eq (by dsimp only; rw [rfGo_snoc hx, rfStep, if_neg (by omega)])⟩
  ·try simp at h2
   have hnk : m.length ≤ k := by omega
   obtain rfl : k = m.length := by omega
   rw [List.take_length] at hrl hrs ⊢
   refine hw_exit ?_
   refine seqQ_x ?_
   refine loopQ2_x ?_
   refine blockQ_eq ?_
   refine seqQ_n ?_
   refine hw_seq ?_
   refine hw_reg ?_
   refine dp rfl (pop_move rfl) ?_
   refine de rfl (eop_lenm (i := 0) (es := rfGo l m n) ty54 rfl rfl ?_)
   refine dp rfl (pop_gtr rfl rfl) ?_
   refine dp rfl (pop_move rfl) ?_
   refine dg rfl rfl (fun hc => ⟨_, OpenTo.refl _, pop_move rfl⟩) ?_
   refine dgx (fun x M' => x = .bool ((rfGo l m n).any fun x => decide (40 < x.Stats.length)) ∧ M' = [.arr u 3 ((rfGo l m n).map eLine)]) rfl rfl (fun hc => ⟨_, rfl, rfl⟩) (fun hc => ⟨_, OpenTo.upd (t := 38) rfl (by first | exact hc | simp_all) (OpenTo.refl _), eop_callb (hs' := [eLines (rfGo l m n), .fn (.func 96) [] []]) ca95 rfl ⟨.arr (i := 0) rfl, .weak (Weak.refl _), trivial⟩ (c_slices_ContainsFunc_api_Line_api_Line (l := rfGo l m n) (p := fun x => decide (40 < x.Stats.length)) ca96 (fun _ => c_benchref1_MendedOf_1) (by omega)) rfl ⟨rfl, rfl⟩⟩) ?_
   rintro _ _ ⟨rfl, rfl⟩
   refine dp rfl (pop_picko rfl (.inl rfl) (.inr ⟨_, rfl, fun h => by simp_all⟩)) ?_
   refine dn ?_
   refine hw_cond rfl (fun h5 => ?_) (fun h5 => ?_)
   ·exfalso
    try simp at h5
    rcases h5 with q | ⟨y, hy, q⟩
    ·omega
    ·have := hrs y hy; omega
   ·try simp at h5
    refine hw_skip ?_
    refine seqQ_n ?_
    refine hw_reg ?_
    refine dp rfl (pop_move rfl) ?_
    refine de rfl (eop_callx (i := 0) ca97 rfl (WeakL.refl _) rfl (c_sort_Line (c := byWk) (swo_cmp byWk_cmp) ca78 (fun _ _ => @c_benchref1_byLine trackOn _ _) (l := rfGo l m n) (by omega)) ?_)
    rintro _ _ ⟨l', rfl, hp', hw', rfl⟩
    obtain rfl := rf_sorted h0 hp' hw'
    refine dn ?_
    refine hw_reg ?_
    refine dp rfl (pop_move rfl) ?_
    refine dp rfl (pop_assign rfl) ?_
    refine dp rfl (pop_assign rfl) ?_
    refine dn ?_
    refine hw_ret ?_
    exact ret_fa (M := []) 6 rfl rfl rfl
end Go.Proofs.YtkamelfigfbfiaaGreatDoor
end
section
namespace Go.Proofs.YtkamelfigfbfiaaGreatDoor
open Go.HL
set_option maxRecDepth 100000
set_option linter.unusedVariables false
set_option linter.unusedSimpArgs false
/-- benchwarmer/benchref1.CountIn -/
theorem c_benchref1_CountIn [Tracks] {l : List LineS} {p s : Str} {w : Int} (hl : l.length ≤ 1000000) (hs : ∀ x ∈ l, x.Stats.length ≤ 1000000) : ConP Tryz.prog 44 [eLines l, .str p, .int .i64 w, .str s] (.int .i64 (cntR l (p, w, s))) := by
 refine Con.of_body Tryz.func44 rfl Tryz.ntmps44 rfl rfl ?_
 refine hw_reg ?_
 refine dp rfl (pop_assign rfl) ?_
 refine dn ?_
 refine hw_seq ?_
 refine hw_reg ?_
 refine dp rfl (pop_move rfl) ?_
 refine dp rfl (pop_lenm ty54 rfl) ?_
 refine dp rfl (pop_move rfl) ?_
 refine dn ?_
 refine hw_block ?_
 refine hw_loopw [8, 10, 12, 15, 16, 17, 18, 19, 20, 21, 22, 23, 24, 25, 26, 27, 28, 29, 30, 31, 32, 33, 34, 35, 36, 37, 38, 39, 40, 41, 42, 43, 44, 45] (fun (k : Nat) => [(15, .int .i64 k)]) (fun (k : Nat) => []) (fun (k : Nat) => k ≤ l.length ∧ (alk (p, w, s) (flA l) = alk (p, w, s) (flA (l.drop k)))) (fun (k : Nat) => l.length - k) (0) ?_ ?_ ?_ ?_
 ·exact ⟨Nat.zero_le _, rfl⟩
 ·exact ⟨rfl, trivial⟩
 ·exact List.Perm.refl _
 ·intro k hinv
  obtain ⟨hk, hg⟩ := hinv
  refine hw_reg ?_
  refine dp rfl (pop_lss rfl rfl) ?_
  refine dn ?_
  refine hw_seq ?_
  refine hw_cond rfl (fun h1 => ?_) (fun h2 => ?_)
  ·try simp at h1
   obtain ⟨x, hx⟩ : ∃ x, l[k]? = some x := ⟨_, List.getElem?_eq_getElem h1⟩
   have hdx := drop_cons hx
   rw [hdx] at hg
   have hxl := hs x (List.mem_of_getElem? hx)
   refine hw_skip ?_
   refine seqQ_n ?_
   refine hw_seq ?_
   refine hw_block ?_
   refine hw_reg ?_
   refine dp rfl (pop_idx ty54 ty63 rfl rfl rfl (by first | assumption | simp_all)) ?_
   refine dp rfl (pop_loadw ty63 rfl rfl rfl rfl) ?_
   refine de rfl (eop_alloc ty63 rfl fun b10 => ?_)
   refine de0 (eop_storew ty63 rfl rfl rfl rfl rfl ?_)
   refine dn ?_
   refine hw_ghost (Ghost.fc0 10 rfl) ?_
   refine hw_reg ?_
   refine dp rfl (pop_fieldAddr ty63 rfl ty61 (by decide) rfl) ?_
   refine dp rfl (pop_load ty61 rfl rfl rfl) ?_
   refine dp rfl (pop_lenm ty61 rfl) ?_
   refine dp rfl (pop_move rfl) ?_
   refine dn ?_
   refine hw_block ?_
   refine hw_loopw [8, 12, 22, 23, 24, 25, 26, 27, 28, 29, 30, 31, 32, 33, 34, 35, 36, 37, 38, 39, 40, 41, 42, 43, 44] (fun (j : Nat) => [(22, .int .i64 j)]) (fun (j : Nat) => []) (fun (j : Nat) => j ≤ x.Stats.length ∧ (alk (p, w, s) (flA l) = alk (p, w, s) (flR x (x.Stats.drop j) ++ flA (l.drop (k + 1))))) (fun (j : Nat) => x.Stats.length - j) (0) ?_ ?_ ?_ ?_
   ·exact ⟨Nat.zero_le _, hg⟩
   ·exact ⟨rfl, trivial⟩
   ·exact List.Perm.refl _
   ·intro j hinv
    obtain ⟨hj, hgs⟩ := hinv
    refine hw_reg ?_
    refine dp rfl (pop_lss rfl rfl) ?_
    refine dn ?_
    refine hw_seq ?_
    refine hw_cond rfl (fun h3 => ?_) (fun h4 => ?_)
    ·try simp at h3
     obtain ⟨z, hz⟩ : ∃ z, x.Stats[j]? = some z := ⟨_, List.getElem?_eq_getElem h3⟩
     have hdz := drop_cons hz
     rw [hdz] at hgs
     refine hw_skip ?_
     refine seqQ_n ?_
     refine hw_seq ?_
     refine hw_block ?_
     refine hw_reg ?_
     refine dp rfl (pop_idx ty61 ty121 rfl rfl rfl (by first | assumption | simp_all)) ?_
     refine dp rfl (pop_loadw ty121 rfl rfl rfl rfl) ?_
     refine de rfl (eop_alloc ty121 rfl fun b12 => ?_)
     refine de0 (eop_storew ty121 rfl rfl rfl rfl rfl ?_)
     refine dn ?_
     refine hw_ghost (Ghost.fc0 12 rfl) ?_
     refine hw_reg ?_
     refine dp rfl (pop_fieldAddr ty63 rfl ty9 (by decide) rfl) ?_
     refine dp rfl (pop_load ty9 rfl rfl rfl) ?_
     refine dp rfl (pop_move rfl) ?_
     refine dp rfl (pop_eqls rfl rfl) ?_
     refine dp rfl (pop_move rfl) ?_
     refine dg rfl rfl (fun hc => ⟨_, OpenTo.refl _, pop_fieldAddr ty63 rfl ty3 (by decide) rfl⟩) ?_
     refine dg rfl rfl (fun hc => ⟨_, OpenTo.upd (t := 31) rfl (by first | exact hc | simp_all) (OpenTo.refl _), pop_load ty3 rfl rfl rfl⟩) ?_
     refine dg rfl rfl (fun hc => ⟨_, OpenTo.refl _, pop_move rfl⟩) ?_
     refine dg rfl rfl (fun hc => ⟨_, OpenTo.upd (t := 33) rfl (by first | exact hc | simp_all) (OpenTo.upd (t := 32) rfl (by first | exact hc | simp_all) (OpenTo.refl _)), pop_eql rfl rfl⟩) ?_
     refine dp rfl (pop_picko rfl (.inr ⟨_, rfl, fun h => by simp_all⟩) (.inl rfl)) ?_
     refine dp rfl (pop_move rfl) ?_
     refine dg rfl rfl (fun hc => ⟨_, OpenTo.refl _, pop_fieldAddr ty121 rfl ty9 (by decide) rfl⟩) ?_
     refine dg rfl rfl (fun hc => ⟨_, OpenTo.upd (t := 37) rfl (by first | exact hc | simp_all) (OpenTo.refl _), pop_load ty9 rfl rfl rfl⟩) ?_
     refine dg rfl rfl (fun hc => ⟨_, OpenTo.refl _, pop_move rfl⟩) ?_
     refine dg rfl rfl (fun hc => ⟨_, OpenTo.upd (t := 39) rfl (by first | exact hc | simp_all) (OpenTo.upd (t := 38) rfl (by first | exact hc | simp_all) (OpenTo.refl _)), pop_eqls rfl rfl⟩) ?_
     refine dp rfl (pop_picko rfl (.inr ⟨_, rfl, fun h => by simp_all⟩) (.inl rfl)) ?_
     refine dn ?_
     refine hw_cond rfl (fun h5 => ?_) (fun h6 => ?_)
     ·try simp at h5
      refine hw_reg ?_
      refine dp rfl (pop_fieldAddr ty121 rfl ty3 (by decide) rfl) ?_
      refine dp rfl (pop_load ty3 rfl rfl rfl) ?_
      refine dp rfl (pop_assign rfl) ?_
      refine dn ?_
      refine hw_ret ?_
      refine ret_p rfl ?_
      show HVal.int .i64 _ = _
      first
      | (refine congrArg _ ?_
         rw [cntR, hgs, cnt_hit]
         ·rfl
         all_goals simp_all
         done)
      | (rw [cntR, hg]; rfl)
     ·try simp at h6
      refine hw_skip ?_
      refine blockQ_n ?_
      refine seqQ_n ?_
      refine hw_reg1 ?_
      refine dp rfl (pop_add64 rfl rfl (by omega) (by omega)) ?_
      refine dp rfl (pop_move rfl) ?_
      refine dn ?_
      refine ⟨j + 1, ?_, ?_, ⟨rfl, trivial⟩, (by repeat (first | exact keeps_refl | refine keeps_upd rfl ?_ | refine keeps_loop rfl rfl ?_)), List.Perm.refl _⟩
      ·refine ⟨by omega, ?_⟩
       rw [hgs]
       exact cnt_skip (by simp_all)
      ·dsimp only; omega
    ·try simp at h4
     have hnj : x.Stats.length ≤ j := by omega
     obtain rfl : j = x.Stats.length := by omega
     rw [drop_all (Nat.le_refl _)] at hgs
     refine hw_exit ?_
     refine seqQ_x ?_
     refine loopQ_x ?_
     refine blockQ_eq ?_
     refine blockQ_n ?_
     refine seqQ_n ?_
     refine hw_reg1 ?_
     refine dp rfl (pop_add64 rfl rfl (by omega) (by omega)) ?_
     refine dp rfl (pop_move rfl) ?_
     refine dn ?_
     refine ⟨k + 1, ?_, ?_, ⟨rfl, trivial⟩, (by repeat (first | exact keeps_refl | refine keeps_upd rfl ?_ | refine keeps_loop rfl rfl ?_)), List.Perm.refl _⟩
     ·refine ⟨by omega, ?_⟩
      exact hgs
     ·dsimp only; omega
  ·try simp at h2
   have hnk : l.length ≤ k := by omega
   obtain rfl : k = l.length := by omega
   rw [drop_all (Nat.le_refl _)] at hg
   refine hw_exit ?_
   refine seqQ_x ?_
   refine loopQ_x ?_
   refine blockQ_eq ?_
   refine seqQ_n ?_
   refine hw_reg ?_
   refine dp rfl (pop_assign rfl) ?_
   refine dn ?_
   refine hw_ret ?_
   refine ret_p rfl ?_
   show HVal.int .i64 _ = _
   first
   | (refine congrArg _ ?_
      rw [cntR, hgs, cnt_hit]
      ·rfl
      all_goals simp_all
      done)
   | (rw [cntR, hg]; rfl)

/-- benchwarmer/benchref1.DifferOf$1 -/
theorem c_benchref1_DifferOf_1 [Tracks] {a b : TurnedS}  : ConP Tryz.prog 101 [eTurned a, eTurned b] (.int .i64 (byTu a b)) := by
 refine Con.of_body Tryz.func101 rfl Tryz.ntmps101 rfl rfl ?_
 refine hw_reg ?_
 refine dp rfl (pop_box rfl rfl) ?_
 refine dp rfl (pop_box rfl rfl) ?_
 refine dp rfl (pop_assign rfl) ?_
 refine dn ?_
 refine hw_draw (fun _ => True) [] mixed ?_
 refine ahp 0 rfl rfl (by kernel_rfl) (by kernel_rfl) (pop_fieldAddr ty53 rfl ty9 (by decide) rfl) ?_
 refine ahp 1 rfl rfl (by kernel_rfl) (by kernel_rfl) (pop_load ty9 rfl rfl rfl) ?_
 refine ahp 2 rfl rfl (by kernel_rfl) (by kernel_rfl) (pop_fieldAddr ty53 rfl ty9 (by decide) rfl) ?_
 refine ahp 3 rfl rfl (by kernel_rfl) (by kernel_rfl) (pop_load ty9 rfl rfl rfl) ?_
 refine ahp 4 rfl rfl (by kernel_rfl) (by kernel_rfl) (pop_call ca103 rfl (WeakL.refl _) c_strings_Compare) ?_
 refine ahp 5 rfl rfl (by kernel_rfl) (by kernel_rfl) (pop_fieldAddr ty53 rfl ty3 (by decide) rfl) ?_
 refine ahp 6 rfl rfl (by kernel_rfl) (by kernel_rfl) (pop_load ty3 rfl rfl rfl) ?_
 refine ahp 7 rfl rfl (by kernel_rfl) (by kernel_rfl) (pop_fieldAddr ty53 rfl ty3 (by decide) rfl) ?_
 refine ahp 8 rfl rfl (by kernel_rfl) (by kernel_rfl) (pop_load ty3 rfl rfl rfl) ?_
 refine ahp 9 rfl rfl (by kernel_rfl) (by kernel_rfl) (pop_call ca104 rfl (WeakL.refl _) c_cmp_Compare_int) ?_
 refine ahp 10 rfl rfl (by kernel_rfl) (by kernel_rfl) (pop_fieldAddr ty53 rfl ty9 (by decide) rfl) ?_
 refine ahp 11 rfl rfl (by kernel_rfl) (by kernel_rfl) (pop_load ty9 rfl rfl rfl) ?_
 refine ahp 12 rfl rfl (by kernel_rfl) (by kernel_rfl) (pop_fieldAddr ty53 rfl ty9 (by decide) rfl) ?_
 refine ahp 13 rfl rfl (by kernel_rfl) (by kernel_rfl) (pop_load ty9 rfl rfl rfl) ?_
 refine ahp 14 rfl rfl (by kernel_rfl) (by kernel_rfl) (pop_call ca103 rfl (WeakL.refl _) c_strings_Compare) ?_
 refine ahp 15 rfl rfl (by kernel_rfl) (by kernel_rfl) (pop_buildSlice (hs := [_, _, _]) ty22 ty3 rfl rfl (by decide) (by decide) rfl) ?_
 refine ahp 16 rfl rfl (by kernel_rfl) (by kernel_rfl) (pop_call ca102 rfl (WeakL.refl _) (c_cmp_Or_int (l := [_, _, _]) (by simp))) ?_
 refine ahp 17 rfl rfl (by kernel_rfl) (by kernel_rfl) (pop_assign rfl) ?_
 refine ahz (by kernel_rfl) ?_
 refine hw_ret ?_
 refine ret_p rfl ?_
 rfl

/-- slices.Index[[]benchwarmer/api.Turned,benchwarmer/api.Turned] -/
theorem c_slices_Index_api_Turned_api_Turned [Tracks] {l : List TurnedS} {y : TurnedS} (hl : l.length ≤ 1000000) : ConP Tryz.prog 145 [eTurneds l, eTurned y] (.int .i64 (idxF (fun z => eqSt eTurned y z) l 0)) := by
 refine Con.of_body Tryz.func145 rfl Tryz.ntmps145 rfl rfl ?_
 refine hw_reg ?_
 refine dp rfl (pop_box rfl rfl) ?_
 refine dp rfl (pop_assign rfl) ?_
 refine dn ?_
 refine hw_seq ?_
 refine hw_reg ?_
 refine dp rfl (pop_move rfl) ?_
 refine dp rfl (pop_lenm ty49 rfl) ?_
 refine dp rfl (pop_move rfl) ?_
 refine dn ?_
 refine hw_block ?_
 refine hw_loopw [4, 5, 8, 9, 10, 11, 12, 13, 14, 15, 16, 17, 18] (fun (k : Nat) => [(8, .int .i64 k)]) (fun (k : Nat) => []) (fun (k : Nat) => k ≤ l.length ∧ (idxF (fun z => eqSt eTurned y z) l 0 = idxF (fun z => eqSt eTurned y z) (l.drop k) k)) (fun (k : Nat) => l.length - k) (0) ?_ ?_ ?_ ?_
 ·exact ⟨Nat.zero_le _, rfl⟩
 ·exact ⟨rfl, trivial⟩
 ·exact List.Perm.refl _
 ·intro k hinv
  obtain ⟨hk, hg⟩ := hinv
  refine hw_reg ?_
  refine dp rfl (pop_lss rfl rfl) ?_
  refine dn ?_
  refine hw_seq ?_
  refine hw_cond rfl (fun h1 => ?_) (fun h2 => ?_)
  ·try simp at h1
   obtain ⟨x, hx⟩ : ∃ x, l[k]? = some x := ⟨_, List.getElem?_eq_getElem h1⟩
   have hdx := drop_cons hx
   rw [hdx] at hg
   refine hw_skip ?_
   refine seqQ_n ?_
   refine hw_seq ?_
   refine hw_block ?_
   refine hw_reg ?_
   refine dp rfl (pop_move rfl) ?_
   refine dp rfl (pop_assign rfl) ?_
   refine dn ?_
   refine hw_draw (fun _ => True) [] mixed ?_
   refine ahp 0 rfl rfl (by kernel_rfl) (by kernel_rfl) (pop_loadw ty53 rfl rfl rfl rfl) ?_
   refine ahp 1 rfl rfl (by kernel_rfl) (by kernel_rfl) (pop_move rfl) ?_
   refine ahp 2 rfl rfl (by kernel_rfl) (by kernel_rfl) (pop_move rfl) ?_
   refine ahp 3 rfl rfl (by kernel_rfl) (by kernel_rfl) (pop_idx ty49 ty53 rfl rfl rfl (by first | assumption | simp_all)) ?_
   refine ahp 4 rfl rfl (by kernel_rfl) (by kernel_rfl) (pop_loadw ty53 rfl rfl rfl rfl) ?_
   refine ahp 5 rfl rfl (by kernel_rfl) (by kernel_rfl) (pop_eqst ty53 eq53 rfl rfl ⟨rfl, ⟨_, _, _, _, ty9, rfl⟩, ⟨rfl, ⟨_, _, _, _, ty3, rfl⟩, ⟨rfl, ⟨_, _, _, _, ty9, rfl⟩, ⟨rfl, ⟨_, _, _, _, ty3, rfl⟩, ⟨rfl, ⟨_, _, _, _, ty3, rfl⟩, trivial⟩⟩⟩⟩⟩) ?_
   refine ahz (by kernel_rfl) ?_
   refine hw_cond rfl (fun h3 => ?_) (fun h4 => ?_)
   ·try simp at h3
    refine hw_reg ?_
    refine dp rfl (pop_move rfl) ?_
    refine dp rfl (pop_assign rfl) ?_
    refine dn ?_
    refine hw_ret ?_
    refine ret_p rfl ?_
    show HVal.int .i64 _ = _
    first | (rw [hg]; rfl) | (rw [hg, idxF, if_pos (show eqSt eTurned y x = true from h3)])
   ·try simp at h4
    refine hw_skip ?_
    refine blockQ_n ?_
    refine seqQ_n ?_
    refine hw_reg1 ?_
    refine dp rfl (pop_add64 rfl rfl (by omega) (by omega)) ?_
    refine dp rfl (pop_move rfl) ?_
    refine dn ?_
    refine ⟨k + 1, ?_, ?_, ⟨rfl, trivial⟩, (by repeat (first | exact keeps_refl | refine keeps_upd rfl ?_ | refine keeps_loop rfl rfl ?_)), List.Perm.refl _⟩
    ·refine ⟨by omega, ?_⟩
     rw [hg, idxF, if_neg (by rw [show eqSt eTurned y x = false from h4]; simp)]; rfl
    ·dsimp only; omega
  ·try simp at h2
   have hnk : l.length ≤ k := by omega
   obtain rfl : k = l.length := by omega
   rw [drop_all (Nat.le_refl _)] at hg
   refine hw_exit ?_
   refine seqQ_x ?_
   refine loopQ_x ?_
   refine blockQ_eq ?_
   refine seqQ_n ?_
   refine hw_reg ?_
   refine dp rfl (pop_assign rfl) ?_
   refine dn ?_
   refine hw_ret ?_
   refine ret_p rfl ?_
   show HVal.int .i64 _ = _
   first | (rw [hg]; rfl) | (rw [hg, idxF, if_pos (show eqSt eTurned y x = true from h3)])

/-- slices.Contains[[]benchwarmer/api.Turned,benchwarmer/api.Turned] -/
theorem c_slices_Contains_api_Turned_api_Turned [Tracks] {l : List TurnedS} {y : TurnedS} (hl : l.length ≤ 1000000) : ConP Tryz.prog 99 [eTurneds l, eTurned y] (.bool (decide (y ∈ l))) := by
 refine Con.of_body Tryz.func99 rfl Tryz.ntmps99 rfl rfl ?_
 refine hw_reg ?_
 refine dp rfl (pop_box rfl rfl) ?_
 refine dp rfl (pop_assign rfl) ?_
 refine dn ?_
 refine hw_reg ?_
 refine dp rfl (pop_move rfl) ?_
 refine dp rfl (pop_loadw ty53 rfl rfl rfl rfl) ?_
 refine dp rfl (pop_call ca145 rfl (WeakL.refl _) (c_slices_Index_api_Turned_api_Turned (by first | assumption | omega | (simp; omega) | simp_all))) ?_
 refine dp rfl (pop_geq rfl rfl) ?_
 refine dp rfl (pop_assign rfl) ?_
 refine dn ?_
 refine hw_ret ?_
 refine ret_p rfl ?_
 show HVal.bool _ = _
 rw [← turned_any, ← idxF_nonneg _ l 0 (by omega)]

set_option maxHeartbeats 2000000 in
/-- benchwarmer/benchref1.DifferOf -/
theorem c_benchref1_DifferOf [Tracks] {a b : List LineS} (hla : a.length ≤ 6) (hlb : b.length ≤ 6) (hsa : ∀ x ∈ a, x.Stats.length ≤ 4) (hsb : ∀ x ∈ b, x.Stats.length ≤ 4) (ha : linesFE a = 0) (hb : linesFE b = 0) : ConP Tryz.prog 41 [eLines a, eLines b] (eTurneds (dfL a b)) := by
 obtain ⟨L, hL⟩ : ∃ L : List LineS, L = ([a, b] : List (List LineS)).flatten := ⟨_, rfl⟩
 have hLL : L = a ++ b := by rw [hL]; simp
 have hLs : ∀ x ∈ L, x.Stats.length ≤ 4 := fun x hx => by
  rw [hLL] at hx
  rcases List.mem_append.1 hx with hx | hx
  ·exact hsa x hx
  ·exact hsb x hx
 have hLn : L.length ≤ 12 := by rw [hLL, List.length_append]; omega
 refine Con.of_body Tryz.func41 rfl Tryz.ntmps41 rfl rfl ?_
 refine hw_reg ?_
 refine dp rfl (pop_assign rfl) ?_
 refine dn ?_
 refine hw_reg ?_
 refine dp rfl (pop_assign rfl) ?_
 refine dn ?_
 refine hw_ghost (Ghost.arr_nil 5) ?_
 refine hw_seq ?_
 refine hw_reg ?_
 refine dp rfl (pop_move rfl) ?_
 refine dp rfl (pop_move rfl) ?_
 refine dp rfl (pop_buildSlice (hs := [_, _]) ty199 ty54 rfl rfl (by decide) (by decide) rfl) ?_
 refine de rfl (EOp.fz (eop_calla ca98 rfl (WeakL.refl _) (c_concat_Line (LL := [a, b]) (by simp) (by rw [← hL]; omega)) fun v => ⟨v, rfl, rfl⟩) ?_)
 rw [← hL]
 refine dp rfl (pop_lenm (f := eLine) (l := L) ty54 rfl) ?_
 refine dp rfl (pop_move rfl) ?_
 refine dn ?_
 refine hw_block ?_
 refine hw_loopw2 [5, 7, 9, 10, 16, 17, 18, 19, 20, 21, 22, 23, 24, 25, 26, 27, 28, 29, 30, 31, 32, 33, 34, 35, 36, 37, 38, 39, 40, 41, 42, 43, 44, 45, 46, 47, 48, 49, 50, 51, 52, 53, 54, 55, 56, 57, 58, 59, 60, 61, 62, 63, 64, 65, 66] (fun (k : Nat) (u : Value) => [(16, .int .i64 k), (5, .raw u)]) (fun (k : Nat) (u : Value) => [.arr u 5 ((dfGo a b ((flA (L.take k)).map (·.1))).map eTurned)]) (fun (k : Nat) (u : Value) => k ≤ L.length ∧ (True)) (fun (k : Nat) (u : Value) => L.length - k) (0) (.slice none 0 0) ?_ ?_ ?_ ?_
 ·exact ⟨Nat.zero_le _, trivial⟩
 ·exact ⟨rfl, rfl, trivial⟩
 ·exact perm_eq rfl
 ·intro k u hinv
  obtain ⟨hk, -⟩ := hinv
  refine hw_reg ?_
  refine dp rfl (pop_lss rfl rfl) ?_
  refine dn ?_
  refine hw_seq ?_
  refine hw_cond rfl (fun h1 => ?_) (fun h2 => ?_)
  ·try simp at h1
   obtain ⟨x, hx⟩ : ∃ x, L[k]? = some x := ⟨_, List.getElem?_eq_getElem h1⟩
   have hdx := drop_cons hx
   have hx4 := hLs x (List.mem_of_getElem? hx)
   have hfl := flA_many (l := (L.take k)) (fun y hy => hLs y (List.mem_of_mem_take hy))
   rw [List.length_take] at hfl
   refine hw_skip ?_
   refine seqQ_n ?_
   refine hw_seq ?_
   refine hw_block ?_
   refine hw_reg ?_
   refine dp rfl (pop_idx (f := eLine) (l := L) (j := k) (a := x) ty54 ty63 rfl rfl rfl hx) ?_
   refine dp rfl (pop_loadw ty63 rfl rfl rfl rfl) ?_
   refine de rfl (eop_alloc ty63 rfl fun b7 => ?_)
   refine de0 (eop_storew ty63 rfl rfl rfl rfl rfl ?_)
   refine dn ?_
   refine hw_ghost (Ghost.fc0 7 rfl) ?_
   refine hw_reg ?_
   refine dp rfl ((by first | exact pop_fieldAddr ty63 rfl ty61 (by decide) rfl | exact pop_fieldAddr_raw ty63 rfl ty61 (by decide) rfl)) ?_
   refine dp rfl (pop_load ty61 rfl rfl rfl) ?_
   refine dp rfl (pop_lenm ty61 rfl) ?_
   refine dp rfl (pop_move rfl) ?_
   refine dn ?_
   refine hw_block ?_
   refine hw_loopw2 [5, 9, 10, 23, 24, 25, 26, 27, 28, 29, 30, 31, 32, 33, 34, 35, 36, 37, 38, 39, 40, 41, 42, 43, 44, 45, 46, 47, 48, 49, 50, 51, 52, 53, 54, 55, 56, 57, 58, 59, 60, 61, 62, 63, 64, 65] (fun (j : Nat) (v : Value) => [(23, .int .i64 j), (5, .raw v)]) (fun (j : Nat) (v : Value) => [.arr v 5 ((dfGo a b (((flA (L.take k)).map (·.1)) ++ (flR x (x.Stats.take j)).map (·.1))).map eTurned)]) (fun (j : Nat) (v : Value) => j ≤ x.Stats.length ∧ (True)) (fun (j : Nat) (v : Value) => x.Stats.length - j) (0) (u) ?_ ?_ ?_ ?_
   ·exact ⟨Nat.zero_le _, trivial⟩
   ·exact ⟨rfl, rfl, trivial⟩
   ·exact perm_eq (by simp [flR])
   ·intro j v hinv
    obtain ⟨hj, -⟩ := hinv
    refine hw_reg ?_
    refine dp rfl (pop_lss rfl rfl) ?_
    refine dn ?_
    refine hw_seq ?_
    refine hw_cond rfl (fun h3 => ?_) (fun h4 => ?_)
    ·try simp at h3
     obtain ⟨z, hz⟩ : ∃ z, x.Stats[j]? = some z := ⟨_, List.getElem?_eq_getElem h3⟩
     have hdz := drop_cons hz
     have hol := dfGo_len a b (((flA (L.take k)).map (·.1)) ++ (flR x (x.Stats.take j)).map (·.1))
     rw [List.length_append, List.length_map, List.length_map] at hol
     have hfr : (flR x (x.Stats.take j)).length ≤ 4 := by unfold flR; rw [List.length_map, List.length_take]; omega
     refine hw_skip ?_
     refine seqQ_n ?_
     refine hw_seq ?_
     refine hw_block ?_
     refine hw_reg ?_
     refine dp rfl (pop_idx ty61 ty121 rfl rfl rfl (by first | assumption | simp_all)) ?_
     refine dp rfl (pop_loadw ty121 rfl rfl rfl rfl) ?_
     refine de rfl (eop_alloc ty121 rfl fun b9 => ?_)
     refine de0 (eop_storew ty121 rfl rfl rfl rfl rfl ?_)
     refine dn ?_
     refine hw_ghost (Ghost.fc0 9 rfl) ?_
     refine hw_draw (fun _ => True) [] mixed ?_
     refine ahp 0 rfl rfl (by kernel_rfl) (by kernel_rfl) ((by first | exact pop_fieldAddr ty63 rfl ty9 (by decide) rfl | exact pop_fieldAddr_raw ty63 rfl ty9 (by decide) rfl)) ?_
     refine ahp 1 rfl rfl (by kernel_rfl) (by kernel_rfl) (pop_load ty9 rfl rfl rfl) ?_
     refine ahp 2 rfl rfl (by kernel_rfl) (by kernel_rfl) ((by first | exact pop_fieldAddr ty63 rfl ty3 (by decide) rfl | exact pop_fieldAddr_raw ty63 rfl ty3 (by decide) rfl)) ?_
     refine ahp 3 rfl rfl (by kernel_rfl) (by kernel_rfl) (pop_load ty3 rfl rfl rfl) ?_
     refine ahp 4 rfl rfl (by kernel_rfl) (by kernel_rfl) ((by first | exact pop_fieldAddr ty121 rfl ty9 (by decide) rfl | exact pop_fieldAddr_raw ty121 rfl ty9 (by decide) rfl)) ?_
     refine ahp 5 rfl rfl (by kernel_rfl) (by kernel_rfl) (pop_load ty9 rfl rfl rfl) ?_
     refine ahp 6 rfl rfl (by kernel_rfl) (by kernel_rfl) (pop_move rfl) ?_
     refine ahp 7 rfl rfl (by kernel_rfl) (by kernel_rfl) ((by first | exact pop_fieldAddr ty63 rfl ty9 (by decide) rfl | exact pop_fieldAddr_raw ty63 rfl ty9 (by decide) rfl)) ?_
     refine ahp 8 rfl rfl (by kernel_rfl) (by kernel_rfl) (pop_load ty9 rfl rfl rfl) ?_
     refine ahp 9 rfl rfl (by kernel_rfl) (by kernel_rfl) ((by first | exact pop_fieldAddr ty63 rfl ty3 (by decide) rfl | exact pop_fieldAddr_raw ty63 rfl ty3 (by decide) rfl)) ?_
     refine ahp 10 rfl rfl (by kernel_rfl) (by kernel_rfl) (pop_load ty3 rfl rfl rfl) ?_
     refine ahp 11 rfl rfl (by kernel_rfl) (by kernel_rfl) ((by first | exact pop_fieldAddr ty121 rfl ty9 (by decide) rfl | exact pop_fieldAddr_raw ty121 rfl ty9 (by decide) rfl)) ?_
     refine ahp 12 rfl rfl (by kernel_rfl) (by kernel_rfl) (pop_load ty9 rfl rfl rfl) ?_
     refine ahp 13 rfl rfl (by kernel_rfl) (by kernel_rfl) (pop_call ca44 rfl (WeakL.refl _) (c_benchref1_CountIn (l := a) (by omega) (fun y hy => Nat.le_trans (hsa y hy) (by decide)))) ?_
     refine ahp 14 rfl rfl (by kernel_rfl) (by kernel_rfl) (pop_move rfl) ?_
     refine ahp 15 rfl rfl (by kernel_rfl) (by kernel_rfl) ((by first | exact pop_fieldAddr ty63 rfl ty9 (by decide) rfl | exact pop_fieldAddr_raw ty63 rfl ty9 (by decide) rfl)) ?_
     refine ahp 16 rfl rfl (by kernel_rfl) (by kernel_rfl) (pop_load ty9 rfl rfl rfl) ?_
     refine ahp 17 rfl rfl (by kernel_rfl) (by kernel_rfl) ((by first | exact pop_fieldAddr ty63 rfl ty3 (by decide) rfl | exact pop_fieldAddr_raw ty63 rfl ty3 (by decide) rfl)) ?_
     refine ahp 18 rfl rfl (by kernel_rfl) (by kernel_rfl) (pop_load ty3 rfl rfl rfl) ?_
     refine ahp 19 rfl rfl (by kernel_rfl) (by kernel_rfl) ((by first | exact pop_fieldAddr ty121 rfl ty9 (by decide) rfl | exact pop_fieldAddr_raw ty121 rfl ty9 (by decide) rfl)) ?_
     refine ahp 20 rfl rfl (by kernel_rfl) (by kernel_rfl) (pop_load ty9 rfl rfl rfl) ?_
     refine ahp 21 rfl rfl (by kernel_rfl) (by kernel_rfl) (pop_call ca44 rfl (WeakL.refl _) (c_benchref1_CountIn (l := b) (by omega) (fun y hy => Nat.le_trans (hsb y hy) (by decide)))) ?_
     refine ahp 22 rfl rfl (by kernel_rfl) (by kernel_rfl) (pop_build (cs := [_, _, _, _, _]) ty53 pl53 rfl) ?_
     refine ahe 23 rfl (by kernel_rfl) ?_
     refine hop_e rfl (eop_alloc ty53 rfl fun b10 => ?_)
     refine ⟨fun _ => .inl trivial, ?_⟩
     refine ahe 24 rfl (by kernel_rfl) ?_
     refine hop_e0 (eop_storew ty53 rfl rfl rfl rfl rfl ?_)
     refine ⟨fun _ => .inl trivial, ?_⟩
     refine ahz (by kernel_rfl) ?_
     refine hw_ghost (Ghost.fc0 10 rfl) ?_
     refine hw_reg ?_
     refine dp rfl ((by first | exact pop_fieldAddr ty53 rfl ty3 (by decide) rfl | exact pop_fieldAddr_raw ty53 rfl ty3 (by decide) rfl)) ?_
     refine dp rfl (pop_load ty3 rfl rfl rfl) ?_
     refine dp rfl ((by first | exact pop_fieldAddr ty53 rfl ty3 (by decide) rfl | exact pop_fieldAddr_raw ty53 rfl ty3 (by decide) rfl)) ?_
     refine dp rfl (pop_load ty3 rfl rfl rfl) ?_
     refine dp rfl (pop_neq rfl rfl) ?_
     refine dp rfl (pop_move rfl) ?_
     refine dg rfl rfl (fun hc => ⟨_, OpenTo.refl _, pop_move rfl⟩) ?_
     refine dg rfl rfl (fun hc => ⟨_, OpenTo.refl _, pop_loadw ty53 rfl rfl rfl rfl⟩) ?_
     refine dgx (fun xq M' => xq = .bool (decide ((tuR a b (x.Player, x.Week, z.Name)) ∈ (dfGo a b (((flA (L.take k)).map (·.1)) ++ (flR x (x.Stats.take j)).map (·.1))))) ∧ M' = [.arr v 5 ((dfGo a b (((flA (L.take k)).map (·.1)) ++ (flR x (x.Stats.take j)).map (·.1))).map eTurned)]) rfl rfl (fun hc => ⟨_, rfl, rfl⟩) (fun hc => ⟨_, OpenTo.upd (t := 57) rfl (by first | exact hc | simp_all) (OpenTo.upd (t := 56) rfl (by first | exact hc | simp_all) (OpenTo.refl _)), eop_callb (hs' := [eTurneds (dfGo a b (((flA (L.take k)).map (·.1)) ++ (flR x (x.Stats.take j)).map (·.1))), eTurned (tuR a b (x.Player, x.Week, z.Name))]) ca99 rfl ⟨.arr (i := 0) rfl, .weak (Weak.refl _), trivial⟩ (c_slices_Contains_api_Turned_api_Turned (l := (dfGo a b (((flA (L.take k)).map (·.1)) ++ (flR x (x.Stats.take j)).map (·.1)))) (y := (tuR a b (x.Player, x.Week, z.Name))) (by omega)) rfl ⟨rfl, rfl⟩⟩) ?_
     rintro _ _ ⟨rfl, rfl⟩
     refine dg rfl rfl (fun hc => ⟨_, OpenTo.upd (t := 58) rfl (by first | exact hc | simp_all) (OpenTo.refl _), pop_not rfl⟩) ?_
     refine dp rfl (pop_picko rfl (.inr ⟨_, rfl, fun h => by simp_all⟩) (.inl rfl)) ?_
     refine dn ?_
     refine hw_cond rfl (fun h5 => ?_) (fun h6 => ?_)
     ·try simp at h5
      refine hw_reg1 ?_
      refine dp rfl (pop_move rfl) ?_
      refine dp rfl (pop_loadw ty53 rfl rfl rfl rfl) ?_
      refine dp rfl (pop_buildSlice (hs := [_]) ty49 ty53 rfl rfl (by decide) (by decide) rfl) ?_
      refine de rfl (eop_append (i := 0) ty49 ty53 rfl rfl rfl rfl rfl (by simp [flat, hcells]) (by simp only [List.length_map, List.length_cons, List.length_nil]; omega) fun v64 => ?_)
      refine dp rfl (pop_assign rfl) ?_
      refine dn ?_
      refine blockQ_n ?_
      refine seqQ_n ?_
      refine hw_reg1 ?_
      refine dp rfl (pop_add64 rfl rfl (by omega) (by omega)) ?_
      refine dp rfl (pop_move rfl) ?_
      refine dn ?_
      exact ⟨j + 1, v64, ⟨by omega, trivial⟩, by dsimp only; omega, ⟨rfl, rfl, trivial⟩, (by repeat (first | exact keeps_refl | refine keeps_upd rfl ?_ | refine keeps_loop rfl rfl ?_)), perm_eq (by dsimp only; rw [flR_snoc hz, List.map_append, ← List.append_assoc, List.map_singleton, dfGo_yes (by simp_all), List.map_append]; rfl)⟩
     ·try simp at h6
      refine hw_skip ?_
      refine blockQ_n ?_
      refine seqQ_n ?_
      refine hw_reg1 ?_
      refine dp rfl (pop_add64 rfl rfl (by omega) (by omega)) ?_
      refine dp rfl (pop_move rfl) ?_
      refine dn ?_
      exact ⟨j + 1, v, ⟨by omega, trivial⟩, by dsimp only; omega, ⟨rfl, rfl, trivial⟩, (by repeat (first | exact keeps_refl | refine keeps_upd rfl ?_ | refine keeps_loop rfl rfl ?_)), perm_eq (by dsimp only; rw [flR_snoc hz, List.map_append, ← List.append_assoc, List.map_singleton, dfGo_no (by simp_all)])⟩
    ·try simp at h4
     have hnj : x.Stats.length ≤ j := by omega
     obtain rfl : j = x.Stats.length := by omega
     rw [List.take_length]
     refine hw_exit ?_
     refine seqQ_x ?_
     refine loopQ2_x ?_
     refine blockQ_eq ?_
     refine blockQ_n ?_
     refine seqQ_n ?_
     refine hw_reg1 ?_
     refine dp rfl (pop_add64 rfl rfl (by omega) (by omega)) ?_
     refine dp rfl (pop_move rfl) ?_
     refine dn ?_
     exact ⟨k + 1, v, ⟨by omega, trivial⟩, by dsimp only; omega, ⟨rfl, rfl, trivial⟩, (by repeat (first | exact keeps_refl | refine keeps_upd rfl ?_ | refine keeps_loop rfl rfl ?_)), perm_eq (by dsimp only; rw [flA_snoc hx, List.map_append])⟩
  ·try simp at h2
   have hnk : L.length ≤ k := by omega
   obtain rfl : k = L.length := by omega
   refine hw_exit ?_
   refine seqQ_x ?_
   refine loopQ2_x ?_
   refine blockQ_eq ?_
   refine seqQ_n ?_
   rw [List.take_length]
   have hdl := dfGo_len a b ((flA L).map (·.1))
   have hfl := flA_many hLs
   rw [List.length_map] at hdl
   refine hw_reg ?_
   refine dp rfl (pop_move rfl) ?_
   refine de rfl (eop_callx (i := 0) ca100 rfl (WeakL.refl _) rfl (c_sort_Turned (c := byTu) (swo_cmp byTu_cmp) ca101 (fun _ _ => @c_benchref1_DifferOf_1 trackOn _ _) (l := dfGo a b ((flA L).map (·.1))) (by omega)) ?_)
   rintro _ _ ⟨l', rfl, hp', hw', rfl⟩
   rw [hLL] at hp'
   obtain rfl := dfL_ref ha hb hp' hw'
   refine dn ?_
   refine hw_reg ?_
   refine dp rfl (pop_move rfl) ?_
   refine dp rfl (pop_assign rfl) ?_
   refine dn ?_
   refine hw_ret ?_
   exact ret_fa (M := []) 4 rfl rfl rfl

set_option maxHeartbeats 1000000 in
/-- benchwarmer/play.Sums -/
theorem c_play_Sums [Tracks] {l : List LineS} (hT : Tracks.on = false) (hl : l.length ≤ 1000) (hL : ∀ x ∈ l, x.Stats.length ≤ 1000000) : ConP Tryz.prog 45 [eLines l] (.tup [eLines (SumsL l), .int .i64 (SumsE l)]) := by
 refine Con.of_body Tryz.func45 rfl Tryz.ntmps45 rfl rfl ?_
 refine hw_reg ?_
 refine dp rfl (pop_assign rfl) ?_
 refine dp rfl (pop_assign rfl) ?_
 refine dn ?_
 refine hw_seq ?_
 refine hw_reg ?_
 refine dp rfl (pop_move rfl) ?_
 refine dp rfl (pop_call ca26 rfl (WeakL.refl _) (c_play_CheckLines (l := l) (by omega) hL)) ?_
 refine dp rfl (pop_assign rfl) ?_
 refine dn ?_
 refine hw_reg ?_
 refine dp rfl (pop_move rfl) ?_
 refine dp rfl (pop_neq rfl rfl) ?_
 refine dn ?_
 refine hw_cond rfl (fun h1 => ?_) (fun h2 => ?_)
 ·try simp at h1
  refine hw_reg ?_
  refine dp rfl (pop_move rfl) ?_
  refine dp rfl (pop_assign rfl) ?_
  refine dp rfl (pop_assign rfl) ?_
  refine dn ?_
  refine hw_ret ?_
  first
  | exact ret_w rfl (weak_tup2 (by rw [SumsL, if_pos (by simpa using h1)]; exact weak_nil 3) (by rw [SumsE, if_pos (by simpa using h1)]; exact Weak.refl _))
  | (refine ret_g Ghost.clear rfl ⟨?_, rfl⟩
     rw [SumsL, SumsE, if_neg (by simp [hlz]), if_neg (by simp [hlz])])
 ·try simp at h2
  refine hw_skip ?_
  refine seqQ_n ?_
  have hlz : linesFE l = 0 := by simpa using h2
  have hokl := lines_okL hlz
  refine hw_reg ?_
  refine de rfl (eop_makeMap fun m16 => ?_)
  refine de rfl (eop_makeMap fun m17 => ?_)
  refine dp rfl (pop_assign rfl) ?_
  refine dp rfl (pop_assign rfl) ?_
  refine dn ?_
  refine hw_seq ?_
  refine hw_reg ?_
  refine dp rfl (pop_move rfl) ?_
  refine dp rfl (pop_lenm ty54 rfl) ?_
  refine dp rfl (pop_move rfl) ?_
  refine dn ?_
  refine hw_block ?_
  refine hw_loopw [8, 10, 20, 21, 22, 23, 24, 25, 26, 27, 28, 29, 30, 31, 32, 33, 34, 35, 36, 37, 38, 39, 40, 41, 42, 43, 44, 45, 46, 47] (fun (k : Nat) => [(20, .int .i64 k)]) (fun (k : Nat) => [.map m17 (kk eOf (em (HVal.int .i64) (smGo (l.take k)).c)), .map m16 (sk (mset (smGo (l.take k)).S))]) (fun (k : Nat) => k ≤ l.length ∧ (True)) (fun (k : Nat) => l.length - k) (0) ?_ ?_ ?_ ?_
  ·exact ⟨Nat.zero_le _, trivial⟩
  ·exact ⟨rfl, trivial⟩
  ·exact perm_eq rfl
  ·intro k hinv
   obtain ⟨hk, -⟩ := hinv
   refine hw_reg ?_
   refine dp rfl (pop_lss rfl rfl) ?_
   refine dn ?_
   refine hw_seq ?_
   refine hw_cond rfl (fun h3 => ?_) (fun h4 => ?_)
   ·try simp at h3
    obtain ⟨x, hx⟩ : ∃ x, l[k]? = some x := ⟨_, List.getElem?_eq_getElem h3⟩
    have hdx := drop_cons hx
    have hxl := hokl x (List.mem_of_getElem? hx)
    obtain ⟨hkx, hx40, hbx⟩ := hxl
    have hq0 := sm_ok (l := l.take k) (fun y hy => hokl y (List.mem_of_mem_take hy))
    have hlt : (l.take k).length ≤ 1000 := by rw [List.length_take]; omega
    have hq1 := hq0.addS hkx
    have hSl := hq0.Sl
    refine hw_skip ?_
    refine seqQ_n ?_
    refine hw_seq ?_
    refine hw_block ?_
    refine hw_reg ?_
    refine dp rfl (pop_idx ty54 ty63 rfl rfl rfl (by first | assumption | simp_all)) ?_
    refine dp rfl (pop_loadw ty63 rfl rfl rfl rfl) ?_
    refine de rfl (eop_alloc ty63 rfl fun b8 => ?_)
    refine de0 (eop_storew ty63 rfl rfl rfl rfl rfl ?_)
    refine dn ?_
    refine hw_ghost (Ghost.fc0 8 rfl) ?_
    refine hw_reg ?_
    refine dp rfl (pop_move rfl) ?_
    refine dp rfl (pop_fieldAddr ty63 rfl ty9 (by decide) rfl) ?_
    refine dp rfl (pop_load ty9 rfl rfl rfl) ?_
    first
    | refine de0 (eop_update_set (i := 0) ty148 ty9 rfl rfl rfl rfl ?_)
    | refine de0 (eop_update_set (i := 1) ty148 ty9 rfl rfl rfl rfl ?_)
    | refine de0 (eop_update_set (i := 2) ty148 ty9 rfl rfl rfl rfl ?_)
    | refine de0 (eop_update_set (i := 3) ty148 ty9 rfl rfl rfl rfl ?_)
    refine dn ?_
    refine hw_reg ?_
    refine dp rfl (pop_fieldAddr ty63 rfl ty61 (by decide) rfl) ?_
    refine dp rfl (pop_load ty61 rfl rfl rfl) ?_
    refine dp rfl (pop_lenm ty61 rfl) ?_
    refine dp rfl (pop_move rfl) ?_
    refine dn ?_
    refine hw_block ?_
    refine hw_loopw [10, 30, 31, 32, 33, 34, 35, 36, 37, 38, 39, 40, 41, 42, 43, 44, 45, 46] (fun (j : Nat) => [(30, .int .i64 j)]) (fun (j : Nat) => [.map m17 (kk eOf (em (HVal.int .i64) (smRow x.Player (smGo (l.take k)).c (x.Stats.take j)))), .map m16 (sk (mset (sadd x.Player (smGo (l.take k)).S)))]) (fun (j : Nat) => j ≤ x.Stats.length ∧ (True)) (fun (j : Nat) => x.Stats.length - j) (0) ?_ ?_ ?_ ?_
    ·exact ⟨Nat.zero_le _, trivial⟩
    ·exact ⟨rfl, trivial⟩
    ·exact perm_eq rfl
    ·intro j hinv
     obtain ⟨hj, -⟩ := hinv
     refine hw_reg ?_
     refine dp rfl (pop_lss rfl rfl) ?_
     refine dn ?_
     refine hw_seq ?_
     refine hw_cond rfl (fun h5 => ?_) (fun h6 => ?_)
     ·try simp at h5
      obtain ⟨z, hz⟩ : ∃ z, x.Stats[j]? = some z := ⟨_, List.getElem?_eq_getElem h5⟩
      have hdz := drop_cons hz
      have hbz := hbx z (List.mem_of_getElem? hz)
      have hvb := (LnOk.row x.Player (x.Stats.take j) hq1 (fun y hy => hbx y (List.mem_of_mem_take hy))).val (x.Player, z.Name)
      dsimp only at hvb
      have htl : (x.Stats.take j).length ≤ 40 := by rw [List.length_take]; omega
      refine hw_skip ?_
      refine seqQ_n ?_
      refine hw_seq ?_
      refine hw_block ?_
      refine hw_reg ?_
      refine dp rfl (pop_idx ty61 ty121 rfl rfl rfl (by first | assumption | simp_all)) ?_
      refine dp rfl (pop_loadw ty121 rfl rfl rfl rfl) ?_
      refine de rfl (eop_alloc ty121 rfl fun b10 => ?_)
      refine de0 (eop_storew ty121 rfl rfl rfl rfl rfl ?_)
      refine dn ?_
      refine hw_ghost (Ghost.fc0 10 rfl) ?_
      refine hw_draw1 (fun M => M = [MObj.map m17 (kk eOf (em (HVal.int .i64) (smRow x.Player (smGo (l.take k)).c (x.Stats.take j)))), MObj.map m16 (sk (mset (sadd x.Player (smGo (l.take k)).S)))] ∨ ∃ j9 st, kidx (x.Player, z.Name) (kent (x.Player, z.Name) (HVal.int .i64 0) (em (HVal.int .i64) (smRow x.Player (smGo (l.take k)).c (x.Stats.take j)))) = some j9 ∧ M = [MObj.mape m17 (kk eOf (kent (x.Player, z.Name) (HVal.int .i64 0) (em (HVal.int .i64) (smRow x.Player (smGo (l.take k)).c (x.Stats.take j))))) j9 st, MObj.map m16 (sk (mset (sadd x.Player (smGo (l.take k)).S)))]) [6] mixed ?_
      refine ahp 0 rfl rfl (by kernel_rfl) (by kernel_rfl) (pop_move rfl) ?_
      refine ahp 1 rfl rfl (by kernel_rfl) (by kernel_rfl) (pop_fieldAddr ty63 rfl ty9 (by decide) rfl) ?_
      refine ahp 2 rfl rfl (by kernel_rfl) (by kernel_rfl) (pop_load ty9 rfl rfl rfl) ?_
      refine ahp 3 rfl rfl (by kernel_rfl) (by kernel_rfl) (pop_fieldAddr ty121 rfl ty9 (by decide) rfl) ?_
      refine ahp 4 rfl rfl (by kernel_rfl) (by kernel_rfl) (pop_load ty9 rfl rfl rfl) ?_
      refine ahp 5 rfl rfl (by kernel_rfl) (by kernel_rfl) (pop_build (cs := [_, _]) ty152 pl152 rfl) ?_
      refine ahl 6 rfl rfl (by kernel_rfl) (by kernel_rfl) (by simp) (.inl rfl) (fun M hM => by rcases hM with rfl | ⟨j9, st, hj9, rfl⟩; exact eop_lookupkA (i := 0) (s := (x.Player, z.Name)) (z0 := (0 : Int)) ty150 ok152 ty3 rfl rfl rfl rfl ⟨rfl, rfl⟩; exact eop_lookupke (i := 0) (s := (x.Player, z.Name)) (z0 := (0 : Int)) (f := HVal.int .i64) ty150 ok152 ty3 rfl rfl rfl rfl ⟨rfl, rfl⟩) ?_
      refine ahp 7 rfl rfl (by kernel_rfl) (by kernel_rfl) (pop_fieldAddr ty121 rfl ty3 (by decide) rfl) ?_
      refine ahp 8 rfl rfl (by kernel_rfl) (by kernel_rfl) (pop_load ty3 rfl rfl rfl) ?_
      refine ahp 9 rfl rfl (by kernel_rfl) (by kernel_rfl) (pop_add64 rfl rfl (by omega) (by omega)) ?_
      refine ahe 10 rfl (by kernel_rfl) ?_
      refine hop_e rfl (eop_mapEntryA (i := 0) (s := (x.Player, z.Name)) (z0 := (0 : Int)) (f := HVal.int .i64) ty150 ok152 ty3 rfl rfl rfl rfl fun j77 st77 hj77 => ?_)
      refine ⟨fun _ => .inl (.inr ⟨j77, st77, hj77, rfl⟩), ?_⟩
      refine ahp 11 rfl rfl (by kernel_rfl) (by kernel_rfl) (pop_extract rfl rfl) ?_
      refine ahe 12 rfl (by kernel_rfl) ?_
      refine hop_e0 (eop_entryStoreA (i := 0) (s := (x.Player, z.Name)) (f := HVal.int .i64) (z0 := (0 : Int)) (v := (alk (x.Player, z.Name) (smRow x.Player (smGo (l.take k)).c (x.Stats.take j))).getD 0 + z.Count) rfl rfl rfl rfl hj77 ?_)
      refine ⟨fun _ => .inr (by simp [Before, Region.binds]), ?_⟩
      refine ahz (by kernel_rfl) ?_
      refine blockQ_n ?_
      refine seqQ_n ?_
      refine hw_reg1 ?_
      refine dp rfl (pop_add64 rfl rfl (by omega) (by omega)) ?_
      refine dp rfl (pop_move rfl) ?_
      refine dn ?_
      exact ⟨j + 1, ⟨by omega, trivial⟩, by dsimp only; omega, ⟨rfl, trivial⟩, (by repeat (first | exact keeps_refl | refine keeps_upd rfl ?_ | refine keeps_loop rfl rfl ?_)), perm_eq (by dsimp only; rw [smRow_snoc hz]; rfl)⟩
     ·try simp at h6
      have hnj : x.Stats.length ≤ j := by omega
      obtain rfl : j = x.Stats.length := by omega
      rw [List.take_length]
      refine hw_exit ?_
      refine seqQ_x ?_
      refine loopQ_x ?_
      refine blockQ_eq ?_
      refine blockQ_n ?_
      refine seqQ_n ?_
      refine hw_reg1 ?_
      refine dp rfl (pop_add64 rfl rfl (by omega) (by omega)) ?_
      refine dp rfl (pop_move rfl) ?_
      refine dn ?_
      exact ⟨k + 1, ⟨by omega, trivial⟩, by dsimp only; omega, ⟨rfl, trivial⟩, (by repeat (first | exact keeps_refl | refine keeps_upd rfl ?_ | refine keeps_loop rfl rfl ?_)), perm_eq (by dsimp only; rw [smGo_snoc hx]; rfl)⟩
   ·try simp at h4
    have hnk : l.length ≤ k := by omega
    obtain rfl : k = l.length := by omega
    refine hw_exit ?_
    refine seqQ_x ?_
    refine loopQ_x ?_
    refine blockQ_eq ?_
    refine seqQ_n ?_
    rw [List.take_length]
    have hok := sm_ok hokl
    refine hw_reg ?_
    refine dp rfl (pop_move rfl) ?_
    refine dp rfl (pop_move rfl) ?_
    refine de rfl (eop_callf (M1 := [_, _]) (R := []) ca105 rfl (WeakL.refl _) (List.Perm.refl _) (c_play_counted_lines hT hok.c hok.S hok.k (Nat.le_trans hok.cl (by omega)) (Nat.le_trans hok.Sl (by omega))) ?_)
    rintro _ _ ⟨rfl, rfl⟩
    refine dp rfl (pop_extract rfl rfl) ?_
    refine dp rfl (pop_extract rfl rfl) ?_
    refine dp rfl (pop_assign rfl) ?_
    refine dp rfl (pop_assign rfl) ?_
    refine dn ?_
    refine hw_ret ?_
    first
    | exact ret_w rfl (weak_tup2 (by rw [SumsL, if_pos (by simpa using h1)]; exact weak_nil 3) (by rw [SumsE, if_pos (by simpa using h1)]; exact Weak.refl _))
    | (refine ret_g Ghost.clear rfl ⟨?_, rfl⟩
       rw [SumsL, SumsE, if_neg (by simp [hlz]), if_neg (by simp [hlz])])
end Go.Proofs.YtkamelfigfbfiaaGreatDoor
end
section
namespace Go.Proofs.YtkamelfigfbfiaaGreatDoor
open Go.HL
set_option maxRecDepth 100000
set_option linter.unusedVariables false
set_option linter.unusedSimpArgs false
set_option maxHeartbeats 1000000 in
/-- benchwarmer/benchref1.SumsOf -/
theorem c_benchref1_SumsOf [Tracks] {l : List LineS} (hokl : okL l) (hl : l.length ≤ 1000) : ConP Tryz.prog 47 [eLines l] (.tup [eLines (sumsRL l), .int .i64 (sumsRE l)]) := by
 refine Con.of_body Tryz.func47 rfl Tryz.ntmps47 rfl rfl ?_
 refine hw_reg ?_
 refine dp rfl (pop_assign rfl) ?_
 refine dp rfl (pop_assign rfl) ?_
 refine dn ?_
 refine hw_reg ?_
 refine de rfl (eop_makeMap fun m14 => ?_)
 refine dp rfl (pop_assign rfl) ?_
 refine dn ?_
 refine hw_reg ?_
 refine dp rfl (pop_assign rfl) ?_
 refine dn ?_
 refine hw_ghost (Ghost.arr_nil 1) ?_
 refine hw_seq ?_
 refine hw_reg ?_
 refine dp rfl (pop_move rfl) ?_
 refine dp rfl (pop_lenm ty54 rfl) ?_
 refine dp rfl (pop_move rfl) ?_
 refine dn ?_
 refine hw_block ?_
 refine hw_loopw3 [5, 7, 9, 17, 18, 19, 20, 21, 22, 23, 24, 25, 26, 27, 28, 29, 30, 31, 32, 33, 34, 35, 36, 37, 38, 39, 40, 41, 42, 43, 44, 45, 46, 47, 48, 49, 50, 51, 52, 53] (fun (k : Nat) (G : GrM Str) (u : Value) => [(17, .int .i64 k), (5, .raw u)]) (fun (k : Nat) (G : GrM Str) (u : Value) => [MObj.map m14 (sk (em fM (outerL G))), .arr u 1 ((smGo (l.take k)).S.map .str)] ++ grm HVal.str G) (fun (k : Nat) (G : GrM Str) (u : Value) => k ≤ l.length ∧ (GrOk (smGo (l.take k)).S (smGo (l.take k)).c G)) (fun (k : Nat) (G : GrM Str) (u : Value) => l.length - k) (0) ([]) (.slice none 0 0) ?_ ?_ ?_ ?_
 ·exact ⟨Nat.zero_le _, GrOk.nil⟩
 ·exact ⟨rfl, rfl, trivial⟩
 ·exact List.Perm.swap _ _ _
 ·intro k G u hinv
  obtain ⟨hk, hG⟩ := hinv
  refine hw_reg ?_
  refine dp rfl (pop_lss rfl rfl) ?_
  refine dn ?_
  refine hw_seq ?_
  refine hw_cond rfl (fun h1 => ?_) (fun h2 => ?_)
  ·try simp at h1
   obtain ⟨x, hx⟩ : ∃ x, l[k]? = some x := ⟨_, List.getElem?_eq_getElem h1⟩
   have hdx := drop_cons hx
   have hxl := hokl x (List.mem_of_getElem? hx)
   obtain ⟨hkx, hx40, hbx⟩ := hxl
   have hq0 := sm_ok (l := l.take k) (fun y hy => hokl y (List.mem_of_mem_take hy))
   have hlt : (l.take k).length ≤ 1000 := by rw [List.length_take]; omega
   have hq1 := hq0.addS hkx
   have hSl := hq0.Sl
   refine hw_skip ?_
   refine seqQ_n ?_
   refine hw_seq ?_
   refine hw_block ?_
   refine hw_reg ?_
   refine dp rfl (pop_idx ty54 ty63 rfl rfl rfl (by first | assumption | simp_all)) ?_
   refine dp rfl (pop_loadw ty63 rfl rfl rfl rfl) ?_
   refine de rfl (eop_alloc ty63 rfl fun b7 => ?_)
   refine de0 (eop_storew ty63 rfl rfl rfl rfl rfl ?_)
   refine dn ?_
   refine hw_ghost (Ghost.fc0 7 rfl) ?_
   refine hw_join [5, 21, 22, 23, 24, 25, 26, 27, 28, 29, 30, 31, 32, 33, 34] (fun (p : GrM Str × Value) => [(5, .raw p.2)]) (fun (p : GrM Str × Value) => [MObj.map m14 (sk (em fM (outerL p.1))), .arr p.2 1 ((sadd x.Player (smGo (l.take k)).S).map .str)] ++ grm HVal.str p.1) (fun (p : GrM Str × Value) => GrOk (sadd x.Player (smGo (l.take k)).S) (smGo (l.take k)).c p.1 ∧ ∃ b L, alk x.Player p.1 = some (b, L)) ?_ ?_
   ·skip
    refine hw_reg ?_
    refine dp rfl (pop_move rfl) ?_
    refine dp rfl ((by first | exact pop_fieldAddr ty63 rfl ty9 (by decide) rfl | exact pop_fieldAddr_raw ty63 rfl ty9 (by decide) rfl)) ?_
    refine dp rfl (pop_load ty9 rfl rfl rfl) ?_
    refine de rfl (eop_lookupA (i := 0) (f := fM) (z0 := none) ty154 ty9 ty155 rfl rfl rfl rfl ?_)
    refine dp rfl (pop_eqnilM ty155 rfl rfl) ?_
    refine dn ?_
    refine hw_cond rfl (fun h3 => ?_) (fun h4 => ?_)
    ·try simp at h3
     refine hw_reg ?_
     refine dp rfl (pop_move rfl) ?_
     refine dp rfl ((by first | exact pop_fieldAddr ty63 rfl ty9 (by decide) rfl | exact pop_fieldAddr_raw ty63 rfl ty9 (by decide) rfl)) ?_
     refine dp rfl (pop_load ty9 rfl rfl rfl) ?_
     refine de rfl (eop_makeMap fun m29 => ?_)
     refine de0 (eop_updateA (i := 1) (f := fM) (v := some m29) ty154 ty9 rfl rfl rfl rfl ?_)
     refine dn ?_
     refine hw_reg1 ?_
     refine dp rfl (pop_move rfl) ?_
     refine dp rfl ((by first | exact pop_fieldAddr ty63 rfl ty9 (by decide) rfl | exact pop_fieldAddr_raw ty63 rfl ty9 (by decide) rfl)) ?_
     refine dp rfl (pop_load ty9 rfl rfl rfl) ?_
     refine dp rfl (pop_buildSlice (hs := [_]) ty36 ty9 rfl rfl (by decide) (by decide) rfl) ?_
     refine de rfl (eop_append (i := 2) ty36 ty9 rfl rfl rfl rfl rfl (by simp [flat, hcells]) (by simp; omega) fun v34 => ?_)
     refine dp rfl (pop_assign rfl) ?_
     refine dn ?_
     have hnone := outer_none (by simpa using h3)
     have hns := hG.none.1 hnone
     exact ⟨(aput x.Player (m29, []) G, v34), ⟨hG.add m29 hnone, m29, [], by rw [alk_put, if_pos rfl]⟩, ⟨rfl, trivial⟩, (by repeat (first | exact keeps_refl | refine keeps_upd rfl ?_ | refine keeps_loop rfl rfl ?_)), by dsimp only; rw [← outer_put (L := []), sadd_new hns, List.map_append]; exact grm_new (ek := HVal.str) (A := [_, _]) (b := m29) (L := []) hG.anodup hnone⟩
    ·try simp at h4
     refine hw_skip ?_
     obtain ⟨b0, L0, hb0⟩ := outer_some (by simpa using h4)
     have hins := hG.mem hb0
     exact ⟨(G, u), ⟨by rw [sadd_old hins]; exact hG, b0, L0, hb0⟩, ⟨rfl, trivial⟩, (by repeat (first | exact keeps_refl | refine keeps_upd rfl ?_ | refine keeps_loop rfl rfl ?_)), perm_eq (by dsimp only; rw [sadd_old hins])⟩
   ·intro p hp
    obtain ⟨G1, u1⟩ := p
    dsimp only at hp
    obtain ⟨hG1, b1, L1, hb⟩ := hp
    refine hw_ghost (Ghost.perm (grm_take (ek := HVal.str) (A := [_, _]) hG1.anodup hb)) ?_
    refine hw_reg ?_
    refine dp rfl ((by first | exact pop_fieldAddr ty63 rfl ty61 (by decide) rfl | exact pop_fieldAddr_raw ty63 rfl ty61 (by decide) rfl)) ?_
    refine dp rfl (pop_load ty61 rfl rfl rfl) ?_
    refine dp rfl (pop_lenm ty61 rfl) ?_
    refine dp rfl (pop_move rfl) ?_
    refine dn ?_
    refine hw_block ?_
    refine hw_loopw [9, 38, 39, 40, 41, 42, 43, 44, 45, 46, 47, 48, 49, 50, 51, 52] (fun (j : Nat) => [(38, .int .i64 j)]) (fun (j : Nat) => [MObj.map b1 (sk (em (HVal.int .i64) (rowI L1 (x.Stats.take j)))), .map m14 (sk (em fM (outerL G1))), .arr u1 1 ((sadd x.Player (smGo (l.take k)).S).map .str)] ++ grm HVal.str (G1.filter fun q => decide (q.1 ≠ x.Player))) (fun (j : Nat) => j ≤ x.Stats.length ∧ (True)) (fun (j : Nat) => x.Stats.length - j) (0) ?_ ?_ ?_ ?_
    ·exact ⟨Nat.zero_le _, trivial⟩
    ·exact ⟨rfl, trivial⟩
    ·exact perm_eq rfl
    ·intro j hinv
     obtain ⟨hj, -⟩ := hinv
     refine hw_reg ?_
     refine dp rfl (pop_lss rfl rfl) ?_
     refine dn ?_
     refine hw_seq ?_
     refine hw_cond rfl (fun h5 => ?_) (fun h6 => ?_)
     ·try simp at h5
      obtain ⟨z, hz⟩ : ∃ z, x.Stats[j]? = some z := ⟨_, List.getElem?_eq_getElem h5⟩
      have hdz := drop_cons hz
      have hbz := hbx z (List.mem_of_getElem? hz)
      have hvb := (LnOk.row x.Player (x.Stats.take j) hq1 (fun y hy => hbx y (List.mem_of_mem_take hy))).val (x.Player, z.Name)
      dsimp only at hvb
      rw [← hG1.val_at hb] at hvb
      have htl : (x.Stats.take j).length ≤ 40 := by rw [List.length_take]; omega
      refine hw_skip ?_
      refine seqQ_n ?_
      refine hw_seq ?_
      refine hw_block ?_
      refine hw_reg ?_
      refine dp rfl (pop_idx ty61 ty121 rfl rfl rfl (by first | assumption | simp_all)) ?_
      refine dp rfl (pop_loadw ty121 rfl rfl rfl rfl) ?_
      refine de rfl (eop_alloc ty121 rfl fun b9 => ?_)
      refine de0 (eop_storew ty121 rfl rfl rfl rfl rfl ?_)
      refine dn ?_
      refine hw_ghost (Ghost.fc0 9 rfl) ?_
      refine hw_reg1 ?_
      refine dp rfl (pop_move rfl) ?_
      refine dp rfl ((by first | exact pop_fieldAddr ty63 rfl ty9 (by decide) rfl | exact pop_fieldAddr_raw ty63 rfl ty9 (by decide) rfl)) ?_
      refine dp rfl (pop_load ty9 rfl rfl rfl) ?_
      refine de rfl (eop_lookupA (i := 1) (f := fM) (z0 := none) ty154 ty9 ty155 rfl rfl rfl rfl ?_)
      rw [outer_get, hb]
      refine dp rfl ((by first | exact pop_fieldAddr ty121 rfl ty9 (by decide) rfl | exact pop_fieldAddr_raw ty121 rfl ty9 (by decide) rfl)) ?_
      refine dp rfl (pop_load ty9 rfl rfl rfl) ?_
      refine de rfl (eop_lookupA (i := 0) (f := HVal.int .i64) (L := (rowI L1 (x.Stats.take j))) (z0 := (0 : Int)) ty155 ty9 ty3 rfl rfl rfl rfl ?_)
      refine dp rfl ((by first | exact pop_fieldAddr ty121 rfl ty3 (by decide) rfl | exact pop_fieldAddr_raw ty121 rfl ty3 (by decide) rfl)) ?_
      refine dp rfl (pop_load ty3 rfl rfl rfl) ?_
      refine dp rfl (pop_add64 rfl rfl (by omega) (by omega)) ?_
      refine de0 (eop_updateA (i := 0) (f := HVal.int .i64) (L := (rowI L1 (x.Stats.take j))) (s := z.Name) (v := (alk z.Name (rowI L1 (x.Stats.take j))).getD 0 + z.Count) ty155 ty9 rfl rfl rfl rfl ?_)
      refine dn ?_
      refine blockQ_n ?_
      refine seqQ_n ?_
      refine hw_reg1 ?_
      refine dp rfl (pop_add64 rfl rfl (by omega) (by omega)) ?_
      refine dp rfl (pop_move rfl) ?_
      refine dn ?_
      exact ⟨j + 1, ⟨by omega, trivial⟩, by dsimp only; omega, ⟨rfl, trivial⟩, (by repeat (first | exact keeps_refl | refine keeps_upd rfl ?_ | refine keeps_loop rfl rfl ?_)), perm_eq (by dsimp only; rw [rowI_snoc hz]; rfl)⟩
     ·try simp at h6
      have hnj : x.Stats.length ≤ j := by omega
      obtain rfl : j = x.Stats.length := by omega
      rw [List.take_length]
      refine hw_exit ?_
      refine seqQ_x ?_
      refine loopQ_x ?_
      refine blockQ_eq ?_
      refine blockQ_n ?_
      refine seqQ_n ?_
      refine hw_reg1 ?_
      refine dp rfl (pop_add64 rfl rfl (by omega) (by omega)) ?_
      refine dp rfl (pop_move rfl) ?_
      refine dn ?_
      exact ⟨k + 1, aput x.Player (b1, rowI L1 x.Stats) G1, u1, ⟨by omega, by rw [smGo_snoc hx]; exact hG1.row x.Stats hb⟩, by dsimp only; omega, ⟨rfl, rfl, trivial⟩, (by repeat (first | exact keeps_refl | refine keeps_upd rfl ?_ | refine keeps_loop rfl rfl ?_)), by dsimp only; rw [smGo_snoc hx, outer_same hb]; exact grm_put (ek := HVal.str) (A := [_, _]) hG1.anodup⟩
  ·try simp at h2
   have hnk : l.length ≤ k := by omega
   obtain rfl : k = l.length := by omega
   rw [List.take_length] at hG ⊢
   have hlk := sm_ok hokl
   have hlk1 := hlk.cl
   have hlk2 := hlk.Sl
   have hlk3 := onceL_len (smGo l).S
   refine hw_exit ?_
   refine seqQ_x ?_
   refine loopQ3_x ?_
   refine blockQ_eq ?_
   refine seqQ_n ?_
   refine hw_reg ?_
   refine dp rfl (pop_assign rfl) ?_
   refine dn ?_
   refine hw_ghost (Ghost.arr_nil 3) ?_
   refine hw_seq ?_
   refine hw_ghost (Ghost.fa 5 (i := 2) rfl rfl) ?_
   refine hw_ghost (Ghost.of_eq (M' := [MObj.arr (.slice none 0 0) 3 [], .map m14 (sk (em fM (outerL G)))] ++ grm HVal.str G) rfl) ?_
   refine hw_reg ?_
   refine dp rfl (pop_move rfl) ?_
   refine de rfl (EOp.fz (eop_calla ca106 rfl (WeakL.refl _) (c_benchref1_once (l := (smGo l).S) (by omega)) fun v => ⟨v, rfl, rfl⟩) ?_)
   refine dp rfl (pop_lenm (f := HVal.str) (l := onceL (smGo l).S) ty36 rfl) ?_
   refine dp rfl (pop_move rfl) ?_
   refine dn ?_
   refine hw_block ?_
   refine hw_loopw2 [10, 12, 57, 58, 59, 60, 61, 62, 63, 64, 65, 66, 67, 68, 69, 70] (fun (k : Nat) (u : Value) => [(57, .int .i64 k), (10, .raw u)]) (fun (k : Nat) (u : Value) => [MObj.arr u 3 ((((onceL (smGo l).S).take k).map (lineR (smGo l) 1)).map eLine), .map m14 (sk (em fM (outerL G)))] ++ grm HVal.str G) (fun (k : Nat) (u : Value) => k ≤ (onceL (smGo l).S).length ∧ (True)) (fun (k : Nat) (u : Value) => (onceL (smGo l).S).length - k) (0) (.slice none 0 0) ?_ ?_ ?_ ?_
   ·exact ⟨Nat.zero_le _, trivial⟩
   ·exact ⟨rfl, rfl, trivial⟩
   ·exact List.Perm.refl _
   ·intro k u hinv
    obtain ⟨hk, -⟩ := hinv
    refine hw_reg ?_
    refine dp rfl (pop_lss rfl rfl) ?_
    refine dn ?_
    refine hw_seq ?_
    refine hw_cond rfl (fun h7 => ?_) (fun h8 => ?_)
    ·try simp at h7
     obtain ⟨x, hx⟩ : ∃ x, (onceL (smGo l).S)[k]? = some x := ⟨_, List.getElem?_eq_getElem h7⟩
     have hdx := drop_cons hx
     have hxS := mem_onceL.1 (List.mem_of_getElem? hx)
     obtain ⟨b1, L1, hb⟩ := hG.find hxS
     have hL := hG.get hb
     subst hL
     refine hw_skip ?_
     refine seqQ_n ?_
     refine hw_seq ?_
     refine hw_block ?_
     refine hw_reg ?_
     refine dp rfl (pop_idx (f := HVal.str) (l := onceL (smGo l).S) (j := k) (a := x) ty36 ty9 rfl rfl rfl hx) ?_
     refine dp rfl (pop_load ty9 rfl rfl rfl) ?_
     refine dp rfl (pop_assign rfl) ?_
     refine dn ?_
     refine hw_reg1 ?_
     refine dp rfl (pop_move rfl) ?_
     refine dp rfl (pop_move rfl) ?_
     refine dp rfl (pop_move rfl) ?_
     refine dp rfl (pop_move rfl) ?_
     refine de rfl (eop_lookupA (i := 1) (f := fM) (z0 := none) ty154 ty9 ty155 rfl rfl rfl rfl ?_)
     rw [outer_get, hb]
     refine de rfl (eop_callf (M1 := [.map b1 (sk (em (HVal.int .i64) (inner (smGo l).c x)))]) (R := [MObj.arr u 3 ((((onceL (smGo l).S).take k).map (lineR (smGo l) 1)).map eLine), .map m14 (sk (em fM (outerL G)))] ++ grm HVal.str (G.filter fun q => decide (q.1 ≠ x))) ca107 rfl (WeakL.refl _) (grm_take hG.anodup hb) (c_benchref1_stats (c := inner (smGo l).c x) (inner_nodup hlk.c x) (Nat.le_trans (inner_len _ _) (by omega))) ?_)
     rintro _ _ ⟨rfl, rfl⟩
     refine dp rfl (pop_build (cs := [_, _, _]) ty63 pl63 rfl) ?_
     refine dp rfl (pop_buildSlice (hs := [_]) ty54 ty63 rfl rfl (by decide) (by decide) rfl) ?_
     refine de rfl (eop_append (i := 1) ty54 ty63 rfl rfl rfl rfl rfl (fun y hy => by rw [List.mem_singleton.1 hy]; rfl) (by simp; omega) fun v69 => ?_)
     refine dp rfl (pop_assign rfl) ?_
     refine dn ?_
     refine blockQ_n ?_
     refine seqQ_n ?_
     refine hw_reg1 ?_
     refine dp rfl (pop_add64 rfl rfl (by omega) (by omega)) ?_
     refine dp rfl (pop_move rfl) ?_
     refine dn ?_
     exact ⟨k + 1, v69, ⟨by omega, trivial⟩, by dsimp only; omega, ⟨rfl, rfl, trivial⟩, (by repeat (first | exact keeps_refl | refine keeps_upd rfl ?_ | refine keeps_loop rfl rfl ?_)), by dsimp only; rw [take_snoc' hx, List.map_append, List.map_append]; exact (grm_take (ek := HVal.str) (A := [_, _]) hG.anodup hb).symm⟩
    ·try simp at h8
     have hnk : (onceL (smGo l).S).length ≤ k := by omega
     obtain rfl : k = (onceL (smGo l).S).length := by omega
     refine hw_exit ?_
     refine seqQ_x ?_
     refine loopQ2_x ?_
     refine blockQ_eq ?_
     refine seqQ_n ?_
     refine hw_seq ?_
     rw [List.take_length]
     refine hw_ghost (Ghost.fa 10 (i := 0) rfl rfl) ?_
     refine hw_reg ?_
     refine dp rfl (pop_move rfl) ?_
     refine dp rfl (pop_call ca108 rfl (WeakL.refl _) (c_benchref1_full (l := rawLines (smGo l) 1) (Nat.le_trans rawLines_len (by omega)) (fun y hy => Nat.le_trans (rawLines_stats y hy) (by omega)))) ?_
     refine dp rfl (pop_assign rfl) ?_
     refine dn ?_
     refine hw_reg ?_
     refine dp rfl (pop_move rfl) ?_
     refine dp rfl (pop_neq rfl rfl) ?_
     refine dn ?_
     refine hw_cond rfl (fun h9 => ?_) (fun h10 => ?_)
     ·try simp at h9
      refine hw_reg ?_
      refine dp rfl (pop_move rfl) ?_
      refine dp rfl (pop_assign rfl) ?_
      refine dp rfl (pop_assign rfl) ?_
      refine dn ?_
      refine hw_ret ?_
      first
      | exact ⟨_, [], Ghost.clear, _, _, rfl, weak_tup2 (weak_nil 3) (Weak.refl _), by rw [sumsRL, sumsRE, if_pos (by simpa using h9), if_pos (by simpa using h9)]; rfl, rfl⟩
      | (refine ret_g Ghost.clear rfl ⟨?_, rfl⟩
         rw [sumsRL, sumsRE, if_neg (by simpa using h10), if_neg (by simpa using h10)]; rfl)
     ·try simp at h10
      refine hw_skip ?_
      refine seqQ_n ?_
      refine hw_reg ?_
      refine dp rfl (pop_move rfl) ?_
      refine dp rfl (pop_assign rfl) ?_
      refine dp rfl (pop_assign rfl) ?_
      refine dn ?_
      refine hw_ret ?_
      first
      | exact ⟨_, [], Ghost.clear, _, _, rfl, weak_tup2 (weak_nil 3) (Weak.refl _), by rw [sumsRL, sumsRE, if_pos (by simpa using h9), if_pos (by simpa using h9)]; rfl, rfl⟩
      | (refine ret_g Ghost.clear rfl ⟨?_, rfl⟩
         rw [sumsRL, sumsRE, if_neg (by simpa using h10), if_neg (by simpa using h10)]; rfl)
end Go.Proofs.YtkamelfigfbfiaaGreatDoor
end
section
namespace Go.HL
theorem eqMends_refl : ∀ l : List MendS, eqSts eMend l l = true
 | [] => rfl
 | a :: r => by simp [eqSts, eqSt, eqMends_refl r, hcells, eqHL, eqH]
theorem eqTurneds_refl : ∀ l : List TurnedS, eqSts eTurned l l = true
 | [] => rfl
 | a :: r => by simp [eqSts, eqSt, eqTurneds_refl r, hcells, eqHL, eqH]
theorem ite_len {α : Type} {c : Prop} [Decidable c] {l : List α} {n : Nat} (h : l.length ≤ n) : (if c then [] else l).length ≤ n := by
 split
 ·exact Nat.zero_le _
 ·exact h
theorem merge_cases (m n : List MendS) : (orI [mendsE m, mendsE n] = 0 ∧ (mendsE m = 0 ∧ mendsE n = 0) ∧ (if cflA byVer m n then [] else merS byVer m n) = MergeL m n ∧ (if cflA byVer m n then (13 : Int) else 0) = MergeE m n) ∨
 (orI [mendsE m, mendsE n] ≠ 0 ∧ [] = MergeL m n ∧ orI [mendsE m, mendsE n] = MergeE m n) := by
 by_cases h : orI [mendsE m, mendsE n] = 0
 ·exact .inl ⟨h, or2z h, by simp [MergeL, h], by simp [MergeE, h]⟩
 ·exact .inr ⟨h, by rw [MergeL, if_pos h], by rw [MergeE, if_pos h]⟩
theorem MergeL_len (m n : List MendS) : (MergeL m n).length ≤ m.length + n.length := by
 unfold MergeL
 split
 ·exact Nat.zero_le _
 ·exact ite_len (merS_len byVer m n)
theorem mended_cases (l : List LineS) (m : List MendS) (n : Int) : (orI [linesFE l, mendsE m, eM n] = 0 ∧ linesFE l = 0 ∧ mdL l m n = MendedL l m n ∧ (0 : Int) = MendedE l m n) ∨
 (orI [linesFE l, mendsE m, eM n] ≠ 0 ∧ [] = MendedL l m n ∧ orI [linesFE l, mendsE m, eM n] = MendedE l m n) := by
 unfold MendedL MendedE eM
 by_cases h1 : linesFE l = 0
 ·by_cases h2 : mendsE m = 0
  ·by_cases h3 : moment n = true
   ·left; simp [orI, h1, h2, h3]
   ·right; simp [orI, h1, h2, h3]
  ·right; simp [orI, h1, h2]
 ·right; simp [orI, h1]
theorem md_40 {l : List LineS} {m : List MendS} {n : Int} (hs : ∀ x ∈ l, x.Stats.length ≤ 4) (hm : m.length ≤ 24) : GLen 28 (mdMap l m n) := (mdGo_len m n (lnMap_len hs)).up (by omega)
theorem mended_bd {l : List LineS} {m : List MendS} {n : Int} (hl : l.length ≤ 6) (hs : ∀ x ∈ l, x.Stats.length ≤ 4) (hm : m.length ≤ 24) : (MendedL l m n).length ≤ 1000000 ∧ ∀ y ∈ MendedL l m n, y.Stats.length ≤ 1000000 := by
 have h1 := md_40 (n := n) hs hm
 have h2 := mdMap_many l m n
 have h3 : (mdL l m n).length ≤ 1000000 ∧ ∀ y ∈ mdL l m n, y.Stats.length ≤ 1000000 := by
  refine ⟨by unfold mdL; rw [isort_len, List.length_map]; omega, fun y hy => ?_⟩
  unfold mdL at hy
  rw [isort_mem] at hy
  obtain ⟨q, hq, rfl⟩ := List.mem_map.1 hy
  have := h1 q hq
  show (isort byNm q.2).length ≤ 1000000
  rw [isort_len]; omega
 rcases mended_cases l m n with ⟨_, _, e, _⟩ | ⟨_, e, _⟩
 ·rw [← e]; exact h3
 ·rw [← e]; exact ⟨Nat.zero_le _, fun y hy => by cases hy⟩
theorem count_or (l : List LineS) (p : Str) (w : Int) (s : Str) : orI [linesFE l, if key p then 0 else 5, if weekB w then 0 else 1, if key s then 0 else 5] = CountE l p w s := by
 unfold CountE
 by_cases h1 : linesFE l = 0
 ·by_cases h2 : key p = true
  ·by_cases h3 : weekB w = true
   ·by_cases h4 : key s = true
    ·simp [orI, h1, h2, h3, h4]
    ·simp [orI, h1, h2, h3, h4]
   ·simp [orI, h1, h2, h3]
  ·simp [orI, h1, h2]
 ·simp [orI, h1]
theorem count_cases (l : List LineS) (p : Str) (w : Int) (s : Str) : (CountE l p w s = 0 ∧ CountV l p w s = cntR l (p, w, s)) ∨ (CountE l p w s ≠ 0 ∧ CountV l p w s = 0) := by
 unfold CountE CountV
 by_cases h1 : linesFE l = 0
 ·rw [cnt_flat h1]
  by_cases h2 : key p = true
  ·by_cases h3 : weekB w = true
   ·by_cases h4 : key s = true
    ·simp [h1, h2, h3, h4]
    ·simp [h1, h2, h3, h4]
   ·simp [h1, h2, h3]
  ·simp [h1, h2]
 ·simp [h1]
theorem sums_bad {l : List LineS} (h : linesFE l ≠ 0) : SumsE l = linesFE l ∧ SumsL l = [] := ⟨by rw [SumsE, if_pos h], by rw [SumsL, if_pos h]⟩
theorem sums_good {l : List LineS} (h : linesFE l = 0) : SumsL l = sumsRL l ∧ SumsE l = sumsRE l := by
 rcases sums_cases l with q | q
 ·exact absurd h q.1
 ·exact q.2
theorem sums_bd {l : List LineS} (h : okL l) (hl : l.length ≤ 1000) : (sumsRL l).length ≤ 1000000 ∧ ∀ y ∈ sumsRL l, y.Stats.length ≤ 1000000 := by
 have h1 := sm_ok h
 have a1 := h1.Sl
 have a2 := h1.cl
 unfold sumsRL
 split
 ·exact ⟨Nat.zero_le _, fun y hy => by cases hy⟩
 ·exact ⟨Nat.le_trans rawLines_len (by omega), fun y hy => Nat.le_trans (rawLines_stats y hy) (by omega)⟩
end Go.HL
end
section
namespace Go.Proofs.YtkamelfigfbfiaaGreatDoor
open Go.HL
set_option maxRecDepth 100000
set_option linter.unusedVariables false
set_option linter.unusedSimpArgs false
/-- benchwarmer/benchlaw1.played -/
theorem c_benchlaw1_played [Tracks]  (hT : Tracks.on = false) : ConP Tryz.prog 46 [] (.bool true) := by
 refine Con.of_body Tryz.func46 rfl Tryz.ntmps46 rfl rfl ?_
 refine hw_reg ?_
 refine dp rfl (pop_assign rfl) ?_
 refine dn ?_
 refine hw_reg ?_
 refine dp rfl (pop_build (cs := [_, _, _, _, _, _, _, _, _]) ty97 pl97 rfl) ?_
 refine dp rfl (pop_buildSlice (hs := [_]) ty44 ty97 rfl rfl (by decide) (by decide) rfl) ?_
 refine dp rfl (pop_buildSlice (hs := [_]) ty36 ty9 rfl rfl (by decide) (by decide) rfl) ?_
 refine dp rfl (pop_call (hs' := [ePlays [play1], eSs [[115]], .int .i64 1, .int .i64 5]) ca56 rfl (WeakL.refl _) (c_play_Lines hT (by decide) (by decide))) ?_
 refine dp rfl (pop_move rfl) ?_
 refine dp rfl (pop_extract rfl rfl) ?_
 refine dp rfl (pop_extract rfl rfl) ?_
 refine dp rfl (pop_assign rfl) ?_
 refine dp rfl (pop_assign rfl) ?_
 refine dn ?_
 simp only [ready_E, ready_L]
 refine hw_reg ?_
 refine dp rfl (pop_move rfl) ?_
 refine dp rfl (pop_eql rfl rfl) ?_
 refine dp rfl (pop_move rfl) ?_
 refine dg rfl rfl (fun hc => ⟨_, OpenTo.refl _, pop_move rfl⟩) ?_
 refine dg rfl rfl (fun hc => ⟨_, OpenTo.upd (t := 13) rfl (by first | exact hc | simp_all) (OpenTo.refl _), pop_lenm ty54 rfl⟩) ?_
 refine dg rfl rfl (fun hc => ⟨_, OpenTo.upd (t := 14) rfl (by first | exact hc | simp_all) (OpenTo.refl _), pop_eql rfl rfl⟩) ?_
 refine dp rfl (pop_picko rfl (.inr ⟨_, rfl, fun h => by simp_all⟩) (.inl rfl)) ?_
 refine dp rfl (pop_move rfl) ?_
 refine dg rfl rfl (fun hc => ⟨_, OpenTo.refl _, pop_move rfl⟩) ?_
 refine dg rfl rfl (fun hc => ⟨_, OpenTo.upd (t := 18) rfl (by first | exact hc | simp_all) (OpenTo.refl _), pop_idx (j := 0) (a := line1) ty54 ty63 rfl rfl rfl rfl⟩) ?_
 refine dg rfl rfl (fun hc => ⟨_, OpenTo.upd (t := 19) rfl (by first | exact hc | simp_all) (OpenTo.refl _), pop_loadw ty63 rfl rfl rfl rfl⟩) ?_
 refine dg rfl rfl (fun hc => ⟨_, OpenTo.refl _, pop_build (cs := [_, _]) ty121 pl121 rfl⟩) ?_
 refine dg rfl rfl (fun hc => ⟨_, OpenTo.upd (t := 21) rfl (by first | exact hc | simp_all) (OpenTo.refl _), pop_buildSlice (hs := [_]) ty61 ty121 rfl rfl (by decide) (by decide) rfl⟩) ?_
 refine dg rfl rfl (fun hc => ⟨_, OpenTo.upd (t := 22) rfl (by first | exact hc | simp_all) (OpenTo.refl _), pop_build (cs := [_, _, _]) ty63 pl63 rfl⟩) ?_
 refine dg rfl rfl (fun hc => ⟨_, OpenTo.upd (t := 23) rfl (by first | exact hc | simp_all) (OpenTo.upd (t := 20) rfl (by first | exact hc | simp_all) (OpenTo.refl _)), pop_call ca25 rfl (WeakL.refl _) (c_benchref1_SameLine (x := line1) (by decide))⟩) ?_
 refine dp rfl (pop_picko rfl (.inr ⟨_, rfl, fun h => by simp_all⟩) (.inl rfl)) ?_
 refine dp rfl (pop_assign rfl) ?_
 refine dn ?_
 refine hw_ret ?_
 refine ret_p rfl ?_
 rfl
end Go.Proofs.YtkamelfigfbfiaaGreatDoor
end
section
namespace Go.Proofs.YtkamelfigfbfiaaGreatDoor
open Go.HL
set_option maxRecDepth 100000
set_option linter.unusedVariables false
set_option linter.unusedSimpArgs false
/-- slices.Equal[[]benchwarmer/api.Mend,benchwarmer/api.Mend] -/
theorem c_slices_Equal_api_Mend_api_Mend [Tracks] {l m : List MendS} (hl : l.length ≤ 1000000) : ConP Tryz.prog 37 [eMends l, eMends m] (.bool (eqSts eMend l m)) := by
 refine Con.of_body Tryz.func37 rfl Tryz.ntmps37 rfl rfl ?_
 refine hw_reg ?_
 refine dp rfl (pop_assign rfl) ?_
 refine dn ?_
 refine hw_seq ?_
 refine hw_reg ?_
 refine dp rfl (pop_move rfl) ?_
 refine dp rfl (pop_lenm ty46 rfl) ?_
 refine dp rfl (pop_move rfl) ?_
 refine dp rfl (pop_lenm ty46 rfl) ?_
 refine dp rfl (pop_neq rfl rfl) ?_
 refine dn ?_
 refine hw_cond rfl (fun h1 => ?_) (fun h2 => ?_)
 ·try simp at h1
  refine hw_reg ?_
  refine dp rfl (pop_assign rfl) ?_
  refine dn ?_
  refine hw_ret ?_
  refine ret_p rfl ?_
  show HVal.bool _ = _
  first | (congr 1; symm; exact eqSts_len (by omega)) | (rw [hg.2, eqSts, show eqSt eMend x y = false from h5]; rfl) | (rw [hg.2, drop_all (Nat.le_of_eq hg.1.symm)]; rfl)
 ·try simp at h2
  refine hw_skip ?_
  refine seqQ_n ?_
  refine hw_seq ?_
  refine hw_reg ?_
  refine dp rfl (pop_move rfl) ?_
  refine dp rfl (pop_lenm ty46 rfl) ?_
  refine dp rfl (pop_move rfl) ?_
  refine dn ?_
  refine hw_block ?_
  refine hw_loopw [4, 5, 13, 14, 15, 16, 17, 18, 19, 20, 21, 22, 23, 24, 25] (fun (k : Nat) => [(13, .int .i64 k)]) (fun (k : Nat) => []) (fun (k : Nat) => k ≤ l.length ∧ (l.length = m.length ∧ eqSts eMend l m = eqSts eMend (l.drop k) (m.drop k))) (fun (k : Nat) => l.length - k) (0) ?_ ?_ ?_ ?_
  ·refine ⟨Nat.zero_le _, ?_, rfl⟩
   omega
  ·exact ⟨rfl, trivial⟩
  ·exact List.Perm.refl _
  ·intro k hinv
   obtain ⟨hk, hg⟩ := hinv
   refine hw_reg ?_
   refine dp rfl (pop_lss rfl rfl) ?_
   refine dn ?_
   refine hw_seq ?_
   refine hw_cond rfl (fun h3 => ?_) (fun h4 => ?_)
   ·try simp at h3
    obtain ⟨x, hx⟩ : ∃ x, l[k]? = some x := ⟨_, List.getElem?_eq_getElem h3⟩
    have hdx := drop_cons hx
    obtain ⟨y, hy⟩ : ∃ y, m[k]? = some y := ⟨_, List.getElem?_eq_getElem (by omega)⟩
    rw [hdx, drop_cons hy] at hg
    refine hw_skip ?_
    refine seqQ_n ?_
    refine hw_seq ?_
    refine hw_block ?_
    refine hw_reg ?_
    refine dp rfl (pop_move rfl) ?_
    refine dp rfl (pop_assign rfl) ?_
    refine dn ?_
    refine hw_draw (fun _ => True) [] mixed ?_
    refine ahp 0 rfl rfl (by kernel_rfl) (by kernel_rfl) (pop_move rfl) ?_
    refine ahp 1 rfl rfl (by kernel_rfl) (by kernel_rfl) (pop_move rfl) ?_
    refine ahp 2 rfl rfl (by kernel_rfl) (by kernel_rfl) (pop_idx ty46 ty69 rfl rfl rfl (by first | assumption | simp_all)) ?_
    refine ahp 3 rfl rfl (by kernel_rfl) (by kernel_rfl) (pop_loadw ty69 rfl rfl rfl rfl) ?_
    refine ahp 4 rfl rfl (by kernel_rfl) (by kernel_rfl) (pop_move rfl) ?_
    refine ahp 5 rfl rfl (by kernel_rfl) (by kernel_rfl) (pop_move rfl) ?_
    refine ahp 6 rfl rfl (by kernel_rfl) (by kernel_rfl) (pop_idx ty46 ty69 rfl rfl rfl (by first | assumption | simp_all)) ?_
    refine ahp 7 rfl rfl (by kernel_rfl) (by kernel_rfl) (pop_loadw ty69 rfl rfl rfl rfl) ?_
    refine ahp 8 rfl rfl (by kernel_rfl) (by kernel_rfl) (pop_neqst ty69 eq69 rfl rfl ⟨rfl, ⟨_, _, _, _, ty9, rfl⟩, ⟨rfl, ⟨_, _, _, _, ty3, rfl⟩, ⟨rfl, ⟨_, _, _, _, ty9, rfl⟩, ⟨rfl, ⟨_, _, _, _, ty3, rfl⟩, ⟨rfl, ⟨_, _, _, _, ty3, rfl⟩, ⟨rfl, ⟨_, _, _, _, ty3, rfl⟩, ⟨rfl, ⟨_, _, _, _, ty9, rfl⟩, trivial⟩⟩⟩⟩⟩⟩⟩) ?_
    refine ahz (by kernel_rfl) ?_
    refine hw_cond rfl (fun h5 => ?_) (fun h6 => ?_)
    ·try simp at h5
     refine hw_reg ?_
     refine dp rfl (pop_assign rfl) ?_
     refine dn ?_
     refine hw_ret ?_
     refine ret_p rfl ?_
     show HVal.bool _ = _
     first | (congr 1; symm; exact eqSts_len (by omega)) | (rw [hg.2, eqSts, show eqSt eMend x y = false from h5]; rfl) | (rw [hg.2, drop_all (Nat.le_of_eq hg.1.symm)]; rfl)
    ·try simp at h6
     refine hw_skip ?_
     refine blockQ_n ?_
     refine seqQ_n ?_
     refine hw_reg1 ?_
     refine dp rfl (pop_add64 rfl rfl (by omega) (by omega)) ?_
     refine dp rfl (pop_move rfl) ?_
     refine dn ?_
     refine ⟨k + 1, ?_, ?_, ⟨rfl, trivial⟩, (by repeat (first | exact keeps_refl | refine keeps_upd rfl ?_ | refine keeps_loop rfl rfl ?_)), List.Perm.refl _⟩
     ·refine ⟨by omega, hg.1, ?_⟩
      rw [hg.2, eqSts, show eqSt eMend x y = true from h6]; rfl
     ·dsimp only; omega
   ·try simp at h4
    have hnk : l.length ≤ k := by omega
    obtain rfl : k = l.length := by omega
    rw [drop_all (Nat.le_refl _)] at hg
    refine hw_exit ?_
    refine seqQ_x ?_
    refine loopQ_x ?_
    refine blockQ_eq ?_
    refine seqQ_n ?_
    refine hw_reg ?_
    refine dp rfl (pop_assign rfl) ?_
    refine dn ?_
    refine hw_ret ?_
    refine ret_p rfl ?_
    show HVal.bool _ = _
    first | (congr 1; symm; exact eqSts_len (by omega)) | (rw [hg.2, eqSts, show eqSt eMend x y = false from h5]; rfl) | (rw [hg.2, drop_all (Nat.le_of_eq hg.1.symm)]; rfl)

/-- slices.Equal[[]benchwarmer/api.Turned,benchwarmer/api.Turned] -/
theorem c_slices_Equal_api_Turned_api_Turned [Tracks] {l m : List TurnedS} (hl : l.length ≤ 1000000) : ConP Tryz.prog 40 [eTurneds l, eTurneds m] (.bool (eqSts eTurned l m)) := by
 refine Con.of_body Tryz.func40 rfl Tryz.ntmps40 rfl rfl ?_
 refine hw_reg ?_
 refine dp rfl (pop_assign rfl) ?_
 refine dn ?_
 refine hw_seq ?_
 refine hw_reg ?_
 refine dp rfl (pop_move rfl) ?_
 refine dp rfl (pop_lenm ty49 rfl) ?_
 refine dp rfl (pop_move rfl) ?_
 refine dp rfl (pop_lenm ty49 rfl) ?_
 refine dp rfl (pop_neq rfl rfl) ?_
 refine dn ?_
 refine hw_cond rfl (fun h1 => ?_) (fun h2 => ?_)
 ·try simp at h1
  refine hw_reg ?_
  refine dp rfl (pop_assign rfl) ?_
  refine dn ?_
  refine hw_ret ?_
  refine ret_p rfl ?_
  show HVal.bool _ = _
  first | (congr 1; symm; exact eqSts_len (by omega)) | (rw [hg.2, eqSts, show eqSt eTurned x y = false from h5]; rfl) | (rw [hg.2, drop_all (Nat.le_of_eq hg.1.symm)]; rfl)
 ·try simp at h2
  refine hw_skip ?_
  refine seqQ_n ?_
  refine hw_seq ?_
  refine hw_reg ?_
  refine dp rfl (pop_move rfl) ?_
  refine dp rfl (pop_lenm ty49 rfl) ?_
  refine dp rfl (pop_move rfl) ?_
  refine dn ?_
  refine hw_block ?_
  refine hw_loopw [4, 5, 13, 14, 15, 16, 17, 18, 19, 20, 21, 22, 23, 24, 25] (fun (k : Nat) => [(13, .int .i64 k)]) (fun (k : Nat) => []) (fun (k : Nat) => k ≤ l.length ∧ (l.length = m.length ∧ eqSts eTurned l m = eqSts eTurned (l.drop k) (m.drop k))) (fun (k : Nat) => l.length - k) (0) ?_ ?_ ?_ ?_
  ·refine ⟨Nat.zero_le _, ?_, rfl⟩
   omega
  ·exact ⟨rfl, trivial⟩
  ·exact List.Perm.refl _
  ·intro k hinv
   obtain ⟨hk, hg⟩ := hinv
   refine hw_reg ?_
   refine dp rfl (pop_lss rfl rfl) ?_
   refine dn ?_
   refine hw_seq ?_
   refine hw_cond rfl (fun h3 => ?_) (fun h4 => ?_)
   ·try simp at h3
    obtain ⟨x, hx⟩ : ∃ x, l[k]? = some x := ⟨_, List.getElem?_eq_getElem h3⟩
    have hdx := drop_cons hx
    obtain ⟨y, hy⟩ : ∃ y, m[k]? = some y := ⟨_, List.getElem?_eq_getElem (by omega)⟩
    rw [hdx, drop_cons hy] at hg
    refine hw_skip ?_
    refine seqQ_n ?_
    refine hw_seq ?_
    refine hw_block ?_
    refine hw_reg ?_
    refine dp rfl (pop_move rfl) ?_
    refine dp rfl (pop_assign rfl) ?_
    refine dn ?_
    refine hw_draw (fun _ => True) [] mixed ?_
    refine ahp 0 rfl rfl (by kernel_rfl) (by kernel_rfl) (pop_move rfl) ?_
    refine ahp 1 rfl rfl (by kernel_rfl) (by kernel_rfl) (pop_move rfl) ?_
    refine ahp 2 rfl rfl (by kernel_rfl) (by kernel_rfl) (pop_idx ty49 ty53 rfl rfl rfl (by first | assumption | simp_all)) ?_
    refine ahp 3 rfl rfl (by kernel_rfl) (by kernel_rfl) (pop_loadw ty53 rfl rfl rfl rfl) ?_
    refine ahp 4 rfl rfl (by kernel_rfl) (by kernel_rfl) (pop_move rfl) ?_
    refine ahp 5 rfl rfl (by kernel_rfl) (by kernel_rfl) (pop_move rfl) ?_
    refine ahp 6 rfl rfl (by kernel_rfl) (by kernel_rfl) (pop_idx ty49 ty53 rfl rfl rfl (by first | assumption | simp_all)) ?_
    refine ahp 7 rfl rfl (by kernel_rfl) (by kernel_rfl) (pop_loadw ty53 rfl rfl rfl rfl) ?_
    refine ahp 8 rfl rfl (by kernel_rfl) (by kernel_rfl) (pop_neqst ty53 eq53 rfl rfl ⟨rfl, ⟨_, _, _, _, ty9, rfl⟩, ⟨rfl, ⟨_, _, _, _, ty3, rfl⟩, ⟨rfl, ⟨_, _, _, _, ty9, rfl⟩, ⟨rfl, ⟨_, _, _, _, ty3, rfl⟩, ⟨rfl, ⟨_, _, _, _, ty3, rfl⟩, trivial⟩⟩⟩⟩⟩) ?_
    refine ahz (by kernel_rfl) ?_
    refine hw_cond rfl (fun h5 => ?_) (fun h6 => ?_)
    ·try simp at h5
     refine hw_reg ?_
     refine dp rfl (pop_assign rfl) ?_
     refine dn ?_
     refine hw_ret ?_
     refine ret_p rfl ?_
     show HVal.bool _ = _
     first | (congr 1; symm; exact eqSts_len (by omega)) | (rw [hg.2, eqSts, show eqSt eTurned x y = false from h5]; rfl) | (rw [hg.2, drop_all (Nat.le_of_eq hg.1.symm)]; rfl)
    ·try simp at h6
     refine hw_skip ?_
     refine blockQ_n ?_
     refine seqQ_n ?_
     refine hw_reg1 ?_
     refine dp rfl (pop_add64 rfl rfl (by omega) (by omega)) ?_
     refine dp rfl (pop_move rfl) ?_
     refine dn ?_
     refine ⟨k + 1, ?_, ?_, ⟨rfl, trivial⟩, (by repeat (first | exact keeps_refl | refine keeps_upd rfl ?_ | refine keeps_loop rfl rfl ?_)), List.Perm.refl _⟩
     ·refine ⟨by omega, hg.1, ?_⟩
      rw [hg.2, eqSts, show eqSt eTurned x y = true from h6]; rfl
     ·dsimp only; omega
   ·try simp at h4
    have hnk : l.length ≤ k := by omega
    obtain rfl : k = l.length := by omega
    rw [drop_all (Nat.le_refl _)] at hg
    refine hw_exit ?_
    refine seqQ_x ?_
    refine loopQ_x ?_
    refine blockQ_eq ?_
    refine seqQ_n ?_
    refine hw_reg ?_
    refine dp rfl (pop_assign rfl) ?_
    refine dn ?_
    refine hw_ret ?_
    refine ret_p rfl ?_
    show HVal.bool _ = _
    first | (congr 1; symm; exact eqSts_len (by omega)) | (rw [hg.2, eqSts, show eqSt eTurned x y = false from h5]; rfl) | (rw [hg.2, drop_all (Nat.le_of_eq hg.1.symm)]; rfl)

set_option maxHeartbeats 2000000 in
/-- benchwarmer/benchlaw1.LinesMended -/
theorem c_benchlaw1_LinesMended [Tracks] {l : List Int} (hT : Tracks.on = false) : ConP Tryz.prog 6 [.slice 1 (l.map (.int .i64))] (.bool true) := by
 refine Con.of_body Tryz.func6 rfl Tryz.ntmps6 rfl rfl ?_
 refine hw_reg ?_
 refine dp rfl (pop_assign rfl) ?_
 refine dn ?_
 refine hw_reg ?_
 refine dp rfl (pop_move rfl) ?_
 refine dp rfl (pop_build (cs := [_, _]) ty25 pl25 rfl) ?_
 refine de rfl (eop_box rfl rfl fun b => ?_)
 refine dghost (M' := [St b l 0]) rfl ?_
 refine dp rfl (pop_assign rfl) ?_
 refine dn ?_
 refine hw_reg ?_
 refine dp rfl (pop_move rfl) ?_
 first
 | refine de rfl (eop_callx (i := 0) ca20 rfl (WeakL.refl _) rfl (c_benchmake_Stream_LineList (by first | assumption | omega | (simp; omega) | simp_all)) ?_)
 | refine de rfl (eop_callx (i := 1) ca20 rfl (WeakL.refl _) rfl (c_benchmake_Stream_LineList (by first | assumption | omega | (simp; omega) | simp_all)) ?_)
 | refine de rfl (eop_callx (i := 2) ca20 rfl (WeakL.refl _) rfl (c_benchmake_Stream_LineList (by first | assumption | omega | (simp; omega) | simp_all)) ?_)
 | refine de rfl (eop_callx (i := 3) ca20 rfl (WeakL.refl _) rfl (c_benchmake_Stream_LineList (by first | assumption | omega | (simp; omega) | simp_all)) ?_)
 rintro _ _ ⟨n32, a32, rfl, hn32, ha32, rfl⟩
 refine dp rfl (pop_move rfl) ?_
 first
 | refine de rfl (eop_callx (i := 0) ca20 rfl (WeakL.refl _) rfl (c_benchmake_Stream_LineList (by first | assumption | omega | (simp; omega) | simp_all)) ?_)
 | refine de rfl (eop_callx (i := 1) ca20 rfl (WeakL.refl _) rfl (c_benchmake_Stream_LineList (by first | assumption | omega | (simp; omega) | simp_all)) ?_)
 | refine de rfl (eop_callx (i := 2) ca20 rfl (WeakL.refl _) rfl (c_benchmake_Stream_LineList (by first | assumption | omega | (simp; omega) | simp_all)) ?_)
 | refine de rfl (eop_callx (i := 3) ca20 rfl (WeakL.refl _) rfl (c_benchmake_Stream_LineList (by first | assumption | omega | (simp; omega) | simp_all)) ?_)
 rintro _ _ ⟨n34, a34, rfl, hn34, ha34, rfl⟩
 refine dp rfl (pop_move rfl) ?_
 first
 | refine de rfl (eop_callx (i := 0) ca17 rfl (WeakL.refl _) rfl (c_benchmake_Stream_Mends (by first | assumption | omega | (simp; omega) | simp_all)) ?_)
 | refine de rfl (eop_callx (i := 1) ca17 rfl (WeakL.refl _) rfl (c_benchmake_Stream_Mends (by first | assumption | omega | (simp; omega) | simp_all)) ?_)
 | refine de rfl (eop_callx (i := 2) ca17 rfl (WeakL.refl _) rfl (c_benchmake_Stream_Mends (by first | assumption | omega | (simp; omega) | simp_all)) ?_)
 | refine de rfl (eop_callx (i := 3) ca17 rfl (WeakL.refl _) rfl (c_benchmake_Stream_Mends (by first | assumption | omega | (simp; omega) | simp_all)) ?_)
 rintro _ _ ⟨m36, a36, rfl, hm36, ha36, rfl⟩
 refine dp rfl (pop_move rfl) ?_
 first
 | refine de rfl (eop_callx (i := 0) ca17 rfl (WeakL.refl _) rfl (c_benchmake_Stream_Mends (by first | assumption | omega | (simp; omega) | simp_all)) ?_)
 | refine de rfl (eop_callx (i := 1) ca17 rfl (WeakL.refl _) rfl (c_benchmake_Stream_Mends (by first | assumption | omega | (simp; omega) | simp_all)) ?_)
 | refine de rfl (eop_callx (i := 2) ca17 rfl (WeakL.refl _) rfl (c_benchmake_Stream_Mends (by first | assumption | omega | (simp; omega) | simp_all)) ?_)
 | refine de rfl (eop_callx (i := 3) ca17 rfl (WeakL.refl _) rfl (c_benchmake_Stream_Mends (by first | assumption | omega | (simp; omega) | simp_all)) ?_)
 rintro _ _ ⟨m38, a38, rfl, hm38, ha38, rfl⟩
 refine dp rfl (pop_move rfl) ?_
 first
 | refine de rfl (eop_callx (i := 0) ca30 rfl (WeakL.refl _) rfl (c_benchmake_Stream_Known (by first | assumption | omega | (simp; omega) | simp_all)) ?_)
 | refine de rfl (eop_callx (i := 1) ca30 rfl (WeakL.refl _) rfl (c_benchmake_Stream_Known (by first | assumption | omega | (simp; omega) | simp_all)) ?_)
 | refine de rfl (eop_callx (i := 2) ca30 rfl (WeakL.refl _) rfl (c_benchmake_Stream_Known (by first | assumption | omega | (simp; omega) | simp_all)) ?_)
 | refine de rfl (eop_callx (i := 3) ca30 rfl (WeakL.refl _) rfl (c_benchmake_Stream_Known (by first | assumption | omega | (simp; omega) | simp_all)) ?_)
 rintro _ _ ⟨y40, rfl, rfl⟩
 refine dp rfl (pop_assign rfl) ?_
 refine dp rfl (pop_assign rfl) ?_
 refine dp rfl (pop_assign rfl) ?_
 refine dp rfl (pop_assign rfl) ?_
 refine dp rfl (pop_assign rfl) ?_
 refine dn ?_
 refine hw_reg ?_
 refine dp rfl (pop_move rfl) ?_
 refine dp rfl (pop_buildSlice (hs := [_, _, _, _]) ty36 ty9 rfl rfl (by decide) (by decide) rfl) ?_
 first
 | refine de rfl (eop_callx (i := 0) ca31 rfl (WeakL.refl _) rfl (c_benchmake_Stream_Some (L := [_, _, _, _]) (by first | assumption | omega | (simp; omega) | simp_all) (by first | assumption | omega | (simp; omega) | simp_all) (by first | assumption | omega | (simp; omega) | simp_all)) ?_)
 | refine de rfl (eop_callx (i := 1) ca31 rfl (WeakL.refl _) rfl (c_benchmake_Stream_Some (L := [_, _, _, _]) (by first | assumption | omega | (simp; omega) | simp_all) (by first | assumption | omega | (simp; omega) | simp_all) (by first | assumption | omega | (simp; omega) | simp_all)) ?_)
 | refine de rfl (eop_callx (i := 2) ca31 rfl (WeakL.refl _) rfl (c_benchmake_Stream_Some (L := [_, _, _, _]) (by first | assumption | omega | (simp; omega) | simp_all) (by first | assumption | omega | (simp; omega) | simp_all) (by first | assumption | omega | (simp; omega) | simp_all)) ?_)
 | refine de rfl (eop_callx (i := 3) ca31 rfl (WeakL.refl _) rfl (c_benchmake_Stream_Some (L := [_, _, _, _]) (by first | assumption | omega | (simp; omega) | simp_all) (by first | assumption | omega | (simp; omega) | simp_all) (by first | assumption | omega | (simp; omega) | simp_all)) ?_)
 rintro _ _ ⟨y43, rfl, hy43, rfl⟩
 refine dp rfl (pop_move rfl) ?_
 refine dp rfl (pop_buildSlice (hs := [_, _, _]) ty22 ty3 rfl rfl (by decide) (by decide) rfl) ?_
 first
 | refine de rfl (eop_callx (i := 0) ca32 rfl (WeakL.refl _) rfl (c_benchmake_Stream_Pick (L := [_, _, _]) (by first | assumption | omega | (simp; omega) | simp_all) (by first | assumption | omega | (simp; omega) | simp_all) (by first | assumption | omega | (simp; omega) | simp_all)) ?_)
 | refine de rfl (eop_callx (i := 1) ca32 rfl (WeakL.refl _) rfl (c_benchmake_Stream_Pick (L := [_, _, _]) (by first | assumption | omega | (simp; omega) | simp_all) (by first | assumption | omega | (simp; omega) | simp_all) (by first | assumption | omega | (simp; omega) | simp_all)) ?_)
 | refine de rfl (eop_callx (i := 2) ca32 rfl (WeakL.refl _) rfl (c_benchmake_Stream_Pick (L := [_, _, _]) (by first | assumption | omega | (simp; omega) | simp_all) (by first | assumption | omega | (simp; omega) | simp_all) (by first | assumption | omega | (simp; omega) | simp_all)) ?_)
 | refine de rfl (eop_callx (i := 3) ca32 rfl (WeakL.refl _) rfl (c_benchmake_Stream_Pick (L := [_, _, _]) (by first | assumption | omega | (simp; omega) | simp_all) (by first | assumption | omega | (simp; omega) | simp_all) (by first | assumption | omega | (simp; omega) | simp_all)) ?_)
 rintro _ _ ⟨y46, rfl, hy46, rfl⟩
 refine dp rfl (pop_move rfl) ?_
 refine dp rfl (pop_buildSlice (hs := [_, _, _]) ty36 ty9 rfl rfl (by decide) (by decide) rfl) ?_
 first
 | refine de rfl (eop_callx (i := 0) ca31 rfl (WeakL.refl _) rfl (c_benchmake_Stream_Some (L := [_, _, _]) (by first | assumption | omega | (simp; omega) | simp_all) (by first | assumption | omega | (simp; omega) | simp_all) (by first | assumption | omega | (simp; omega) | simp_all)) ?_)
 | refine de rfl (eop_callx (i := 1) ca31 rfl (WeakL.refl _) rfl (c_benchmake_Stream_Some (L := [_, _, _]) (by first | assumption | omega | (simp; omega) | simp_all) (by first | assumption | omega | (simp; omega) | simp_all) (by first | assumption | omega | (simp; omega) | simp_all)) ?_)
 | refine de rfl (eop_callx (i := 2) ca31 rfl (WeakL.refl _) rfl (c_benchmake_Stream_Some (L := [_, _, _]) (by first | assumption | omega | (simp; omega) | simp_all) (by first | assumption | omega | (simp; omega) | simp_all) (by first | assumption | omega | (simp; omega) | simp_all)) ?_)
 | refine de rfl (eop_callx (i := 3) ca31 rfl (WeakL.refl _) rfl (c_benchmake_Stream_Some (L := [_, _, _]) (by first | assumption | omega | (simp; omega) | simp_all) (by first | assumption | omega | (simp; omega) | simp_all) (by first | assumption | omega | (simp; omega) | simp_all)) ?_)
 rintro _ _ ⟨y49, rfl, hy49, rfl⟩
 refine dp rfl (pop_assign rfl) ?_
 refine dp rfl (pop_assign rfl) ?_
 refine dp rfl (pop_assign rfl) ?_
 refine dn ?_
 refine hw_ghost Ghost.clear ?_
 have hl32 := hn32.len
 have hl34 := hn34.len
 have hl36 := hm36.len
 have hl38 := hm38.len
 have hk43 : y43.length ≤ 1000000 := by simp at hy43; rcases hy43 with rfl | rfl | rfl | rfl <;> simp
 have hk49 : y49.length ≤ 1000000 := by simp at hy49; rcases hy49 with rfl | rfl | rfl <;> simp
 have hdl : (dfL n32 n34).length ≤ 1000000 := by
  have q1 := dfL_len n32 n34
  have q2 := cnL_many hn32.st
  have q3 := cnL_many hn34.st
  omega
 have hbd := mended_bd (n := y40) hl32 hn32.st hl36
 refine hw_reg ?_
 refine dp rfl (pop_move rfl) ?_
 refine dp rfl (pop_call ca21 rfl (WeakL.refl _) (c_benchref1_LinesFault (l := n32) (by omega) (fun x hx => Nat.le_trans (hn32.st x hx) (by decide)) hn32.all)) ?_
 refine dp rfl (pop_move rfl) ?_
 refine dp rfl (pop_call ca18 rfl (WeakL.refl _) (c_benchref1_MendsFault (m := m36) (by omega) hm36.all)) ?_
 refine dp rfl (pop_assign rfl) ?_
 refine dp rfl (pop_assign rfl) ?_
 refine dn ?_
 refine hw_seq ?_
 refine hw_reg ?_
 refine dp rfl (pop_move rfl) ?_
 refine dp rfl (pop_call ca26 rfl (WeakL.refl _) (c_play_CheckLines (l := n32) (by omega) (fun x hx => Nat.le_trans (hn32.st x hx) (by decide)))) ?_
 refine dp rfl (pop_move rfl) ?_
 refine dp rfl (pop_neq rfl rfl) ?_
 refine dp rfl (pop_move rfl) ?_
 refine dg rfl rfl (fun hc => ⟨_, OpenTo.refl _, pop_move rfl⟩) ?_
 refine dg rfl rfl (fun hc => by have hq := hc; (try simp at hq); exact ⟨_, OpenTo.upd (t := 59) rfl (by first | exact hc | simp_all) (OpenTo.refl _), pop_call ca33 rfl (WeakL.refl _) (c_play_CheckMends (m := m36) (by omega))⟩) ?_
 refine dg rfl rfl (fun hc => ⟨_, OpenTo.refl _, pop_move rfl⟩) ?_
 refine dg rfl rfl (fun hc => ⟨_, OpenTo.upd (t := 61) rfl (by first | exact hc | simp_all) (OpenTo.upd (t := 60) rfl (by first | exact hc | simp_all) (OpenTo.refl _)), pop_neq rfl rfl⟩) ?_
 refine dp rfl (pop_picko rfl (.inl rfl) (.inr ⟨_, rfl, fun h => by simp_all⟩)) ?_
 refine dn ?_
 refine hw_cond rfl (fun h1 => ?_) (fun h1 => ?_)
 ·exfalso
  try simp at h1
  done
 ·try simp at h1
  refine hw_skip ?_
  refine seqQ_n ?_
  refine hw_reg ?_
  refine dp rfl (pop_move rfl) ?_
  refine dp rfl (pop_move rfl) ?_
  refine dp rfl (pop_call ca34 rfl (WeakL.refl _) (c_play_MergeMends (m := m36) (n := m38) (by omega) (by omega))) ?_
  refine dp rfl (pop_move rfl) ?_
  refine dp rfl (pop_extract rfl rfl) ?_
  refine dp rfl (pop_extract rfl rfl) ?_
  refine dp rfl (pop_assign rfl) ?_
  refine dp rfl (pop_assign rfl) ?_
  refine dn ?_
  refine hw_reg ?_
  refine dp rfl (pop_move rfl) ?_
  refine dp rfl (pop_move rfl) ?_
  refine dp rfl (pop_call ca18 rfl (WeakL.refl _) (c_benchref1_MendsFault (m := m38) (by omega) hm38.all)) ?_
  refine dp rfl (pop_buildSlice (hs := [_, _]) ty136 ty31 rfl rfl (by decide) (by decide) rfl) ?_
  refine dp rfl (pop_call ca35 rfl (WeakL.refl _) (c_cmp_Or_api_Errno (l := [_, _]) (by simp))) ?_
  refine dp rfl (pop_assign rfl) ?_
  refine dn ?_
  refine hw_reg ?_
  refine dp rfl (pop_assign rfl) ?_
  refine dn ?_
  refine hw_ghost (Ghost.arr_nil 7) ?_
  refine hw_ghost (Ghost.fa 17 (i := 0) rfl rfl) ?_
  refine hw_join [16, 17, 75, 76, 77, 78, 79, 80, 81, 82] (fun (z : Unit) => [(17, eMends (MergeL m36 m38)), (16, .int .i64 (MergeE m36 m38))]) (fun (z : Unit) => []) (fun (z : Unit) => True) ?_ ?_
  ·skip
   refine hw_reg ?_
   refine dp rfl (pop_move rfl) ?_
   refine dp rfl (pop_eql rfl rfl) ?_
   refine dn ?_
   refine hw_cond rfl (fun h2 => ?_) (fun h3 => ?_)
   ·try simp at h2
    have hz := (merge_cases m36 m38).resolve_right fun q => q.1 (by simpa using h2)
    refine hw_reg1 ?_
    refine dp rfl (pop_move rfl) ?_
    refine dp rfl (pop_move rfl) ?_
    refine dp rfl (pop_call ca36 rfl (WeakL.refl _) (c_benchref1_MendsMerged (m := m36) (n := m38) (by omega) (by omega) (mendsE_ok hz.2.1.1).2.2 (mendsE_ok hz.2.1.2).2.2)) ?_
    refine dp rfl (pop_move rfl) ?_
    refine dp rfl (pop_extract rfl rfl) ?_
    refine dp rfl (pop_extract rfl rfl) ?_
    refine dp rfl (pop_assign rfl) ?_
    refine dp rfl (pop_assign rfl) ?_
    refine dn ?_
    exact ⟨(), trivial, ⟨congrArg (fun z => some (eMends z)) hz.2.2.1, congrArg (fun z => some (HVal.int .i64 z)) hz.2.2.2, trivial⟩, (by repeat (first | exact keeps_refl | refine keeps_upd rfl ?_ | refine keeps_loop rfl rfl ?_)), List.Perm.refl _⟩
   ·try simp at h3
    refine hw_skip ?_
    have hz := (merge_cases m36 m38).resolve_left fun q => absurd q.1 (by simpa using h3)
    exact ⟨(), trivial, ⟨congrArg (fun z => some (eMends z)) hz.2.1, congrArg (fun z => some (HVal.int .i64 z)) hz.2.2, trivial⟩, (by repeat (first | exact keeps_refl | refine keeps_upd rfl ?_ | refine keeps_loop rfl rfl ?_)), List.Perm.refl _⟩
  ·intro z _
   refine hw_seq ?_
   refine hw_reg ?_
   refine dp rfl (pop_move rfl) ?_
   refine dp rfl (pop_move rfl) ?_
   refine dp rfl (pop_neq rfl rfl) ?_
   refine dp rfl (pop_move rfl) ?_
   refine dg rfl rfl (fun hc => ⟨_, OpenTo.refl _, pop_move rfl⟩) ?_
   refine dg rfl rfl (fun hc => ⟨_, OpenTo.refl _, pop_move rfl⟩) ?_
   refine dg rfl rfl (fun hc => by have hq := hc; (try simp at hq); exact ⟨_, OpenTo.upd (t := 88) rfl (by first | exact hc | simp_all) (OpenTo.upd (t := 87) rfl (by first | exact hc | simp_all) (OpenTo.refl _)), pop_call ca37 rfl (WeakL.refl _) (c_slices_Equal_api_Mend_api_Mend (l := (MergeL m36 m38)) (m := (MergeL m36 m38)) (Nat.le_trans (MergeL_len _ _) (by omega)))⟩) ?_
   refine dg rfl rfl (fun hc => ⟨_, OpenTo.upd (t := 89) rfl (by first | exact hc | simp_all) (OpenTo.refl _), pop_not rfl⟩) ?_
   refine dp rfl (pop_picko rfl (.inl rfl) (.inr ⟨_, rfl, fun h => by simp_all⟩)) ?_
   refine dn ?_
   refine hw_cond rfl (fun h4 => ?_) (fun h4 => ?_)
   ·exfalso
    try simp at h4
    rw [eqMends_refl] at h4
    cases h4
   ·try simp at h4
    refine hw_skip ?_
    refine seqQ_n ?_
    refine hw_reg ?_
    refine dp rfl (pop_move rfl) ?_
    refine dp rfl (pop_move rfl) ?_
    refine dp rfl (pop_move rfl) ?_
    refine dp rfl (pop_call ca22 rfl (WeakL.refl _) (c_play_Mended (l := n32) (m := m36) (n := y40) (by omega) (by omega) (fun x hx => Nat.le_trans (hn32.st x hx) (by decide)) (fun _ => (md_40 hn32.st (by omega)).up (by decide)))) ?_
    refine dp rfl (pop_move rfl) ?_
    refine dp rfl (pop_extract rfl rfl) ?_
    refine dp rfl (pop_extract rfl rfl) ?_
    refine dp rfl (pop_assign rfl) ?_
    refine dp rfl (pop_assign rfl) ?_
    refine dn ?_
    refine hw_reg ?_
    refine dp rfl (pop_move rfl) ?_
    refine dp rfl (pop_move rfl) ?_
    refine dp rfl (pop_move rfl) ?_
    refine dp rfl (pop_call ca38 rfl (WeakL.refl _) c_benchref1_MomentFault) ?_
    refine dp rfl (pop_buildSlice (hs := [_, _, _]) ty136 ty31 rfl rfl (by decide) (by decide) rfl) ?_
    refine dp rfl (pop_call ca35 rfl (WeakL.refl _) (c_cmp_Or_api_Errno (l := [_, _, _]) (by simp))) ?_
    refine dp rfl (pop_assign rfl) ?_
    refine dn ?_
    refine hw_reg ?_
    refine dp rfl (pop_assign rfl) ?_
    refine dn ?_
    refine hw_ghost (Ghost.arr_nil 3) ?_
    refine hw_ghost (Ghost.fa 20 (i := 0) rfl rfl) ?_
    refine hw_join [19, 20, 105, 106, 107, 108, 109, 110, 111, 112, 113] (fun (z : Unit) => [(20, eLines (MendedL n32 m36 y40)), (19, .int .i64 (MendedE n32 m36 y40))]) (fun (z : Unit) => []) (fun (z : Unit) => True) ?_ ?_
    ·skip
     refine hw_reg ?_
     refine dp rfl (pop_move rfl) ?_
     refine dp rfl (pop_eql rfl rfl) ?_
     refine dn ?_
     refine hw_cond rfl (fun h5 => ?_) (fun h6 => ?_)
     ·try simp at h5
      have hz := (mended_cases n32 m36 y40).resolve_right fun q => q.1 (by simpa using h5)
      refine hw_reg1 ?_
      refine dp rfl (pop_move rfl) ?_
      refine dp rfl (pop_move rfl) ?_
      refine dp rfl (pop_move rfl) ?_
      refine dp rfl (pop_call ca39 rfl (WeakL.refl _) (c_benchref1_MendedOf (l := n32) (m := m36) (n := y40) (by omega) hn32.st (by omega) hz.2.1)) ?_
      refine dp rfl (pop_move rfl) ?_
      refine dp rfl (pop_extract rfl rfl) ?_
      refine dp rfl (pop_extract rfl rfl) ?_
      refine dp rfl (pop_assign rfl) ?_
      refine dp rfl (pop_assign rfl) ?_
      refine dn ?_
      exact ⟨(), trivial, ⟨congrArg (fun z => some (eLines z)) hz.2.2.1, congrArg (fun z => some (HVal.int .i64 z)) hz.2.2.2, trivial⟩, (by repeat (first | exact keeps_refl | refine keeps_upd rfl ?_ | refine keeps_loop rfl rfl ?_)), List.Perm.refl _⟩
     ·try simp at h6
      refine hw_skip ?_
      have hz := (mended_cases n32 m36 y40).resolve_left fun q => absurd q.1 (by simpa using h6)
      exact ⟨(), trivial, ⟨congrArg (fun z => some (eLines z)) hz.2.1, congrArg (fun z => some (HVal.int .i64 z)) hz.2.2, trivial⟩, (by repeat (first | exact keeps_refl | refine keeps_upd rfl ?_ | refine keeps_loop rfl rfl ?_)), List.Perm.refl _⟩
    ·intro z _
     refine hw_seq ?_
     refine hw_reg ?_
     refine dp rfl (pop_move rfl) ?_
     refine dp rfl (pop_move rfl) ?_
     refine dp rfl (pop_neq rfl rfl) ?_
     refine dp rfl (pop_move rfl) ?_
     refine dg rfl rfl (fun hc => ⟨_, OpenTo.refl _, pop_move rfl⟩) ?_
     refine dg rfl rfl (fun hc => ⟨_, OpenTo.refl _, pop_move rfl⟩) ?_
     refine dg rfl rfl (fun hc => ⟨_, OpenTo.upd (t := 119) rfl (by first | exact hc | simp_all) (OpenTo.upd (t := 118) rfl (by first | exact hc | simp_all) (OpenTo.refl _)), pop_call ca24 rfl (WeakL.refl _) (c_EqualFunc_Line (l := (MendedL n32 m36 y40)) hbd.1 hbd.2)⟩) ?_
     refine dg rfl rfl (fun hc => ⟨_, OpenTo.upd (t := 120) rfl (by first | exact hc | simp_all) (OpenTo.refl _), pop_not rfl⟩) ?_
     refine dp rfl (pop_picko rfl (.inl rfl) (.inr ⟨_, rfl, fun h => by simp_all⟩)) ?_
     refine dn ?_
     refine hw_cond rfl (fun h7 => ?_) (fun h7 => ?_)
     ·exfalso
      try simp at h7
      done
     ·try simp at h7
      refine hw_skip ?_
      refine seqQ_n ?_
      refine hw_reg ?_
      refine dp rfl (pop_move rfl) ?_
      refine dp rfl (pop_move rfl) ?_
      refine dp rfl (pop_call ca23 rfl (WeakL.refl _) (c_play_Differ (a := n32) (b := n34) (by omega) (fun x hx => Nat.le_trans (hn32.st x hx) (by decide)) (by omega) (fun x hx => Nat.le_trans (hn34.st x hx) (by decide)))) ?_
      refine dp rfl (pop_move rfl) ?_
      refine dp rfl (pop_extract rfl rfl) ?_
      refine dp rfl (pop_extract rfl rfl) ?_
      refine dp rfl (pop_assign rfl) ?_
      refine dp rfl (pop_assign rfl) ?_
      refine dn ?_
      refine hw_reg ?_
      refine dp rfl (pop_move rfl) ?_
      refine dp rfl (pop_move rfl) ?_
      refine dp rfl (pop_call ca21 rfl (WeakL.refl _) (c_benchref1_LinesFault (l := n34) (by omega) (fun x hx => Nat.le_trans (hn34.st x hx) (by decide)) hn34.all)) ?_
      refine dp rfl (pop_buildSlice (hs := [_, _]) ty136 ty31 rfl rfl (by decide) (by decide) rfl) ?_
      refine dp rfl (pop_call ca35 rfl (WeakL.refl _) (c_cmp_Or_api_Errno (l := [_, _]) (by simp))) ?_
      refine dp rfl (pop_assign rfl) ?_
      refine dn ?_
      refine hw_seq ?_
      refine hw_reg ?_
      refine dp rfl (pop_move rfl) ?_
      refine dp rfl (pop_move rfl) ?_
      refine dp rfl (pop_neq rfl rfl) ?_
      refine dp rfl (pop_move rfl) ?_
      refine dg rfl rfl (fun hc => ⟨_, OpenTo.refl _, pop_move rfl⟩) ?_
      refine dg rfl rfl (fun hc => ⟨_, OpenTo.upd (t := 138) rfl (by first | exact hc | simp_all) (OpenTo.refl _), pop_eql rfl rfl⟩) ?_
      refine dg rfl rfl (fun hc => ⟨_, OpenTo.upd (t := 139) rfl (by first | exact hc | simp_all) (OpenTo.refl _), pop_move rfl⟩) ?_
      refine dg rfl rfl (fun hc => ⟨_, OpenTo.refl _, pop_move rfl⟩) ?_
      refine dg rfl rfl (fun hc => ⟨_, OpenTo.refl _, pop_move rfl⟩) ?_
      refine dg rfl rfl (fun hc => ⟨_, OpenTo.refl _, pop_move rfl⟩) ?_
      refine dg rfl rfl (fun hc => by
       have hz2 : linesFE n32 = 0 ∧ linesFE n34 = 0 := or2z (by simp_all)
       exact ⟨_, OpenTo.upd (t := 143) rfl (by first | exact hc | simp_all) (OpenTo.upd (t := 142) rfl (by first | exact hc | simp_all) (OpenTo.refl _)), pop_call ca41 rfl (WeakL.refl _) (c_benchref1_DifferOf (a := n32) (b := n34) (by omega) (by omega) hn32.st hn34.st hz2.1 hz2.2)⟩) ?_
      refine dg rfl rfl (fun hc => ⟨_, OpenTo.upd (t := 144) rfl (by first | exact hc | simp_all) (OpenTo.upd (t := 141) rfl (by first | exact hc | simp_all) (OpenTo.refl _)), pop_call ca40 rfl (WeakL.refl _) (c_slices_Equal_api_Turned_api_Turned (l := (if orI [linesFE n32, linesFE n34] ≠ 0 then [] else dfL n32 n34)) (m := dfL n32 n34) (ite_len hdl))⟩) ?_
      refine dg rfl rfl (fun hc => ⟨_, OpenTo.upd (t := 145) rfl (by first | exact hc | simp_all) (OpenTo.refl _), pop_not rfl⟩) ?_
      refine dg rfl rfl (fun hc => ⟨_, OpenTo.upd (t := 140) rfl (by first | exact hc | simp_all) (OpenTo.refl _), pop_picko rfl (.inr ⟨_, rfl, fun h => by simp_all⟩) (.inl rfl)⟩) ?_
      refine dp rfl (pop_picko rfl (.inl rfl) (.inr ⟨_, rfl, fun h => by simp_all⟩)) ?_
      refine dp rfl (pop_move rfl) ?_
      refine dg rfl rfl (fun hc => ⟨_, OpenTo.refl _, pop_move rfl⟩) ?_
      refine dg rfl rfl (fun hc => ⟨_, OpenTo.upd (t := 150) rfl (by first | exact hc | simp_all) (OpenTo.refl _), pop_neq rfl rfl⟩) ?_
      refine dg rfl rfl (fun hc => ⟨_, OpenTo.upd (t := 151) rfl (by first | exact hc | simp_all) (OpenTo.refl _), pop_move rfl⟩) ?_
      refine dg rfl rfl (fun hc => ⟨_, OpenTo.refl _, pop_move rfl⟩) ?_
      refine dg rfl rfl (fun hc => ⟨_, OpenTo.upd (t := 153) rfl (by first | exact hc | simp_all) (OpenTo.refl _), pop_lenm (f := eTurned) (l := (if orI [linesFE n32, linesFE n34] ≠ 0 then [] else dfL n32 n34)) ty49 rfl⟩) ?_
      refine dg rfl rfl (fun hc => ⟨_, OpenTo.upd (t := 154) rfl (by first | exact hc | simp_all) (OpenTo.refl _), pop_gtr rfl rfl⟩) ?_
      refine dg rfl rfl (fun hc => ⟨_, OpenTo.upd (t := 152) rfl (by first | exact hc | simp_all) (OpenTo.refl _), pop_picko rfl (.inr ⟨_, rfl, fun h => by simp_all⟩) (.inl rfl)⟩) ?_
      refine dp rfl (pop_picko rfl (.inl rfl) (.inr ⟨_, rfl, fun h => by simp_all⟩)) ?_
      refine dn ?_
      refine hw_cond rfl (fun h8 => ?_) (fun h8 => ?_)
      ·exfalso
       try simp at h8
       by_cases hz : orI [linesFE n32, linesFE n34] = 0
       ·simp [hz, eqTurneds_refl] at h8
       ·simp [hz] at h8
      ·try simp at h8
       refine hw_skip ?_
       refine seqQ_n ?_
       refine hw_reg ?_
       refine dp rfl (pop_move rfl) ?_
       refine dp rfl (pop_move rfl) ?_
       refine dp rfl (pop_move rfl) ?_
       refine dp rfl (pop_move rfl) ?_
       refine dp rfl (pop_call ca27 rfl (WeakL.refl _) (c_play_Count (l := n32) (p := y43) (w := y46) (s := y49) (by omega) (fun x hx => Nat.le_trans (hn32.st x hx) (by decide)))) ?_
       refine dp rfl (pop_move rfl) ?_
       refine dp rfl (pop_extract rfl rfl) ?_
       refine dp rfl (pop_extract rfl rfl) ?_
       refine dp rfl (pop_assign rfl) ?_
       refine dp rfl (pop_assign rfl) ?_
       refine dn ?_
       refine hw_reg ?_
       refine dp rfl (pop_move rfl) ?_
       refine dp rfl (pop_move rfl) ?_
       refine dp rfl (pop_call ca42 rfl (WeakL.refl _) (c_benchref1_KeyFault hk43)) ?_
       refine dp rfl (pop_move rfl) ?_
       refine dp rfl (pop_call ca43 rfl (WeakL.refl _) c_benchref1_WeekFault) ?_
       refine dp rfl (pop_move rfl) ?_
       refine dp rfl (pop_call ca42 rfl (WeakL.refl _) (c_benchref1_KeyFault hk49)) ?_
       refine dp rfl (pop_buildSlice (hs := [_, _, _, _]) ty136 ty31 rfl rfl (by decide) (by decide) rfl) ?_
       refine dp rfl (pop_eq (pop_call ca35 rfl (WeakL.refl _) (c_cmp_Or_api_Errno (l := [_, _, _, _]) (by simp))) (congrArg (HVal.int .i64) (count_or n32 y43 y46 y49))) ?_
       refine dp rfl (pop_assign rfl) ?_
       refine dn ?_
       refine hw_seq ?_
       refine hw_reg ?_
       refine dp rfl (pop_move rfl) ?_
       refine dp rfl (pop_move rfl) ?_
       refine dp rfl (pop_neq rfl rfl) ?_
       refine dp rfl (pop_move rfl) ?_
       refine dg rfl rfl (fun hc => ⟨_, OpenTo.refl _, pop_move rfl⟩) ?_
       refine dg rfl rfl (fun hc => ⟨_, OpenTo.upd (t := 179) rfl (by first | exact hc | simp_all) (OpenTo.refl _), pop_eql rfl rfl⟩) ?_
       refine dg rfl rfl (fun hc => ⟨_, OpenTo.upd (t := 180) rfl (by first | exact hc | simp_all) (OpenTo.refl _), pop_move rfl⟩) ?_
       refine dg rfl rfl (fun hc => ⟨_, OpenTo.refl _, pop_move rfl⟩) ?_
       refine dg rfl rfl (fun hc => ⟨_, OpenTo.refl _, pop_move rfl⟩) ?_
       refine dg rfl rfl (fun hc => ⟨_, OpenTo.refl _, pop_move rfl⟩) ?_
       refine dg rfl rfl (fun hc => ⟨_, OpenTo.refl _, pop_move rfl⟩) ?_
       refine dg rfl rfl (fun hc => ⟨_, OpenTo.refl _, pop_move rfl⟩) ?_
       refine dg rfl rfl (fun hc => by have hq := hc; (try simp at hq); exact ⟨_, OpenTo.upd (t := 186) rfl (by first | exact hc | simp_all) (OpenTo.upd (t := 185) rfl (by first | exact hc | simp_all) (OpenTo.upd (t := 184) rfl (by first | exact hc | simp_all) (OpenTo.upd (t := 183) rfl (by first | exact hc | simp_all) (OpenTo.refl _)))), pop_call ca44 rfl (WeakL.refl _) (c_benchref1_CountIn (l := n32) (p := y43) (w := y46) (s := y49) (by omega) (fun x hx => Nat.le_trans (hn32.st x hx) (by decide)))⟩) ?_
       refine dg rfl rfl (fun hc => ⟨_, OpenTo.upd (t := 187) rfl (by first | exact hc | simp_all) (OpenTo.upd (t := 182) rfl (by first | exact hc | simp_all) (OpenTo.refl _)), pop_neq rfl rfl⟩) ?_
       refine dg rfl rfl (fun hc => ⟨_, OpenTo.upd (t := 181) rfl (by first | exact hc | simp_all) (OpenTo.refl _), pop_picko rfl (.inr ⟨_, rfl, fun h => by simp_all⟩) (.inl rfl)⟩) ?_
       refine dp rfl (pop_picko rfl (.inl rfl) (.inr ⟨_, rfl, fun h => by simp_all⟩)) ?_
       refine dp rfl (pop_move rfl) ?_
       refine dg rfl rfl (fun hc => ⟨_, OpenTo.refl _, pop_move rfl⟩) ?_
       refine dg rfl rfl (fun hc => ⟨_, OpenTo.upd (t := 192) rfl (by first | exact hc | simp_all) (OpenTo.refl _), pop_neq rfl rfl⟩) ?_
       refine dg rfl rfl (fun hc => ⟨_, OpenTo.upd (t := 193) rfl (by first | exact hc | simp_all) (OpenTo.refl _), pop_move rfl⟩) ?_
       refine dg rfl rfl (fun hc => ⟨_, OpenTo.refl _, pop_move rfl⟩) ?_
       refine dg rfl rfl (fun hc => ⟨_, OpenTo.upd (t := 195) rfl (by first | exact hc | simp_all) (OpenTo.refl _), pop_neq rfl rfl⟩) ?_
       refine dg rfl rfl (fun hc => ⟨_, OpenTo.upd (t := 194) rfl (by first | exact hc | simp_all) (OpenTo.refl _), pop_picko rfl (.inr ⟨_, rfl, fun h => by simp_all⟩) (.inl rfl)⟩) ?_
       refine dp rfl (pop_picko rfl (.inl rfl) (.inr ⟨_, rfl, fun h => by simp_all⟩)) ?_
       refine dn ?_
       refine hw_cond rfl (fun h9 => ?_) (fun h9 => ?_)
       ·exfalso
        try simp at h9
        rcases count_cases n32 y43 y46 y49 with ⟨q1, q2⟩ | ⟨q1, q2⟩
        ·simp [q1, q2] at h9
        ·simp [q1, q2] at h9
       ·try simp at h9
        refine hw_skip ?_
        refine seqQ_n ?_
        refine hw_reg ?_
        refine dp rfl (pop_move rfl) ?_
        refine dp rfl (pop_call ca45 rfl (WeakL.refl _) (c_play_Sums (l := n32) hT (by omega) (fun x hx => Nat.le_trans (hn32.st x hx) (by decide)))) ?_
        refine dp rfl (pop_move rfl) ?_
        refine dp rfl (pop_extract rfl rfl) ?_
        refine dp rfl (pop_extract rfl rfl) ?_
        refine dp rfl (pop_assign rfl) ?_
        refine dp rfl (pop_assign rfl) ?_
        refine dn ?_
        refine hw_seq ?_
        refine hw_reg ?_
        refine dp rfl (pop_move rfl) ?_
        refine dp rfl (pop_neq rfl rfl) ?_
        refine dn ?_
        refine hw_cond rfl (fun h10 => ?_) (fun h11 => ?_)
        ·try simp at h10
         obtain ⟨hs1, hs2⟩ := sums_bad (l := n32) (by assumption)
         refine hw_reg ?_
         refine dp rfl (pop_move rfl) ?_
         refine dp rfl (pop_move rfl) ?_
         refine dp rfl (pop_eql rfl rfl) ?_
         refine dp rfl (pop_move rfl) ?_
         refine dg rfl rfl (fun hc => ⟨_, OpenTo.refl _, pop_move rfl⟩) ?_
         refine dg rfl rfl (fun hc => ⟨_, OpenTo.upd (t := 210) rfl (by first | exact hc | simp_all) (OpenTo.refl _), pop_lenm (f := eLine) (l := SumsL n32) ty54 rfl⟩) ?_
         refine dg rfl rfl (fun hc => ⟨_, OpenTo.upd (t := 211) rfl (by first | exact hc | simp_all) (OpenTo.refl _), pop_eql rfl rfl⟩) ?_
         refine dp rfl (pop_picko rfl (.inr ⟨_, rfl, fun h => by simp_all⟩) (.inl rfl)) ?_
         refine dp rfl (pop_move rfl) ?_
         refine dg rfl rfl (fun hc => ⟨_, OpenTo.refl _, pop_call ca46 rfl (WeakL.refl _) (c_benchlaw1_played hT)⟩) ?_
         refine dp rfl (pop_picko rfl (.inr ⟨_, rfl, fun h => by simp_all⟩) (.inl rfl)) ?_
         refine dp rfl (pop_assign rfl) ?_
         refine dn ?_
         refine hw_ret ?_
         refine ret_p rfl ?_
         show HVal.bool _ = _
         simp [hs1, hs2]
        ·try simp at h11
         refine hw_skip ?_
         refine seqQ_n ?_
         have hlz : linesFE n32 = 0 := by assumption
         obtain ⟨hs1, hs2⟩ := sums_good hlz
         have hsb := sums_bd (lines_okL hlz) (by omega)
         rw [hs1, hs2]
         refine hw_reg ?_
         refine dp rfl (pop_move rfl) ?_
         refine dp rfl (pop_call ca47 rfl (WeakL.refl _) (c_benchref1_SumsOf (l := n32) (lines_okL hlz) (by omega))) ?_
         refine dp rfl (pop_move rfl) ?_
         refine dp rfl (pop_extract rfl rfl) ?_
         refine dp rfl (pop_extract rfl rfl) ?_
         refine dp rfl (pop_assign rfl) ?_
         refine dp rfl (pop_assign rfl) ?_
         refine dn ?_
         refine hw_reg ?_
         refine dp rfl (pop_move rfl) ?_
         refine dp rfl (pop_move rfl) ?_
         refine dp rfl (pop_eql rfl rfl) ?_
         refine dp rfl (pop_move rfl) ?_
         refine dg rfl rfl (fun hc => ⟨_, OpenTo.refl _, pop_move rfl⟩) ?_
         refine dg rfl rfl (fun hc => ⟨_, OpenTo.refl _, pop_move rfl⟩) ?_
         refine dg rfl rfl (fun hc => ⟨_, OpenTo.upd (t := 227) rfl (by first | exact hc | simp_all) (OpenTo.upd (t := 226) rfl (by first | exact hc | simp_all) (OpenTo.refl _)), pop_call ca24 rfl (WeakL.refl _) (c_EqualFunc_Line (l := sumsRL n32) hsb.1 hsb.2)⟩) ?_
         refine dp rfl (pop_picko rfl (.inr ⟨_, rfl, fun h => by simp_all⟩) (.inl rfl)) ?_
         refine dp rfl (pop_move rfl) ?_
         refine dg rfl rfl (fun hc => ⟨_, OpenTo.refl _, pop_call ca46 rfl (WeakL.refl _) (c_benchlaw1_played hT)⟩) ?_
         refine dp rfl (pop_picko rfl (.inr ⟨_, rfl, fun h => by simp_all⟩) (.inl rfl)) ?_
         refine dp rfl (pop_assign rfl) ?_
         refine dn ?_
         refine hw_ret ?_
         refine ret_p rfl ?_
         show HVal.bool _ = _
         simp [hs1, hs2]
end Go.Proofs.YtkamelfigfbfiaaGreatDoor
end
section
namespace Go.HL
theorem tabI_any (P : Program) (I : Imm) : TabI P I := trivial
end Go.HL
end
section
namespace Go.Proofs.YtkamelfigfbfiaaGreatDoor
open Go.ChangeShapes Go.WideShapes Go.ChangeAt Go.RowKit Go.HL
theorem ownLinesMended : ownKnob Tryz.prog.godebug = none := by kernel_rfl
theorem laidOutLinesMended : laidOutB Tryz.prog = true := by kernel_rfl
theorem cellsLinesMended : Tryz.prog.cellsOf 3 = 1 := by kernel_rfl
theorem tabLinesMended {W : World} (_ : laidMetH Tryz.prog Rows.linesMendedRow.laid W) : TabI Tryz.prog (allI W) := tabI_any _ _
theorem callsLinesMended {W : World} (ht : TabI Tryz.prog (allI W)) {a : Option Addr} {len cap : Nat} {H : Type} {enc : TypeId × Value → H} {d0 : DataW H} {p : List MemPlace} (h : DataW.Trod enc Tryz.prog W 0 (fun _ => true) true 22 (.slice a len cap) d0 p) :
 Calls Tryz.prog 6 #[.slice a len cap] W fun e W' => e = .returned (.bool true) ∧ Below W.heap.size W W' := by
 obtain ⟨fuel, hf⟩ := h
 rcases open_ints Tryz.underlying22 Tryz.underlying3 cellsLinesMended hf with ⟨hcs, hx⟩ | ⟨a', len', cap', zs, hcs, _, hl, hm, hz, hx, hcell, hwz⟩
 ·simp [Value.cells] at hcs
  obtain ⟨rfl, rfl, rfl⟩ := hcs
  letI : Tracks := ⟨false⟩
  exact conp_law (l := []) (c_benchlaw1_LinesMended rfl) ht (.slice0 _ _ _)
 ·simp [Value.cells] at hcs
  obtain ⟨rfl, rfl, rfl⟩ := hcs
  simp only [if_true] at hz
  letI : Tracks := ⟨false⟩
  exact conp_law (l := zs.take len) (c_benchlaw1_LinesMended rfl) ht (v_ints hcell (by omega) hl)
set_option maxRecDepth 100000 in
theorem liftedLinesMended (os : Os) (started : os.Started) (H : Type) (enc : TypeId × Value → H) :
 ReturnsInHanded {} Tryz.checked os 6 .any (fun w args => (Rows.linesMendedSpec.pre enc Tryz.prog Tryz.f6 Rows.linesMendedRow.domain false w args ∧ laidMetH Tryz.prog Rows.linesMendedRow.laid w) ∧ sizedMet enc Tryz.prog Tryz.f6 (OpenSpec.ofChange Rows.linesMendedSpec) false w args)
  (Rows.linesMendedSpec.post enc Tryz.prog Tryz.f6 false true false false) := by
 refine returnsInHanded_of_change_and (C := Tryz.checked) (X := fun w _ => laidMetH Tryz.prog Rows.linesMendedRow.laid w) (fun _ _ _ hh h => h.of_heap hh) ownLinesMended started (by kernel_rfl) Tryz.func6
  (ChangeSpec.witness_shaped (enc := enc) (C := Tryz.checked) (os := os) (X := fun w _ => laidMetH Tryz.prog Rows.linesMendedRow.laid w) false (World.laidAll Tryz.prog os Rows.linesMendedRow.laid) #[.slice none 0 0] 8 (World.laidAll_os _ _ _)
    (World.shaped_of_ZipB (by kernel_rfl) (by kernel_rfl)) (by kernel_rfl) (by kernel_rfl) (by kernel_rfl)
    (by rw [MakeChecks.laidMetH_plain _ _ _ (by kernel_rfl)]; exact laidMet_laidAll _ (by kernel_rfl) (by kernel_rfl))) ?_
 intro W base args ds gs before hval0 hW _ _ hL _
 have hval : ∀ (j : Nat) t v, Tryz.f6.params[j]? = some t → args[j]? = some v → Value.okWide Tryz.prog W .any base t v := hval0
 have hW' := hW
 obtain ⟨p, q, hA0, hV, rfl, _, _⟩ := hW
 have hA : DataW.TrodAll enc Tryz.prog W 0 (fun _ => true) true Tryz.f6.params.toList args.toList ds p := hA0
 rw [Tryz.params6] at hA hval
 obtain ⟨v0, d0, rfl, rfl, h0⟩ := trodAll_one hA
 obtain ⟨rfl, rfl⟩ := trodVars_none hV
 obtain ⟨a0, len, cap, rfl⟩ := okWide_slice Tryz.underlying22 (hval 0 22 v0 rfl rfl)
 simp only [List.append_nil] at hW'
 have hlt : ∀ x ∈ p, x.block < W.heap.size := fun x hx => by simpa using hW'.lt x hx
 refine (callsLinesMended (tabLinesMended hL) h0).mono fun e W' ⟨he, hb⟩ => ?_
 subst he
 have hargs : DataW.Trod enc Tryz.prog W' 0 (fun b => decide (b < W.heap.size)) true 22 (.slice a0 len cap) d0 p :=
  Below.trod laidOutLinesMended (by kernel_rfl) (of_decide_eq_true (by kernel_rfl)) h0 hb hlt
 exact ⟨_, rfl, _, _, _, [], p, [], hW', trodAll_mk1 (shut_bool Tryz.underlying4 _), trodAll_mk1 hargs, rfl, hb.frame _, fun h => by cases h⟩
theorem mapsLinesMended : mapsRowed Tryz.prog = true := by kernel_rfl
theorem inplLinesMended : (Rows.linesMendedRow.inPlace == Tryz.prog.inPlace 6) = true := by kernel_rfl
theorem unfoLinesMended : (Rows.linesMendedRow.unfollowed == Tryz.prog.unfollowed 6) = true := by kernel_rfl
theorem recuLinesMended : (Rows.linesMendedRow.recurses == Tryz.prog.recurses 6) = true := by kernel_rfl
theorem varsLinesMended : (Rows.linesMendedRow.named == Tryz.prog.varsNamed 6) = true := by kernel_rfl
theorem joinLinesMended : joinedFacts Tryz.prog 6 Tryz.f6 Rows.linesMendedSpec Rows.linesMendedRow = true := by
 simp only [joinedFacts, Bool.and_eq_true]
 repeat' apply And.intro
 all_goals first
  | with_reducible exact laidOutLinesMended
  | with_reducible exact mapsLinesMended
  | with_reducible exact inplLinesMended
  | with_reducible exact unfoLinesMended
  | with_reducible exact recuLinesMended
  | with_reducible exact varsLinesMended
  | kernel_rfl
theorem lookLinesMended : true = Tryz.prog.looks [] := by kernel_rfl
theorem goesLinesMended : false = Rows.linesMendedRow.goesBy Tryz.prog := by kernel_rfl
theorem wfbtLinesMended : Rows.linesMendedRow.wfByText (OpenSpec.ofChange Rows.linesMendedSpec) = true := by kernel_rfl
theorem mainLinesMended : Tryz.prog.mainIs = some ("e96d158ee7c2175d776f3c610d40cc5602c32f68e2142df93a8d60f2b67470a5" |> fun h => (true, h.toList)) := by kernel_rfl
theorem stanLinesMended : ([22].all fun u => !Tryz.prog.wantsStandIn u) = true := by kernel_rfl
theorem fnamLinesMended : Tryz.prog.funcNamed Rows.linesMendedRow.func = some 6 := by kernel_rfl
theorem holdsLinesMended : Rows.LinesMendedSaid :=
 OpenClaim.holds_of_wide 6 Tryz.f6 rfl rfl rfl rfl rfl rfl rfl ⟨rfl, rfl, rfl, rfl, rfl⟩ rfl rfl rfl rfl rfl fnamLinesMended Tryz.func6 joinLinesMended
  (of_decide_eq_true (by kernel_rfl)) (by unfold Func.isWrapper; first | (rw [if_pos (by decide +kernel)]; kernel_rfl) | (rw [if_neg (by decide +kernel)]; exact ⟨rfl, rfl⟩))
  (fun os started H enc _ => liftedLinesMended os started H enc)
theorem cardLinesMended : Rows.LinesMendedCardSaid :=
 Claim7.holds_tied_plain_at .later [] [.data, .pinned] true (true, "e96d158ee7c2175d776f3c610d40cc5602c32f68e2142df93a8d60f2b67470a5") true holdsLinesMended (fun _ h => by cases h) wfbtLinesMended (fun _ h => by cases h) linesMended_row_tie rfl ⟨rfl, rfl⟩ mainLinesMended rfl
  (fun f fn hf hfn => by
    obtain rfl : f = 6 := Option.some.inj (fnamLinesMended.symm.trans hf) |>.symm
    obtain rfl : fn = Tryz.f6 := (Option.some.inj (Tryz.func6.symm.trans hfn)).symm
    exact ⟨lookLinesMended, fun j t ht => by
     rw [Tryz.params6] at ht
     have hm : t ∈ [22] := by simpa using Array.mem_of_getElem? ht
     have hall := stanLinesMended
     exact (show Tryz.prog.wantsStandIn t = false by simpa using List.all_eq_true.1 hall t hm)⟩)
  goesLinesMended
end Go.Proofs.YtkamelfigfbfiaaGreatDoor
end
