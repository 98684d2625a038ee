/- Part 2 of the proof: a program logic, contracts of functions and plain facts; no conditions. -/
import Derived.Test.YtfkobanmdpbjkaaGreatDoorPOffersChecked1
import Derived.Carry
import Derived.Ground.Names2Prog
import Derived.KernelRfl
import Derived.Laws.MakeOwn
import Derived.Lib.LaidTab
import Derived.Lib.SlicesCompact
import Derived.OpenShut
import Derived.Shelf.SlSortCmp.Insertion
import Derived.Shelf.Slices.CompactS
import Derived.Shelf.Slices.Delete
import Derived.Shelf.Sort.Plain
import Derived.Shelf.Strconv.Atoi
import Derived.Shelf.Strconv.Itoa3
import Derived.Shelf.Strings.Prefix
import Derived.Sort.EncStr
import Derived.Sort.Grow
import Derived.Test.YtfkobanmdpbjkaaGreatDoorProg
import Derived.WideKeyRuns
import GoSem.ClaimJoined
set_option linter.unusedVariables false
set_option linter.unusedSimpArgs false
section
namespace Go.Proofs.YtfkobanmdpbjkaaGreatDoor
open Go.HL
set_option maxRecDepth 100000
set_option linter.unusedVariables false
set_option linter.unusedSimpArgs false
/-- cmp.isNaN[int] -/
theorem c_cmp_isNaN_int [Tracks] {n : Int}  : ConP Tryz.prog 157 [.int .i64 n] (.bool false) := by
 refine Con.of_body Tryz.func157 rfl Tryz.ntmps157 rfl rfl ?_
 refine hw_reg ?_
 refine dp rfl (pop_assign rfl) ?_
 refine dn ?_
 refine hw_reg ?_
 refine dp rfl (pop_move rfl) ?_
 refine dp rfl (pop_move rfl) ?_
 refine dp rfl (pop_neq rfl rfl) ?_
 refine dp rfl (pop_assign rfl) ?_
 refine dn ?_
 refine hw_ret ?_
 refine ret_p rfl ?_
 simp

/-- cmp.isNaN[string] -/
theorem c_cmp_isNaN_string [Tracks] {s : Str}  : ConP Tryz.prog 178 [.str s] (.bool false) := by
 refine Con.of_body Tryz.func178 rfl Tryz.ntmps178 rfl rfl ?_
 refine hw_reg ?_
 refine dp rfl (pop_assign rfl) ?_
 refine dn ?_
 refine hw_reg ?_
 refine dp rfl (pop_move rfl) ?_
 refine dp rfl (pop_move rfl) ?_
 refine dp rfl (pop_neqs rfl rfl) ?_
 refine dp rfl (pop_assign rfl) ?_
 refine dn ?_
 refine hw_ret ?_
 refine ret_p rfl ?_
 simp

/-- slices.isNaN[string] -/
theorem c_slices_isNaN_string [Tracks] {s : Str}  : ConP Tryz.prog 138 [.str s] (.bool false) := by
 refine Con.of_body Tryz.func138 rfl Tryz.ntmps138 rfl rfl ?_
 refine hw_reg ?_
 refine dp rfl (pop_assign rfl) ?_
 refine dn ?_
 refine hw_reg ?_
 refine dp rfl (pop_move rfl) ?_
 refine dp rfl (pop_move rfl) ?_
 refine dp rfl (pop_neqs rfl rfl) ?_
 refine dp rfl (pop_assign rfl) ?_
 refine dn ?_
 refine hw_ret ?_
 refine ret_p rfl ?_
 simp

/-- cmp.Compare[int] -/
theorem c_cmp_Compare_int [Tracks] {a b : Int}  : ConP Tryz.prog 114 [.int .i64 a, .int .i64 b] (.int .i64 (cmpI a b)) := by
 refine Con.of_body Tryz.func114 rfl Tryz.ntmps114 rfl rfl ?_
 refine hw_reg ?_
 refine dp rfl (pop_assign rfl) ?_
 refine dn ?_
 refine hw_reg ?_
 refine dp rfl (pop_move rfl) ?_
 refine dp rfl (pop_call ca157 rfl (WeakL.refl _) c_cmp_isNaN_int) ?_
 refine dp rfl (pop_assign rfl) ?_
 refine dn ?_
 refine hw_reg ?_
 refine dp rfl (pop_move rfl) ?_
 refine dp rfl (pop_call ca157 rfl (WeakL.refl _) c_cmp_isNaN_int) ?_
 refine dp rfl (pop_assign rfl) ?_
 refine dn ?_
 refine hw_seq ?_
 refine hw_reg ?_
 refine dp rfl (pop_move rfl) ?_
 refine dn ?_
 refine hw_cond_f rfl ?_
 refine hw_skip ?_
 refine seqQ_n ?_
 refine hw_seq ?_
 refine hw_reg ?_
 refine dp rfl (pop_move rfl) ?_
 refine dn ?_
 refine hw_cond_f rfl ?_
 refine hw_skip ?_
 refine seqQ_n ?_
 refine hw_seq ?_
 refine hw_reg ?_
 refine dp rfl (pop_move rfl) ?_
 refine dp rfl (pop_move rfl) ?_
 refine dp rfl (pop_lss rfl rfl) ?_
 refine dn ?_
 refine hw_cond rfl (fun h1 => ?_) (fun h2 => ?_)
 ·try simp at h1
  refine hw_reg ?_
  refine dp rfl (pop_assign rfl) ?_
  refine dn ?_
  refine hw_ret ?_
  refine ret_p rfl ?_
  show HVal.int .i64 _ = _
  unfold cmpI; (repeat' split) <;> first | rfl | omega
 ·try simp at h2
  refine hw_skip ?_
  refine seqQ_n ?_
  refine hw_seq ?_
  refine hw_reg ?_
  refine dp rfl (pop_move rfl) ?_
  refine dp rfl (pop_move rfl) ?_
  refine dp rfl (pop_gtr rfl rfl) ?_
  refine dn ?_
  refine hw_cond rfl (fun h3 => ?_) (fun h4 => ?_)
  ·try simp at h3
   refine hw_reg ?_
   refine dp rfl (pop_assign rfl) ?_
   refine dn ?_
   refine hw_ret ?_
   refine ret_p rfl ?_
   show HVal.int .i64 _ = _
   unfold cmpI; (repeat' split) <;> first | rfl | omega
  ·try simp at h4
   refine hw_skip ?_
   refine seqQ_n ?_
   refine hw_reg ?_
   refine dp rfl (pop_assign rfl) ?_
   refine dn ?_
   refine hw_ret ?_
   refine ret_p rfl ?_
   show HVal.int .i64 _ = _
   unfold cmpI; (repeat' split) <;> first | rfl | omega

/-- cmp.Or[int] -/
theorem c_cmp_Or_int [Tracks] {l : List Int} (hl : l.length ≤ 1000000) : ConP Tryz.prog 113 [eIs l] (.int .i64 (orI l)) := by
 refine Con.of_body Tryz.func113 rfl Tryz.ntmps113 rfl rfl ?_
 refine hw_reg ?_
 refine dp rfl (pop_assign rfl) ?_
 refine dn ?_
 refine hw_reg ?_
 refine dp rfl (pop_assign rfl) ?_
 refine dn ?_
 refine hw_seq ?_
 refine hw_reg ?_
 refine dp rfl (pop_move rfl) ?_
 refine dp rfl (pop_lenm ty22 rfl) ?_
 refine dp rfl (pop_move rfl) ?_
 refine dn ?_
 refine hw_block ?_
 refine hw_loopw [2, 5, 8, 9, 10, 11, 12, 13, 14, 15, 16] (fun (k : Nat) => [(8, .int .i64 k)]) (fun (k : Nat) => []) (fun (k : Nat) => k ≤ l.length ∧ (orI l = orI (l.drop k))) (fun (k : Nat) => l.length - k) (0) ?_ ?_ ?_ ?_
 ·exact ⟨Nat.zero_le _, by simp_all⟩
 ·exact ⟨rfl, trivial⟩
 ·exact List.Perm.refl _
 ·intro k hinv
  obtain ⟨hk, hg⟩ := hinv
  refine hw_reg ?_
  refine dp rfl (pop_lss rfl rfl) ?_
  refine dn ?_
  refine hw_seq ?_
  refine hw_cond rfl (fun h1 => ?_) (fun h2 => ?_)
  ·try simp at h1
   obtain ⟨x, hx⟩ : ∃ x, l[k]? = some x := ⟨_, List.getElem?_eq_getElem h1⟩
   have hdx := drop_cons hx
   rw [hdx] at hg
   refine hw_skip ?_
   refine seqQ_n ?_
   refine hw_seq ?_
   refine hw_block ?_
   refine hw_reg ?_
   refine dp rfl (pop_idx ty22 ty3 rfl rfl rfl (by assumption)) ?_
   refine dp rfl (pop_load ty3 rfl rfl rfl) ?_
   refine dp rfl (pop_assign rfl) ?_
   refine dn ?_
   refine hw_reg ?_
   refine dp rfl (pop_move rfl) ?_
   refine dp rfl (pop_move rfl) ?_
   refine dp rfl (pop_neq rfl rfl) ?_
   refine dn ?_
   refine hw_cond rfl (fun h3 => ?_) (fun h4 => ?_)
   ·try simp at h3
    refine hw_reg ?_
    refine dp rfl (pop_move rfl) ?_
    refine dp rfl (pop_assign rfl) ?_
    refine dn ?_
    refine hw_ret ?_
    refine ret_p rfl ?_
    show HVal.int .i64 _ = _
    rw [hg]; simp_all [orI]
   ·try simp at h4
    refine hw_skip ?_
    refine blockQ_n ?_
    refine seqQ_n ?_
    refine hw_reg1 ?_
    refine dp rfl (pop_add64 rfl rfl (by omega) (by omega)) ?_
    refine dp rfl (pop_move rfl) ?_
    refine dn ?_
    refine ⟨k + 1, ?_, ?_, ⟨rfl, trivial⟩, (by repeat (first | exact keeps_refl | refine keeps_upd rfl ?_ | refine keeps_loop rfl rfl ?_)), List.Perm.refl _⟩
    ·refine ⟨by omega, ?_⟩
     rw [hg]; simp_all [orI]
    ·dsimp only; omega
  ·try simp at h2
   have hnk : l.length ≤ k := by omega
   obtain rfl : k = l.length := by omega
   rw [drop_all (Nat.le_refl _)] at hg
   refine hw_exit ?_
   refine seqQ_x ?_
   refine loopQ_x ?_
   refine blockQ_eq ?_
   refine seqQ_n ?_
   refine hw_reg ?_
   refine dp rfl (pop_move rfl) ?_
   refine dp rfl (pop_assign rfl) ?_
   refine dn ?_
   refine hw_ret ?_
   refine ret_p rfl ?_
   show HVal.int .i64 _ = _
   rw [hg]; simp_all [orI]

/-- cmp.Or[benchwarmer/api.Errno] -/
theorem c_cmp_Or_api_Errno [Tracks] {l : List Int} (hl : l.length ≤ 1000000) : ConP Tryz.prog 16 [eIs l] (.int .i64 (orI l)) := by
 refine Con.of_body Tryz.func16 rfl Tryz.ntmps16 rfl rfl ?_
 refine hw_reg ?_
 refine dp rfl (pop_assign rfl) ?_
 refine dn ?_
 refine hw_reg ?_
 refine dp rfl (pop_assign rfl) ?_
 refine dn ?_
 refine hw_seq ?_
 refine hw_reg ?_
 refine dp rfl (pop_move rfl) ?_
 refine dp rfl (pop_lenm ty121 rfl) ?_
 refine dp rfl (pop_move rfl) ?_
 refine dn ?_
 refine hw_block ?_
 refine hw_loopw [2, 5, 8, 9, 10, 11, 12, 13, 14, 15, 16] (fun (k : Nat) => [(8, .int .i64 k)]) (fun (k : Nat) => []) (fun (k : Nat) => k ≤ l.length ∧ (orI l = orI (l.drop k))) (fun (k : Nat) => l.length - k) (0) ?_ ?_ ?_ ?_
 ·exact ⟨Nat.zero_le _, by simp_all⟩
 ·exact ⟨rfl, trivial⟩
 ·exact List.Perm.refl _
 ·intro k hinv
  obtain ⟨hk, hg⟩ := hinv
  refine hw_reg ?_
  refine dp rfl (pop_lss rfl rfl) ?_
  refine dn ?_
  refine hw_seq ?_
  refine hw_cond rfl (fun h1 => ?_) (fun h2 => ?_)
  ·try simp at h1
   obtain ⟨x, hx⟩ : ∃ x, l[k]? = some x := ⟨_, List.getElem?_eq_getElem h1⟩
   have hdx := drop_cons hx
   rw [hdx] at hg
   refine hw_skip ?_
   refine seqQ_n ?_
   refine hw_seq ?_
   refine hw_block ?_
   refine hw_reg ?_
   refine dp rfl (pop_idx ty121 ty38 rfl rfl rfl (by assumption)) ?_
   refine dp rfl (pop_load ty38 rfl rfl rfl) ?_
   refine dp rfl (pop_assign rfl) ?_
   refine dn ?_
   refine hw_reg ?_
   refine dp rfl (pop_move rfl) ?_
   refine dp rfl (pop_move rfl) ?_
   refine dp rfl (pop_neq rfl rfl) ?_
   refine dn ?_
   refine hw_cond rfl (fun h3 => ?_) (fun h4 => ?_)
   ·try simp at h3
    refine hw_reg ?_
    refine dp rfl (pop_move rfl) ?_
    refine dp rfl (pop_assign rfl) ?_
    refine dn ?_
    refine hw_ret ?_
    refine ret_p rfl ?_
    show HVal.int .i64 _ = _
    rw [hg]; simp_all [orI]
   ·try simp at h4
    refine hw_skip ?_
    refine blockQ_n ?_
    refine seqQ_n ?_
    refine hw_reg1 ?_
    refine dp rfl (pop_add64 rfl rfl (by omega) (by omega)) ?_
    refine dp rfl (pop_move rfl) ?_
    refine dn ?_
    refine ⟨k + 1, ?_, ?_, ⟨rfl, trivial⟩, (by repeat (first | exact keeps_refl | refine keeps_upd rfl ?_ | refine keeps_loop rfl rfl ?_)), List.Perm.refl _⟩
    ·refine ⟨by omega, ?_⟩
     rw [hg]; simp_all [orI]
    ·dsimp only; omega
  ·try simp at h2
   have hnk : l.length ≤ k := by omega
   obtain rfl : k = l.length := by omega
   rw [drop_all (Nat.le_refl _)] at hg
   refine hw_exit ?_
   refine seqQ_x ?_
   refine loopQ_x ?_
   refine blockQ_eq ?_
   refine seqQ_n ?_
   refine hw_reg ?_
   refine dp rfl (pop_move rfl) ?_
   refine dp rfl (pop_assign rfl) ?_
   refine dn ?_
   refine hw_ret ?_
   refine ret_p rfl ?_
   show HVal.int .i64 _ = _
   rw [hg]; simp_all [orI]

/-- benchwarmer/base.First -/
theorem c_base_First [Tracks] {l : List Int} (hl : l.length ≤ 1000000) : ConP Tryz.prog 81 [eIs l] (.int .i64 (orI l)) := by
 refine Con.of_body Tryz.func81 rfl Tryz.ntmps81 rfl rfl ?_
 refine hw_reg ?_
 refine dp rfl (pop_assign rfl) ?_
 refine dn ?_
 refine hw_seq ?_
 refine hw_reg ?_
 refine dp rfl (pop_move rfl) ?_
 refine dp rfl (pop_lenm ty121 rfl) ?_
 refine dp rfl (pop_move rfl) ?_
 refine dn ?_
 refine hw_block ?_
 refine hw_loopw [2, 4, 7, 8, 9, 10, 11, 12, 13, 14] (fun (k : Nat) => [(7, .int .i64 k)]) (fun (k : Nat) => []) (fun (k : Nat) => k ≤ l.length ∧ (orI l = orI (l.drop k))) (fun (k : Nat) => l.length - k) (0) ?_ ?_ ?_ ?_
 ·exact ⟨Nat.zero_le _, by simp_all⟩
 ·exact ⟨rfl, trivial⟩
 ·exact List.Perm.refl _
 ·intro k hinv
  obtain ⟨hk, hg⟩ := hinv
  refine hw_reg ?_
  refine dp rfl (pop_lss rfl rfl) ?_
  refine dn ?_
  refine hw_seq ?_
  refine hw_cond rfl (fun h1 => ?_) (fun h2 => ?_)
  ·try simp at h1
   obtain ⟨x, hx⟩ : ∃ x, l[k]? = some x := ⟨_, List.getElem?_eq_getElem h1⟩
   have hdx := drop_cons hx
   rw [hdx] at hg
   refine hw_skip ?_
   refine seqQ_n ?_
   refine hw_seq ?_
   refine hw_block ?_
   refine hw_reg ?_
   refine dp rfl (pop_idx ty121 ty38 rfl rfl rfl (by assumption)) ?_
   refine dp rfl (pop_load ty38 rfl rfl rfl) ?_
   refine dp rfl (pop_assign rfl) ?_
   refine dn ?_
   refine hw_reg ?_
   refine dp rfl (pop_move rfl) ?_
   refine dp rfl (pop_neq rfl rfl) ?_
   refine dn ?_
   refine hw_cond rfl (fun h3 => ?_) (fun h4 => ?_)
   ·try simp at h3
    refine hw_reg ?_
    refine dp rfl (pop_move rfl) ?_
    refine dp rfl (pop_assign rfl) ?_
    refine dn ?_
    refine hw_ret ?_
    refine ret_p rfl ?_
    show HVal.int .i64 _ = _
    rw [hg]; simp_all [orI]
   ·try simp at h4
    refine hw_skip ?_
    refine blockQ_n ?_
    refine seqQ_n ?_
    refine hw_reg1 ?_
    refine dp rfl (pop_add64 rfl rfl (by omega) (by omega)) ?_
    refine dp rfl (pop_move rfl) ?_
    refine dn ?_
    refine ⟨k + 1, ?_, ?_, ⟨rfl, trivial⟩, (by repeat (first | exact keeps_refl | refine keeps_upd rfl ?_ | refine keeps_loop rfl rfl ?_)), List.Perm.refl _⟩
    ·refine ⟨by omega, ?_⟩
     rw [hg]; simp_all [orI]
    ·dsimp only; omega
  ·try simp at h2
   have hnk : l.length ≤ k := by omega
   obtain rfl : k = l.length := by omega
   rw [drop_all (Nat.le_refl _)] at hg
   refine hw_exit ?_
   refine seqQ_x ?_
   refine loopQ_x ?_
   refine blockQ_eq ?_
   refine seqQ_n ?_
   refine hw_reg ?_
   refine dp rfl (pop_assign rfl) ?_
   refine dn ?_
   refine hw_ret ?_
   refine ret_p rfl ?_
   show HVal.int .i64 _ = _
   rw [hg]; simp_all [orI]

/-- internal/bytealg.CompareString -/
theorem c_internal_bytealg_CompareString [Tracks] {a b : Str}  : ConP Tryz.prog 99 [.str a, .str b] (.int .i64 (cmpS a b)) := by
 refine Con.of_body Tryz.func99 rfl Tryz.ntmps99 rfl rfl ?_
 refine hw_reg ?_
 refine dp rfl (pop_assign rfl) ?_
 refine dn ?_
 refine hw_reg ?_
 refine dp rfl (pop_move rfl) ?_
 refine dp rfl (pop_move rfl) ?_
 refine dp rfl (pop_cmpstr Tryz.func136 (by kernel_rfl) (by kernel_rfl) (by kernel_rfl) (by kernel_rfl) rfl rfl rfl) ?_
 refine dp rfl (pop_assign rfl) ?_
 refine dn ?_
 refine hw_ret ?_
 refine ret_p rfl ?_
 rfl

/-- strings.Compare -/
theorem c_strings_Compare [Tracks] {a b : Str}  : ConP Tryz.prog 56 [.str a, .str b] (.int .i64 (cmpS a b)) := by
 refine Con.of_body Tryz.func56 rfl Tryz.ntmps56 rfl rfl ?_
 refine hw_reg ?_
 refine dp rfl (pop_assign rfl) ?_
 refine dn ?_
 refine hw_reg ?_
 refine dp rfl (pop_move rfl) ?_
 refine dp rfl (pop_move rfl) ?_
 refine dp rfl (pop_call ca99 rfl (WeakL.refl _) c_internal_bytealg_CompareString) ?_
 refine dp rfl (pop_assign rfl) ?_
 refine dn ?_
 refine hw_ret ?_
 refine ret_p rfl ?_
 rfl

/-- cmp.Less[string] -/
theorem c_cmp_Less_string [Tracks] {a b : Str}  : ConP Tryz.prog 137 [.str a, .str b] (.bool (Op.bytesLess a b)) := by
 refine Con.of_body Tryz.func137 rfl Tryz.ntmps137 rfl rfl ?_
 refine hw_reg ?_
 refine dp rfl (pop_assign rfl) ?_
 refine dn ?_
 refine hw_reg ?_
 refine dp rfl (pop_move rfl) ?_
 refine dp rfl (pop_call ca178 rfl (WeakL.refl _) c_cmp_isNaN_string) ?_
 refine dp rfl (pop_move rfl) ?_
 refine dg rfl rfl (fun hc => ⟨_, OpenTo.refl _, pop_move rfl⟩) ?_
 refine dg rfl rfl (fun hc => ⟨_, OpenTo.upd (t := 8) rfl (hc) (OpenTo.refl _), pop_call ca178 rfl (WeakL.refl _) c_cmp_isNaN_string⟩) ?_
 refine dg rfl rfl (fun hc => ⟨_, OpenTo.upd (t := 9) rfl (hc) (OpenTo.refl _), pop_not rfl⟩) ?_
 refine dp rfl (pop_picko rfl (.inr ⟨_, rfl, fun h => by simp_all⟩) (.inl rfl)) ?_
 refine dp rfl (pop_move rfl) ?_
 refine dg rfl rfl (fun hc => ⟨_, OpenTo.refl _, pop_move rfl⟩) ?_
 refine dg rfl rfl (fun hc => ⟨_, OpenTo.refl _, pop_move rfl⟩) ?_
 refine dg rfl rfl (fun hc => ⟨_, OpenTo.upd (t := 14) rfl (hc) (OpenTo.upd (t := 13) rfl (hc) (OpenTo.refl _)), pop_lsss rfl rfl⟩) ?_
 refine dp rfl (pop_picko rfl (.inl rfl) (.inr ⟨_, rfl, fun h => by simp_all⟩)) ?_
 refine dp rfl (pop_assign rfl) ?_
 refine dn ?_
 refine hw_ret ?_
 refine ret_p rfl ?_
 rfl

/-- slices.Equal[[]string,string] -/
theorem c_slices_Equal_string_string [Tracks] {l m : List Str} (hl : l.length ≤ 1000000) : ConP Tryz.prog 26 [eSs l, eSs m] (.bool (l == m)) := by
 refine Con.of_body Tryz.func26 rfl Tryz.ntmps26 rfl rfl ?_
 refine hw_reg ?_
 refine dp rfl (pop_assign rfl) ?_
 refine dn ?_
 refine hw_seq ?_
 refine hw_reg ?_
 refine dp rfl (pop_move rfl) ?_
 refine dp rfl (pop_lenm ty26 rfl) ?_
 refine dp rfl (pop_move rfl) ?_
 refine dp rfl (pop_lenm ty26 rfl) ?_
 refine dp rfl (pop_neq rfl rfl) ?_
 refine dn ?_
 refine hw_cond rfl (fun h1 => ?_) (fun h2 => ?_)
 ·try simp at h1
  refine hw_reg ?_
  refine dp rfl (pop_assign rfl) ?_
  refine dn ?_
  refine hw_ret ?_
  refine ret_p rfl ?_
  show HVal.bool _ = _
  (congr 1; symm; rw [beq_eq_false_iff_ne]; intro h; subst h; omega)
 ·try simp at h2
  refine hw_skip ?_
  refine seqQ_n ?_
  refine hw_seq ?_
  refine hw_reg ?_
  refine dp rfl (pop_move rfl) ?_
  refine dp rfl (pop_lenm ty26 rfl) ?_
  refine dp rfl (pop_move rfl) ?_
  refine dn ?_
  refine hw_block ?_
  refine hw_loopw [4, 5, 13, 14, 15, 16, 17, 18, 19, 20, 21, 22, 23, 24, 25] (fun (k : Nat) => [(13, .int .i64 k)]) (fun (k : Nat) => []) (fun (k : Nat) => k ≤ l.length ∧ (l.length = m.length ∧ (l == m) = (l.drop k == m.drop k))) (fun (k : Nat) => l.length - k) (0) ?_ ?_ ?_ ?_
  ·refine ⟨Nat.zero_le _, ?_, rfl⟩
   omega
  ·exact ⟨rfl, trivial⟩
  ·exact List.Perm.refl _
  ·intro k hinv
   obtain ⟨hk, hg⟩ := hinv
   refine hw_reg ?_
   refine dp rfl (pop_lss rfl rfl) ?_
   refine dn ?_
   refine hw_seq ?_
   refine hw_cond rfl (fun h3 => ?_) (fun h4 => ?_)
   ·try simp at h3
    obtain ⟨x, hx⟩ : ∃ x, l[k]? = some x := ⟨_, List.getElem?_eq_getElem h3⟩
    have hdx := drop_cons hx
    obtain ⟨y, hy⟩ : ∃ y, m[k]? = some y := ⟨_, List.getElem?_eq_getElem (by omega)⟩
    rw [hdx, drop_cons hy] at hg
    refine hw_skip ?_
    refine seqQ_n ?_
    refine hw_seq ?_
    refine hw_block ?_
    refine hw_reg ?_
    refine dp rfl (pop_move rfl) ?_
    refine dp rfl (pop_assign rfl) ?_
    refine dn ?_
    refine hw_draw (fun _ => True) [] mixed ?_
    refine ahp 0 rfl rfl (by kernel_rfl) (by kernel_rfl) (pop_move rfl) ?_
    refine ahp 1 rfl rfl (by kernel_rfl) (by kernel_rfl) (pop_move rfl) ?_
    refine ahp 2 rfl rfl (by kernel_rfl) (by kernel_rfl) (pop_idx ty26 ty9 rfl rfl rfl (by assumption)) ?_
    refine ahp 3 rfl rfl (by kernel_rfl) (by kernel_rfl) (pop_load ty9 rfl rfl rfl) ?_
    refine ahp 4 rfl rfl (by kernel_rfl) (by kernel_rfl) (pop_move rfl) ?_
    refine ahp 5 rfl rfl (by kernel_rfl) (by kernel_rfl) (pop_move rfl) ?_
    refine ahp 6 rfl rfl (by kernel_rfl) (by kernel_rfl) (pop_idx ty26 ty9 rfl rfl rfl (by assumption)) ?_
    refine ahp 7 rfl rfl (by kernel_rfl) (by kernel_rfl) (pop_load ty9 rfl rfl rfl) ?_
    refine ahp 8 rfl rfl (by kernel_rfl) (by kernel_rfl) (pop_neqs rfl rfl) ?_
    refine ahz (by kernel_rfl) ?_
    refine hw_cond rfl (fun h5 => ?_) (fun h6 => ?_)
    ·try simp at h5
     refine hw_reg ?_
     refine dp rfl (pop_assign rfl) ?_
     refine dn ?_
     refine hw_ret ?_
     refine ret_p rfl ?_
     show HVal.bool _ = _
     (rw [hg.2]; simp_all; done)
    ·try simp at h6
     refine hw_skip ?_
     refine blockQ_n ?_
     refine seqQ_n ?_
     refine hw_reg1 ?_
     refine dp rfl (pop_add64 rfl rfl (by omega) (by omega)) ?_
     refine dp rfl (pop_move rfl) ?_
     refine dn ?_
     refine ⟨k + 1, ?_, ?_, ⟨rfl, trivial⟩, (by repeat (first | exact keeps_refl | refine keeps_upd rfl ?_ | refine keeps_loop rfl rfl ?_)), List.Perm.refl _⟩
     ·refine ⟨by omega, hg.1, ?_⟩
      rw [hg.2]; simp_all
     ·dsimp only; omega
   ·try simp at h4
    have hnk : l.length ≤ k := by omega
    obtain rfl : k = l.length := by omega
    rw [drop_all (Nat.le_refl _)] at hg
    refine hw_exit ?_
    refine seqQ_x ?_
    refine loopQ_x ?_
    refine blockQ_eq ?_
    refine seqQ_n ?_
    refine hw_reg ?_
    refine dp rfl (pop_assign rfl) ?_
    refine dn ?_
    refine hw_ret ?_
    refine ret_p rfl ?_
    show HVal.bool _ = _
    (rw [hg.2]; simp_all; done)
end Go.Proofs.YtfkobanmdpbjkaaGreatDoor
end
section
namespace Go.HL
theorem risingGo_sorted {l : List Str} : ∀ (k : Nat), k ≤ l.length → risingGo l k (l.drop k) = 0 → ∀ (i j : Nat) (a b : Str), k ≤ j → i + 1 = j → l[i]? = some a → l[j]? = some b → Op.bytesLess a b = true := by
 intro k hk
 generalize hm : l.length - k = m
 induction m generalizing k with
 | zero =>
   intro _ i j a b h1 h2 ha hb
   have := lt_of_get hb; omega
 | succ m ih =>
   intro h i j a b h1 h2 ha hb
   have hlt : k < l.length := by omega
   have hx := List.getElem?_eq_getElem hlt
   rw [drop_cons hx, risingGo] at h
   by_cases hkey : key l[k] = true
   ·simp only [hkey, Bool.not_true, Bool.false_eq_true, if_false] at h
    by_cases hle : (decide (0 < k) && leS l[k] (l.getD (k - 1) [])) = true
    ·rw [if_pos hle] at h; omega
    ·rw [if_neg hle] at h
     by_cases hj : k + 1 ≤ j
     ·exact ih (k + 1) (by omega) (by omega) h i j a b hj h2 ha hb
     ·obtain rfl : j = k := by omega
      have h0 : 0 < j := by omega
      simp only [h0, decide_true, Bool.true_and] at hle
      have e1 : l.getD (j - 1) [] = a := by
       have : j - 1 = i := by omega
       rw [this]; simp [List.getD, ha]
      have e2 : l[j] = b := by rw [hx] at hb; simpa using hb
      rw [e1, e2, leS_iff] at hle
      simpa using hle
   ·simp [hkey] at h
theorem rising1_sorted {l : List Str} (h : rising1 l = 0) : SortedS l := by
 have hadj := risingGo_sorted (l := l) 0 (Nat.zero_le _) (by simpa [rising1] using h)
 have key : ∀ (d i : Nat) (a b : Str), l[i]? = some a → l[i + d + 1]? = some b → Op.bytesLess a b = true := by
  intro d
  induction d with
  | zero => intro i a b ha hb; exact hadj i (i + 1) a b (by omega) rfl ha hb
  | succ d ih =>
    intro i a b ha hb
    have hlt := lt_of_get hb
    have hc := List.getElem?_eq_getElem (l := l) (i := i + d + 1) (by omega)
    have h1 := ih i a _ ha hc
    have h2 := hadj (i + d + 1) (i + (d + 1) + 1) _ b (by omega) (by omega) hc hb
    exact less_trans h1 h2
 refine List.pairwise_iff_getElem.2 fun i j hi hj hij => ?_
 refine key (j - i - 1) i _ _ (List.getElem?_eq_getElem hi) ?_
 have : i + (j - i - 1) + 1 = j := by omega
 rw [this]; exact List.getElem?_eq_getElem hj
end Go.HL
end
section
namespace Go.Proofs.YtfkobanmdpbjkaaGreatDoor
open Go.HL
set_option maxRecDepth 100000
set_option linter.unusedVariables false
set_option linter.unusedSimpArgs false
/-- slices.BinarySearch[[]string,string] -/
theorem c_slices_BinarySearch_string_string [Tracks] {l : List Str} {s : Str} (hl : l.length ≤ 1000000) (hs : SortedS l) : ConP Tryz.prog 101 [eSs l, .str s] (.tup [.int .i64 (posS l s), .bool (l.contains s)]) := by
 refine Con.of_body Tryz.func101 rfl Tryz.ntmps101 rfl rfl ?_
 refine hw_reg ?_
 refine dp rfl (pop_assign rfl) ?_
 refine dp rfl (pop_assign rfl) ?_
 refine dn ?_
 refine hw_reg ?_
 refine dp rfl (pop_move rfl) ?_
 refine dp rfl (pop_lenm ty26 rfl) ?_
 refine dp rfl (pop_assign rfl) ?_
 refine dn ?_
 refine hw_reg ?_
 refine dp rfl (pop_move rfl) ?_
 refine dp rfl (pop_assign rfl) ?_
 refine dp rfl (pop_assign rfl) ?_
 refine dn ?_
 refine hw_seq ?_
 refine hw_block ?_
 refine hw_loopw2 [7, 8, 9, 13, 14, 15, 16, 17, 18, 19, 20, 21, 22, 23, 24, 25, 26, 27, 28, 29, 30] (fun (i : Nat) (j : Nat) => [(7, .int .i64 i), (8, .int .i64 j)]) (fun (i : Nat) (j : Nat) => []) (fun (i : Nat) (j : Nat) => i ≤ j ∧ j ≤ l.length ∧ (∀ (k : Nat) (x : Str), k < i → l[k]? = some x → Op.bytesLess x s = true) ∧ (∀ (k : Nat) (x : Str), j ≤ k → l[k]? = some x → Op.bytesLess x s = false)) (fun (i : Nat) (j : Nat) => j - i) (0) (l.length) ?_ ?_ ?_ ?_
 ·exact ⟨Nat.zero_le _, Nat.le_refl _, fun k x h => by omega, fun k x h1 h2 => by have := lt_of_get h2; omega⟩
 ·exact ⟨rfl, rfl, trivial⟩
 ·exact List.Perm.refl _
 ·intro i j hinv
  obtain ⟨hij, hjl, ha, hb⟩ := hinv
  refine hw_seq ?_
  refine hw_reg ?_
  refine dp rfl (pop_move rfl) ?_
  refine dp rfl (pop_move rfl) ?_
  refine dp rfl (pop_lss rfl rfl) ?_
  refine dn ?_
  refine hw_cond rfl (fun h1 => ?_) (fun h2 => ?_)
  ·try simp at h1
   obtain ⟨x, hx⟩ : ∃ x, l[(i + j) / 2]? = some x := ⟨_, List.getElem?_eq_getElem (by omega)⟩
   have hm : (i + j) / 2 < j ∧ i ≤ (i + j) / 2 := by omega
   refine hw_skip ?_
   refine seqQ_n ?_
   refine hw_block ?_
   refine hw_reg ?_
   refine dp rfl (pop_move rfl) ?_
   refine dp rfl (pop_move rfl) ?_
   refine dp rfl (pop_add64 rfl rfl (by omega) (by omega)) ?_
   refine dp rfl (pop_conv ty3 ty150 rfl) ?_
   refine dp rfl (pop_shr rfl rfl (by omega)) ?_
   refine dp rfl (pop_eq (pop_conv ty150 ty3 rfl) (mid_eq (i := i) (j := j) (by omega))) ?_
   refine dp rfl (pop_assign rfl) ?_
   refine dn ?_
   refine hw_reg ?_
   refine dp rfl (pop_move rfl) ?_
   refine dp rfl (pop_move rfl) ?_
   refine dp rfl (pop_idx (j := (i + j) / 2) (a := x) ty26 ty9 rfl rfl rfl hx) ?_
   refine dp rfl (pop_load ty9 rfl rfl rfl) ?_
   refine dp rfl (pop_move rfl) ?_
   refine dp rfl (pop_call ca137 rfl (WeakL.refl _) c_cmp_Less_string) ?_
   refine dn ?_
   refine hw_cond rfl (fun h3 => ?_) (fun h4 => ?_)
   ·try simp at h3
    refine hw_reg1 ?_
    refine dp rfl (pop_move rfl) ?_
    refine dp rfl (pop_add64 rfl rfl (by omega) (by omega)) ?_
    refine dp rfl (pop_assign rfl) ?_
    refine dn ?_
    refine blockQ_n ?_
    exact ⟨(i + j) / 2 + 1, j, ⟨by omega, hjl, bs_up hs hx h3, hb⟩, by dsimp only; omega, ⟨rfl, rfl, trivial⟩, (by repeat (first | exact keeps_refl | refine keeps_upd rfl ?_ | refine keeps_loop rfl rfl ?_)), List.Perm.refl _⟩
   ·try simp at h4
    refine hw_reg1 ?_
    refine dp rfl (pop_move rfl) ?_
    refine dp rfl (pop_assign rfl) ?_
    refine dn ?_
    refine blockQ_n ?_
    exact ⟨i, (i + j) / 2, ⟨by omega, by omega, ha, bs_dn hs hx h4⟩, by dsimp only; omega, ⟨rfl, rfl, trivial⟩, (by repeat (first | exact keeps_refl | refine keeps_upd rfl ?_ | refine keeps_loop rfl rfl ?_)), List.Perm.refl _⟩
  ·try simp at h2
   obtain rfl : i = j := by omega
   refine hw_exit ?_
   refine seqQ_x ?_
   refine loopQ2_x ?_
   refine blockQ_eq ?_
   refine seqQ_n ?_
   refine hw_reg ?_
   refine dp rfl (pop_move rfl) ?_
   refine dp rfl (pop_move rfl) ?_
   refine dp rfl (pop_move rfl) ?_
   refine dp rfl (pop_lss rfl rfl) ?_
   refine dp rfl (pop_move rfl) ?_
   refine dg rfl rfl (fun hc => ⟨_, OpenTo.refl _, pop_move rfl⟩) ?_
   refine dg rfl rfl (fun hc => ⟨_, OpenTo.refl _, pop_move rfl⟩) ?_
   refine dg rfl rfl (fun hc => by have hq := hc; (try simp at hq); exact ⟨_, OpenTo.upd (t := 37) rfl (hc) (OpenTo.upd (t := 36) rfl (hc) (OpenTo.refl _)), pop_idx (j := i) (a := l.getD i []) ty26 ty9 rfl rfl rfl (getD_some (by omega))⟩) ?_
   refine dg rfl rfl (fun hc => ⟨_, OpenTo.upd (t := 38) rfl (hc) (OpenTo.refl _), pop_load ty9 rfl rfl rfl⟩) ?_
   refine dg rfl rfl (fun hc => ⟨_, OpenTo.refl _, pop_move rfl⟩) ?_
   refine dg rfl rfl (fun hc => ⟨_, OpenTo.upd (t := 40) rfl (hc) (OpenTo.upd (t := 39) rfl (hc) (OpenTo.refl _)), pop_eqls rfl rfl⟩) ?_
   refine dg rfl rfl (fun hc => ⟨_, OpenTo.upd (t := 41) rfl (hc) (OpenTo.refl _), pop_move rfl⟩) ?_
   refine dg rfl rfl (fun hc => ⟨_, OpenTo.refl _, pop_move rfl⟩) ?_
   refine dg rfl rfl (fun hc => ⟨_, OpenTo.refl _, pop_move rfl⟩) ?_
   refine dg rfl rfl (fun hc => ⟨_, OpenTo.upd (t := 44) rfl (hc) (OpenTo.upd (t := 43) rfl (hc) (OpenTo.refl _)), pop_idx (j := i) (a := l.getD i []) ty26 ty9 rfl rfl rfl (getD_some (by simp_all))⟩) ?_
   refine dg rfl rfl (fun hc => ⟨_, OpenTo.upd (t := 45) rfl (hc) (OpenTo.refl _), pop_load ty9 rfl rfl rfl⟩) ?_
   refine dg rfl rfl (fun hc => ⟨_, OpenTo.upd (t := 46) rfl (hc) (OpenTo.refl _), pop_call ca138 rfl (WeakL.refl _) c_slices_isNaN_string⟩) ?_
   refine dg rfl rfl (fun hc => ⟨_, OpenTo.upd (t := 47) rfl (hc) (OpenTo.refl _), pop_move rfl⟩) ?_
   refine dg rfl rfl (fun hc => ⟨_, OpenTo.refl _, pop_move rfl⟩) ?_
   refine dg rfl rfl (fun hc => ⟨_, OpenTo.upd (t := 49) rfl (hc) (OpenTo.refl _), pop_call ca138 rfl (WeakL.refl _) c_slices_isNaN_string⟩) ?_
   refine dg rfl rfl (fun hc => ⟨_, OpenTo.upd (t := 48) rfl (hc) (OpenTo.refl _), pop_picko rfl (.inr ⟨_, rfl, fun h => by simp_all⟩) (.inl rfl)⟩) ?_
   refine dg rfl rfl (fun hc => ⟨_, OpenTo.upd (t := 42) rfl (hc) (OpenTo.refl _), pop_picko rfl (.inl rfl) (.inr ⟨_, rfl, fun h => by simp_all⟩)⟩) ?_
   refine dp rfl (pop_picko rfl (.inr ⟨_, rfl, fun h => by simp_all⟩) (.inl rfl)) ?_
   refine dp rfl (pop_assign rfl) ?_
   refine dp rfl (pop_assign rfl) ?_
   refine dn ?_
   refine hw_ret ?_
   refine ret_p rfl ?_
   rw [posS_eq hjl ha hb, ← found_eq hs hjl ha hb, ← bs_found false]
end Go.Proofs.YtfkobanmdpbjkaaGreatDoor
end
section
namespace Go.HL
end Go.HL
end
section
namespace Go.Proofs.YtfkobanmdpbjkaaGreatDoor
open Go.HL
set_option maxRecDepth 100000
set_option linter.unusedVariables false
set_option linter.unusedSimpArgs false
/-- slices.Clone[[]string,string] -/
theorem c_slices_Clone_string_string [Tracks] {l : List Str} (hl : l.length ≤ 1000000) : ConA Tryz.prog 48 [eSs l] 1 (l.map .str) := by
 refine Con.of_body Tryz.func48 rfl Tryz.ntmps48 rfl rfl ?_
 refine hw_reg ?_
 refine dp rfl (pop_assign rfl) ?_
 refine dn ?_
 refine hw_seq ?_
 refine hw_reg ?_
 refine dp rfl (pop_move rfl) ?_
 refine de rfl (eop_eqnil ty26 rfl rfl fun b4 hb4 => ?_)
 refine dn ?_
 refine hw_cond rfl (fun h1 => ?_) (fun h2 => ?_)
 ·try simp at h1
  refine hw_reg ?_
  refine dp rfl (pop_assign rfl) ?_
  refine dn ?_
  refine hw_ret ?_
  exact ret_g (Ghost.arr_nil 1) rfl ⟨_, rfl, by simp_all⟩
 ·try simp at h2
  refine hw_skip ?_
  refine seqQ_n ?_
  refine hw_reg ?_
  refine de rfl (eop_mk0 ty26 ty9 fun v5 => ?_)
  refine dp rfl (pop_move rfl) ?_
  refine de rfl (eop_append (i := 0) ty26 ty9 rfl rfl rfl rfl rfl (by simp [flat, hcells]) (by simp; omega) fun v7 => ?_)
  refine dp rfl (pop_assign rfl) ?_
  refine dn ?_
  refine hw_ret ?_
  exact ret_a rfl rfl
end Go.Proofs.YtfkobanmdpbjkaaGreatDoor
end
section
namespace Go.HL
end Go.HL
end
section
namespace Go.Proofs.YtfkobanmdpbjkaaGreatDoor
open Go.HL
set_option maxRecDepth 100000
set_option linter.unusedVariables false
set_option linter.unusedSimpArgs false

end Go.Proofs.YtfkobanmdpbjkaaGreatDoor
end
section
namespace Go.HL
def ResC (P : Program) (e : Env) : List ResultVar → List HVal → Prop
 | [], [] => True
 | .tmp t :: r, h :: l => e t = some h ∧ ResC P e r l
 | .cell a t :: r, h :: l => (∃ cs d size bytes zero, e a = some (.vptr cs 0) ∧ Fits P t d size bytes zero ∧ ((d.isAgg = false ∧ cs[0]? = some h) ∨ (d.isAgg = true ∧ size = cs.length ∧ h = .agg cs))) ∧ ResC P e r l
 | _, _ => False
def tupOf : List HVal → HVal
 | [h] => h
 | l => .tup l
def RetC [Tracks] (P : Program) (rs : List ResultVar) (Q : HVal → List MObj → Prop) : Exit → Env → List MObj → Prop
 | .normal, e, M | .ret, e, M => ∃ e' M', Ghost e M e' M' ∧ ∃ l h', ResC P e' rs l ∧ Weak (tupOf l) h' ∧ Q h' M'
 | _, _, _ => False
theorem resC_run [Tracks] {P : Program} {I : Imm} {e : Env} {tmps : Array Value} (he : EnvV I e tmps) {M : List MObj} {w : World} (hs : Sat P I M w) : ∀ (rs : List ResultVar) (l : List HVal), ResC P e rs l →
 ∃ vs : List Value, (rs.mapM (resRun tmps)).run P w = .ok vs w ∧ VL I l vs := by
 intro rs
 induction rs with
 | nil =>
   intro l h
   cases l with
   | nil => exact ⟨[], by simp, VL.nil⟩
   | cons _ _ => exact h.elim
 | cons r rs ih =>
   intro l h
   cases l with
   | nil => cases r <;> exact h.elim
   | cons x l =>
     cases r with
     | tmp t =>
       obtain ⟨h1, h2⟩ := h
       obtain ⟨vs, h3, h4⟩ := ih l h2
       obtain ⟨v, h5, h6⟩ := he t x h1
       refine ⟨v :: vs, ?_, VL.cons h6 h4⟩
       simp only [List.mapM_cons, resRun, Sem.run_bind, Sem.run_pure, Result.andThen_ok, h3]
       simp [h5]
     | cell a t =>
       obtain ⟨⟨cs, d, size, bytes, zero, h1, hf, hh⟩, h2⟩ := h
       obtain ⟨vs, h3, h4⟩ := ih l h2
       obtain ⟨v, h5, h6⟩ := he a _ h1
       obtain ⟨b, base, rc, el, fr, g1, g2, g3, g4⟩ := h6.vptr_inv
       obtain ⟨v', h7, h8⟩ := run_loadVar (I := I) (h := x) (o := base + 0) (off := 0) (base := base) hf (hs.imm _ _ g2) rfl g3 g4 (by
        rcases hh with hh | ⟨p1, p2, p3⟩
        ·exact .inl hh
        ·exact .inr ⟨p1, by omega, by rw [p2]; simpa using p3⟩)
       refine ⟨v' :: vs, ?_, VL.cons h8 h4⟩
       have hg : tmps.getD a undef = .pointer (some ⟨b, base + 0, none⟩) := by simp [h5, g1]
       simp only [List.mapM_cons, resRun, Sem.run_bind, Sem.run_pure, Result.andThen_ok, hg, asAddr, h7, h3]

theorem Con.of_bodyc [Tracks] {P : Program} {f : FuncId} {fn : Func} {c : Code} {hargs : List HVal} {M : List MObj} {Q : HVal → List MObj → Prop}
 {n : Nat} (hf : P.funcs[f]? = some fn) (hb : fn.body = some c) (hnt : fn.ntmps = n) (hn' : Nat.ble hargs.length n = true) {rs : List ResultVar} (hrs : fn.results.toList = rs) (h : HWp P n c (argsE hargs) M (RetC P rs Q)) : Con P f hargs M Q := by
 have hn := Nat.le_of_ble_eq_true hn'
 subst hnt hrs
 intro I F w args h1 h2
 refine calls_of_wp hf hb ?_
 have hlen := h1.1
 refine wp_mono (h I F _ w rfl (by simp; omega) ?_ h2) ?_
 ·intro t x hx
  obtain ⟨v, h3, h4⟩ := h1.get hx
  have hlt : t < args.length := lt_of_get h3
  refine ⟨v, ?_, h4⟩
  rw [Array.getElem?_append_left (by simpa using hlt)]
  simpa using h3
 ·have key : ∀ (a' : Act) (w' : World), a'.defers = [] → (∃ J e M', Le I J ∧ (∃ e' M'', Ghost e M' e' M'' ∧ ∃ l h', ResC P e' fn.results.toList l ∧ Weak (tupOf l) h' ∧ Q h' M'') ∧ EnvV J e a'.tmps ∧ Sat P J (M' ++ F) w') →
   a'.defers = [] ∧ ∃ v, (results fn a'.tmps).run P w' = .ok v w' ∧ (∃ v_1 h M' J, Ending.returned v = Ending.returned v_1 ∧ Le I J ∧ Q h M' ∧ V J h v_1 ∧ Sat P J (M' ++ F) w') := by
   rintro a' w' hd ⟨J, e, M', hl, ⟨e', M'', hg, l, h', hr, hw, hq⟩, he, hs⟩
   obtain ⟨J2, hl2, he2, hs2⟩ := hg J F a'.tmps w' he hs
   refine ⟨hd, ?_⟩
   obtain ⟨vs, h3, h4⟩ := resC_run he2 hs2 _ _ hr
   have hrun : (results fn a'.tmps).run P w' = .ok (if h : vs.length = 1 then vs[0] else .tuple vs.toArray) w' := by
    rw [results_eq]
    have hm : (fn.results.mapM (resRun a'.tmps)).run P w' = .ok vs.toArray w' := by
     rw [Array.mapM_eq_mapM_toList]
     simp only [Sem.run_map, h3, Result.andThen_ok]
    simp only [Sem.run_bind, Sem.run_pure]
    rw [hm]
    simp
   refine ⟨_, hrun, _, h', M'', J2, rfl, hl.trans hl2, hq, ?_, hs2⟩
   apply hw
   match l, h4 with
   | [], h4 =>
     have : vs = [] := by have := h4.1; simpa using this
     subst this
     exact .tup (by simp) (fun j c v h _ => by simp at h)
   | [x], h4 =>
     have hl1 : vs.length = 1 := by have := h4.1; simpa using this
     match vs, hl1, h4 with
     | [v], _, h4 => exact h4.head
   | x :: y :: r, h4 =>
     have hl1 : vs.length = r.length + 2 := by have := h4.1; simpa using this
     rw [dif_neg (by omega)]
     exact .tup (by simp [hl1]) (fun j c v h1 h2 => h4.2 j c v h1 (by simpa using h2))
  rintro x a' w' ⟨p1, p2, J, e, M', p3, p4, p5, p6⟩
  cases x with
  | normal => exact key a' w' p1 ⟨J, e, M', p3, p4, p5, p6⟩
  | ret => exact key a' w' p1 ⟨J, e, M', p3, p4, p5, p6⟩
  | exit id => exact p4.elim
  | goto l => exact p4.elim
  | panic ch => exact p4.elim
  | outgrown => exact p4.elim

section
variable {P : Program} {e : Env} {dst : Option Tmp} {ty : TypeId} {pos : String} {af : Array Edge} {g : Option (Nat × Bool)} {M : List MObj} {K : HVal → List MObj → Prop}
theorem Fits.arrD [Tracks] {t : TypeId} {n el size bytes : Nat} {zero : Value} (h : Fits P t (.arr n el) size bytes zero) : P.underlying t = some (.array n el) := by
 obtain ⟨x, h1, h2⟩ := h.underlying
 cases x <;> simp [descOf] at h2
 obtain ⟨rfl, rfl⟩ := h2
 exact h1
theorem run_indexAtA [Tracks] {t el : TypeId} {n size bytes sz b2 : Nat} {zero z2 : Value} {d : TD} (hf : Fits P t (.arr n el) size bytes zero) (hel : Fits P el d sz b2 z2) {k : IntKind} {j b o : Nat} (hj : j < n) (w : World) :
 (Instr.indexAt t (.pointer (some ⟨b, o, none⟩)) (.int k (j : Int))).run P w = .ok (.pointer (some ⟨b, o + j * sz, none⟩)) w := by
 have h1 : (0 : Int) ≤ (j : Int) ∧ (j : Int) < (n : Int) := by omega
 simp [Instr.indexAt, asIntOf, run_underlying hf.arrD, h1, hel.run_sizeOf, addr_add, Instr.sureAddr]
 intro h; omega
/-- An element of an array. -/
theorem pop_idxa [Tracks] {x y : Operand} {t el : TypeId} {n size bytes sz b2 : Nat} {zero z2 : Value} {d : TD} {cs : List HVal} {off : Nat} {k : IntKind} {i : Int} {j : Nat}
 (hf : Fits P t (.arr n el) size bytes zero) (hel : Fits P el d sz b2 z2) (hx : evalO e x = some (.vptr cs off)) (hy : evalO e y = some (.int k i)) (hi : i = (j : Int)) (hj : j < n) :
 POp P e ⟨dst, .indexAddr t x y, ty, pos, af, g⟩ (.vptr cs (off + j * sz)) :=
 POp.of_val fun I a w ho => by
  subst hi
  obtain ⟨b, base, rc, el, fr, h1, h2, h3, h4⟩ := (ho.one (x := x) (by simp [Op.operands]) hx).vptr_inv
  have h5 := (ho.one (x := y) (by simp [Op.operands]) hy).int_inv
  refine ⟨.pointer (some ⟨b, base + off + j * sz, none⟩), by simp [execOp, h1, h5, run_indexAtA hf hel hj], ?_⟩
  rw [Nat.add_assoc]; exact .vptr h2 h3 h4
theorem pop_idxa_raw [Tracks] {x y : Operand} {t el : TypeId} {n size bytes sz b2 : Nat} {zero z2 : Value} {d : TD} {b o : Nat} {k : IntKind} {i : Int} {j : Nat}
 (hf : Fits P t (.arr n el) size bytes zero) (hel : Fits P el d sz b2 z2) (hx : evalO e x = some (.raw (.pointer (some ⟨b, o, none⟩)))) (hy : evalO e y = some (.int k i)) (hi : i = (j : Int)) (hj : j < n) :
 POp P e ⟨dst, .indexAddr t x y, ty, pos, af, g⟩ (.raw (.pointer (some ⟨b, o + j * sz, none⟩))) :=
 POp.of_val fun I a w ho => by
  subst hi
  have h1 := (ho.one (x := x) (by simp [Op.operands]) hx).raw_inv
  have h5 := (ho.one (x := y) (by simp [Op.operands]) hy).int_inv
  exact ⟨_, by simp [execOp, h1, h5, run_indexAtA hf hel hj], .raw _ rfl⟩

theorem pop_indexByte [Tracks] {f : FuncId} {fn : Func} {args : Array Operand} {ats : Array TypeId} {x y : Operand} {s : List UInt8} {c : Int} (hf : P.funcs[f]? = some fn) (h1 : (fn.name == "runtime.NumGoroutine") = false) (h2 : fn.body.isNone = true)
 (h3 : (Extern.findNext fn).isNone = true) (h4 : Extern.find fn = some Extern.BytealgIndexByte.indexByte) (ha : args = #[x, y]) (hx : evalO e x = some (.str s)) (hy : evalO e y = some (.int .u8 c)) :
 POp P e ⟨dst, .call ⟨.value (.func f), args, ats⟩, ty, pos, af, g⟩ (.int .i64 (Lib.indexByte s c.toNat.toUInt8)) :=
 POp.of_val fun I a w ho => by
  subst ha
  have e1 := (ho.one (x := x) (by simp [Op.operands, Call.operands]) hx).str_inv
  have e2 := (ho.one (x := y) (by simp [Op.operands, Call.operands]) hy).int_inv
  refine ⟨_, ?_, .int _ _⟩
  have h3' : Extern.findNext fn = none := by cases h : Extern.findNext fn with | none => rfl | some _ => rw [h] at h3; simp at h3
  have hcmp : (Extern.BytealgIndexByte.indexByte #[.string ⟨s.toArray⟩, .int .u8 c]).run P w = .ok (.int .i64 (Lib.indexByte s c.toNat.toUInt8)) w := by
   have := Lib.run_indexByteString (P := P) ⟨s.toArray⟩ c w
   simpa using this
  have hev : a.eval (.func f) = .func (.func f) #[] #[] := rfl
  have hmap : (#[x, y] : Array Operand).map a.eval = #[.string ⟨s.toArray⟩, .int .u8 c] := by simp [e1, e2]
  have hargs : (#[] : Array Value) ++ #[.string ⟨s.toArray⟩, .int .u8 c] ++ #[] = #[.string ⟨s.toArray⟩, .int .u8 c] := rfl
  simp only [execOp, resolve, hev, hmap, Deferred.ofValue, invoke, callFunc, Sem.run_bind, Sem.run_pure, Result.andThen_ok, run_program, hf, h1, h2, h3', h4, Bool.false_eq_true, if_false, if_true, run_mark, hargs, hcmp]
end
end Go.HL
end
section
namespace Go.HL
def asciiSet (l : List UInt8) : List HVal := (List.range 256).map fun i => .bool (l.contains (UInt8.ofNat i))
theorem asciiSet_len (l : List UInt8) : (asciiSet l).length = 256 := by simp [asciiSet]
theorem asciiSet_get (l : List UInt8) (c : UInt8) : (asciiSet l)[c.toNat]? = some (.bool (l.contains c)) := by
 have := c.toNat_lt
 simp [asciiSet, List.getElem?_range, this]
theorem flat_bools {α : Type} (f : α → Bool) : ∀ l : List α, flat (l.map fun i => .bool (f i)) = true
 | [] => rfl
 | x :: l => by simp only [List.map_cons, flat]; exact flat_bools f l
theorem asciiSet_flat (l : List UInt8) : flat (asciiSet l) = true := flat_bools _ _
theorem asciiSet_add (l : List UInt8) (c : UInt8) : setL (asciiSet l) (0 + c.toNat * 1) [.bool true] = asciiSet (l ++ [c]) := by
 have hc := c.toNat_lt
 have hl : 0 + c.toNat * 1 = c.toNat := by omega
 rw [hl]
 apply List.ext_getElem?
 intro i
 have hlen := asciiSet_len l
 simp only [setL, List.length_singleton]
 by_cases hi : i < c.toNat
 ·rw [List.getElem?_append_left (by simp; omega), List.getElem?_append_left (by simp [hlen]; omega), List.getElem?_take_of_lt hi]
  have h256 : i < 256 := by omega
  have hne : UInt8.ofNat i ≠ c := fun h => by
   have := congrArg UInt8.toNat h
   rw [UInt8.toNat_ofNat_of_lt' (by simpa [UInt8.size] using h256)] at this; omega
  simp [asciiSet, List.getElem?_range, h256, hne]
 ·by_cases he : i = c.toNat
  ·subst he
   rw [List.getElem?_append_left (by simp [hlen]; omega), List.getElem?_append_right (by simp [hlen]; omega)]
   rw [asciiSet_get]
   simp [hlen, Nat.min_eq_left (Nat.le_of_lt hc)]
  ·rw [List.getElem?_append_right (by simp [hlen]; omega), List.getElem?_drop]
   have e1 : c.toNat + 1 + (i - ((asciiSet l).take c.toNat ++ [HVal.bool true]).length) = i := by simp [hlen]; omega
   rw [e1]
   by_cases h256 : i < 256
   ·have hne : UInt8.ofNat i ≠ c := fun h => by
     have := congrArg UInt8.toNat h
     rw [UInt8.toNat_ofNat_of_lt' (by simpa [UInt8.size] using h256)] at this; omega
    simp [asciiSet, List.getElem?_range, h256, hne]
   ·rw [List.getElem?_eq_none (by rw [asciiSet_len]; omega), List.getElem?_eq_none (by rw [asciiSet_len]; omega)]
def rtrim (p : UInt8 → Bool) (s : Str) : Str := (s.reverse.dropWhile p).reverse
theorem rtrim_snoc (p : UInt8 → Bool) (s : Str) (c : UInt8) : rtrim p (s ++ [c]) = if p c then rtrim p s else s ++ [c] := by
 unfold rtrim
 rw [List.reverse_append]
 simp only [List.reverse_cons, List.reverse_nil, List.nil_append, List.singleton_append, List.dropWhile_cons]
 split <;> simp
theorem dw_len (p : UInt8 → Bool) : ∀ s : Str, (s.dropWhile p).length ≤ s.length
 | [] => Nat.le_refl _
 | x :: s => by
   rw [List.dropWhile_cons]
   split
   ·exact Nat.le_succ_of_le (dw_len p s)
   ·exact Nat.le_refl _
theorem rtrim_len (p : UInt8 → Bool) (s : Str) : (rtrim p s).length ≤ s.length := by
 unfold rtrim
 rw [List.length_reverse]
 have := dw_len p s.reverse
 rwa [List.length_reverse] at this
theorem dw_nil (p : UInt8 → Bool) : ∀ s : Str, s.dropWhile p = [] → ∀ c ∈ s, p c = true
 | [], _, c, h => by cases h
 | x :: s, h, c, hc => by
   rw [List.dropWhile_cons] at h
   by_cases hx : p x = true
   ·rw [if_pos hx] at h
    rcases List.mem_cons.1 hc with rfl | hc
    ·exact hx
    ·exact dw_nil p s h c hc
   ·rw [if_neg hx] at h; cases h
theorem trim_nil (p : UInt8 → Bool) (s : Str) : ((rtrim p s).dropWhile p == []) = s.all p := by
 induction s using List.reverseRecOn' with
 | nil => rfl
 | snoc s c ih =>
   rw [rtrim_snoc]
   by_cases hc : p c = true
   ·rw [if_pos hc, ih]; simp [hc]
   ·rw [if_neg hc]
    have : (s ++ [c]).all p = false := by simp [hc]
    rw [this]
    cases hd : (s ++ [c]).dropWhile p with
    | nil => exact absurd (dw_nil _ _ hd c (by simp)) hc
    | cons _ _ => rfl
where
 List.reverseRecOn' {motive : Str → Prop} (nil : motive []) (snoc : ∀ s c, motive s → motive (s ++ [c])) (l : Str) : motive l := by
  have : ∀ n (l : Str), l.length = n → motive l := by
   intro n
   induction n with
   | zero => intro l h; rw [List.length_eq_zero_iff.1 h]; exact nil
   | succ n ih =>
     intro l h
     have hne : l ≠ [] := fun h0 => by subst h0; simp at h
     rw [← List.dropLast_concat_getLast hne]
     exact snoc _ _ (ih _ (by simp [h]))
  exact this l.length l rfl
def cut38 : Str := [97, 98, 99, 100, 101, 102, 103, 104, 105, 106, 107, 108, 109, 110, 111, 112, 113, 114, 115, 116, 117, 118, 119, 120, 121, 122, 48, 49, 50, 51, 52, 53, 54, 55, 56, 57, 45, 95]
def small26 : Str := [97, 98, 99, 100, 101, 102, 103, 104, 105, 106, 107, 108, 109, 110, 111, 112, 113, 114, 115, 116, 117, 118, 119, 120, 121, 122]
theorem all256 {p : UInt8 → Bool} (h : (List.range 256).all (fun i => p (UInt8.ofNat i)) = true) (c : UInt8) : p c = true := by
 have := List.all_eq_true.1 h c.toNat (List.mem_range.2 c.toNat_lt)
 simpa using this
theorem cut38_eq (c : UInt8) : cut38.contains c = keyCh c := by
 have := all256 (p := fun c => cut38.contains c == keyCh c) (by kernel_rfl) c
 simpa using this
theorem small26_eq (c : UInt8) : decide (0 ≤ Lib.indexByte small26 c) = (decide (97 ≤ c.toNat) && decide (c.toNat ≤ 122)) := by
 have := all256 (p := fun c => decide (0 ≤ Lib.indexByte small26 c) == (decide (97 ≤ c.toNat) && decide (c.toNat ≤ 122))) (by kernel_rfl) c
 simpa using this
theorem key_ref (s : Str) : key s = ((!(out s.length 1 40) && ((rtrim (cut38.contains ·) s).dropWhile (cut38.contains ·) == [])) && decide (0 ≤ Lib.indexByte small26 (s.headD 0))) := by
 rw [trim_nil, small26_eq]
 have : (fun x => cut38.contains x) = keyCh := funext cut38_eq
 rw [this]
 unfold key keyHd
 cases s with
 | nil => simp [out]
 | cons x r =>
   simp only [List.headD_cons]
   have h1 : (!(out ((x :: r).length : Int) 1 40)) = decide ((x :: r).length ≤ 40) := by
    simp only [out, List.length_cons]
    rw [Bool.eq_iff_iff]; simp; omega
   rw [h1]
   have h2 : ((x :: r) != []) = true := rfl
   rw [h2]
   have hb : ∀ a b c d : Bool, (true && a && c && d && b) = (a && b && (c && d)) := by decide
   exact hb _ _ _ _
theorem moment_ref (n : Int) : (if out n 0 345686399999 then (1 : Int) else 0) = if moment n then 0 else 1 := by
 have : out n 0 345686399999 = !(moment n) := by
  simp only [out, moment]; rw [Bool.eq_iff_iff]; simp; try omega
 rw [this]; cases moment n <;> rfl
end Go.HL
end
section
namespace Go.Proofs.YtfkobanmdpbjkaaGreatDoor
open Go.HL
set_option maxRecDepth 100000
set_option linter.unusedVariables false
set_option linter.unusedSimpArgs false
/-- strings.makeASCIISet -/
theorem c_strings_makeASCIISet [Tracks] {l : Str} (hl : l.length ≤ 1000000) (ha : ∀ c ∈ l, c.toNat < 128) : ConP Tryz.prog 151 [.str l] (.tup [.agg (asciiSet l), .bool true]) := by
 refine Con.of_bodyc Tryz.func151 rfl Tryz.ntmps151 rfl rfl ?_
 refine hw_reg ?_
 refine de rfl (eop_alloc ty194 rfl fun b2 => ?_)
 refine dp rfl (pop_assign rfl) ?_
 refine dn ?_
 refine hw_seq ?_
 refine hw_reg ?_
 refine dp rfl (pop_assign rfl) ?_
 refine dn ?_
 refine hw_block ?_
 refine hw_loopw [3, 4, 5, 6, 7, 8, 9, 10, 11, 12, 13, 14, 15, 16, 17, 18, 19] (fun (k : Nat) => [(4, .int .i64 k)]) (fun (k : Nat) => [.cells b2 (asciiSet (l.take k))]) (fun (k : Nat) => k ≤ l.length ∧ (True)) (fun (k : Nat) => l.length - k) (0) ?_ ?_ ?_ ?_
 ·exact ⟨Nat.zero_le _, by simp_all⟩
 ·exact ⟨rfl, trivial⟩
 ·exact perm_eq rfl
 ·intro k hinv
  obtain ⟨hk, -⟩ := hinv
  refine hw_seq ?_
  refine hw_reg ?_
  refine dp rfl (pop_move rfl) ?_
  refine dp rfl (pop_move rfl) ?_
  refine dp rfl (pop_lens ty9 rfl) ?_
  refine dp rfl (pop_lss rfl rfl) ?_
  refine dn ?_
  refine hw_cond rfl (fun h1 => ?_) (fun h2 => ?_)
  ·try simp at h1
   obtain ⟨x, hx⟩ : ∃ x, l[k]? = some x := ⟨_, List.getElem?_eq_getElem h1⟩
   have hdx := drop_cons hx
   have hc := ha x (List.mem_of_getElem? hx)
   refine hw_skip ?_
   refine seqQ_n ?_
   refine hw_seq ?_
   refine hw_block ?_
   refine hw_reg ?_
   refine dp rfl (pop_move rfl) ?_
   refine dp rfl (pop_move rfl) ?_
   refine dp rfl (pop_indexs ty9 rfl rfl rfl (by assumption)) ?_
   refine dp rfl (pop_assign rfl) ?_
   refine dn ?_
   refine hw_seq ?_
   refine hw_reg ?_
   refine dp rfl (pop_move rfl) ?_
   refine dp rfl (pop_geq rfl rfl) ?_
   refine dn ?_
   refine hw_cond rfl (fun h3 => ?_) (fun h3 => ?_)
   ·exfalso
    try simp at h3
    omega
   ·try simp at h3
    refine hw_skip ?_
    refine seqQ_n ?_
    refine hw_reg1 ?_
    refine dp rfl (pop_move rfl) ?_
    refine dp rfl (pop_idxa_raw ty194 ty4 rfl rfl rfl (by omega)) ?_
    refine de0 (eop_store (i := 0) ty4 rfl rfl rfl rfl rfl (by rw [asciiSet_len]; omega) ?_)
    refine dn ?_
    refine blockQ_n ?_
    refine seqQ_n ?_
    refine hw_reg1 ?_
    refine dp rfl (pop_move rfl) ?_
    refine dp rfl (pop_add64 rfl rfl (by omega) (by omega)) ?_
    refine dp rfl (pop_assign rfl) ?_
    refine dn ?_
    refine ⟨k + 1, ?_, ?_, ⟨rfl, trivial⟩, (by repeat (first | exact keeps_refl | refine keeps_upd rfl ?_ | refine keeps_loop rfl rfl ?_)), perm_eq (by show [MObj.cells b2 (setL _ (0 + x.toNat * 1) [.bool true])] = _; rw [asciiSet_add]; dsimp only; rw [List.take_add_one, hx]; rfl)⟩
    ·exact ⟨by omega, trivial⟩
    ·dsimp only; omega
  ·try simp at h2
   have hnk : l.length ≤ k := by omega
   obtain rfl : k = l.length := by omega
   refine hw_exit ?_
   refine seqQ_x ?_
   refine loopQ_x ?_
   refine blockQ_eq ?_
   refine seqQ_n ?_
   refine hw_ghost (Ghost.of_eq (M' := [.cells b2 (asciiSet l)]) (by rw [List.take_length])) ?_
   refine hw_reg ?_
   refine de rfl (eop_loadw (i := 0) (h := .agg (asciiSet l)) ty194 rfl rfl rfl rfl (asciiSet_len l) ?_)
   refine de0 (eop_storew (h := .agg (asciiSet l)) ty194 rfl rfl (by simp [okElem, asciiSet_len]) (asciiSet_flat l) (asciiSet_len l) ?_)
   refine dp rfl (pop_assign rfl) ?_
   refine dn ?_
   refine hw_ret ?_
   refine ⟨_, _, Ghost.fc0 2 rfl, [_, _], _, ⟨⟨_, _, _, _, _, rfl, ty194, .inr ⟨rfl, rfl, rfl⟩⟩, ⟨rfl, trivial⟩⟩, Weak.refl _, ?_, rfl⟩
   rfl

/-- (*strings.asciiSet).contains -/
theorem c_strings_asciiSet_contains [Tracks] {l : Str} {c : UInt8}  : ConP Tryz.prog 181 [.vptr (asciiSet l) 0, .int .u8 c.toNat] (.bool (l.contains c)) := by
 have hc := c.toNat_lt
 refine Con.of_body Tryz.func181 rfl Tryz.ntmps181 rfl rfl ?_
 refine hw_reg ?_
 refine dp rfl (pop_assign rfl) ?_
 refine dn ?_
 refine hw_reg ?_
 refine dp rfl (pop_move rfl) ?_
 refine dp rfl (pop_move rfl) ?_
 refine dp rfl ((pop_nilCheck rfl)) ?_
 refine dp rfl (pop_idxa ty194 ty4 rfl rfl rfl (by omega)) ?_
 refine dp rfl (pop_load ty4 rfl rfl (by rw [show 0 + c.toNat * 1 = c.toNat from by omega]; exact asciiSet_get l c)) ?_
 refine dp rfl (pop_assign rfl) ?_
 refine dn ?_
 refine hw_ret ?_
 refine ret_p rfl ?_
 rfl

/-- strings.trimLeftASCII -/
theorem c_strings_trimLeftASCII [Tracks] {s l : Str} (hl : s.length ≤ 1000000) : ConP Tryz.prog 152 [.str s, .vptr (asciiSet l) 0] (.str (s.dropWhile (l.contains ·))) := by
 refine Con.of_body Tryz.func152 rfl Tryz.ntmps152 rfl rfl ?_
 refine hw_reg ?_
 refine dp rfl (pop_assign rfl) ?_
 refine dn ?_
 refine hw_seq ?_
 refine hw_block ?_
 refine hw_loopw [0, 5, 6, 7, 8, 9, 10, 11, 12, 13, 14] (fun (t : Str) => [(0, .str t)]) (fun (t : Str) => []) (fun (t : Str) => t.length ≤ s.length ∧ s.dropWhile (l.contains ·) = t.dropWhile (l.contains ·)) (fun (t : Str) => t.length) (s) ?_ ?_ ?_ ?_
 ·exact ⟨Nat.le_refl _, rfl⟩
 ·exact ⟨rfl, trivial⟩
 ·exact List.Perm.refl _
 ·intro t hinv
  obtain ⟨ht, hg⟩ := hinv
  refine hw_seq ?_
  refine hw_reg ?_
  refine dp rfl (pop_move rfl) ?_
  refine dp rfl (pop_lens ty9 rfl) ?_
  refine dp rfl (pop_gtr rfl rfl) ?_
  refine dn ?_
  refine hw_cond rfl (fun h1 => ?_) (fun h2 => ?_)
  ·try simp at h1
   obtain ⟨x, u, rfl⟩ : ∃ x u, t = x :: u := by cases t with | nil => simp at h1 | cons x u => exact ⟨x, u, rfl⟩
   have hlen : (x :: u).length = u.length + 1 := rfl
   refine hw_skip ?_
   refine seqQ_n ?_
   refine hw_block ?_
   refine hw_seq ?_
   refine hw_reg ?_
   refine dp rfl (pop_move rfl) ?_
   refine dp rfl (pop_move rfl) ?_
   refine dp rfl (pop_indexs (j := 0) (b := x) ty9 rfl rfl rfl rfl) ?_
   refine dp rfl (pop_call ca181 rfl (WeakL.refl _) c_strings_asciiSet_contains) ?_
   refine dp rfl (pop_not rfl) ?_
   refine dn ?_
   refine hw_cond rfl (fun h3 => ?_) (fun h4 => ?_)
   ·try simp at h3
    refine hw_exit ?_
    refine seqQ_x ?_
    refine blockQ_ne rfl ?_
    refine loopQ_x ?_
    refine blockQ_eq ?_
    refine seqQ_n ?_
    refine hw_reg ?_
    refine dp rfl (pop_move rfl) ?_
    refine dp rfl (pop_assign rfl) ?_
    refine dn ?_
    refine hw_ret ?_
    refine ret_p rfl ?_
    show HVal.str _ = _
    rw [hg]; simp_all [List.dropWhile_cons]
   ·try simp at h4
    refine hw_skip ?_
    refine seqQ_n ?_
    refine hw_reg1 ?_
    refine dp rfl (pop_move rfl) ?_
    refine dp rfl (pop_slices (l := 1) ty9 rfl ⟨_, _, rfl, rfl⟩ rfl (by omega) (by omega)) ?_
    refine dp rfl (pop_assign rfl) ?_
    refine dn ?_
    refine blockQ_n ?_
    refine ⟨_, ?_, ?_, ⟨rfl, trivial⟩, (by repeat (first | exact keeps_refl | refine keeps_upd rfl ?_ | refine keeps_loop rfl rfl ?_)), List.Perm.refl _⟩
    ·refine ⟨by simp at ht ⊢; omega, ?_⟩
     rw [hg]; simp_all [List.dropWhile_cons]
    ·dsimp only; simp
  ·try simp at h2
   obtain rfl : t = [] := by simpa using h2
   refine hw_exit ?_
   refine seqQ_x ?_
   refine loopQ_x ?_
   refine blockQ_eq ?_
   refine seqQ_n ?_
   refine hw_reg ?_
   refine dp rfl (pop_move rfl) ?_
   refine dp rfl (pop_assign rfl) ?_
   refine dn ?_
   refine hw_ret ?_
   refine ret_p rfl ?_
   show HVal.str _ = _
   rw [hg]; simp_all [List.dropWhile_cons]

/-- strings.trimRightASCII -/
theorem c_strings_trimRightASCII [Tracks] {s l : Str} (hl : s.length ≤ 1000000) : ConP Tryz.prog 153 [.str s, .vptr (asciiSet l) 0] (.str (rtrim (l.contains ·) s)) := by
 refine Con.of_body Tryz.func153 rfl Tryz.ntmps153 rfl rfl ?_
 refine hw_reg ?_
 refine dp rfl (pop_assign rfl) ?_
 refine dn ?_
 refine hw_seq ?_
 refine hw_block ?_
 refine hw_loopw [0, 5, 6, 7, 8, 9, 10, 11, 12, 13, 14, 15, 16, 17, 18, 19, 20] (fun (t : Str) => [(0, .str t)]) (fun (t : Str) => []) (fun (t : Str) => t.length ≤ s.length ∧ rtrim (l.contains ·) s = rtrim (l.contains ·) t) (fun (t : Str) => t.length) (s) ?_ ?_ ?_ ?_
 ·exact ⟨Nat.le_refl _, rfl⟩
 ·exact ⟨rfl, trivial⟩
 ·exact List.Perm.refl _
 ·intro t hinv
  obtain ⟨ht, hg⟩ := hinv
  refine hw_seq ?_
  refine hw_reg ?_
  refine dp rfl (pop_move rfl) ?_
  refine dp rfl (pop_lens ty9 rfl) ?_
  refine dp rfl (pop_gtr rfl rfl) ?_
  refine dn ?_
  refine hw_cond rfl (fun h1 => ?_) (fun h2 => ?_)
  ·try simp at h1
   obtain ⟨u, x, rfl⟩ : ∃ u x, t = u ++ [x] := ⟨_, _, (List.dropLast_concat_getLast (by intro h0; subst h0; simp at h1)).symm⟩
   have hlen : (u ++ [x]).length = u.length + 1 := by simp
   refine hw_skip ?_
   refine seqQ_n ?_
   refine hw_block ?_
   refine hw_seq ?_
   refine hw_reg ?_
   refine dp rfl (pop_move rfl) ?_
   refine dp rfl (pop_move rfl) ?_
   refine dp rfl (pop_move rfl) ?_
   refine dp rfl (pop_lens ty9 rfl) ?_
   refine dp rfl (pop_sub64 rfl rfl (by omega) (by omega)) ?_
   refine dp rfl (pop_indexs (j := u.length) (b := x) ty9 rfl rfl (by omega) (by simp)) ?_
   refine dp rfl (pop_call ca181 rfl (WeakL.refl _) c_strings_asciiSet_contains) ?_
   refine dp rfl (pop_not rfl) ?_
   refine dn ?_
   refine hw_cond rfl (fun h3 => ?_) (fun h4 => ?_)
   ·try simp at h3
    refine hw_exit ?_
    refine seqQ_x ?_
    refine blockQ_ne rfl ?_
    refine loopQ_x ?_
    refine blockQ_eq ?_
    refine seqQ_n ?_
    refine hw_reg ?_
    refine dp rfl (pop_move rfl) ?_
    refine dp rfl (pop_assign rfl) ?_
    refine dn ?_
    refine hw_ret ?_
    refine ret_p rfl ?_
    show HVal.str _ = _
    rw [hg]; first | rfl | (rw [rtrim_snoc, if_neg (by simp_all)])
   ·try simp at h4
    refine hw_skip ?_
    refine seqQ_n ?_
    refine hw_reg1 ?_
    refine dp rfl (pop_move rfl) ?_
    refine dp rfl (pop_move rfl) ?_
    refine dp rfl (pop_lens ty9 rfl) ?_
    refine dp rfl (pop_sub64 rfl rfl (by omega) (by omega)) ?_
    refine dp rfl (pop_slices (l := 0) (h := u.length) ty9 rfl rfl ⟨_, _, rfl, by omega⟩ (by omega) (by omega)) ?_
    refine dp rfl (pop_assign rfl) ?_
    refine dn ?_
    refine blockQ_n ?_
    refine ⟨_, ?_, ?_, ⟨rfl, trivial⟩, (by repeat (first | exact keeps_refl | refine keeps_upd rfl ?_ | refine keeps_loop rfl rfl ?_)), List.Perm.refl _⟩
    ·refine ⟨by simp at ht ⊢; omega, ?_⟩
     rw [hg, rtrim_snoc, if_pos (by simp_all)]; simp
    ·dsimp only; simp
  ·try simp at h2
   obtain rfl : t = [] := by simpa using h2
   refine hw_exit ?_
   refine seqQ_x ?_
   refine loopQ_x ?_
   refine blockQ_eq ?_
   refine seqQ_n ?_
   refine hw_reg ?_
   refine dp rfl (pop_move rfl) ?_
   refine dp rfl (pop_assign rfl) ?_
   refine dn ?_
   refine hw_ret ?_
   refine ret_p rfl ?_
   show HVal.str _ = _
   rw [hg]; first | rfl | (rw [rtrim_snoc, if_neg (by simp_all)])

/-- strings.Trim -/
theorem c_strings_Trim [Tracks] {s l : Str} (hs : s.length ≤ 1000000) (hl : l.length ≤ 1000000) (h2l : 2 ≤ l.length) (ha : ∀ c ∈ l, c.toNat < 128) : ConP Tryz.prog 111 [.str s, .str l] (.str ((rtrim (l.contains ·) s).dropWhile (l.contains ·))) := by
 refine Con.of_body Tryz.func111 rfl Tryz.ntmps111 rfl rfl ?_
 refine hw_reg ?_
 refine dp rfl (pop_assign rfl) ?_
 refine dn ?_
 refine hw_seq ?_
 refine hw_reg ?_
 refine dp rfl (pop_move rfl) ?_
 refine dp rfl (pop_eqls rfl rfl) ?_
 refine dp rfl (pop_move rfl) ?_
 refine dg rfl rfl (fun hc => ⟨_, OpenTo.refl _, pop_move rfl⟩) ?_
 refine dg rfl rfl (fun hc => ⟨_, OpenTo.upd (t := 10) rfl (hc) (OpenTo.refl _), pop_eqls rfl rfl⟩) ?_
 refine dp rfl (pop_picko rfl (.inl rfl) (.inr ⟨_, rfl, fun h => by simp_all⟩)) ?_
 refine dn ?_
 refine hw_cond rfl (fun h1 => ?_) (fun h2 => ?_)
 ·try simp at h1
  refine hw_reg ?_
  refine dp rfl (pop_move rfl) ?_
  refine dp rfl (pop_assign rfl) ?_
  refine dn ?_
  refine hw_ret ?_
  refine ret_p rfl ?_
  show HVal.str _ = _
  (rcases h1 with rfl | rfl <;> first | (simp at h2l; done) | (simp [rtrim]; done))
 ·try simp at h2
  refine hw_skip ?_
  refine seqQ_n ?_
  refine hw_seq ?_
  refine hw_reg ?_
  refine dp rfl (pop_move rfl) ?_
  refine dp rfl (pop_lens ty9 rfl) ?_
  refine dp rfl (pop_eql rfl rfl) ?_
  refine dp rfl (pop_move rfl) ?_
  refine dg rfl rfl (fun hc => ⟨_, OpenTo.refl _, pop_move rfl⟩) ?_
  refine dg rfl rfl (fun hc => ⟨_, OpenTo.upd (t := 18) rfl (hc) (OpenTo.refl _), pop_indexs (j := 0) (b := l.headD 0) ty9 rfl rfl rfl (hd0 (by intro h0; subst h0; simp at h2l))⟩) ?_
  refine dg rfl rfl (fun hc => ⟨_, OpenTo.upd (t := 19) rfl (hc) (OpenTo.refl _), pop_lss rfl rfl⟩) ?_
  refine dp rfl (pop_picko rfl (.inr ⟨_, rfl, fun h => by simp_all⟩) (.inl rfl)) ?_
  refine dn ?_
  refine hw_cond rfl (fun h3 => ?_) (fun h3 => ?_)
  ·exfalso
   try simp at h3
   omega
  ·try simp at h3
   refine hw_skip ?_
   refine seqQ_n ?_
   refine hw_seq ?_
   refine hw_reg ?_
   refine dp rfl (pop_move rfl) ?_
   refine dp rfl (pop_call ca151 rfl (WeakL.refl _) (c_strings_makeASCIISet (by assumption) (by assumption))) ?_
   refine dp rfl (pop_move rfl) ?_
   refine dp rfl (pop_extract rfl rfl) ?_
   refine dp rfl (pop_extract rfl rfl) ?_
   refine de rfl (eop_alloc ty194 rfl fun b5 => ?_)
   refine de0 (eop_storew ty194 rfl rfl rfl rfl rfl ?_)
   refine dp rfl (pop_assign rfl) ?_
   refine dn ?_
   refine hw_ghost (Ghost.fc0 5 rfl) ?_
   refine hw_reg ?_
   refine dp rfl (pop_move rfl) ?_
   refine dn ?_
   refine hw_cond_t rfl ?_
   refine hw_reg ?_
   refine dp rfl (pop_move rfl) ?_
   refine dp rfl (pop_call ca153 rfl (WeakL.refl _) (c_strings_trimRightASCII (by assumption))) ?_
   refine dp rfl (pop_call ca152 rfl (WeakL.refl _) (c_strings_trimLeftASCII (Nat.le_trans (rtrim_len _ _) hs))) ?_
   refine dp rfl (pop_assign rfl) ?_
   refine dn ?_
   refine hw_ret ?_
   refine ret_p rfl ?_
   show HVal.str _ = _
   rfl

/-- internal/stringslite.IndexByte -/
theorem c_internal_stringslite_IndexByte [Tracks] {s : Str} {c : Int}  : ConP Tryz.prog 156 [.str s, .int .u8 c] (.int .i64 (Lib.indexByte s c.toNat.toUInt8)) := by
 refine Con.of_body Tryz.func156 rfl Tryz.ntmps156 rfl rfl ?_
 refine hw_reg ?_
 refine dp rfl (pop_assign rfl) ?_
 refine dn ?_
 refine hw_reg ?_
 refine dp rfl (pop_move rfl) ?_
 refine dp rfl (pop_move rfl) ?_
 refine dp rfl (pop_indexByte Tryz.func185 (by kernel_rfl) (by kernel_rfl) (by kernel_rfl) (by kernel_rfl) rfl rfl rfl) ?_
 refine dp rfl (pop_assign rfl) ?_
 refine dn ?_
 refine hw_ret ?_
 refine ret_p rfl ?_
 rfl

/-- strings.IndexByte -/
theorem c_strings_IndexByte [Tracks] {s : Str} {c : Int}  : ConP Tryz.prog 112 [.str s, .int .u8 c] (.int .i64 (Lib.indexByte s c.toNat.toUInt8)) := by
 refine Con.of_body Tryz.func112 rfl Tryz.ntmps112 rfl rfl ?_
 refine hw_reg ?_
 refine dp rfl (pop_assign rfl) ?_
 refine dn ?_
 refine hw_reg ?_
 refine dp rfl (pop_move rfl) ?_
 refine dp rfl (pop_move rfl) ?_
 refine dp rfl (pop_call ca156 rfl (WeakL.refl _) c_internal_stringslite_IndexByte) ?_
 refine dp rfl (pop_assign rfl) ?_
 refine dn ?_
 refine hw_ret ?_
 refine ret_p rfl ?_
 rfl

/-- benchwarmer/benchref1.in -/
theorem c_benchref1_in [Tracks] {n lo hi : Int}  : ConP Tryz.prog 70 [.int .i64 n, .int .i64 lo, .int .i64 hi] (.bool (!(out n lo hi))) := by
 refine Con.of_body Tryz.func70 rfl Tryz.ntmps70 rfl rfl ?_
 refine hw_reg ?_
 refine dp rfl (pop_assign rfl) ?_
 refine dn ?_
 refine hw_reg ?_
 refine dp rfl (pop_move rfl) ?_
 refine dp rfl (pop_move rfl) ?_
 refine dp rfl (pop_leq rfl rfl) ?_
 refine dp rfl (pop_move rfl) ?_
 refine dg rfl rfl (fun hc => ⟨_, OpenTo.refl _, pop_move rfl⟩) ?_
 refine dg rfl rfl (fun hc => ⟨_, OpenTo.refl _, pop_move rfl⟩) ?_
 refine dg rfl rfl (fun hc => ⟨_, OpenTo.upd (t := 12) rfl (hc) (OpenTo.upd (t := 11) rfl (hc) (OpenTo.refl _)), pop_leq rfl rfl⟩) ?_
 refine dp rfl (pop_picko rfl (.inr ⟨_, rfl, fun h => by simp_all⟩) (.inl rfl)) ?_
 refine dp rfl (pop_assign rfl) ?_
 refine dn ?_
 refine hw_ret ?_
 refine ret_p rfl ?_
 show HVal.bool _ = _
 congr 1; simp [out]; rw [Bool.eq_iff_iff]; simp; try omega

/-- benchwarmer/benchref1.Key -/
theorem c_benchref1_Key [Tracks] {s : Str} (hs : s.length ≤ 1000000) : ConP Tryz.prog 69 [.str s] (.bool (key s)) := by
 refine Con.of_body Tryz.func69 rfl Tryz.ntmps69 rfl rfl ?_
 refine hw_reg ?_
 refine dp rfl (pop_assign rfl) ?_
 refine dn ?_
 refine hw_reg ?_
 refine dp rfl (pop_move rfl) ?_
 refine dp rfl (pop_lens ty9 rfl) ?_
 refine dp rfl (pop_call ca70 rfl (WeakL.refl _) c_benchref1_in) ?_
 refine dp rfl (pop_move rfl) ?_
 refine dg rfl rfl (fun hc => ⟨_, OpenTo.refl _, pop_move rfl⟩) ?_
 refine dg rfl rfl (fun hc => ⟨_, OpenTo.upd (t := 7) rfl (hc) (OpenTo.refl _), pop_call ca111 rfl (WeakL.refl _) (c_strings_Trim (l := cut38) hs (by decide) (by decide) (by decide))⟩) ?_
 refine dg rfl rfl (fun hc => ⟨_, OpenTo.upd (t := 8) rfl (hc) (OpenTo.refl _), pop_eqls rfl rfl⟩) ?_
 refine dp rfl (pop_picko rfl (.inr ⟨_, rfl, fun h => by simp_all⟩) (.inl rfl)) ?_
 refine dp rfl (pop_move rfl) ?_
 refine dg rfl rfl (fun hc => ⟨_, OpenTo.refl _, pop_move rfl⟩) ?_
 refine dg rfl rfl (fun hc => ⟨_, OpenTo.upd (t := 12) rfl (hc) (OpenTo.refl _), pop_indexs (j := 0) (b := s.headD 0) ty9 rfl rfl rfl (hd0 (by rintro rfl; simp [out] at hc))⟩) ?_
 refine dg rfl rfl (fun hc => ⟨_, OpenTo.upd (t := 13) rfl (hc) (OpenTo.refl _), pop_call ca112 rfl (WeakL.refl _) c_strings_IndexByte⟩) ?_
 refine dg rfl rfl (fun hc => ⟨_, OpenTo.upd (t := 14) rfl (hc) (OpenTo.refl _), pop_geq rfl rfl⟩) ?_
 refine dp rfl (pop_picko rfl (.inr ⟨_, rfl, fun h => by simp_all⟩) (.inl rfl)) ?_
 refine dp rfl (pop_assign rfl) ?_
 refine dn ?_
 refine hw_ret ?_
 refine ret_p rfl ?_
 show HVal.bool _ = _
 rw [key_ref]
 simp [cut38, small26]

/-- benchwarmer/benchref1.SpanFault -/
theorem c_benchref1_SpanFault [Tracks] {n lo hi : Int}  : ConP Tryz.prog 65 [.int .i64 n, .int .i64 lo, .int .i64 hi] (.int .i64 (if out n lo hi then 1 else 0)) := by
 refine Con.of_body Tryz.func65 rfl Tryz.ntmps65 rfl rfl ?_
 refine hw_reg ?_
 refine dp rfl (pop_assign rfl) ?_
 refine dn ?_
 refine hw_seq ?_
 refine hw_reg ?_
 refine dp rfl (pop_move rfl) ?_
 refine dp rfl (pop_move rfl) ?_
 refine dp rfl (pop_move rfl) ?_
 refine dp rfl (pop_call ca70 rfl (WeakL.refl _) c_benchref1_in) ?_
 refine dp rfl (pop_not rfl) ?_
 refine dn ?_
 refine hw_cond rfl (fun h1 => ?_) (fun h2 => ?_)
 ·try simp at h1
  refine hw_reg ?_
  refine dp rfl (pop_assign rfl) ?_
  refine dn ?_
  refine hw_ret ?_
  refine ret_p rfl ?_
  show HVal.int .i64 _ = _
  simp_all
 ·try simp at h2
  refine hw_skip ?_
  refine seqQ_n ?_
  refine hw_reg ?_
  refine dp rfl (pop_assign rfl) ?_
  refine dn ?_
  refine hw_ret ?_
  refine ret_p rfl ?_
  show HVal.int .i64 _ = _
  simp_all

/-- benchwarmer/benchref1.MomentFault -/
theorem c_benchref1_MomentFault [Tracks] {n : Int}  : ConP Tryz.prog 17 [.int .i64 n] (.int .i64 (if moment n then 0 else 1)) := by
 refine Con.of_body Tryz.func17 rfl Tryz.ntmps17 rfl rfl ?_
 refine hw_reg ?_
 refine dp rfl (pop_assign rfl) ?_
 refine dn ?_
 refine hw_reg ?_
 refine dp rfl (pop_move rfl) ?_
 refine dp rfl (pop_call ca65 rfl (WeakL.refl _) c_benchref1_SpanFault) ?_
 refine dp rfl (pop_assign rfl) ?_
 refine dn ?_
 refine hw_ret ?_
 refine ret_p rfl ?_
 show HVal.int .i64 _ = _
 rw [moment_ref]
end Go.Proofs.YtfkobanmdpbjkaaGreatDoor
end
section
namespace Go.Proofs
open Go.Shelf
def Tryz.lays190_ren : Go.Shelf.Ren := ⟨fun | 190 => 121 | 125 => 98 | 258 => 168 | 128 => 134 | 129 => 135 | 302 => 190 | 303 => 191 | 304 => 192 | 305 => 193 | 306 => 194 | 307 => 195 | 308 => 137 | 309 => 196 | 310 => 197 | 333 => 217 | 329 => 174 | 330 => 175 | 334 => 218 | 335 => 219 | 336 => 178 | 344 => 228 | n => n, fun | 31 => 26 | 9 => 9 | 3 => 3 | 46 => 150 | 0 => 0 | 51 => 180 | 53 => 182 | 4 => 4 | 183 => 174 | 182 => 173 | 131 => 151 | 5 => 5 | 218 => 211 | 222 => 215 | 228 => 233 | 229 => 234 | n => n, fun | n => n⟩
theorem Tryz.lays190 : Go.Proofs.Lays.n190 Tryz.prog Tryz.lays190_ren := {
 mixed := by kernel_rfl
 f125 := Tryz.func98.trans (congrArg some (by kernel_rfl))
 f128 := Tryz.func134.trans (congrArg some (by kernel_rfl))
 f129 := Tryz.func135.trans (congrArg some (by kernel_rfl))
 f190 := Tryz.func121.trans (congrArg some (by kernel_rfl))
 f258 := Tryz.func168.trans (congrArg some (by kernel_rfl))
 f302 := Tryz.func190.trans (congrArg some (by kernel_rfl))
 f303 := Tryz.func191.trans (congrArg some (by kernel_rfl))
 f304 := Tryz.func192.trans (congrArg some (by kernel_rfl))
 f305 := Tryz.func193.trans (congrArg some (by kernel_rfl))
 f306 := Tryz.func194.trans (congrArg some (by kernel_rfl))
 f307 := Tryz.func195.trans (congrArg some (by kernel_rfl))
 f308 := Tryz.func137.trans (congrArg some (by kernel_rfl))
 f309 := Tryz.func196.trans (congrArg some (by kernel_rfl))
 f310 := Tryz.func197.trans (congrArg some (by kernel_rfl))
 f329 := Tryz.func174.trans (congrArg some (by kernel_rfl))
 f330 := Tryz.func175.trans (congrArg some (by kernel_rfl))
 f333 := Tryz.func217.trans (congrArg some (by kernel_rfl))
 f334 := Tryz.func218.trans (congrArg some (by kernel_rfl))
 f335 := Tryz.func219.trans (congrArg some (by kernel_rfl))
 f336 := Tryz.func178.trans (congrArg some (by kernel_rfl))
 f344 := Tryz.func228.trans (congrArg some (by kernel_rfl))
 t0 := Tryz.underlying0
 a0 := Tryz.isAgg0
 z0 := Tryz.sizeOf0
 v0 := Tryz.zeroValue0
 t3 := Tryz.underlying3
 a3 := Tryz.isAgg3
 z3 := Tryz.sizeOf3
 v3 := Tryz.zeroValue3
 t4 := Tryz.underlying4
 a4 := Tryz.isAgg4
 z4 := Tryz.sizeOf4
 v4 := Tryz.zeroValue4
 t5 := Tryz.underlying5
 a5 := Tryz.isAgg5
 z5 := Tryz.sizeOf5
 v5 := Tryz.zeroValue5
 t9 := Tryz.underlying9
 a9 := Tryz.isAgg9
 z9 := Tryz.sizeOf9
 v9 := Tryz.zeroValue9
 t31 := Tryz.underlying26
 a31 := Tryz.isAgg26
 z31 := Tryz.sizeOf26
 v31 := Tryz.zeroValue26
 t46 := Tryz.underlying150
 a46 := Tryz.isAgg150
 z46 := Tryz.sizeOf150
 v46 := Tryz.zeroValue150
 t51 := Tryz.underlying180
 a51 := Tryz.isAgg180
 z51 := Tryz.sizeOf180
 v51 := Tryz.zeroValue180
 t53 := Tryz.underlying182
 a53 := Tryz.isAgg182
 z53 := Tryz.sizeOf182
 v53 := Tryz.zeroValue182
 t131 := Tryz.underlying151
 a131 := Tryz.isAgg151
 z131 := Tryz.sizeOf151
 v131 := Tryz.zeroValue151
 t182 := Tryz.underlying173
 a182 := Tryz.isAgg173
 z182 := Tryz.sizeOf173
 v182 := Tryz.zeroValue173
 t183 := Tryz.underlying174
 a183 := Tryz.isAgg174
 z183 := Tryz.sizeOf174
 v183 := Tryz.zeroValue174
 t218 := Tryz.underlying211
 a218 := Tryz.isAgg211
 z218 := Tryz.sizeOf211
 v218 := Tryz.zeroValue211
 t222 := Tryz.underlying215
 a222 := Tryz.isAgg215
 z222 := Tryz.sizeOf215
 v222 := Tryz.zeroValue215
 t228 := Tryz.underlying233
 a228 := Tryz.isAgg233
 z228 := Tryz.sizeOf233
 v228 := Tryz.zeroValue233
 t229 := Tryz.underlying234
 a229 := Tryz.isAgg234
 z229 := Tryz.sizeOf234
 v229 := Tryz.zeroValue234 }
def Tryz.lays194_ren : Go.Shelf.Ren := ⟨fun | 194 => 122 | n => n, fun | 31 => 26 | 9 => 9 | 3 => 3 | 4 => 4 | 0 => 0 | n => n, fun | n => n⟩
theorem Tryz.lays194 : Go.Proofs.Lays.n194 Tryz.prog Tryz.lays194_ren := {
 mixed := by kernel_rfl
 f194 := Tryz.func122.trans (congrArg some (by kernel_rfl))
 t0 := Tryz.underlying0
 a0 := Tryz.isAgg0
 z0 := Tryz.sizeOf0
 v0 := Tryz.zeroValue0
 t3 := Tryz.underlying3
 a3 := Tryz.isAgg3
 z3 := Tryz.sizeOf3
 v3 := Tryz.zeroValue3
 t4 := Tryz.underlying4
 a4 := Tryz.isAgg4
 z4 := Tryz.sizeOf4
 v4 := Tryz.zeroValue4
 t9 := Tryz.underlying9
 a9 := Tryz.isAgg9
 z9 := Tryz.sizeOf9
 v9 := Tryz.zeroValue9
 t31 := Tryz.underlying26
 a31 := Tryz.isAgg26
 z31 := Tryz.sizeOf26
 v31 := Tryz.zeroValue26 }
def Tryz.lays171_ren : Go.Shelf.Ren := ⟨fun | 171 => 50 | 243 => 96 | 246 => 125 | 283 => 169 | 284 => 170 | 285 => 171 | 286 => 172 | 129 => 135 | 317 => 198 | 318 => 199 | 319 => 200 | 320 => 201 | 337 => 220 | 338 => 221 | n => n, fun | 3 => 3 | 9 => 9 | 2 => 2 | 4 => 4 | 171 => 206 | 0 => 0 | 53 => 182 | 37 => 208 | 5 => 5 | 173 => 209 | 212 => 231 | 51 => 180 | 20 => 20 | 213 => 232 | 46 => 150 | 232 => 254 | 233 => 255 | n => n, fun | 17 => 1 | 18 => 4 | 19 => 5 | n => n⟩
theorem Tryz.lays171 : Go.Proofs.Lays.n171 Tryz.prog Tryz.lays171_ren := {
 mixed := by kernel_rfl
 f129 := Tryz.func135.trans (congrArg some (by kernel_rfl))
 f171 := Tryz.func50.trans (congrArg some (by kernel_rfl))
 f243 := Tryz.func96.trans (congrArg some (by kernel_rfl))
 f246 := Tryz.func125.trans (congrArg some (by kernel_rfl))
 f283 := Tryz.func169.trans (congrArg some (by kernel_rfl))
 f284 := Tryz.func170.trans (congrArg some (by kernel_rfl))
 f285 := Tryz.func171.trans (congrArg some (by kernel_rfl))
 f286 := Tryz.func172.trans (congrArg some (by kernel_rfl))
 f317 := Tryz.func198.trans (congrArg some (by kernel_rfl))
 f318 := Tryz.func199.trans (congrArg some (by kernel_rfl))
 f319 := Tryz.func200.trans (congrArg some (by kernel_rfl))
 f320 := Tryz.func201.trans (congrArg some (by kernel_rfl))
 f337 := Tryz.func220.trans (congrArg some (by kernel_rfl))
 f338 := Tryz.func221.trans (congrArg some (by kernel_rfl))
 t0 := Tryz.underlying0
 a0 := Tryz.isAgg0
 z0 := Tryz.sizeOf0
 v0 := Tryz.zeroValue0
 t2 := Tryz.underlying2
 a2 := Tryz.isAgg2
 z2 := Tryz.sizeOf2
 v2 := Tryz.zeroValue2
 t3 := Tryz.underlying3
 a3 := Tryz.isAgg3
 z3 := Tryz.sizeOf3
 v3 := Tryz.zeroValue3
 t4 := Tryz.underlying4
 a4 := Tryz.isAgg4
 z4 := Tryz.sizeOf4
 v4 := Tryz.zeroValue4
 t5 := Tryz.underlying5
 a5 := Tryz.isAgg5
 z5 := Tryz.sizeOf5
 v5 := Tryz.zeroValue5
 t9 := Tryz.underlying9
 a9 := Tryz.isAgg9
 z9 := Tryz.sizeOf9
 v9 := Tryz.zeroValue9
 t20 := Tryz.underlying20
 a20 := Tryz.isAgg20
 z20 := Tryz.sizeOf20
 v20 := Tryz.zeroValue20
 t37 := Tryz.underlying208
 a37 := Tryz.isAgg208
 z37 := Tryz.sizeOf208
 v37 := Tryz.zeroValue208
 t46 := Tryz.underlying150
 a46 := Tryz.isAgg150
 z46 := Tryz.sizeOf150
 v46 := Tryz.zeroValue150
 t51 := Tryz.underlying180
 a51 := Tryz.isAgg180
 z51 := Tryz.sizeOf180
 v51 := Tryz.zeroValue180
 t53 := Tryz.underlying182
 a53 := Tryz.isAgg182
 z53 := Tryz.sizeOf182
 v53 := Tryz.zeroValue182
 t171 := Tryz.underlying206
 a171 := Tryz.isAgg206
 z171 := Tryz.sizeOf206
 v171 := Tryz.zeroValue206
 t173 := Tryz.underlying209
 a173 := Tryz.isAgg209
 z173 := Tryz.sizeOf209
 v173 := Tryz.zeroValue209
 t212 := Tryz.underlying231
 a212 := Tryz.isAgg231
 z212 := Tryz.sizeOf231
 v212 := Tryz.zeroValue231
 t213 := Tryz.underlying232
 a213 := Tryz.isAgg232
 z213 := Tryz.sizeOf232
 t232 := Tryz.underlying254
 a232 := Tryz.isAgg254
 z232 := Tryz.sizeOf254
 v232 := Tryz.zeroValue254
 t233 := Tryz.underlying255
 a233 := Tryz.isAgg255
 z233 := Tryz.sizeOf255
 v233 := Tryz.zeroValue255
 g17 := by kernel_rfl
 g18 := by kernel_rfl
 g19 := by kernel_rfl }
end Go.Proofs
end
section
namespace Go.HL
variable {P : Program}
open Go.Sort Go.Proofs
theorem arr_some [Tracks] {I : Imm} {F : List MObj} {w : World} {b off n cap sz : Nat} {es : List HVal} (h : Sat P I (.arr (.slice (some ⟨b, off, none⟩) n cap) sz es :: F) w) :
 n = es.length ∧ ∃ rc el fr, w.heap[b]? = some (.cells rc el fr) ∧ Free fr rc.size ∧ (∀ e ∈ es, (hcells e).length = sz) ∧ (es.length ≤ cap ∧ cap ≤ 9223372036854775807) ∧ off + cap * sz ≤ rc.size ∧
  (∀ (i j : Nat) (e c : HVal) (v : Value), es[i]? = some e → (hcells e)[j]? = some c → rc[off + i * sz + j]? = some v → V I c v) := by
 rcases h.obj _ List.mem_cons_self with ⟨h0, _⟩ | ⟨b', off', cap', rc, el, fr, h1, h2, h3, h4, h5, h6, h7⟩
 ·cases h0
 ·cases h1
  exact ⟨rfl, rc, el, fr, h2, h3, h4, h5, h6, h7⟩
theorem holds_row [Tracks] {I : Imm} {F : List MObj} {w : World} {b off n cap : Nat} {l : List (List UInt8)} (h : Sat P I (.arr (.slice (some ⟨b, off, none⟩) n cap) 1 (l.map .str) :: F) w) :
 Holds encStr w b off l.toArray ∧ b < w.heap.size ∧ l.length ≤ cap ∧ n = l.length := by
 obtain ⟨h0, rc, el, fr, h2, h3, h4, h5, h6, h7⟩ := arr_some h
 simp only [List.length_map] at h0 h5
 refine ⟨fun j hj => ?_, ?_, h5.1, h0⟩
 ·have hj' : j < l.length := by simpa using hj
  have hlt : off + j < rc.size := by omega
  constructor
  ·rw [cell_of h2, Array.getElem?_eq_getElem hlt]
   have hv := h7 j 0 (.str l[j]) (.str l[j]) rc[off + j] (by simp [hj']) (by simp [hcells]) (by simp [Array.getElem?_eq_getElem hlt])
   rw [hv.str_inv]
   simp [hj', encStr]
  ·simp only [World.frozen?, h2]
   have := h3 (off + j) hlt
   simpa using this
 ·rcases Nat.lt_or_ge b w.heap.size with h' | h'
  ·exact h'
  ·simp [Array.getElem?_eq_none h'] at h2
theorem sat_row [Tracks] {I : Imm} {F : List MObj} {w : World} {b off n cap n' k : Nat} {os : Array Obj} {l zs : List (List UInt8)} (h : Sat P I (.arr (.slice (some ⟨b, off, none⟩) n cap) 1 (l.map .str) :: F) w) (hz : zs.length = l.length) (hn : n' ≤ l.length) :
 Sat P I (.arr (.slice (some ⟨b, off, none⟩) n' cap) 1 ((zs.take n').map .str) :: F) (grow (putRow encStr (Sort.ahead w k) b off zs.toArray) os) := by
 obtain ⟨h0, rc, el, fr, h2, h3, h4, h5, h6, h7⟩ := arr_some h
 simp only [List.length_map] at h0 h5
 have hlt : b < w.heap.size := by
  rcases Nat.lt_or_ge b w.heap.size with h' | h'
  ·exact h'
  ·simp [Array.getElem?_eq_none h'] at h2
 have hheap : ∀ c, c < w.heap.size → (grow (putRow encStr (Sort.ahead w k) b off zs.toArray) os).heap[c]? = (w.heap.modify b (onCells (putCells encStr off zs.toArray)))[c]? := fun c hc => by
  simp only [grow, putRow, mapBlock, Sort.ahead]
  rw [Array.getElem?_append_left (by simpa using hc)]
 refine h.change (m' := .arr (.slice (some ⟨b, off, none⟩) n' cap) 1 ((zs.take n').map .str)) (fun c hc hnc => ?_) (fun c hc => .inl hc) (by simp [MObj.blocks]) ?_ rfl rfl rfl
 ·rw [hheap c hc, Array.getElem?_modify]
  have : b ≠ c := fun hh => hnc (by subst hh; simp [MObj.blocks])
  rw [if_neg this]
 ·refine .inr ⟨b, off, cap, putCells encStr off zs.toArray rc, el, fr, ?_, ?_, ?_, ?_, ?_, ?_, ?_⟩
  ·simp [hz, Nat.min_eq_left hn]
  ·rw [hheap b hlt, Array.getElem?_modify, if_pos rfl, h2]; rfl
  ·simpa [putCells] using h3
  ·intro e he; obtain ⟨a, _, rfl⟩ := List.mem_map.1 he; simp [hcells]
  ·simp; omega
  ·simpa [putCells] using h6
  ·intro i j e c v a1 a2 a3
   have hi : i < n' := by
    have := lt_of_get a1; simp at this; omega
   rw [List.getElem?_map, List.getElem?_take_of_lt hi] at a1
   cases hq : zs[i]? with
   | none => rw [hq] at a1; simp at a1
   | some s =>
     rw [hq] at a1; simp at a1; subst a1
     have hj : j = 0 := by have := lt_of_get a2; simp [hcells] at this; omega
     subst hj
     simp [hcells] at a2; subst a2
     have hil : i < zs.length := lt_of_get hq
     have hr : off + i * 1 + 0 < rc.size := by omega
     rw [putCells, Array.getElem?_mapIdx, Array.getElem?_eq_getElem hr, Option.map_some, if_pos ⟨by omega, by simp; omega⟩] at a3
     have e1 : off + i * 1 + 0 - off = i := by omega
     rw [e1] at a3
     have e2 : zs.toArray[i]! = s := by
      rw [getElem!_pos zs.toArray i (by simpa using hil)]
      have := List.getElem?_eq_getElem hil
      rw [hq] at this; simpa using (Option.some.inj this).symm
     rw [e2] at a3
     cases a3
     exact .str s

theorem VL.one {I : Imm} {h : HVal} {args : List Value} (hv : VL I [h] args) : ∃ v, args = [v] ∧ V I h v := by
 obtain ⟨h1, h2⟩ := hv
 match args, h1 with
 | [v], _ => exact ⟨v, rfl, h2 0 h v rfl rfl⟩

def sortS (l : List (List UInt8)) : List (List UInt8) := l.mergeSort fun x y => decide (x ≤ y)
theorem sortS_len (l : List (List UInt8)) : (sortS l).length = l.length := by simp [sortS]

/-- A function that works on a slice of strings in place and hands on nothing. -/
theorem con_row [Tracks] {P : Program} {f : FuncId} {l zs : List (List UInt8)} {v : Value} (hz : zs.length = l.length)
 (h1 : ∀ (b off cap : Nat) (w : World), Holds encStr w b off l.toArray → b < w.heap.size → l.length ≤ cap → Calls P f #[.slice (some ⟨b, off, none⟩) l.length cap] w fun e w' => e = .returned (.tuple #[]) ∧ ∃ n os, w' = grow (putRow encStr (Sort.ahead w n) b off zs.toArray) os)
 (h0 : l = [] → ConP P f [.slice 1 []] (.tup [])) : Con P f [.raw v] [.arr v 1 (l.map .str)] fun x M' => x = .tup [] ∧ M' = [.arr v 1 (zs.map .str)] := by
 intro I F w args ha hs
 obtain ⟨u, rfl, hu⟩ := ha.one
 obtain rfl : u = v := hu.raw_inv
 rcases hs.obj (.arr u 1 (l.map .str)) (by simp) with ⟨rfl, hn⟩ | ⟨b, off, cap, rc, el, fr, rfl, _⟩
 ·have hl : l = [] := by simpa using hn
  subst hl
  have hz0 : zs = [] := List.length_eq_zero_iff.1 hz
  subst hz0
  refine (h0 rfl I (.arr (.slice none 0 0) 1 [] :: F) w [.slice none 0 0] (VL.cons (.slice0 _ _ _) VL.nil) (by simpa using hs)).mono ?_
  rintro _ w' ⟨v, h, M', J, rfl, hle, ⟨rfl, rfl⟩, hv, hsat⟩
  exact ⟨v, _, [.arr (.slice none 0 0) 1 []], J, rfl, hle, ⟨rfl, rfl⟩, hv, by simpa using hsat⟩
 ·rw [List.length_map] at hs ⊢
  obtain ⟨g1, g2, g3, g4⟩ := holds_row hs
  refine (h1 b off cap w g1 g2 g3).mono ?_
  rintro _ w' ⟨rfl, n, os, rfl⟩
  refine ⟨_, .tup [], _, I, rfl, .refl I, ⟨rfl, rfl⟩, .tup (by simp) (fun j c v h _ => by simp at h), ?_⟩
  have := sat_row (n' := l.length) (k := n) (os := os) hs hz (Nat.le_refl _)
  rw [← hz, List.take_length, hz] at this
  exact this
/-- The same, where the slice comes back, cut. -/
theorem con_rowc [Tracks] {P : Program} {f : FuncId} {l zs : List (List UInt8)} {v : Value} (hz : zs.length ≤ l.length)
 (h1 : ∀ (b off cap : Nat) (w : World), Holds encStr w b off l.toArray → b < w.heap.size → l.length ≤ cap → Calls P f #[.slice (some ⟨b, off, none⟩) l.length cap] w fun e w' => e = .returned (.slice (some ⟨b, off, none⟩) zs.length cap) ∧ ∃ n, w' = putRow encStr (Sort.ahead w n) b off (zs ++ List.replicate (l.length - zs.length) []).toArray)
 (h0 : l = [] → ∀ w, Calls P f #[.slice none 0 0] w fun e w' => e = .returned (.slice none 0 0) ∧ w' = w) : Con P f [.raw v] [.arr v 1 (l.map .str)] fun x M' => ∃ u, x = .raw u ∧ M' = [.arr u 1 (zs.map .str)] := by
 intro I F w args ha hs
 obtain ⟨u, rfl, hu⟩ := ha.one
 obtain rfl : u = v := hu.raw_inv
 rcases hs.obj (.arr u 1 (l.map .str)) (by simp) with ⟨rfl, hn⟩ | ⟨b, off, cap, rc, el, fr, rfl, _⟩
 ·have hl : l = [] := by simpa using hn
  subst hl
  have hz0 : zs = [] := List.length_eq_zero_iff.1 (by simpa using hz)
  subst hz0
  refine (h0 rfl w).mono ?_
  rintro _ w' ⟨rfl, rfl⟩
  exact ⟨_, .raw (.slice none 0 0), _, I, rfl, .refl I, ⟨_, rfl, rfl⟩, .raw _ rfl, hs⟩
 ·rw [List.length_map] at hs ⊢
  obtain ⟨g1, g2, g3, g4⟩ := holds_row hs
  refine (h1 b off cap w g1 g2 g3).mono ?_
  rintro _ w' ⟨rfl, n, rfl⟩
  refine ⟨_, .raw (.slice (some ⟨b, off, none⟩) zs.length cap), _, I, rfl, .refl I, ⟨_, rfl, rfl⟩, .raw _ rfl, ?_⟩
  have := sat_row (zs := zs ++ List.replicate (l.length - zs.length) []) (n' := zs.length) (k := n) (os := #[]) hs (by simp; omega) hz
  rw [List.take_left' rfl, grow_empty] at this
  exact this
end Go.HL
end
section
namespace Go.HL
theorem compactUpTo_le {α : Type} [BEq α] [LawfulBEq α] [Inhabited α] [DecidableEq α] (d : Array α) (m : Nat) : (Lib.compactUpTo d m).length ≤ m := by
 unfold Lib.compactUpTo
 rw [List.length_map]
 have := List.length_filter_le (Lib.keeps d) (List.range m)
 simpa using this
theorem compact_le (l : List Str) : (Lib.compact l).length ≤ l.length := compactUpTo_le _ _
end Go.HL
end
section
namespace Go.Proofs.YtfkobanmdpbjkaaGreatDoor
open Go.HL
set_option maxRecDepth 100000
set_option linter.unusedVariables false
set_option linter.unusedSimpArgs false
/-- math/bits.Len64 -/
theorem c_math_bits_Len64 [Tracks]   : ConP Tryz.prog 135 [.int .u64 0] (.int .i64 0) := by
 refine Con.of_body Tryz.func135 rfl Tryz.ntmps135 rfl rfl ?_
 refine hw_reg ?_
 refine dp rfl (pop_assign rfl) ?_
 refine dn ?_
 refine hw_seq ?_
 refine hw_reg ?_
 refine dp rfl (pop_move rfl) ?_
 refine dp rfl (pop_geq rfl rfl) ?_
 refine dn ?_
 refine hw_cond_f rfl ?_
 refine hw_skip ?_
 refine seqQ_n ?_
 refine hw_seq ?_
 refine hw_reg ?_
 refine dp rfl (pop_move rfl) ?_
 refine dp rfl (pop_geq rfl rfl) ?_
 refine dn ?_
 refine hw_cond_f rfl ?_
 refine hw_skip ?_
 refine seqQ_n ?_
 refine hw_seq ?_
 refine hw_reg ?_
 refine dp rfl (pop_move rfl) ?_
 refine dp rfl (pop_geq rfl rfl) ?_
 refine dn ?_
 refine hw_cond_f rfl ?_
 refine hw_skip ?_
 refine seqQ_n ?_
 refine hw_reg ?_
 refine dp rfl (pop_move rfl) ?_
 refine dp rfl (pop_move rfl) ?_
 refine dp rfl (pop_conv ty182 ty5 rfl) ?_
 refine dp rfl (pop_indexs (j := 0) (b := 0) ty9 rfl rfl rfl rfl) ?_
 refine dp rfl (pop_conv ty5 ty3 rfl) ?_
 refine dp rfl (pop_add64 rfl rfl (by decide) (by decide)) ?_
 refine dp rfl (pop_assign rfl) ?_
 refine dn ?_
 refine hw_ret ?_
 refine ret_p rfl ?_
 rfl

/-- math/bits.Len -/
theorem c_math_bits_Len [Tracks]   : ConP Tryz.prog 98 [.int .u64 0] (.int .i64 0) := by
 refine Con.of_body Tryz.func98 rfl Tryz.ntmps98 rfl rfl ?_
 refine hw_reg ?_
 refine dp rfl (pop_assign rfl) ?_
 refine dn ?_
 refine hw_seq ?_
 refine hw_cond_f rfl ?_
 refine hw_skip ?_
 refine seqQ_n ?_
 refine hw_reg ?_
 refine dp rfl (pop_move rfl) ?_
 refine dp rfl (pop_call ca135 rfl (WeakL.refl _) c_math_bits_Len64) ?_
 refine dp rfl (pop_assign rfl) ?_
 refine dn ?_
 refine hw_ret ?_
 refine ret_p rfl ?_
 rfl

/-- slices.insertionSortOrdered[string] -/
theorem c_slices_insertionSortOrdered_string [Tracks]   : ConP Tryz.prog 190 [eSs [], .int .i64 0, .int .i64 0] (.tup []) := by
 refine Con.of_body Tryz.func190 rfl Tryz.ntmps190 rfl rfl ?_
 refine hw_reg ?_
 refine dp rfl (pop_move rfl) ?_
 refine dp rfl (pop_add64 rfl rfl (by omega) (by omega)) ?_
 refine dp rfl (pop_assign rfl) ?_
 refine dn ?_
 refine hw_block ?_
 refine hw_loopw [6, 7, 10, 11, 12, 13, 14, 15, 16, 17, 18, 19, 20, 21, 22, 23, 24, 25, 26, 27, 28, 29, 30, 31, 32, 33, 34, 35, 36, 37, 38, 39, 40, 41, 42, 43, 44, 45, 46, 47, 48] (fun (u : Unit) => [(6, .int .i64 1)]) (fun (u : Unit) => []) (fun (u : Unit) => True) (fun (u : Unit) => 0) (()) ?_ ?_ ?_ ?_
 ·trivial
 ·exact ⟨rfl, trivial⟩
 ·exact List.Perm.refl _
 ·intro u hu
  refine hw_seq ?_
  refine hw_reg ?_
  refine dp rfl (pop_move rfl) ?_
  refine dp rfl (pop_move rfl) ?_
  refine dp rfl (pop_lss rfl rfl) ?_
  refine dn ?_
  refine hw_cond_f rfl ?_
  refine hw_exit ?_
  refine seqQ_x ?_
  refine loopQ_x ?_
  refine blockQ_eq ?_
  refine ret_n rfl ?_
  rfl

/-- slices.pdqsortOrdered[string] -/
theorem c_slices_pdqsortOrdered_string [Tracks]   : ConP Tryz.prog 168 [eSs [], .int .i64 0, .int .i64 0, .int .i64 0] (.tup []) := by
 refine Con.of_body Tryz.func168 rfl Tryz.ntmps168 rfl rfl ?_
 refine hw_reg ?_
 refine dp rfl (pop_assign rfl) ?_
 refine dn ?_
 refine hw_reg ?_
 refine dp rfl (pop_assign rfl) ?_
 refine dn ?_
 refine hw_block ?_
 refine hw_loopw (1 :: 2 :: 3 :: 8 :: 9 :: 10 :: 11 :: 12 :: 13 :: 14 :: 15 :: 16 :: 17 :: 18 :: 19 :: 20 :: 21 :: 22 :: 23 :: 24 :: 25 :: 26 :: 27 :: 28 :: 29 :: 30 :: 31 :: 32 :: 33 :: 34 :: 35 :: 36 :: 37 :: 38 :: 39 :: 40 :: 41 :: 42 :: 43 :: 44 :: 45 :: 46 :: 47 :: 48 :: 49 :: 50 :: 51 :: 52 :: 53 :: 54 :: 55 :: 56 :: 57 :: 58 :: 59 :: 60 :: 61 :: 62 :: 63 :: 64 :: 65 :: 66 :: 67 :: 68 :: 69 :: 70 :: 71 :: 72 :: 73 :: 74 :: 75 :: 76 :: 77 :: 78 :: 79 :: 80 :: 81 :: 82 :: 83 :: 84 :: 85 :: 86 :: 87 :: 88 :: 89 :: 90 :: 91 :: 92 :: 93 :: 94 :: 95 :: 96 :: 97 :: 98 :: 99 :: 100 :: 101 :: 102 :: 103 :: 104 :: 105 :: 106 :: 107 :: 108 :: 109 :: 110 :: 111 :: 112 :: 113 :: 114 :: 115 :: 116 :: 117 :: 118 :: 119 :: 120 :: 121 :: 122 :: 123 :: 124 :: 125 :: 126 :: 127 :: 128 :: 129 :: 130 :: 131 :: 132 :: 133 :: []) (fun (u : Unit) => [(1, .int .i64 0), (2, .int .i64 0)]) (fun (u : Unit) => []) (fun (u : Unit) => True) (fun (u : Unit) => 0) (()) ?_ ?_ ?_ ?_
 ·trivial
 ·exact ⟨rfl, rfl, trivial⟩
 ·exact List.Perm.refl _
 ·intro u hu
  refine hw_block ?_
  refine hw_reg ?_
  refine dp rfl (pop_move rfl) ?_
  refine dp rfl (pop_move rfl) ?_
  refine dp rfl (pop_sub64 rfl rfl (by omega) (by omega)) ?_
  refine dp rfl (pop_assign rfl) ?_
  refine dn ?_
  refine hw_seq ?_
  refine hw_reg ?_
  refine dp rfl (pop_move rfl) ?_
  refine dp rfl (pop_leq rfl rfl) ?_
  refine dn ?_
  refine hw_cond_t rfl ?_
  refine hw_reg ?_
  refine dp rfl (pop_move rfl) ?_
  refine dp rfl (pop_move rfl) ?_
  refine dp rfl (pop_move rfl) ?_
  refine dp rfl (pop_call ca190 rfl (WeakL.refl _) c_slices_insertionSortOrdered_string) ?_
  refine dn ?_
  refine hw_ret ?_
  refine ret_p rfl ?_
  rfl

/-- slices.Sort[[]string,string] -/
theorem c_slices_Sort_nil [Tracks]   : ConP Tryz.prog 121 [eSs []] (.tup []) := by
 refine Con.of_body Tryz.func121 rfl Tryz.ntmps121 rfl rfl ?_
 refine hw_reg ?_
 refine dp rfl (pop_move rfl) ?_
 refine dp rfl (pop_lenm ty26 rfl) ?_
 refine dp rfl (pop_assign rfl) ?_
 refine dn ?_
 refine hw_reg1 ?_
 refine dp rfl (pop_move rfl) ?_
 refine dp rfl (pop_move rfl) ?_
 refine dp rfl (pop_move rfl) ?_
 refine dp rfl (pop_conv ty3 ty150 rfl) ?_
 refine dp rfl (pop_call ca98 rfl (WeakL.refl _) c_math_bits_Len) ?_
 refine dp rfl (pop_call ca168 rfl (WeakL.refl _) c_slices_pdqsortOrdered_string) ?_
 refine dn ?_
 refine ret_n rfl ?_
 rfl

/-- slices.Sort: the slice holds the same strings in order -/
theorem c_slices_Sort [Tracks] {l : List Str} {v : Value} (hl : l.length ≤ 1000000) : Con Tryz.prog 121 [.raw v] [.arr v 1 (l.map .str)] fun x M' => x = .tup [] ∧ M' = [.arr v 1 ((sortS l).map .str)] :=
 con_row (sortS_len l) (fun b off cap w h1 h2 _ => Any.slices_Sort_string Tryz.lays190 b off cap l w h1 h2 (by omega)) (fun _ => c_slices_Sort_nil)

/-- slices.Compact: the slice is cut to the strings that differ from the one before -/
theorem c_slices_Compact [Tracks] {l : List Str} {v : Value} (hl : l.length ≤ 1000000) : Con Tryz.prog 122 [.raw v] [.arr v 1 (l.map .str)] fun x M' => ∃ u, x = .raw u ∧ M' = [.arr u 1 ((Lib.compact l).map .str)] :=
 con_rowc (compact_le l) (fun b off cap w h1 h2 h3 => Any.slices_Compact_string Tryz.lays194 b off cap l w h1 (by omega) h3) (fun _ w => Any.slices_Compact_string_empty Tryz.lays194 none 0 w)

/-- benchwarmer/benchref1.once -/
theorem c_benchref1_once [Tracks] {l : List Str} (hl : l.length ≤ 1000000) : ConA Tryz.prog 110 [eSs l] 1 ((Lib.compact (sortS l)).map .str) := by
 refine Con.of_body Tryz.func110 rfl Tryz.ntmps110 rfl rfl ?_
 refine hw_reg ?_
 refine dp rfl (pop_assign rfl) ?_
 refine dn ?_
 refine hw_reg ?_
 refine dp rfl (pop_move rfl) ?_
 refine de rfl (eop_calla ca48 rfl (WeakL.refl _) (c_slices_Clone_string_string (by assumption)) fun v4 => ?_)
 refine dp rfl (pop_assign rfl) ?_
 refine dn ?_
 refine hw_reg ?_
 refine dp rfl (pop_move rfl) ?_
 refine de rfl (eop_callf (M1 := [_]) (R := []) ca121 rfl (WeakL.refl _) (List.Perm.refl _) (c_slices_Sort hl) ?_)
 rintro _ _ ⟨rfl, rfl⟩
 refine dn ?_
 refine hw_reg ?_
 refine dp rfl (pop_move rfl) ?_
 refine de rfl (eop_callf (M1 := [_]) (R := []) ca122 rfl (WeakL.refl _) (List.Perm.refl _) (c_slices_Compact (l := sortS l) (by rw [sortS_len]; exact hl)) ?_)
 rintro _ _ ⟨u8, rfl, rfl⟩
 refine dp rfl (pop_assign rfl) ?_
 refine dn ?_
 refine hw_ret ?_
 refine ret_a rfl ?_
 rfl
end Go.Proofs.YtfkobanmdpbjkaaGreatDoor
end
section
namespace Go.HL
open Op (bytesLess)
theorem cmpI_flip (a b : Int) : cmpI a b = -cmpI b a := by
 unfold cmpI; split <;> split <;> (try split) <;> omega
theorem cmpS_flip (a b : Str) : cmpS a b = -cmpS b a := by
 rw [cmpS_eq, cmpS_eq]
 rcases less_total a b with h | h | h
 ·have hne : a ≠ b := fun e => by subst e; rw [less_irrefl] at h; cases h
  simp [h, less_asymm h, hne.symm]
 ·subst h; simp [less_irrefl]
 ·have hne : a ≠ b := fun e => by subst e; rw [less_irrefl] at h; cases h
  simp [h, less_asymm h, hne]
end Go.HL
end
section
namespace Go.HL
variable {P : Program}
section
variable {P : Program} {e : Env} {dst : Option Tmp} {ty : TypeId} {pos : String} {af : Array Edge} {g : Option (Nat × Bool)} {M : List MObj} {K : HVal → List MObj → Prop}
theorem perm_erase {α : Type} : ∀ {l : List α} {i : Nat} {x : α}, l[i]? = some x → l.Perm (x :: l.eraseIdx i)
 | [], i, x, h => by simp at h
 | y :: l, 0, x, h => by simp at h; subst h; exact .refl _
 | y :: l, i + 1, x, h => by
   have := perm_erase (l := l) (i := i) (x := x) (by simpa using h)
   exact (this.cons y).trans (.swap _ _ _)
/-- A call on one of the owned objects. -/
theorem eop_callx [Tracks] {f : FuncId} {args : Array Operand} {ats : Array TypeId} {hs hs' : List HVal} {i : Nat} {m : MObj} {Q : HVal → List MObj → Prop} (hc : Callable P f) (ha : evalL e args.toList = some hs) (hw : WeakL hs hs') (hm : M[i]? = some m)
 (hp : Con P f hs' [m] Q) (hk : ∀ h M', Q h M' → K h (M' ++ M.eraseIdx i)) : EOp P e M ⟨dst, .call ⟨.value (.func f), args, ats⟩, ty, pos, af, g⟩ K :=
 eop_callf (M1 := [m]) hc ha hw (perm_erase hm) hp hk
/-- The length of an owned slice. -/
theorem eop_lenm [Tracks] {α : Type} {f : α → HVal} {x : Operand} {t el : TypeId} {size bytes : Nat} {zero : Value} {i : Nat} {v : Value} {sz : Nat} {es : List α} (hf : Fits P t (.slice el) size bytes zero) (hx : evalO e x = some (.raw v))
 (hm : M[i]? = some (.arr v sz (es.map f))) (hk : K (.int .i64 es.length) M) : EOp P e M ⟨dst, .call ⟨.builtin .len, #[x], #[t]⟩, ty, pos, af, g⟩ K := by
 refine eop_len hf hx hm ?_
 rw [List.length_map]; exact hk
/-- An element of an owned slice is loaded, whole or in part, through its address. -/
theorem eop_load_el [Tracks] {α : Type} {f : α → HVal} {x : Operand} {t : TypeId} {d : TD} {size bytes : Nat} {zero : Value} {i b off cap n sz j o : Nat} {es : List α} {y : α} (k : Nat) {h : HVal} (hf : Fits P t d size bytes zero)
 (hx : evalO e x = some (.raw (.pointer (some ⟨b, o, none⟩)))) (ho' : o = off + j * sz + k) (hm : M[i]? = some (.arr (.slice (some ⟨b, off, none⟩) n cap) sz (es.map f))) (hj : es[j]? = some y)
 (hd : d.isAgg = false) (hh : (hcells (f y))[k]? = some h) (hk : K h M) : EOp P e M ⟨dst, .load t x, ty, pos, af, g⟩ K :=
 eop_load_arr (j := j) (f := k) (y := f y) hf hx ho' hm (by rw [List.getElem?_map, hj]; rfl) (.inl ⟨hd, hh⟩) hk
end
section
variable {P : Program} {ops : Array Oper} {n : Nat} {K : Env → List MObj → Prop} {rest : List Oper} {e : Env} {M : List MObj} {d : Nat} {op : Op} {ty : TypeId} {pos : String} {af : Array Edge}
/-- An operation with an effect under a guard: what it brings about holds where it is not carried out as well. -/
theorem dgx [Tracks] {j : Nat} {want c : Bool} (Q : HVal → List MObj → Prop) (hd : Nat.blt d n = true) (hg : guardC ops e j want = some c) (hn : c = false → ∃ x, Q x M)
 (hp : c = true → ∃ e2, OpenTo e e2 ∧ EOp P e2 M ⟨some d, op, ty, pos, af, some (j, want)⟩ Q)
 (k : ∀ x M', Q x M' → Der P ops n K rest (upd e d (.opt c x)) M') : Der P ops n K (⟨some d, op, ty, pos, af, some (j, want)⟩ :: rest) e M :=
 ⟨fun t ht => by simp at ht; subst ht; exact blt_lt hd, c, hg, fun hc => by
  obtain ⟨e2, h1, h2⟩ := hp hc
  intro I F a w ho hs
  exact Oper.wp_noQ (fun _ _ ⟨v, x, M', J, h3, h4, h5, h7, h8⟩ => ⟨v, .opt c x, M', J, h3, h4, k x M' h5, .opt (fun _ => h7) (fun hf => by rw [hc] at hf; cases hf), h8⟩) (h2 I F a w (ho.open h1) hs),
  fun hc => by
   obtain ⟨x, hx⟩ := hn hc
   subst hc
   exact ⟨x, k x M hx⟩⟩
end
section
variable {P : Program} {e : Env} {dst : Option Tmp} {ty : TypeId} {pos : String} {af : Array Edge} {g : Option (Nat × Bool)}
end
end Go.HL
end
section
namespace Go.HL
abbrev pAt (b : Nat) : HVal := .raw (.pointer (some ⟨b, 0, none⟩))
/-- A stream of numbers of which a have been drawn. -/
abbrev St (b : Nat) (l : List Int) (a : Nat) : MObj := .cells b [.slice 1 (l.map (.int .i64)), .int .i64 (a : Int)]
def below (x n : Int) : Int := if n < 1 then 0 else if x.tmod n < 0 then x.tmod n + n else x.tmod n
theorem below_nat (x n : Int) : ∃ y : Nat, below x n = (y : Int) ∧ (y : Int) < max n 1 := by
 have h : 0 ≤ below x n ∧ below x n < max n 1 := by
  unfold below
  split
  ·omega
  ·have h1 := Int.tmod_lt_of_pos x (show 0 < n by omega)
   have h2 : -n < x.tmod n := by
    have := Int.neg_lt_tmod_of_pos' x n (by omega)
    exact this
   split <;> omega
 exact ⟨(below x n).toNat, by omega, by omega⟩
where
 Int.neg_lt_tmod_of_pos' (x n : Int) (h : 0 < n) : -n < x.tmod n := by
  rcases Int.le_total 0 x with hx | hx
  ·have := Int.tmod_nonneg n hx; omega
  ·have e : x.tmod n = -((-x).tmod n) := by rw [Int.neg_tmod]; simp
   have := Int.tmod_lt_of_pos (-x) h
   omega
theorem getI {L : List Int} {y : Nat} (h : (y : Int) < max (L.length : Int) 1) (h0 : 0 < L.length) : ∃ z, L[y]? = some z ∧ z ∈ L :=
 ⟨L[y]'(by omega), List.getElem?_eq_getElem _, List.getElem_mem _⟩
theorem getS {L : List Str} {y : Nat} (h : (y : Int) < max (L.length : Int) 1) (h0 : 0 < L.length) : ∃ z, L[y]? = some z ∧ z ∈ L :=
 ⟨L[y]'(by omega), List.getElem?_eq_getElem _, List.getElem_mem _⟩
theorem tmod_nat (a b : Nat) : ((a : Int)).tmod (b : Int) = ((a % b : Nat) : Int) := by
 exact (Int.ofNat_tmod a b).symm
end Go.HL
end
section
namespace Go.Proofs.YtfkobanmdpbjkaaGreatDoor
open Go.HL
set_option maxRecDepth 100000
set_option linter.unusedVariables false
set_option linter.unusedSimpArgs false
/-- benchwarmer/benchmake.Below -/
theorem c_benchmake_Below [Tracks] {x n : Int} (hn : n ≤ 4000000000) : ConP Tryz.prog 89 [.int .i64 x, .int .i64 n] (.int .i64 (below x n)) := by
 refine Con.of_body Tryz.func89 rfl Tryz.ntmps89 rfl rfl ?_
 refine hw_reg ?_
 refine dp rfl (pop_assign rfl) ?_
 refine dn ?_
 refine hw_seq ?_
 refine hw_reg ?_
 refine dp rfl (pop_move rfl) ?_
 refine dp rfl (pop_lss rfl rfl) ?_
 refine dn ?_
 refine hw_cond rfl (fun h1 => ?_) (fun h2 => ?_)
 ·try simp at h1
  refine hw_reg ?_
  refine dp rfl (pop_assign rfl) ?_
  refine dn ?_
  refine hw_ret ?_
  refine ret_p rfl ?_
  show HVal.int .i64 _ = _
  simp_all [below]
  try omega
 ·try simp at h2
  refine hw_skip ?_
  refine seqQ_n ?_
  refine hw_reg ?_
  refine dp rfl (pop_move rfl) ?_
  refine dp rfl (pop_move rfl) ?_
  refine dp rfl (pop_rem rfl rfl (by omega)) ?_
  refine dp rfl (pop_assign rfl) ?_
  refine dn ?_
  refine hw_seq ?_
  refine hw_reg ?_
  refine dp rfl (pop_move rfl) ?_
  refine dp rfl (pop_lss rfl rfl) ?_
  refine dn ?_
  refine hw_cond rfl (fun h3 => ?_) (fun h4 => ?_)
  ·try simp at h3
   refine hw_reg1 ?_
   refine dp rfl (pop_move rfl) ?_
   refine dp rfl (pop_move rfl) ?_
   have hm := Int.tmod_lt_of_pos x (show 0 < n by omega)
   obtain ⟨y, hy1, hy2⟩ := below_nat x n
   have hb : below x n = x.tmod n + n := by unfold below; rw [if_neg (by omega), if_pos (by omega)]
   refine dp rfl (pop_add64 rfl rfl (by omega) (by omega)) ?_
   refine dp rfl (pop_assign rfl) ?_
   refine dn ?_
   refine seqQ_n ?_
   refine hw_reg ?_
   refine dp rfl (pop_move rfl) ?_
   refine dp rfl (pop_assign rfl) ?_
   refine dn ?_
   refine hw_ret ?_
   refine ret_p rfl ?_
   show HVal.int .i64 _ = _
   simp_all [below]
   try omega
  ·try simp at h4
   refine hw_skip ?_
   refine seqQ_n ?_
   refine hw_reg ?_
   refine dp rfl (pop_move rfl) ?_
   refine dp rfl (pop_assign rfl) ?_
   refine dn ?_
   refine hw_ret ?_
   refine ret_p rfl ?_
   show HVal.int .i64 _ = _
   simp_all [below]
   try omega

/-- (*benchwarmer/benchmake.Stream).Next -/
theorem c_benchmake_Stream_Next [Tracks] {b : Nat} {l : List Int} {a : Nat} {n : Int} (ha : a ≤ 1000000) (hn : n ≤ 4000000000) : Con Tryz.prog 39 [pAt b, .int .i64 n] [St b l a] (fun x M' => ∃ y : Nat, x = .int .i64 (y : Int) ∧ (y : Int) < max n 1 ∧ M' = [St b l (a + 1)]) := by
 refine Con.of_body Tryz.func39 rfl Tryz.ntmps39 rfl rfl ?_
 refine hw_reg ?_
 refine dp rfl (pop_assign rfl) ?_
 refine dn ?_
 refine hw_reg ?_
 refine dp rfl (pop_move rfl) ?_
 refine dp rfl ((pop_nilCheck_raw rfl)) ?_
 refine dp rfl (pop_fieldAddr_raw ty25 rfl ty3 (by decide) rfl) ?_
 refine de rfl (eop_load (i := 0) ty3 rfl rfl (.inl ⟨rfl, rfl⟩) ?_)
 refine dp rfl (pop_add64 rfl rfl (by omega) (by omega)) ?_
 refine dp rfl ((pop_nilCheck_raw rfl)) ?_
 refine dp rfl (pop_fieldAddr_raw ty25 rfl ty3 (by decide) rfl) ?_
 refine de0 (eop_store (i := 0) ty3 rfl rfl rfl rfl rfl (Nat.le_of_ble_eq_true rfl) ?_)
 refine dn ?_
 refine hw_seq ?_
 refine hw_reg ?_
 refine dp rfl (pop_move rfl) ?_
 refine dp rfl ((pop_nilCheck_raw rfl)) ?_
 refine dp rfl (pop_fieldAddr_raw ty25 rfl ty22 (by decide) rfl) ?_
 refine de rfl (eop_load (i := 0) ty22 rfl rfl (.inl ⟨rfl, rfl⟩) ?_)
 refine dp rfl (pop_lenm ty22 rfl) ?_
 refine dp rfl (pop_eql rfl rfl) ?_
 refine dn ?_
 refine hw_cond rfl (fun h1 => ?_) (fun h2 => ?_)
 ·try simp at h1
  refine hw_reg ?_
  refine dp rfl (pop_move rfl) ?_
  refine dp rfl ((pop_nilCheck_raw rfl)) ?_
  refine dp rfl (pop_fieldAddr_raw ty25 rfl ty3 (by decide) rfl) ?_
  refine de rfl (eop_load (i := 0) ty3 rfl rfl (.inl ⟨rfl, rfl⟩) ?_)
  refine dp rfl (pop_mul rfl rfl) ?_
  refine dp rfl (pop_move rfl) ?_
  refine dp rfl (pop_call ca89 rfl (WeakL.refl _) (c_benchmake_Below (by assumption))) ?_
  refine dp rfl (pop_assign rfl) ?_
  refine dn ?_
  refine hw_ret ?_
  refine ret_q rfl ?_
  obtain ⟨y, h1, h2⟩ := below_nat _ n
  exact ⟨y, congrArg _ h1, h2, rfl⟩
 ·try simp at h2
  refine hw_skip ?_
  refine seqQ_n ?_
  have hl0 : 0 < l.length := List.length_pos_iff.2 (by simpa using h2)
  refine hw_draw (fun M => ∃ i : Nat, M[i]? = some (St b l (a + 1))) [3, 8] mixed ?_
  refine ahp 0 rfl rfl (by kernel_rfl) (by kernel_rfl) (pop_move rfl) ?_
  refine ahp 1 rfl rfl (by kernel_rfl) (by kernel_rfl) ((pop_nilCheck_raw rfl)) ?_
  refine ahp 2 rfl rfl (by kernel_rfl) (by kernel_rfl) (pop_fieldAddr_raw ty25 rfl ty3 (by decide) rfl) ?_
  refine ahl 3 rfl rfl (by kernel_rfl) (by kernel_rfl) (by simp) (⟨0, rfl⟩) (fun M hM => by obtain ⟨i, hi⟩ := hM; exact eop_load (i := i) ty3 rfl hi (.inl ⟨rfl, rfl⟩) ⟨rfl, rfl⟩) ?_
  refine ahp 4 rfl rfl (by kernel_rfl) (by kernel_rfl) (pop_sub64 rfl rfl (by omega) (by omega)) ?_
  refine ahp 5 rfl rfl (by kernel_rfl) (by kernel_rfl) (pop_move rfl) ?_
  refine ahp 6 rfl rfl (by kernel_rfl) (by kernel_rfl) ((pop_nilCheck_raw rfl)) ?_
  refine ahp 7 rfl rfl (by kernel_rfl) (by kernel_rfl) (pop_fieldAddr_raw ty25 rfl ty22 (by decide) rfl) ?_
  refine ahl 8 rfl rfl (by kernel_rfl) (by kernel_rfl) (by simp) (⟨0, rfl⟩) (fun M hM => by obtain ⟨i, hi⟩ := hM; exact eop_load (i := i) ty22 rfl hi (.inl ⟨rfl, rfl⟩) ⟨rfl, rfl⟩) ?_
  refine ahp 9 rfl rfl (by kernel_rfl) (by kernel_rfl) (pop_lenm ty22 rfl) ?_
  refine ahp 10 rfl rfl (by kernel_rfl) (by kernel_rfl) (pop_eq (h' := .int .i64 ((a % l.length : Nat) : Int)) (pop_rem rfl rfl (by omega)) (by show HVal.int .i64 (((a : Int) + 1 - 1).tmod _) = _; rw [show ((a : Int) + 1 - 1) = (a : Int) by omega]; exact congrArg _ (tmod_nat _ _))) ?_
  refine ahp 11 rfl rfl (by kernel_rfl) (by kernel_rfl) (pop_assign rfl) ?_
  refine ahz (by kernel_rfl) ?_
  refine hw_draw (fun M => ∃ i : Nat, M[i]? = some (St b l (a + 1))) [3, 8] mixed ?_
  refine ahp 0 rfl rfl (by kernel_rfl) (by kernel_rfl) (pop_move rfl) ?_
  refine ahp 1 rfl rfl (by kernel_rfl) (by kernel_rfl) ((pop_nilCheck_raw rfl)) ?_
  refine ahp 2 rfl rfl (by kernel_rfl) (by kernel_rfl) (pop_fieldAddr_raw ty25 rfl ty3 (by decide) rfl) ?_
  refine ahl 3 rfl rfl (by kernel_rfl) (by kernel_rfl) (by simp) (⟨0, rfl⟩) (fun M hM => by obtain ⟨i, hi⟩ := hM; exact eop_load (i := i) ty3 rfl hi (.inl ⟨rfl, rfl⟩) ⟨rfl, rfl⟩) ?_
  refine ahp 4 rfl rfl (by kernel_rfl) (by kernel_rfl) (pop_sub64 rfl rfl (by omega) (by omega)) ?_
  refine ahp 5 rfl rfl (by kernel_rfl) (by kernel_rfl) (pop_move rfl) ?_
  refine ahp 6 rfl rfl (by kernel_rfl) (by kernel_rfl) ((pop_nilCheck_raw rfl)) ?_
  refine ahp 7 rfl rfl (by kernel_rfl) (by kernel_rfl) (pop_fieldAddr_raw ty25 rfl ty22 (by decide) rfl) ?_
  refine ahl 8 rfl rfl (by kernel_rfl) (by kernel_rfl) (by simp) (⟨0, rfl⟩) (fun M hM => by obtain ⟨i, hi⟩ := hM; exact eop_load (i := i) ty22 rfl hi (.inl ⟨rfl, rfl⟩) ⟨rfl, rfl⟩) ?_
  refine ahp 9 rfl rfl (by kernel_rfl) (by kernel_rfl) (pop_lenm ty22 rfl) ?_
  refine ahp 10 rfl rfl (by kernel_rfl) (by kernel_rfl) (pop_quo rfl rfl (by omega)) ?_
  refine ahp 11 rfl rfl (by kernel_rfl) (by kernel_rfl) (pop_assign rfl) ?_
  refine ahz (by kernel_rfl) ?_
  refine hw_reg ?_
  refine dp rfl (pop_move rfl) ?_
  refine dp rfl ((pop_nilCheck_raw rfl)) ?_
  refine dp rfl (pop_fieldAddr_raw ty25 rfl ty22 (by decide) rfl) ?_
  refine de rfl (eop_load (i := 0) ty22 rfl rfl (.inl ⟨rfl, rfl⟩) ?_)
  refine dp rfl (pop_move rfl) ?_
  refine dp rfl (pop_idx (j := a % l.length) (a := l[a % l.length]'(Nat.mod_lt _ (by omega))) ty22 ty3 rfl rfl rfl (List.getElem?_eq_getElem _)) ?_
  refine dp rfl (pop_load ty3 rfl rfl rfl) ?_
  refine dp rfl (pop_call ca89 rfl (WeakL.refl _) (c_benchmake_Below (by omega))) ?_
  refine dp rfl (pop_move rfl) ?_
  refine dp rfl (pop_move rfl) ?_
  refine dp rfl (pop_add rfl rfl) ?_
  refine dp rfl (pop_mul rfl rfl) ?_
  refine dp rfl (pop_add rfl rfl) ?_
  refine dp rfl (pop_move rfl) ?_
  refine dp rfl (pop_call ca89 rfl (WeakL.refl _) (c_benchmake_Below (by assumption))) ?_
  refine dp rfl (pop_assign rfl) ?_
  refine dn ?_
  refine hw_ret ?_
  refine ret_q rfl ?_
  obtain ⟨y, h1, h2⟩ := below_nat _ n
  exact ⟨y, congrArg _ h1, h2, rfl⟩

/-- (*benchwarmer/benchmake.Stream).Range -/
theorem c_benchmake_Stream_Range [Tracks] {b : Nat} {l : List Int} {a : Nat} {lo hi : Int} (ha : a ≤ 1000000) (hlh : lo ≤ hi) (h0 : -1000000000 ≤ lo) (h1 : hi ≤ 1000000000) : Con Tryz.prog 46 [pAt b, .int .i64 lo, .int .i64 hi] [St b l a] (fun x M' => ∃ y : Int, x = .int .i64 y ∧ (lo ≤ y ∧ y ≤ hi) ∧ M' = [St b l (a + 1)]) := by
 refine Con.of_body Tryz.func46 rfl Tryz.ntmps46 rfl rfl ?_
 refine hw_reg ?_
 refine dp rfl (pop_assign rfl) ?_
 refine dn ?_
 refine hw_seq ?_
 refine hw_reg ?_
 refine dp rfl (pop_move rfl) ?_
 refine dp rfl (pop_move rfl) ?_
 refine dp rfl (pop_lss rfl rfl) ?_
 refine dn ?_
 refine hw_cond rfl (fun h1 => ?_) (fun h1 => ?_)
 ·exfalso
  try simp at h1
  omega
 ·try simp at h1
  refine hw_skip ?_
  refine seqQ_n ?_
  refine hw_reg ?_
  refine dp rfl (pop_move rfl) ?_
  refine dp rfl (pop_move rfl) ?_
  refine dp rfl (pop_move rfl) ?_
  refine dp rfl (pop_move rfl) ?_
  refine dp rfl (pop_sub64 rfl rfl (by omega) (by omega)) ?_
  refine dp rfl (pop_add64 rfl rfl (by omega) (by omega)) ?_
  refine de rfl (eop_callx (i := 0) ca39 rfl (WeakL.refl _) rfl (c_benchmake_Stream_Next (by assumption) (by omega)) ?_)
  rintro _ _ ⟨y17, rfl, hy17, rfl⟩
  refine dp rfl (pop_add64 rfl rfl (by omega) (by omega)) ?_
  refine dp rfl (pop_assign rfl) ?_
  refine dn ?_
  refine hw_ret ?_
  exact ret_q rfl ⟨_, rfl, by omega, rfl⟩

/-- (*benchwarmer/benchmake.Stream).Flip -/
theorem c_benchmake_Stream_Flip [Tracks] {b : Nat} {l : List Int} {a : Nat} {n : Int} (ha : a ≤ 1000000) (hn : n ≤ 4000000000) : Con Tryz.prog 47 [pAt b, .int .i64 n] [St b l a] (fun x M' => ∃ y : Bool, x = .bool y ∧ M' = [St b l (a + 1)]) := by
 refine Con.of_body Tryz.func47 rfl Tryz.ntmps47 rfl rfl ?_
 refine hw_reg ?_
 refine dp rfl (pop_assign rfl) ?_
 refine dn ?_
 refine hw_reg ?_
 refine dp rfl (pop_move rfl) ?_
 refine dp rfl (pop_move rfl) ?_
 refine de rfl (eop_callx (i := 0) ca39 rfl (WeakL.refl _) rfl (c_benchmake_Stream_Next (by assumption) (by assumption)) ?_)
 rintro _ _ ⟨y7, rfl, hy7, rfl⟩
 refine dp rfl (pop_eql rfl rfl) ?_
 refine dp rfl (pop_assign rfl) ?_
 refine dn ?_
 refine hw_ret ?_
 exact ret_q rfl ⟨_, rfl, rfl⟩

/-- (*benchwarmer/benchmake.Stream).Pick -/
theorem c_benchmake_Stream_Pick [Tracks] {b : Nat} {l : List Int} {a : Nat} {L : List Int} (ha : a ≤ 1000000) (h0 : 0 < L.length) (h1 : L.length ≤ 1000000) : Con Tryz.prog 9 [pAt b, .slice 1 (L.map (.int .i64))] [St b l a] (fun x M' => ∃ y : Int, x = .int .i64 y ∧ y ∈ L ∧ M' = [St b l (a + 1)]) := by
 refine Con.of_body Tryz.func9 rfl Tryz.ntmps9 rfl rfl ?_
 refine hw_reg ?_
 refine dp rfl (pop_assign rfl) ?_
 refine dn ?_
 refine hw_reg ?_
 refine dp rfl (pop_move rfl) ?_
 refine dp rfl (pop_move rfl) ?_
 refine dp rfl (pop_move rfl) ?_
 refine dp rfl (pop_lenm ty22 rfl) ?_
 refine de rfl (eop_callx (i := 0) ca39 rfl (WeakL.refl _) rfl (c_benchmake_Stream_Next (by assumption) (by omega)) ?_)
 rintro _ _ ⟨y9, rfl, hy9, rfl⟩
 obtain ⟨z, hz, hm⟩ := getI hy9 h0
 refine dp rfl (pop_idx (j := y9) (a := z) ty22 ty3 rfl rfl rfl hz) ?_
 refine dp rfl (pop_load ty3 rfl rfl rfl) ?_
 refine dp rfl (pop_assign rfl) ?_
 refine dn ?_
 refine hw_ret ?_
 exact ret_q rfl ⟨_, rfl, hm, rfl⟩

/-- (*benchwarmer/benchmake.Stream).Some -/
theorem c_benchmake_Stream_Some [Tracks] {b : Nat} {l : List Int} {a : Nat} {L : List Str} (ha : a ≤ 1000000) (h0 : 0 < L.length) (h1 : L.length ≤ 1000000) : Con Tryz.prog 10 [pAt b, eSs L] [St b l a] (fun x M' => ∃ y : Str, x = .str y ∧ y ∈ L ∧ M' = [St b l (a + 1)]) := by
 refine Con.of_body Tryz.func10 rfl Tryz.ntmps10 rfl rfl ?_
 refine hw_reg ?_
 refine dp rfl (pop_assign rfl) ?_
 refine dn ?_
 refine hw_reg ?_
 refine dp rfl (pop_move rfl) ?_
 refine dp rfl (pop_move rfl) ?_
 refine dp rfl (pop_move rfl) ?_
 refine dp rfl (pop_lenm ty26 rfl) ?_
 refine de rfl (eop_callx (i := 0) ca39 rfl (WeakL.refl _) rfl (c_benchmake_Stream_Next (by assumption) (by omega)) ?_)
 rintro _ _ ⟨y9, rfl, hy9, rfl⟩
 obtain ⟨z, hz, hm⟩ := getS hy9 h0
 refine dp rfl (pop_idx (j := y9) (a := z) ty26 ty9 rfl rfl rfl hz) ?_
 refine dp rfl (pop_load ty9 rfl rfl rfl) ?_
 refine dp rfl (pop_assign rfl) ?_
 refine dn ?_
 refine hw_ret ?_
 exact ret_q rfl ⟨_, rfl, hm, rfl⟩

/-- (*benchwarmer/benchmake.Stream).Odd -/
theorem c_benchmake_Stream_Odd [Tracks] {b : Nat} {l : List Int} {a : Nat} {lo hi : Int} (ha : a ≤ 900000) (hlh : lo ≤ hi) (h0 : -1000000000 ≤ lo) (h1 : hi ≤ 1000000000) : Con Tryz.prog 49 [pAt b, .int .i64 lo, .int .i64 hi] [St b l a] (fun x M' => ∃ y : Int, x = .int .i64 y ∧ M' = [St b l (a + 2)]) := by
 refine Con.of_body Tryz.func49 rfl Tryz.ntmps49 rfl rfl ?_
 refine hw_reg ?_
 refine dp rfl (pop_assign rfl) ?_
 refine dn ?_
 refine hw_seq ?_
 refine hw_reg ?_
 refine dp rfl (pop_move rfl) ?_
 refine de rfl (eop_callx (i := 0) ca47 rfl (WeakL.refl _) rfl (c_benchmake_Stream_Flip (by omega) (by omega)) ?_)
 rintro _ _ ⟨y8, rfl, rfl⟩
 refine dn ?_
 refine hw_cond rfl (fun h1 => ?_) (fun h2 => ?_)
 ·try simp at h1
  refine hw_reg ?_
  refine dp rfl (pop_move rfl) ?_
  refine dp rfl (pop_move rfl) ?_
  refine dp rfl (pop_sub64 rfl rfl (by omega) (by omega)) ?_
  refine dp rfl (pop_move rfl) ?_
  refine dp rfl (pop_add64 rfl rfl (by omega) (by omega)) ?_
  refine dp rfl (pop_move rfl) ?_
  refine dp rfl (pop_move rfl) ?_
  refine dp rfl (pop_buildSlice (hs := [_, _, _, _, _, _]) ty22 ty3 rfl rfl (by decide) (by decide) rfl) ?_
  refine de rfl (eop_callx (i := 0) ca9 rfl (WeakL.refl _) rfl (c_benchmake_Stream_Pick (L := [_, _, _, _, _, _]) (by omega) (by simp_all) (by simp_all)) ?_)
  rintro _ _ ⟨y17, rfl, hy17, rfl⟩
  refine dp rfl (pop_assign rfl) ?_
  refine dn ?_
  refine hw_ret ?_
  exact ret_q rfl ⟨_, rfl, rfl⟩
 ·try simp at h2
  refine hw_skip ?_
  refine seqQ_n ?_
  refine hw_reg ?_
  refine dp rfl (pop_move rfl) ?_
  refine dp rfl (pop_move rfl) ?_
  refine dp rfl (pop_move rfl) ?_
  refine de rfl (eop_callx (i := 0) ca46 rfl (WeakL.refl _) rfl (c_benchmake_Stream_Range (by omega) (by assumption) (by assumption) (by assumption)) ?_)
  rintro _ _ ⟨y21, rfl, hy21, rfl⟩
  refine dp rfl (pop_assign rfl) ?_
  refine dn ?_
  refine hw_ret ?_
  exact ret_q rfl ⟨_, rfl, rfl⟩
end Go.Proofs.YtfkobanmdpbjkaaGreatDoor
end
section
namespace Go.HL
variable {P : Program}
open Go.Sort Go.Proofs
section
variable {P : Program} {n : Nat} {e : Env} {M : List MObj} {Q : Exit → Env → List MObj → Prop} {c c' : Code}
def JoinG [Tracks] {ι : Type} (e : Env) (ks : List Nat) (W : ι → List (Nat × HVal)) (MM : ι → List MObj) (Iv : ι → Prop) (Q : Exit → Env → List MObj → Prop) : Exit → Env → List MObj → Prop
 | .normal, e', M => ∃ e2 M2, Ghost e' M e2 M2 ∧ ∃ j, Iv j ∧ HoldsW e2 (W j) ∧ Keeps ks e e2 ∧ M2.Perm (MM j)
 | x, e', M => Q x e' M
theorem hw_joing [Tracks] {ι : Type} (ks : List Nat) (W : ι → List (Nat × HVal)) (MM : ι → List MObj) (Iv : ι → Prop) (h1 : HWp P n c e M (JoinG e ks W MM Iv Q))
 (h2 : ∀ i, Iv i → HWp P n c' (loopE e ks (W i)) (MM i) Q) : HWp P n (.seq c c') e M Q := by
 refine hw_seq (hw_mono h1 ?_)
 intro x e1 M1 hq
 cases x with
 | normal =>
   obtain ⟨e2, M2, hg, j, a1, a2, a3, a4⟩ := hq
   exact hw_ghost (hg.trans ((Ghost.sub (Sub.loopE a2 a3)).trans (Ghost.perm a4))) (h2 j a1)
 | _ => exact hq
theorem joinG_n [Tracks] {ι : Type} {e0 e2 : Env} {M2 : List MObj} {ks : List Nat} {W : ι → List (Nat × HVal)} {MM : ι → List MObj} {Iv : ι → Prop} (hg : Ghost e M e2 M2) (h : JoinG e0 ks W MM Iv Q .normal e2 M2) : JoinG e0 ks W MM Iv Q .normal e M := by
 obtain ⟨e3, M3, g, r⟩ := h
 exact ⟨e3, M3, hg.trans g, r⟩
theorem joinG_z [Tracks] {ι : Type} {e0 : Env} {ks : List Nat} {W : ι → List (Nat × HVal)} {MM : ι → List MObj} {Iv : ι → Prop} (j : ι) (h : Iv j) (hW : HoldsW e (W j)) (hk : Keeps ks e0 e) (hM : M.Perm (MM j)) : JoinG e0 ks W MM Iv Q .normal e M :=
 ⟨e, M, Ghost.sub (Sub.refl _), j, h, hW, hk, hM⟩
end
/-- Another view of the state within a region. -/
theorem dghost [Tracks] {P : Program} {ops : Array Oper} {n : Nat} {K : Env → List MObj → Prop} {rest : List Oper} {e : Env} {M M' : List MObj} (hm : M = M') (k : Der P ops n K rest e M') : Der P ops n K rest e M := hm ▸ k
/-- The header of an owned slice, with its capacity. -/
theorem hw_arrc [Tracks] {P : Program} {n : Nat} {e : Env} {M : List MObj} {c : Code} {Q : Exit → Env → List MObj → Prop} {i : Nat} {v : Value} {sz : Nat} {es : List HVal} (hm : M[i]? = some (.arr v sz es))
 (h0 : v = .slice none 0 0 → es = [] → HWp P n c e M Q) (h1 : ∀ b off cap, v = .slice (some ⟨b, off, none⟩) es.length cap → es.length ≤ cap → HWp P n c e M Q) : HWp P n c e M Q := fun I F a w a1 a2 a3 a4 => by
 rcases a4.obj _ (List.mem_append_left _ (List.mem_of_getElem? hm)) with ⟨g1, g2⟩ | ⟨b, off, cap, rc, el, fr, g1, _, _, _, g5, _⟩
 ·exact h0 g1 g2 I F a w a1 a2 a3 a4
 ·exact h1 b off cap g1 g5.1 I F a w a1 a2 a3 a4
theorem permTo [Tracks] {α : Type} {l r : List α} {x : α} (i : Nat) (h : l[i]? = some x) (hr : (l.eraseIdx i).Perm r) : l.Perm (x :: r) := (perm_erase h).trans (hr.cons x)
theorem permToE [Tracks] {α : Type} {l r : List α} {x y : α} (i : Nat) (h : l[i]? = some y) (hy : y = x) (hr : (l.eraseIdx i).Perm r) : l.Perm (x :: r) := hy ▸ permTo i h hr
theorem conp_of_calls [Tracks] {P : Program} {f : FuncId} {hargs : List HVal} {h : HVal} (hc : ∀ (I : Imm) (w : World) (args : List Value), VL I hargs args → ∃ v, V I h v ∧ Calls P f args.toArray w fun e w' => e = .returned v ∧ w' = w) : ConP P f hargs h := by
 intro I F w args ha hs
 obtain ⟨v, hv, hcalls⟩ := hc I w args ha
 refine hcalls.mono ?_
 rintro _ w' ⟨rfl, rfl⟩
 exact ⟨v, h, [], I, rfl, .refl I, ⟨rfl, rfl⟩, hv, hs⟩
end Go.HL
end
section
namespace Go.HL
abbrev nilS : HVal := .raw (.slice none 0 0)
theorem dec_len {i : Nat} (h : i < 100) : (Lib.decDigits i).length ≤ 10 := by
 have : (List.range 100).all (fun i => decide ((Lib.decDigits i).length ≤ 10)) = true := by kernel_rfl
 have := List.all_eq_true.1 this i (List.mem_range.2 h)
 simpa using this
end Go.HL
end
section
namespace Go.Proofs.YtfkobanmdpbjkaaGreatDoor
open Go.HL
set_option maxRecDepth 100000
set_option linter.unusedVariables false
set_option linter.unusedSimpArgs false
/-- strconv.Itoa of a small number -/
theorem c_strconv_Itoa [Tracks] {i : Nat} (hi : i < 100) : ConP Tryz.prog 50 [.int .i64 (i : Int)] (.str (Lib.decDigits i)) :=
 conp_of_calls fun I w args ha => by
  obtain ⟨u, rfl, hu⟩ := ha.one
  obtain rfl := hu.int_inv
  exact ⟨_, .str _, Any.strconv_Itoa_small Tryz.lays171 i hi w⟩
end Go.Proofs.YtfkobanmdpbjkaaGreatDoor
end
section
namespace Go.HL
section
variable {α : Type} (c : α → α → Int)
def insF (x : α) : List α → List α
 | [] => [x]
 | y :: t => if c x y < 0 then y :: insF x t else x :: y :: t
def insB (x : α) (S : List α) : List α := (insF c x S.reverse).reverse
def isort (l : List α) : List α := l.foldl (fun S x => insB c x S) []
theorem insB_nil (x : α) : insB c x [] = [x] := rfl
theorem insB_snoc (x y : α) (S : List α) : insB c x (S ++ [y]) = if c x y < 0 then insB c x S ++ [y] else S ++ [y, x] := by
 unfold insB
 rw [List.reverse_append]
 simp only [List.reverse_cons, List.reverse_nil, List.nil_append, List.singleton_append, insF]
 split <;> simp
theorem isort_snoc (l : List α) (x : α) : isort c (l ++ [x]) = insB c x (isort c l) := by simp [isort, List.foldl_append]
theorem insF_perm (x : α) : ∀ l, (insF c x l).Perm (x :: l)
 | [] => .refl _
 | y :: t => by
   simp only [insF]; split
   ·exact ((insF_perm x t).cons y).trans (.swap _ _ _)
   ·exact .refl _
theorem insB_perm (x : α) (S : List α) : (insB c x S).Perm (x :: S) := by
 unfold insB
 exact (List.reverse_perm _).trans ((insF_perm c x _).trans ((List.reverse_perm S).cons x))
theorem foldl_perm : ∀ (l S : List α), (l.foldl (fun S x => insB c x S) S).Perm (S ++ l)
 | [], S => by simp
 | x :: l, S => by
   simp only [List.foldl_cons]
   refine (foldl_perm l _).trans ?_
   refine ((insB_perm c x S).append_right l).trans ?_
   exact (List.perm_middle (a := x) (l₁ := S) (l₂ := l)).symm
theorem isort_perm (l : List α) : (isort c l).Perm l := by
 have := foldl_perm c l []
 simpa [isort] using this
theorem isort_len (l : List α) : (isort c l).length = l.length := (isort_perm c l).length_eq
/-- A comparison by which things stand in one line, as far as they are in s. -/
structure Cmp (s : α → Prop) : Prop where
 flip : ∀ x y, s x → s y → (c x y < 0 ↔ 0 < c y x)
 trans : ∀ x y z, s x → s y → s z → c x y ≤ 0 → c y z ≤ 0 → c x z ≤ 0
variable {c}
theorem insF_sorted {s : α → Prop} (hc : Cmp c s) {x : α} (hx : s x) : ∀ {l : List α}, (∀ y ∈ l, s y) → l.Pairwise (fun a b => c b a ≤ 0) → (insF c x l).Pairwise (fun a b => c b a ≤ 0)
 | [], _, _ => by simp [insF]
 | y :: t, hs, hp => by
   have hy := hs y (by simp)
   have ht : ∀ z ∈ t, s z := fun z hz => hs z (List.mem_cons_of_mem _ hz)
   obtain ⟨h1, h2⟩ := List.pairwise_cons.1 hp
   simp only [insF]
   split
   ·rename_i hlt
    refine List.pairwise_cons.2 ⟨fun z hz => ?_, insF_sorted hc hx ht h2⟩
    rcases List.mem_cons.1 ((insF_perm c x t).mem_iff.1 hz) with rfl | hz
    ·omega
    ·exact h1 z hz
   ·rename_i hge
    have hyx : c y x ≤ 0 := by
     have := (hc.flip x y hx hy)
     omega
    refine List.pairwise_cons.2 ⟨fun z hz => ?_, hp⟩
    rcases List.mem_cons.1 hz with rfl | hz
    ·exact hyx
    ·exact hc.trans z y x (ht z hz) hy hx (h1 z hz) hyx
theorem insB_sorted {s : α → Prop} (hc : Cmp c s) {x : α} (hx : s x) {l : List α} (hs : ∀ y ∈ l, s y) (hp : l.Pairwise (fun a b => c a b ≤ 0)) : (insB c x l).Pairwise (fun a b => c a b ≤ 0) := by
 unfold insB
 rw [List.pairwise_reverse]
 exact insF_sorted hc hx (fun y hy => hs y (List.mem_reverse.1 hy)) (List.pairwise_reverse.2 hp)
theorem isort_sorted {s : α → Prop} (hc : Cmp c s) {l : List α} (hs : ∀ y ∈ l, s y) : (isort c l).Pairwise (fun a b => c a b ≤ 0) := by
 have key : ∀ (n : Nat), n ≤ l.length → (isort c (l.take n)).Pairwise (fun a b => c a b ≤ 0) := by
  intro n
  induction n with
  | zero => intro _; simp [isort]
  | succ n ih =>
    intro hn
    have hx := List.getElem?_eq_getElem (l := l) (i := n) (by omega)
    rw [take_snoc' hx, isort_snoc]
    exact insB_sorted hc (hs _ (List.mem_of_getElem? hx)) (fun y hy => hs y (List.mem_of_mem_take ((isort_perm c _).mem_iff.1 hy))) (ih (by omega))
 have := key l.length (Nat.le_refl _)
 rwa [List.take_length] at this
end
end Go.HL
end
section
namespace Go.HL
variable {P : Program}
section
variable {P : Program} {e : Env} {dst : Option Tmp} {ty : TypeId} {pos : String} {af : Array Edge} {g : Option (Nat × Bool)} {M : List MObj} {K : HVal → List MObj → Prop}
/-- A whole element of an owned slice is loaded. -/
theorem eop_load_elw [Tracks] {α : Type} {f : α → HVal} {x : Operand} {t : TypeId} {d : TD} {size bytes : Nat} {zero : Value} {i b off cap n sz j o : Nat} {es : List α} {y : α} (hf : Fits P t d size bytes zero)
 (hx : evalO e x = some (.raw (.pointer (some ⟨b, o, none⟩)))) (ho' : o = off + j * sz) (hm : M[i]? = some (.arr (.slice (some ⟨b, off, none⟩) n cap) sz (es.map f))) (hj : es[j]? = some y)
 (hd : d.isAgg = true) (hs : size = (hcells (f y)).length) (hv : f y = .agg (hcells (f y))) (hk : K (f y) M) : EOp P e M ⟨dst, .load t x, ty, pos, af, g⟩ K :=
 eop_load_arr (j := j) (f := 0) (y := f y) hf hx (by omega) hm (by rw [List.getElem?_map, hj]; rfl) (.inr ⟨hd, by omega, by rw [List.drop_zero, hs, List.take_length]; exact hv⟩) hk
/-- A whole element of an owned slice is stored. -/
theorem eop_store_elw [Tracks] {α : Type} {f : α → HVal} {x z : Operand} {t : TypeId} {d : TD} {size bytes : Nat} {zero : Value} {i b off cap n sz j o : Nat} {es : List α} {y y' : α} (hf : Fits P t d size bytes zero)
 (hx : evalO e x = some (.raw (.pointer (some ⟨b, o, none⟩)))) (ho' : o = off + j * sz) (hz : evalO e z = some (f y')) (hm : M[i]? = some (.arr (.slice (some ⟨b, off, none⟩) n cap) sz (es.map f))) (hj : es[j]? = some y)
 (hok : okElem size (f y') = true) (hfl : flat (hcells (f y')) = true) (hle : (hcells (f y')).length = (hcells (f y)).length)
 (hk : K .junk (M.set i (.arr (.slice (some ⟨b, off, none⟩) n cap) sz ((es.set j y').map f)))) : EOp P e M ⟨dst, .store t x z, ty, pos, af, g⟩ K := by
 have h0 := (okElem_cells hok).1
 refine eop_store_arr (j := j) (f := 0) (y := f y) (y' := f y') hf hx (by omega) hz hm (by rw [List.getElem?_map, hj]; rfl) hok hfl (by omega) ?_ ?_
 ·rw [setL_all hle]
 ·rw [List.map_set] at hk; exact hk
end
theorem Sat.arr_take [Tracks] {I : Imm} {F : List MObj} {w : World} {b off n cap sz m : Nat} {es : List HVal} (hm : m ≤ es.length) (h : Sat P I (.arr (.slice (some ⟨b, off, none⟩) n cap) sz es :: F) w) :
 Sat P I (.arr (.slice (some ⟨b, off, none⟩) m cap) sz (es.take m) :: F) w := by
 obtain ⟨_, rc, el, fr, h2, h3, h4, h5, h6, h7⟩ := arr_some h
 refine h.change (m' := .arr (.slice (some ⟨b, off, none⟩) m cap) sz (es.take m)) (fun _ _ _ => rfl) (fun c hc => .inl hc) (by simp [MObj.blocks]) ?_ rfl rfl rfl
 have hl : (es.take m).length = m := by simp; omega
 refine .inr ⟨b, off, cap, rc, el, fr, by rw [hl], h2, h3, fun e he => h4 e (List.mem_of_mem_take he), by omega, h6, fun i j e c v a1 a2 a3 => ?_⟩
 have hi := lt_of_get a1
 rw [List.getElem?_take_of_lt (by omega)] at a1
 exact h7 i j e c v a1 a2 a3
theorem Ghost.take [Tracks] {e : Env} {M : List MObj} {b off n cap sz m : Nat} {es : List HVal} (hm : m ≤ es.length) : Ghost e (.arr (.slice (some ⟨b, off, none⟩) n cap) sz es :: M) e (.arr (.slice (some ⟨b, off, none⟩) m cap) sz (es.take m) :: M) :=
 fun _ I F tmps w h1 h2 => ⟨I, .refl I, h1, h2.arr_take hm⟩
def slOff (cap off sz lo : Nat) : Nat := if cap = lo then off else off + lo * sz
section
variable {P : Program} {e : Env} {dst : Option Tmp} {ty : TypeId} {pos : String} {af : Array Edge} {g : Option (Nat × Bool)} {M : List MObj} {K : HVal → List MObj → Prop}
/-- A slice whose header is known is cut. -/
theorem pop_slraw [Tracks] {x : Operand} {lo hi : Option Operand} {t el : TypeId} {size bytes sz b2 : Nat} {zero z2 : Value} {d : TD} {b off n cap l h : Nat}
 (hf : Fits P t (.slice el) size bytes zero) (hel : Fits P el d sz b2 z2) (hx : evalO e x = some (.raw (.slice (some ⟨b, off, none⟩) n cap))) (hlo : BoundIs e lo 0 l) (hhi : BoundIs e hi n h) (h1 : l ≤ h) (h2 : h ≤ n) (hc : n ≤ cap) :
 POp P e ⟨dst, .slice t x lo hi none, ty, pos, af, g⟩ (.raw (.slice (some ⟨b, slOff cap off sz l, none⟩) (h - l) (cap - l))) :=
 POp.of_val fun I a w ho => by
  have h3 := (ho.one (x := x) (by simp [Op.operands]) hx).raw_inv
  have hb : (Instr.sliceBounds true n cap (Option.map a.eval lo) (Option.map a.eval hi) none).run P w = .ok (l, h, cap) w :=
   run_bounds (P := P) (e := e) (lo := lo) (hi := hi) (l := l) (h := h) (len := n) (cap := cap) ho (by intro y hy; simp [Op.operands, hy]) (by intro y hy; simp [Op.operands, hy]) hlo hhi h1 h2 hc true w
  refine ⟨_, ?_, .raw _ rfl⟩
  simp [execOp, Instr.sliceAt, run_underlying hf.slice, h3, Instr.slice, hb, hel.run_sizeOf, slOff]
  try (split <;> simp_all [addr_add])
  try omega
/-- Cells of an owned slice behind the first m' elements are cleared: what stays are these. -/
theorem eop_clear_at [Tracks] {x : Operand} {t el : TypeId} {size bytes sz b2 : Nat} {zero z2 : Value} {d : TD} {i b off n cap m q o c2 : Nat} {es : List HVal} (m' : Nat)
 (hf : Fits P t (.slice el) size bytes zero) (hel : Fits P el d sz b2 z2) (hz : z2.cells.size = sz) (hz1 : z2.cells.toList.all Value.oneCell' = true)
 (hx : evalO e x = some (.raw (.slice (some ⟨b, o, none⟩) q c2))) (ho' : q = 0 ∨ o = off + m * sz) (hm : M[i]? = some (.arr (.slice (some ⟨b, off, none⟩) n cap) sz es)) (hmq : m + q ≤ cap) (hmm : m' ≤ m) (hme : m' ≤ es.length)
 (hk : K .junk (M.set i (.arr (.slice (some ⟨b, off, none⟩) m' cap) sz (es.take m')))) : EOp P e M ⟨dst, .call ⟨.builtin .clear, #[x], #[t]⟩, ty, pos, af, g⟩ K :=
 EOp.of_run fun I F a w ho hs => by
  have h1 := (ho.one (x := x) (by simp [Op.operands, Call.operands]) hx).raw_inv
  have hp := hs.pull hm
  obtain ⟨_, rc, el', fr, h2, h3, h4, h5, h6, h7⟩ := arr_some hp
  have hrun : (execOp a.eval ⟨dst, .call ⟨.builtin .clear, #[x], #[t]⟩, ty, pos, af, g⟩).run P w = ((Builtin.clear_ #[t] ty #[a.eval x]).run P w).andThen fun v w => .ok (.value v) w := by
   simp [execOp, resolve, invoke, builtin]
  rcases Nat.eq_zero_or_pos q with h0 | h0
  ·refine ⟨.tuple #[], .junk, _, w, I, ?_, .refl I, hk, .junk _, ?_⟩
   ·rw [hrun, h1, h0]
    simp [Builtin.clear_, run_underlying hf.slice]
   ·exact Sat.unpull hm (hp.arr_take hme)
  ·have hso : o = off + m * sz := by rcases ho' with h | h; omega; exact h
   have hmul : (m + q) * sz ≤ cap * sz := Nat.mul_le_mul_right _ hmq
   rw [Nat.add_mul] at hmul
   have hlen : (Builtin.zeroCells z2.cells q).toList.length = q * sz := by rw [Array.length_toList, zeroCells_size, hz]
   have hone : ∀ v ∈ (Builtin.zeroCells z2.cells q).toList, v.oneCell' = true := fun v hv => by
    simp only [Builtin.zeroCells, Array.toList_map, List.mem_map] at hv
    obtain ⟨r, hr, rfl⟩ := hv
    have hq' : r < q * z2.cells.size := by simpa using hr
    have hpos : 0 < z2.cells.size := by
     rcases Nat.eq_zero_or_pos z2.cells.size with h | h
     ·rw [h] at hq'; simp at hq'
     ·exact h
    have hlt : r % z2.cells.size < z2.cells.size := Nat.mod_lt _ hpos
    rw [getElem!_pos z2.cells _ hlt]
    exact List.all_eq_true.1 hz1 _ (by simp)
   obtain ⟨w', rc', g1, g2, g3, g4, g5, g6, g7, g8, g9⟩ := run_storeCells (P := P) b el' fr (off + m * sz) (Builtin.zeroCells z2.cells q).toList 0 w rc h2 h3 hone (by rw [hlen]; omega)
   refine ⟨.tuple #[], .junk, _, w', I, ?_, .refl I, hk, .junk _, ?_⟩
   ·rw [hrun, h1, hso]
    obtain ⟨r, rfl⟩ : ∃ r, q = r + 1 := ⟨q - 1, by omega⟩
    simp [Builtin.clear_, run_underlying hf.slice, hel.run_zero, g1]
   ·refine Sat.unpull hm (hp.change (m' := .arr (.slice (some ⟨b, off, none⟩) m' cap) sz (es.take m')) (fun k hk hnk => g5 k (by simpa [MObj.blocks] using hnk)) (fun k hk => .inl hk) (by simp [MObj.blocks]) ?_ g7 g8 g9.1 (fun _ => Nat.le_of_eq g9.2.symm))
    have hl : (es.take m').length = m' := by simp; omega
    refine .inr ⟨b, off, cap, rc', el', fr, by rw [hl], g2, by rw [g3]; exact h3, fun e he => h4 e (List.mem_of_mem_take he), by omega, by rw [g3]; exact h6, fun p q' y c v a1 a2 a3 => ?_⟩
    have hi := lt_of_get a1
    rw [List.getElem?_take_of_lt (by omega)] at a1
    have hq := lt_of_get a2
    rw [h4 y (List.mem_of_getElem? a1)] at hq
    have hpm : (p + 1) * sz ≤ m * sz := Nat.mul_le_mul_right _ (by omega)
    rw [Nat.add_mul] at hpm
    rw [g4, if_neg (by omega)] at a3
    exact h7 p q' y c v a1 a2 a3
theorem run_boundsc [Tracks] {I : Imm} {a : Act} {o : Oper} (ho : Opds I e a o) {lo hi : Option Operand} (hlo : ∀ x, lo = some x → x ∈ o.op.operands) (hhi : ∀ x, hi = some x → x ∈ o.op.operands)
 {len cap l h : Nat} (h1 : BoundIs e lo 0 l) (h2 : BoundIs e hi len h) (h3 : l ≤ h) (h4 : h ≤ cap) (b : Bool) (w : World) :
 (Instr.sliceBounds b len cap (lo.map a.eval) (hi.map a.eval) none).run P w = .ok (l, h, cap) w := by
 unfold Instr.sliceBounds
 cases lo with
 | none =>
   simp only [BoundIs] at h1
   subst h1
   cases hi with
   | none => simp only [BoundIs] at h2; subst h2; simp
   | some y =>
     obtain ⟨k, i, h6, rfl⟩ := h2
     have h7 := (ho.one (hhi y rfl) h6).int_inv
     simp [h7, run_sliceBound h4]
 | some x =>
   obtain ⟨k', i', h8, rfl⟩ := h1
   have h9 := (ho.one (hlo x rfl) h8).int_inv
   cases hi with
   | none => simp only [BoundIs] at h2; subst h2; simp [h9, run_sliceBound h3]
   | some y =>
     obtain ⟨k, i, h6, rfl⟩ := h2
     have h7 := (ho.one (hhi y rfl) h6).int_inv
     simp [h7, h9, run_sliceBound h4, run_sliceBound h3]
/-- A slice whose header is known is cut, within its capacity. -/
theorem pop_slrawc [Tracks] {x : Operand} {lo hi : Option Operand} {t el : TypeId} {size bytes sz b2 : Nat} {zero z2 : Value} {d : TD} {b off n cap l h : Nat}
 (hf : Fits P t (.slice el) size bytes zero) (hel : Fits P el d sz b2 z2) (hx : evalO e x = some (.raw (.slice (some ⟨b, off, none⟩) n cap))) (hlo : BoundIs e lo 0 l) (hhi : BoundIs e hi n h) (h1 : l ≤ h) (h2 : h ≤ cap) :
 POp P e ⟨dst, .slice t x lo hi none, ty, pos, af, g⟩ (.raw (.slice (some ⟨b, slOff cap off sz l, none⟩) (h - l) (cap - l))) :=
 POp.of_val fun I a w ho => by
  have h3 := (ho.one (x := x) (by simp [Op.operands]) hx).raw_inv
  have hb : (Instr.sliceBounds true n cap (Option.map a.eval lo) (Option.map a.eval hi) none).run P w = .ok (l, h, cap) w :=
   run_boundsc (P := P) (e := e) (lo := lo) (hi := hi) (l := l) (h := h) (len := n) (cap := cap) ho (by intro y hy; simp [Op.operands, hy]) (by intro y hy; simp [Op.operands, hy]) hlo hhi h1 h2 true w
  refine ⟨_, ?_, .raw _ rfl⟩
  simp [execOp, Instr.sliceAt, run_underlying hf.slice, h3, Instr.slice, hb, hel.run_sizeOf, slOff]
  try (split <;> simp_all [addr_add])
  try omega
/-- s[:h] -/
theorem pop_slraw0 [Tracks] {x : Operand} {hi : Option Operand} {t el : TypeId} {size bytes sz b2 : Nat} {zero z2 : Value} {d : TD} {b off n cap h : Nat}
 (hf : Fits P t (.slice el) size bytes zero) (hel : Fits P el d sz b2 z2) (hx : evalO e x = some (.raw (.slice (some ⟨b, off, none⟩) n cap))) (hhi : BoundIs e hi n h) (h2 : h ≤ cap) :
 POp P e ⟨dst, .slice t x none hi none, ty, pos, af, g⟩ (.raw (.slice (some ⟨b, off, none⟩) h cap)) := by
 have := pop_slrawc (P := P) (dst := dst) (ty := ty) (pos := pos) (af := af) (g := g) (lo := none) (l := 0) hf hel hx rfl hhi (Nat.zero_le _) h2
 have e1 : slOff cap off sz 0 = off := by unfold slOff; split <;> omega
 rwa [e1, Nat.sub_zero, Nat.sub_zero] at this
end
end Go.HL
end
section
namespace Go.HL
variable {P : Program}
open Go.ChangeShapes Go.WideShapes Go.RowKit
theorem below_of_sat [Tracks] {W W' : World} {J : Imm} {M : List MObj} (hl : Le (allI W) J) (hs : Sat P J M W') : Below W.heap.size W W' := by
 have hb : ∀ k, k < W.heap.size → W'.heap[k]? = W.heap[k]? := fun k hk => by
  have h1 : W.heap[k]? = some W.heap[k] := by simp [hk]
  rw [h1]
  exact hs.imm _ _ (hl.heap _ _ h1)
 exact {
  os := hs.os.trans hl.os
  tape := hs.tape.trans hl.tape
  output := hs.output.trans hl.output
  size := by
   rcases Nat.eq_zero_or_pos W.heap.size with h | h
   ·omega
   ·have h1 := hb (W.heap.size - 1) (by omega)
    have h2 : W.heap[W.heap.size - 1]? = some (W.heap[W.heap.size - 1]'(by omega)) := by simp
    rw [h2] at h1
    rcases Nat.lt_or_ge (W.heap.size - 1) W'.heap.size with h3 | h3
    ·omega
    ·rw [Array.getElem?_eq_none h3] at h1; cases h1
  block := hb }
theorem sat_now [Tracks] {W : World} (ht : TabI P (allI W)) : Sat P (allI W) [] W := ⟨fun _ _ h => h, fun _ h => by simp at h, by simp [blocks], fun _ h => by simp [blocks] at h, rfl, rfl, rfl, ht, fun _ => Nat.le_refl _⟩
theorem conp_law [Tracks] {P : Program} {f : FuncId} {l : List Int} (hc : ConP P f [.slice 1 (l.map (.int .i64))] (.bool true)) {W : World} (ht : TabI P (allI W)) {v : Value} (hv : V (allI W) (.slice 1 (l.map (.int .i64))) v) :
 Calls P f #[v] W fun e W' => e = .returned (.bool true) ∧ Below W.heap.size W W' := by
 refine (hc (allI W) [] W [v] (VL.cons hv VL.nil) (sat_now ht)).mono ?_
 rintro e W' ⟨u, h, M', J, rfl, hle, ⟨rfl, rfl⟩, hV, hs⟩
 exact ⟨by rw [hV.bool_inv], below_of_sat hle hs⟩
theorem v_ints [Tracks] {W : World} {a : Addr} {len cap : Nat} {zs : List Int} (hcell : ∀ i, i < zs.length → W.cell? (a.add i) = some (.int .i64 (zs.getD i 0))) (hl : len ≤ zs.length) (hc : len ≤ cap) :
 V (allI W) (.slice 1 ((zs.take len).map (.int .i64))) (.slice (some a) len cap) := by
 rcases Nat.eq_zero_or_pos len with h0 | h0
 ·subst h0; exact .slice0 _ _ _
 ·obtain ⟨b, off, rfl, hj⟩ := ints_at hcell (by omega)
  have hc0 := hj 0 (by omega)
  unfold World.cell? at hc0
  cases hh : W.heap[b]? with
  | none => rw [hh] at hc0; simp at hc0
  | some o =>
    cases o with
    | cells rc el fr =>
      have hrc : ∀ j, j < zs.length → rc[off + j]? = some (.int .i64 (zs.getD j 0)) := fun j hj' => by
       have := hj j hj'
       unfold World.cell? at this
       simpa [hh] using this
      have hlen : ((zs.take len).map (HVal.int .i64)).length = len := by simp; omega
      have hsz : off + zs.length ≤ rc.size := by
       have := hrc (zs.length - 1) (by omega)
       rcases Nat.lt_or_ge (off + (zs.length - 1)) rc.size with h3 | h3
       ·omega
       ·rw [Array.getElem?_eq_none h3] at this; cases this
      have := V.slice (I := allI W) (sz := 1) (es := (zs.take len).map (.int .i64)) (b := b) (off := off) (cap := cap) (rc := rc) (el := el) (fr := fr) hh
       (fun e he => by obtain ⟨n, _, rfl⟩ := List.mem_map.1 he; rfl) (by omega) (by omega) (fun i j e c v h1 h2 h3 => by
         have hi := lt_of_get h1
         rw [hlen] at hi
         rw [List.getElem?_map, List.getElem?_take_of_lt hi] at h1
         have e1 : zs[i]? = some zs[i] := List.getElem?_eq_getElem (by omega)
         rw [e1] at h1
         simp only [Option.map_some, Option.some.injEq] at h1
         subst h1
         cases j with
         | succ j => simp [hcells] at h2
         | zero =>
           simp only [hcells, List.getElem?_cons_zero, Option.some.injEq] at h2
           subst h2
           have h4 := hrc i (by omega)
           rw [Nat.mul_one, Nat.add_zero, h4] at h3
           simp only [Option.some.injEq] at h3
           subst h3
           have : zs.getD i 0 = zs[i] := by simp [List.getD, e1]
           rw [this]
           exact .int _ _)
      rw [hlen] at this
      exact this
    | _ => rw [hh] at hc0; simp at hc0
end Go.HL
end
section
namespace Go.HL
open Go.Sort Go.Proofs Go.RowKit
variable {P : Program}
theorem laid_at {w : World} {name : String} {d : DataW Unit} : ∀ {laid : List (String × DataW Unit)} {ps : List MemPlace}, DataW.LaidVars P w laid ps → ∀ (i : Nat), laid[i]? = some (name, d) →
 ∃ g t cs fuel p, P.globalNamed name = some g ∧ (P.globals[g]?).map (·.type) = some t ∧ w.var? P name = some cs ∧ DataW.trod (fun _ => ()) P w 0 (fun _ => true) false fuel t cs.toList = some (d, p)
 | [], _, _, i, h => by simp at h
 | (n, x) :: r, ps, h, 0, hi => by
   simp at hi
   obtain ⟨rfl, rfl⟩ := hi
   obtain ⟨g, t, cs, fuel, p, q, h1, h2, h3, h4, _, _⟩ := h
   exact ⟨g, t, cs, fuel, p, h1, h2, h3, h4⟩
 | (n, x) :: r, ps, h, i + 1, hi => by
   obtain ⟨g, t, cs, fuel, p, q, _, _, _, _, h5, _⟩ := h
   exact laid_at h5 i (by simpa using hi)
theorem tabI_of_laid [Tracks] {W : World} {laid : List (String × DataW Unit)} {i g : Nat} {t e : TypeId} {n : Nat} (h : laidMet P laid W) (hi : laid[i]? = some ("internal/strconv.uint64pow10", Lib.tabData .u64 Lib.pow10Tab))
 (hg : P.globalNamed "internal/strconv.uint64pow10" = some g) (hty : (P.globals[g]?).map (·.type) = some t) (ht : P.underlying t = some (.array n e)) (he : P.underlying e = some (.int .u64)) (hce : P.cellsOf e = 1) (hct : P.cellsOf t = n) : TabI P (allI W) := by
 obtain ⟨ps, h1, _⟩ := h
 obtain ⟨g', t', cs, fuel, p, a1, a2, a3, a4⟩ := laid_at h1 i hi
 obtain rfl := Option.some.inj (hg.symm.trans a1)
 obtain rfl := Option.some.inj (hty.symm.trans a2)
 intro g' hg'
 obtain rfl := Option.some.inj (hg.symm.trans hg')
 have hc := Lib.cells_of_tab ht he hce hct a4
 have hv := a3
 unfold World.var? at hv
 rw [hg] at hv
 simp only [Option.bind_some] at hv
 cases hh : W.heap[g]? with
 | none => rw [hh] at hv; cases hv
 | some o =>
   cases o with
   | cells c ty fr =>
     rw [hh] at hv
     simp only [Option.some.injEq] at hv
     subst hv
     refine ⟨ty, fr, ?_⟩
     show W.heap[g]? = _
     rw [hh, ← hc]
   | _ => rw [hh] at hv; cases hv
theorem Sat.lt [Tracks] {I : Imm} {M : List MObj} {w : World} (hs : Sat P I M w) : (∀ b, (∃ o, I.heap b = some o) → b < w.heap.size) ∧ ∀ b ∈ blocks M, b < w.heap.size := by
 have key : ∀ b o, w.heap[b]? = some o → b < w.heap.size := fun b o h => by
  rcases Nat.lt_or_ge b w.heap.size with h' | h'
  ·exact h'
  ·simp [Array.getElem?_eq_none h'] at h
 refine ⟨fun b ⟨o, h⟩ => key b o (hs.imm b o h), fun b hb => ?_⟩
 simp only [blocks, List.mem_flatMap] at hb
 obtain ⟨m, hm, hb⟩ := hb
 obtain ⟨o, ho⟩ := (hs.obj m hm).lies hb
 exact key b o ho
end Go.HL
end
section
namespace Go.HL
section
variable {P : Program} {e : Env} {dst : Option Tmp} {ty : TypeId} {pos : String} {af : Array Edge} {g : Option (Nat × Bool)} {M : List MObj} {K : HVal → List MObj → Prop}
end
end Go.HL
end
section
namespace Go.HL
section
variable {P : Program} {e : Env} {dst : Option Tmp} {ty : TypeId} {pos : String} {af : Array Edge} {g : Option (Nat × Bool)} {M : List MObj} {K : HVal → List MObj → Prop}
end
section
variable {P : Program}
end
end Go.HL
end
section
namespace Go.HL
section
variable {κ : Type} [DecidableEq κ]
def kput (x : κ) (h : HVal) : List (κ × HVal) → List (κ × HVal)
 | [] => [(x, h)]
 | p :: r => if x = p.1 then (x, h) :: r else p :: kput x h r
def KNodup (l : List (κ × HVal)) : Prop := (l.map (·.1)).Nodup
theorem kput_keys {x y : κ} {h : HVal} : ∀ {l : List (κ × HVal)}, y ∈ (kput x h l).map (·.1) ↔ y = x ∨ y ∈ l.map (·.1)
 | [] => by simp [kput]
 | p :: r => by
   simp only [kput]
   split
   ·rename_i e; subst e; simp
   ·simp only [List.map_cons, List.mem_cons, kput_keys]
    constructor
    ·rintro (a | a | a)
     ·exact .inr (.inl a)
     ·exact .inl a
     ·exact .inr (.inr a)
    ·rintro (a | a | a)
     ·exact .inr (.inl a)
     ·exact .inl a
     ·exact .inr (.inr a)
theorem KNodup.put {x : κ} {h : HVal} : ∀ {l : List (κ × HVal)}, KNodup l → KNodup (kput x h l)
 | [], _ => by simp [KNodup, kput]
 | p :: r, hn => by
   unfold KNodup at *
   simp only [List.map_cons, List.nodup_cons] at hn
   simp only [kput]
   split
   ·rename_i e; subst e; simpa using hn
   ·rename_i e
    simp only [List.map_cons, List.nodup_cons]
    refine ⟨fun q => ?_, KNodup.put (l := r) hn.2⟩
    rcases kput_keys.1 q with q | q
    ·exact e q.symm
    ·exact hn.1 q
variable {P : Program} {kt : TypeId} {ek : κ → HVal}
variable [Tracks] {e : Env} {dst : Option Tmp} {ty : TypeId} {pos : String} {af : Array Edge} {g : Option (Nat × Bool)} {M : List MObj} {K : HVal → List MObj → Prop}
end
end Go.HL
end
section
namespace Go.HL
section
variable {P : Program}
end
/-! ranges -/
section
variable {P : Program} {e : Env} {dst : Option Tmp} {ty : TypeId} {pos : String} {af : Array Edge} {g : Option (Nat × Bool)} {M : List MObj} {K : HVal → List MObj → Prop}
end
end Go.HL
end
section
namespace Go.HL
section
variable {P : Program} {e : Env} {dst : Option Tmp} {ty : TypeId} {pos : String} {af : Array Edge} {g : Option (Nat × Bool)} {M : List MObj} {K : HVal → List MObj → Prop}
end
section
variable {κ : Type} [DecidableEq κ]
variable {P : Program} {kt : TypeId} {ek : κ → HVal} {e : Env} {dst : Option Tmp} {ty : TypeId} {pos : String} {af : Array Edge} {g : Option (Nat × Bool)} {M : List MObj} {K : HVal → List MObj → Prop}
end
end Go.HL
end
section
namespace Go.HL
section
variable {κ : Type} [DecidableEq κ] {α : Type}
def alk (x : κ) : List (κ × α) → Option α
 | [] => none
 | p :: r => if x = p.1 then some p.2 else alk x r
def aput (x : κ) (v : α) : List (κ × α) → List (κ × α)
 | [] => [(x, v)]
 | p :: r => if x = p.1 then (x, v) :: r else p :: aput x v r
theorem alk_put (x y : κ) (v : α) : ∀ (l : List (κ × α)), alk y (aput x v l) = if y = x then some v else alk y l
 | [] => by simp [aput, alk]
 | p :: r => by
   have ih := alk_put x y v r
   simp only [aput]
   by_cases h : x = p.1
   ·subst h
    rw [if_pos rfl]; simp only [alk]
    by_cases hy : y = p.1
    ·rw [if_pos hy, if_pos hy]
    ·rw [if_neg hy, if_neg hy, if_neg hy]
   ·rw [if_neg h]; simp only [alk]
    by_cases hy : y = p.1
    ·have : ¬ y = x := fun e => h (e ▸ hy)
     rw [if_pos hy, if_neg this, if_pos hy]
    ·rw [if_neg hy, ih, if_neg hy]
theorem aput_keys {x y : κ} {v : α} : ∀ {l : List (κ × α)}, y ∈ (aput x v l).map (·.1) ↔ y = x ∨ y ∈ l.map (·.1)
 | [] => by simp [aput]
 | p :: r => by
   have ih := aput_keys (x := x) (y := y) (v := v) (l := r)
   simp only [aput]
   by_cases h : x = p.1
   ·subst h; rw [if_pos rfl]; simp
   ·rw [if_neg h]; simp only [List.map_cons, List.mem_cons, ih]
    constructor
    ·rintro (h | h | h)
     ·exact .inr (.inl h)
     ·exact .inl h
     ·exact .inr (.inr h)
    ·rintro (h | h | h)
     ·exact .inr (.inl h)
     ·exact .inl h
     ·exact .inr (.inr h)
def ANodup (l : List (κ × α)) : Prop := (l.map (·.1)).Nodup
theorem ANodup.nil {A B : Type} : ANodup ([] : List (A × B)) := List.nodup_nil
theorem ANodup.put {x : κ} {v : α} : ∀ {l : List (κ × α)}, ANodup l → ANodup (aput x v l)
 | [], _ => by simp [ANodup, aput]
 | p :: r, hn => by
   have h1 := (List.nodup_cons.1 hn)
   by_cases h : x = p.1
   ·subst h
    have e : aput p.1 v (p :: r) = (p.1, v) :: r := by simp [aput]
    rw [e]; exact List.nodup_cons.2 h1
   ·have e : aput x v (p :: r) = p :: aput x v r := by simp [aput, h]
    rw [e]
    refine List.nodup_cons.2 ⟨fun hm => ?_, ANodup.put (l := r) h1.2⟩
    rcases aput_keys.1 hm with e | e
    ·exact h e.symm
    ·exact h1.1 e
theorem alk_of_mem {x : κ} {v : α} : ∀ {l : List (κ × α)}, alk x l = some v → (x, v) ∈ l
 | [], h => by simp [alk] at h
 | p :: r, h => by
   simp only [alk] at h
   by_cases hx : x = p.1
   ·rw [if_pos hx] at h; cases h; rw [hx]; exact List.mem_cons_self
   ·rw [if_neg hx] at h; exact List.mem_cons_of_mem _ (alk_of_mem h)
theorem aput_len (x : κ) (v : α) : ∀ (l : List (κ × α)), (aput x v l).length = if (alk x l).isSome then l.length else l.length + 1
 | [] => by simp [aput, alk]
 | p :: r => by
   have ih := aput_len x v r
   by_cases h : x = p.1
   ·have e1 : aput x v (p :: r) = (x, v) :: r := by simp [aput, h]
    have e2 : alk x (p :: r) = some p.2 := by simp [alk, h]
    rw [e1, e2]; simp
   ·have e1 : aput x v (p :: r) = p :: aput x v r := by simp [aput, h]
    have e2 : alk x (p :: r) = alk x r := by simp [alk, h]
    rw [e1, e2, List.length_cons, ih]; split <;> simp
theorem aput_le (x : κ) (v : α) (l : List (κ × α)) : (aput x v l).length ≤ l.length + 1 := by rw [aput_len]; split <;> omega
theorem mem_aput {x : κ} {v : α} {p : κ × α} : ∀ {l : List (κ × α)}, p ∈ aput x v l → p = (x, v) ∨ p ∈ l
 | [], hp => by simp [aput] at hp; exact .inl hp
 | q :: r, hp => by
   simp only [aput] at hp
   by_cases h : x = q.1
   ·rw [if_pos h] at hp
    rcases List.mem_cons.1 hp with e | e
    ·exact .inl e
    ·exact .inr (List.mem_cons_of_mem _ e)
   ·rw [if_neg h] at hp
    rcases List.mem_cons.1 hp with e | e
    ·exact .inr (e ▸ List.mem_cons_self)
    ·rcases mem_aput e with e | e
     ·exact .inl e
     ·exact .inr (List.mem_cons_of_mem _ e)
end
section
variable {κ : Type} [DecidableEq κ] {α : Type}
variable {P : Program} {e : Env} {dst : Option Tmp} {ty : TypeId} {pos : String} {af : Array Edge} {g : Option (Nat × Bool)} {M : List MObj} {K : HVal → List MObj → Prop}
variable {kt : TypeId} {ek : κ → HVal}
end
end Go.HL
end
section
namespace Go.HL
section
variable {α : Type}
def Srt (c : α → α → Int) (l : List α) : Prop := l.Pairwise fun a b => c a b ≤ 0
theorem Cmp.self {c : α → α → Int} (hc : Cmp c fun _ => True) (x : α) : c x x ≤ 0 := by
 have := hc.flip x x trivial trivial; omega
theorem Srt.get {c : α → α → Int} (hc : Cmp c fun _ => True) {l : List α} (h : Srt c l) {i j : Nat} {x y : α} (hij : i ≤ j) (hx : l[i]? = some x) (hy : l[j]? = some y) : c x y ≤ 0 := by
 rcases Nat.lt_or_ge i j with hlt | hge
 ·have h1 := lt_of_get hx
  have h2 := lt_of_get hy
  have := List.pairwise_iff_getElem.1 h i j h1 h2 hlt
  rw [List.getElem?_eq_getElem h1] at hx
  rw [List.getElem?_eq_getElem h2] at hy
  rw [Option.some.inj hx, Option.some.inj hy] at this
  exact this
 ·have e : i = j := by omega
  rw [e, hy] at hx
  rw [Option.some.inj hx]; exact hc.self _
theorem mem_take_get {l : List α} {k : Nat} {z : α} (h : z ∈ l.take k) : ∃ i, i < k ∧ l[i]? = some z := by
 obtain ⟨i, hi⟩ := List.getElem?_of_mem h
 have hik : i < k := by have := lt_of_get hi; rw [List.length_take] at this; omega
 rw [List.getElem?_take_of_lt hik] at hi
 exact ⟨i, hik, hi⟩
theorem mem_drop_get {l : List α} {k : Nat} {z : α} (h : z ∈ l.drop k) : ∃ i, k ≤ i ∧ l[i]? = some z := by
 obtain ⟨i, hi⟩ := List.getElem?_of_mem h
 rw [List.getElem?_drop] at hi
 exact ⟨k + i, by omega, hi⟩
/-- All that goes to the left is at most all that goes to the right. -/
theorem sym_split {c : α → α → Int} (hc : Cmp c fun _ => True) {X Y : List α} {k j : Nat} (hX : Srt c X) (hY : Srt c Y) (hk : k ≤ X.length) (hj : j ≤ Y.length)
 (h1 : ∀ x y, X[k - 1]? = some x → Y[j]? = some y → 0 < k → c x y ≤ 0) (h2 : ∀ x y, Y[j - 1]? = some y → X[k]? = some x → 0 < j → c y x ≤ 0) :
 ∀ z ∈ X.take k ++ Y.take j, ∀ w ∈ X.drop k ++ Y.drop j, c z w ≤ 0 := by
 intro z hz w hw
 rcases List.mem_append.1 hz with hz | hz <;> rcases List.mem_append.1 hw with hw | hw
 ·obtain ⟨i, hi, hz⟩ := mem_take_get hz
  obtain ⟨i', hi', hw⟩ := mem_drop_get hw
  exact hX.get hc (by omega) hz hw
 ·obtain ⟨i, hi, hz⟩ := mem_take_get hz
  obtain ⟨i', hi', hw⟩ := mem_drop_get hw
  have hl := lt_of_get hw
  have a1 := List.getElem?_eq_getElem (l := X) (i := k - 1) (by omega)
  have a2 := List.getElem?_eq_getElem (l := Y) (i := j) (by omega)
  have b1 := hX.get hc (show i ≤ k - 1 by omega) hz a1
  have b2 := h1 _ _ a1 a2 (by omega)
  have b3 := hY.get hc hi' a2 hw
  exact hc.trans _ _ _ trivial trivial trivial (hc.trans _ _ _ trivial trivial trivial b1 b2) b3
 ·obtain ⟨i, hi, hz⟩ := mem_take_get hz
  obtain ⟨i', hi', hw⟩ := mem_drop_get hw
  have hl := lt_of_get hw
  have a1 := List.getElem?_eq_getElem (l := Y) (i := j - 1) (by omega)
  have a2 := List.getElem?_eq_getElem (l := X) (i := k) (by omega)
  have b1 := hY.get hc (show i ≤ j - 1 by omega) hz a1
  have b2 := h2 _ _ a1 a2 (by omega)
  have b3 := hX.get hc hi' a2 hw
  exact hc.trans _ _ _ trivial trivial trivial (hc.trans _ _ _ trivial trivial trivial b1 b2) b3
 ·obtain ⟨i, hi, hz⟩ := mem_take_get hz
  obtain ⟨i', hi', hw⟩ := mem_drop_get hw
  exact hY.get hc (by omega) hz hw
theorem Srt.take {c : α → α → Int} {l : List α} (h : Srt c l) (k : Nat) : Srt c (l.take k) := List.Pairwise.sublist (List.take_sublist k l) h
theorem Srt.drop {c : α → α → Int} {l : List α} (h : Srt c l) (k : Nat) : Srt c (l.drop k) := List.Pairwise.sublist (List.drop_sublist k l) h
theorem Srt.app {c : α → α → Int} {A B : List α} (h1 : Srt c A) (h2 : Srt c B) (h : ∀ x ∈ A, ∀ y ∈ B, c x y ≤ 0) : Srt c (A ++ B) := List.pairwise_append.2 ⟨h1, h2, h⟩
theorem Srt.nil {c : α → α → Int} : Srt c [] := List.Pairwise.nil
/-- Two parts that are merged by themselves. -/
theorem sym_join {c : α → α → Int} (hc : Cmp c fun _ => True) {X Y Z1 Z2 : List α} {k j : Nat} (hX : Srt c X) (hY : Srt c Y) (hk : k ≤ X.length) (hj : j ≤ Y.length)
 (h1 : ∀ x y, X[k - 1]? = some x → Y[j]? = some y → 0 < k → c x y ≤ 0) (h2 : ∀ x y, Y[j - 1]? = some y → X[k]? = some x → 0 < j → c y x ≤ 0)
 (p1 : Z1.Perm (X.take k ++ Y.take j)) (p2 : Z2.Perm (X.drop k ++ Y.drop j)) (s1 : Srt c Z1) (s2 : Srt c Z2) : (Z1 ++ Z2).Perm (X ++ Y) ∧ Srt c (Z1 ++ Z2) := by
 refine ⟨?_, s1.app s2 fun x hx y hy => sym_split hc hX hY hk hj h1 h2 x (p1.mem_iff.1 hx) y (p2.mem_iff.1 hy)⟩
 refine (p1.append p2).trans ?_
 have e1 : X.take k ++ Y.take j ++ (X.drop k ++ Y.drop j) = X.take k ++ (Y.take j ++ X.drop k) ++ Y.drop j := by simp
 have e2 : X ++ Y = X.take k ++ (X.drop k ++ Y.take j) ++ Y.drop j := by
  have h3 := List.take_append_drop k X
  have h4 := List.take_append_drop j Y
  calc X ++ Y = (X.take k ++ X.drop k) ++ (Y.take j ++ Y.drop j) := by rw [h3, h4]
   _ = _ := by simp only [List.append_assoc]
 rw [e1, e2]
 exact ((List.perm_append_comm).append_left _).append_right _
/-- One element is put into a sorted list, from the left. -/
theorem one_left {c : α → α → Int} (hc : Cmp c fun _ => True) {x : α} {Y : List α} {j : Nat} (hY : Srt c Y) (hj : j ≤ Y.length) (h1 : ∀ y, Y[j]? = some y → c x y ≤ 0) (h2 : ∀ y, Y[j - 1]? = some y → 0 < j → c y x ≤ 0) :
 (Y.take j ++ x :: Y.drop j).Perm ([x] ++ Y) ∧ Srt c (Y.take j ++ x :: Y.drop j) := by
 have hX : Srt c [x] := List.pairwise_singleton _ _
 have key := sym_join (k := 0) (Z1 := Y.take j) (Z2 := x :: Y.drop j) hc hX hY (Nat.zero_le _) hj (fun _ _ _ _ h => absurd h (Nat.lt_irrefl _)) (fun x' y hy hx' h => by
  simp at hx'; subst hx'; exact h2 y hy h) (by simp) (by simp) (hY.take j) ?_
 ·exact key
 ·refine List.pairwise_cons.2 ⟨fun y hy => ?_, hY.drop j⟩
  obtain ⟨i, hi, hy⟩ := mem_drop_get hy
  have hl := lt_of_get hy
  have a2 := List.getElem?_eq_getElem (l := Y) (i := j) (by omega)
  exact hc.trans _ _ _ trivial trivial trivial (h1 _ a2) (hY.get hc hi a2 hy)
/-- One element is put into a sorted list, from the right. -/
theorem one_right {c : α → α → Int} (hc : Cmp c fun _ => True) {y : α} {X : List α} {k : Nat} (hX : Srt c X) (hk : k ≤ X.length) (h1 : ∀ x, X[k - 1]? = some x → 0 < k → c x y ≤ 0) (h2 : ∀ x, X[k]? = some x → c y x ≤ 0) :
 (X.take k ++ y :: X.drop k).Perm (X ++ [y]) ∧ Srt c (X.take k ++ y :: X.drop k) := by
 refine ⟨?_, ?_⟩
 ·have e : X ++ [y] = X.take k ++ (X.drop k ++ [y]) := by rw [← List.append_assoc, List.take_append_drop]
  rw [e]
  exact (List.perm_append_comm (l₁ := [y]) (l₂ := X.drop k)).append_left _
 ·refine (hX.take k).app (List.pairwise_cons.2 ⟨fun x hx => ?_, hX.drop k⟩) fun z hz w hw => ?_
  ·obtain ⟨i, hi, hx⟩ := mem_drop_get hx
   have hl := lt_of_get hx
   have a2 := List.getElem?_eq_getElem (l := X) (i := k) (by omega)
   exact hc.trans _ _ _ trivial trivial trivial (h2 _ a2) (hX.get hc hi a2 hx)
  ·obtain ⟨i, hi, hz⟩ := mem_take_get hz
   have hl := lt_of_get hz
   rcases List.mem_cons.1 hw with rfl | hw
   ·have a1 := List.getElem?_eq_getElem (l := X) (i := k - 1) (by omega)
    exact hc.trans _ _ _ trivial trivial trivial (hX.get hc (show i ≤ k - 1 by omega) hz a1) (h1 _ a1 (by omega))
   ·obtain ⟨i', hi', hw⟩ := mem_drop_get hw
    exact hX.get hc (by omega) hz hw
end
end Go.HL
end
section
namespace Go.HL
section
variable {P : Program} {ops : Array Oper} {n : Nat} {S : List MObj → Prop} {ld : List Nat} {K : Env → List MObj → Prop} {e : Env} {M : List MObj} {listed : Array Bool} {fuel : Nat} {d : Nat} {op : Op} {ty : TypeId} {pos : String} {af : Array Edge} {h : HVal}
/-- A load under a guard out of owned objects of which S knows enough is taken first. -/
theorem ahgl [Tracks] (i : Nat) {j : Nat} {want c : Bool} (hi : ops[i]? = some ⟨some d, op, ty, pos, af, some (j, want)⟩) (hd : Nat.blt d n = true) (hf : Region.free .any ops listed i = true) (hr : (Region.ready .any ops listed).contains i = true) (hl : i ∈ ld) (hS : S M)
 (hg : guardC ops e j want = some c) (hp : c = true → ∃ e2, OpenTo e e2 ∧ ∀ M, S M → EOp P e2 M ⟨some d, op, ty, pos, af, some (j, want)⟩ fun x M' => x = h ∧ M' = M)
 (k : HAny P ops n S ld K fuel (listed.setIfInBounds i true) (upd e d (.opt c h)) M) : HAny P ops n S ld K (fuel + 1) listed e M :=
 HAny.first (T := S) hi (fun t ht => by simp at ht; subst ht; exact blt_lt hd) (.inr ⟨rfl, hl⟩) fuel listed e M (Region.free_spec hi hf) (by simpa using hr)
  ⟨c, hg, fun hc M hM => by
   obtain ⟨e2, h1, h2⟩ := hp hc
   intro I F a w ho hs
   exact Oper.wp_noQ (fun _ _ ⟨v, x, M', J, h3, h4, ⟨e1, e3⟩, h5, h6⟩ => ⟨v, .opt c h, M, J, h3, h4, ⟨rfl, rfl⟩, .opt (fun _ => e1 ▸ h5) (fun hf => by rw [hc] at hf; cases hf), e3 ▸ h6⟩) (h2 M hM I F a w (ho.open h1) hs),
   fun hc => ⟨h, by rw [hc]⟩⟩ hS k
end
theorem wrap8 {x : Nat} (h : x < 16) : IntKind.wrap .u8 (x : Int) = (x : Int) := by
 have : (List.range 16).all (fun x => IntKind.wrap .u8 (x : Int) == (x : Int)) = true := by decide
 simpa using List.all_eq_true.1 this x (List.mem_range.2 h)
theorem wrapu64 {x : Nat} (h : x < 16) : IntKind.wrap .u64 (x : Int) = (x : Int) := by
 have : (List.range 16).all (fun x => IntKind.wrap .u64 (x : Int) == (x : Int)) = true := by decide
 simpa using List.all_eq_true.1 this x (List.mem_range.2 h)
theorem some_int {k : IntKind} {a b : Int} (h : a = b) : some (HVal.int k a) = some (.int k b) := by rw [h]
section
variable {α : Type} {c : α → α → Int}
theorem isort_take1 (l : List α) : isort c (l.take 1) ++ l.drop 1 = l := by
 cases l with
 | nil => rfl
 | cons x r => simp [isort, insB, insF]
theorem get_mid {A R : List α} {x : α} : (A ++ x :: R)[A.length]? = some x := by simp
theorem get_before {A R : List α} {x : α} (h : 0 < A.length) : (A ++ x :: R)[A.length - 1]? = some ((A[A.length - 1]?).getD x) := by
 rw [List.getElem?_append_left (by omega), List.getElem?_eq_getElem (by omega)]
 simp [List.getElem?_eq_getElem (show A.length - 1 < A.length by omega)]
theorem snoc_of {A : List α} (h : 0 < A.length) : ∃ B y, A = B ++ [y] := by
 have hne : A ≠ [] := fun e => by subst e; simp at h
 exact ⟨_, _, (List.dropLast_concat_getLast hne).symm⟩
theorem getD_snoc {A : List α} {y d : α} : ((A ++ [y])[(A ++ [y]).length - 1]?).getD d = y := by simp
theorem swap_mid {A R : List α} {x y : α} : (((A ++ [y]) ++ x :: R).set (A ++ [y]).length y).set ((A ++ [y]).length - 1) x = A ++ x :: y :: R := by
 have e1 : ((A ++ [y]) ++ x :: R).set (A ++ [y]).length y = (A ++ [y]) ++ y :: R := by rw [List.set_append_right _ _ (Nat.le_refl _)]; simp
 rw [e1, List.append_assoc]
 have e2 : (A ++ [y]).length - 1 = A.length := by simp
 rw [e2, List.set_append_right _ _ (Nat.le_refl _)]
 simp
/-- The inner loop ends. -/
theorem ins_exit {l A B : List α} {x : α} {k : Nat} (hx : l[k]? = some x) (hB : insB c x (isort c (l.take k)) = insB c x A ++ B) (h : 0 < A.length → ¬ c x ((A[A.length - 1]?).getD x) < 0) : A ++ x :: (B ++ l.drop (k + 1)) = isort c (l.take (k + 1)) ++ l.drop (k + 1) := by
 rw [take_snoc' hx, isort_snoc, hB]
 rcases Nat.eq_zero_or_pos A.length with h0 | h0
 ·obtain rfl := List.length_eq_zero_iff.1 h0
  simp [insB_nil]
 ·obtain ⟨A', y, rfl⟩ := snoc_of h0
  have := h h0
  rw [getD_snoc] at this
  rw [insB_snoc, if_neg this]; simp
theorem ins_step {A B : List α} {x y : α} {S : List α} (hB : insB c x S = insB c x (A ++ [y]) ++ B) (h : c x y < 0) : insB c x S = insB c x A ++ (y :: B) := by
 rw [hB, insB_snoc, if_pos h]; simp
end
end Go.HL
namespace Go.HL
section
variable {α : Type} {p : α → Bool}
theorem idxF_found (p : α → Bool) : ∀ (l : List α) (k : Int), 0 ≤ k → idxF p l k ≠ -1 → ∃ i : Nat, idxF p l k = k + i ∧ i < l.length ∧ (∃ x, l[i]? = some x ∧ p x = true) ∧ ∀ y ∈ l.take i, p y = false
 | [], k, _, h => by simp [idxF] at h
 | x :: r, k, h0, h => by
   by_cases hx : p x = true
   ·exact ⟨0, by simp [idxF, hx], by simp, ⟨x, rfl, hx⟩, by simp⟩
   ·have e : idxF p (x :: r) k = idxF p r (k + 1) := by simp [idxF, hx]
    rw [e] at h ⊢
    obtain ⟨i, h1, h2, ⟨y, h3, h4⟩, h5⟩ := idxF_found p r (k + 1) (by omega) h
    refine ⟨i + 1, by rw [h1]; simp; omega, by simp; omega, ⟨y, by simpa using h3, h4⟩, fun z hz => ?_⟩
    simp only [List.take_succ_cons, List.mem_cons] at hz
    rcases hz with rfl | hz
    ·simpa using hx
    ·exact h5 z hz
end
theorem slOff_or {cap off sz m n : Nat} (h1 : m ≤ n) (h2 : n ≤ cap) : n - m = 0 ∨ slOff cap off sz m = off + m * sz := by
 unfold slOff
 by_cases h : cap = m
 ·exact .inl (by omega)
 ·exact .inr (by rw [if_neg h])
end Go.HL
namespace Go.HL
end Go.HL
end
section
namespace Go.HL
section
variable {α : Type} {c : α → α → Int}
/-- Each block of so many elements is sorted. -/
def Blk (c : α → α → Int) (bs : Nat) (l : List α) : Prop := ∀ q, Srt c ((l.drop (bs * q)).take bs)
theorem Blk.all {bs : Nat} {l : List α} (h : Blk c bs l) (hl : l.length ≤ bs) : Srt c l := by
 have := h 0
 rw [Nat.mul_zero, List.drop_zero, List.take_of_length_le hl] at this
 exact this
theorem Blk.nil {bs : Nat} : Blk c bs [] := fun q => by simp [Srt.nil]
theorem Blk.add {bs k : Nat} {Z W : List α} (h : Blk c bs Z) (hZ : Z.length = bs * k) (hW : Srt c W) (hl : W.length ≤ bs) : Blk c bs (Z ++ W) := by
 intro q
 rcases Nat.lt_trichotomy q k with hq | hq | hq
 ·have h1 : bs * q + bs ≤ Z.length := by rw [hZ, ← Nat.mul_succ]; exact Nat.mul_le_mul_left bs hq
  rw [List.drop_append_of_le_length (by omega), List.take_append_of_le_length (by rw [List.length_drop]; omega)]
  exact h q
 ·rw [hq, ← hZ, List.drop_left, List.take_of_length_le hl]; exact hW
 ·have h1 : Z.length + bs ≤ bs * q := by rw [hZ, ← Nat.mul_succ]; exact Nat.mul_le_mul_left bs hq
  rw [List.drop_of_length_le (by rw [List.length_append]; omega)]
  simp [Srt.nil]
theorem Blk.at {bs q a : Nat} {l : List α} (h : Blk c bs l) (ha : a = bs * q) : Srt c ((l.drop a).take bs) := by rw [ha]; exact h q
theorem Blk.last {bs q a : Nat} {l : List α} (h : Blk c bs l) (ha : a = bs * q) (hl : l.length ≤ a + bs) : Srt c (l.drop a) := by
 have := h.at ha
 rw [List.take_of_length_le (by rw [List.length_drop]; omega)] at this
 exact this
/-- Two parts of one length, of which the first so many elements have changed places. -/
def swR (A X B Y C : List α) (k : Nat) : List α := A ++ (Y.take k ++ X.drop k) ++ (B ++ (X.take k ++ Y.drop k) ++ C)
theorem swR_zero (A X B Y C : List α) : swR A X B Y C 0 = A ++ X ++ B ++ Y ++ C := by simp [swR]
theorem swR_end {A X B Y C : List α} (h : X.length = Y.length) : swR A X B Y C X.length = A ++ Y ++ B ++ X ++ C := by
 unfold swR
 rw [List.take_of_length_le (Nat.le_of_eq h.symm), List.drop_of_length_le (Nat.le_refl _), List.take_of_length_le (Nat.le_refl _), List.drop_of_length_le (Nat.le_of_eq h.symm)]
 simp
theorem swR_form {A X B Y C : List α} {k : Nat} {x y : α} (hx : X[k]? = some x) (hy : Y[k]? = some y) :
 swR A X B Y C k = (A ++ Y.take k) ++ x :: ((X.drop (k + 1) ++ B ++ X.take k) ++ y :: (Y.drop (k + 1) ++ C)) := by
 unfold swR; rw [drop_cons hx, drop_cons hy]; simp
theorem swR_step {A X B Y C : List α} {k : Nat} {x y : α} (hx : X[k]? = some x) (hy : Y[k]? = some y) :
 swR A X B Y C (k + 1) = (A ++ Y.take k) ++ y :: ((X.drop (k + 1) ++ B ++ X.take k) ++ x :: (Y.drop (k + 1) ++ C)) := by
 unfold swR; rw [take_snoc' hx, take_snoc' hy]; simp
theorem two_get1 {P Q R : List α} {x y : α} : (P ++ x :: (Q ++ y :: R))[P.length]? = some x := by simp
theorem two_get2 {P Q R : List α} {x y : α} {j : Nat} (hj : j = P.length + 1 + Q.length) : (P ++ x :: (Q ++ y :: R))[j]? = some y := by
 have e : P ++ x :: (Q ++ y :: R) = (P ++ x :: Q) ++ y :: R := by simp
 have hl : (P ++ x :: Q).length = j := by simp; omega
 rw [e, ← hl]; simp
theorem two_set {P Q R : List α} {x y x' y' : α} {i j : Nat} (hi : i = P.length) (hj : j = P.length + 1 + Q.length) : ((P ++ x :: (Q ++ y :: R)).set i x').set j y' = P ++ x' :: (Q ++ y' :: R) := by
 subst hi
 have e1 : (P ++ x :: (Q ++ y :: R)).set P.length x' = P ++ x' :: (Q ++ y :: R) := by rw [List.set_append_right _ _ (Nat.le_refl _)]; simp
 have e : P ++ x' :: (Q ++ y :: R) = (P ++ x' :: Q) ++ y :: R := by simp
 have hl : (P ++ x' :: Q).length = j := by simp; omega
 rw [e1, e, ← hl, List.set_append_right _ _ (Nat.le_refl _)]; simp
theorem swR_get1 {A X B Y C : List α} {k : Nat} {x y : α} (hx : X[k]? = some x) (hy : Y[k]? = some y) : (swR A X B Y C k)[A.length + k]? = some x := by
 have hk := lt_of_get hy
 have e : A.length + k = (A ++ Y.take k).length := by rw [List.length_append, List.length_take]; omega
 rw [swR_form hx hy, e]; exact two_get1
theorem swR_pos {A X B Y C : List α} {k : Nat} {x y : α} (hx : X[k]? = some x) (hy : Y[k]? = some y) : A.length + X.length + B.length + k = (A ++ Y.take k).length + 1 + (X.drop (k + 1) ++ B ++ X.take k).length := by
 have hk := lt_of_get hy
 have hk' := lt_of_get hx
 simp only [List.length_append, List.length_take, List.length_drop]; omega
theorem swR_get2 {A X B Y C : List α} {k : Nat} {x y : α} (hx : X[k]? = some x) (hy : Y[k]? = some y) : (swR A X B Y C k)[A.length + X.length + B.length + k]? = some y := by
 rw [swR_form hx hy]; exact two_get2 (swR_pos (C := C) hx hy)
theorem swR_get2' {A X B Y C : List α} {k : Nat} {x y z : α} (hx : X[k]? = some x) (hy : Y[k]? = some y) : ((swR A X B Y C k).set (A.length + k) z)[A.length + X.length + B.length + k]? = some y := by
 have hk' := lt_of_get hx
 rw [List.getElem?_set_ne (by omega)]; exact swR_get2 hx hy
theorem swR_set {A X B Y C : List α} {k : Nat} {x y : α} (hx : X[k]? = some x) (hy : Y[k]? = some y) : ((swR A X B Y C k).set (A.length + k) y).set (A.length + X.length + B.length + k) x = swR A X B Y C (k + 1) := by
 have hk := lt_of_get hy
 have e : A.length + k = (A ++ Y.take k).length := by rw [List.length_append, List.length_take]; omega
 rw [swR_form hx hy, swR_step hx hy]
 exact two_set e (swR_pos (C := C) hx hy)
/-! one element wanders -/
def wan (A Y : List α) (x : α) (C : List α) (j : Nat) : List α := A ++ (Y.take j ++ x :: Y.drop j) ++ C
theorem wan_zero (A Y C : List α) (x : α) : wan A Y x C 0 = A ++ [x] ++ Y ++ C := by simp [wan]
theorem wan_end (A Y C : List α) (x : α) : wan A Y x C Y.length = A ++ Y ++ [x] ++ C := by simp [wan]
theorem wan_form {A Y C : List α} {x y : α} {j : Nat} (hy : Y[j]? = some y) : wan A Y x C j = (A ++ Y.take j) ++ x :: ([] ++ y :: (Y.drop (j + 1) ++ C)) := by
 unfold wan; rw [drop_cons hy]; simp
theorem wan_step {A Y C : List α} {x y : α} {j : Nat} (hy : Y[j]? = some y) : wan A Y x C (j + 1) = (A ++ Y.take j) ++ y :: ([] ++ x :: (Y.drop (j + 1) ++ C)) := by
 unfold wan; rw [take_snoc' hy]; simp
theorem wan_len {A Y C : List α} {x y : α} {j : Nat} (hy : Y[j]? = some y) : A.length + j = (A ++ Y.take j).length := by
 have := lt_of_get hy
 rw [List.length_append, List.length_take]; omega
theorem wan_get1 {A Y C : List α} {x y : α} {j : Nat} (hy : Y[j]? = some y) : (wan A Y x C j)[A.length + j]? = some x := by
 rw [wan_form hy, wan_len (A := A) (C := C) (x := x) hy]; exact two_get1
theorem wan_get2 {A Y C : List α} {x y : α} {j : Nat} (hy : Y[j]? = some y) : (wan A Y x C j)[A.length + j + 1]? = some y := by
 rw [wan_form hy, wan_len (A := A) (C := C) (x := x) hy]; exact two_get2 rfl
/-- To the right. -/
theorem wan_set {A Y C : List α} {x y : α} {j : Nat} (hy : Y[j]? = some y) : ((wan A Y x C j).set (A.length + j) y).set (A.length + j + 1) x = wan A Y x C (j + 1) := by
 rw [wan_form hy, wan_step hy, wan_len (A := A) (C := C) (x := x) hy]; exact two_set rfl rfl
theorem wan_get2' {A Y C : List α} {x y z : α} {j : Nat} (hy : Y[j]? = some y) : ((wan A Y x C j).set (A.length + j) z)[A.length + j + 1]? = some y := by
 rw [List.getElem?_set_ne (by omega)]; exact wan_get2 hy
/-- To the left: the element is at j + 1, the one ahead of it at j. -/
theorem wan_at {A Y C : List α} {x y : α} {j : Nat} (hy : Y[j]? = some y) : (wan A Y x C (j + 1))[A.length + j + 1]? = some x ∧ (wan A Y x C (j + 1))[A.length + j]? = some y := by
 rw [wan_step hy, wan_len (A := A) (C := C) (x := x) hy]
 exact ⟨two_get2 rfl, two_get1⟩
theorem wan_at' {A Y C : List α} {x y z : α} {j : Nat} (hy : Y[j]? = some y) : ((wan A Y x C (j + 1)).set (A.length + j + 1) z)[A.length + j]? = some y := by
 rw [List.getElem?_set_ne (by omega)]; exact (wan_at hy).2
theorem wan_back {A Y C : List α} {x y : α} {j : Nat} (hy : Y[j]? = some y) : ((wan A Y x C (j + 1)).set (A.length + j + 1) y).set (A.length + j) x = wan A Y x C j := by
 have h := two_set (P := A ++ Y.take j) (Q := []) (R := Y.drop (j + 1) ++ C) (x := y) (y := x) (x' := x) (y' := y) (i := A.length + j) (j := A.length + j + 1) (wan_len (C := C) (x := x) hy) (by rw [wan_len (A := A) (C := C) (x := x) hy]; rfl)
 rw [wan_step hy, wan_form hy, List.set_comm _ _ (by omega)]
 exact h
theorem last_app {A D : List α} {x : α} (h : 0 < D.length) : ((A ++ D)[(A ++ D).length - 1]?).getD x = (D[D.length - 1]?).getD x := by
 rw [List.getElem?_append_right (by rw [List.length_append]; omega)]
 congr 2; rw [List.length_append]; omega
theorem last_app2 {A D : List α} {x : α} (h : 0 < D.length) : ((A ++ D)[A.length + D.length - 1]?).getD x = (D[D.length - 1]?).getD x := by
 have := last_app (A := A) (x := x) h
 rw [List.length_append] at this; exact this
theorem last_idx {A D : List α} {x y : α} : ((A ++ (D ++ [y]))[A.length + (D ++ [y]).length - 1]?).getD x = y := by
 rw [last_app2 (by simp)]; exact getD_snoc
theorem last_get {A D R : List α} {x y : α} : ((A ++ (D ++ [y])) ++ x :: R)[(A ++ (D ++ [y])).length - 1]? = some y := by
 have e : (A ++ (D ++ [y])) ++ x :: R = (A ++ D) ++ y :: x :: R := by simp
 have hl : (A ++ (D ++ [y])).length - 1 = (A ++ D).length := by simp [← Nat.add_assoc]
 rw [e, hl]; simp
theorem ins_win {A D B E C R : List α} {x : α} (h : D ++ x :: (B ++ E) = R) : (A ++ D) ++ x :: (B ++ E ++ C) = A ++ R ++ C := by rw [← h]; simp
theorem isort_srt (hc : Cmp c fun _ => True) (l : List α) : Srt c (isort c l) := isort_sorted hc (fun _ _ => trivial)
/-- A window of a list. -/
theorem win {l : List α} {a m : Nat} : l.drop a = (l.drop a).take m ++ l.drop (a + m) := by rw [← List.drop_drop, List.take_append_drop]
theorem take_add' {l : List α} {a m : Nat} : l.take (a + m) = l.take a ++ (l.drop a).take m := List.take_add
theorem sym_cond {A X Y : List α} {d p s1 s2 : Nat} (hc : Cmp c fun _ => True) (hP : ∀ x y, X[p - 1 - A.length]? = some x → Y[d - p]? = some y → s1 < p → ¬ c y x < 0) (hQ : ∀ x y, X[p - A.length]? = some x → Y[d - 1 - p]? = some y → p < s2 → c y x < 0)
 (hs1 : s1 = A.length ∨ d = s1 + Y.length) (hs2 : s2 = A.length + X.length ∨ s2 = d) (hsp : s1 ≤ p) (hps : p ≤ s2) (hpA : A.length ≤ p) :
 (∀ x y, X[p - A.length - 1]? = some x → Y[d - p]? = some y → 0 < p - A.length → c x y ≤ 0) ∧ (∀ x y, Y[d - p - 1]? = some y → X[p - A.length]? = some x → 0 < d - p → c y x ≤ 0) := by
 refine ⟨fun x y h1 h2 h0 => ?_, fun x y h1 h2 h0 => ?_⟩
 ·have hl := lt_of_get h2
  have := hP x y (by rw [show p - 1 - A.length = p - A.length - 1 by omega]; exact h1) h2 (by omega)
  have f1 := hc.flip x y trivial trivial
  have f2 := hc.flip y x trivial trivial
  omega
 ·have hl := lt_of_get h2
  have := hQ x y h2 (by rw [show d - 1 - p = d - p - 1 by omega]; exact h1) (by omega)
  omega
theorem sym_left {X Y : List α} {k j : Nat} (hX : Srt c X) (hY : Srt c Y) (h : k = 0 ∨ j = 0) : Srt c (X.take k ++ Y.take j) := by
 rcases h with rfl | rfl
 ·simpa using hY.take j
 ·simpa using hX.take k
theorem sym_right {X Y : List α} {k j : Nat} (hX : Srt c X) (hY : Srt c Y) (h : X.length ≤ k ∨ Y.length ≤ j) : Srt c (X.drop k ++ Y.drop j) := by
 rcases h with h | h
 ·rw [List.drop_of_length_le h]; exact hY.drop j
 ·rw [List.drop_of_length_le h, List.append_nil]; exact hX.drop k
theorem sym_pre {A X Y C : List α} {k j : Nat} : A ++ X ++ Y ++ C = (A ++ X.take k) ++ X.drop k ++ Y.take j ++ (Y.drop j ++ C) := by
 have h1 := List.take_append_drop k X
 have h2 := List.take_append_drop j Y
 calc A ++ X ++ Y ++ C = A ++ (X.take k ++ X.drop k) ++ (Y.take j ++ Y.drop j) ++ C := by rw [h1, h2]
  _ = _ := by simp only [List.append_assoc]
theorem sym_noswap {A X Y C : List α} {k j : Nat} (h : X.length ≤ k ∨ j = 0) : A ++ X ++ Y ++ C = (A ++ X.take k) ++ Y.take j ++ X.drop k ++ (Y.drop j ++ C) := by
 rcases h with h | rfl
 ·rw [List.drop_of_length_le h, List.take_of_length_le h]
  have := List.take_append_drop j Y
  calc A ++ X ++ Y ++ C = A ++ X ++ (Y.take j ++ Y.drop j) ++ C := by rw [this]
   _ = _ := by simp only [List.append_assoc, List.append_nil, List.nil_append]
 ·have := List.take_append_drop k X
  calc A ++ X ++ Y ++ C = A ++ (X.take k ++ X.drop k) ++ Y ++ C := by rw [this]
   _ = _ := by simp only [List.append_assoc, List.take_zero, List.drop_zero, List.nil_append]
theorem mid_get {A X C : List α} {k : Nat} {x : α} (h : X[k]? = some x) : (A ++ X ++ C)[A.length + k]? = some x := by
 have := lt_of_get h
 rw [List.append_assoc, List.getElem?_append_right (by omega), Nat.add_sub_cancel_left, List.getElem?_append_left this]; exact h
theorem mid_get2 {A X Y C : List α} {k : Nat} {y : α} (h : Y[k]? = some y) : (A ++ X ++ Y ++ C)[A.length + X.length + k]? = some y := by
 have := mid_get (A := A ++ X) (C := C) h
 rw [List.length_append] at this; exact this
theorem mid_get1 {A X Y C : List α} {k : Nat} {x : α} (h : X[k]? = some x) : (A ++ X ++ Y ++ C)[A.length + k]? = some x := by
 have := mid_get (A := A) (C := Y ++ C) h
 rw [← List.append_assoc] at this; exact this
end
end Go.HL
end
section
namespace Go.HL
open Op (bytesLess)
/-- A list without the elements that equal the one before (p ahead of the first). -/
def uniqP (p : Option Str) : List Str → List Str
 | [] => []
 | x :: r => if p = some x then uniqP (some x) r else x :: uniqP (some x) r
theorem uniqP_snoc (x : Str) : ∀ (l : List Str) (p : Option Str), uniqP p (l ++ [x]) = uniqP p l ++ if (l.getLast?.or p) = some x then [] else [x]
 | [], p => by
   by_cases h : p = some x
   ·simp only [List.nil_append, uniqP]
    rw [if_pos h, if_pos (by simpa using h)]
   ·simp only [List.nil_append, uniqP]
    rw [if_neg h, if_neg (by simpa using h)]
 | y :: l, p => by
   have ih := uniqP_snoc x l (some y)
   have e : (y :: l).getLast?.or p = l.getLast?.or (some y) := by
    cases l with
    | nil => simp
    | cons z r => simp [List.getLast?_cons_cons]; rw [List.getLast?_eq_some_getLast (by simp)]; simp
   rw [e]
   simp only [List.cons_append, uniqP, ih]
   split <;> simp
theorem compactUpTo_uniq (l : List Str) : ∀ m, m ≤ l.length → Lib.compactUpTo l.toArray m = uniqP none (l.take m)
 | 0, _ => by simp [Lib.compactUpTo, uniqP]
 | m + 1, h => by
   have hm : m < l.length := by omega
   have hx := List.getElem?_eq_getElem hm
   rw [Lib.compactUpTo_succ, compactUpTo_uniq l m (by omega), take_snoc' hx, uniqP_snoc]
   congr 1
   have e1 : l.toArray[m]! = l[m] := by simp [getElem!_pos, hm]
   rw [e1]
   cases m with
   | zero => simp [Lib.keeps]
   | succ m =>
     have hl : (l.take (m + 1)).getLast? = some l[m] := by
      rw [take_snoc' (List.getElem?_eq_getElem (show m < l.length by omega)), List.getLast?_append]; rfl
     have e2 : l.toArray[m]! = l[m] := by simp [getElem!_pos, show m < l.length by omega]
     rw [hl]
     simp only [Lib.keeps, e1, Nat.add_sub_cancel, e2]
     by_cases hh : l[m] = l[m + 1]
     ·simp [hh]
     ·have hh' : ¬ l[m + 1] = l[m] := fun h => hh h.symm
      simp [hh, hh']
theorem compact_uniq (l : List Str) : Lib.compact l = uniqP none l := by
 unfold Lib.compact
 rw [compactUpTo_uniq l _ (Nat.le_refl _), List.take_length]
theorem uniqP_le : ∀ (l : List Str) (p : Option Str), (uniqP p l).length ≤ l.length
 | [], _ => Nat.le_refl _
 | x :: r, p => by
   have := uniqP_le r (some x)
   simp only [uniqP]; split <;> simp <;> omega
end Go.HL
end
section
namespace Go.HL
def Sh (s : Str) : Prop := s.length ≤ 1000000
/-- The state of KeepList's loops. -/
structure KLs where
 u : Value
 out : List Keep
 lv : Value
 left : List Str
 a : Nat
structure KLok (n a : Nat) (q : KLs) : Prop where
 out : q.out.length ≤ n
 left : q.left.length ≤ 20
 ls : ∀ s ∈ q.left, Sh s
 os : ∀ x ∈ q.out, Sh x.Team ∧ Sh x.Player
 a : q.a ≤ a + 2 * n
theorem KLok.add {n a : Nat} {u u' lv lv' : Value} {out : List Keep} {left : List Str} {a1 a2 k : Nat} {t p : Str} {rd : Int} (h : KLok n a ⟨u, out, lv, left, a1⟩) (h1 : a2 ≤ a1 + 2) (ht : Sh t) (hp : left[k]? = some p) :
 KLok (n + 1) a ⟨u', out ++ [⟨t, p, rd⟩], lv', left.eraseIdx k, a2⟩ :=
 ⟨by have := h.out; simp at *; omega, by have := h.left; have := List.length_eraseIdx_le left k; dsimp only at *; omega, fun s hs => h.ls s (List.mem_of_mem_eraseIdx hs), fun x hx => by
  rcases List.mem_append.1 hx with hx | hx
  ·exact h.os x hx
  ·simp at hx; subst hx; exact ⟨ht, h.ls p (List.mem_of_getElem? hp)⟩, by have := h.a; dsimp only at *; omega⟩
theorem set_self {α : Type} {l : List α} {j : Nat} {x y : α} (h : l[j]? = some y) : (l.set j x)[j]? = some x := by
 rw [List.getElem?_set_self (lt_of_get h)]
theorem map_get {α β : Type} {f : α → β} {l : List α} {j : Nat} {x : α} (h : l[j]? = some x) : (l.map f)[j]? = some (f x) := by
 rw [List.getElem?_map, h]; rfl
theorem mem_set_of {α : Type} {l : List α} {j : Nat} {x y : α} (h : x ∈ l.set j y) : x = y ∨ x ∈ l := by
 rcases List.mem_or_eq_of_mem_set h with h | h
 ·exact .inr h
 ·exact .inl h
/-- The state of SwapList's loops: what is out, the row of teams, the draws. -/
structure SLs where
 u : Value
 out : List Swap
 row : List Str
 a : Nat
structure SLok (n a : Nat) (q : SLs) : Prop where
 out : q.out.length ≤ n
 row : q.row.length ≤ 4
 rs : ∀ s ∈ q.row, Sh s
 os : ∀ x ∈ q.out, Sh x.Of ∧ Sh x.Team
 a : q.a ≤ a + 2 * n
theorem SLok.add {n a : Nat} {u u' : Value} {out : List Swap} {row : List Str} {a1 a2 : Nat} {t p : Str} {rd : Int} (h : SLok n a ⟨u, out, row, a1⟩) (h1 : a2 ≤ a1 + 2) (ht : Sh t) (hp : Sh p) :
 SLok (n + 1) a ⟨u', out ++ [⟨rd, t, p⟩], row, a2⟩ :=
 ⟨by have := h.out; simp at *; omega, h.row, h.rs, fun x hx => by
  rcases List.mem_append.1 hx with hx | hx
  ·exact h.os x hx
  ·simp at hx; subst hx; exact ⟨ht, hp⟩, by have := h.a; dsimp only at *; omega⟩
end Go.HL
end
section
namespace Go.HL
open Op (bytesLess)
end Go.HL
end
section
namespace Go.HL
open Op (bytesLess)
theorem cmpS_le {a b : Str} : cmpS a b ≤ 0 ↔ bytesLess b a = false := by
 rw [cmpS_eq]
 rcases less_total a b with h | h | h
 ·simp [h, less_asymm h]
 ·subst h; simp [less_irrefl]
 ·have hne : a ≠ b := fun e => by subst e; rw [less_irrefl] at h; cases h
  simp [h, less_asymm h, hne]
theorem cmpS_zero {a b : Str} : cmpS a b = 0 ↔ a = b := by
 rw [cmpS_eq]
 rcases less_total a b with h | h | h
 ·have hne : a ≠ b := fun e => by subst e; rw [less_irrefl] at h; cases h
  simp [h, hne]
 ·subst h; simp [less_irrefl]
 ·have hne : a ≠ b := fun e => by subst e; rw [less_irrefl] at h; cases h
  simp [less_asymm h, hne]
theorem cmpS_trans {a b c : Str} (h1 : cmpS a b ≤ 0) (h2 : cmpS b c ≤ 0) : cmpS a c ≤ 0 := by
 rw [cmpS_le] at *
 rcases less_total a b with h | h | h
 ·rcases less_total b c with h' | h' | h'
  ·exact less_asymm (less_trans h h')
  ·subst h'; exact less_asymm h
  ·rw [h'] at h2; cases h2
 ·subst h; exact h2
 ·rw [h] at h1; cases h1
theorem orI2 (a b : Int) : orI [a, b] = if a ≠ 0 then a else b := by
 simp only [orI]
 by_cases ha : a = 0 <;> by_cases hb : b = 0 <;> simp [ha, hb]
theorem cmpI_le {a b : Int} : cmpI a b ≤ 0 ↔ a ≤ b := by unfold cmpI; split <;> (try split) <;> omega
end Go.HL
end
section
namespace Go.HL
open Go.Sort Go.Proofs
structure Play where
 Source : Str
 No : Int
 At : Int
 Week : Int
 Match : Str
 Player : Str
 Stat : Str
 Count : Int
 Undo : Int
structure StatS where
 Name : Str
 Count : Int
abbrev Of2 := Str × Str
def weekB (n : Int) : Bool := !(out n 1 60)
def playFault (p : Play) : Int :=
 if !(key p.Source) then 5 else if out p.No 1 3000 || !(moment p.At) || !(weekB p.Week) then 1
 else if !(key p.Match) || !(key p.Player) || !(key p.Stat) then 5
 else if out p.Count (-100000) 100000 || out p.Undo 0 (p.No - 1) then 1
 else if decide (0 < p.Undo) && decide (p.Count ≠ 0) then 3 else 0
theorem playFault_ok {p : Play} (h : playFault p = 0) : key p.Source = true ∧ (1 ≤ p.No ∧ p.No ≤ 3000) ∧ moment p.At = true ∧ weekB p.Week = true ∧ (key p.Match = true ∧ key p.Player = true ∧ key p.Stat = true) ∧ (-100000 ≤ p.Count ∧ p.Count ≤ 100000) ∧ (0 ≤ p.Undo ∧ p.Undo ≤ p.No - 1) := by
 unfold playFault at h
 split at h
 ·omega
 split at h
 ·omega
 split at h
 ·omega
 split at h
 ·omega
 rename_i h1 h2 h3 h4
 simp only [Bool.or_eq_true, Bool.not_eq_true', not_or, Bool.not_eq_false, Bool.not_eq_true] at h1 h2 h3 h4
 exact ⟨h1, out_f h2.1.1, h2.1.2, h2.2, ⟨h3.1.1, h3.1.2, h3.2⟩, out_f h4.1, out_f h4.2⟩
structure LnS where
 S : List Str
 c : List (Of2 × Int)
def lnPut (q : LnS) (p : Play) : LnS := ⟨sadd p.Player q.S, aput (p.Player, p.Stat) ((alk (p.Player, p.Stat) q.c).getD 0 + p.Count) q.c⟩
def rawStats (c : List (Of2 × Int)) (s : Str) : List StatS := (c.filter fun e => e.1.1 == s && e.2 != 0).map fun e => ⟨e.1.2, e.2⟩
theorem key_len {s : Str} (h : key s = true) : s.length ≤ 40 := by
 simp only [key, keyHd, Bool.and_eq_true, decide_eq_true_eq] at h; exact h.1.1.1.2
theorem isort_of_sorted {α : Type} {c : α → α → Int} (hc : Cmp c fun _ => True) {l l' : List α} (he : ∀ x y, x ∈ l → y ∈ l → c x y = 0 → x = y) (hp : l'.Perm l) (hw : l'.Pairwise fun a b => ¬ c b a < 0) : l' = isort c l := by
 have hs := isort_sorted hc (l := l) (fun _ _ => trivial)
 have hw' : l'.Pairwise fun a b => c a b ≤ 0 := hw.imp fun {a b} h => by
  have := hc.flip b a trivial trivial
  omega
 refine List.Perm.eq_of_pairwise (le := fun a b => c a b ≤ 0) (fun a b ha hb h1 h2 => ?_) hw' hs (hp.trans (isort_perm c l).symm)
 have f1 := hc.flip a b trivial trivial
 exact he a b (hp.mem_iff.1 ha) ((isort_perm c l).mem_iff.1 hb) (by omega)
theorem swo_cmp {α : Type} {c : α → α → Int} (hc : Cmp c fun _ => True) : SWO (ltOf c) := by
 have h : ∀ a b, ltOf c a b = decide (c a b < 0) := fun a b => rfl
 refine ⟨fun x => ?_, fun x y z h1 h2 => ?_, fun x y z h1 h2 => ?_⟩
 ·rw [h]; have := hc.flip x x trivial trivial; simp; omega
 ·rw [h] at *
  simp only [decide_eq_true_eq] at *
  have a1 := hc.trans x y z trivial trivial trivial (by omega) (by omega)
  rcases Int.lt_or_eq_of_le a1 with e | e
  ·exact e
  ·exfalso
   have f1 := hc.flip x z trivial trivial
   have a2 := hc.trans z x y trivial trivial trivial (by have := hc.flip z x trivial trivial; omega) (by omega)
   have f2 := hc.flip y z trivial trivial
   omega
 ·rw [h] at *
  simp only [decide_eq_false_iff_not] at *
  have f1 := hc.flip x y trivial trivial
  have f2 := hc.flip y z trivial trivial
  have f3 := hc.flip x z trivial trivial
  have g1 := hc.flip y x trivial trivial
  have g2 := hc.flip z y trivial trivial
  have g3 := hc.flip z x trivial trivial
  have := hc.trans z y x trivial trivial trivial (by omega) (by omega)
  omega
end Go.HL
end
section
namespace Go.HL
section
variable {α : Type} [DecidableEq α]
/-- A list without the things that equal the one before (p ahead of the first). -/
def uniqA (p : Option α) : List α → List α
 | [] => []
 | x :: r => if p = some x then uniqA (some x) r else x :: uniqA (some x) r
theorem mem_uniqA : ∀ (l : List α) (p : Option α) (s : α), s ∈ uniqA p l → s ∈ l
 | [], _, s, h => by simp [uniqA] at h
 | x :: r, p, s, h => by
   simp only [uniqA] at h
   split at h
   ·exact List.mem_cons_of_mem _ (mem_uniqA r _ s h)
   ·rcases List.mem_cons.1 h with h | h
    ·subst h; simp
    ·exact List.mem_cons_of_mem _ (mem_uniqA r _ s h)
theorem mem_uniqA' : ∀ (l : List α) (p : Option α) (s : α), s ∈ l → s ∈ uniqA p l ∨ p = some s
 | [], _, _, h => by cases h
 | x :: r, p, s, h => by
   simp only [uniqA]
   rcases List.mem_cons.1 h with rfl | h
   ·split
    ·rename_i e; exact .inr e
    ·exact .inl (by simp)
   ·rcases mem_uniqA' r (some x) s h with q | q
    ·split
     ·exact .inl q
     ·exact .inl (List.mem_cons_of_mem _ q)
    ·cases q
     split
     ·rename_i e; exact .inr e
     ·exact .inl (by simp)
theorem uniqA_snoc (x : α) : ∀ (A : List α) (p : Option α), uniqA p (A ++ [x]) = uniqA p A ++ if (A.getLast?.or p) = some x then [] else [x]
 | [], p => by
   by_cases h : p = some x <;> simp [uniqA, h]
 | y :: A, p => by
   have ih := uniqA_snoc x A (some y)
   have e : ((y :: A).getLast?.or p) = (A.getLast?.or (some y)) := by
    cases A with
    | nil => simp
    | cons z A => simp [List.getLast?_cons_cons, List.getLast?_cons]
   simp only [List.cons_append, uniqA]
   rw [e, ih]
   split <;> simp
theorem uniqA_step {l : List α} {k : Nat} {x y : α} (hx : l[k]? = some x) (hy : l[k - 1]? = some y) (h0 : 0 < k) : uniqA none (l.take (k + 1)) = uniqA none (l.take k) ++ if x = y then [] else [x] := by
 have hk := lt_of_get hx
 rw [take_snoc' hx, uniqA_snoc]
 have e : ((l.take k).getLast?.or none) = some y := by
  rw [List.getLast?_eq_getElem?, List.length_take, Nat.min_eq_left (by omega), List.getElem?_take_of_lt (by omega), hy]; rfl
 rw [e]
 by_cases h : x = y
 ·rw [if_pos h, if_pos (by rw [h])]
 ·rw [if_neg h, if_neg (by simpa using fun q : y = x => h q.symm)]
theorem uniqA_one {l : List α} (h : l.length < 2) : uniqA none l = l := by
 match l, h with
 | [], _ => rfl
 | [x], _ => rfl
structure CmpA (l : List α) (j : Nat) (D : List α) : Prop where
 len : D.length = l.length
 lo : D.take (uniqA none (l.take j)).length = uniqA none (l.take j)
 lt : (uniqA none (l.take j)).length < j
 hi : ∀ i, j ≤ i + 1 → D[i]? = l[i]?
theorem CmpA.start {l : List α} {k : Nat} {x y : α} (hx : l[k]? = some x) (hy : l[k - 1]? = some y) (h0 : 0 < k) (e : x = y) (h : uniqA none (l.take k) = l.take k) : CmpA l (k + 1) l ∧ (uniqA none (l.take (k + 1))).length = k := by
 have hk := lt_of_get hx
 have h1 : uniqA none (l.take (k + 1)) = l.take k := by rw [uniqA_step hx hy h0, if_pos e, h]; simp
 have h2 : (l.take k).length = k := by rw [List.length_take]; omega
 exact ⟨⟨rfl, by rw [h1, h2], by rw [h1, h2]; omega, fun _ _ => rfl⟩, by rw [h1, h2]⟩
theorem CmpA.same {l D : List α} {j : Nat} (h : CmpA l j D) {x y : α} (hx : l[j]? = some x) (hy : l[j - 1]? = some y) (e : x = y) : CmpA l (j + 1) D ∧ (uniqA none (l.take (j + 1))).length = (uniqA none (l.take j)).length := by
 have h0 := h.lt
 have h1 : uniqA none (l.take (j + 1)) = uniqA none (l.take j) := by rw [uniqA_step hx hy (by omega), if_pos e]; simp
 exact ⟨⟨h.len, by rw [h1]; exact h.lo, by rw [h1]; omega, fun i hi => h.hi i (by omega)⟩, by rw [h1]⟩
theorem CmpA.more {l D : List α} {j : Nat} (h : CmpA l j D) {x y : α} (hx : l[j]? = some x) (hy : l[j - 1]? = some y) (e : x ≠ y) : CmpA l (j + 1) (D.set (uniqA none (l.take j)).length x) ∧ (uniqA none (l.take (j + 1))).length = (uniqA none (l.take j)).length + 1 := by
 have h0 := h.lt
 have hl := h.len
 have hj := lt_of_get hx
 have h1 : uniqA none (l.take (j + 1)) = uniqA none (l.take j) ++ [x] := by rw [uniqA_step hx hy (by omega), if_neg e]
 have h2 : (uniqA none (l.take (j + 1))).length = (uniqA none (l.take j)).length + 1 := by rw [h1]; simp
 refine ⟨⟨by simpa using hl, ?_, by omega, fun i hi => ?_⟩, h2⟩
 ·rw [h2, h1]
  have h3 : (D.set (uniqA none (l.take j)).length x)[(uniqA none (l.take j)).length]? = some x := by
   rw [List.getElem?_set_self (by omega)]
  rw [take_snoc' h3, List.take_set_of_le (Nat.le_refl _), h.lo]
 ·rw [List.getElem?_set_ne (by omega)]
  exact h.hi i (by omega)
/-- A sorted list without repeats: all that was there, still sorted, and neighbours differ. -/
theorem uniqA_nb {c : α → α → Int} : ∀ (l : List α) (p : Option α), l.Pairwise (fun x y => c x y ≤ 0) → (∀ q, p = some q → ∀ x ∈ l, c q x ≤ 0) →
 (uniqA p l).Pairwise (fun x y => c x y ≤ 0) ∧ (∀ q, p = some q → ∀ y ∈ uniqA p l, c q y ≤ 0) ∧ ∀ q, p = some q → (uniqA p l)[0]? ≠ some q
 | [], _, _, _ => ⟨by simp [uniqA], fun q _ y hy => by simp [uniqA] at hy, fun q _ => by simp [uniqA]⟩
 | x :: r, p, h, hp => by
   obtain ⟨h1, h2⟩ := List.pairwise_cons.1 h
   obtain ⟨i1, i2, i3⟩ := uniqA_nb r (some x) h2 (fun q e y hy => by cases e; exact h1 y hy)
   simp only [uniqA]
   split
   ·rename_i e
    refine ⟨i1, fun q eq y hy => ?_, fun q eq => ?_⟩
    ·rw [e] at eq; cases eq; exact i2 x rfl y hy
    ·rw [e] at eq; cases eq; exact i3 x rfl
   ·rename_i e
    refine ⟨List.pairwise_cons.2 ⟨fun y hy => i2 x rfl y hy, i1⟩, fun q eq y hy => ?_, fun q eq => ?_⟩
    ·rcases List.mem_cons.1 hy with rfl | hy
     ·exact hp q eq y List.mem_cons_self
     ·exact hp q eq y (List.mem_cons_of_mem _ (mem_uniqA r _ y hy))
    ·intro h9
     have : x = q := by simpa using h9
     exact e (by rw [eq, this])
theorem uniqA_adj {c : α → α → Int} : ∀ (l : List α) (p : Option α), l.Pairwise (fun x y => c x y ≤ 0) → (∀ q, p = some q → ∀ x ∈ l, c q x ≤ 0) → ∀ (i : Nat) (x y : α), (uniqA p l)[i]? = some x → (uniqA p l)[i + 1]? = some y → x ≠ y
 | [], _, _, _, i, x, y, hx, _ => by simp [uniqA] at hx
 | z :: r, p, h, hp, i, x, y, hx, hy => by
   obtain ⟨h1, h2⟩ := List.pairwise_cons.1 h
   have hp' : ∀ q, some z = some q → ∀ w ∈ r, c q w ≤ 0 := fun q e w hw => by cases e; exact h1 w hw
   simp only [uniqA] at hx hy
   split at hx
   ·rename_i e
    rw [if_pos e] at hy
    exact uniqA_adj r (some z) h2 hp' i x y hx hy
   ·rename_i e
    rw [if_neg e] at hy
    cases i with
    | zero =>
      simp at hx hy
      subst hx
      intro hxy
      exact (uniqA_nb r (some z) h2 hp').2.2 z rfl (by rw [hy, ← hxy])
    | succ i =>
      simp at hx hy
      exact uniqA_adj r (some z) h2 hp' i x y hx hy
theorem uniqA_len : ∀ (l : List α) (p : Option α), (uniqA p l).length ≤ l.length
 | [], p => by simp [uniqA]
 | x :: r, p => by
   have := uniqA_len r (some x)
   simp only [uniqA]
   split
   ·simp only [List.length_cons]; omega
   ·simp only [List.length_cons]; omega
theorem slOff_lt2 {cap off sz m : Nat} (h : m < cap) : slOff cap off sz m = off + m * sz := by
 unfold slOff; rw [if_neg (by omega)]
/-! two lists without repeats, each strictly sorted -/
variable {c : α → α → Int}
def cflA (c : α → α → Int) (a b : List α) : Bool := b.any fun x => a.any fun y => decide (c x y = 0) && decide (x ≠ y)
def addA (c : α → α → Int) (a b : List α) : List α := a ++ b.filter fun x => !(a.any fun y => decide (c x y = 0))
def merS (c : α → α → Int) (a b : List α) : List α := isort c (addA c a b)
/-- Neighbours that do not compare as alike make a strict list. -/
theorem strict_adj {β : Type} {c : β → β → Int} (hc : Cmp c fun _ => True) {D : List β} (hs : D.Pairwise fun x y => c x y ≤ 0) (h : ∀ (i : Nat) (x y : β), D[i]? = some x → D[i + 1]? = some y → c x y ≠ 0) : D.Pairwise fun x y => c x y < 0 := by
 refine List.pairwise_iff_getElem.2 fun i j hi hj hij => ?_
 have h1 := List.pairwise_iff_getElem.1 hs i j hi hj hij
 have hi1 : i + 1 < D.length := by omega
 have h2 := h i D[i] D[i + 1] (List.getElem?_eq_getElem hi) (List.getElem?_eq_getElem hi1)
 have h3 := List.pairwise_iff_getElem.1 hs i (i + 1) hi hi1 (by omega)
 rcases Nat.lt_or_ge (i + 1) j with hlt | hge
 ·have h4 := List.pairwise_iff_getElem.1 hs (i + 1) j hi1 hj hlt
  have f1 := hc.flip D[i] D[i + 1] trivial trivial
  have f2 := hc.flip D[i] D[j] trivial trivial
  have f3 := hc.flip D[j] D[i] trivial trivial
  have f4 := hc.flip D[i + 1] D[i] trivial trivial
  rcases Int.lt_or_eq_of_le h1 with e | e
  ·exact e
  ·exfalso
   have := hc.trans D[i + 1] D[j] D[i] trivial trivial trivial h4 (by omega)
   omega
 ·have e : j = i + 1 := by omega
  subst e; omega
theorem strict_uniq (hc : Cmp c fun _ => True) {D : List α} (h : D.Pairwise fun x y => c x y < 0) {x y : α} (hx : x ∈ D) (hy : y ∈ D) (e : c x y = 0) : x = y := by
 obtain ⟨i, hi⟩ := List.getElem?_of_mem hx
 obtain ⟨j, hj⟩ := List.getElem?_of_mem hy
 have hil := lt_of_get hi
 have hjl := lt_of_get hj
 rw [List.getElem?_eq_getElem hil] at hi
 rw [List.getElem?_eq_getElem hjl] at hj
 have ei := Option.some.inj hi
 have ej := Option.some.inj hj
 have f1 := hc.flip x y trivial trivial
 have f2 := hc.flip y x trivial trivial
 rcases Nat.lt_trichotomy i j with h' | h' | h'
 ·have := List.pairwise_iff_getElem.1 h i j hil hjl h'
  rw [ei, ej] at this; omega
 ·subst h'; rw [← ei, ← ej]
 ·have := List.pairwise_iff_getElem.1 h j i hjl hil h'
  rw [ei, ej] at this; omega
theorem cflA_iff {a b : List α} : cflA c a b = true ↔ ∃ x ∈ b, ∃ y ∈ a, c x y = 0 ∧ x ≠ y := by
 unfold cflA
 simp only [List.any_eq_true, Bool.and_eq_true, decide_eq_true_eq]
theorem mem_addA {β : Type} {c : β → β → Int} {a b : List β} {x : β} : x ∈ addA c a b → x ∈ a ∨ x ∈ b := fun h => by
 rcases List.mem_append.1 h with h | h
 ·exact .inl h
 ·exact .inr (List.mem_filter.1 h).1
theorem addA_nodup {β : Type} {c : β → β → Int} (hc : Cmp c fun _ => True) {a b : List β} (ha : a.Pairwise fun x y => c x y < 0) (hb : b.Pairwise fun x y => c x y < 0) : (addA c a b).Pairwise fun x y => c x y ≠ 0 := by
 refine List.pairwise_append.2 ⟨ha.imp fun h => by omega, (hb.filter _).imp fun h => by omega, fun x hx y hy e => ?_⟩
 have h1 := (List.mem_filter.1 hy).2
 have f1 := hc.flip x y trivial trivial
 have f2 := hc.flip y x trivial trivial
 have h2 : c y x = 0 := by omega
 have h3 : (a.any fun z => decide (c y z = 0)) = true := List.any_eq_true.2 ⟨x, hx, by simpa using h2⟩
 rw [h3] at h1; cases h1
/-- What sorting the two together, leaving out repeats and looking at neighbours tells. -/
theorem mer_some (hc : Cmp c fun _ => True) {a b S : List α} (ha : a.Pairwise fun x y => c x y < 0) (hb : b.Pairwise fun x y => c x y < 0) (hp : S.Perm (a ++ b)) (hs : Srt c S) {i : Nat} {x y : α} (hx : (uniqA none S)[i]? = some x) (hy : (uniqA none S)[i + 1]? = some y) (e : c x y = 0) : cflA c a b = true := by
 have hne := uniqA_adj S none hs (fun q e => by cases e) i x y hx hy
 have hx' := hp.mem_iff.1 (mem_uniqA _ _ _ (List.mem_of_getElem? hx))
 have hy' := hp.mem_iff.1 (mem_uniqA _ _ _ (List.mem_of_getElem? hy))
 have f1 := hc.flip x y trivial trivial
 have f2 := hc.flip y x trivial trivial
 rw [cflA_iff]
 rcases List.mem_append.1 hx' with h1 | h1 <;> rcases List.mem_append.1 hy' with h2 | h2
 ·exact absurd (strict_uniq hc ha h1 h2 e) hne
 ·exact ⟨y, h2, x, h1, by omega, fun q => hne q.symm⟩
 ·exact ⟨x, h1, y, h2, e, hne⟩
 ·exact absurd (strict_uniq hc hb h1 h2 e) hne
theorem mer_none (hc : Cmp c fun _ => True) {a b S : List α} (ha : a.Pairwise fun x y => c x y < 0) (hb : b.Pairwise fun x y => c x y < 0) (hp : S.Perm (a ++ b)) (hs : Srt c S) (h : ∀ (i : Nat) (x y : α), (uniqA none S)[i]? = some x → (uniqA none S)[i + 1]? = some y → c x y ≠ 0) :
 cflA c a b = false ∧ uniqA none S = merS c a b := by
 have hD := strict_adj hc (uniqA_nb S none hs (fun q e => by cases e)).1 h
 have hmem : ∀ z, z ∈ uniqA none S ↔ z ∈ a ∨ z ∈ b := fun z => by
  constructor
  ·intro hz; exact List.mem_append.1 (hp.mem_iff.1 (mem_uniqA _ _ _ hz))
  ·intro hz
   rcases mem_uniqA' S none z (hp.mem_iff.2 (List.mem_append.2 hz)) with q | q
   ·exact q
   ·cases q
 have hno : ∀ x ∈ b, ∀ y ∈ a, c x y = 0 → x = y := fun x hx y hy e => strict_uniq hc hD ((hmem x).2 (.inr hx)) ((hmem y).2 (.inl hy)) e
 refine ⟨?_, ?_⟩
 ·rw [Bool.eq_false_iff]
  intro h9
  obtain ⟨x, hx, y, hy, e1, e2⟩ := cflA_iff.1 h9
  exact e2 (hno x hx y hy e1)
 ·have hmem2 : ∀ z, z ∈ addA c a b ↔ z ∈ a ∨ z ∈ b := fun z => by
   constructor
   ·exact mem_addA
   ·rintro (hz | hz)
    ·exact List.mem_append_left _ hz
    ·by_cases hq : (a.any fun y => decide (c z y = 0)) = true
     ·obtain ⟨y, hy, e⟩ := List.any_eq_true.1 hq
      rw [hno z hz y hy (by simpa using e)]
      exact List.mem_append_left _ hy
     ·exact List.mem_append_right _ (List.mem_filter.2 ⟨hz, by simpa using hq⟩)
  have hn1 : (uniqA none S).Nodup := hD.imp fun {x y} hxy e => by
   subst e
   have := hc.flip x x trivial trivial; omega
  have hn2 : (addA c a b).Nodup := (addA_nodup hc ha hb).imp fun {x y} hxy e => by
   subst e
   have := hc.flip x x trivial trivial; omega
  have hperm : (uniqA none S).Perm (addA c a b) := (List.perm_ext_iff_of_nodup hn1 hn2).2 fun z => by rw [hmem, hmem2]
  refine isort_of_sorted hc (fun x y hx hy e => ?_) hperm (hD.imp fun {x y} hxy => ?_)
  ·exact strict_uniq hc hD ((hperm.mem_iff).2 hx) ((hperm.mem_iff).2 hy) e
  ·have f1 := hc.flip x y trivial trivial
   have f2 := hc.flip y x trivial trivial
   omega
end
end Go.HL
end
section
namespace Go.HL
structure VisOk {β : Type} (L : List β) (vis : List Nat) (E : List β) : Prop where
 nd : vis.Nodup
 lt : ∀ j ∈ vis, j < L.length
 eq : E.map some = vis.map fun j => L[j]?
theorem VisOk.nil {β : Type} (L : List β) : VisOk L [] [] := ⟨List.nodup_nil, (fun j h => by cases h), rfl⟩
theorem VisOk.step {β : Type} {L E : List β} {vis : List Nat} (h : VisOk L vis E) {j : Nat} {q : β} (hj : L[j]? = some q) (hn : j ∉ vis) : VisOk L (vis ++ [j]) (E ++ [q]) where
 nd := List.nodup_append.2 ⟨h.nd, by simp, fun a ha b hb => by simp at hb; subst hb; exact fun e => hn (e ▸ ha)⟩
 lt k hk := by
  rcases List.mem_append.1 hk with hk | hk
  ·exact h.lt k hk
  ·simp at hk; subst hk; exact lt_of_get hj
 eq := by simp only [List.map_append, h.eq, List.map_cons, List.map_nil, hj]
theorem VisOk.len {β : Type} {L E : List β} {vis : List Nat} (h : VisOk L vis E) : E.length = vis.length := by
 have := congrArg List.length h.eq; simpa using this
def NextOk {β : Type} (L : List β) (vis : List Nat) (c : Bool) (vis' : List Nat) : Prop :=
 (c = false ∧ vis' = vis ∧ vis.length = L.length) ∨ (c = true ∧ ∃ j q, L[j]? = some q ∧ j ∉ vis ∧ vis' = vis ++ [j])
theorem NextOk.t {β : Type} {L : List β} {vis vis' : List Nat} {c : Bool} (h : NextOk L vis c vis') (hc : c = true) : ∃ j q, L[j]? = some q ∧ j ∉ vis ∧ vis' = vis ++ [j] := by
 rcases h with ⟨h, _⟩ | ⟨_, h⟩
 ·rw [hc] at h; cases h
 ·exact h
theorem NextOk.f {β : Type} {L : List β} {vis vis' : List Nat} {c : Bool} (h : NextOk L vis c vis') (hc : c = false) : vis' = vis ∧ vis.length = L.length := by
 rcases h with ⟨_, h⟩ | ⟨h, _⟩
 ·exact h
 ·rw [hc] at h; cases h
section
variable {P : Program} {e : Env} {dst : Option Tmp} {ty : TypeId} {pos : String} {af : Array Edge} {g : Option (Nat × Bool)} {M : List MObj} {K : HVal → List MObj → Prop}
end
section
variable {β : Type}
abbrev Grp (β : Type) := List (Str × (Value × List β))
abbrev gZ (β : Type) : Value × List β := (.slice none 0 0, [])
def gL (s : Str) (G : Grp β) : List β := ((alk s G).getD (gZ β)).2
end
section
variable {P : Program} {e : Env} {dst : Option Tmp} {ty : TypeId} {pos : String} {af : Array Edge} {g : Option (Nat × Bool)} {M : List MObj} {K : HVal → List MObj → Prop} {β : Type} {eb : β → HVal}
end
end Go.HL
end
section
namespace Go.HL
section
variable {κ α γ : Type} [DecidableEq κ]
theorem ANodup.perm {A B : Type} {E L : List (A × B)} (hn : ANodup L) (hp : E.Perm L) : ANodup E := (hp.map (fun p : A × B => p.1)).nodup_iff.2 hn
theorem ANodup.map {A B C : Type} (g : B → C) {E : List (A × B)} (h : ANodup E) : ANodup (E.map fun q => (q.1, g q.2)) := by
 unfold ANodup at *; rw [List.map_map]; exact h
end
structure GOk (E : List (Of2 × Int)) (G : Grp StatS) : Prop where
 nd : ANodup G
 raw : ∀ s, gL s G = rawStats E s
theorem GOk.nil : GOk [] [] := ⟨ANodup.nil, fun s => rfl⟩
theorem rawStats_snoc (E : List (Of2 × Int)) (q : Of2 × Int) (s : Str) : rawStats (E ++ [q]) s = rawStats E s ++ if q.1.1 = s ∧ q.2 ≠ 0 then [⟨q.1.2, q.2⟩] else [] := by
 unfold rawStats
 rw [List.filter_append, List.map_append, List.filter_cons]
 by_cases h : q.1.1 = s ∧ q.2 ≠ 0
 ·rw [if_pos h, if_pos (by simpa using h)]; rfl
 ·rw [if_neg h, if_neg (by simpa using h)]; rfl
theorem gL_put (s t : Str) (v : Value) (l : List StatS) (G : Grp StatS) : gL t (aput s (v, l) G) = if t = s then l else gL t G := by
 unfold gL; rw [alk_put]; split <;> rfl
theorem GOk.put {E : List (Of2 × Int)} {G : Grp StatS} (h : GOk E G) {q : Of2 × Int} (hq : ¬ q.2 = 0) (v : Value) : GOk (E ++ [q]) (aput q.1.1 (v, gL q.1.1 G ++ [⟨q.1.2, q.2⟩]) G) := by
 refine ⟨h.nd.put, fun s => ?_⟩
 rw [gL_put, rawStats_snoc]
 by_cases hs : s = q.1.1
 ·rw [if_pos hs, if_pos ⟨hs.symm, hq⟩, hs, h.raw]
 ·rw [if_neg hs, if_neg (fun e => hs e.1.symm), List.append_nil, h.raw]
theorem mem_sadd {s t : Str} {S : List Str} : t ∈ sadd s S ↔ t = s ∨ t ∈ S := by
 unfold sadd
 by_cases h : S.contains s = true
 ·rw [if_pos h]
  have : s ∈ S := by simpa using h
  constructor
  ·exact .inr
  ·rintro (rfl | h)
   ·exact this
   ·exact h
 ·rw [if_neg h]; simp; exact Or.comm
theorem sadd_nodup {s : Str} {S : List Str} (h : S.Nodup) : (sadd s S).Nodup := by
 unfold sadd
 by_cases hc : S.contains s = true
 ·rw [if_pos hc]; exact h
 ·rw [if_neg hc]
  exact List.nodup_append.2 ⟨h, by simp, fun a ha b hb => by simp at hb; subst hb; intro e; subst e; simp at hc; exact hc ha⟩
theorem sadd_le (s : Str) (S : List Str) : (sadd s S).length ≤ S.length + 1 := by
 unfold sadd; split
 ·omega
 ·simp
structure LnOk (q : LnS) (n : Nat) : Prop where
 c : ANodup q.c
 S : q.S.Nodup
 k : ∀ s ∈ q.S, s.length ≤ 40
 cl : q.c.length ≤ n
 Sl : q.S.length ≤ n
 bd : ∀ e ∈ q.c, -(100000 * (n : Int)) ≤ e.2 ∧ e.2 ≤ 100000 * (n : Int)
theorem LnOk.val {q : LnS} {n : Nat} (h : LnOk q n) (s : Of2) : -(100000 * (n : Int)) ≤ (alk s q.c).getD 0 ∧ (alk s q.c).getD 0 ≤ 100000 * (n : Int) := by
 cases hq : alk s q.c with
 | none => simp; omega
 | some v => exact h.bd _ (alk_of_mem hq)
theorem LnOk.put {q : LnS} {n : Nat} (h : LnOk q n) {p : Play} (hp : playFault p = 0) : LnOk (lnPut q p) (n + 1) := by
 obtain ⟨_, _, _, _, ⟨_, k2, _⟩, hb, _⟩ := playFault_ok hp
 have hv := h.val (p.Player, p.Stat)
 refine ⟨h.c.put, sadd_nodup h.S, fun s hs => ?_, Nat.le_trans (aput_le _ _ _) (by have := h.cl; omega), Nat.le_trans (sadd_le _ _) (by have := h.Sl; omega), fun e he => ?_⟩
 ·rcases mem_sadd.1 hs with rfl | hs
  ·exact key_len k2
  ·exact h.k s hs
 ·rcases mem_aput he with rfl | he
  ·dsimp only; omega
  ·have := h.bd e he; omega
end Go.HL
end
section
namespace Go.HL
section
variable {α : Type}
def chkGo (f : α → Int) (c : α → α → Int) (d : α) (l : List α) : Nat → List α → Int
 | _, [] => 0
 | k, x :: r => if f x ≠ 0 then f x else if 0 < k ∧ c x (l.getD (k - 1) d) ≤ 0 then 7 else chkGo f c d l (k + 1) r
theorem chkGo_ne {f : α → Int} {c : α → α → Int} {d : α} {l : List α} {k : Nat} {x : α} {r : List α} (h1 : f x = 0) (h2 : 0 < k → ¬ c x (l.getD (k - 1) d) ≤ 0) : chkGo f c d l k (x :: r) = chkGo f c d l (k + 1) r := by
 rw [chkGo, if_neg (by simp [h1]), if_neg (fun h => h2 h.1 h.2)]
theorem chkGo_bad {f : α → Int} {c : α → α → Int} {d : α} {l : List α} {k : Nat} {x : α} {r : List α} (h1 : f x ≠ 0) : chkGo f c d l k (x :: r) = f x := by
 rw [chkGo, if_pos h1]
theorem chkGo_ord {f : α → Int} {c : α → α → Int} {d : α} {l : List α} {k : Nat} {x : α} {r : List α} (h1 : f x = 0) (h0 : 0 < k) (h2 : c x (l.getD (k - 1) d) ≤ 0) : chkGo f c d l k (x :: r) = 7 := by
 rw [chkGo, if_neg (by simp [h1]), if_pos ⟨h0, h2⟩]
theorem chk_fault {f : α → Int} {c : α → α → Int} {d : α} {l : List α} : ∀ (r : List α) (k : Nat), chkGo f c d l k r = 0 → ∀ x ∈ r, f x = 0
 | [], _, _, x, hx => by cases hx
 | p :: r, k, h, x, hx => by
   rw [chkGo] at h
   split at h
   ·contradiction
   ·split at h
    ·omega
    ·rename_i h1 _
     rcases List.mem_cons.1 hx with rfl | hx
     ·simpa using h1
     ·exact chk_fault r (k + 1) h x hx
/-- Each is behind the one ahead of it. -/
theorem chk_pairs {f : α → Int} {c : α → α → Int} {d : α} (hc : Cmp c fun _ => True) : ∀ (r : List α) (l : List α) (k : Nat), l.drop k = r → k ≤ l.length → (l.take k).Pairwise (fun a b => c a b < 0) → chkGo f c d l k r = 0 → l.Pairwise (fun a b => c a b < 0)
 | [], l, k, hd, hk, hp, _ => by
   have h1 : l.length ≤ k := by simpa using hd
   rw [List.take_of_length_le h1] at hp; exact hp
 | x :: r, l, k, hd, hk, hp, h => by
   rw [chkGo] at h
   split at h
   ·contradiction
   ·split at h
    ·omega
    ·rename_i h2
     have hx : l[k]? = some x := by have := congrArg (fun q : List α => q[0]?) hd; simpa using this
     have hlt := lt_of_get hx
     refine chk_pairs hc r l (k + 1) (by rw [← List.drop_drop (i := 1), hd]; rfl) hlt ?_ h
     rw [take_snoc' hx]
     refine List.pairwise_append.2 ⟨hp, List.pairwise_singleton _ _, fun a ha b hb => ?_⟩
     obtain rfl := List.mem_singleton.1 hb
     obtain ⟨i, hi⟩ := List.getElem?_of_mem ha
     have hik : i < k := by have := lt_of_get hi; rw [List.length_take] at this; omega
     have hy : l[k - 1]? = some (l.getD (k - 1) d) := getD_some (by omega)
     have h3 : c (l.getD (k - 1) d) b < 0 := by
      rw [hc.flip _ _ trivial trivial]
      have : ¬ c b (l.getD (k - 1) d) ≤ 0 := fun e => h2 ⟨by omega, e⟩
      omega
     rcases Nat.lt_or_ge i (k - 1) with hlt' | hge
     ·have hyk : (l.take k)[k - 1]? = some (l.getD (k - 1) d) := by rw [List.getElem?_take_of_lt (by omega)]; exact hy
      have h4 : c a (l.getD (k - 1) d) < 0 := by
       have hi2 := lt_of_get hi
       have hk2 := lt_of_get hyk
       have := List.pairwise_iff_getElem.1 hp i (k - 1) hi2 hk2 hlt'
       rw [List.getElem?_eq_getElem hi2] at hi
       rw [List.getElem?_eq_getElem hk2] at hyk
       rw [Option.some.inj hi, Option.some.inj hyk] at this
       exact this
      have h5 := hc.trans a (l.getD (k - 1) d) b trivial trivial trivial (by omega) (by omega)
      have f1 := hc.flip a (l.getD (k - 1) d) trivial trivial
      have f2 := hc.flip (l.getD (k - 1) d) b trivial trivial
      have f3 := hc.flip a b trivial trivial
      have f4 := hc.flip b a trivial trivial
      rcases Int.lt_or_eq_of_le h5 with e | e
      ·exact e
      ·exfalso
       have := hc.trans b a (l.getD (k - 1) d) trivial trivial trivial (by omega) (by omega)
       omega
     ·have e : i = k - 1 := by omega
      rw [e, List.getElem?_take_of_lt (by omega), hy] at hi
      rw [← Option.some.inj hi]; exact h3
theorem chk_strict {f : α → Int} {c : α → α → Int} {d : α} (hc : Cmp c fun _ => True) {l : List α} (h : chkGo f c d l 0 l = 0) : l.Pairwise (fun a b => c a b < 0) :=
 chk_pairs hc l l 0 rfl (Nat.zero_le _) (by simp) h
theorem Cmp.lex {c d : α → α → Int} (hc : Cmp c fun _ => True) (hd : Cmp d fun _ => True) : Cmp (fun a b => if c a b ≠ 0 then c a b else d a b) fun _ => True where
 flip x y _ _ := by
  have f1 := hc.flip x y trivial trivial
  have f2 := hc.flip y x trivial trivial
  have f3 := hd.flip x y trivial trivial
  by_cases h : c x y = 0
  ·have h' : c y x = 0 := by omega
   rw [if_neg (by simp [h]), if_neg (by simp [h'])]; exact f3
  ·have h' : c y x ≠ 0 := by omega
   rw [if_pos h, if_pos h']; exact f1
 trans x y z _ _ _ h1 h2 := by
  have fxy := hc.flip x y trivial trivial
  have fyx := hc.flip y x trivial trivial
  have fyz := hc.flip y z trivial trivial
  have fzy := hc.flip z y trivial trivial
  have fxz := hc.flip x z trivial trivial
  have fzx := hc.flip z x trivial trivial
  have a1 : c x y ≤ 0 := by split at h1 <;> omega
  have a2 : c y z ≤ 0 := by split at h2 <;> omega
  have a3 := hc.trans x y z trivial trivial trivial a1 a2
  by_cases h : c x z = 0
  ·have b1 := hc.trans z x y trivial trivial trivial (by omega) a1
   have b2 := hc.trans y z x trivial trivial trivial a2 (by omega)
   have e1 : c x y = 0 := by omega
   have e2 : c y z = 0 := by omega
   rw [if_neg (by simp [e1])] at h1
   rw [if_neg (by simp [e2])] at h2
   rw [if_neg (by simp [h])]
   exact hd.trans x y z trivial trivial trivial h1 h2
  ·rw [if_pos h]; exact a3
theorem cmpS_by (f : α → Str) : Cmp (fun a b => cmpS (f a) (f b)) fun _ => True where
 flip x y _ _ := by rw [cmpS_flip (f x) (f y)]; omega
 trans x y z _ _ _ h1 h2 := cmpS_trans h1 h2
theorem cmpI_by (f : α → Int) : Cmp (fun a b => cmpI (f a) (f b)) fun _ => True where
 flip x y _ _ := by rw [cmpI_flip (f x) (f y)]; omega
 trans x y z _ _ _ h1 h2 := by rw [cmpI_le] at *; omega
theorem orI_cons (a b : Int) (r : List Int) : orI (a :: b :: r) = if a ≠ 0 then a else orI (b :: r) := by rw [orI]
end
theorem or_zero {a b : Int} (h : (if a ≠ 0 then a else b) = 0) : a = 0 ∧ b = 0 := by
 split at h
 ·contradiction
 ·rename_i h1; exact ⟨by simpa using h1, h⟩
theorem leq_cmpS (a b : Str) : (Op.bytesLess a b || a == b) = decide (cmpS a b ≤ 0) := by
 rw [Bool.eq_iff_iff, decide_eq_true_iff, cmpS_le]
 rcases less_total a b with h | h | h
 ·simp [h, less_asymm h]
 ·subst h; simp [less_irrefl]
 ·have hne : a ≠ b := fun e => by subst e; rw [less_irrefl] at h; cases h
  simp [h, less_asymm h, hne]
/-! what is wrong -/
end Go.HL
end
section
namespace Go.HL
end Go.HL
namespace Go.HL
end Go.HL
namespace Go.HL
end Go.HL
end
section
namespace Go.HL
/-- The state of a loop that draws: the list that grows, how many were drawn. -/
structure GL (α : Type) where
 u : Value
 out : List α
 a : Nat
structure GLok {α : Type} (P : α → Prop) (n m : Nat) (q : GL α) : Prop where
 len : q.out.length ≤ n
 all : ∀ x ∈ q.out, P x
 a : q.a ≤ m
section
variable {α : Type} {P : α → Prop}
theorem GLok.add {n m m' : Nat} {u u' : Value} {out : List α} {a1 a2 : Nat} {x : α} (h : GLok P n m ⟨u, out, a1⟩) (hx : P x) (ha : a2 ≤ m') : GLok P (n + 1) m' ⟨u', out ++ [x], a2⟩ :=
 ⟨by have := h.len; simp at *; omega, fun y hy => by
  rcases List.mem_append.1 hy with hy | hy
  ·exact h.all y hy
  ·simp at hy; subst hy; exact hx, ha⟩
theorem GLok.same {n m m' : Nat} {u : Value} {out : List α} {a1 a2 : Nat} (h : GLok P n m ⟨u, out, a1⟩) (ha : a2 ≤ m') : GLok P (n + 1) m' ⟨u, out, a2⟩ :=
 ⟨by have := h.len; dsimp only at *; omega, h.all, ha⟩
theorem all_set {l : List α} {j : Nat} {y : α} (h : ∀ x ∈ l, P x) (hy : P y) : ∀ x ∈ l.set j y, P x := fun x hx => by
 rcases mem_set_of hx with rfl | hx
 ·exact hy
 ·exact h x hx
end
theorem nil_sh : Sh [] := by simp [Sh]
end Go.HL
end
section
namespace Go.HL
structure PairS where
 Name : Str
 Val : Str
end Go.HL
end
section
namespace Go.HL
end Go.HL
end
section
namespace Go.HL
open Op (bytesLess)
end Go.HL
end
section
namespace Go.HL
end Go.HL
end
section
namespace Go.HL
end Go.HL
end
section
namespace Go.HL
end Go.HL
end
section
namespace Go.HL
end Go.HL
end
section
namespace Go.HL
end Go.HL
end
section
namespace Go.HL
def eqSt {α : Type} (e : α → HVal) (a b : α) : Bool := eqHL (hcells (e a)) (hcells (e b))
def eqSts {α : Type} (e : α → HVal) : List α → List α → Bool
 | [], [] => true
 | a :: l, b :: m => eqSt e a b && eqSts e l m
 | _, _ => false
theorem eqSts_len {α : Type} {e : α → HVal} : ∀ {l m : List α}, l.length ≠ m.length → eqSts e l m = false
 | [], [], h => absurd rfl h
 | [], _ :: _, _ => rfl
 | _ :: _, [], _ => rfl
 | a :: l, b :: m, h => by
   rw [eqSts, eqSts_len (by intro q; apply h; simp [q])]; simp
end Go.HL
end
section
namespace Go.HL
section
variable {α : Type} [DecidableEq α]
theorem cflA_snoc {c : α → α → Int} {a b : List α} {k : Nat} {x : α} (h : b[k]? = some x) : cflA c a (b.take (k + 1)) = (cflA c a (b.take k) || a.any fun y => decide (c x y = 0) && decide (x ≠ y)) := by
 unfold cflA; rw [take_snoc' h, List.any_append]; simp
theorem cflA_at {c : α → α → Int} {a b : List α} {x y : α} (hx : x ∈ b) (hy : y ∈ a) (e : c x y = 0) (hne : x ≠ y) : cflA c a b = true := cflA_iff.2 ⟨x, hx, y, hy, e, hne⟩
theorem addA_yes {β : Type} {c : β → β → Int} {a b : List β} {k : Nat} {x : β} (h : b[k]? = some x) (hn : (a.any fun y => decide (c x y = 0)) = false) : addA c a (b.take (k + 1)) = addA c a (b.take k) ++ [x] := by
 unfold addA; rw [take_snoc' h, List.filter_append, ← List.append_assoc]; simp [hn]
theorem addA_no {β : Type} {c : β → β → Int} {a b : List β} {k : Nat} {x : β} (h : b[k]? = some x) (hn : (a.any fun y => decide (c x y = 0)) = true) : addA c a (b.take (k + 1)) = addA c a (b.take k) := by
 unfold addA; rw [take_snoc' h, List.filter_append]; simp [hn]
theorem addA_len {β : Type} (c : β → β → Int) (a b : List β) : (addA c a b).length ≤ a.length + b.length := by
 unfold addA; rw [List.length_append]
 have := List.length_filter_le (fun x => !(a.any fun y => decide (c x y = 0))) b
 omega
theorem merS_len {β : Type} (c : β → β → Int) (a b : List β) : (merS c a b).length ≤ a.length + b.length := by
 unfold merS; rw [isort_len]; exact addA_len c a b
/-- The one that is met in a strict list. -/
theorem cfl_same {c : α → α → Int} (hc : Cmp c fun _ => True) {a b : List α} {k : Nat} {x z : α} (ha : a.Pairwise fun x y => c x y < 0) (h : b[k]? = some x) (hz : z ∈ a) (e : c x z = 0) (hxz : x = z) (hno : cflA c a (b.take k) = false) : cflA c a (b.take (k + 1)) = false := by
 rw [cflA_snoc h, hno, Bool.false_or, Bool.eq_false_iff]
 intro h9
 obtain ⟨y, hy, h8⟩ := List.any_eq_true.1 h9
 simp only [Bool.and_eq_true, decide_eq_true_eq] at h8
 refine h8.2 (hxz.trans (strict_uniq hc ha hz hy ?_))
 rw [← hxz]; exact h8.1
theorem cfl_none {c : α → α → Int} {a b : List α} {k : Nat} {x : α} (h : b[k]? = some x) (hn : (a.any fun y => decide (c x y = 0)) = false) (hno : cflA c a (b.take k) = false) : cflA c a (b.take (k + 1)) = false := by
 rw [cflA_snoc h, hno, Bool.false_or, Bool.eq_false_iff]
 intro h9
 obtain ⟨y, hy, h8⟩ := List.any_eq_true.1 h9
 simp only [Bool.and_eq_true, decide_eq_true_eq] at h8
 have : (a.any fun y => decide (c x y = 0)) = true := List.any_eq_true.2 ⟨y, hy, by simpa using h8.1⟩
 rw [hn] at this; cases this
theorem mer_sorted {β : Type} {c : β → β → Int} (hc : Cmp c fun _ => True) {a b l' : List β} (ha : a.Pairwise fun x y => c x y < 0) (hb : b.Pairwise fun x y => c x y < 0) (hp : l'.Perm (addA c a b)) (hw : l'.Pairwise fun x y => ¬ c y x < 0) : l' = merS c a b := by
 refine isort_of_sorted hc (fun x y hx hy e => ?_) hp hw
 refine Classical.byContradiction fun hne => ?_
 have hn := addA_nodup hc ha hb
 obtain ⟨i, hi⟩ := List.getElem?_of_mem hx
 obtain ⟨j, hj⟩ := List.getElem?_of_mem hy
 have hil := lt_of_get hi
 have hjl := lt_of_get hj
 rw [List.getElem?_eq_getElem hil] at hi
 rw [List.getElem?_eq_getElem hjl] at hj
 have ei := Option.some.inj hi
 have ej := Option.some.inj hj
 have f1 := hc.flip x y trivial trivial
 have f2 := hc.flip y x trivial trivial
 rcases Nat.lt_trichotomy i j with h' | h' | h'
 ·have := List.pairwise_iff_getElem.1 hn i j hil hjl h'
  rw [ei, ej] at this; exact this e
 ·subst h'; exact hne (by rw [← ei, ← ej])
 ·have := List.pairwise_iff_getElem.1 hn j i hjl hil h'
  rw [ei, ej] at this; omega
end
theorem con_arrc [Tracks] {P : Program} {f : FuncId} {hargs : List HVal} {v : Value} {sz : Nat} {es : List HVal} {Q : HVal → List MObj → Prop} (h0 : v = .slice none 0 0 → es = [] → Con P f hargs [.arr v sz es] Q)
 (h1 : ∀ b off cap, v = .slice (some ⟨b, off, none⟩) es.length cap → Con P f hargs [.arr v sz es] Q) : Con P f hargs [.arr v sz es] Q := fun I F w args ha hs => by
 rcases hs.obj (.arr v sz es) (by simp) with ⟨g1, g2⟩ | ⟨b, off, cap, rc, el, fr, g1, _⟩
 ·exact h0 g1 g2 I F w args ha hs
 ·exact h1 b off cap g1 I F w args ha hs
end Go.HL
end
section
namespace Go.HL
end Go.HL
end
section
namespace Go.HL
end Go.HL
end
section
namespace Go.HL
end Go.HL
end
section
namespace Go.HL
end Go.HL
end
section
namespace Go.HL
def onceL (l : List Str) : List Str := Lib.compact (sortS l)
end Go.HL
end
section
namespace Go.HL
structure MarketS where
 Teams : List Str
 Vetoes : Int
 Wait : Int
 Deadline : Int
 Least : Int
 Most : Int
structure OwnerS where
 Player : Str
 Team : Str
structure GiveS where
 Player : Str
 From : Str
 To : Str
structure DealS where
 Id : Str
 By : Str
 From : Int
 To : Int
 Gives : List GiveS
structure ReplyS where
 Offer : Str
 Team : Str
 At : Int
 Kind : Int
abbrev eMarket (m : MarketS) : HVal := .agg [eSs m.Teams, .int .i64 m.Vetoes, .int .i64 m.Wait, .int .i64 m.Deadline, .int .i64 m.Least, .int .i64 m.Most]
abbrev eOwner (x : OwnerS) : HVal := .agg [.str x.Player, .str x.Team]
abbrev eOwners (l : List OwnerS) : HVal := .slice 2 (l.map eOwner)
abbrev eGive (x : GiveS) : HVal := .agg [.str x.Player, .str x.From, .str x.To]
abbrev eGives (l : List GiveS) : HVal := .slice 3 (l.map eGive)
abbrev eDeal (x : DealS) : HVal := .agg [.str x.Id, .str x.By, .int .i64 x.From, .int .i64 x.To, eGives x.Gives]
abbrev eDeals (l : List DealS) : HVal := .slice 5 (l.map eDeal)
abbrev eReply (x : ReplyS) : HVal := .agg [.str x.Offer, .str x.Team, .int .i64 x.At, .int .i64 x.Kind]
abbrev eReplies (l : List ReplyS) : HVal := .slice 4 (l.map eReply)
def owner0 : OwnerS := ⟨[], []⟩
def give0 : GiveS := ⟨[], [], []⟩
def deal0 : DealS := ⟨[], [], 0, 0, []⟩
def reply0 : ReplyS := ⟨[], [], 0, 0⟩
/-! what is wrong -/
def marketE (m : MarketS) : Int :=
 if m.Teams.length = 0 then 8 else if (20 : Int) < m.Teams.length then 2
 else if rising1 m.Teams ≠ 0 then rising1 m.Teams
 else if out m.Vetoes 1 20 || out m.Wait 0 864000000 || out m.Deadline 0 345686400000 || out m.Least 0 m.Most || decide (60 < m.Most) then 1 else 0
structure MarketOk (m : MarketS) : Prop where
 pos : 0 < m.Teams.length
 len : m.Teams.length ≤ 20
 sorted : SortedS m.Teams
 least : 0 ≤ m.Least ∧ m.Least ≤ m.Most
 most : m.Most ≤ 60
theorem marketE_ok {m : MarketS} (h : marketE m = 0) : MarketOk m := by
 unfold marketE at h
 split at h
 ·omega
 split at h
 ·omega
 split at h
 ·rename_i h1 h2 h3; exact absurd h h3
 split at h
 ·omega
 rename_i h1 h2 h3 h4
 simp only [Bool.or_eq_true, not_or, Bool.not_eq_true, decide_eq_true_eq] at h4
 have h5 := out_f h4.1.2
 exact ⟨by omega, by omega, rising1_sorted (by simpa using h3), ⟨h5.1, h5.2⟩, by omega⟩
def byOwn (a b : OwnerS) : Int := cmpS a.Player b.Player
def byGiv (a b : GiveS) : Int := cmpS a.Player b.Player
def byDeal (a b : DealS) : Int := cmpS a.Id b.Id
def byRep (a b : ReplyS) : Int := orI [cmpI a.At b.At, cmpS a.Offer b.Offer, cmpS a.Team b.Team]
theorem byOwn_cmp : Cmp byOwn fun _ => True := cmpS_by OwnerS.Player
theorem byGiv_cmp : Cmp byGiv fun _ => True := cmpS_by GiveS.Player
theorem byDeal_cmp : Cmp byDeal fun _ => True := cmpS_by DealS.Id
theorem byRep_cmp : Cmp byRep fun _ => True := by
 have h := Cmp.lex (cmpI_by ReplyS.At) (Cmp.lex (cmpS_by ReplyS.Offer) (cmpS_by ReplyS.Team))
 have e : byRep = fun a b => if cmpI a.At b.At ≠ 0 then cmpI a.At b.At else if cmpS a.Offer b.Offer ≠ 0 then cmpS a.Offer b.Offer else cmpS a.Team b.Team := by
  funext a b; unfold byRep; rw [orI_cons, orI2]
 rw [e]; exact h
def cntO : List OwnerS → Str → Int
 | [], _ => 0
 | x :: r, t => (if x.Team = t then 1 else 0) + cntO r t
theorem cntO_snoc (l : List OwnerS) (x : OwnerS) (t : Str) : cntO (l ++ [x]) t = cntO l t + (if x.Team = t then 1 else 0) := by
 induction l with
 | nil => simp [cntO]
 | cons y r ih => simp only [List.cons_append, cntO, ih]; omega
theorem cntO_bd (l : List OwnerS) (t : Str) : 0 ≤ cntO l t ∧ cntO l t ≤ l.length := by
 induction l with
 | nil => simp [cntO]
 | cons y r ih => simp only [cntO, List.length_cons]; split <;> omega
def fitsB (m : MarketS) (o : List OwnerS) : Bool := m.Teams.all fun t => !(out (cntO o t) m.Least m.Most)
theorem fitsB_any (m : MarketS) (o : List OwnerS) : (!(m.Teams.any fun t => out (cntO o t) m.Least m.Most)) = fitsB m o := by
 unfold fitsB; rw [List.not_any_eq_all_not]
def ownF (m : MarketS) (x : OwnerS) : Int := if !(key x.Player) then 5 else if !(m.Teams.contains x.Team) then 8 else 0
def ownersC (m : MarketS) (o : List OwnerS) : Int := chkGo (ownF m) byOwn owner0 o 0 o
def ownersR (m : MarketS) (o : List OwnerS) : Int := if 500 < o.length then 2 else if ownersC m o ≠ 0 then ownersC m o else if fitsB m o then 0 else 12
def ownersE (m : MarketS) (o : List OwnerS) : Int := if marketE m ≠ 0 then marketE m else ownersR m o
theorem ownersR_ok {m : MarketS} {o : List OwnerS} (h : ownersR m o = 0) : o.length ≤ 500 ∧ (∀ x ∈ o, ownF m x = 0) ∧ o.Pairwise (fun a b => byOwn a b < 0) ∧ fitsB m o = true := by
 unfold ownersR at h
 split at h
 ·omega
 split at h
 ·rename_i h1 h2; exact absurd h h2
 rename_i h1 h2
 have h3 : ownersC m o = 0 := by simpa using h2
 split at h
 ·rename_i h4; exact ⟨by omega, chk_fault o 0 h3, chk_strict byOwn_cmp h3, h4⟩
 ·omega
theorem ownersE_ok {m : MarketS} {o : List OwnerS} (h : ownersE m o = 0) : marketE m = 0 ∧ ownersR m o = 0 := by
 unfold ownersE at h; exact or_zero h
def givF (m : MarketS) (g : GiveS) : Int := if !(key g.Player) then 5 else if !(m.Teams.contains g.From) || !(m.Teams.contains g.To) then 8 else if g.From = g.To then 16 else 0
def givesE (m : MarketS) (l : List GiveS) : Int := if l.length = 0 then 8 else if 40 < l.length then 2 else chkGo (givF m) byGiv give0 l 0 l
theorem givesE_ok {m : MarketS} {l : List GiveS} (h : givesE m l = 0) : 0 < l.length ∧ l.length ≤ 40 ∧ (∀ x ∈ l, givF m x = 0) ∧ l.Pairwise (fun a b => byGiv a b < 0) := by
 unfold givesE at h
 split at h
 ·omega
 split at h
 ·omega
 ·exact ⟨by omega, by omega, chk_fault l 0 h, chk_strict byGiv_cmp h⟩
def teamsG (l : List GiveS) : List Str := l.flatMap fun g => [g.From, g.To]
theorem teamsG_len (l : List GiveS) : (teamsG l).length = 2 * l.length := by
 induction l with
 | nil => rfl
 | cons g r ih => simp only [teamsG, List.flatMap_cons, List.length_append, List.length_cons, List.length_nil] at ih ⊢; omega
theorem teamsG_take {l : List GiveS} {k : Nat} {g : GiveS} (h : l[k]? = some g) : teamsG (l.take (k + 1)) = teamsG (l.take k) ++ [g.From, g.To] := by
 unfold teamsG; rw [take_snoc' h, List.flatMap_append]; simp
def concL (l : List GiveS) : List Str := onceL (teamsG l)
theorem concL_len (l : List GiveS) : (concL l).length ≤ 2 * l.length := by
 unfold concL onceL
 rw [compact_uniq]
 have := uniqP_le (sortS (teamsG l)) none
 rw [sortS_len, teamsG_len] at this
 exact this
def dealF (m : MarketS) (x : DealS) : Int :=
 if !(key x.Id) then 5 else if !(m.Teams.contains x.By) then 8
 else if out x.To 1 345686400000 || out x.From 0 (x.To - 1) then 1
 else if givesE m x.Gives ≠ 0 then givesE m x.Gives
 else if !((concL x.Gives).contains x.By) then 16 else 0
theorem dealF_ok {m : MarketS} {x : DealS} (h : dealF m x = 0) : givesE m x.Gives = 0 := by
 unfold dealF at h
 split at h
 ·omega
 split at h
 ·omega
 split at h
 ·omega
 exact (or_zero (b := if !((concL x.Gives).contains x.By) then 16 else 0) h).1
theorem window_ref (f t : Int) : (decide (f < 0) || decide (t ≤ f) || decide (345686400000 < t)) = (out t 1 345686400000 || out f 0 (t - 1)) := by
 rw [Bool.eq_iff_iff]; simp [out]; omega
theorem window_t {f t : Int} (h : (f < 0 ∨ t ≤ f) ∨ 345686400000 < t) : (out t 1 345686400000 || out f 0 (t - 1)) = true := by
 rw [← window_ref]; simpa using h
theorem window_f {f t : Int} (h : (0 ≤ f ∧ f < t) ∧ t ≤ 345686400000) : out t 1 345686400000 = false ∧ out f 0 (t - 1) = false := by
 have h1 : (out t 1 345686400000 || out f 0 (t - 1)) = false := by rw [← window_ref]; simpa using h
 simpa using h1
def dealsR (m : MarketS) (l : List DealS) : Int := if 500 < l.length then 2 else chkGo (dealF m) byDeal deal0 l 0 l
def dealsE (m : MarketS) (l : List DealS) : Int := if marketE m ≠ 0 then marketE m else dealsR m l
theorem dealsR_ok {m : MarketS} {l : List DealS} (h : dealsR m l = 0) : l.length ≤ 500 ∧ (∀ x ∈ l, dealF m x = 0) ∧ l.Pairwise (fun a b => byDeal a b < 0) := by
 unfold dealsR at h
 split at h
 ·omega
 ·exact ⟨by omega, chk_fault l 0 h, chk_strict byDeal_cmp h⟩
theorem dealsR_one (m : MarketS) (x : DealS) : dealsR m [x] = dealF m x := by
 unfold dealsR
 rw [if_neg (by simp), chkGo]
 by_cases h : dealF m x = 0
 ·rw [if_neg (by simp [h]), if_neg (by simp), h]; rfl
 ·rw [if_pos h]
theorem dealsE_ok {m : MarketS} {l : List DealS} (h : dealsE m l = 0) : marketE m = 0 ∧ dealsR m l = 0 := by
 unfold dealsE at h; exact or_zero h
def repF (m : MarketS) (x : ReplyS) : Int := if !(key x.Offer) then 5 else if !(m.Teams.contains x.Team) then 8 else if !(moment x.At) then 1 else if out x.Kind 1 4 then 4 else 0
def repsR (m : MarketS) (a : List ReplyS) : Int := if 2000 < a.length then 2 else chkGo (repF m) byRep reply0 a 0 a
def repsE (m : MarketS) (a : List ReplyS) : Int := if marketE m ≠ 0 then marketE m else repsR m a
theorem repsR_ok {m : MarketS} {l : List ReplyS} (h : repsR m l = 0) : l.length ≤ 2000 ∧ (∀ x ∈ l, repF m x = 0) ∧ l.Pairwise (fun a b => byRep a b < 0) := by
 unfold repsR at h
 split at h
 ·omega
 ·exact ⟨by omega, chk_fault l 0 h, chk_strict byRep_cmp h⟩
theorem repsE_ok {m : MarketS} {l : List ReplyS} (h : repsE m l = 0) : marketE m = 0 ∧ repsR m l = 0 := by
 unfold repsE at h; exact or_zero h
theorem eqReply_is (x y : ReplyS) : eqHL [.str x.Offer, .str x.Team, .int .i64 x.At, .int .i64 x.Kind] [.str y.Offer, .str y.Team, .int .i64 y.At, .int .i64 y.Kind] = true ↔ x = y := by
 obtain ⟨a1, a2, a3, a4⟩ := x; obtain ⟨b1, b2, b3, b4⟩ := y
 show (_ && (_ && (_ && (_ && true)))) = true ↔ _
 simp [eqH, and_assoc]
instance decReplyS : DecidableEq ReplyS := fun x y => decidable_of_iff _ (eqReply_is x y)
def mrgE (m : MarketS) (a b : List ReplyS) : Int := if orI [repsE m a, repsE m b] ≠ 0 then orI [repsE m a, repsE m b] else if cflA byRep a b then 13 else 0
def mrgL (m : MarketS) (a b : List ReplyS) : List ReplyS := if orI [repsE m a, repsE m b] ≠ 0 then [] else if cflA byRep a b then [] else merS byRep a b
/-! what an offer does -/
def stepO (o : List OwnerS) (g : GiveS) : Option (List OwnerS) :=
 match o[o.findIdx (fun y => y.Player == g.Player)]? with
 | some y => if y.Team = g.From then some (o.set (o.findIdx (fun y => y.Player == g.Player)) ⟨y.Player, g.To⟩) else none
 | none => none
def didF : List OwnerS → List GiveS → Option (List OwnerS)
 | o, [] => some o
 | o, g :: r => (stepO o g).bind fun p => didF p r
theorem findIdx_at {α : Type} {p : α → Bool} {l : List α} {i : Nat} {y : α} (hi : l[i]? = some y) (hp : p y = true) (hb : ∀ (j : Nat) (z : α), j < i → l[j]? = some z → p z = false) : l.findIdx p = i := by
 have hl := lt_of_get hi
 rw [List.getElem?_eq_getElem hl] at hi
 have e := Option.some.inj hi
 rw [List.findIdx_eq hl]
 refine ⟨by rw [e]; exact hp, fun j hj => ?_⟩
 have := hb j l[j] hj (List.getElem?_eq_getElem (by omega))
 simpa using this
theorem stepO_at {o : List OwnerS} {g : GiveS} {i : Nat} {y : OwnerS} (hi : o[i]? = some y) (hp : y.Player = g.Player) (hb : ∀ (j : Nat) (z : OwnerS), j < i → o[j]? = some z → z.Player ≠ g.Player) : stepO o g = if y.Team = g.From then some (o.set i ⟨y.Player, g.To⟩) else none := by
 have h := findIdx_at (p := fun y => y.Player == g.Player) hi (by simpa using hp) (fun j z hj hz => by simpa using hb j z hj hz)
 unfold stepO
 rw [h, hi]
theorem stepO_none {o : List OwnerS} {g : GiveS} (h : ∀ y ∈ o, y.Player ≠ g.Player) : stepO o g = none := by
 unfold stepO
 rw [List.findIdx_eq_length.2 (fun y hy => by simpa using h y hy), List.getElem?_eq_none (Nat.le_refl _)]
theorem set_player {o : List OwnerS} {i : Nat} {y : OwnerS} {t : Str} (hi : o[i]? = some y) : (o.set i ⟨y.Player, t⟩).map (·.Player) = o.map (·.Player) := by
 rw [List.map_set]
 refine List.ext_getElem? fun j => ?_
 by_cases e : i = j
 ·subst e
  have hl := lt_of_get hi
  rw [List.getElem?_set_self (by simpa using hl), List.getElem?_map, hi]; rfl
 ·rw [List.getElem?_set_ne e]
theorem own_sorted {o : List OwnerS} (h : o.Pairwise fun a b => byOwn a b < 0) : SortedS (o.map (·.Player)) :=
 List.pairwise_map.2 (h.imp fun {a b} hab => by
  rcases less_total a.Player b.Player with q | q | q
  ·exact q
  ·exfalso; unfold byOwn at hab; rw [cmpS_zero.2 q] at hab; omega
  ·exfalso
   have h1 : cmpS b.Player a.Player ≤ 0 := cmpS_le.2 (less_asymm q)
   have h2 := cmpS_flip a.Player b.Player
   unfold byOwn at hab
   have h3 : ¬ cmpS a.Player b.Player ≤ 0 := fun e => by
    have := cmpS_le.1 e; rw [q] at this; cases this
   omega)
/-- The one that a search finds. -/
theorem posS_at {l : List Str} {s : Str} (hs : SortedS l) (h : l.contains s = true) : l[posS l s]? = some s ∧ ∀ (j : Nat) (z : Str), j < posS l s → l[j]? = some z → z ≠ s := by
 obtain ⟨k, hk, e⟩ := List.getElem_of_mem (by simpa using h)
 have hk' : l[k]? = some s := by rw [List.getElem?_eq_getElem hk, e]
 have hp : posS l s = k := posS_eq (by omega) (fun j x hj hx => hs.get hj hx hk') (fun j x hj hx => by
  rcases Nat.lt_or_eq_of_le hj with q | q
  ·exact less_asymm (hs.get q hk' hx)
  ·subst q; rw [hk'] at hx; cases hx; exact less_irrefl _)
 rw [hp]
 refine ⟨hk', fun j z hj hz e2 => ?_⟩
 have := hs.get hj hz hk'
 rw [e2, less_irrefl] at this; cases this
/-! as a walk tells it -/
section
variable {α : Type} {f : α → Int} {c : α → α → Int} {d : α} {l r : List α} {k : Nat} {x : α} {e : Int}
theorem chkG_bad (hg : chkGo f c d l 0 l = chkGo f c d l k (x :: r)) (he : e ≠ 0) (hf : f x = e) : chkGo f c d l 0 l = e := by
 rw [hg, chkGo_bad (by rw [hf]; exact he), hf]
theorem chkG_ord (hg : chkGo f c d l 0 l = chkGo f c d l k (x :: r)) (hf : f x = 0) (h0 : 0 < k) (h : c x (l.getD (k - 1) d) ≤ 0) : chkGo f c d l 0 l = 7 := by
 rw [hg, chkGo_ord hf h0 h]
theorem leq_iff {a b : Str} : (Op.bytesLess a b || a == b) = true ↔ cmpS a b ≤ 0 := by rw [leq_cmpS, decide_eq_true_iff]
theorem leq_f {a b : Str} (h : (Op.bytesLess a b || a == b) = false) : ¬ cmpS a b ≤ 0 := by rwa [leq_cmpS, decide_eq_false_iff_not] at h
end
theorem own_bad {m : MarketS} {o r : List OwnerS} {k : Nat} {x : OwnerS} {e : Int} (hl : ¬ 500 < o.length) (hg : ownersC m o = chkGo (ownF m) byOwn owner0 o k (x :: r)) (he : e ≠ 0) (hf : ownF m x = e) : e = ownersR m o := by
 have h : ownersC m o = e := chkG_bad hg he hf
 rw [ownersR, if_neg hl, h, if_pos he]
theorem own_ord {m : MarketS} {o r : List OwnerS} {k : Nat} {x : OwnerS} (hl : ¬ 500 < o.length) (hg : ownersC m o = chkGo (ownF m) byOwn owner0 o k (x :: r)) (hf : ownF m x = 0) (h0 : 0 < k) (h : (Op.bytesLess x.Player (o.getD (k - 1) owner0).Player || x.Player == (o.getD (k - 1) owner0).Player) = true) : 7 = ownersR m o := by
 have h : ownersC m o = 7 := chkG_ord hg hf h0 (leq_iff.1 h)
 rw [ownersR, if_neg hl, h]; rfl
theorem own_next {m : MarketS} {o r : List OwnerS} {k : Nat} {x : OwnerS} (hf : ownF m x = 0) (h : 0 < k → (Op.bytesLess x.Player (o.getD (k - 1) owner0).Player || x.Player == (o.getD (k - 1) owner0).Player) = false) : chkGo (ownF m) byOwn owner0 o k (x :: r) = chkGo (ownF m) byOwn owner0 o (k + 1) r :=
 chkGo_ne hf fun h0 => leq_f (h h0)
theorem own_big {m : MarketS} {o : List OwnerS} (h : 500 < o.length) : 2 = ownersR m o := by rw [ownersR, if_pos h]
theorem own_end {m : MarketS} {o : List OwnerS} (hl : ¬ 500 < o.length) (hg : ownersC m o = 0) : (if fitsB m o then 0 else 12) = ownersR m o := by
 have h : ¬ ownersC m o ≠ 0 := by simp [hg]
 rw [ownersR, if_neg hl, if_neg h]
theorem giv_bad {m : MarketS} {l r : List GiveS} {k : Nat} {x : GiveS} {e : Int} (h0 : ¬ l.length = 0) (hl : ¬ 40 < l.length) (hg : chkGo (givF m) byGiv give0 l 0 l = chkGo (givF m) byGiv give0 l k (x :: r)) (he : e ≠ 0) (hf : givF m x = e) : e = givesE m l := by
 rw [givesE, if_neg h0, if_neg hl, chkG_bad hg he hf]
theorem giv_ord {m : MarketS} {l r : List GiveS} {k : Nat} {x : GiveS} (h0 : ¬ l.length = 0) (hl : ¬ 40 < l.length) (hg : chkGo (givF m) byGiv give0 l 0 l = chkGo (givF m) byGiv give0 l k (x :: r)) (hf : givF m x = 0) (hk : 0 < k) (h : (Op.bytesLess x.Player (l.getD (k - 1) give0).Player || x.Player == (l.getD (k - 1) give0).Player) = true) : 7 = givesE m l := by
 rw [givesE, if_neg h0, if_neg hl, chkG_ord hg hf hk (leq_iff.1 h)]
theorem giv_next {m : MarketS} {l r : List GiveS} {k : Nat} {x : GiveS} (hf : givF m x = 0) (h : 0 < k → (Op.bytesLess x.Player (l.getD (k - 1) give0).Player || x.Player == (l.getD (k - 1) give0).Player) = false) : chkGo (givF m) byGiv give0 l k (x :: r) = chkGo (givF m) byGiv give0 l (k + 1) r :=
 chkGo_ne hf fun h0 => leq_f (h h0)
theorem giv_end {m : MarketS} {l : List GiveS} (h0 : ¬ l.length = 0) (hl : ¬ 40 < l.length) (hg : chkGo (givF m) byGiv give0 l 0 l = 0) : 0 = givesE m l := by
 rw [givesE, if_neg h0, if_neg hl, hg]
theorem deal_bad {m : MarketS} {l r : List DealS} {k : Nat} {x : DealS} {e : Int} (hl : ¬ 500 < l.length) (hg : chkGo (dealF m) byDeal deal0 l 0 l = chkGo (dealF m) byDeal deal0 l k (x :: r)) (he : e ≠ 0) (hf : dealF m x = e) : e = dealsR m l := by
 rw [dealsR, if_neg hl, chkG_bad hg he hf]
theorem deal_ord {m : MarketS} {l r : List DealS} {k : Nat} {x : DealS} (hl : ¬ 500 < l.length) (hg : chkGo (dealF m) byDeal deal0 l 0 l = chkGo (dealF m) byDeal deal0 l k (x :: r)) (hf : dealF m x = 0) (hk : 0 < k) (h : (Op.bytesLess x.Id (l.getD (k - 1) deal0).Id || x.Id == (l.getD (k - 1) deal0).Id) = true) : 7 = dealsR m l := by
 rw [dealsR, if_neg hl, chkG_ord hg hf hk (leq_iff.1 h)]
theorem deal_next {m : MarketS} {l r : List DealS} {k : Nat} {x : DealS} (hf : dealF m x = 0) (h : 0 < k → (Op.bytesLess x.Id (l.getD (k - 1) deal0).Id || x.Id == (l.getD (k - 1) deal0).Id) = false) : chkGo (dealF m) byDeal deal0 l k (x :: r) = chkGo (dealF m) byDeal deal0 l (k + 1) r :=
 chkGo_ne hf fun h0 => leq_f (h h0)
theorem deal_big {m : MarketS} {l : List DealS} (h : 500 < l.length) : 2 = dealsR m l := by rw [dealsR, if_pos h]
theorem deal_end {m : MarketS} {l : List DealS} (hl : ¬ 500 < l.length) (hg : chkGo (dealF m) byDeal deal0 l 0 l = 0) : 0 = dealsR m l := by rw [dealsR, if_neg hl, hg]
theorem rep_bad {m : MarketS} {l r : List ReplyS} {k : Nat} {x : ReplyS} {e : Int} (hl : ¬ 2000 < l.length) (hg : chkGo (repF m) byRep reply0 l 0 l = chkGo (repF m) byRep reply0 l k (x :: r)) (he : e ≠ 0) (hf : repF m x = e) : e = repsR m l := by
 rw [repsR, if_neg hl, chkG_bad hg he hf]
theorem rep_ord {m : MarketS} {l r : List ReplyS} {k : Nat} {x : ReplyS} (hl : ¬ 2000 < l.length) (hg : chkGo (repF m) byRep reply0 l 0 l = chkGo (repF m) byRep reply0 l k (x :: r)) (hf : repF m x = 0) (hk : 0 < k) (h : byRep x (l.getD (k - 1) reply0) ≤ 0) : 7 = repsR m l := by
 rw [repsR, if_neg hl, chkG_ord hg hf hk h]
theorem rep_next {m : MarketS} {l r : List ReplyS} {k : Nat} {x : ReplyS} (hf : repF m x = 0) (h : 0 < k → ¬ byRep x (l.getD (k - 1) reply0) ≤ 0) : chkGo (repF m) byRep reply0 l k (x :: r) = chkGo (repF m) byRep reply0 l (k + 1) r :=
 chkGo_ne hf h
theorem rep_big {m : MarketS} {l : List ReplyS} (h : 2000 < l.length) : 2 = repsR m l := by rw [repsR, if_pos h]
theorem rep_end {m : MarketS} {l : List ReplyS} (hl : ¬ 2000 < l.length) (hg : chkGo (repF m) byRep reply0 l 0 l = 0) : 0 = repsR m l := by rw [repsR, if_neg hl, hg]
theorem rep_ge {x y : ReplyS} : 0 ≤ byRep x y ↔ byRep y x ≤ 0 := by
 have h1 := byRep_cmp.flip x y trivial trivial
 have h2 := byRep_cmp.flip y x trivial trivial
 omega
/-- Loops that count. -/
theorem cnt_loop (o : List OwnerS) (t : Str) (k : Nat) (x : OwnerS) (hx : o[k]? = some x) : cntO (o.take (k + 1)) t = cntO (o.take k) t + (if x.Team = t then 1 else 0) := by
 rw [take_snoc' hx, cntO_snoc]
/-! an owner that is looked for -/
theorem cmpS_lt {a b : Str} : cmpS a b < 0 ↔ Op.bytesLess a b = true := by
 have h1 := cmpS_flip a b
 constructor
 ·intro h
  rcases less_total a b with q | q | q
  ·exact q
  ·rw [cmpS_zero.2 q] at h; omega
  ·have := cmpS_le.2 (less_asymm q); omega
 ·intro h
  have h2 : ¬ cmpS a b = 0 := fun e => by rw [cmpS_zero.1 e, less_irrefl] at h; cases h
  have h3 := cmpS_le.2 (less_asymm h)
  omega
theorem bsf_found {l : List OwnerS} {s : Str} {i : Nat} : (bif decide ((i : Int) < (l.length : Int)) then cmpS (l.getD i owner0).Player s == 0 else false) = ((l.map (·.Player))[i]? == some s) := by
 by_cases h : i < l.length
 ·have h' : (i : Int) < (l.length : Int) := by omega
  rw [List.getElem?_map, getD_some (d := owner0) h]
  simp only [h', decide_true, cond_true]
  rw [Bool.eq_iff_iff]; simp [cmpS_zero]
 ·have h' : ¬ (i : Int) < (l.length : Int) := by omega
  rw [List.getElem?_map, List.getElem?_eq_none (by omega : l.length ≤ i)]
  simp [h']
theorem own_at {o : List OwnerS} {s : Str} (hs : SortedS (o.map (·.Player))) (h : (o.map (·.Player)).contains s = true) :
 posS (o.map (·.Player)) s < o.length ∧ o[posS (o.map (·.Player)) s]? = some (o.getD (posS (o.map (·.Player)) s) owner0) ∧ (o.getD (posS (o.map (·.Player)) s) owner0).Player = s ∧ ∀ (j : Nat) (z : OwnerS), j < posS (o.map (·.Player)) s → o[j]? = some z → z.Player ≠ s := by
 obtain ⟨h1, h2⟩ := posS_at hs h
 have hl : posS (o.map (·.Player)) s < o.length := by simpa using lt_of_get h1
 have hg := getD_some (d := owner0) hl
 refine ⟨hl, hg, ?_, fun j z hj hz => h2 j z.Player hj (by rw [List.getElem?_map, hz]; rfl)⟩
 rw [List.getElem?_map, hg] at h1
 simpa using h1
theorem own_no {o : List OwnerS} {s : Str} (h : (o.map (·.Player)).contains s = false) : ∀ y ∈ o, y.Player ≠ s := fun y hy e => by
 have : (o.map (·.Player)).contains s = true := by
  simp only [List.contains_eq_mem, decide_eq_true_eq]
  exact List.mem_map.2 ⟨y, hy, e⟩
 rw [h] at this; cases this
theorem own_idx {o : List OwnerS} {s : Str} (h : 0 ≤ idxF (fun y : OwnerS => y.Player == s) o 0) :
 ∃ i : Nat, idxF (fun y : OwnerS => y.Player == s) o 0 = (i : Int) ∧ i < o.length ∧ o[i]? = some (o.getD i owner0) ∧ (o.getD i owner0).Player = s ∧ ∀ (j : Nat) (z : OwnerS), j < i → o[j]? = some z → z.Player ≠ s := by
 obtain ⟨i, h1, h2, ⟨z, h3, h4⟩, h5⟩ := idxF_found (fun y : OwnerS => y.Player == s) o 0 (by omega) (by omega)
 rw [Int.zero_add] at h1
 have h6 := getD_some (d := owner0) h2
 refine ⟨i, h1, h2, h6, ?_, fun j z hj hz => by simpa using h5 z (List.mem_of_getElem? (by rw [List.getElem?_take_of_lt hj]; exact hz))⟩
 rw [h6] at h3
 rw [Option.some.inj h3]; simpa using h4
theorem own_miss {o : List OwnerS} {s : Str} (h : idxF (fun y : OwnerS => y.Player == s) o 0 < 0) : ∀ y ∈ o, y.Player ≠ s := fun y hy e => by
 have h1 := idxF_nonneg (fun y : OwnerS => y.Player == s) o 0 (by omega)
 have h2 : o.any (fun y : OwnerS => y.Player == s) = true := List.any_eq_true.2 ⟨y, hy, by simpa using e⟩
 rw [h2] at h1
 have := of_decide_eq_true h1; omega
/-! what an offer does, step by step -/
theorem didF_take {o D : List OwnerS} {g : GiveS} {r l : List GiveS} {i : Nat} {y : OwnerS} (hg : didF o l = didF D (g :: r)) (hi : D[i]? = some y) (hp : y.Player = g.Player) (hb : ∀ (j : Nat) (z : OwnerS), j < i → D[j]? = some z → z.Player ≠ g.Player) (ht : y.Team = g.From) : didF o l = didF (D.set i ⟨y.Player, g.To⟩) r := by
 rw [hg, didF, stepO_at hi hp hb, if_pos ht]; rfl
theorem didF_other {o D : List OwnerS} {g : GiveS} {r l : List GiveS} {i : Nat} {y : OwnerS} (hg : didF o l = didF D (g :: r)) (hi : D[i]? = some y) (hp : y.Player = g.Player) (hb : ∀ (j : Nat) (z : OwnerS), j < i → D[j]? = some z → z.Player ≠ g.Player) (ht : ¬ y.Team = g.From) : didF o l = none := by
 rw [hg, didF, stepO_at hi hp hb, if_neg ht]; rfl
theorem didF_none {o D : List OwnerS} {g : GiveS} {r l : List GiveS} (hg : didF o l = didF D (g :: r)) (h : ∀ y ∈ D, y.Player ≠ g.Player) : didF o l = none := by
 rw [hg, didF, stepO_none h]; rfl
def didV (o : List OwnerS) (l : List GiveS) : List OwnerS := (didF o l).getD []
def didB (m : MarketS) (o : List OwnerS) (l : List GiveS) : Bool := match didF o l with | some d => fitsB m d | none => false
theorem didB_none {m : MarketS} {o : List OwnerS} {l : List GiveS} (h : didF o l = none) : didB m o l = false ∧ didV o l = [] := by
 unfold didB didV; rw [h]; exact ⟨rfl, rfl⟩
theorem didB_some {m : MarketS} {o d : List OwnerS} {l : List GiveS} (h : didF o l = some d) : didB m o l = fitsB m d ∧ didV o l = d := by
 unfold didB didV; rw [h]; exact ⟨rfl, rfl⟩
def tradeE (m : MarketS) (o : List OwnerS) (x : DealS) : Int := orI [ownersE m o, dealsE m [x]]
def canB (m : MarketS) (o : List OwnerS) (x : DealS) : Bool := if tradeE m o x ≠ 0 then false else didB m o x.Gives
def didL (m : MarketS) (o : List OwnerS) (x : DealS) : List OwnerS := if tradeE m o x ≠ 0 then [] else if didB m o x.Gives then didV o x.Gives else []
def didE (m : MarketS) (o : List OwnerS) (x : DealS) : Int := if tradeE m o x ≠ 0 then tradeE m o x else if didB m o x.Gives then 0 else 11
theorem or2_zero {a b : Int} (h : orI [a, b] = 0) : a = 0 ∧ b = 0 := by rw [orI2] at h; exact or_zero h
theorem deal1_ok {m : MarketS} {x : DealS} (h : dealsE m [x] = 0) : marketE m = 0 ∧ x.Gives.length ≤ 40 := by
 obtain ⟨h1, h2⟩ := dealsE_ok h
 obtain ⟨_, h3, _⟩ := dealsR_ok h2
 obtain ⟨_, h4, _⟩ := givesE_ok (dealF_ok (h3 x (by simp)))
 exact ⟨h1, h4⟩
theorem trade_ok {m : MarketS} {o : List OwnerS} {x : DealS} (h : tradeE m o x = 0) : SortedS (o.map (·.Player)) ∧ x.Gives.length ≤ 40 := by
 obtain ⟨h1, h2⟩ := or2_zero h
 obtain ⟨_, h3⟩ := ownersE_ok h1
 exact ⟨own_sorted (ownersR_ok h3).2.2.1, (deal1_ok h2).2⟩
def concD (m : MarketS) (x : DealS) : List Str := if dealsE m [x] ≠ 0 then [] else concL x.Gives
theorem didL_bad {m : MarketS} {o : List OwnerS} {x : DealS} (h : tradeE m o x ≠ 0) : didL m o x = [] ∧ didE m o x = tradeE m o x := by
 unfold didL didE; rw [if_pos h, if_pos h]; exact ⟨rfl, rfl⟩
theorem didL_no {m : MarketS} {o : List OwnerS} {x : DealS} (h : tradeE m o x = 0) (hb : didB m o x.Gives = false) : didL m o x = [] ∧ didE m o x = 11 := by
 have h1 : ¬ tradeE m o x ≠ 0 := by simp [h]
 unfold didL didE; rw [if_neg h1, if_neg h1, hb]; exact ⟨rfl, rfl⟩
theorem didL_yes {m : MarketS} {o : List OwnerS} {x : DealS} (h : tradeE m o x = 0) (hb : didB m o x.Gives = true) : didL m o x = didV o x.Gives ∧ didE m o x = 0 := by
 have h1 : ¬ tradeE m o x ≠ 0 := by simp [h]
 unfold didL didE; rw [if_neg h1, if_neg h1, hb]; exact ⟨rfl, rfl⟩
theorem canB_ok {m : MarketS} {o : List OwnerS} {x : DealS} (h : tradeE m o x = 0) : canB m o x = didB m o x.Gives := by
 unfold canB; rw [if_neg (by simp [h])]
theorem canB_bad {m : MarketS} {o : List OwnerS} {x : DealS} (h : tradeE m o x ≠ 0) : canB m o x = false := by
 unfold canB; rw [if_pos h]
def didRL (m : MarketS) (o : List OwnerS) (l : List GiveS) : List OwnerS := if didB m o l then didV o l else []
theorem didRL_no {m : MarketS} {o : List OwnerS} {l : List GiveS} (h : didB m o l = false) : didRL m o l = [] := by unfold didRL; rw [h]; rfl
theorem didRL_yes {m : MarketS} {o : List OwnerS} {l : List GiveS} (h : didB m o l = true) : didRL m o l = didV o l := by unfold didRL; rw [h]; rfl
end Go.HL
end
section
namespace Go.HL
structure GoodM (m : MarketS) : Prop where
 pos : 0 < m.Teams.length
 len : m.Teams.length ≤ 5
 sh : ∀ s ∈ m.Teams, s.length ≤ 10
def team4 : List Str := [[116, 97], [116, 98], [116, 99], [116, 100]]
theorem team4_len : ∀ s ∈ team4, s.length ≤ 10 := by decide
def GoodOw1 (x : OwnerS) : Prop := Sh x.Player ∧ Sh x.Team
structure GoodOw (l : List OwnerS) : Prop where
 len : l.length ≤ 13
 all : ∀ x ∈ l, Sh x.Player ∧ Sh x.Team
def GoodRp1 (x : ReplyS) : Prop := Sh x.Offer
structure GoodRp (l : List ReplyS) : Prop where
 len : l.length ≤ 12
 all : ∀ x ∈ l, Sh x.Offer
structure GoodDl1 (x : DealS) : Prop where
 id : Sh x.Id
 len : x.Gives.length ≤ 3
 all : ∀ g ∈ x.Gives, Sh g.Player
structure GoodDl (l : List DealS) : Prop where
 len : l.length ≤ 5
 all : ∀ x ∈ l, GoodDl1 x
theorem sh_of {s : Str} {n : Nat} (h : s.length ≤ n) (hn : n ≤ 1000000) : Sh s := by unfold Sh; omega
theorem hw_arrg [Tracks] {P : Program} {n : Nat} {e : Env} {M : List MObj} {c : Code} {Q : Exit → Env → List MObj → Prop} {i : Nat} {v : Value} {sz : Nat} {es : List HVal} (hm : M[i]? = some (.arr v sz es))
 (h : ∀ p b off cap, (p = some ⟨b, off, none⟩ ∨ es = []) → v = .slice p es.length cap → HWp P n c e M Q) : HWp P n c e M Q :=
 hw_arrc hm (fun h0 he => h none 0 0 0 (.inr he) (by rw [h0, he]; rfl)) (fun b off cap hv _ => h _ b off cap (.inl rfl) hv)
/-- What is left of a list, some of it gone. -/
structure LeftOf {α : Type} (l k : List α) : Prop where
 len : k.length ≤ l.length
 sub : ∀ x ∈ k, x ∈ l
theorem LeftOf.take {α : Type} {l D : List α} (n : Nat) (hl : D.length = l.length) (h : ∀ x ∈ D, x ∈ l) : LeftOf l (D.take n) :=
 ⟨by rw [List.length_take]; omega, fun x hx => h x (List.mem_of_mem_take hx)⟩
theorem LeftOf.refl {α : Type} (l : List α) : LeftOf l l := ⟨Nat.le_refl _, fun _ h => h⟩
end Go.HL
end
section
namespace Go.HL
end Go.HL
end
section
namespace Go.HL
structure Hall where
 Teams : List Str
 Players : List Str
 Budget : Int
 Places : Int
structure Sale where
 Player : Str
 Team : Str
 Price : Int
def spent : List Sale → Str → Int
 | [], _ => 0
 | x :: r, t => (if x.Team = t then x.Price else 0) + spent r t
def many : List Sale → Str → Int
 | [], _ => 0
 | x :: r, t => (if x.Team = t then 1 else 0) + many r t
theorem spent_snoc (l : List Sale) (x : Sale) (t : Str) : spent (l ++ [x]) t = spent l t + (if x.Team = t then x.Price else 0) := by
 induction l with
 | nil => simp [spent]
 | cons y r ih => simp only [List.cons_append, spent, ih]; omega
theorem many_snoc (l : List Sale) (x : Sale) (t : Str) : many (l ++ [x]) t = many l t + (if x.Team = t then 1 else 0) := by
 induction l with
 | nil => simp [many]
 | cons y r ih => simp only [List.cons_append, many, ih]; omega
abbrev SMap := List (Str × HVal)
def lkI (L : SMap) (t : Str) : HVal := match sfind t L with | some p => p.2 | none => .int .i64 0
theorem sfind_append_none {s t : Str} {v : HVal} : ∀ {L : SMap}, sfind s L = none → sfind t (L ++ [(s, v)]) = if t = s then some (L.length, v) else sfind t L
 | [], _ => by by_cases h : t = s <;> simp [sfind, h]
 | (k, h) :: r, hn => by
   simp only [sfind] at hn
   by_cases hk : s = k
   ·rw [if_pos hk] at hn; cases hn
   ·rw [if_neg hk] at hn
    have hr : sfind s r = none := by cases hq : sfind s r with
     | none => rfl
     | some p => rw [hq] at hn; cases hn
    have ih := sfind_append_none (t := t) (v := v) hr
    simp only [List.cons_append, sfind]
    by_cases ht : t = k
    ·have : ¬ t = s := fun e => hk (e ▸ ht)
     rw [if_pos ht, if_neg this, if_pos ht]
    ·rw [if_neg ht, ih]
     by_cases hs : t = s
     ·rw [if_pos hs, if_pos hs]; simp
     ·rw [if_neg hs, if_neg hs, if_neg ht]
theorem sfind_set {s t : Str} {v : HVal} : ∀ {L : SMap} {j : Nat} {h : HVal}, sfind s L = some (j, h) → (sfind t (L.set j (s, v))) = if t = s then some (j, v) else sfind t L
 | [], j, h, hh => by simp [sfind] at hh
 | (k, x) :: r, j, h, hh => by
   simp only [sfind] at hh
   by_cases hk : s = k
   ·rw [if_pos hk] at hh
    simp only [Option.some.injEq, Prod.mk.injEq] at hh
    obtain ⟨rfl, rfl⟩ := hh
    subst hk
    simp only [List.set_cons_zero, sfind]
    by_cases ht : t = s
    ·rw [if_pos ht, if_pos ht]
    ·rw [if_neg ht, if_neg ht, if_neg ht]
   ·rw [if_neg hk] at hh
    cases hq : sfind s r with
    | none => rw [hq] at hh; cases hh
    | some p =>
      rw [hq] at hh
      simp only [Option.map_some, Option.some.injEq, Prod.mk.injEq] at hh
      obtain ⟨rfl, rfl⟩ := hh
      have ih := sfind_set (t := t) (v := v) (L := r) (j := p.1) (h := p.2) (by rw [hq])
      simp only [List.set_cons_succ, sfind]
      by_cases ht : t = k
      ·have : ¬ t = s := fun e => hk (e ▸ ht)
       rw [if_pos ht, if_neg this, if_pos ht]
      ·rw [if_neg ht, ih, if_neg ht]
       by_cases hs : t = s
       ·rw [if_pos hs, if_pos hs]; rfl
       ·rw [if_neg hs, if_neg hs]
theorem sfind_put (s t : Str) (v : HVal) (L : SMap) : (sfind t (sput s v L)).map (·.2) = if t = s then some v else (sfind t L).map (·.2) := by
 unfold sput
 cases hq : sfind s L with
 | none => simp only []; rw [sfind_append_none hq]; split <;> rfl
 | some p => obtain ⟨j, h⟩ := p; simp only []; rw [sfind_set hq]; split <;> rfl
theorem lkI_eq (L : SMap) (t : Str) : lkI L t = ((sfind t L).map (·.2)).getD (.int .i64 0) := by
 unfold lkI; cases sfind t L <;> rfl
theorem lkI_put (s t : Str) (v : HVal) (L : SMap) : lkI (sput s v L) t = if t = s then v else lkI L t := by
 rw [lkI_eq, sfind_put, lkI_eq]; split <;> rfl
/-- An auction after sales. -/
structure AucOk (h : Hall) (l : List Sale) (S : List Str) (L H : SMap) : Prop where
 sold : ∀ s, S.contains s = l.any (fun y => y.Player == s)
 left : ∀ t, h.Teams.contains t = true → lkI L t = .int .i64 (h.Budget - spent l t)
 got : ∀ t, lkI H t = .int .i64 (many l t)
theorem sadd_contains (s t : Str) (l : List Str) : (sadd s l).contains t = (l.contains t || s == t) := by
 unfold sadd
 by_cases hc : l.contains s = true
 ·rw [if_pos hc]
  by_cases h : s = t
  ·subst h; rw [hc]; simp
  ·have : (s == t) = false := by simpa using h
   simp [this]
 ·rw [if_neg hc, List.contains_eq_any_beq, List.any_append, ← List.contains_eq_any_beq]
  congr 1
  simp only [List.any_cons, List.any_nil, Bool.or_false]
  rw [Bool.eq_iff_iff, beq_iff_eq, beq_iff_eq]; exact eq_comm
theorem AucOk.add {h : Hall} {l : List Sale} {S : List Str} {L H : SMap} (ok : AucOk h l S L H) (x : Sale) (hx : h.Teams.contains x.Team = true) :
 AucOk h (l ++ [x]) (sadd x.Player S) (sput x.Team (.int .i64 (h.Budget - spent l x.Team - x.Price)) L) (sput x.Team (.int .i64 (many l x.Team + 1)) H) where
 sold s := by rw [sadd_contains, ok.sold, List.any_append]; simp
 left t ht := by
  rw [lkI_put, spent_snoc]
  by_cases e : t = x.Team
  ·subst e; rw [if_pos rfl, if_pos rfl]; congr 1; omega
  ·rw [if_neg e, if_neg (fun q => e q.symm), ok.left t ht]; congr 1; omega
 got t := by
  rw [lkI_put, many_snoc]
  by_cases e : t = x.Team
  ·subst e; rw [if_pos rfl, if_pos rfl]
  ·rw [if_neg e, if_neg (fun q => e q.symm), ok.got t]; congr 1; omega
end Go.HL
end
section
namespace Go.HL
/-! numbers in decimal -/
def dig (c : UInt8) : Bool := decide (48 ≤ c.toNat) && decide (c.toNat ≤ 57)
def cutMinus (s : Str) : Str := match s with | 45 :: r => r | _ => s
def numC (s : Str) (n : Int) : Bool := decide ((cutMinus s = [] ∨ n < ((cutMinus s).length : Int)) ∨ ((((cutMinus s).head?).getD 0).toNat : Int) = 48 ∧ ((1 : Int) < ((cutMinus s).length : Int) ∨ (cutMinus s).length < s.length))
def numB (s : Str) (n : Int) : Bool := !(numC s n) && (cutMinus s).all dig
def numV (s : Str) : Int := (Lib.atoi s).getD 0
def numR (s : Str) (n : Int) : Int := if numB s n then numV s else 0
/-- The map of limits. -/
def LimOk (l : List PairS) (L : SMap) : Prop := ∀ t, (sfind t L).map (·.2) = (l.find? (fun p => p.Name == t)).map (fun p => .int .i64 (numR p.Val 9))
theorem LimOk.add {l : List PairS} {L : SMap} (ok : LimOk l L) (x : PairS) (hx : l.any (fun y => y.Name == x.Name) = false) : LimOk (l ++ [x]) (sput x.Name (.int .i64 (numR x.Val 9)) L) := fun t => by
 rw [sfind_put, List.find?_append, ok t]
 by_cases e : t = x.Name
 ·subst e
  rw [if_pos rfl]
  have : l.find? (fun p => p.Name == x.Name) = none := by
   rw [List.find?_eq_none]; intro y hy
   have := List.any_eq_false.1 hx y hy
   simpa using this
  rw [this]; simp
 ·rw [if_neg e]
  have hn : (x.Name == t) = false := by simpa using fun q => e q.symm
  cases l.find? (fun p => p.Name == t) with
  | none => simp [List.find?, hn]
  | some p => simp
structure Top where
 team : Str
 first : Int
 second : Int
def Top.step (q : Top) (t : Str) (n : Int) : Top := if q.first < n then ⟨t, n, q.first⟩ else ⟨q.team, q.first, max q.second n⟩
end Go.HL
end
section
namespace Go.HL
section
variable {h : Hall} {l : List Sale} {x : Sale} (h6 : x.Player ∈ h.Players ∧ x.Team ∈ h.Teams) (h8 : ∀ y ∈ l, ¬ y.Player = x.Player)
include h6 h8
end
end Go.HL
end
section
namespace Go.HL
end Go.HL
end
section
namespace Go.HL
theorem Ghost.clear [Tracks] {e : Env} : ∀ {M : List MObj}, Ghost e M e []
 | [] => Ghost.perm (List.Perm.refl _)
 | _ :: _ => Ghost.trans Ghost.drop Ghost.clear
theorem Ghost.last [Tracks] {e : Env} {m : MObj} : ∀ {R : List MObj}, Ghost e (R ++ [m]) e [m]
 | [] => Ghost.perm (List.Perm.refl _)
 | x :: R => Ghost.trans (M' := R ++ [m]) Ghost.drop Ghost.last
theorem Ghost.only [Tracks] {e : Env} {M : List MObj} {i : Nat} {m : MObj} (h : M[i]? = some m) : Ghost e M e [m] :=
 Ghost.trans (Ghost.perm ((perm_erase h).trans (List.perm_append_comm (l₁ := [m]) (l₂ := M.eraseIdx i)))) Ghost.last
end Go.HL
end
section
namespace Go.HL
section
variable {P : Program} {e : Env} {dst : Option Tmp} {ty : TypeId} {pos : String} {af : Array Edge} {g : Option (Nat × Bool)} {M : List MObj} {K : HVal → List MObj → Prop}
theorem eop_lookupI [Tracks] {x y : Operand} {t kt et : TypeId} {size bytes s2 b2 s3 b3 : Nat} {zero z2 : Value} {d : TD} {i b : Nat} {ls : SMap} {s : Str} {h : HVal}
 (hf : Fits P t (.map kt et) size bytes zero) (hkt : Fits P kt .str s2 b2 z2) (het : Fits P et d s3 b3 (.int .i64 0)) (hx : evalO e x = some (.raw (.map (some b)))) (hy : evalO e y = some (.str s)) (hm : M[i]? = some (.map b (sk ls)))
 (hv : lkI ls s = h) (hk : K h M) : EOp P e M ⟨dst, .lookup t x y false, ty, pos, af, g⟩ K := by
 refine eop_lookup hf hkt het hx hy hm ?_
 show K (lkI ls s) M
 rw [hv]; exact hk
end
end Go.HL
end
section
namespace Go.HL
variable {P : Program}
theorem V.hmap_inv {I : Imm} {ks vs : List HVal} {v : Value} (h : V I (.hmap ks vs) v) : ∃ b es clk, v = .map (some b) ∧ I.heap b = some (.map es clk) ∧ es.size = ks.length ∧ es.size = vs.length ∧
 (∀ (j : Nat) (c : HVal) (m : MapEntry), ks[j]? = some c → es[j]? = some m → V I c m.key) ∧ ∀ (j : Nat) (c : HVal) (m : MapEntry), vs[j]? = some c → es[j]? = some m → V I c m.val := by
 cases h with
 | hmap h1 h2 h3 h4 h5 => exact ⟨_, _, _, rfl, h1, h2, h3, h4, h5⟩
/-- A frozen map keyed by strings. -/
abbrev hsm (L : SMap) : HVal := .hmap (L.map fun p => .str p.1) (L.map (·.2))
abbrev hset (S : List (List UInt8)) : HVal := hsm (mset S)
theorem sk_fst (L : SMap) : (sk L).map (·.1) = L.map fun p => HVal.str p.1 := by simp [sk, Function.comp_def]
theorem sk_snd (L : SMap) : (sk L).map (·.2) = L.map (·.2) := by simp [sk, Function.comp_def]
section
variable {e : Env} {dst : Option Tmp} {ty : TypeId} {pos : String} {af : Array Edge} {g : Option (Nat × Bool)}
theorem pop_lookup_m [Tracks] {x y : Operand} {t kt et : TypeId} {size bytes s2 b2 s3 b3 : Nat} {zero z2 z3 : Value} {d : TD} {ls : SMap} {s : List UInt8}
 (hf : Fits P t (.map kt et) size bytes zero) (hkt : Fits P kt .str s2 b2 z2) (het : Fits P et d s3 b3 z3) (hx : evalO e x = some (hsm ls)) (hy : evalO e y = some (.str s)) :
 POp P e ⟨dst, .lookup t x y false, ty, pos, af, g⟩ (match sfind s ls with | some p => p.2 | none => ofVal z3) :=
 POp.of_run fun I F a w ho hs => by
  obtain ⟨b, es, clk, h1, h3, h4, h4', hK, hV⟩ := (ho.one (x := x) (by simp [Op.operands]) hx).hmap_inv
  have h2 := (ho.one (x := y) (by simp [Op.operands]) hy).str_inv
  have h3 := hs.imm _ _ h3
  have h5 : ∀ (i : Nat) (p : HVal × HVal) (m : MapEntry), (sk ls)[i]? = some p → es[i]? = some m → V I p.1 m.key ∧ V I p.2 m.val := fun i p m a1 a2 => by
   refine ⟨hK i _ m ?_ a2, hV i _ m ?_ a2⟩
   ·rw [← sk_fst, List.getElem?_map, a1]; rfl
   ·rw [← sk_snd, List.getElem?_map, a1]; rfl
  obtain ⟨h6, h7⟩ := mapL_entries (by simpa [sk] using h4) h5
  obtain ⟨n1, n2⟩ := findNow_s (I := I) (s := s) es.toList ls 0 h6 h7
  cases hq : sfind s ls with
  | none =>
    refine ⟨z3, w, I, ?_, .refl I, V_ofVal I z3, hs⟩
    simp only [execOp, h1, h2, Instr.lookup, Sem.run_bind, run_underlying hf.mapD, Result.andThen_ok, run_getMap h3, Sem.run_pure, run_checkKey_s hkt.strD, Instr.findKey, run_underlying hkt.strD, n1 hq, het.run_zero]
    simp
  | some p =>
    obtain ⟨j, h⟩ := p
    obtain ⟨v, g1, g2⟩ := n2 j h hq
    refine ⟨v, w, I, ?_, .refl I, g2, hs⟩
    simp only [execOp, h1, h2, Instr.lookup, Sem.run_bind, run_underlying hf.mapD, Result.andThen_ok, run_getMap h3, Sem.run_pure, run_checkKey_s hkt.strD, Instr.findKey, run_underlying hkt.strD, g1]
    simp
end
/-- h, seen as h' while it is only read; objects may hold others. -/
inductive Bow (M : List MObj) : HVal → HVal → Prop
 | weak {h h' : HVal} (hw : Weak h h') : Bow M h h'
 | arr {i : Nat} {v : Value} {sz : Nat} {es : List HVal} (hm : M[i]? = some (.arr v sz es)) : Bow M (.raw v) (.slice sz es)
 | cells {i b off : Nat} {cs cs' : List HVal} (hm : M[i]? = some (.cells b cs)) (hl : cs.length = cs'.length) (h : ∀ (j : Nat) (c c' : HVal), cs[j]? = some c → cs'[j]? = some c' → Bow M c c') : Bow M (.raw (.pointer (some ⟨b, off, none⟩))) (.vptr cs' off)
 | map {i b : Nat} {L : SMap} (hm : M[i]? = some (.map b (sk L))) : Bow M (.raw (.map (some b))) (hsm L)
 | vptr {off : Nat} {l l' : List HVal} (hl : l.length = l'.length) (h : ∀ (j : Nat) (c c' : HVal), l[j]? = some c → l'[j]? = some c' → Bow M c c') : Bow M (.vptr l off) (.vptr l' off)
 | fn {f : Fn} {c1 l l' : List HVal} (hl : l.length = l'.length) (h : ∀ (j : Nat) (c c' : HVal), l[j]? = some c → l'[j]? = some c' → Bow M c c') : Bow M (.fn f c1 l) (.fn f c1 l')
def BowL (M : List MObj) : List HVal → List HVal → Prop
 | [], [] => True
 | h :: r, h' :: r' => Bow M h h' ∧ BowL M r r'
 | _, _ => False
theorem BowL.pt {M : List MObj} : ∀ {l l' : List HVal}, BowL M l l' → l.length = l'.length ∧ ∀ (j : Nat) (c c' : HVal), l[j]? = some c → l'[j]? = some c' → Bow M c c'
 | [], [], _ => ⟨rfl, fun j c c' h => by simp at h⟩
 | h :: r, h' :: r', hb => by
   obtain ⟨h1, h2⟩ := BowL.pt hb.2
   refine ⟨by simp [h1], fun j c c' a1 a2 => ?_⟩
   cases j with
   | zero => simp at a1 a2; subst a1 a2; exact hb.1
   | succ j => exact h2 j c c' (by simpa using a1) (by simpa using a2)
 | [], _ :: _, hb => hb.elim
 | _ :: _, [], hb => hb.elim
theorem Bow.vptrL {M : List MObj} {off : Nat} {l l' : List HVal} (h : BowL M l l') : Bow M (.vptr l off) (.vptr l' off) := .vptr h.pt.1 h.pt.2
theorem Bow.fnL {M : List MObj} {f : Fn} {c1 l l' : List HVal} (h : BowL M l l') : Bow M (.fn f c1 l) (.fn f c1 l') := .fn h.pt.1 h.pt.2
theorem Bow.refl {M : List MObj} {h : HVal} : Bow M h h := .weak (Weak.refl _)
theorem V.vptr_inv' {I : Imm} {cs : List HVal} {off : Nat} {v : Value} (h : V I (.vptr cs off) v) : ∃ b base rc el fr, v = .pointer (some ⟨b, base + off, none⟩) ∧ I.heap b = some (.cells rc el fr) ∧ base + cs.length ≤ rc.size ∧
 ∀ (j : Nat) (c : HVal) (v : Value), cs[j]? = some c → rc[base + j]? = some v → V I c v := by
 cases h with
 | vptr h1 h2 h3 => exact ⟨_, _, _, _, _, rfl, h1, h2, h3⟩
theorem Bow.v [Tracks] {M : List MObj} {I : Imm} {F : List MObj} {w : World} {h h' : HVal} (hb : Bow M h h') (hs : Sat P I (M ++ F) w) : ∀ {v : Value}, V I h v → V (allI w) h' v := by
 induction hb with
 | weak hw => intro v hv; exact hw _ _ (hv.mono hs.le_all)
 | arr hm => intro v hv; exact (Bor.arr hm).v hs hv
 | @cells i b off cs cs' hm hl _ ih =>
   intro v hv
   rw [hv.raw_inv]
   obtain ⟨rc, el, fr, h2, h3, h4⟩ := hs.obj _ (List.mem_append_left _ (List.mem_of_getElem? hm))
   have := V.vptr (I := allI w) (cs := cs') (off := off) (base := 0) h2 (by have := h4.1; simp at this; omega) fun j c v a1 a2 => by
    have hj := lt_of_get a1
    have hj' := List.getElem?_eq_getElem (l := cs) (i := j) (by omega)
    exact ih j _ c hj' a1 (h4.2 j _ v hj' (by simpa using a2))
   rwa [Nat.zero_add] at this
 | @map i b L hm =>
   intro v hv
   rw [hv.raw_inv]
   obtain ⟨es, clk, h1, h2, h3⟩ := hs.obj _ (List.mem_append_left _ (List.mem_of_getElem? hm))
   have hn : es.size = L.length := by simpa [sk] using h2.1
   refine .hmap (I := allI w) h1 (by simp [hn]) (by simp [hn]) (fun j c m a1 a2 => ?_) (fun j c m a1 a2 => ?_)
   ·rw [← sk_fst, List.getElem?_map] at a1
    cases hq : (sk L)[j]? with
    | none => rw [hq] at a1; simp at a1
    | some p => rw [hq] at a1; simp at a1; subst a1; exact ((h3 j p m hq a2).1).mono hs.le_all
   ·rw [← sk_snd, List.getElem?_map] at a1
    cases hq : (sk L)[j]? with
    | none => rw [hq] at a1; simp at a1
    | some p => rw [hq] at a1; simp at a1; subst a1; exact ((h3 j p m hq a2).2).mono hs.le_all
 | @vptr off l l' hl _ ih =>
   intro v hv
   obtain ⟨b, base, rc, el, fr, rfl, h1, h2, h3⟩ := hv.vptr_inv'
   refine .vptr (I := allI w) (hs.imm _ _ h1) (by omega) fun j c u a1 a2 => ?_
   have hj := lt_of_get a1
   have hj' := List.getElem?_eq_getElem (l := l) (i := j) (by omega)
   exact ih j _ c hj' a1 (h3 j _ u hj' a2)
 | @fn f c1 l l' hl _ ih =>
   intro v hv
   cases hv with
   | fn g1 g2 g3 g4 =>
     refine .fn g1 (by omega) (fun j c u a1 a2 => (g3 j c u a1 a2).mono hs.le_all) fun j c u a1 a2 => ?_
     have hj := lt_of_get a1
     have hj' := List.getElem?_eq_getElem (l := l) (i := j) (by omega)
     exact ih j _ c hj' a1 (g4 j _ u hj' a2)
theorem BowL.vl [Tracks] {M : List MObj} {I : Imm} {F : List MObj} {w : World} (hs : Sat P I (M ++ F) w) : ∀ {hs1 hs2 : List HVal} {vs : List Value}, BowL M hs1 hs2 → VL I hs1 vs → VL (allI w) hs2 vs
 | [], [], vs, _, h => ⟨by have := h.1; simpa using this, fun j c v h1 _ => by simp at h1⟩
 | h :: r, h' :: r', [], _, hv => by have := hv.1; simp at this
 | h :: r, h' :: r', v :: vs, hb, hv => VL.cons (hb.1.v hs hv.head) (BowL.vl hs hb.2 hv.tail)
 | [], _ :: _, _, hb, _ => hb.elim
 | _ :: _, [], _, hb, _ => hb.elim
/-- A function that changes nothing, called while objects are owned that it reads; what it yields hangs on no memory. -/
theorem eop_callw [Tracks] {e : Env} {dst : Option Tmp} {ty : TypeId} {pos : String} {af : Array Edge} {g : Option (Nat × Bool)} {M : List MObj} {K : HVal → List MObj → Prop} {f : FuncId} {args : Array Operand} {ats : Array TypeId} {hs hs' : List HVal} {h : HVal} (hc : Callable P f) (ha : evalL e args.toList = some hs) (hb : BowL M hs hs') (hp : ConP P f hs' h)
 (hg : ground h = true) (hk : K h M) : EOp P e M ⟨dst, .call ⟨.value (.func f), args, ats⟩, ty, pos, af, g⟩ K := fun I F a w ho hsat => by
 have hrun : (execOp a.eval ⟨dst, .call ⟨.value (.func f), args, ats⟩, ty, pos, af, g⟩).run P w = .ok (.enter f (args.toList.map a.eval).toArray) w := by
  simp [execOp, resolve, Act.eval, Deferred.ofValue, invoke, run_callFunc hc]
  apply Array.ext'; simp
 have hv := evalL_V (I := I) (f := a.eval) _ _ ha fun x hx h hh => ho.one (by simp only [Op.operands, Call.operands]; exact Array.mem_append_right _ (by simpa using hx)) hh
 simp only [Oper.wp, hrun, Oper.upon]
 refine (hp (allI w) [] w _ (hb.vl hsat hv) (by simpa using sat_all hsat)).mono ?_
 rintro x w' ⟨v, y, M', J, rfl, h1, ⟨rfl, rfl⟩, h3, h4⟩
 exact ⟨v, _, M, I, rfl, .refl I, hk, ground_V h3 hg, hsat.back h1 h4⟩
end Go.HL
end
