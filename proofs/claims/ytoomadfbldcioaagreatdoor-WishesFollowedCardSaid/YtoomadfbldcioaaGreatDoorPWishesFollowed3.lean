/- Part 3 of the proof: a program logic, contracts of functions and plain facts; no conditions. -/
import Derived.Test.YtoomadfbldcioaaGreatDoorPWishesFollowed2
import Derived.Ground.Names2Prog
import Derived.Lib.SlicesCompact
import Derived.Shelf.Slices.CompactS
import Derived.Shelf.Slices.Delete
import Derived.Shelf.Sort.Plain
import Derived.Shelf.Strconv.Atoi
import Derived.Shelf.Strconv.Itoa3
import Derived.Shelf.Strings.Prefix
import Derived.Sort.EncStr
import Derived.Sort.Grow
import Derived.Test.YtoomadfbldcioaaGreatDoorProg
section
namespace Go.Proofs.YtoomadfbldcioaaGreatDoor
open Go.HL
set_option maxRecDepth 100000
set_option linter.unusedVariables false
set_option linter.unusedSimpArgs false
/-- strings.makeASCIISet -/
theorem c_strings_makeASCIISet {l : Str} (hl : l.length ≤ 1000000) (ha : ∀ c ∈ l, c.toNat < 128) : ConP Tryz.prog 166 [.str l] (.tup [.agg (asciiSet l), .bool true]) := by
  refine Con.of_bodyc Tryz.func166 rfl Tryz.ntmps166 rfl rfl ?_
  refine hw_reg ?_
  refine de rfl (eop_alloc ty199 rfl fun b2 => ?_)
  refine dp rfl (pop_assign rfl) ?_
  refine dn ?_
  refine hw_seq ?_
  refine hw_reg ?_
  refine dp rfl (pop_assign rfl) ?_
  refine dn ?_
  refine hw_block ?_
  refine hw_loopw [3, 4, 5, 6, 7, 8, 9, 10, 11, 12, 13, 14, 15, 16, 17, 18, 19] (fun (k : Nat) => [(4, .int .i64 k)]) (fun (k : Nat) => [.cells b2 (asciiSet (l.take k))]) (fun (k : Nat) => k ≤ l.length ∧ (True)) (fun (k : Nat) => l.length - k) (0) ?_ ?_ ?_ ?_
  · exact ⟨Nat.zero_le _, by simp_all⟩
  · exact ⟨rfl, trivial⟩
  · exact perm_eq rfl
  · intro k hinv
    obtain ⟨hk, -⟩ := hinv
    refine hw_seq ?_
    refine hw_reg ?_
    refine dp rfl (pop_move rfl) ?_
    refine dp rfl (pop_move rfl) ?_
    refine dp rfl (pop_lens ty9 rfl) ?_
    refine dp rfl (pop_lss rfl rfl) ?_
    refine dn ?_
    refine hw_cond rfl (fun h1 => ?_) (fun h2 => ?_)
    · try simp at h1
      obtain ⟨x, hx⟩ : ∃ x, l[k]? = some x := ⟨_, List.getElem?_eq_getElem h1⟩
      have hdx := drop_cons hx
      have hc := ha x (List.mem_of_getElem? hx)
      refine hw_skip ?_
      refine seqQ_n ?_
      refine hw_seq ?_
      refine hw_block ?_
      refine hw_reg ?_
      refine dp rfl (pop_move rfl) ?_
      refine dp rfl (pop_move rfl) ?_
      refine dp rfl (pop_indexs ty9 rfl rfl rfl (by first | assumption | simp_all)) ?_
      refine dp rfl (pop_assign rfl) ?_
      refine dn ?_
      refine hw_seq ?_
      refine hw_reg ?_
      refine dp rfl (pop_move rfl) ?_
      refine dp rfl (pop_geq rfl rfl) ?_
      refine dn ?_
      refine hw_cond rfl (fun h3 => ?_) (fun h3 => ?_)
      · exfalso
        try simp at h3
        omega
      · try simp at h3
        refine hw_skip ?_
        refine seqQ_n ?_
        refine hw_reg1 ?_
        refine dp rfl (pop_move rfl) ?_
        refine dp rfl (pop_idxa_raw ty199 ty4 rfl rfl rfl (by first | omega | decide)) ?_
        refine de0 (eop_store (i := 0) ty4 rfl rfl rfl rfl rfl (by rw [asciiSet_len]; omega) ?_)
        refine dn ?_
        refine blockQ_n ?_
        refine seqQ_n ?_
        refine hw_reg1 ?_
        refine dp rfl (pop_move rfl) ?_
        refine dp rfl (pop_add64 rfl rfl (by omega) (by omega)) ?_
        refine dp rfl (pop_assign rfl) ?_
        refine dn ?_
        refine ⟨k + 1, ?_, ?_, ⟨rfl, trivial⟩, (by repeat (first | exact keeps_refl | refine keeps_upd rfl ?_ | refine keeps_loop rfl rfl ?_)), perm_eq (by show [MObj.cells b2 (setL _ (0 + x.toNat * 1) [.bool true])] = _; rw [asciiSet_add]; dsimp only; rw [List.take_add_one, hx]; rfl)⟩
        · exact ⟨by omega, trivial⟩
        · dsimp only; omega
    · try simp at h2
      have hnk : l.length ≤ k := by omega
      obtain rfl : k = l.length := by omega
      refine hw_exit ?_
      refine seqQ_x ?_
      refine loopQ_x ?_
      refine blockQ_eq ?_
      refine seqQ_n ?_
      refine hw_ghost (Ghost.of_eq (M' := [.cells b2 (asciiSet l)]) (by rw [List.take_length])) ?_
      refine hw_reg ?_
      refine de rfl (eop_loadw (i := 0) (h := .agg (asciiSet l)) ty199 rfl rfl rfl rfl (asciiSet_len l) ?_)
      refine de0 (eop_storew (h := .agg (asciiSet l)) ty199 rfl rfl (by simp [okElem, asciiSet_len]) (asciiSet_flat l) (asciiSet_len l) ?_)
      refine dp rfl (pop_assign rfl) ?_
      refine dn ?_
      refine hw_ret ?_
      refine ⟨_, _, Ghost.fc0 2 rfl, [_, _], _, ⟨⟨_, _, _, _, _, rfl, ty199, .inr ⟨rfl, rfl, rfl⟩⟩, ⟨rfl, trivial⟩⟩, Weak.refl _, ?_, rfl⟩
      rfl

/-- (*strings.asciiSet).contains -/
theorem c_strings_asciiSet_contains {l : Str} {c : UInt8}  : ConP Tryz.prog 183 [.vptr (asciiSet l) 0, .int .u8 c.toNat] (.bool (l.contains c)) := by
  have hc := c.toNat_lt
  refine Con.of_body Tryz.func183 rfl Tryz.ntmps183 rfl rfl ?_
  refine hw_reg ?_
  refine dp rfl (pop_assign rfl) ?_
  refine dn ?_
  refine hw_reg ?_
  refine dp rfl (pop_move rfl) ?_
  refine dp rfl (pop_move rfl) ?_
  refine dp rfl ((by first | exact pop_nilCheck rfl | exact pop_nilCheck_raw rfl)) ?_
  refine dp rfl (pop_idxa ty199 ty4 rfl rfl rfl (by first | omega | decide)) ?_
  refine dp rfl (pop_load ty4 rfl rfl (by rw [show 0 + c.toNat * 1 = c.toNat from by omega]; exact asciiSet_get l c)) ?_
  refine dp rfl (pop_assign rfl) ?_
  refine dn ?_
  refine hw_ret ?_
  refine ret_p rfl ?_
  rfl

/-- strings.trimLeftASCII -/
theorem c_strings_trimLeftASCII {s l : Str} (hl : s.length ≤ 1000000) : ConP Tryz.prog 167 [.str s, .vptr (asciiSet l) 0] (.str (s.dropWhile (l.contains ·))) := by
  refine Con.of_body Tryz.func167 rfl Tryz.ntmps167 rfl rfl ?_
  refine hw_reg ?_
  refine dp rfl (pop_assign rfl) ?_
  refine dn ?_
  refine hw_seq ?_
  refine hw_block ?_
  refine hw_loopw [0, 5, 6, 7, 8, 9, 10, 11, 12, 13, 14] (fun (t : Str) => [(0, .str t)]) (fun (t : Str) => []) (fun (t : Str) => t.length ≤ s.length ∧ s.dropWhile (l.contains ·) = t.dropWhile (l.contains ·)) (fun (t : Str) => t.length) (s) ?_ ?_ ?_ ?_
  · exact ⟨Nat.le_refl _, rfl⟩
  · exact ⟨rfl, trivial⟩
  · exact List.Perm.refl _
  · intro t hinv
    obtain ⟨ht, hg⟩ := hinv
    refine hw_seq ?_
    refine hw_reg ?_
    refine dp rfl (pop_move rfl) ?_
    refine dp rfl (pop_lens ty9 rfl) ?_
    refine dp rfl (pop_gtr rfl rfl) ?_
    refine dn ?_
    refine hw_cond rfl (fun h1 => ?_) (fun h2 => ?_)
    · try simp at h1
      obtain ⟨x, u, rfl⟩ : ∃ x u, t = x :: u := by cases t with | nil => simp at h1 | cons x u => exact ⟨x, u, rfl⟩
      have hlen : (x :: u).length = u.length + 1 := rfl
      refine hw_skip ?_
      refine seqQ_n ?_
      refine hw_block ?_
      refine hw_seq ?_
      refine hw_reg ?_
      refine dp rfl (pop_move rfl) ?_
      refine dp rfl (pop_move rfl) ?_
      refine dp rfl (pop_indexs (j := 0) (b := x) ty9 rfl rfl rfl rfl) ?_
      refine dp rfl (pop_call ca183 rfl (WeakL.refl _) c_strings_asciiSet_contains) ?_
      refine dp rfl (pop_not rfl) ?_
      refine dn ?_
      refine hw_cond rfl (fun h3 => ?_) (fun h4 => ?_)
      · try simp at h3
        refine hw_exit ?_
        refine seqQ_x ?_
        refine blockQ_ne rfl ?_
        refine loopQ_x ?_
        refine blockQ_eq ?_
        refine seqQ_n ?_
        refine hw_reg ?_
        refine dp rfl (pop_move rfl) ?_
        refine dp rfl (pop_assign rfl) ?_
        refine dn ?_
        refine hw_ret ?_
        refine ret_p rfl ?_
        show HVal.str _ = _
        rw [hg]; simp_all [List.dropWhile_cons]
      · try simp at h4
        refine hw_skip ?_
        refine seqQ_n ?_
        refine hw_reg1 ?_
        refine dp rfl (pop_move rfl) ?_
        refine dp rfl (pop_slices (l := 1) ty9 rfl ⟨_, _, rfl, rfl⟩ rfl (by omega) (by omega)) ?_
        refine dp rfl (pop_assign rfl) ?_
        refine dn ?_
        refine blockQ_n ?_
        refine ⟨_, ?_, ?_, ⟨rfl, trivial⟩, (by repeat (first | exact keeps_refl | refine keeps_upd rfl ?_ | refine keeps_loop rfl rfl ?_)), List.Perm.refl _⟩
        · refine ⟨by simp at ht ⊢; omega, ?_⟩
          rw [hg]; simp_all [List.dropWhile_cons]
        · dsimp only; simp
    · try simp at h2
      obtain rfl : t = [] := by simpa using h2
      refine hw_exit ?_
      refine seqQ_x ?_
      refine loopQ_x ?_
      refine blockQ_eq ?_
      refine seqQ_n ?_
      refine hw_reg ?_
      refine dp rfl (pop_move rfl) ?_
      refine dp rfl (pop_assign rfl) ?_
      refine dn ?_
      refine hw_ret ?_
      refine ret_p rfl ?_
      show HVal.str _ = _
      rw [hg]; simp_all [List.dropWhile_cons]

/-- strings.trimRightASCII -/
theorem c_strings_trimRightASCII {s l : Str} (hl : s.length ≤ 1000000) : ConP Tryz.prog 168 [.str s, .vptr (asciiSet l) 0] (.str (rtrim (l.contains ·) s)) := by
  refine Con.of_body Tryz.func168 rfl Tryz.ntmps168 rfl rfl ?_
  refine hw_reg ?_
  refine dp rfl (pop_assign rfl) ?_
  refine dn ?_
  refine hw_seq ?_
  refine hw_block ?_
  refine hw_loopw [0, 5, 6, 7, 8, 9, 10, 11, 12, 13, 14, 15, 16, 17, 18, 19, 20] (fun (t : Str) => [(0, .str t)]) (fun (t : Str) => []) (fun (t : Str) => t.length ≤ s.length ∧ rtrim (l.contains ·) s = rtrim (l.contains ·) t) (fun (t : Str) => t.length) (s) ?_ ?_ ?_ ?_
  · exact ⟨Nat.le_refl _, rfl⟩
  · exact ⟨rfl, trivial⟩
  · exact List.Perm.refl _
  · intro t hinv
    obtain ⟨ht, hg⟩ := hinv
    refine hw_seq ?_
    refine hw_reg ?_
    refine dp rfl (pop_move rfl) ?_
    refine dp rfl (pop_lens ty9 rfl) ?_
    refine dp rfl (pop_gtr rfl rfl) ?_
    refine dn ?_
    refine hw_cond rfl (fun h1 => ?_) (fun h2 => ?_)
    · try simp at h1
      obtain ⟨u, x, rfl⟩ : ∃ u x, t = u ++ [x] := ⟨_, _, (List.dropLast_concat_getLast (by intro h0; subst h0; simp at h1)).symm⟩
      have hlen : (u ++ [x]).length = u.length + 1 := by simp
      refine hw_skip ?_
      refine seqQ_n ?_
      refine hw_block ?_
      refine hw_seq ?_
      refine hw_reg ?_
      refine dp rfl (pop_move rfl) ?_
      refine dp rfl (pop_move rfl) ?_
      refine dp rfl (pop_move rfl) ?_
      refine dp rfl (pop_lens ty9 rfl) ?_
      refine dp rfl (pop_sub64 rfl rfl (by omega) (by omega)) ?_
      refine dp rfl (pop_indexs (j := u.length) (b := x) ty9 rfl rfl (by omega) (by simp)) ?_
      refine dp rfl (pop_call ca183 rfl (WeakL.refl _) c_strings_asciiSet_contains) ?_
      refine dp rfl (pop_not rfl) ?_
      refine dn ?_
      refine hw_cond rfl (fun h3 => ?_) (fun h4 => ?_)
      · try simp at h3
        refine hw_exit ?_
        refine seqQ_x ?_
        refine blockQ_ne rfl ?_
        refine loopQ_x ?_
        refine blockQ_eq ?_
        refine seqQ_n ?_
        refine hw_reg ?_
        refine dp rfl (pop_move rfl) ?_
        refine dp rfl (pop_assign rfl) ?_
        refine dn ?_
        refine hw_ret ?_
        refine ret_p rfl ?_
        show HVal.str _ = _
        rw [hg]; first | rfl | (rw [rtrim_snoc, if_neg (by simp_all)])
      · try simp at h4
        refine hw_skip ?_
        refine seqQ_n ?_
        refine hw_reg1 ?_
        refine dp rfl (pop_move rfl) ?_
        refine dp rfl (pop_move rfl) ?_
        refine dp rfl (pop_lens ty9 rfl) ?_
        refine dp rfl (pop_sub64 rfl rfl (by omega) (by omega)) ?_
        refine dp rfl (pop_slices (l := 0) (h := u.length) ty9 rfl rfl ⟨_, _, rfl, by omega⟩ (by omega) (by omega)) ?_
        refine dp rfl (pop_assign rfl) ?_
        refine dn ?_
        refine blockQ_n ?_
        refine ⟨_, ?_, ?_, ⟨rfl, trivial⟩, (by repeat (first | exact keeps_refl | refine keeps_upd rfl ?_ | refine keeps_loop rfl rfl ?_)), List.Perm.refl _⟩
        · refine ⟨by simp at ht ⊢; omega, ?_⟩
          rw [hg, rtrim_snoc, if_pos (by simp_all)]; simp
        · dsimp only; simp
    · try simp at h2
      obtain rfl : t = [] := by simpa using h2
      refine hw_exit ?_
      refine seqQ_x ?_
      refine loopQ_x ?_
      refine blockQ_eq ?_
      refine seqQ_n ?_
      refine hw_reg ?_
      refine dp rfl (pop_move rfl) ?_
      refine dp rfl (pop_assign rfl) ?_
      refine dn ?_
      refine hw_ret ?_
      refine ret_p rfl ?_
      show HVal.str _ = _
      rw [hg]; first | rfl | (rw [rtrim_snoc, if_neg (by simp_all)])

/-- strings.Trim -/
theorem c_strings_Trim {s l : Str} (hs : s.length ≤ 1000000) (hl : l.length ≤ 1000000) (h2l : 2 ≤ l.length) (ha : ∀ c ∈ l, c.toNat < 128) : ConP Tryz.prog 130 [.str s, .str l] (.str ((rtrim (l.contains ·) s).dropWhile (l.contains ·))) := by
  refine Con.of_body Tryz.func130 rfl Tryz.ntmps130 rfl rfl ?_
  refine hw_reg ?_
  refine dp rfl (pop_assign rfl) ?_
  refine dn ?_
  refine hw_seq ?_
  refine hw_reg ?_
  refine dp rfl (pop_move rfl) ?_
  refine dp rfl (pop_eqls rfl rfl) ?_
  refine dp rfl (pop_move rfl) ?_
  refine dg rfl rfl (fun hc => ⟨_, OpenTo.refl _, pop_move rfl⟩) ?_
  refine dg rfl rfl (fun hc => ⟨_, OpenTo.upd (t := 10) rfl (by first | exact hc | simp_all) (OpenTo.refl _), pop_eqls rfl rfl⟩) ?_
  refine dp rfl (pop_picko rfl (.inl rfl) (.inr ⟨_, rfl, fun h => by simp_all⟩)) ?_
  refine dn ?_
  refine hw_cond rfl (fun h1 => ?_) (fun h2 => ?_)
  · try simp at h1
    refine hw_reg ?_
    refine dp rfl (pop_move rfl) ?_
    refine dp rfl (pop_assign rfl) ?_
    refine dn ?_
    refine hw_ret ?_
    refine ret_p rfl ?_
    show HVal.str _ = _
    first | rfl | (rcases h1 with rfl | rfl <;> first | (simp at h2l; done) | (simp [rtrim]; done))
  · try simp at h2
    refine hw_skip ?_
    refine seqQ_n ?_
    refine hw_seq ?_
    refine hw_reg ?_
    refine dp rfl (pop_move rfl) ?_
    refine dp rfl (pop_lens ty9 rfl) ?_
    refine dp rfl (pop_eql rfl rfl) ?_
    refine dp rfl (pop_move rfl) ?_
    refine dg rfl rfl (fun hc => ⟨_, OpenTo.refl _, pop_move rfl⟩) ?_
    refine dg rfl rfl (fun hc => ⟨_, OpenTo.upd (t := 18) rfl (by first | exact hc | simp_all) (OpenTo.refl _), pop_indexs (j := 0) (b := l.headD 0) ty9 rfl rfl rfl (hd0 (by intro h0; subst h0; simp at h2l))⟩) ?_
    refine dg rfl rfl (fun hc => ⟨_, OpenTo.upd (t := 19) rfl (by first | exact hc | simp_all) (OpenTo.refl _), pop_lss rfl rfl⟩) ?_
    refine dp rfl (pop_picko rfl (.inr ⟨_, rfl, fun h => by simp_all⟩) (.inl rfl)) ?_
    refine dn ?_
    refine hw_cond rfl (fun h3 => ?_) (fun h3 => ?_)
    · exfalso
      try simp at h3
      omega
    · try simp at h3
      refine hw_skip ?_
      refine seqQ_n ?_
      refine hw_seq ?_
      refine hw_reg ?_
      refine dp rfl (pop_move rfl) ?_
      refine dp rfl (pop_call ca166 rfl (WeakL.refl _) (c_strings_makeASCIISet (by first | assumption | omega | (simp; omega) | simp_all) (by first | assumption | omega | (simp; omega) | simp_all))) ?_
      refine dp rfl (pop_move rfl) ?_
      refine dp rfl (pop_extract rfl rfl) ?_
      refine dp rfl (pop_extract rfl rfl) ?_
      refine de rfl (eop_alloc ty199 rfl fun b5 => ?_)
      refine de0 (eop_storew ty199 rfl rfl rfl rfl rfl ?_)
      refine dp rfl (pop_assign rfl) ?_
      refine dn ?_
      refine hw_ghost (Ghost.fc0 5 rfl) ?_
      refine hw_reg ?_
      refine dp rfl (pop_move rfl) ?_
      refine dn ?_
      refine hw_cond_t rfl ?_
      refine hw_reg ?_
      refine dp rfl (pop_move rfl) ?_
      refine dp rfl (pop_call ca168 rfl (WeakL.refl _) (c_strings_trimRightASCII (by first | assumption | omega | (simp; omega) | simp_all))) ?_
      refine dp rfl (pop_call ca167 rfl (WeakL.refl _) (c_strings_trimLeftASCII (Nat.le_trans (rtrim_len _ _) hs))) ?_
      refine dp rfl (pop_assign rfl) ?_
      refine dn ?_
      refine hw_ret ?_
      refine ret_p rfl ?_
      show HVal.str _ = _
      first | rfl | (rcases h1 with rfl | rfl <;> first | (simp at h2l; done) | (simp [rtrim]; done))

/-- internal/stringslite.IndexByte -/
theorem c_internal_stringslite_IndexByte {s : Str} {c : Int}  : ConP Tryz.prog 171 [.str s, .int .u8 c] (.int .i64 (Lib.indexByte s c.toNat.toUInt8)) := by
  refine Con.of_body Tryz.func171 rfl Tryz.ntmps171 rfl rfl ?_
  refine hw_reg ?_
  refine dp rfl (pop_assign rfl) ?_
  refine dn ?_
  refine hw_reg ?_
  refine dp rfl (pop_move rfl) ?_
  refine dp rfl (pop_move rfl) ?_
  refine dp rfl (pop_indexByte Tryz.func187 (by kernel_rfl) (by kernel_rfl) (by kernel_rfl) (by kernel_rfl) rfl rfl rfl) ?_
  refine dp rfl (pop_assign rfl) ?_
  refine dn ?_
  refine hw_ret ?_
  refine ret_p rfl ?_
  rfl

/-- strings.IndexByte -/
theorem c_strings_IndexByte {s : Str} {c : Int}  : ConP Tryz.prog 131 [.str s, .int .u8 c] (.int .i64 (Lib.indexByte s c.toNat.toUInt8)) := by
  refine Con.of_body Tryz.func131 rfl Tryz.ntmps131 rfl rfl ?_
  refine hw_reg ?_
  refine dp rfl (pop_assign rfl) ?_
  refine dn ?_
  refine hw_reg ?_
  refine dp rfl (pop_move rfl) ?_
  refine dp rfl (pop_move rfl) ?_
  refine dp rfl (pop_call ca171 rfl (WeakL.refl _) c_internal_stringslite_IndexByte) ?_
  refine dp rfl (pop_assign rfl) ?_
  refine dn ?_
  refine hw_ret ?_
  refine ret_p rfl ?_
  rfl

/-- benchwarmer/benchref1.in -/
theorem c_benchref1_in {n lo hi : Int}  : ConP Tryz.prog 51 [.int .i64 n, .int .i64 lo, .int .i64 hi] (.bool (!(out n lo hi))) := by
  refine Con.of_body Tryz.func51 rfl Tryz.ntmps51 rfl rfl ?_
  refine hw_reg ?_
  refine dp rfl (pop_assign rfl) ?_
  refine dn ?_
  refine hw_reg ?_
  refine dp rfl (pop_move rfl) ?_
  refine dp rfl (pop_move rfl) ?_
  refine dp rfl (pop_leq rfl rfl) ?_
  refine dp rfl (pop_move rfl) ?_
  refine dg rfl rfl (fun hc => ⟨_, OpenTo.refl _, pop_move rfl⟩) ?_
  refine dg rfl rfl (fun hc => ⟨_, OpenTo.refl _, pop_move rfl⟩) ?_
  refine dg rfl rfl (fun hc => ⟨_, OpenTo.upd (t := 12) rfl (by first | exact hc | simp_all) (OpenTo.upd (t := 11) rfl (by first | exact hc | simp_all) (OpenTo.refl _)), pop_leq rfl rfl⟩) ?_
  refine dp rfl (pop_picko rfl (.inr ⟨_, rfl, fun h => by simp_all⟩) (.inl rfl)) ?_
  refine dp rfl (pop_assign rfl) ?_
  refine dn ?_
  refine hw_ret ?_
  refine ret_p rfl ?_
  show HVal.bool _ = _
  congr 1; simp [out]; rw [Bool.eq_iff_iff]; simp; try omega

/-- benchwarmer/benchref1.Key -/
theorem c_benchref1_Key {s : Str} (hs : s.length ≤ 1000000) : ConP Tryz.prog 94 [.str s] (.bool (key s)) := by
  refine Con.of_body Tryz.func94 rfl Tryz.ntmps94 rfl rfl ?_
  refine hw_reg ?_
  refine dp rfl (pop_assign rfl) ?_
  refine dn ?_
  refine hw_reg ?_
  refine dp rfl (pop_move rfl) ?_
  refine dp rfl (pop_lens ty9 rfl) ?_
  refine dp rfl (pop_call ca51 rfl (WeakL.refl _) c_benchref1_in) ?_
  refine dp rfl (pop_move rfl) ?_
  refine dg rfl rfl (fun hc => ⟨_, OpenTo.refl _, pop_move rfl⟩) ?_
  refine dg rfl rfl (fun hc => ⟨_, OpenTo.upd (t := 7) rfl (by first | exact hc | simp_all) (OpenTo.refl _), pop_call ca130 rfl (WeakL.refl _) (c_strings_Trim (l := cut38) hs (by decide) (by decide) (by decide))⟩) ?_
  refine dg rfl rfl (fun hc => ⟨_, OpenTo.upd (t := 8) rfl (by first | exact hc | simp_all) (OpenTo.refl _), pop_eqls rfl rfl⟩) ?_
  refine dp rfl (pop_picko rfl (.inr ⟨_, rfl, fun h => by simp_all⟩) (.inl rfl)) ?_
  refine dp rfl (pop_move rfl) ?_
  refine dg rfl rfl (fun hc => ⟨_, OpenTo.refl _, pop_move rfl⟩) ?_
  refine dg rfl rfl (fun hc => ⟨_, OpenTo.upd (t := 12) rfl (by first | exact hc | simp_all) (OpenTo.refl _), pop_indexs (j := 0) (b := s.headD 0) ty9 rfl rfl rfl (hd0 (by rintro rfl; simp [out] at hc))⟩) ?_
  refine dg rfl rfl (fun hc => ⟨_, OpenTo.upd (t := 13) rfl (by first | exact hc | simp_all) (OpenTo.refl _), pop_call ca131 rfl (WeakL.refl _) c_strings_IndexByte⟩) ?_
  refine dg rfl rfl (fun hc => ⟨_, OpenTo.upd (t := 14) rfl (by first | exact hc | simp_all) (OpenTo.refl _), pop_geq rfl rfl⟩) ?_
  refine dp rfl (pop_picko rfl (.inr ⟨_, rfl, fun h => by simp_all⟩) (.inl rfl)) ?_
  refine dp rfl (pop_assign rfl) ?_
  refine dn ?_
  refine hw_ret ?_
  refine ret_p rfl ?_
  show HVal.bool _ = _
  rw [key_ref]
  simp [cut38, small26]

/-- benchwarmer/benchref1.SpanFault -/
theorem c_benchref1_SpanFault {n lo hi : Int}  : ConP Tryz.prog 68 [.int .i64 n, .int .i64 lo, .int .i64 hi] (.int .i64 (if out n lo hi then 1 else 0)) := by
  refine Con.of_body Tryz.func68 rfl Tryz.ntmps68 rfl rfl ?_
  refine hw_reg ?_
  refine dp rfl (pop_assign rfl) ?_
  refine dn ?_
  refine hw_seq ?_
  refine hw_reg ?_
  refine dp rfl (pop_move rfl) ?_
  refine dp rfl (pop_move rfl) ?_
  refine dp rfl (pop_move rfl) ?_
  refine dp rfl (pop_call ca51 rfl (WeakL.refl _) c_benchref1_in) ?_
  refine dp rfl (pop_not rfl) ?_
  refine dn ?_
  refine hw_cond rfl (fun h1 => ?_) (fun h2 => ?_)
  · try simp at h1
    refine hw_reg ?_
    refine dp rfl (pop_assign rfl) ?_
    refine dn ?_
    refine hw_ret ?_
    refine ret_p rfl ?_
    show HVal.int .i64 _ = _
    simp_all
  · try simp at h2
    refine hw_skip ?_
    refine seqQ_n ?_
    refine hw_reg ?_
    refine dp rfl (pop_assign rfl) ?_
    refine dn ?_
    refine hw_ret ?_
    refine ret_p rfl ?_
    show HVal.int .i64 _ = _
    simp_all

/-- benchwarmer/benchref1.MomentFault -/
theorem c_benchref1_MomentFault {n : Int}  : ConP Tryz.prog 20 [.int .i64 n] (.int .i64 (if moment n then 0 else 1)) := by
  refine Con.of_body Tryz.func20 rfl Tryz.ntmps20 rfl rfl ?_
  refine hw_reg ?_
  refine dp rfl (pop_assign rfl) ?_
  refine dn ?_
  refine hw_reg ?_
  refine dp rfl (pop_move rfl) ?_
  refine dp rfl (pop_call ca68 rfl (WeakL.refl _) c_benchref1_SpanFault) ?_
  refine dp rfl (pop_assign rfl) ?_
  refine dn ?_
  refine hw_ret ?_
  refine ret_p rfl ?_
  show HVal.int .i64 _ = _
  rw [moment_ref]

/-- benchwarmer/benchref1.teamsFault -/
theorem c_benchref1_teamsFault {l : List Str} (hl : l.length ≤ 1000000) (hs : ∀ s ∈ l, s.length ≤ 1000000) : ConP Tryz.prog 50 [eSs l] (.int .i64 (teamsFault l)) := by
  refine Con.of_body Tryz.func50 rfl Tryz.ntmps50 rfl rfl ?_
  refine hw_reg ?_
  refine dp rfl (pop_assign rfl) ?_
  refine dn ?_
  refine hw_seq ?_
  refine hw_block ?_
  refine hw_reg ?_
  refine dp rfl (pop_move rfl) ?_
  refine dp rfl (pop_lenm ty26 rfl) ?_
  refine dp rfl (pop_eql rfl rfl) ?_
  refine dp rfl (pop_assign rfl) ?_
  refine dn ?_
  refine hw_cond rfl (fun h1 => ?_) (fun h2 => ?_)
  · try simp at h1
    refine hw_reg ?_
    refine dp rfl (pop_assign rfl) ?_
    refine dn ?_
    refine hw_ret ?_
    refine ret_p rfl ?_
    show HVal.int .i64 _ = _
    first | (rw [teamsFault, if_pos (by simp_all)]; done) | (rw [teamsFault, if_neg (by simp_all), if_pos (by omega)]; done) | (rw [hg]; simp_all [teamsGo]; done)
  · try simp at h2
    refine hw_reg ?_
    refine dp rfl (pop_move rfl) ?_
    refine dp rfl (pop_lenm ty26 rfl) ?_
    refine dp rfl (pop_gtr rfl rfl) ?_
    refine dp rfl (pop_assign rfl) ?_
    refine dn ?_
    refine hw_cond rfl (fun h3 => ?_) (fun h4 => ?_)
    · try simp at h3
      refine hw_reg ?_
      refine dp rfl (pop_assign rfl) ?_
      refine dn ?_
      refine hw_ret ?_
      refine ret_p rfl ?_
      show HVal.int .i64 _ = _
      first | (rw [teamsFault, if_pos (by simp_all)]; done) | (rw [teamsFault, if_neg (by simp_all), if_pos (by omega)]; done) | (rw [hg]; simp_all [teamsGo]; done)
    · try simp at h4
      refine hw_skip ?_
      refine blockQ_n ?_
      refine seqQ_n ?_
      refine hw_seq ?_
      refine hw_reg ?_
      refine dp rfl (pop_move rfl) ?_
      refine dp rfl (pop_lenm ty26 rfl) ?_
      refine dp rfl (pop_move rfl) ?_
      refine dn ?_
      refine hw_block ?_
      refine hw_loopw [2, 3, 4, 15, 16, 17, 18, 19, 20, 21, 22, 23, 24, 25, 26, 27, 28, 29, 30] (fun (k : Nat) => [(15, .int .i64 k)]) (fun (k : Nat) => []) (fun (k : Nat) => k ≤ l.length ∧ (teamsFault l = teamsGo l k (l.drop k))) (fun (k : Nat) => l.length - k) (0) ?_ ?_ ?_ ?_
      · refine ⟨Nat.zero_le _, ?_⟩
        rw [teamsFault, if_neg (by simp_all), if_neg (by omega)]; rfl
      · exact ⟨rfl, trivial⟩
      · exact List.Perm.refl _
      · intro k hinv
        obtain ⟨hk, hg⟩ := hinv
        refine hw_reg ?_
        refine dp rfl (pop_lss rfl rfl) ?_
        refine dn ?_
        refine hw_seq ?_
        refine hw_cond rfl (fun h5 => ?_) (fun h6 => ?_)
        · try simp at h5
          obtain ⟨x, hx⟩ : ∃ x, l[k]? = some x := ⟨_, List.getElem?_eq_getElem h5⟩
          have hdx := drop_cons hx
          rw [hdx] at hg
          refine hw_skip ?_
          refine seqQ_n ?_
          refine hw_seq ?_
          refine hw_block ?_
          refine hw_reg ?_
          refine dp rfl (pop_move rfl) ?_
          refine dp rfl (pop_idx ty26 ty9 rfl rfl rfl (by first | assumption | simp_all)) ?_
          refine dp rfl (pop_load ty9 rfl rfl rfl) ?_
          refine dp rfl (pop_assign rfl) ?_
          refine dp rfl (pop_assign rfl) ?_
          refine dn ?_
          refine hw_block ?_
          refine hw_reg ?_
          refine dp rfl (pop_move rfl) ?_
          refine dp rfl (pop_call ca94 rfl (WeakL.refl _) (c_benchref1_Key (hs x (List.mem_of_getElem? hx)))) ?_
          refine dp rfl (pop_not rfl) ?_
          refine dp rfl (pop_assign rfl) ?_
          refine dn ?_
          refine hw_cond rfl (fun h7 => ?_) (fun h8 => ?_)
          · try simp at h7
            refine hw_reg ?_
            refine dp rfl (pop_assign rfl) ?_
            refine dn ?_
            refine hw_ret ?_
            refine ret_p rfl ?_
            show HVal.int .i64 _ = _
            first | (rw [teamsFault, if_pos (by simp_all)]; done) | (rw [teamsFault, if_neg (by simp_all), if_pos (by omega)]; done) | (rw [hg]; simp_all [teamsGo]; done)
          · try simp at h8
            refine hw_reg ?_
            refine dp rfl (pop_move rfl) ?_
            refine dp rfl (pop_move rfl) ?_
            refine dp rfl (pop_slicem ty26 ty9 rfl rfl ⟨_, _, rfl, rfl⟩ (by omega) (by omega)) ?_
            refine dp rfl (pop_move rfl) ?_
            refine dp rfl (pop_call ca53 rfl (WeakL.refl _) (c_slices_Contains_string_string (by first | assumption | omega | (simp; omega) | simp_all))) ?_
            refine dp rfl (pop_assign rfl) ?_
            refine dn ?_
            refine hw_cond rfl (fun h9 => ?_) (fun h10 => ?_)
            · try simp at h9
              refine hw_reg ?_
              refine dp rfl (pop_assign rfl) ?_
              refine dn ?_
              refine hw_ret ?_
              refine ret_p rfl ?_
              show HVal.int .i64 _ = _
              first | (rw [teamsFault, if_pos (by simp_all)]; done) | (rw [teamsFault, if_neg (by simp_all), if_pos (by omega)]; done) | (rw [hg]; simp_all [teamsGo]; done)
            · try simp at h10
              refine hw_skip ?_
              refine blockQ_n ?_
              refine blockQ_n ?_
              refine seqQ_n ?_
              refine hw_reg1 ?_
              refine dp rfl (pop_add64 rfl rfl (by omega) (by omega)) ?_
              refine dp rfl (pop_move rfl) ?_
              refine dn ?_
              refine ⟨k + 1, ?_, ?_, ⟨rfl, trivial⟩, (by repeat (first | exact keeps_refl | refine keeps_upd rfl ?_ | refine keeps_loop rfl rfl ?_)), List.Perm.refl _⟩
              · refine ⟨by omega, ?_⟩
                rw [hg]; simp_all [teamsGo]
              · dsimp only; omega
        · try simp at h6
          have hnk : l.length ≤ k := by omega
          obtain rfl : k = l.length := by omega
          rw [drop_all (Nat.le_refl _)] at hg
          refine hw_exit ?_
          refine seqQ_x ?_
          refine loopQ_x ?_
          refine blockQ_eq ?_
          refine seqQ_n ?_
          refine hw_reg ?_
          refine dp rfl (pop_assign rfl) ?_
          refine dn ?_
          refine hw_ret ?_
          refine ret_p rfl ?_
          show HVal.int .i64 _ = _
          first | (rw [teamsFault, if_pos (by simp_all)]; done) | (rw [teamsFault, if_neg (by simp_all), if_pos (by omega)]; done) | (rw [hg]; simp_all [teamsGo]; done)

/-- benchwarmer/benchref1.playersFault -/
theorem c_benchref1_playersFault {l : List Str} (hl : l.length ≤ 1000000) (hs : ∀ s ∈ l, s.length ≤ 1000000) : ConP Tryz.prog 52 [eSs l] (.int .i64 (playersFault l)) := by
  refine Con.of_body Tryz.func52 rfl Tryz.ntmps52 rfl rfl ?_
  refine hw_reg ?_
  refine dp rfl (pop_assign rfl) ?_
  refine dn ?_
  refine hw_seq ?_
  refine hw_reg ?_
  refine dp rfl (pop_move rfl) ?_
  refine dp rfl (pop_lenm ty26 rfl) ?_
  refine dp rfl (pop_gtr rfl rfl) ?_
  refine dn ?_
  refine hw_cond rfl (fun h1 => ?_) (fun h2 => ?_)
  · try simp at h1
    refine hw_reg ?_
    refine dp rfl (pop_assign rfl) ?_
    refine dn ?_
    refine hw_ret ?_
    refine ret_p rfl ?_
    show HVal.int .i64 _ = _
    first | (rw [playersFault, if_pos (by omega)]; done) | (rw [hg]; simp_all [risingGo, leS]; done)
  · try simp at h2
    refine hw_skip ?_
    refine seqQ_n ?_
    refine hw_seq ?_
    refine hw_reg ?_
    refine dp rfl (pop_move rfl) ?_
    refine dp rfl (pop_lenm ty26 rfl) ?_
    refine dp rfl (pop_move rfl) ?_
    refine dn ?_
    refine hw_block ?_
    refine hw_loopw [2, 3, 4, 10, 11, 12, 13, 14, 15, 16, 17, 18, 19, 20, 21, 22, 23, 24, 25, 26, 27, 28, 29, 30, 31] (fun (k : Nat) => [(10, .int .i64 k)]) (fun (k : Nat) => []) (fun (k : Nat) => k ≤ l.length ∧ (playersFault l = risingGo l k (l.drop k))) (fun (k : Nat) => l.length - k) (0) ?_ ?_ ?_ ?_
    · refine ⟨Nat.zero_le _, ?_⟩
      rw [playersFault, if_neg (by omega)]; rfl
    · exact ⟨rfl, trivial⟩
    · exact List.Perm.refl _
    · intro k hinv
      obtain ⟨hk, hg⟩ := hinv
      refine hw_reg ?_
      refine dp rfl (pop_lss rfl rfl) ?_
      refine dn ?_
      refine hw_seq ?_
      refine hw_cond rfl (fun h3 => ?_) (fun h4 => ?_)
      · try simp at h3
        obtain ⟨x, hx⟩ : ∃ x, l[k]? = some x := ⟨_, List.getElem?_eq_getElem h3⟩
        have hdx := drop_cons hx
        rw [hdx] at hg
        refine hw_skip ?_
        refine seqQ_n ?_
        refine hw_seq ?_
        refine hw_block ?_
        refine hw_reg ?_
        refine dp rfl (pop_move rfl) ?_
        refine dp rfl (pop_idx ty26 ty9 rfl rfl rfl (by first | assumption | simp_all)) ?_
        refine dp rfl (pop_load ty9 rfl rfl rfl) ?_
        refine dp rfl (pop_assign rfl) ?_
        refine dp rfl (pop_assign rfl) ?_
        refine dn ?_
        refine hw_block ?_
        refine hw_reg ?_
        refine dp rfl (pop_move rfl) ?_
        refine dp rfl (pop_call ca94 rfl (WeakL.refl _) (c_benchref1_Key (hs x (List.mem_of_getElem? hx)))) ?_
        refine dp rfl (pop_not rfl) ?_
        refine dp rfl (pop_assign rfl) ?_
        refine dn ?_
        refine hw_cond rfl (fun h5 => ?_) (fun h6 => ?_)
        · try simp at h5
          refine hw_reg ?_
          refine dp rfl (pop_assign rfl) ?_
          refine dn ?_
          refine hw_ret ?_
          refine ret_p rfl ?_
          show HVal.int .i64 _ = _
          first | (rw [playersFault, if_pos (by omega)]; done) | (rw [hg]; simp_all [risingGo, leS]; done)
        · try simp at h6
          refine hw_reg ?_
          refine dp rfl (pop_move rfl) ?_
          refine dp rfl (pop_gtr rfl rfl) ?_
          refine dp rfl (pop_move rfl) ?_
          refine dg rfl rfl (fun hc => ⟨_, OpenTo.refl _, pop_move rfl⟩) ?_
          refine dg rfl rfl (fun hc => ⟨_, OpenTo.refl _, pop_move rfl⟩) ?_
          refine dg rfl rfl (fun hc => ⟨_, OpenTo.refl _, pop_move rfl⟩) ?_
          refine dg rfl rfl (fun hc => by have hq := hc; (try simp at hq); exact ⟨_, OpenTo.upd (t := 25) rfl (by first | exact hc | simp_all) (OpenTo.refl _), pop_sub64 rfl rfl (by omega) (by omega)⟩) ?_
          refine dg rfl rfl (fun hc => by have hq := hc; (try simp at hq); exact ⟨_, OpenTo.upd (t := 26) rfl (by first | exact hc | simp_all) (OpenTo.upd (t := 24) rfl (by first | exact hc | simp_all) (OpenTo.refl _)), pop_idx (j := k - 1) (a := l.getD (k - 1) []) ty26 ty9 rfl rfl (by omega) (getD_some (by omega))⟩) ?_
          refine dg rfl rfl (fun hc => ⟨_, OpenTo.upd (t := 27) rfl (by first | exact hc | simp_all) (OpenTo.refl _), pop_load ty9 rfl rfl rfl⟩) ?_
          refine dg rfl rfl (fun hc => ⟨_, OpenTo.upd (t := 28) rfl (by first | exact hc | simp_all) (OpenTo.upd (t := 23) rfl (by first | exact hc | simp_all) (OpenTo.refl _)), pop_leqs rfl rfl⟩) ?_
          refine dp rfl (pop_picko rfl (.inr ⟨_, rfl, fun h => by simp_all⟩) (.inl rfl)) ?_
          refine dp rfl (pop_assign rfl) ?_
          refine dn ?_
          refine hw_cond rfl (fun h7 => ?_) (fun h8 => ?_)
          · try simp at h7
            refine hw_reg ?_
            refine dp rfl (pop_assign rfl) ?_
            refine dn ?_
            refine hw_ret ?_
            refine ret_p rfl ?_
            show HVal.int .i64 _ = _
            first | (rw [playersFault, if_pos (by omega)]; done) | (rw [hg]; simp_all [risingGo, leS]; done)
          · try simp at h8
            refine hw_skip ?_
            refine blockQ_n ?_
            refine blockQ_n ?_
            refine seqQ_n ?_
            refine hw_reg1 ?_
            refine dp rfl (pop_add64 rfl rfl (by omega) (by omega)) ?_
            refine dp rfl (pop_move rfl) ?_
            refine dn ?_
            refine ⟨k + 1, ?_, ?_, ⟨rfl, trivial⟩, (by repeat (first | exact keeps_refl | refine keeps_upd rfl ?_ | refine keeps_loop rfl rfl ?_)), List.Perm.refl _⟩
            · refine ⟨by omega, ?_⟩
              rw [hg]; simp_all [risingGo, leS]
            · dsimp only; omega
      · try simp at h4
        have hnk : l.length ≤ k := by omega
        obtain rfl : k = l.length := by omega
        rw [drop_all (Nat.le_refl _)] at hg
        refine hw_exit ?_
        refine seqQ_x ?_
        refine loopQ_x ?_
        refine blockQ_eq ?_
        refine seqQ_n ?_
        refine hw_reg ?_
        refine dp rfl (pop_assign rfl) ?_
        refine dn ?_
        refine hw_ret ?_
        refine ret_p rfl ?_
        show HVal.int .i64 _ = _
        first | (rw [playersFault, if_pos (by omega)]; done) | (rw [hg]; simp_all [risingGo, leS]; done)

/-- benchwarmer/benchref1.RoomFault -/
theorem c_benchref1_RoomFault {r : Room} (ht : r.Teams.length ≤ 1000000) (hp : r.Players.length ≤ 1000000) (hs1 : ∀ s ∈ r.Teams, s.length ≤ 1000000) (hs2 : ∀ s ∈ r.Players, s.length ≤ 1000000) : ConP Tryz.prog 12 [eRoom r] (.int .i64 (checkRoom r)) := by
  refine Con.of_body Tryz.func12 rfl Tryz.ntmps12 rfl rfl ?_
  refine hw_reg ?_
  refine dp rfl (pop_box rfl rfl) ?_
  refine dp rfl (pop_assign rfl) ?_
  refine dn ?_
  refine hw_seq ?_
  refine hw_reg ?_
  refine dp rfl (pop_fieldAddr ty28 rfl ty26 (by decide) rfl) ?_
  refine dp rfl (pop_load ty26 rfl rfl rfl) ?_
  refine dp rfl (pop_call ca50 rfl (WeakL.refl _) (c_benchref1_teamsFault (by first | assumption | omega | (simp; omega) | simp_all) (by first | assumption | omega | (simp; omega) | simp_all))) ?_
  refine dp rfl (pop_assign rfl) ?_
  refine dn ?_
  refine hw_reg ?_
  refine dp rfl (pop_move rfl) ?_
  refine dp rfl (pop_neq rfl rfl) ?_
  refine dn ?_
  refine hw_cond rfl (fun h1 => ?_) (fun h2 => ?_)
  · try simp at h1
    refine hw_reg ?_
    refine dp rfl (pop_move rfl) ?_
    refine dp rfl (pop_assign rfl) ?_
    refine dn ?_
    refine hw_ret ?_
    refine ret_p rfl ?_
    show HVal.int .i64 _ = _
    simp_all [checkRoom]
  · try simp at h2
    refine hw_skip ?_
    refine seqQ_n ?_
    refine hw_seq ?_
    refine hw_block ?_
    refine hw_reg ?_
    refine dp rfl (pop_fieldAddr ty28 rfl ty3 (by decide) rfl) ?_
    refine dp rfl (pop_load ty3 rfl rfl rfl) ?_
    refine dp rfl (pop_call ca51 rfl (WeakL.refl _) c_benchref1_in) ?_
    refine dp rfl (pop_not rfl) ?_
    refine dp rfl (pop_assign rfl) ?_
    refine dn ?_
    refine hw_cond rfl (fun h3 => ?_) (fun h4 => ?_)
    · try simp at h3
      refine hw_reg ?_
      refine dp rfl (pop_assign rfl) ?_
      refine dn ?_
      refine hw_ret ?_
      refine ret_p rfl ?_
      show HVal.int .i64 _ = _
      simp_all [checkRoom]
    · try simp at h4
      refine hw_reg ?_
      refine dp rfl (pop_fieldAddr ty28 rfl ty3 (by decide) rfl) ?_
      refine dp rfl (pop_load ty3 rfl rfl rfl) ?_
      refine dp rfl (pop_call ca51 rfl (WeakL.refl _) c_benchref1_in) ?_
      refine dp rfl (pop_not rfl) ?_
      refine dp rfl (pop_assign rfl) ?_
      refine dn ?_
      refine hw_cond rfl (fun h5 => ?_) (fun h6 => ?_)
      · try simp at h5
        refine hw_reg ?_
        refine dp rfl (pop_assign rfl) ?_
        refine dn ?_
        refine hw_ret ?_
        refine ret_p rfl ?_
        show HVal.int .i64 _ = _
        simp_all [checkRoom]
      · try simp at h6
        refine hw_skip ?_
        refine blockQ_n ?_
        refine seqQ_n ?_
        refine hw_seq ?_
        refine hw_reg ?_
        refine dp rfl (pop_fieldAddr ty28 rfl ty26 (by decide) rfl) ?_
        refine dp rfl (pop_load ty26 rfl rfl rfl) ?_
        refine dp rfl (pop_call ca52 rfl (WeakL.refl _) (c_benchref1_playersFault (by first | assumption | omega | (simp; omega) | simp_all) (by first | assumption | omega | (simp; omega) | simp_all))) ?_
        refine dp rfl (pop_assign rfl) ?_
        refine dn ?_
        refine hw_reg ?_
        refine dp rfl (pop_move rfl) ?_
        refine dp rfl (pop_neq rfl rfl) ?_
        refine dn ?_
        refine hw_cond rfl (fun h7 => ?_) (fun h8 => ?_)
        · try simp at h7
          refine hw_reg ?_
          refine dp rfl (pop_move rfl) ?_
          refine dp rfl (pop_assign rfl) ?_
          refine dn ?_
          refine hw_ret ?_
          refine ret_p rfl ?_
          show HVal.int .i64 _ = _
          simp_all [checkRoom]
        · try simp at h8
          refine hw_skip ?_
          refine seqQ_n ?_
          refine hw_seq ?_
          refine hw_block ?_
          refine hw_reg ?_
          refine dp rfl (pop_fieldAddr ty28 rfl ty3 (by decide) rfl) ?_
          refine dp rfl (pop_load ty3 rfl rfl rfl) ?_
          refine dp rfl (pop_call ca51 rfl (WeakL.refl _) c_benchref1_in) ?_
          refine dp rfl (pop_not rfl) ?_
          refine dp rfl (pop_move rfl) ?_
          refine dg rfl rfl (fun hc => ⟨_, OpenTo.refl _, pop_fieldAddr ty28 rfl ty3 (by decide) rfl⟩) ?_
          refine dg rfl rfl (fun hc => ⟨_, OpenTo.upd (t := 33) rfl (by first | exact hc | simp_all) (OpenTo.refl _), pop_load ty3 rfl rfl rfl⟩) ?_
          refine dg rfl rfl (fun hc => ⟨_, OpenTo.upd (t := 34) rfl (by first | exact hc | simp_all) (OpenTo.refl _), pop_call ca20 rfl (WeakL.refl _) c_benchref1_MomentFault⟩) ?_
          refine dg rfl rfl (fun hc => ⟨_, OpenTo.upd (t := 35) rfl (by first | exact hc | simp_all) (OpenTo.refl _), pop_neq rfl rfl⟩) ?_
          refine dp rfl (pop_picko rfl (.inl rfl) (.inr ⟨_, rfl, fun h => by simp_all⟩)) ?_
          refine dp rfl (pop_assign rfl) ?_
          refine dn ?_
          refine hw_cond rfl (fun h9 => ?_) (fun h10 => ?_)
          · try simp at h9
            refine hw_reg ?_
            refine dp rfl (pop_assign rfl) ?_
            refine dn ?_
            refine hw_ret ?_
            refine ret_p rfl ?_
            show HVal.int .i64 _ = _
            simp_all [checkRoom]
          · try simp at h10
            refine hw_reg ?_
            refine dp rfl (pop_fieldAddr ty28 rfl ty26 (by decide) rfl) ?_
            refine dp rfl (pop_load ty26 rfl rfl rfl) ?_
            refine dp rfl (pop_lenm ty26 rfl) ?_
            refine dp rfl (pop_fieldAddr ty28 rfl ty26 (by decide) rfl) ?_
            refine dp rfl (pop_load ty26 rfl rfl rfl) ?_
            refine dp rfl (pop_lenm ty26 rfl) ?_
            refine dp rfl (pop_fieldAddr ty28 rfl ty3 (by decide) rfl) ?_
            refine dp rfl (pop_load ty3 rfl rfl rfl) ?_
            have hR := out_f (n := r.Rounds) (lo := 1) (hi := 30) (by simp_all)
            have hm := mul_bd (a := (r.Teams.length : Int)) (b := r.Rounds) (A := 1000000) (B := 30) (by omega) (by omega) (by omega) (by omega)
            refine dp rfl (pop_mul64 rfl rfl (by omega) (by omega)) ?_
            refine dp rfl (pop_lss rfl rfl) ?_
            refine dp rfl (pop_assign rfl) ?_
            refine dn ?_
            refine hw_cond rfl (fun h11 => ?_) (fun h12 => ?_)
            · try simp at h11
              refine hw_reg ?_
              refine dp rfl (pop_assign rfl) ?_
              refine dn ?_
              refine hw_ret ?_
              refine ret_p rfl ?_
              show HVal.int .i64 _ = _
              simp_all [checkRoom]
            · try simp at h12
              refine hw_skip ?_
              refine blockQ_n ?_
              refine seqQ_n ?_
              refine hw_reg ?_
              refine dp rfl (pop_assign rfl) ?_
              refine dn ?_
              refine hw_ret ?_
              refine ret_p rfl ?_
              show HVal.int .i64 _ = _
              simp_all [checkRoom]

/-- benchwarmer/benchref1.backwards -/
theorem c_benchref1_backwards {way round : Int}  : ConP Tryz.prog 144 [.int .i64 way, .int .i64 round] (.bool (backwards way round)) := by
  refine Con.of_body Tryz.func144 rfl Tryz.ntmps144 rfl rfl ?_
  refine hw_reg ?_
  refine dp rfl (pop_assign rfl) ?_
  refine dn ?_
  refine hw_seq ?_
  refine hw_reg ?_
  refine dp rfl (pop_move rfl) ?_
  refine dn ?_
  refine hw_block ?_
  refine hw_reg ?_
  refine dp rfl (pop_eql rfl rfl) ?_
  refine dp rfl (pop_assign rfl) ?_
  refine dn ?_
  refine hw_cond rfl (fun h1 => ?_) (fun h2 => ?_)
  · try simp at h1
    refine hw_reg ?_
    refine dp rfl (pop_move rfl) ?_
    refine dp rfl (pop_rem rfl rfl (by omega)) ?_
    refine dp rfl (pop_eql rfl rfl) ?_
    refine dp rfl (pop_assign rfl) ?_
    refine dn ?_
    refine hw_ret ?_
    refine ret_p rfl ?_
    show HVal.bool _ = _
    simp_all [backwards]
  · try simp at h2
    refine hw_reg ?_
    refine dp rfl (pop_eql rfl rfl) ?_
    refine dp rfl (pop_assign rfl) ?_
    refine dn ?_
    refine hw_cond rfl (fun h3 => ?_) (fun h4 => ?_)
    · try simp at h3
      refine hw_reg ?_
      refine dp rfl (pop_move rfl) ?_
      refine dp rfl (pop_eql rfl rfl) ?_
      refine dp rfl (pop_move rfl) ?_
      refine dg rfl rfl (fun hc => ⟨_, OpenTo.refl _, pop_move rfl⟩) ?_
      refine dg rfl rfl (fun hc => ⟨_, OpenTo.upd (t := 16) rfl (by first | exact hc | simp_all) (OpenTo.refl _), pop_gtr rfl rfl⟩) ?_
      refine dg rfl rfl (fun hc => ⟨_, OpenTo.upd (t := 17) rfl (by first | exact hc | simp_all) (OpenTo.refl _), pop_move rfl⟩) ?_
      refine dg rfl rfl (fun hc => ⟨_, OpenTo.refl _, pop_move rfl⟩) ?_
      refine dg rfl rfl (fun hc => by have hq := hc; (try simp at hq); exact ⟨_, OpenTo.upd (t := 19) rfl (by first | exact hc | simp_all) (OpenTo.refl _), pop_rem rfl rfl (by omega)⟩) ?_
      refine dg rfl rfl (fun hc => ⟨_, OpenTo.upd (t := 20) rfl (by first | exact hc | simp_all) (OpenTo.refl _), pop_eql rfl rfl⟩) ?_
      refine dg rfl rfl (fun hc => ⟨_, OpenTo.upd (t := 18) rfl (by first | exact hc | simp_all) (OpenTo.refl _), pop_picko rfl (.inr ⟨_, rfl, fun h => by simp_all⟩) (.inl rfl)⟩) ?_
      refine dp rfl (pop_picko rfl (.inl rfl) (.inr ⟨_, rfl, fun h => by simp_all⟩)) ?_
      refine dp rfl (pop_assign rfl) ?_
      refine dn ?_
      refine hw_ret ?_
      refine ret_p rfl ?_
      show HVal.bool _ = _
      simp_all [backwards]
    · try simp at h4
      refine hw_skip ?_
      refine blockQ_n ?_
      refine seqQ_n ?_
      refine hw_reg ?_
      refine dp rfl (pop_assign rfl) ?_
      refine dn ?_
      refine hw_ret ?_
      refine ret_p rfl ?_
      show HVal.bool _ = _
      simp_all [backwards]

/-- benchwarmer/benchref1.ownTurns -/
theorem c_benchref1_ownTurns {r : Room} (ht : r.Teams.length ≤ 20) (hr0 : 1 ≤ r.Rounds) (hr : r.Rounds ≤ 30) : ConP Tryz.prog 112 [eRoom r] (eSs (ownTurns r)) := by
  refine Con.of_body Tryz.func112 rfl Tryz.ntmps112 rfl rfl ?_
  refine hw_reg ?_
  refine dp rfl (pop_box rfl rfl) ?_
  refine dp rfl (pop_assign rfl) ?_
  refine dn ?_
  refine hw_reg ?_
  refine dp rfl (pop_assign rfl) ?_
  refine dn ?_
  refine hw_ghost (Ghost.arr_nil 1) ?_
  refine hw_seq ?_
  refine hw_reg ?_
  refine dp rfl (pop_assign rfl) ?_
  refine dn ?_
  refine hw_block ?_
  refine hw_loopw2 [3, 4, 5, 6, 7, 8, 9, 10, 11, 12, 13, 14, 15, 16, 17, 18, 19, 20, 21, 22, 23] (fun (n : Nat) (v : Value) => [(4, .int .i64 ((n : Int) + 1)), (3, .raw v)]) (fun (n : Nat) (v : Value) => [.arr v 1 ((ownFrom r n).map .str)]) (fun (n : Nat) (v : Value) => n ≤ r.Rounds.toNat) (fun (n : Nat) (v : Value) => r.Rounds.toNat - n) (0) (.slice none 0 0) ?_ ?_ ?_ ?_
  · exact Nat.zero_le _
  · exact ⟨rfl, rfl, trivial⟩
  · exact List.Perm.refl _
  · intro n v hn
    refine hw_seq ?_
    refine hw_reg ?_
    refine dp rfl (pop_move rfl) ?_
    refine dp rfl (pop_fieldAddr ty28 rfl ty3 (by decide) rfl) ?_
    refine dp rfl (pop_load ty3 rfl rfl rfl) ?_
    refine dp rfl (pop_leq rfl rfl) ?_
    refine dn ?_
    refine hw_cond rfl (fun h1 => ?_) (fun h2 => ?_)
    · try simp at h1
      have hn30 : n < r.Rounds.toNat := by omega
      refine hw_skip ?_
      refine seqQ_n ?_
      refine hw_seq ?_
      refine hw_block ?_
      refine hw_reg ?_
      refine dp rfl (pop_fieldAddr ty28 rfl ty26 (by decide) rfl) ?_
      refine dp rfl (pop_load ty26 rfl rfl rfl) ?_
      refine de rfl (eop_calla ca42 rfl (WeakL.refl _) (c_slices_Clone_string_string (by first | assumption | omega | (simp; omega) | simp_all)) fun v14 => ?_)
      refine dp rfl (pop_assign rfl) ?_
      refine dn ?_
      refine hw_join [15, 16, 17, 18, 19, 20] (fun (L : List Str) => []) (fun (L : List Str) => [.arr v14 1 (L.map .str), .arr v 1 ((ownFrom r n).map .str)]) (fun (L : List Str) => L = if backwards r.Way ((n : Int) + 1) then r.Teams.reverse else r.Teams) ?_ ?_
      · skip
        refine hw_reg ?_
        refine dp rfl (pop_fieldAddr ty28 rfl ty3 (by decide) rfl) ?_
        refine dp rfl (pop_load ty3 rfl rfl rfl) ?_
        refine dp rfl (pop_move rfl) ?_
        refine dp rfl (pop_call ca144 rfl (WeakL.refl _) c_benchref1_backwards) ?_
        refine dn ?_
        refine hw_cond rfl (fun h3 => ?_) (fun h4 => ?_)
        · try simp at h3
          refine hw_reg1 ?_
          refine dp rfl (pop_move rfl) ?_
          refine de rfl (eop_callf (M1 := [_]) (R := [_]) ca138 rfl (WeakL.refl _) (List.Perm.refl _) (c_slices_Reverse_string_string (l := r.Teams) (by omega)) ?_)
          rintro _ _ ⟨rfl, rfl⟩
          refine dn ?_
          refine ⟨_, ?_, trivial, (by repeat (first | exact keeps_refl | refine keeps_upd rfl ?_ | refine keeps_loop rfl rfl ?_)), List.Perm.refl _⟩
          · simp_all
        · try simp at h4
          refine hw_skip ?_
          refine ⟨_, ?_, trivial, (by repeat (first | exact keeps_refl | refine keeps_upd rfl ?_ | refine keeps_loop rfl rfl ?_)), List.Perm.refl _⟩
          · simp_all
      · intro L hL
        have hLl : L.length = r.Teams.length := by rw [hL]; split <;> simp
        have hb := ownFrom_len r n
        have hm := Nat.mul_le_mul (show n ≤ 30 by omega) (show r.Teams.length ≤ 20 by omega)
        refine hw_ghost (Ghost.fa0 5 rfl) ?_
        refine hw_reg1 ?_
        refine dp rfl (pop_move rfl) ?_
        refine dp rfl (pop_move rfl) ?_
        refine de rfl (eop_append (i := 0) ty26 ty9 rfl rfl rfl rfl rfl (by simp [flat, hcells]) (by first | omega | (simp; omega)) fun v23 => ?_)
        refine dp rfl (pop_assign rfl) ?_
        refine dn ?_
        refine blockQ_n ?_
        refine seqQ_n ?_
        refine hw_reg1 ?_
        refine dp rfl (pop_move rfl) ?_
        refine dp rfl (pop_add64 rfl rfl (by omega) (by omega)) ?_
        refine dp rfl (pop_assign rfl) ?_
        refine dn ?_
        refine ⟨n + 1, _, ?_, ?_, ⟨rfl, rfl, trivial⟩, (by repeat (first | exact keeps_refl | refine keeps_upd rfl ?_ | refine keeps_loop rfl rfl ?_)), perm_eq (by simp [ownFrom, hL, List.map_append])⟩
        · omega
        · dsimp only; omega
    · try simp at h2
      obtain rfl : n = r.Rounds.toNat := by omega
      refine hw_exit ?_
      refine seqQ_x ?_
      refine loopQ2_x ?_
      refine blockQ_eq ?_
      refine seqQ_n ?_
      refine hw_reg ?_
      refine dp rfl (pop_move rfl) ?_
      refine dp rfl (pop_assign rfl) ?_
      refine dn ?_
      refine hw_ret ?_
      exact ret_fa (M := []) 2 rfl rfl rfl

/-- benchwarmer/benchref1.swapped -/
theorem c_benchref1_swapped {l : List Swap} {round : Int} {of : Str} (hl : l.length ≤ 1000000) : ConP Tryz.prog 93 [eSwaps l, .int .i64 round, .str of] (.tup [.str (owner round of l), .bool (l.any fun x => x.Round == round && x.Of == of)]) := by
  refine Con.of_body Tryz.func93 rfl Tryz.ntmps93 rfl rfl ?_
  refine hw_reg ?_
  refine dp rfl (pop_assign rfl) ?_
  refine dp rfl (pop_assign rfl) ?_
  refine dn ?_
  refine hw_seq ?_
  refine hw_reg ?_
  refine dp rfl (pop_move rfl) ?_
  refine dp rfl (pop_lenm ty32 rfl) ?_
  refine dp rfl (pop_move rfl) ?_
  refine dn ?_
  refine hw_block ?_
  refine hw_loopw [6, 7, 9, 12, 13, 14, 15, 16, 17, 18, 19, 20, 21, 22, 23, 24, 25, 26, 27, 28] (fun (k : Nat) => [(12, .int .i64 k)]) (fun (k : Nat) => []) (fun (k : Nat) => k ≤ l.length ∧ ((owner round of l = owner round of (l.drop k)) ∧ (l.any fun x => x.Round == round && x.Of == of) = (l.drop k).any fun x => x.Round == round && x.Of == of)) (fun (k : Nat) => l.length - k) (0) ?_ ?_ ?_ ?_
  · exact ⟨Nat.zero_le _, rfl, rfl⟩
  · exact ⟨rfl, trivial⟩
  · exact List.Perm.refl _
  · intro k hinv
    obtain ⟨hk, hg, hg2⟩ := hinv
    refine hw_reg ?_
    refine dp rfl (pop_lss rfl rfl) ?_
    refine dn ?_
    refine hw_seq ?_
    refine hw_cond rfl (fun h1 => ?_) (fun h2 => ?_)
    · try simp at h1
      obtain ⟨x, hx⟩ : ∃ x, l[k]? = some x := ⟨_, List.getElem?_eq_getElem h1⟩
      have hdx := drop_cons hx
      rw [hdx] at hg hg2
      refine hw_skip ?_
      refine seqQ_n ?_
      refine hw_seq ?_
      refine hw_block ?_
      refine hw_reg ?_
      refine dp rfl (pop_idx ty32 ty92 rfl rfl rfl (by first | assumption | simp_all)) ?_
      refine dp rfl (pop_loadw ty92 rfl rfl rfl rfl) ?_
      refine de rfl (eop_alloc ty92 rfl fun b9 => ?_)
      refine de0 (eop_storew ty92 rfl rfl rfl rfl rfl ?_)
      refine dn ?_
      refine hw_ghost (Ghost.fc0 9 rfl) ?_
      refine hw_reg ?_
      refine dp rfl (pop_fieldAddr ty92 rfl ty3 (by decide) rfl) ?_
      refine dp rfl (pop_load ty3 rfl rfl rfl) ?_
      refine dp rfl (pop_move rfl) ?_
      refine dp rfl (pop_eql rfl rfl) ?_
      refine dp rfl (pop_move rfl) ?_
      refine dg rfl rfl (fun hc => ⟨_, OpenTo.refl _, pop_fieldAddr ty92 rfl ty9 (by decide) rfl⟩) ?_
      refine dg rfl rfl (fun hc => ⟨_, OpenTo.upd (t := 21) rfl (by first | exact hc | simp_all) (OpenTo.refl _), pop_load ty9 rfl rfl rfl⟩) ?_
      refine dg rfl rfl (fun hc => ⟨_, OpenTo.refl _, pop_move rfl⟩) ?_
      refine dg rfl rfl (fun hc => ⟨_, OpenTo.upd (t := 23) rfl (by first | exact hc | simp_all) (OpenTo.upd (t := 22) rfl (by first | exact hc | simp_all) (OpenTo.refl _)), pop_eqls rfl rfl⟩) ?_
      refine dp rfl (pop_picko rfl (.inr ⟨_, rfl, fun h => by simp_all⟩) (.inl rfl)) ?_
      refine dn ?_
      refine hw_cond rfl (fun h3 => ?_) (fun h4 => ?_)
      · try simp at h3
        refine hw_reg ?_
        refine dp rfl (pop_fieldAddr ty92 rfl ty9 (by decide) rfl) ?_
        refine dp rfl (pop_load ty9 rfl rfl rfl) ?_
        refine dp rfl (pop_assign rfl) ?_
        refine dp rfl (pop_assign rfl) ?_
        refine dn ?_
        refine hw_ret ?_
        refine ret_p rfl ?_
        show HVal.tup _ = _
        rw [hg, hg2]; simp_all [owner, ofVal, ofVal1]
      · try simp at h4
        refine hw_skip ?_
        refine blockQ_n ?_
        refine seqQ_n ?_
        refine hw_reg1 ?_
        refine dp rfl (pop_add64 rfl rfl (by omega) (by omega)) ?_
        refine dp rfl (pop_move rfl) ?_
        refine dn ?_
        refine ⟨k + 1, ?_, ?_, ⟨rfl, trivial⟩, (by repeat (first | exact keeps_refl | refine keeps_upd rfl ?_ | refine keeps_loop rfl rfl ?_)), List.Perm.refl _⟩
        · refine ⟨by omega, ?_, ?_⟩
          · rw [hg]; simp_all [owner]
          · rw [hg2]; simp_all
        · dsimp only; omega
    · try simp at h2
      have hnk : l.length ≤ k := by omega
      obtain rfl : k = l.length := by omega
      rw [drop_all (Nat.le_refl _)] at hg hg2
      refine hw_exit ?_
      refine seqQ_x ?_
      refine loopQ_x ?_
      refine blockQ_eq ?_
      refine seqQ_n ?_
      refine hw_reg ?_
      refine dp rfl (pop_move rfl) ?_
      refine dp rfl (pop_assign rfl) ?_
      refine dp rfl (pop_assign rfl) ?_
      refine dn ?_
      refine hw_ret ?_
      refine ret_p rfl ?_
      show HVal.tup _ = _
      rw [hg, hg2]; simp_all [owner, ofVal, ofVal1]
end Go.Proofs.YtoomadfbldcioaaGreatDoor
end
section
namespace Go.Proofs
open Go.Shelf
def Tryz.lays190_ren : Go.Shelf.Ren := ⟨fun | 190 => 45 | 125 => 91 | 258 => 90 | 128 => 126 | 129 => 127 | 302 => 117 | 303 => 118 | 304 => 119 | 305 => 120 | 306 => 121 | 307 => 122 | 308 => 123 | 309 => 124 | 310 => 125 | 333 => 157 | 329 => 158 | 330 => 159 | 334 => 160 | 335 => 161 | 336 => 162 | 344 => 181 | n => n, fun | 31 => 26 | 9 => 9 | 3 => 3 | 46 => 138 | 0 => 0 | 51 => 169 | 53 => 171 | 4 => 4 | 183 => 162 | 182 => 161 | 131 => 110 | 5 => 5 | 218 => 190 | 222 => 194 | 228 => 210 | 229 => 211 | n => n, fun | n => n⟩
theorem Tryz.lays190 : Go.Proofs.Lays.n190 Tryz.prog Tryz.lays190_ren := {
  mixed := by kernel_rfl
  f125 := Tryz.func91.trans (congrArg some (by kernel_rfl))
  f128 := Tryz.func126.trans (congrArg some (by kernel_rfl))
  f129 := Tryz.func127.trans (congrArg some (by kernel_rfl))
  f190 := Tryz.func45.trans (congrArg some (by kernel_rfl))
  f258 := Tryz.func90.trans (congrArg some (by kernel_rfl))
  f302 := Tryz.func117.trans (congrArg some (by kernel_rfl))
  f303 := Tryz.func118.trans (congrArg some (by kernel_rfl))
  f304 := Tryz.func119.trans (congrArg some (by kernel_rfl))
  f305 := Tryz.func120.trans (congrArg some (by kernel_rfl))
  f306 := Tryz.func121.trans (congrArg some (by kernel_rfl))
  f307 := Tryz.func122.trans (congrArg some (by kernel_rfl))
  f308 := Tryz.func123.trans (congrArg some (by kernel_rfl))
  f309 := Tryz.func124.trans (congrArg some (by kernel_rfl))
  f310 := Tryz.func125.trans (congrArg some (by kernel_rfl))
  f329 := Tryz.func158.trans (congrArg some (by kernel_rfl))
  f330 := Tryz.func159.trans (congrArg some (by kernel_rfl))
  f333 := Tryz.func157.trans (congrArg some (by kernel_rfl))
  f334 := Tryz.func160.trans (congrArg some (by kernel_rfl))
  f335 := Tryz.func161.trans (congrArg some (by kernel_rfl))
  f336 := Tryz.func162.trans (congrArg some (by kernel_rfl))
  f344 := Tryz.func181.trans (congrArg some (by kernel_rfl))
  t0 := Tryz.underlying0
  a0 := Tryz.isAgg0
  z0 := Tryz.sizeOf0
  v0 := Tryz.zeroValue0
  t3 := Tryz.underlying3
  a3 := Tryz.isAgg3
  z3 := Tryz.sizeOf3
  v3 := Tryz.zeroValue3
  t4 := Tryz.underlying4
  a4 := Tryz.isAgg4
  z4 := Tryz.sizeOf4
  v4 := Tryz.zeroValue4
  t5 := Tryz.underlying5
  a5 := Tryz.isAgg5
  z5 := Tryz.sizeOf5
  v5 := Tryz.zeroValue5
  t9 := Tryz.underlying9
  a9 := Tryz.isAgg9
  z9 := Tryz.sizeOf9
  v9 := Tryz.zeroValue9
  t31 := Tryz.underlying26
  a31 := Tryz.isAgg26
  z31 := Tryz.sizeOf26
  v31 := Tryz.zeroValue26
  t46 := Tryz.underlying138
  a46 := Tryz.isAgg138
  z46 := Tryz.sizeOf138
  v46 := Tryz.zeroValue138
  t51 := Tryz.underlying169
  a51 := Tryz.isAgg169
  z51 := Tryz.sizeOf169
  v51 := Tryz.zeroValue169
  t53 := Tryz.underlying171
  a53 := Tryz.isAgg171
  z53 := Tryz.sizeOf171
  v53 := Tryz.zeroValue171
  t131 := Tryz.underlying110
  a131 := Tryz.isAgg110
  z131 := Tryz.sizeOf110
  v131 := Tryz.zeroValue110
  t182 := Tryz.underlying161
  a182 := Tryz.isAgg161
  z182 := Tryz.sizeOf161
  v182 := Tryz.zeroValue161
  t183 := Tryz.underlying162
  a183 := Tryz.isAgg162
  z183 := Tryz.sizeOf162
  v183 := Tryz.zeroValue162
  t218 := Tryz.underlying190
  a218 := Tryz.isAgg190
  z218 := Tryz.sizeOf190
  v218 := Tryz.zeroValue190
  t222 := Tryz.underlying194
  a222 := Tryz.isAgg194
  z222 := Tryz.sizeOf194
  v222 := Tryz.zeroValue194
  t228 := Tryz.underlying210
  a228 := Tryz.isAgg210
  z228 := Tryz.sizeOf210
  v228 := Tryz.zeroValue210
  t229 := Tryz.underlying211
  a229 := Tryz.isAgg211
  z229 := Tryz.sizeOf211
  v229 := Tryz.zeroValue211 }
def Tryz.lays194_ren : Go.Shelf.Ren := ⟨fun | 194 => 46 | n => n, fun | 31 => 26 | 9 => 9 | 3 => 3 | 4 => 4 | 0 => 0 | n => n, fun | n => n⟩
theorem Tryz.lays194 : Go.Proofs.Lays.n194 Tryz.prog Tryz.lays194_ren := {
  mixed := by kernel_rfl
  f194 := Tryz.func46.trans (congrArg some (by kernel_rfl))
  t0 := Tryz.underlying0
  a0 := Tryz.isAgg0
  z0 := Tryz.sizeOf0
  v0 := Tryz.zeroValue0
  t3 := Tryz.underlying3
  a3 := Tryz.isAgg3
  z3 := Tryz.sizeOf3
  v3 := Tryz.zeroValue3
  t4 := Tryz.underlying4
  a4 := Tryz.isAgg4
  z4 := Tryz.sizeOf4
  v4 := Tryz.zeroValue4
  t9 := Tryz.underlying9
  a9 := Tryz.isAgg9
  z9 := Tryz.sizeOf9
  v9 := Tryz.zeroValue9
  t31 := Tryz.underlying26
  a31 := Tryz.isAgg26
  z31 := Tryz.sizeOf26
  v31 := Tryz.zeroValue26 }
def Tryz.lays171_ren : Go.Shelf.Ren := ⟨fun | 171 => 40 | 243 => 88 | 246 => 116 | 283 => 153 | 284 => 154 | 285 => 155 | 286 => 156 | 129 => 127 | 317 => 177 | 318 => 178 | 319 => 179 | 320 => 180 | 337 => 190 | 338 => 191 | n => n, fun | 3 => 3 | 9 => 9 | 2 => 2 | 4 => 4 | 171 => 185 | 0 => 0 | 53 => 171 | 37 => 187 | 5 => 5 | 173 => 188 | 212 => 208 | 51 => 169 | 20 => 20 | 213 => 209 | 46 => 138 | 232 => 219 | 233 => 220 | n => n, fun | 17 => 0 | 18 => 2 | 19 => 3 | n => n⟩
theorem Tryz.lays171 : Go.Proofs.Lays.n171 Tryz.prog Tryz.lays171_ren := {
  mixed := by kernel_rfl
  f129 := Tryz.func127.trans (congrArg some (by kernel_rfl))
  f171 := Tryz.func40.trans (congrArg some (by kernel_rfl))
  f243 := Tryz.func88.trans (congrArg some (by kernel_rfl))
  f246 := Tryz.func116.trans (congrArg some (by kernel_rfl))
  f283 := Tryz.func153.trans (congrArg some (by kernel_rfl))
  f284 := Tryz.func154.trans (congrArg some (by kernel_rfl))
  f285 := Tryz.func155.trans (congrArg some (by kernel_rfl))
  f286 := Tryz.func156.trans (congrArg some (by kernel_rfl))
  f317 := Tryz.func177.trans (congrArg some (by kernel_rfl))
  f318 := Tryz.func178.trans (congrArg some (by kernel_rfl))
  f319 := Tryz.func179.trans (congrArg some (by kernel_rfl))
  f320 := Tryz.func180.trans (congrArg some (by kernel_rfl))
  f337 := Tryz.func190.trans (congrArg some (by kernel_rfl))
  f338 := Tryz.func191.trans (congrArg some (by kernel_rfl))
  t0 := Tryz.underlying0
  a0 := Tryz.isAgg0
  z0 := Tryz.sizeOf0
  v0 := Tryz.zeroValue0
  t2 := Tryz.underlying2
  a2 := Tryz.isAgg2
  z2 := Tryz.sizeOf2
  v2 := Tryz.zeroValue2
  t3 := Tryz.underlying3
  a3 := Tryz.isAgg3
  z3 := Tryz.sizeOf3
  v3 := Tryz.zeroValue3
  t4 := Tryz.underlying4
  a4 := Tryz.isAgg4
  z4 := Tryz.sizeOf4
  v4 := Tryz.zeroValue4
  t5 := Tryz.underlying5
  a5 := Tryz.isAgg5
  z5 := Tryz.sizeOf5
  v5 := Tryz.zeroValue5
  t9 := Tryz.underlying9
  a9 := Tryz.isAgg9
  z9 := Tryz.sizeOf9
  v9 := Tryz.zeroValue9
  t20 := Tryz.underlying20
  a20 := Tryz.isAgg20
  z20 := Tryz.sizeOf20
  v20 := Tryz.zeroValue20
  t37 := Tryz.underlying187
  a37 := Tryz.isAgg187
  z37 := Tryz.sizeOf187
  v37 := Tryz.zeroValue187
  t46 := Tryz.underlying138
  a46 := Tryz.isAgg138
  z46 := Tryz.sizeOf138
  v46 := Tryz.zeroValue138
  t51 := Tryz.underlying169
  a51 := Tryz.isAgg169
  z51 := Tryz.sizeOf169
  v51 := Tryz.zeroValue169
  t53 := Tryz.underlying171
  a53 := Tryz.isAgg171
  z53 := Tryz.sizeOf171
  v53 := Tryz.zeroValue171
  t171 := Tryz.underlying185
  a171 := Tryz.isAgg185
  z171 := Tryz.sizeOf185
  v171 := Tryz.zeroValue185
  t173 := Tryz.underlying188
  a173 := Tryz.isAgg188
  z173 := Tryz.sizeOf188
  v173 := Tryz.zeroValue188
  t212 := Tryz.underlying208
  a212 := Tryz.isAgg208
  z212 := Tryz.sizeOf208
  v212 := Tryz.zeroValue208
  t213 := Tryz.underlying209
  a213 := Tryz.isAgg209
  z213 := Tryz.sizeOf209
  t232 := Tryz.underlying219
  a232 := Tryz.isAgg219
  z232 := Tryz.sizeOf219
  v232 := Tryz.zeroValue219
  t233 := Tryz.underlying220
  a233 := Tryz.isAgg220
  z233 := Tryz.sizeOf220
  v233 := Tryz.zeroValue220
  g17 := by kernel_rfl
  g18 := by kernel_rfl
  g19 := by kernel_rfl }
def Tryz.laysm171_ren : Go.Shelf.Ren := ⟨fun | 171 => 40 | 243 => 88 | 246 => 116 | 283 => 153 | 284 => 154 | 285 => 155 | 286 => 156 | 129 => 127 | 317 => 177 | 318 => 178 | 319 => 179 | 320 => 180 | 337 => 190 | 338 => 191 | n => n, fun | 3 => 3 | 9 => 9 | 2 => 2 | 4 => 4 | 171 => 185 | 0 => 0 | 53 => 171 | 37 => 187 | 5 => 5 | 173 => 188 | 212 => 208 | 51 => 169 | 20 => 20 | 213 => 209 | 46 => 138 | 232 => 219 | 233 => 220 | n => n, fun | 17 => 0 | 18 => 2 | 19 => 3 | n => n⟩
theorem Tryz.laysm171 : Go.Proofs.LaysM.n171 Tryz.prog Tryz.laysm171_ren := {
  mixed := by kernel_rfl
  f129 := Tryz.func127.trans (congrArg some (by kernel_rfl))
  f171 := Tryz.func40.trans (congrArg some (by kernel_rfl))
  f243 := Tryz.func88.trans (congrArg some (by kernel_rfl))
  f246 := Tryz.func116.trans (congrArg some (by kernel_rfl))
  f283 := Tryz.func153.trans (congrArg some (by kernel_rfl))
  f284 := Tryz.func154.trans (congrArg some (by kernel_rfl))
  f285 := Tryz.func155.trans (congrArg some (by kernel_rfl))
  f286 := Tryz.func156.trans (congrArg some (by kernel_rfl))
  f317 := Tryz.func177.trans (congrArg some (by kernel_rfl))
  f318 := Tryz.func178.trans (congrArg some (by kernel_rfl))
  f319 := Tryz.func179.trans (congrArg some (by kernel_rfl))
  f320 := Tryz.func180.trans (congrArg some (by kernel_rfl))
  f337 := Tryz.func190.trans (congrArg some (by kernel_rfl))
  f338 := Tryz.func191.trans (congrArg some (by kernel_rfl))
  t0 := Tryz.underlying0
  a0 := Tryz.isAgg0
  z0 := Tryz.sizeOf0
  v0 := Tryz.zeroValue0
  t2 := Tryz.underlying2
  a2 := Tryz.isAgg2
  z2 := Tryz.sizeOf2
  v2 := Tryz.zeroValue2
  t3 := Tryz.underlying3
  a3 := Tryz.isAgg3
  z3 := Tryz.sizeOf3
  v3 := Tryz.zeroValue3
  t4 := Tryz.underlying4
  a4 := Tryz.isAgg4
  z4 := Tryz.sizeOf4
  v4 := Tryz.zeroValue4
  t5 := Tryz.underlying5
  a5 := Tryz.isAgg5
  z5 := Tryz.sizeOf5
  v5 := Tryz.zeroValue5
  t9 := Tryz.underlying9
  a9 := Tryz.isAgg9
  z9 := Tryz.sizeOf9
  v9 := Tryz.zeroValue9
  t20 := Tryz.underlying20
  a20 := Tryz.isAgg20
  z20 := Tryz.sizeOf20
  v20 := Tryz.zeroValue20
  t37 := Tryz.underlying187
  a37 := Tryz.isAgg187
  z37 := Tryz.sizeOf187
  v37 := Tryz.zeroValue187
  t46 := Tryz.underlying138
  a46 := Tryz.isAgg138
  z46 := Tryz.sizeOf138
  v46 := Tryz.zeroValue138
  t51 := Tryz.underlying169
  a51 := Tryz.isAgg169
  z51 := Tryz.sizeOf169
  v51 := Tryz.zeroValue169
  t53 := Tryz.underlying171
  a53 := Tryz.isAgg171
  z53 := Tryz.sizeOf171
  v53 := Tryz.zeroValue171
  t171 := Tryz.underlying185
  a171 := Tryz.isAgg185
  z171 := Tryz.sizeOf185
  v171 := Tryz.zeroValue185
  t173 := Tryz.underlying188
  a173 := Tryz.isAgg188
  z173 := Tryz.sizeOf188
  v173 := Tryz.zeroValue188
  t212 := Tryz.underlying208
  a212 := Tryz.isAgg208
  z212 := Tryz.sizeOf208
  v212 := Tryz.zeroValue208
  t213 := Tryz.underlying209
  a213 := Tryz.isAgg209
  z213 := Tryz.sizeOf209
  t232 := Tryz.underlying219
  a232 := Tryz.isAgg219
  z232 := Tryz.sizeOf219
  v232 := Tryz.zeroValue219
  t233 := Tryz.underlying220
  a233 := Tryz.isAgg220
  z233 := Tryz.sizeOf220
  v233 := Tryz.zeroValue220
  g17 := by kernel_rfl
  g18 := by kernel_rfl
  g19 := by kernel_rfl
  i0 := by kernel_rfl
  i2 := by kernel_rfl
  i3 := by kernel_rfl
  i4 := by kernel_rfl
  i5 := by kernel_rfl
  i9 := by kernel_rfl
  i20 := by kernel_rfl
  i37 := by kernel_rfl
  i46 := by kernel_rfl
  i51 := by kernel_rfl
  i53 := by kernel_rfl
  i171 := by kernel_rfl
  i173 := by kernel_rfl
  i212 := by kernel_rfl
  i232 := by kernel_rfl
  i233 := by kernel_rfl
  m17 := by kernel_rfl
  m18 := by kernel_rfl
  m19 := by kernel_rfl }
def Tryz.lays224_ren : Go.Shelf.Ren := ⟨fun | 24 => 47 | n => n, fun | 24 => 26 | 9 => 9 | 3 => 3 | 4 => 4 | 0 => 0 | n => n, fun | n => n⟩
theorem Tryz.lays224 : Go.Proofs.Lays2.n24 Tryz.prog Tryz.lays224_ren := {
  mixed := by kernel_rfl
  f24 := Tryz.func47.trans (congrArg some (by kernel_rfl))
  t0 := Tryz.underlying0
  a0 := Tryz.isAgg0
  z0 := Tryz.sizeOf0
  v0 := Tryz.zeroValue0
  t3 := Tryz.underlying3
  a3 := Tryz.isAgg3
  z3 := Tryz.sizeOf3
  v3 := Tryz.zeroValue3
  t4 := Tryz.underlying4
  a4 := Tryz.isAgg4
  z4 := Tryz.sizeOf4
  v4 := Tryz.zeroValue4
  t9 := Tryz.underlying9
  a9 := Tryz.isAgg9
  z9 := Tryz.sizeOf9
  v9 := Tryz.zeroValue9
  t24 := Tryz.underlying26
  a24 := Tryz.isAgg26
  z24 := Tryz.sizeOf26
  v24 := Tryz.zeroValue26
  i9 := by kernel_rfl }
end Go.Proofs
end
section
namespace Go.HL
variable {P : Program}
open Go.Sort Go.Proofs
theorem arr_some {I : Imm} {F : List MObj} {w : World} {b off n cap sz : Nat} {es : List HVal} (h : Sat P I (.arr (.slice (some ⟨b, off, none⟩) n cap) sz es :: F) w) :
    n = es.length ∧ ∃ rc el fr, w.heap[b]? = some (.cells rc el fr) ∧ Free fr rc.size ∧ (∀ e ∈ es, (hcells e).length = sz) ∧ (es.length ≤ cap ∧ cap ≤ 9223372036854775807) ∧ off + cap * sz ≤ rc.size ∧
        (∀ (i j : Nat) (e c : HVal) (v : Value), es[i]? = some e → (hcells e)[j]? = some c → rc[off + i * sz + j]? = some v → V I c v) := by
  rcases h.obj _ List.mem_cons_self with ⟨h0, _⟩ | ⟨b', off', cap', rc, el, fr, h1, h2, h3, h4, h5, h6, h7⟩
  · cases h0
  · cases h1
    exact ⟨rfl, rc, el, fr, h2, h3, h4, h5, h6, h7⟩
theorem holds_row {I : Imm} {F : List MObj} {w : World} {b off n cap : Nat} {l : List (List UInt8)} (h : Sat P I (.arr (.slice (some ⟨b, off, none⟩) n cap) 1 (l.map .str) :: F) w) :
    Holds encStr w b off l.toArray ∧ b < w.heap.size ∧ l.length ≤ cap ∧ n = l.length := by
  obtain ⟨h0, rc, el, fr, h2, h3, h4, h5, h6, h7⟩ := arr_some h
  simp only [List.length_map] at h0 h5
  refine ⟨fun j hj => ?_, ?_, h5.1, h0⟩
  · have hj' : j < l.length := by simpa using hj
    have hlt : off + j < rc.size := by omega
    constructor
    · rw [cell_of h2, Array.getElem?_eq_getElem hlt]
      have hv := h7 j 0 (.str l[j]) (.str l[j]) rc[off + j] (by simp [hj']) (by simp [hcells]) (by simp [Array.getElem?_eq_getElem hlt])
      rw [hv.str_inv]
      simp [hj', encStr]
    · simp only [World.frozen?, h2]
      have := h3 (off + j) hlt
      simpa using this
  · rcases Nat.lt_or_ge b w.heap.size with h' | h'
    · exact h'
    · simp [Array.getElem?_eq_none h'] at h2
theorem sat_row {I : Imm} {F : List MObj} {w : World} {b off n cap n' k : Nat} {os : Array Obj} {l zs : List (List UInt8)} (h : Sat P I (.arr (.slice (some ⟨b, off, none⟩) n cap) 1 (l.map .str) :: F) w) (hz : zs.length = l.length) (hn : n' ≤ l.length) :
    Sat P I (.arr (.slice (some ⟨b, off, none⟩) n' cap) 1 ((zs.take n').map .str) :: F) (grow (putRow encStr (Sort.ahead w k) b off zs.toArray) os) := by
  obtain ⟨h0, rc, el, fr, h2, h3, h4, h5, h6, h7⟩ := arr_some h
  simp only [List.length_map] at h0 h5
  have hlt : b < w.heap.size := by
    rcases Nat.lt_or_ge b w.heap.size with h' | h'
    · exact h'
    · simp [Array.getElem?_eq_none h'] at h2
  have hheap : ∀ c, c < w.heap.size → (grow (putRow encStr (Sort.ahead w k) b off zs.toArray) os).heap[c]? = (w.heap.modify b (onCells (putCells encStr off zs.toArray)))[c]? := fun c hc => by
    simp only [grow, putRow, mapBlock, Sort.ahead]
    rw [Array.getElem?_append_left (by simpa using hc)]
  refine h.change (m' := .arr (.slice (some ⟨b, off, none⟩) n' cap) 1 ((zs.take n').map .str)) (fun c hc hnc => ?_) (fun c hc => .inl hc) (by simp [MObj.blocks]) ?_ rfl rfl rfl
  · rw [hheap c hc, Array.getElem?_modify]
    have : b ≠ c := fun hh => hnc (by subst hh; simp [MObj.blocks])
    rw [if_neg this]
  · refine .inr ⟨b, off, cap, putCells encStr off zs.toArray rc, el, fr, ?_, ?_, ?_, ?_, ?_, ?_, ?_⟩
    · simp [hz, Nat.min_eq_left hn]
    · rw [hheap b hlt, Array.getElem?_modify, if_pos rfl, h2]; rfl
    · simpa [putCells] using h3
    · intro e he; obtain ⟨a, _, rfl⟩ := List.mem_map.1 he; simp [hcells]
    · simp; omega
    · simpa [putCells] using h6
    · intro i j e c v a1 a2 a3
      have hi : i < n' := by
        have := lt_of_get a1; simp at this; omega
      rw [List.getElem?_map, List.getElem?_take_of_lt hi] at a1
      cases hq : zs[i]? with
      | none => rw [hq] at a1; simp at a1
      | some s =>
        rw [hq] at a1; simp at a1; subst a1
        have hj : j = 0 := by have := lt_of_get a2; simp [hcells] at this; omega
        subst hj
        simp [hcells] at a2; subst a2
        have hil : i < zs.length := lt_of_get hq
        have hr : off + i * 1 + 0 < rc.size := by omega
        rw [putCells, Array.getElem?_mapIdx, Array.getElem?_eq_getElem hr, Option.map_some, if_pos ⟨by omega, by simp; omega⟩] at a3
        have e1 : off + i * 1 + 0 - off = i := by omega
        rw [e1] at a3
        have e2 : zs.toArray[i]! = s := by
          rw [getElem!_pos zs.toArray i (by simpa using hil)]
          have := List.getElem?_eq_getElem hil
          rw [hq] at this; simpa using (Option.some.inj this).symm
        rw [e2] at a3
        cases a3
        exact .str s

theorem VL.one {I : Imm} {h : HVal} {args : List Value} (hv : VL I [h] args) : ∃ v, args = [v] ∧ V I h v := by
  obtain ⟨h1, h2⟩ := hv
  match args, h1 with
  | [v], _ => exact ⟨v, rfl, h2 0 h v rfl rfl⟩

def sortS (l : List (List UInt8)) : List (List UInt8) := l.mergeSort fun x y => decide (x ≤ y)
theorem sortS_len (l : List (List UInt8)) : (sortS l).length = l.length := by simp [sortS]

/-- A function that works on a slice of strings in place and hands on nothing. -/
theorem con_row {P : Program} {f : FuncId} {l zs : List (List UInt8)} {v : Value} (hz : zs.length = l.length)
    (h1 : ∀ (b off cap : Nat) (w : World), Holds encStr w b off l.toArray → b < w.heap.size → l.length ≤ cap → Calls P f #[.slice (some ⟨b, off, none⟩) l.length cap] w fun e w' => e = .returned (.tuple #[]) ∧ ∃ n os, w' = grow (putRow encStr (Sort.ahead w n) b off zs.toArray) os)
    (h0 : l = [] → ConP P f [.slice 1 []] (.tup [])) : Con P f [.raw v] [.arr v 1 (l.map .str)] fun x M' => x = .tup [] ∧ M' = [.arr v 1 (zs.map .str)] := by
  intro I F w args ha hs
  obtain ⟨u, rfl, hu⟩ := ha.one
  obtain rfl : u = v := hu.raw_inv
  rcases hs.obj (.arr u 1 (l.map .str)) (by simp) with ⟨rfl, hn⟩ | ⟨b, off, cap, rc, el, fr, rfl, _⟩
  · have hl : l = [] := by simpa using hn
    subst hl
    have hz0 : zs = [] := List.length_eq_zero_iff.1 hz
    subst hz0
    refine (h0 rfl I (.arr (.slice none 0 0) 1 [] :: F) w [.slice none 0 0] (VL.cons (.slice0 _ _ _) VL.nil) (by simpa using hs)).mono ?_
    rintro _ w' ⟨v, h, M', J, rfl, hle, ⟨rfl, rfl⟩, hv, hsat⟩
    exact ⟨v, _, [.arr (.slice none 0 0) 1 []], J, rfl, hle, ⟨rfl, rfl⟩, hv, by simpa using hsat⟩
  · rw [List.length_map] at hs ⊢
    obtain ⟨g1, g2, g3, g4⟩ := holds_row hs
    refine (h1 b off cap w g1 g2 g3).mono ?_
    rintro _ w' ⟨rfl, n, os, rfl⟩
    refine ⟨_, .tup [], _, I, rfl, .refl I, ⟨rfl, rfl⟩, .tup (by simp) (fun j c v h _ => by simp at h), ?_⟩
    have := sat_row (n' := l.length) (k := n) (os := os) hs hz (Nat.le_refl _)
    rw [← hz, List.take_length, hz] at this
    exact this
/-- The same, where the slice comes back, cut. -/
theorem con_rowc {P : Program} {f : FuncId} {l zs : List (List UInt8)} {v : Value} (hz : zs.length ≤ l.length)
    (h1 : ∀ (b off cap : Nat) (w : World), Holds encStr w b off l.toArray → b < w.heap.size → l.length ≤ cap → Calls P f #[.slice (some ⟨b, off, none⟩) l.length cap] w fun e w' => e = .returned (.slice (some ⟨b, off, none⟩) zs.length cap) ∧ ∃ n, w' = putRow encStr (Sort.ahead w n) b off (zs ++ List.replicate (l.length - zs.length) []).toArray)
    (h0 : l = [] → ∀ w, Calls P f #[.slice none 0 0] w fun e w' => e = .returned (.slice none 0 0) ∧ w' = w) : Con P f [.raw v] [.arr v 1 (l.map .str)] fun x M' => ∃ u, x = .raw u ∧ M' = [.arr u 1 (zs.map .str)] := by
  intro I F w args ha hs
  obtain ⟨u, rfl, hu⟩ := ha.one
  obtain rfl : u = v := hu.raw_inv
  rcases hs.obj (.arr u 1 (l.map .str)) (by simp) with ⟨rfl, hn⟩ | ⟨b, off, cap, rc, el, fr, rfl, _⟩
  · have hl : l = [] := by simpa using hn
    subst hl
    have hz0 : zs = [] := List.length_eq_zero_iff.1 (by simpa using hz)
    subst hz0
    refine (h0 rfl w).mono ?_
    rintro _ w' ⟨rfl, rfl⟩
    exact ⟨_, .raw (.slice none 0 0), _, I, rfl, .refl I, ⟨_, rfl, rfl⟩, .raw _ rfl, hs⟩
  · rw [List.length_map] at hs ⊢
    obtain ⟨g1, g2, g3, g4⟩ := holds_row hs
    refine (h1 b off cap w g1 g2 g3).mono ?_
    rintro _ w' ⟨rfl, n, rfl⟩
    refine ⟨_, .raw (.slice (some ⟨b, off, none⟩) zs.length cap), _, I, rfl, .refl I, ⟨_, rfl, rfl⟩, .raw _ rfl, ?_⟩
    have := sat_row (zs := zs ++ List.replicate (l.length - zs.length) []) (n' := zs.length) (k := n) (os := #[]) hs (by simp; omega) hz
    rw [List.take_left' rfl, grow_empty] at this
    exact this
end Go.HL
end
section
namespace Go.HL
theorem compactUpTo_le {α : Type} [BEq α] [LawfulBEq α] [Inhabited α] [DecidableEq α] (d : Array α) (m : Nat) : (Lib.compactUpTo d m).length ≤ m := by
  unfold Lib.compactUpTo
  rw [List.length_map]
  have := List.length_filter_le (Lib.keeps d) (List.range m)
  simpa using this
theorem compact_le (l : List Str) : (Lib.compact l).length ≤ l.length := compactUpTo_le _ _
end Go.HL
end
section
namespace Go.Proofs.YtoomadfbldcioaaGreatDoor
open Go.HL
set_option maxRecDepth 100000
set_option linter.unusedVariables false
set_option linter.unusedSimpArgs false
/-- math/bits.Len64 -/
theorem c_math_bits_Len64   : ConP Tryz.prog 127 [.int .u64 0] (.int .i64 0) := by
  refine Con.of_body Tryz.func127 rfl Tryz.ntmps127 rfl rfl ?_
  refine hw_reg ?_
  refine dp rfl (pop_assign rfl) ?_
  refine dn ?_
  refine hw_seq ?_
  refine hw_reg ?_
  refine dp rfl (pop_move rfl) ?_
  refine dp rfl (pop_geq rfl rfl) ?_
  refine dn ?_
  refine hw_cond_f rfl ?_
  refine hw_skip ?_
  refine seqQ_n ?_
  refine hw_seq ?_
  refine hw_reg ?_
  refine dp rfl (pop_move rfl) ?_
  refine dp rfl (pop_geq rfl rfl) ?_
  refine dn ?_
  refine hw_cond_f rfl ?_
  refine hw_skip ?_
  refine seqQ_n ?_
  refine hw_seq ?_
  refine hw_reg ?_
  refine dp rfl (pop_move rfl) ?_
  refine dp rfl (pop_geq rfl rfl) ?_
  refine dn ?_
  refine hw_cond_f rfl ?_
  refine hw_skip ?_
  refine seqQ_n ?_
  refine hw_reg ?_
  refine dp rfl (pop_move rfl) ?_
  refine dp rfl (pop_move rfl) ?_
  refine dp rfl (pop_conv ty171 ty5 rfl) ?_
  refine dp rfl (pop_indexs (j := 0) (b := 0) ty9 rfl rfl rfl rfl) ?_
  refine dp rfl (pop_conv ty5 ty3 rfl) ?_
  refine dp rfl (pop_add64 rfl rfl (by decide) (by decide)) ?_
  refine dp rfl (pop_assign rfl) ?_
  refine dn ?_
  refine hw_ret ?_
  refine ret_p rfl ?_
  rfl

/-- math/bits.Len -/
theorem c_math_bits_Len   : ConP Tryz.prog 91 [.int .u64 0] (.int .i64 0) := by
  refine Con.of_body Tryz.func91 rfl Tryz.ntmps91 rfl rfl ?_
  refine hw_reg ?_
  refine dp rfl (pop_assign rfl) ?_
  refine dn ?_
  refine hw_seq ?_
  refine hw_cond_f rfl ?_
  refine hw_skip ?_
  refine seqQ_n ?_
  refine hw_reg ?_
  refine dp rfl (pop_move rfl) ?_
  refine dp rfl (pop_call ca127 rfl (WeakL.refl _) c_math_bits_Len64) ?_
  refine dp rfl (pop_assign rfl) ?_
  refine dn ?_
  refine hw_ret ?_
  refine ret_p rfl ?_
  rfl

/-- slices.insertionSortOrdered[string] -/
theorem c_slices_insertionSortOrdered_string   : ConP Tryz.prog 117 [eSs [], .int .i64 0, .int .i64 0] (.tup []) := by
  refine Con.of_body Tryz.func117 rfl Tryz.ntmps117 rfl rfl ?_
  refine hw_reg ?_
  refine dp rfl (pop_move rfl) ?_
  refine dp rfl (pop_add64 rfl rfl (by omega) (by omega)) ?_
  refine dp rfl (pop_assign rfl) ?_
  refine dn ?_
  refine hw_block ?_
  refine hw_loopw [6, 7, 10, 11, 12, 13, 14, 15, 16, 17, 18, 19, 20, 21, 22, 23, 24, 25, 26, 27, 28, 29, 30, 31, 32, 33, 34, 35, 36, 37, 38, 39, 40, 41, 42, 43, 44, 45, 46, 47, 48] (fun (u : Unit) => [(6, .int .i64 1)]) (fun (u : Unit) => []) (fun (u : Unit) => True) (fun (u : Unit) => 0) (()) ?_ ?_ ?_ ?_
  · trivial
  · exact ⟨rfl, trivial⟩
  · exact List.Perm.refl _
  · intro u hu
    refine hw_seq ?_
    refine hw_reg ?_
    refine dp rfl (pop_move rfl) ?_
    refine dp rfl (pop_move rfl) ?_
    refine dp rfl (pop_lss rfl rfl) ?_
    refine dn ?_
    refine hw_cond_f rfl ?_
    refine hw_exit ?_
    refine seqQ_x ?_
    refine loopQ_x ?_
    refine blockQ_eq ?_
    refine ret_n rfl ?_
    rfl

/-- slices.pdqsortOrdered[string] -/
theorem c_slices_pdqsortOrdered_string   : ConP Tryz.prog 90 [eSs [], .int .i64 0, .int .i64 0, .int .i64 0] (.tup []) := by
  refine Con.of_body Tryz.func90 rfl Tryz.ntmps90 rfl rfl ?_
  refine hw_reg ?_
  refine dp rfl (pop_assign rfl) ?_
  refine dn ?_
  refine hw_reg ?_
  refine dp rfl (pop_assign rfl) ?_
  refine dn ?_
  refine hw_block ?_
  refine hw_loopw (1 :: 2 :: 3 :: 8 :: 9 :: 10 :: 11 :: 12 :: 13 :: 14 :: 15 :: 16 :: 17 :: 18 :: 19 :: 20 :: 21 :: 22 :: 23 :: 24 :: 25 :: 26 :: 27 :: 28 :: 29 :: 30 :: 31 :: 32 :: 33 :: 34 :: 35 :: 36 :: 37 :: 38 :: 39 :: 40 :: 41 :: 42 :: 43 :: 44 :: 45 :: 46 :: 47 :: 48 :: 49 :: 50 :: 51 :: 52 :: 53 :: 54 :: 55 :: 56 :: 57 :: 58 :: 59 :: 60 :: 61 :: 62 :: 63 :: 64 :: 65 :: 66 :: 67 :: 68 :: 69 :: 70 :: 71 :: 72 :: 73 :: 74 :: 75 :: 76 :: 77 :: 78 :: 79 :: 80 :: 81 :: 82 :: 83 :: 84 :: 85 :: 86 :: 87 :: 88 :: 89 :: 90 :: 91 :: 92 :: 93 :: 94 :: 95 :: 96 :: 97 :: 98 :: 99 :: 100 :: 101 :: 102 :: 103 :: 104 :: 105 :: 106 :: 107 :: 108 :: 109 :: 110 :: 111 :: 112 :: 113 :: 114 :: 115 :: 116 :: 117 :: 118 :: 119 :: 120 :: 121 :: 122 :: 123 :: 124 :: 125 :: 126 :: 127 :: 128 :: 129 :: 130 :: 131 :: 132 :: 133 :: []) (fun (u : Unit) => [(1, .int .i64 0), (2, .int .i64 0)]) (fun (u : Unit) => []) (fun (u : Unit) => True) (fun (u : Unit) => 0) (()) ?_ ?_ ?_ ?_
  · trivial
  · exact ⟨rfl, rfl, trivial⟩
  · exact List.Perm.refl _
  · intro u hu
    refine hw_block ?_
    refine hw_reg ?_
    refine dp rfl (pop_move rfl) ?_
    refine dp rfl (pop_move rfl) ?_
    refine dp rfl (pop_sub64 rfl rfl (by omega) (by omega)) ?_
    refine dp rfl (pop_assign rfl) ?_
    refine dn ?_
    refine hw_seq ?_
    refine hw_reg ?_
    refine dp rfl (pop_move rfl) ?_
    refine dp rfl (pop_leq rfl rfl) ?_
    refine dn ?_
    refine hw_cond_t rfl ?_
    refine hw_reg ?_
    refine dp rfl (pop_move rfl) ?_
    refine dp rfl (pop_move rfl) ?_
    refine dp rfl (pop_move rfl) ?_
    refine dp rfl (pop_call ca117 rfl (WeakL.refl _) c_slices_insertionSortOrdered_string) ?_
    refine dn ?_
    refine hw_ret ?_
    refine ret_p rfl ?_
    rfl

/-- slices.Sort[[]string,string] -/
theorem c_slices_Sort_nil   : ConP Tryz.prog 45 [eSs []] (.tup []) := by
  refine Con.of_body Tryz.func45 rfl Tryz.ntmps45 rfl rfl ?_
  refine hw_reg ?_
  refine dp rfl (pop_move rfl) ?_
  refine dp rfl (pop_lenm ty26 rfl) ?_
  refine dp rfl (pop_assign rfl) ?_
  refine dn ?_
  refine hw_reg1 ?_
  refine dp rfl (pop_move rfl) ?_
  refine dp rfl (pop_move rfl) ?_
  refine dp rfl (pop_move rfl) ?_
  refine dp rfl (pop_conv ty3 ty138 rfl) ?_
  refine dp rfl (pop_call ca91 rfl (WeakL.refl _) c_math_bits_Len) ?_
  refine dp rfl (pop_call ca90 rfl (WeakL.refl _) c_slices_pdqsortOrdered_string) ?_
  refine dn ?_
  refine ret_n rfl ?_
  rfl

/-- slices.Sort: the slice holds the same strings in order -/
theorem c_slices_Sort {l : List Str} {v : Value} (hl : l.length ≤ 1000000) : Con Tryz.prog 45 [.raw v] [.arr v 1 (l.map .str)] fun x M' => x = .tup [] ∧ M' = [.arr v 1 ((sortS l).map .str)] :=
  con_row (sortS_len l) (fun b off cap w h1 h2 _ => Any.slices_Sort_string Tryz.lays190 b off cap l w h1 h2 (by omega)) (fun _ => c_slices_Sort_nil)

/-- slices.Compact: the slice is cut to the strings that differ from the one before -/
theorem c_slices_Compact {l : List Str} {v : Value} (hl : l.length ≤ 1000000) : Con Tryz.prog 46 [.raw v] [.arr v 1 (l.map .str)] fun x M' => ∃ u, x = .raw u ∧ M' = [.arr u 1 ((Lib.compact l).map .str)] :=
  con_rowc (compact_le l) (fun b off cap w h1 h2 h3 => Any.slices_Compact_string Tryz.lays194 b off cap l w h1 (by omega) h3) (fun _ w => Any.slices_Compact_string_empty Tryz.lays194 none 0 w)

/-- benchwarmer/benchref1.once -/
theorem c_benchref1_once {l : List Str} (hl : l.length ≤ 1000000) : ConA Tryz.prog 182 [eSs l] 1 ((Lib.compact (sortS l)).map .str) := by
  refine Con.of_body Tryz.func182 rfl Tryz.ntmps182 rfl rfl ?_
  refine hw_reg ?_
  refine dp rfl (pop_assign rfl) ?_
  refine dn ?_
  refine hw_reg ?_
  refine dp rfl (pop_move rfl) ?_
  refine de rfl (eop_calla ca42 rfl (WeakL.refl _) (c_slices_Clone_string_string (by first | assumption | omega | (simp; omega) | simp_all)) fun v4 => ?_)
  refine dp rfl (pop_assign rfl) ?_
  refine dn ?_
  refine hw_reg ?_
  refine dp rfl (pop_move rfl) ?_
  refine de rfl (eop_callf (M1 := [_]) (R := []) ca45 rfl (WeakL.refl _) (List.Perm.refl _) (c_slices_Sort hl) ?_)
  rintro _ _ ⟨rfl, rfl⟩
  refine dn ?_
  refine hw_reg ?_
  refine dp rfl (pop_move rfl) ?_
  refine de rfl (eop_callf (M1 := [_]) (R := []) ca46 rfl (WeakL.refl _) (List.Perm.refl _) (c_slices_Compact (l := sortS l) (by rw [sortS_len]; exact hl)) ?_)
  rintro _ _ ⟨u8, rfl, rfl⟩
  refine dp rfl (pop_assign rfl) ?_
  refine dn ?_
  refine hw_ret ?_
  refine ret_a rfl ?_
  rfl

/-- benchwarmer/benchref1.twice -/
theorem c_benchref1_twice {l : List Str} (hl : l.length ≤ 1000000) : ConP Tryz.prog 163 [eSs l] (.bool (decide ((Lib.compact (sortS l)).length < l.length))) := by
  refine Con.of_body Tryz.func163 rfl Tryz.ntmps163 rfl rfl ?_
  refine hw_reg ?_
  refine dp rfl (pop_assign rfl) ?_
  refine dn ?_
  refine hw_reg ?_
  refine dp rfl (pop_move rfl) ?_
  refine de rfl (eop_calla ca182 rfl (WeakL.refl _) (c_benchref1_once (by first | assumption | omega | (simp; omega) | simp_all)) fun v4 => ?_)
  refine de rfl (eop_len (i := 0) ty26 rfl rfl ?_)
  rw [List.length_map]
  refine dp rfl (pop_move rfl) ?_
  refine dp rfl (pop_lenm ty26 rfl) ?_
  refine dp rfl (pop_lss rfl rfl) ?_
  refine dp rfl (pop_assign rfl) ?_
  refine dn ?_
  refine hw_ret ?_
  refine ret_g Ghost.drop rfl ⟨?_, rfl⟩
  show HVal.bool _ = _
  simp
end Go.Proofs.YtoomadfbldcioaaGreatDoor
end
section
namespace Go.HL
open Op (bytesLess)
theorem cmpI_flip (a b : Int) : cmpI a b = -cmpI b a := by
  unfold cmpI; split <;> split <;> (try split) <;> omega
theorem cmpS_flip (a b : Str) : cmpS a b = -cmpS b a := by
  rw [cmpS_eq, cmpS_eq]
  rcases less_total a b with h | h | h
  · have hne : a ≠ b := fun e => by subst e; rw [less_irrefl] at h; cases h
    simp [h, less_asymm h, hne.symm]
  · subst h; simp [less_irrefl]
  · have hne : a ≠ b := fun e => by subst e; rw [less_irrefl] at h; cases h
    simp [h, less_asymm h, hne]
theorem orI_flip (a b : Int) : orI [-a, -b] = -orI [a, b] := by
  by_cases h1 : a = 0 <;> by_cases h2 : b = 0 <;> simp [orI, h1, h2]
theorem ord_flip (a b c d : Int) (h1 : a = -b) (h2 : c = -d) : decide (0 ≤ orI [a, c]) = decide (orI [b, d] ≤ 0) := by
  subst h1 h2; rw [orI_flip, Bool.eq_iff_iff]; simp
theorem ord_is (a c : Str) (e f : Int) : decide (0 ≤ orI [cmpI e f, cmpS a c]) = decide (orI [cmpI f e, cmpS c a] ≤ 0) := ord_flip _ _ _ _ (cmpI_flip _ _) (cmpS_flip _ _)
theorem ord_si (a c : Str) (e f : Int) : decide (0 ≤ orI [cmpS a c, cmpI e f]) = decide (orI [cmpS c a, cmpI f e] ≤ 0) := ord_flip _ _ _ _ (cmpS_flip _ _) (cmpI_flip _ _)
def refSwaps (r : Room) (l : List Swap) : Int := if 600 < l.length then 2 else swapsGo r l 0 l
def isTwice (l : List Str) : Bool := decide ((Lib.compact (sortS l)).length < l.length)
def refKeepsGo (r : Room) (l : List Keep) : Nat → List Str → List Keep → Int
  | _, who, [] => if isTwice who then 6 else 0
  | k, who, x :: t => if !(r.Teams.contains x.Team) || !(r.Players.contains x.Player) then 8 else if out x.Round 1 r.Rounds then 1
    else if decide (0 < k) && decide (orI [cmpS x.Team (l.getD (k - 1) keep0).Team, cmpI x.Round (l.getD (k - 1) keep0).Round] ≤ 0) then 7
    else refKeepsGo r l (k + 1) (who ++ [x.Player]) t
def refKeeps (r : Room) (l : List Keep) : Int := if 600 < l.length then 2 else refKeepsGo r l 0 [] l
def draftFault (r : Room) (k : List Keep) (s : List Swap) : Int := if checkRoom r != 0 then checkRoom r else orI [refKeeps r k, refSwaps r s]
def refOpenFault (r : Room) (k : List Keep) (s : List Swap) : Int := if draftFault r k s != 0 then draftFault r k s else clashGo s k
theorem clash_eq (x : Keep) (s : List Swap) : (s.any fun y => y.Round == x.Round && y.Of == x.Team) = s.any (clash x) := rfl
def tfor (r : Room) (s : List Swap) : Nat → List Str → List Turn
  | _, [] => []
  | i, t :: l => ⟨((i / r.Teams.length : Nat) : Int) + 1, t, owner (((i / r.Teams.length : Nat) : Int) + 1) t s⟩ :: tfor r s (i + 1) l
theorem tfor_len (r : Room) (s : List Swap) : ∀ (i : Nat) (l : List Str), (tfor r s i l).length = l.length
  | _, [] => rfl
  | i, _ :: l => by simp [tfor, tfor_len r s (i + 1) l]
theorem tfor_app (r : Room) (s : List Swap) : ∀ (i : Nat) (a b : List Str), tfor r s i (a ++ b) = tfor r s i a ++ tfor r s (i + a.length) b
  | i, [], b => by simp [tfor]
  | i, x :: a, b => by
    have : i + 1 + a.length = i + (a.length + 1) := by omega
    simp [tfor, tfor_app r s (i + 1) a b, this]
theorem tfor_get (r : Room) (s : List Swap) : ∀ (l : List Str) (i j : Nat) (t : Str), l[j]? = some t → (tfor r s i l)[j]? = some ⟨(((i + j) / r.Teams.length : Nat) : Int) + 1, t, owner ((((i + j) / r.Teams.length : Nat) : Int) + 1) t s⟩
  | [], i, j, t, h => by simp at h
  | x :: l, i, 0, t, h => by simp at h; subst h; simp [tfor]
  | x :: l, i, j + 1, t, h => by
    have := tfor_get r s l (i + 1) j t (by simpa using h)
    have e : i + 1 + j = i + (j + 1) := by omega
    rw [e] at this
    simpa [tfor] using this
theorem tfor_round (r : Room) (s : List Swap) (n : Nat) : ∀ (l : List Str) (i : Nat), n * r.Teams.length ≤ i → i + l.length ≤ (n + 1) * r.Teams.length → tfor r s i l = l.map fun t => ⟨(n : Int) + 1, t, owner ((n : Int) + 1) t s⟩
  | [], i, _, _ => rfl
  | t :: l, i, h1, h2 => by
    simp only [List.length_cons] at h2
    have hd : i / r.Teams.length = n := by
      rw [Nat.succ_mul] at h2
      rw [Nat.div_eq_iff (by omega)]
      constructor <;> omega
    simp only [tfor, hd, List.map_cons, tfor_round r s n l (i + 1) (by omega) (by omega)]
theorem tfor_turns (r : Room) (s : List Swap) : ∀ n, tfor r s 0 (ownFrom r n) = turnsFrom r s n
  | 0 => rfl
  | n + 1 => by
    rw [ownFrom, tfor_app, tfor_turns r s n, turnsFrom, Nat.zero_add, ownFrom_len]
    congr 1
    have hl : (if backwards r.Way ((n : Int) + 1) then r.Teams.reverse else r.Teams).length = r.Teams.length := by split <;> simp
    rw [tfor_round r s n _ _ (Nat.le_refl _) (by rw [hl, Nat.succ_mul]; omega)]
    rfl
theorem ref_turns (r : Room) (s : List Swap) : tfor r s 0 (ownTurns r) = turns r s := tfor_turns r s _
theorem tdiv_nat (a b : Nat) : ((a : Int)).tdiv (b : Int) = ((a / b : Nat) : Int) := by
  simp [Int.ofNat_tdiv]
theorem take_map_snoc {α β : Type} (f : α → β) {l : List α} {k : Nat} {x : α} (h : l[k]? = some x) : (l.take (k + 1)).map f = (l.take k).map f ++ [f x] := by
  rw [List.take_add_one, h]; simp
end Go.HL
end
section
namespace Go.HL
variable {P : Program}
section
variable {P : Program} {e : Env} {dst : Option Tmp} {ty : TypeId} {pos : String} {af : Array Edge} {g : Option (Nat × Bool)} {M : List MObj} {K : HVal → List MObj → Prop}
theorem perm_erase {α : Type} : ∀ {l : List α} {i : Nat} {x : α}, l[i]? = some x → l.Perm (x :: l.eraseIdx i)
  | [], i, x, h => by simp at h
  | y :: l, 0, x, h => by simp at h; subst h; exact .refl _
  | y :: l, i + 1, x, h => by
    have := perm_erase (l := l) (i := i) (x := x) (by simpa using h)
    exact (this.cons y).trans (.swap _ _ _)
/-- A call on one of the owned objects. -/
theorem eop_callx {f : FuncId} {args : Array Operand} {ats : Array TypeId} {hs hs' : List HVal} {i : Nat} {m : MObj} {Q : HVal → List MObj → Prop} (hc : Callable P f) (ha : evalL e args.toList = some hs) (hw : WeakL hs hs') (hm : M[i]? = some m)
    (hp : Con P f hs' [m] Q) (hk : ∀ h M', Q h M' → K h (M' ++ M.eraseIdx i)) : EOp P e M ⟨dst, .call ⟨.value (.func f), args, ats⟩, ty, pos, af, g⟩ K :=
  eop_callf (M1 := [m]) hc ha hw (perm_erase hm) hp hk
/-- The length of an owned slice. -/
theorem eop_lenm {α : Type} {f : α → HVal} {x : Operand} {t el : TypeId} {size bytes : Nat} {zero : Value} {i : Nat} {v : Value} {sz : Nat} {es : List α} (hf : Fits P t (.slice el) size bytes zero) (hx : evalO e x = some (.raw v))
    (hm : M[i]? = some (.arr v sz (es.map f))) (hk : K (.int .i64 es.length) M) : EOp P e M ⟨dst, .call ⟨.builtin .len, #[x], #[t]⟩, ty, pos, af, g⟩ K := by
  refine eop_len hf hx hm ?_
  rw [List.length_map]; exact hk
/-- An element of an owned slice is loaded, whole or in part, through its address. -/
theorem eop_load_el {α : Type} {f : α → HVal} {x : Operand} {t : TypeId} {d : TD} {size bytes : Nat} {zero : Value} {i b off cap n sz j o : Nat} {es : List α} {y : α} (k : Nat) {h : HVal} (hf : Fits P t d size bytes zero)
    (hx : evalO e x = some (.raw (.pointer (some ⟨b, o, none⟩)))) (ho' : o = off + j * sz + k) (hm : M[i]? = some (.arr (.slice (some ⟨b, off, none⟩) n cap) sz (es.map f))) (hj : es[j]? = some y)
    (hd : d.isAgg = false) (hh : (hcells (f y))[k]? = some h) (hk : K h M) : EOp P e M ⟨dst, .load t x, ty, pos, af, g⟩ K :=
  eop_load_arr (j := j) (f := k) (y := f y) hf hx ho' hm (by rw [List.getElem?_map, hj]; rfl) (.inl ⟨hd, hh⟩) hk
end
section
variable {P : Program} {ops : Array Oper} {n : Nat} {K : Env → List MObj → Prop} {rest : List Oper} {e : Env} {M : List MObj} {d : Nat} {op : Op} {ty : TypeId} {pos : String} {af : Array Edge}
/-- An operation with an effect under a guard: what it brings about holds where it is not carried out as well. -/
theorem dgx {j : Nat} {want c : Bool} (Q : HVal → List MObj → Prop) (hd : Nat.blt d n = true) (hg : guardC ops e j want = some c) (hn : c = false → ∃ x, Q x M)
    (hp : c = true → ∃ e2, OpenTo e e2 ∧ EOp P e2 M ⟨some d, op, ty, pos, af, some (j, want)⟩ Q)
    (k : ∀ x M', Q x M' → Der P ops n K rest (upd e d (.opt c x)) M') : Der P ops n K (⟨some d, op, ty, pos, af, some (j, want)⟩ :: rest) e M :=
  ⟨fun t ht => by simp at ht; subst ht; exact blt_lt hd, c, hg, fun hc => by
    obtain ⟨e2, h1, h2⟩ := hp hc
    intro I F a w ho hs
    exact Oper.wp_noQ (fun _ _ ⟨v, x, M', J, h3, h4, h5, h7, h8⟩ => ⟨v, .opt c x, M', J, h3, h4, k x M' h5, .opt (fun _ => h7) (fun hf => by rw [hc] at hf; cases hf), h8⟩) (h2 I F a w (ho.open h1) hs),
   fun hc => by
    obtain ⟨x, hx⟩ := hn hc
    subst hc
    exact ⟨x, k x M hx⟩⟩
end
def tailOff (cap off sz : Nat) : Nat := if cap = 1 then off else off + sz
theorem Sat.arr_tail {I : Imm} {F : List MObj} {w : World} {b off cap sz : Nat} {x : HVal} {es : List HVal} (h : Sat P I (.arr (.slice (some ⟨b, off, none⟩) (es.length + 1) cap) sz (x :: es) :: F) w) :
    Sat P I (.arr (.slice (some ⟨b, tailOff cap off sz, none⟩) es.length (cap - 1)) sz es :: F) w := by
  obtain ⟨_, rc, el, fr, h2, h3, h4, h5, h6, h7⟩ := arr_some h
  simp only [List.length_cons] at h5
  refine h.change (m' := .arr (.slice (some ⟨b, tailOff cap off sz, none⟩) es.length (cap - 1)) sz es) (fun _ _ _ => rfl) (fun c hc => .inl hc) (by simp [MObj.blocks]) ?_ rfl rfl rfl
  have hcs : cap * sz = (cap - 1) * sz + sz := by
    conv => lhs; rw [show cap = cap - 1 + 1 by omega]
    rw [Nat.succ_mul]
  refine .inr ⟨b, tailOff cap off sz, cap - 1, rc, el, fr, rfl, h2, h3, fun e he => h4 e (List.mem_cons_of_mem _ he), by omega, ?_, ?_⟩
  · unfold tailOff; split
    · omega
    · omega
  · intro i j e c v a1 a2 a3
    have hi := lt_of_get a1
    have ht : tailOff cap off sz = off + sz := by unfold tailOff; rw [if_neg (by omega)]
    rw [ht] at a3
    refine h7 (i + 1) j e c v (by simpa using a1) a2 ?_
    rw [Nat.succ_mul]
    have e1 : off + (i * sz + sz) + j = off + sz + i * sz + j := by omega
    rw [e1]; exact a3
theorem Ghost.tail {e : Env} {M : List MObj} {b off cap sz : Nat} {x : HVal} {es : List HVal} : Ghost e (.arr (.slice (some ⟨b, off, none⟩) (es.length + 1) cap) sz (x :: es) :: M) e (.arr (.slice (some ⟨b, tailOff cap off sz, none⟩) es.length (cap - 1)) sz es :: M) :=
  fun _ I F tmps w h1 h2 => ⟨I, .refl I, h1, h2.arr_tail⟩
section
variable {P : Program} {e : Env} {dst : Option Tmp} {ty : TypeId} {pos : String} {af : Array Edge} {g : Option (Nat × Bool)}
/-- The tail of a slice whose header is known. -/
theorem pop_tail {x : Operand} {t el : TypeId} {size bytes sz b2 : Nat} {zero z2 : Value} {d : TD} {b off n cap : Nat}
    (hf : Fits P t (.slice el) size bytes zero) (hel : Fits P el d sz b2 z2) (hx : evalO e x = some (.raw (.slice (some ⟨b, off, none⟩) (n + 1) cap))) (hc : n + 1 ≤ cap) :
    POp P e ⟨dst, .slice t x (some (.const (.int .i64 1))) none none, ty, pos, af, g⟩ (.raw (.slice (some ⟨b, tailOff cap off sz, none⟩) n (cap - 1))) :=
  POp.of_val fun I a w ho => by
    have h1 := (ho.one (x := x) (by simp [Op.operands]) hx).raw_inv
    have hb : (Instr.sliceBounds true (n + 1) cap (Option.map a.eval (some (.const (.int .i64 1)))) (Option.map a.eval none) none).run P w = .ok (1, n + 1, cap) w :=
      run_bounds (P := P) (e := e) (lo := some (.const (.int .i64 1))) (hi := none) (l := 1) (h := n + 1) (len := n + 1) (cap := cap) ho (by intro y hy; simp [Op.operands, hy]) (by intro y hy; simp [Op.operands, hy]) ⟨_, _, rfl, rfl⟩ rfl (by omega) (Nat.le_refl _) hc true w
    refine ⟨_, ?_, .raw _ rfl⟩
    simp only [Option.map_some, Option.map_none] at hb
    simp [execOp, Instr.sliceAt, run_underlying hf.slice, h1, Instr.slice, hb, hel.run_sizeOf, tailOff]
    try (split <;> simp_all [addr_add])
end
end Go.HL
end
section
namespace Go.HL
abbrev pAt (b : Nat) : HVal := .raw (.pointer (some ⟨b, 0, none⟩))
/-- A stream of numbers of which a have been drawn. -/
abbrev St (b : Nat) (l : List Int) (a : Nat) : MObj := .cells b [.slice 1 (l.map (.int .i64)), .int .i64 (a : Int)]
def below (x n : Int) : Int := if n < 1 then 0 else if x.tmod n < 0 then x.tmod n + n else x.tmod n
theorem below_nat (x n : Int) : ∃ y : Nat, below x n = (y : Int) ∧ (y : Int) < max n 1 := by
  have h : 0 ≤ below x n ∧ below x n < max n 1 := by
    unfold below
    split
    · omega
    · have h1 := Int.tmod_lt_of_pos x (show 0 < n by omega)
      have h2 : -n < x.tmod n := by
        have := Int.neg_lt_tmod_of_pos' x n (by omega)
        exact this
      split <;> omega
  exact ⟨(below x n).toNat, by omega, by omega⟩
where
  Int.neg_lt_tmod_of_pos' (x n : Int) (h : 0 < n) : -n < x.tmod n := by
    rcases Int.le_total 0 x with hx | hx
    · have := Int.tmod_nonneg n hx; omega
    · have e : x.tmod n = -((-x).tmod n) := by rw [Int.neg_tmod]; simp
      have := Int.tmod_lt_of_pos (-x) h
      omega
theorem getI {L : List Int} {y : Nat} (h : (y : Int) < max (L.length : Int) 1) (h0 : 0 < L.length) : ∃ z, L[y]? = some z ∧ z ∈ L :=
  ⟨L[y]'(by omega), List.getElem?_eq_getElem _, List.getElem_mem _⟩
theorem getS {L : List Str} {y : Nat} (h : (y : Int) < max (L.length : Int) 1) (h0 : 0 < L.length) : ∃ z, L[y]? = some z ∧ z ∈ L :=
  ⟨L[y]'(by omega), List.getElem?_eq_getElem _, List.getElem_mem _⟩
theorem tmod_nat (a b : Nat) : ((a : Int)).tmod (b : Int) = ((a % b : Nat) : Int) := by
  exact (Int.ofNat_tmod a b).symm
end Go.HL
end
section
namespace Go.Proofs.YtoomadfbldcioaaGreatDoor
open Go.HL
set_option maxRecDepth 100000
set_option linter.unusedVariables false
set_option linter.unusedSimpArgs false
/-- benchwarmer/benchmake.Below -/
theorem c_benchmake_Below {x n : Int} (hn : n ≤ 4000000000) : ConP Tryz.prog 89 [.int .i64 x, .int .i64 n] (.int .i64 (below x n)) := by
  refine Con.of_body Tryz.func89 rfl Tryz.ntmps89 rfl rfl ?_
  refine hw_reg ?_
  refine dp rfl (pop_assign rfl) ?_
  refine dn ?_
  refine hw_seq ?_
  refine hw_reg ?_
  refine dp rfl (pop_move rfl) ?_
  refine dp rfl (pop_lss rfl rfl) ?_
  refine dn ?_
  refine hw_cond rfl (fun h1 => ?_) (fun h2 => ?_)
  · try simp at h1
    refine hw_reg ?_
    refine dp rfl (pop_assign rfl) ?_
    refine dn ?_
    refine hw_ret ?_
    refine ret_p rfl ?_
    show HVal.int .i64 _ = _
    simp_all [below]
    try omega
  · try simp at h2
    refine hw_skip ?_
    refine seqQ_n ?_
    refine hw_reg ?_
    refine dp rfl (pop_move rfl) ?_
    refine dp rfl (pop_move rfl) ?_
    refine dp rfl (pop_rem rfl rfl (by omega)) ?_
    refine dp rfl (pop_assign rfl) ?_
    refine dn ?_
    refine hw_seq ?_
    refine hw_reg ?_
    refine dp rfl (pop_move rfl) ?_
    refine dp rfl (pop_lss rfl rfl) ?_
    refine dn ?_
    refine hw_cond rfl (fun h3 => ?_) (fun h4 => ?_)
    · try simp at h3
      refine hw_reg1 ?_
      refine dp rfl (pop_move rfl) ?_
      refine dp rfl (pop_move rfl) ?_
      have hm := Int.tmod_lt_of_pos x (show 0 < n by omega)
      obtain ⟨y, hy1, hy2⟩ := below_nat x n
      have hb : below x n = x.tmod n + n := by unfold below; rw [if_neg (by omega), if_pos (by omega)]
      refine dp rfl (pop_add64 rfl rfl (by omega) (by omega)) ?_
      refine dp rfl (pop_assign rfl) ?_
      refine dn ?_
      refine seqQ_n ?_
      refine hw_reg ?_
      refine dp rfl (pop_move rfl) ?_
      refine dp rfl (pop_assign rfl) ?_
      refine dn ?_
      refine hw_ret ?_
      refine ret_p rfl ?_
      show HVal.int .i64 _ = _
      simp_all [below]
      try omega
    · try simp at h4
      refine hw_skip ?_
      refine seqQ_n ?_
      refine hw_reg ?_
      refine dp rfl (pop_move rfl) ?_
      refine dp rfl (pop_assign rfl) ?_
      refine dn ?_
      refine hw_ret ?_
      refine ret_p rfl ?_
      show HVal.int .i64 _ = _
      simp_all [below]
      try omega

/-- (*benchwarmer/benchmake.Stream).Next -/
theorem c_benchmake_Stream_Next {b : Nat} {l : List Int} {a : Nat} {n : Int} (ha : a ≤ 1000000) (hn : n ≤ 4000000000) : Con Tryz.prog 41 [pAt b, .int .i64 n] [St b l a] (fun x M' => ∃ y : Nat, x = .int .i64 (y : Int) ∧ (y : Int) < max n 1 ∧ M' = [St b l (a + 1)]) := by
  refine Con.of_body Tryz.func41 rfl Tryz.ntmps41 rfl rfl ?_
  refine hw_reg ?_
  refine dp rfl (pop_assign rfl) ?_
  refine dn ?_
  refine hw_reg ?_
  refine dp rfl (pop_move rfl) ?_
  refine dp rfl ((by first | exact pop_nilCheck rfl | exact pop_nilCheck_raw rfl)) ?_
  refine dp rfl (pop_fieldAddr_raw ty25 rfl ty3 (by decide) rfl) ?_
  first
  | refine de rfl (eop_load (i := 0) ty3 rfl rfl (.inl ⟨rfl, rfl⟩) ?_)
  | refine de rfl (eop_load (i := 1) ty3 rfl rfl (.inl ⟨rfl, rfl⟩) ?_)
  | refine de rfl (eop_load (i := 2) ty3 rfl rfl (.inl ⟨rfl, rfl⟩) ?_)
  | refine de rfl (eop_load (i := 3) ty3 rfl rfl (.inl ⟨rfl, rfl⟩) ?_)
  refine dp rfl (pop_add64 rfl rfl (by omega) (by omega)) ?_
  refine dp rfl ((by first | exact pop_nilCheck rfl | exact pop_nilCheck_raw rfl)) ?_
  refine dp rfl (pop_fieldAddr_raw ty25 rfl ty3 (by decide) rfl) ?_
  first
  | refine de0 (eop_store (i := 0) ty3 rfl rfl rfl rfl rfl (Nat.le_of_ble_eq_true rfl) ?_)
  | refine de0 (eop_store (i := 1) ty3 rfl rfl rfl rfl rfl (Nat.le_of_ble_eq_true rfl) ?_)
  | refine de0 (eop_store (i := 2) ty3 rfl rfl rfl rfl rfl (Nat.le_of_ble_eq_true rfl) ?_)
  | refine de0 (eop_store (i := 3) ty3 rfl rfl rfl rfl rfl (Nat.le_of_ble_eq_true rfl) ?_)
  refine dn ?_
  refine hw_seq ?_
  refine hw_reg ?_
  refine dp rfl (pop_move rfl) ?_
  refine dp rfl ((by first | exact pop_nilCheck rfl | exact pop_nilCheck_raw rfl)) ?_
  refine dp rfl (pop_fieldAddr_raw ty25 rfl ty22 (by decide) rfl) ?_
  first
  | refine de rfl (eop_load (i := 0) ty22 rfl rfl (.inl ⟨rfl, rfl⟩) ?_)
  | refine de rfl (eop_load (i := 1) ty22 rfl rfl (.inl ⟨rfl, rfl⟩) ?_)
  | refine de rfl (eop_load (i := 2) ty22 rfl rfl (.inl ⟨rfl, rfl⟩) ?_)
  | refine de rfl (eop_load (i := 3) ty22 rfl rfl (.inl ⟨rfl, rfl⟩) ?_)
  refine dp rfl (pop_lenm ty22 rfl) ?_
  refine dp rfl (pop_eql rfl rfl) ?_
  refine dn ?_
  refine hw_cond rfl (fun h1 => ?_) (fun h2 => ?_)
  · try simp at h1
    refine hw_reg ?_
    refine dp rfl (pop_move rfl) ?_
    refine dp rfl ((by first | exact pop_nilCheck rfl | exact pop_nilCheck_raw rfl)) ?_
    refine dp rfl (pop_fieldAddr_raw ty25 rfl ty3 (by decide) rfl) ?_
    first
    | refine de rfl (eop_load (i := 0) ty3 rfl rfl (.inl ⟨rfl, rfl⟩) ?_)
    | refine de rfl (eop_load (i := 1) ty3 rfl rfl (.inl ⟨rfl, rfl⟩) ?_)
    | refine de rfl (eop_load (i := 2) ty3 rfl rfl (.inl ⟨rfl, rfl⟩) ?_)
    | refine de rfl (eop_load (i := 3) ty3 rfl rfl (.inl ⟨rfl, rfl⟩) ?_)
    refine dp rfl (pop_mul rfl rfl) ?_
    refine dp rfl (pop_move rfl) ?_
    refine dp rfl (pop_call ca89 rfl (WeakL.refl _) (c_benchmake_Below (by first | assumption | omega | (simp; omega) | simp_all))) ?_
    refine dp rfl (pop_assign rfl) ?_
    refine dn ?_
    refine hw_ret ?_
    refine ret_q rfl ?_
    obtain ⟨y, h1, h2⟩ := below_nat _ n
    exact ⟨y, congrArg _ h1, h2, rfl⟩
  · try simp at h2
    refine hw_skip ?_
    refine seqQ_n ?_
    have hl0 : 0 < l.length := List.length_pos_iff.2 (by simpa using h2)
    refine hw_draw (fun M => ∃ i : Nat, M[i]? = some (St b l (a + 1))) [3, 8] mixed ?_
    refine ahp 0 rfl rfl (by kernel_rfl) (by kernel_rfl) (pop_move rfl) ?_
    refine ahp 1 rfl rfl (by kernel_rfl) (by kernel_rfl) ((by first | exact pop_nilCheck rfl | exact pop_nilCheck_raw rfl)) ?_
    refine ahp 2 rfl rfl (by kernel_rfl) (by kernel_rfl) (pop_fieldAddr_raw ty25 rfl ty3 (by decide) rfl) ?_
    refine ahl 3 rfl rfl (by kernel_rfl) (by kernel_rfl) (by simp) (by first | exact ⟨0, rfl⟩ | exact ⟨1, rfl⟩ | exact ⟨2, rfl⟩) (fun M hM => by obtain ⟨i, hi⟩ := hM; exact eop_load (i := i) ty3 rfl hi (.inl ⟨rfl, rfl⟩) ⟨rfl, rfl⟩) ?_
    refine ahp 4 rfl rfl (by kernel_rfl) (by kernel_rfl) (pop_sub64 rfl rfl (by omega) (by omega)) ?_
    refine ahp 5 rfl rfl (by kernel_rfl) (by kernel_rfl) (pop_move rfl) ?_
    refine ahp 6 rfl rfl (by kernel_rfl) (by kernel_rfl) ((by first | exact pop_nilCheck rfl | exact pop_nilCheck_raw rfl)) ?_
    refine ahp 7 rfl rfl (by kernel_rfl) (by kernel_rfl) (pop_fieldAddr_raw ty25 rfl ty22 (by decide) rfl) ?_
    refine ahl 8 rfl rfl (by kernel_rfl) (by kernel_rfl) (by simp) (by first | exact ⟨0, rfl⟩ | exact ⟨1, rfl⟩ | exact ⟨2, rfl⟩) (fun M hM => by obtain ⟨i, hi⟩ := hM; exact eop_load (i := i) ty22 rfl hi (.inl ⟨rfl, rfl⟩) ⟨rfl, rfl⟩) ?_
    refine ahp 9 rfl rfl (by kernel_rfl) (by kernel_rfl) (pop_lenm ty22 rfl) ?_
    refine ahp 10 rfl rfl (by kernel_rfl) (by kernel_rfl) (pop_eq (h' := .int .i64 ((a % l.length : Nat) : Int)) (pop_rem rfl rfl (by omega)) (by show HVal.int .i64 (((a : Int) + 1 - 1).tmod _) = _; rw [show ((a : Int) + 1 - 1) = (a : Int) by omega]; exact congrArg _ (tmod_nat _ _))) ?_
    refine ahp 11 rfl rfl (by kernel_rfl) (by kernel_rfl) (pop_assign rfl) ?_
    refine ahz (by kernel_rfl) ?_
    refine hw_draw (fun M => ∃ i : Nat, M[i]? = some (St b l (a + 1))) [3, 8] mixed ?_
    refine ahp 0 rfl rfl (by kernel_rfl) (by kernel_rfl) (pop_move rfl) ?_
    refine ahp 1 rfl rfl (by kernel_rfl) (by kernel_rfl) ((by first | exact pop_nilCheck rfl | exact pop_nilCheck_raw rfl)) ?_
    refine ahp 2 rfl rfl (by kernel_rfl) (by kernel_rfl) (pop_fieldAddr_raw ty25 rfl ty3 (by decide) rfl) ?_
    refine ahl 3 rfl rfl (by kernel_rfl) (by kernel_rfl) (by simp) (by first | exact ⟨0, rfl⟩ | exact ⟨1, rfl⟩ | exact ⟨2, rfl⟩) (fun M hM => by obtain ⟨i, hi⟩ := hM; exact eop_load (i := i) ty3 rfl hi (.inl ⟨rfl, rfl⟩) ⟨rfl, rfl⟩) ?_
    refine ahp 4 rfl rfl (by kernel_rfl) (by kernel_rfl) (pop_sub64 rfl rfl (by omega) (by omega)) ?_
    refine ahp 5 rfl rfl (by kernel_rfl) (by kernel_rfl) (pop_move rfl) ?_
    refine ahp 6 rfl rfl (by kernel_rfl) (by kernel_rfl) ((by first | exact pop_nilCheck rfl | exact pop_nilCheck_raw rfl)) ?_
    refine ahp 7 rfl rfl (by kernel_rfl) (by kernel_rfl) (pop_fieldAddr_raw ty25 rfl ty22 (by decide) rfl) ?_
    refine ahl 8 rfl rfl (by kernel_rfl) (by kernel_rfl) (by simp) (by first | exact ⟨0, rfl⟩ | exact ⟨1, rfl⟩ | exact ⟨2, rfl⟩) (fun M hM => by obtain ⟨i, hi⟩ := hM; exact eop_load (i := i) ty22 rfl hi (.inl ⟨rfl, rfl⟩) ⟨rfl, rfl⟩) ?_
    refine ahp 9 rfl rfl (by kernel_rfl) (by kernel_rfl) (pop_lenm ty22 rfl) ?_
    refine ahp 10 rfl rfl (by kernel_rfl) (by kernel_rfl) (pop_quo rfl rfl (by omega)) ?_
    refine ahp 11 rfl rfl (by kernel_rfl) (by kernel_rfl) (pop_assign rfl) ?_
    refine ahz (by kernel_rfl) ?_
    refine hw_reg ?_
    refine dp rfl (pop_move rfl) ?_
    refine dp rfl ((by first | exact pop_nilCheck rfl | exact pop_nilCheck_raw rfl)) ?_
    refine dp rfl (pop_fieldAddr_raw ty25 rfl ty22 (by decide) rfl) ?_
    first
    | refine de rfl (eop_load (i := 0) ty22 rfl rfl (.inl ⟨rfl, rfl⟩) ?_)
    | refine de rfl (eop_load (i := 1) ty22 rfl rfl (.inl ⟨rfl, rfl⟩) ?_)
    | refine de rfl (eop_load (i := 2) ty22 rfl rfl (.inl ⟨rfl, rfl⟩) ?_)
    | refine de rfl (eop_load (i := 3) ty22 rfl rfl (.inl ⟨rfl, rfl⟩) ?_)
    refine dp rfl (pop_move rfl) ?_
    refine dp rfl (pop_idx (j := a % l.length) (a := l[a % l.length]'(Nat.mod_lt _ (by omega))) ty22 ty3 rfl rfl rfl (List.getElem?_eq_getElem _)) ?_
    refine dp rfl (pop_load ty3 rfl rfl rfl) ?_
    refine dp rfl (pop_call ca89 rfl (WeakL.refl _) (c_benchmake_Below (by first | assumption | omega | (simp; omega) | simp_all))) ?_
    refine dp rfl (pop_move rfl) ?_
    refine dp rfl (pop_move rfl) ?_
    refine dp rfl (pop_add rfl rfl) ?_
    refine dp rfl (pop_mul rfl rfl) ?_
    refine dp rfl (pop_add rfl rfl) ?_
    refine dp rfl (pop_move rfl) ?_
    refine dp rfl (pop_call ca89 rfl (WeakL.refl _) (c_benchmake_Below (by first | assumption | omega | (simp; omega) | simp_all))) ?_
    refine dp rfl (pop_assign rfl) ?_
    refine dn ?_
    refine hw_ret ?_
    refine ret_q rfl ?_
    obtain ⟨y, h1, h2⟩ := below_nat _ n
    exact ⟨y, congrArg _ h1, h2, rfl⟩

/-- (*benchwarmer/benchmake.Stream).Range -/
theorem c_benchmake_Stream_Range {b : Nat} {l : List Int} {a : Nat} {lo hi : Int} (ha : a ≤ 1000000) (hlh : lo ≤ hi) (h0 : -1000000000 ≤ lo) (h1 : hi ≤ 1000000000) : Con Tryz.prog 39 [pAt b, .int .i64 lo, .int .i64 hi] [St b l a] (fun x M' => ∃ y : Int, x = .int .i64 y ∧ (lo ≤ y ∧ y ≤ hi) ∧ M' = [St b l (a + 1)]) := by
  refine Con.of_body Tryz.func39 rfl Tryz.ntmps39 rfl rfl ?_
  refine hw_reg ?_
  refine dp rfl (pop_assign rfl) ?_
  refine dn ?_
  refine hw_seq ?_
  refine hw_reg ?_
  refine dp rfl (pop_move rfl) ?_
  refine dp rfl (pop_move rfl) ?_
  refine dp rfl (pop_lss rfl rfl) ?_
  refine dn ?_
  refine hw_cond rfl (fun h1 => ?_) (fun h1 => ?_)
  · exfalso
    try simp at h1
    omega
  · try simp at h1
    refine hw_skip ?_
    refine seqQ_n ?_
    refine hw_reg ?_
    refine dp rfl (pop_move rfl) ?_
    refine dp rfl (pop_move rfl) ?_
    refine dp rfl (pop_move rfl) ?_
    refine dp rfl (pop_move rfl) ?_
    refine dp rfl (pop_sub64 rfl rfl (by omega) (by omega)) ?_
    refine dp rfl (pop_add64 rfl rfl (by omega) (by omega)) ?_
    first
    | refine de rfl (eop_callx (i := 0) ca41 rfl (WeakL.refl _) rfl (c_benchmake_Stream_Next (by first | assumption | omega | (simp; omega) | simp_all) (by first | assumption | omega | (simp; omega) | simp_all)) ?_)
    | refine de rfl (eop_callx (i := 1) ca41 rfl (WeakL.refl _) rfl (c_benchmake_Stream_Next (by first | assumption | omega | (simp; omega) | simp_all) (by first | assumption | omega | (simp; omega) | simp_all)) ?_)
    | refine de rfl (eop_callx (i := 2) ca41 rfl (WeakL.refl _) rfl (c_benchmake_Stream_Next (by first | assumption | omega | (simp; omega) | simp_all) (by first | assumption | omega | (simp; omega) | simp_all)) ?_)
    | refine de rfl (eop_callx (i := 3) ca41 rfl (WeakL.refl _) rfl (c_benchmake_Stream_Next (by first | assumption | omega | (simp; omega) | simp_all) (by first | assumption | omega | (simp; omega) | simp_all)) ?_)
    rintro _ _ ⟨y17, rfl, hy17, rfl⟩
    refine dp rfl (pop_add64 rfl rfl (by omega) (by omega)) ?_
    refine dp rfl (pop_assign rfl) ?_
    refine dn ?_
    refine hw_ret ?_
    exact ret_q rfl ⟨_, rfl, by omega, rfl⟩

/-- (*benchwarmer/benchmake.Stream).Flip -/
theorem c_benchmake_Stream_Flip {b : Nat} {l : List Int} {a : Nat} {n : Int} (ha : a ≤ 1000000) (hn : n ≤ 4000000000) : Con Tryz.prog 11 [pAt b, .int .i64 n] [St b l a] (fun x M' => ∃ y : Bool, x = .bool y ∧ M' = [St b l (a + 1)]) := by
  refine Con.of_body Tryz.func11 rfl Tryz.ntmps11 rfl rfl ?_
  refine hw_reg ?_
  refine dp rfl (pop_assign rfl) ?_
  refine dn ?_
  refine hw_reg ?_
  refine dp rfl (pop_move rfl) ?_
  refine dp rfl (pop_move rfl) ?_
  first
  | refine de rfl (eop_callx (i := 0) ca41 rfl (WeakL.refl _) rfl (c_benchmake_Stream_Next (by first | assumption | omega | (simp; omega) | simp_all) (by first | assumption | omega | (simp; omega) | simp_all)) ?_)
  | refine de rfl (eop_callx (i := 1) ca41 rfl (WeakL.refl _) rfl (c_benchmake_Stream_Next (by first | assumption | omega | (simp; omega) | simp_all) (by first | assumption | omega | (simp; omega) | simp_all)) ?_)
  | refine de rfl (eop_callx (i := 2) ca41 rfl (WeakL.refl _) rfl (c_benchmake_Stream_Next (by first | assumption | omega | (simp; omega) | simp_all) (by first | assumption | omega | (simp; omega) | simp_all)) ?_)
  | refine de rfl (eop_callx (i := 3) ca41 rfl (WeakL.refl _) rfl (c_benchmake_Stream_Next (by first | assumption | omega | (simp; omega) | simp_all) (by first | assumption | omega | (simp; omega) | simp_all)) ?_)
  rintro _ _ ⟨y7, rfl, hy7, rfl⟩
  refine dp rfl (pop_eql rfl rfl) ?_
  refine dp rfl (pop_assign rfl) ?_
  refine dn ?_
  refine hw_ret ?_
  exact ret_q rfl ⟨_, rfl, rfl⟩

/-- (*benchwarmer/benchmake.Stream).Pick -/
theorem c_benchmake_Stream_Pick {b : Nat} {l : List Int} {a : Nat} {L : List Int} (ha : a ≤ 1000000) (h0 : 0 < L.length) (h1 : L.length ≤ 1000000) : Con Tryz.prog 10 [pAt b, .slice 1 (L.map (.int .i64))] [St b l a] (fun x M' => ∃ y : Int, x = .int .i64 y ∧ y ∈ L ∧ M' = [St b l (a + 1)]) := by
  refine Con.of_body Tryz.func10 rfl Tryz.ntmps10 rfl rfl ?_
  refine hw_reg ?_
  refine dp rfl (pop_assign rfl) ?_
  refine dn ?_
  refine hw_reg ?_
  refine dp rfl (pop_move rfl) ?_
  refine dp rfl (pop_move rfl) ?_
  refine dp rfl (pop_move rfl) ?_
  refine dp rfl (pop_lenm ty22 rfl) ?_
  first
  | refine de rfl (eop_callx (i := 0) ca41 rfl (WeakL.refl _) rfl (c_benchmake_Stream_Next (by first | assumption | omega | (simp; omega) | simp_all) (by first | assumption | omega | (simp; omega) | simp_all)) ?_)
  | refine de rfl (eop_callx (i := 1) ca41 rfl (WeakL.refl _) rfl (c_benchmake_Stream_Next (by first | assumption | omega | (simp; omega) | simp_all) (by first | assumption | omega | (simp; omega) | simp_all)) ?_)
  | refine de rfl (eop_callx (i := 2) ca41 rfl (WeakL.refl _) rfl (c_benchmake_Stream_Next (by first | assumption | omega | (simp; omega) | simp_all) (by first | assumption | omega | (simp; omega) | simp_all)) ?_)
  | refine de rfl (eop_callx (i := 3) ca41 rfl (WeakL.refl _) rfl (c_benchmake_Stream_Next (by first | assumption | omega | (simp; omega) | simp_all) (by first | assumption | omega | (simp; omega) | simp_all)) ?_)
  rintro _ _ ⟨y9, rfl, hy9, rfl⟩
  obtain ⟨z, hz, hm⟩ := getI hy9 h0
  refine dp rfl (pop_idx (j := y9) (a := z) ty22 ty3 rfl rfl rfl hz) ?_
  refine dp rfl (pop_load ty3 rfl rfl rfl) ?_
  refine dp rfl (pop_assign rfl) ?_
  refine dn ?_
  refine hw_ret ?_
  exact ret_q rfl ⟨_, rfl, hm, rfl⟩

/-- (*benchwarmer/benchmake.Stream).Some -/
theorem c_benchmake_Stream_Some {b : Nat} {l : List Int} {a : Nat} {L : List Str} (ha : a ≤ 1000000) (h0 : 0 < L.length) (h1 : L.length ≤ 1000000) : Con Tryz.prog 43 [pAt b, eSs L] [St b l a] (fun x M' => ∃ y : Str, x = .str y ∧ y ∈ L ∧ M' = [St b l (a + 1)]) := by
  refine Con.of_body Tryz.func43 rfl Tryz.ntmps43 rfl rfl ?_
  refine hw_reg ?_
  refine dp rfl (pop_assign rfl) ?_
  refine dn ?_
  refine hw_reg ?_
  refine dp rfl (pop_move rfl) ?_
  refine dp rfl (pop_move rfl) ?_
  refine dp rfl (pop_move rfl) ?_
  refine dp rfl (pop_lenm ty26 rfl) ?_
  first
  | refine de rfl (eop_callx (i := 0) ca41 rfl (WeakL.refl _) rfl (c_benchmake_Stream_Next (by first | assumption | omega | (simp; omega) | simp_all) (by first | assumption | omega | (simp; omega) | simp_all)) ?_)
  | refine de rfl (eop_callx (i := 1) ca41 rfl (WeakL.refl _) rfl (c_benchmake_Stream_Next (by first | assumption | omega | (simp; omega) | simp_all) (by first | assumption | omega | (simp; omega) | simp_all)) ?_)
  | refine de rfl (eop_callx (i := 2) ca41 rfl (WeakL.refl _) rfl (c_benchmake_Stream_Next (by first | assumption | omega | (simp; omega) | simp_all) (by first | assumption | omega | (simp; omega) | simp_all)) ?_)
  | refine de rfl (eop_callx (i := 3) ca41 rfl (WeakL.refl _) rfl (c_benchmake_Stream_Next (by first | assumption | omega | (simp; omega) | simp_all) (by first | assumption | omega | (simp; omega) | simp_all)) ?_)
  rintro _ _ ⟨y9, rfl, hy9, rfl⟩
  obtain ⟨z, hz, hm⟩ := getS hy9 h0
  refine dp rfl (pop_idx (j := y9) (a := z) ty26 ty9 rfl rfl rfl hz) ?_
  refine dp rfl (pop_load ty9 rfl rfl rfl) ?_
  refine dp rfl (pop_assign rfl) ?_
  refine dn ?_
  refine hw_ret ?_
  exact ret_q rfl ⟨_, rfl, hm, rfl⟩

/-- (*benchwarmer/benchmake.Stream).Odd -/
theorem c_benchmake_Stream_Odd {b : Nat} {l : List Int} {a : Nat} {lo hi : Int} (ha : a ≤ 900000) (hlh : lo ≤ hi) (h0 : -1000000000 ≤ lo) (h1 : hi ≤ 1000000000) : Con Tryz.prog 44 [pAt b, .int .i64 lo, .int .i64 hi] [St b l a] (fun x M' => ∃ y : Int, x = .int .i64 y ∧ M' = [St b l (a + 2)]) := by
  refine Con.of_body Tryz.func44 rfl Tryz.ntmps44 rfl rfl ?_
  refine hw_reg ?_
  refine dp rfl (pop_assign rfl) ?_
  refine dn ?_
  refine hw_seq ?_
  refine hw_reg ?_
  refine dp rfl (pop_move rfl) ?_
  first
  | refine de rfl (eop_callx (i := 0) ca11 rfl (WeakL.refl _) rfl (c_benchmake_Stream_Flip (by first | assumption | omega | (simp; omega) | simp_all) (by first | assumption | omega | (simp; omega) | simp_all)) ?_)
  | refine de rfl (eop_callx (i := 1) ca11 rfl (WeakL.refl _) rfl (c_benchmake_Stream_Flip (by first | assumption | omega | (simp; omega) | simp_all) (by first | assumption | omega | (simp; omega) | simp_all)) ?_)
  | refine de rfl (eop_callx (i := 2) ca11 rfl (WeakL.refl _) rfl (c_benchmake_Stream_Flip (by first | assumption | omega | (simp; omega) | simp_all) (by first | assumption | omega | (simp; omega) | simp_all)) ?_)
  | refine de rfl (eop_callx (i := 3) ca11 rfl (WeakL.refl _) rfl (c_benchmake_Stream_Flip (by first | assumption | omega | (simp; omega) | simp_all) (by first | assumption | omega | (simp; omega) | simp_all)) ?_)
  rintro _ _ ⟨y8, rfl, rfl⟩
  refine dn ?_
  refine hw_cond rfl (fun h1 => ?_) (fun h2 => ?_)
  · try simp at h1
    refine hw_reg ?_
    refine dp rfl (pop_move rfl) ?_
    refine dp rfl (pop_move rfl) ?_
    refine dp rfl (pop_sub64 rfl rfl (by omega) (by omega)) ?_
    refine dp rfl (pop_move rfl) ?_
    refine dp rfl (pop_add64 rfl rfl (by omega) (by omega)) ?_
    refine dp rfl (pop_move rfl) ?_
    refine dp rfl (pop_move rfl) ?_
    refine dp rfl (pop_buildSlice (hs := [_, _, _, _, _, _]) ty22 ty3 rfl rfl (by decide) (by decide) rfl) ?_
    first
    | refine de rfl (eop_callx (i := 0) ca10 rfl (WeakL.refl _) rfl (c_benchmake_Stream_Pick (L := [_, _, _, _, _, _]) (by first | assumption | omega | (simp; omega) | simp_all) (by first | assumption | omega | (simp; omega) | simp_all) (by first | assumption | omega | (simp; omega) | simp_all)) ?_)
    | refine de rfl (eop_callx (i := 1) ca10 rfl (WeakL.refl _) rfl (c_benchmake_Stream_Pick (L := [_, _, _, _, _, _]) (by first | assumption | omega | (simp; omega) | simp_all) (by first | assumption | omega | (simp; omega) | simp_all) (by first | assumption | omega | (simp; omega) | simp_all)) ?_)
    | refine de rfl (eop_callx (i := 2) ca10 rfl (WeakL.refl _) rfl (c_benchmake_Stream_Pick (L := [_, _, _, _, _, _]) (by first | assumption | omega | (simp; omega) | simp_all) (by first | assumption | omega | (simp; omega) | simp_all) (by first | assumption | omega | (simp; omega) | simp_all)) ?_)
    | refine de rfl (eop_callx (i := 3) ca10 rfl (WeakL.refl _) rfl (c_benchmake_Stream_Pick (L := [_, _, _, _, _, _]) (by first | assumption | omega | (simp; omega) | simp_all) (by first | assumption | omega | (simp; omega) | simp_all) (by first | assumption | omega | (simp; omega) | simp_all)) ?_)
    rintro _ _ ⟨y17, rfl, hy17, rfl⟩
    refine dp rfl (pop_assign rfl) ?_
    refine dn ?_
    refine hw_ret ?_
    exact ret_q rfl ⟨_, rfl, rfl⟩
  · try simp at h2
    refine hw_skip ?_
    refine seqQ_n ?_
    refine hw_reg ?_
    refine dp rfl (pop_move rfl) ?_
    refine dp rfl (pop_move rfl) ?_
    refine dp rfl (pop_move rfl) ?_
    first
    | refine de rfl (eop_callx (i := 0) ca39 rfl (WeakL.refl _) rfl (c_benchmake_Stream_Range (by first | assumption | omega | (simp; omega) | simp_all) (by first | assumption | omega | (simp; omega) | simp_all) (by first | assumption | omega | (simp; omega) | simp_all) (by first | assumption | omega | (simp; omega) | simp_all)) ?_)
    | refine de rfl (eop_callx (i := 1) ca39 rfl (WeakL.refl _) rfl (c_benchmake_Stream_Range (by first | assumption | omega | (simp; omega) | simp_all) (by first | assumption | omega | (simp; omega) | simp_all) (by first | assumption | omega | (simp; omega) | simp_all) (by first | assumption | omega | (simp; omega) | simp_all)) ?_)
    | refine de rfl (eop_callx (i := 2) ca39 rfl (WeakL.refl _) rfl (c_benchmake_Stream_Range (by first | assumption | omega | (simp; omega) | simp_all) (by first | assumption | omega | (simp; omega) | simp_all) (by first | assumption | omega | (simp; omega) | simp_all) (by first | assumption | omega | (simp; omega) | simp_all)) ?_)
    | refine de rfl (eop_callx (i := 3) ca39 rfl (WeakL.refl _) rfl (c_benchmake_Stream_Range (by first | assumption | omega | (simp; omega) | simp_all) (by first | assumption | omega | (simp; omega) | simp_all) (by first | assumption | omega | (simp; omega) | simp_all) (by first | assumption | omega | (simp; omega) | simp_all)) ?_)
    rintro _ _ ⟨y21, rfl, hy21, rfl⟩
    refine dp rfl (pop_assign rfl) ?_
    refine dn ?_
    refine hw_ret ?_
    exact ret_q rfl ⟨_, rfl, rfl⟩
end Go.Proofs.YtoomadfbldcioaaGreatDoor
end
section
namespace Go.HL
variable {P : Program}
open Go.Sort Go.Proofs
section
variable {P : Program} {n : Nat} {e : Env} {M : List MObj} {Q : Exit → Env → List MObj → Prop} {c c' : Code}
def JoinG {ι : Type} (e : Env) (ks : List Nat) (W : ι → List (Nat × HVal)) (MM : ι → List MObj) (Iv : ι → Prop) (Q : Exit → Env → List MObj → Prop) : Exit → Env → List MObj → Prop
  | .normal, e', M => ∃ e2 M2, Ghost e' M e2 M2 ∧ ∃ j, Iv j ∧ HoldsW e2 (W j) ∧ Keeps ks e e2 ∧ M2.Perm (MM j)
  | x, e', M => Q x e' M
theorem hw_joing {ι : Type} (ks : List Nat) (W : ι → List (Nat × HVal)) (MM : ι → List MObj) (Iv : ι → Prop) (h1 : HWp P n c e M (JoinG e ks W MM Iv Q))
    (h2 : ∀ i, Iv i → HWp P n c' (loopE e ks (W i)) (MM i) Q) : HWp P n (.seq c c') e M Q := by
  refine hw_seq (hw_mono h1 ?_)
  intro x e1 M1 hq
  cases x with
  | normal =>
    obtain ⟨e2, M2, hg, j, a1, a2, a3, a4⟩ := hq
    exact hw_ghost (hg.trans ((Ghost.sub (Sub.loopE a2 a3)).trans (Ghost.perm a4))) (h2 j a1)
  | _ => exact hq
theorem joinG_x {ι : Type} {e0 : Env} {ks : List Nat} {W : ι → List (Nat × HVal)} {MM : ι → List MObj} {Iv : ι → Prop} {id : Nat} (h : Q (.exit id) e M) : JoinG e0 ks W MM Iv Q (.exit id) e M := h
theorem joinG_n {ι : Type} {e0 e2 : Env} {M2 : List MObj} {ks : List Nat} {W : ι → List (Nat × HVal)} {MM : ι → List MObj} {Iv : ι → Prop} (hg : Ghost e M e2 M2) (h : JoinG e0 ks W MM Iv Q .normal e2 M2) : JoinG e0 ks W MM Iv Q .normal e M := by
  obtain ⟨e3, M3, g, r⟩ := h
  exact ⟨e3, M3, hg.trans g, r⟩
theorem joinG_z {ι : Type} {e0 : Env} {ks : List Nat} {W : ι → List (Nat × HVal)} {MM : ι → List MObj} {Iv : ι → Prop} (j : ι) (h : Iv j) (hW : HoldsW e (W j)) (hk : Keeps ks e0 e) (hM : M.Perm (MM j)) : JoinG e0 ks W MM Iv Q .normal e M :=
  ⟨e, M, Ghost.sub (Sub.refl _), j, h, hW, hk, hM⟩
end
/-- Another view of the state within a region. -/
theorem dghost {P : Program} {ops : Array Oper} {n : Nat} {K : Env → List MObj → Prop} {rest : List Oper} {e : Env} {M M' : List MObj} (hm : M = M') (k : Der P ops n K rest e M') : Der P ops n K rest e M := hm ▸ k
/-- The header of an owned slice, with its capacity. -/
theorem hw_arrc {P : Program} {n : Nat} {e : Env} {M : List MObj} {c : Code} {Q : Exit → Env → List MObj → Prop} {i : Nat} {v : Value} {sz : Nat} {es : List HVal} (hm : M[i]? = some (.arr v sz es))
    (h0 : v = .slice none 0 0 → es = [] → HWp P n c e M Q) (h1 : ∀ b off cap, v = .slice (some ⟨b, off, none⟩) es.length cap → es.length ≤ cap → HWp P n c e M Q) : HWp P n c e M Q := fun I F a w a1 a2 a3 a4 => by
  rcases a4.obj _ (List.mem_append_left _ (List.mem_of_getElem? hm)) with ⟨g1, g2⟩ | ⟨b, off, cap, rc, el, fr, g1, _, _, _, g5, _⟩
  · exact h0 g1 g2 I F a w a1 a2 a3 a4
  · exact h1 b off cap g1 g5.1 I F a w a1 a2 a3 a4
theorem permTo {α : Type} {l r : List α} {x : α} (i : Nat) (h : l[i]? = some x) (hr : (l.eraseIdx i).Perm r) : l.Perm (x :: r) := (perm_erase h).trans (hr.cons x)
theorem permToE {α : Type} {l r : List α} {x y : α} (i : Nat) (h : l[i]? = some y) (hy : y = x) (hr : (l.eraseIdx i).Perm r) : l.Perm (x :: r) := hy ▸ permTo i h hr
/-- A function that cuts a slice of strings and hands it back; the long slice stays with its owner. -/
theorem con_rowk {P : Program} {f : FuncId} {l zs : List (List UInt8)} {b off cap : Nat} (hz : zs.length ≤ l.length)
    (h1 : ∀ (w : World), Holds encStr w b off l.toArray → b < w.heap.size → l.length ≤ cap → Calls P f #[.slice (some ⟨b, off, none⟩) l.length cap] w fun e w' => e = .returned (.slice (some ⟨b, off, none⟩) zs.length cap) ∧ ∃ n, w' = putRow encStr (Sort.ahead w n) b off (zs ++ List.replicate (l.length - zs.length) []).toArray) :
    Con P f [.raw (.slice (some ⟨b, off, none⟩) l.length cap)] [.arr (.slice (some ⟨b, off, none⟩) l.length cap) 1 (l.map .str)] fun x M' =>
      x = .raw (.slice (some ⟨b, off, none⟩) zs.length cap) ∧ M' = [.arr (.slice (some ⟨b, off, none⟩) l.length cap) 1 ((zs ++ List.replicate (l.length - zs.length) []).map .str)] := by
  intro I F w args ha hs
  obtain ⟨u, rfl, hu⟩ := ha.one
  obtain rfl := hu.raw_inv
  obtain ⟨g1, g2, g3, g4⟩ := holds_row hs
  refine (h1 w g1 g2 g3).mono ?_
  rintro _ w' ⟨rfl, n, rfl⟩
  refine ⟨_, .raw (.slice (some ⟨b, off, none⟩) zs.length cap), _, I, rfl, .refl I, ⟨rfl, rfl⟩, .raw _ rfl, ?_⟩
  have hlen : (zs ++ List.replicate (l.length - zs.length) []).length = l.length := by simp; omega
  have := sat_row (zs := zs ++ List.replicate (l.length - zs.length) []) (n' := l.length) (k := n) (os := #[]) hs hlen (Nat.le_refl _)
  rw [List.take_of_length_le (by omega), grow_empty] at this
  exact this
theorem VL.three {I : Imm} {h1 h2 h3 : HVal} {args : List Value} (hv : VL I [h1, h2, h3] args) : ∃ v1 v2 v3, args = [v1, v2, v3] ∧ V I h1 v1 ∧ V I h2 v2 ∧ V I h3 v3 := by
  obtain ⟨a, b⟩ := hv
  match args, a with
  | [v1, v2, v3], _ => exact ⟨v1, v2, v3, rfl, b 0 _ _ rfl rfl, b 1 _ _ rfl rfl, b 2 _ _ rfl rfl⟩
/-- The same with two numbers, of a slice that is not empty. -/
theorem con_rowd {P : Program} {f : FuncId} {l zs : List (List UInt8)} {v : Value} {i j : Int} (h0 : 0 < l.length) (hz : zs.length ≤ l.length)
    (h1 : ∀ (b off cap : Nat) (w : World), Holds encStr w b off l.toArray → l.length ≤ cap → cap ≤ 9223372036854775807 → Calls P f #[.slice (some ⟨b, off, none⟩) l.length cap, .int .i64 i, .int .i64 j] w fun e w' => e = .returned (.slice (some ⟨b, off, none⟩) zs.length cap) ∧ ∃ n, w' = putRow encStr (Sort.ahead w n) b off (zs ++ List.replicate (l.length - zs.length) []).toArray) :
    Con P f [.raw v, .int .i64 i, .int .i64 j] [.arr v 1 (l.map .str)] fun x M' => ∃ u, x = .raw u ∧ M' = [.arr u 1 (zs.map .str)] := by
  intro I F w args ha hs
  obtain ⟨u, v2, v3, rfl, hu, hu2, hu3⟩ := ha.three
  obtain rfl := hu.raw_inv
  obtain rfl := hu2.int_inv
  obtain rfl := hu3.int_inv
  rcases hs.obj (.arr u 1 (l.map .str)) (by simp) with ⟨rfl, hn⟩ | ⟨b, off, cap, rc, el, fr, rfl, _⟩
  · have hl : l = [] := by simpa using hn
    subst hl; simp at h0
  · rw [List.length_map] at hs ⊢
    obtain ⟨g1, g2, g3, g4⟩ := holds_row hs
    obtain ⟨_, _, _, _, _, _, _, g5, _⟩ := arr_some hs
    refine (h1 b off cap w g1 g3 g5.2).mono ?_
    rintro _ w' ⟨rfl, n, rfl⟩
    refine ⟨_, .raw (.slice (some ⟨b, off, none⟩) zs.length cap), _, I, rfl, .refl I, ⟨_, rfl, rfl⟩, .raw _ rfl, ?_⟩
    have := sat_row (zs := zs ++ List.replicate (l.length - zs.length) []) (n' := zs.length) (k := n) (os := #[]) hs (by simp; omega) hz
    rw [List.take_left' rfl, grow_empty] at this
    exact this
theorem conp_of_calls {P : Program} {f : FuncId} {hargs : List HVal} {h : HVal} (hc : ∀ (I : Imm) (w : World) (args : List Value), VL I hargs args → ∃ v, V I h v ∧ Calls P f args.toArray w fun e w' => e = .returned v ∧ w' = w) : ConP P f hargs h := by
  intro I F w args ha hs
  obtain ⟨v, hv, hcalls⟩ := hc I w args ha
  refine hcalls.mono ?_
  rintro _ w' ⟨rfl, rfl⟩
  exact ⟨v, h, [], I, rfl, .refl I, ⟨rfl, rfl⟩, hv, hs⟩
end Go.HL
end
section
namespace Go.HL
abbrev nilS : HVal := .raw (.slice none 0 0)
abbrev RoomC (b : Nat) (t : HVal) (R W : Int) (p : HVal) (C S : Int) : MObj := .cells b [t, .int .i64 R, .int .i64 W, p, .int .i64 C, .int .i64 S]
structure GoodRoom (r : Room) : Prop where
  t0 : 0 < r.Teams.length
  t4 : r.Teams.length ≤ 4
  p20 : r.Players.length ≤ 20
  p1 : 1 ≤ r.Players.length
  ts : ∀ s ∈ r.Teams, s.length ≤ 1000000
  ps : ∀ s ∈ r.Players, s.length ≤ 1000000
def team3 : List Str := [[116, 99], [116, 97], [116, 98]]
theorem team3_len : ∀ s ∈ team3, s.length ≤ 100 := by decide
theorem dec_len {i : Nat} (h : i < 100) : (Lib.decDigits i).length ≤ 10 := by
  have : (List.range 100).all (fun i => decide ((Lib.decDigits i).length ≤ 10)) = true := by kernel_rfl
  have := List.all_eq_true.1 this i (List.mem_range.2 h)
  simpa using this
theorem good_room {T Pl : List Str} {R W C S : Int} {k : Nat} (hT : 1 ≤ T.length ∧ T.length ≤ 3) (hP : Pl.length = k) (hk : 1 ≤ k ∧ k ≤ 19) (h1 : ∀ s ∈ T, s.length ≤ 100) (h2 : ∀ s ∈ Pl, s.length ≤ 100) : GoodRoom ⟨T, R, W, Pl, C, S⟩ :=
  ⟨by dsimp only; omega, by dsimp only; omega, by dsimp only; omega, by dsimp only; omega, fun s hs => by have := h1 s hs; omega, fun s hs => by have := h2 s hs; omega⟩
theorem good_roomT {T Pl : List Str} {R W C S : Int} {k : Nat} {y : Str} (hT : 1 ≤ T.length ∧ T.length ≤ 3) (hP : Pl.length = k) (hk : 1 ≤ k ∧ k ≤ 19) (h1 : ∀ s ∈ T, s.length ≤ 100) (h2 : ∀ s ∈ Pl, s.length ≤ 100) (hy : y.length ≤ 100) : GoodRoom ⟨T ++ [y], R, W, Pl, C, S⟩ :=
  ⟨by simp, by simp; omega, by dsimp only; omega, by dsimp only; omega, fun s hs => by
    rcases List.mem_append.1 hs with h | h
    · have := h1 s h; omega
    · simp at h; subst h; omega, fun s hs => by have := h2 s hs; omega⟩
theorem good_roomP {T Pl : List Str} {R W C S : Int} {k : Nat} {y : Str} (hT : 1 ≤ T.length ∧ T.length ≤ 3) (hP : Pl.length = k) (hk : k ≤ 19) (h1 : ∀ s ∈ T, s.length ≤ 100) (h2 : ∀ s ∈ Pl, s.length ≤ 100) (hy : y.length ≤ 100) : GoodRoom ⟨T, R, W, Pl ++ [y], C, S⟩ :=
  ⟨by dsimp only; omega, by dsimp only; omega, by simp; omega, by simp, fun s hs => by have := h1 s hs; omega, fun s hs => by
    rcases List.mem_append.1 hs with h | h
    · have := h2 s h; omega
    · simp at h; subst h; omega⟩
end Go.HL
end
section
namespace Go.Proofs.YtoomadfbldcioaaGreatDoor
open Go.HL
set_option maxRecDepth 100000
set_option linter.unusedVariables false
set_option linter.unusedSimpArgs false
/-- strconv.Itoa of a small number -/
theorem c_strconv_Itoa {i : Nat} (hi : i < 100) : ConP Tryz.prog 40 [.int .i64 (i : Int)] (.str (Lib.decDigits i)) :=
  conp_of_calls fun I w args ha => by
    obtain ⟨u, rfl, hu⟩ := ha.one
    obtain rfl := hu.int_inv
    exact ⟨_, .str _, Any.strconv_Itoa_small Tryz.lays171 i hi w⟩

set_option maxHeartbeats 2000000 in
/-- (*benchwarmer/benchmake.Stream).RoomOf -/
theorem c_benchmake_Stream_RoomOf {b : Nat} {l : List Int} {a : Nat}  (ha : a ≤ 800000) : Con Tryz.prog 5 [pAt b] [St b l a] (fun x M' => ∃ r a', x = eRoom r ∧ GoodRoom r ∧ a' ≤ a + 20 ∧ M' = [St b l a']) := by
  refine Con.of_bodyc Tryz.func5 rfl Tryz.ntmps5 rfl rfl ?_
  refine hw_reg ?_
  refine de rfl (eop_alloc ty28 rfl fun b2 => ?_)
  refine dn ?_
  refine hw_join [3, 5, 6, 7, 8, 9, 10, 11, 12, 13, 14, 15, 16, 17, 18, 19] (fun (q : Nat × List Str × Int × Int × Int × Int) => [(3, pAt q.1)]) (fun (q : Nat × List Str × Int × Int × Int × Int) => [RoomC q.1 (eSs q.2.1) q.2.2.1 q.2.2.2.1 nilS q.2.2.2.2.1 q.2.2.2.2.2, RoomC b2 nilS 0 0 nilS 0 0, St b l (a + 5)]) (fun (q : Nat × List Str × Int × Int × Int × Int) => (1 ≤ q.2.1.length ∧ q.2.1.length ≤ 3) ∧ (1 ≤ q.2.2.1 ∧ q.2.2.1 ≤ 4) ∧ ∀ s ∈ q.2.1, s.length ≤ 100) ?_ ?_
  · skip
    refine hw_draw1 (fun _ => True) [] mixed ?_
    refine ahp 0 rfl rfl (by kernel_rfl) (by kernel_rfl) (pop_buildSlice (hs := [_, _, _]) ty26 ty9 rfl rfl (by decide) (by decide) rfl) ?_
    refine ahp 1 rfl rfl (by kernel_rfl) (by kernel_rfl) (pop_move rfl) ?_
    refine ahp 4 rfl rfl (by kernel_rfl) (by kernel_rfl) (pop_move rfl) ?_
    refine ahp 6 rfl rfl (by kernel_rfl) (by kernel_rfl) (pop_move rfl) ?_
    refine ahp 8 rfl rfl (by kernel_rfl) (by kernel_rfl) (pop_move rfl) ?_
    refine ahp 9 rfl rfl (by kernel_rfl) (by kernel_rfl) (pop_buildSlice (hs := [_, _]) ty22 ty3 rfl rfl (by decide) (by decide) rfl) ?_
    refine ahp 11 rfl rfl (by kernel_rfl) (by kernel_rfl) (pop_move rfl) ?_
    refine ahp 12 rfl rfl (by kernel_rfl) (by kernel_rfl) (pop_buildSlice (hs := [_, _, _]) ty22 ty3 rfl rfl (by decide) (by decide) rfl) ?_
    refine ahe2 2 15 rfl rfl (by kernel_rfl) ?_ ?_
    · skip
      first
      | refine hop_e rfl (eop_callx (i := 0) ca39 rfl (WeakL.refl _) rfl (c_benchmake_Stream_Range (by first | assumption | omega | (simp; omega) | simp_all) (by first | assumption | omega | (simp; omega) | simp_all) (by first | assumption | omega | (simp; omega) | simp_all) (by first | assumption | omega | (simp; omega) | simp_all)) ?_)
      | refine hop_e rfl (eop_callx (i := 1) ca39 rfl (WeakL.refl _) rfl (c_benchmake_Stream_Range (by first | assumption | omega | (simp; omega) | simp_all) (by first | assumption | omega | (simp; omega) | simp_all) (by first | assumption | omega | (simp; omega) | simp_all) (by first | assumption | omega | (simp; omega) | simp_all)) ?_)
      | refine hop_e rfl (eop_callx (i := 2) ca39 rfl (WeakL.refl _) rfl (c_benchmake_Stream_Range (by first | assumption | omega | (simp; omega) | simp_all) (by first | assumption | omega | (simp; omega) | simp_all) (by first | assumption | omega | (simp; omega) | simp_all) (by first | assumption | omega | (simp; omega) | simp_all)) ?_)
      | refine hop_e rfl (eop_callx (i := 3) ca39 rfl (WeakL.refl _) rfl (c_benchmake_Stream_Range (by first | assumption | omega | (simp; omega) | simp_all) (by first | assumption | omega | (simp; omega) | simp_all) (by first | assumption | omega | (simp; omega) | simp_all) (by first | assumption | omega | (simp; omega) | simp_all)) ?_)
      rintro _ _ ⟨y7, rfl, hy7, rfl⟩
      refine ⟨fun _ => .inl trivial, ?_⟩
      refine ahp 3 rfl rfl (by kernel_rfl) (by kernel_rfl) (pop_slicem (es := team3) (f := HVal.str) (h := y7.toNat) ty26 ty9 rfl rfl ⟨_, _, rfl, by omega⟩ (by omega) (by simp [team3]; omega)) ?_
      refine ahe2 5 15 rfl rfl (by kernel_rfl) ?_ ?_
      · skip
        first
        | refine hop_e rfl (eop_callx (i := 0) ca39 rfl (WeakL.refl _) rfl (c_benchmake_Stream_Range (by first | assumption | omega | (simp; omega) | simp_all) (by first | assumption | omega | (simp; omega) | simp_all) (by first | assumption | omega | (simp; omega) | simp_all) (by first | assumption | omega | (simp; omega) | simp_all)) ?_)
        | refine hop_e rfl (eop_callx (i := 1) ca39 rfl (WeakL.refl _) rfl (c_benchmake_Stream_Range (by first | assumption | omega | (simp; omega) | simp_all) (by first | assumption | omega | (simp; omega) | simp_all) (by first | assumption | omega | (simp; omega) | simp_all) (by first | assumption | omega | (simp; omega) | simp_all)) ?_)
        | refine hop_e rfl (eop_callx (i := 2) ca39 rfl (WeakL.refl _) rfl (c_benchmake_Stream_Range (by first | assumption | omega | (simp; omega) | simp_all) (by first | assumption | omega | (simp; omega) | simp_all) (by first | assumption | omega | (simp; omega) | simp_all) (by first | assumption | omega | (simp; omega) | simp_all)) ?_)
        | refine hop_e rfl (eop_callx (i := 3) ca39 rfl (WeakL.refl _) rfl (c_benchmake_Stream_Range (by first | assumption | omega | (simp; omega) | simp_all) (by first | assumption | omega | (simp; omega) | simp_all) (by first | assumption | omega | (simp; omega) | simp_all) (by first | assumption | omega | (simp; omega) | simp_all)) ?_)
        rintro _ _ ⟨y10, rfl, hy10, rfl⟩
        refine ⟨fun _ => .inl trivial, ?_⟩
        refine ahe2 7 15 rfl rfl (by kernel_rfl) ?_ ?_
        · skip
          first
          | refine hop_e rfl (eop_callx (i := 0) ca39 rfl (WeakL.refl _) rfl (c_benchmake_Stream_Range (by first | assumption | omega | (simp; omega) | simp_all) (by first | assumption | omega | (simp; omega) | simp_all) (by first | assumption | omega | (simp; omega) | simp_all) (by first | assumption | omega | (simp; omega) | simp_all)) ?_)
          | refine hop_e rfl (eop_callx (i := 1) ca39 rfl (WeakL.refl _) rfl (c_benchmake_Stream_Range (by first | assumption | omega | (simp; omega) | simp_all) (by first | assumption | omega | (simp; omega) | simp_all) (by first | assumption | omega | (simp; omega) | simp_all) (by first | assumption | omega | (simp; omega) | simp_all)) ?_)
          | refine hop_e rfl (eop_callx (i := 2) ca39 rfl (WeakL.refl _) rfl (c_benchmake_Stream_Range (by first | assumption | omega | (simp; omega) | simp_all) (by first | assumption | omega | (simp; omega) | simp_all) (by first | assumption | omega | (simp; omega) | simp_all) (by first | assumption | omega | (simp; omega) | simp_all)) ?_)
          | refine hop_e rfl (eop_callx (i := 3) ca39 rfl (WeakL.refl _) rfl (c_benchmake_Stream_Range (by first | assumption | omega | (simp; omega) | simp_all) (by first | assumption | omega | (simp; omega) | simp_all) (by first | assumption | omega | (simp; omega) | simp_all) (by first | assumption | omega | (simp; omega) | simp_all)) ?_)
          rintro _ _ ⟨y12, rfl, hy12, rfl⟩
          refine ⟨fun _ => .inl trivial, ?_⟩
          refine ahe2 10 15 rfl rfl (by kernel_rfl) ?_ ?_
          · skip
            first
            | refine hop_e rfl (eop_callx (i := 0) ca10 rfl (WeakL.refl _) rfl (c_benchmake_Stream_Pick (L := [_, _]) (by first | assumption | omega | (simp; omega) | simp_all) (by first | assumption | omega | (simp; omega) | simp_all) (by first | assumption | omega | (simp; omega) | simp_all)) ?_)
            | refine hop_e rfl (eop_callx (i := 1) ca10 rfl (WeakL.refl _) rfl (c_benchmake_Stream_Pick (L := [_, _]) (by first | assumption | omega | (simp; omega) | simp_all) (by first | assumption | omega | (simp; omega) | simp_all) (by first | assumption | omega | (simp; omega) | simp_all)) ?_)
            | refine hop_e rfl (eop_callx (i := 2) ca10 rfl (WeakL.refl _) rfl (c_benchmake_Stream_Pick (L := [_, _]) (by first | assumption | omega | (simp; omega) | simp_all) (by first | assumption | omega | (simp; omega) | simp_all) (by first | assumption | omega | (simp; omega) | simp_all)) ?_)
            | refine hop_e rfl (eop_callx (i := 3) ca10 rfl (WeakL.refl _) rfl (c_benchmake_Stream_Pick (L := [_, _]) (by first | assumption | omega | (simp; omega) | simp_all) (by first | assumption | omega | (simp; omega) | simp_all) (by first | assumption | omega | (simp; omega) | simp_all)) ?_)
            rintro _ _ ⟨y15, rfl, hy15, rfl⟩
            refine ⟨fun _ => .inl trivial, ?_⟩
            refine ahe2 13 15 rfl rfl (by kernel_rfl) ?_ ?_
            · skip
              first
              | refine hop_e rfl (eop_callx (i := 0) ca10 rfl (WeakL.refl _) rfl (c_benchmake_Stream_Pick (L := [_, _, _]) (by first | assumption | omega | (simp; omega) | simp_all) (by first | assumption | omega | (simp; omega) | simp_all) (by first | assumption | omega | (simp; omega) | simp_all)) ?_)
              | refine hop_e rfl (eop_callx (i := 1) ca10 rfl (WeakL.refl _) rfl (c_benchmake_Stream_Pick (L := [_, _, _]) (by first | assumption | omega | (simp; omega) | simp_all) (by first | assumption | omega | (simp; omega) | simp_all) (by first | assumption | omega | (simp; omega) | simp_all)) ?_)
              | refine hop_e rfl (eop_callx (i := 2) ca10 rfl (WeakL.refl _) rfl (c_benchmake_Stream_Pick (L := [_, _, _]) (by first | assumption | omega | (simp; omega) | simp_all) (by first | assumption | omega | (simp; omega) | simp_all) (by first | assumption | omega | (simp; omega) | simp_all)) ?_)
              | refine hop_e rfl (eop_callx (i := 3) ca10 rfl (WeakL.refl _) rfl (c_benchmake_Stream_Pick (L := [_, _, _]) (by first | assumption | omega | (simp; omega) | simp_all) (by first | assumption | omega | (simp; omega) | simp_all) (by first | assumption | omega | (simp; omega) | simp_all)) ?_)
              rintro _ _ ⟨y18, rfl, hy18, rfl⟩
              refine ⟨fun _ => .inl trivial, ?_⟩
              refine ahp 14 rfl rfl (by kernel_rfl) (by kernel_rfl) (pop_build (cs := [_, _, _, _, _, _]) ty28 pl28 rfl) ?_
              refine ahe 15 rfl (by kernel_rfl) ?_
              refine hop_e rfl (eop_alloc ty28 rfl fun b3 => ?_)
              refine ⟨fun _ => .inl trivial, ?_⟩
              refine ahe 16 rfl (by kernel_rfl) ?_
              first
              | refine hop_e0 (eop_store (i := 0) ty28 rfl rfl rfl rfl rfl (Nat.le_of_ble_eq_true rfl) ?_)
              | refine hop_e0 (eop_store (i := 1) ty28 rfl rfl rfl rfl rfl (Nat.le_of_ble_eq_true rfl) ?_)
              | refine hop_e0 (eop_store (i := 2) ty28 rfl rfl rfl rfl rfl (Nat.le_of_ble_eq_true rfl) ?_)
              | refine hop_e0 (eop_store (i := 3) ty28 rfl rfl rfl rfl rfl (Nat.le_of_ble_eq_true rfl) ?_)
              refine ⟨fun _ => .inl trivial, ?_⟩
              refine ahz (by kernel_rfl) ?_
              refine ⟨(b3, (team3.take y7.toNat).drop 0, y10, y12, y15, y18), ?_, ⟨rfl, trivial⟩, (by repeat (first | exact keeps_refl | refine keeps_upd rfl ?_ | refine keeps_loop rfl rfl ?_)), ?_⟩
              · refine ⟨by simp [team3]; omega, by dsimp only; omega, fun s hs => ?_⟩
                exact team3_len s (List.mem_of_mem_take hs)
              · repeat (first | exact List.Perm.nil | refine permTo 0 rfl ?_ | refine permTo 1 rfl ?_ | refine permTo 2 rfl ?_ | refine permTo 3 rfl ?_ | (refine permToE 0 rfl ?hq ?_; (case hq => simp [setL, hcells]; done)) | (refine permToE 1 rfl ?hq ?_; (case hq => simp [setL, hcells]; done)) | (refine permToE 2 rfl ?hq ?_; (case hq => simp [setL, hcells]; done)) | (refine permToE 3 rfl ?hq ?_; (case hq => simp [setL, hcells]; done)) | fail)
            · skip
              refine hop_e rfl (eop_alloc ty28 rfl fun b3 => ?_)
              refine ⟨fun _ => .inl trivial, ?_⟩
              refine ahe 13 rfl (by kernel_rfl) ?_
              first
              | refine hop_e rfl (eop_callx (i := 0) ca10 rfl (WeakL.refl _) rfl (c_benchmake_Stream_Pick (L := [_, _, _]) (by first | assumption | omega | (simp; omega) | simp_all) (by first | assumption | omega | (simp; omega) | simp_all) (by first | assumption | omega | (simp; omega) | simp_all)) ?_)
              | refine hop_e rfl (eop_callx (i := 1) ca10 rfl (WeakL.refl _) rfl (c_benchmake_Stream_Pick (L := [_, _, _]) (by first | assumption | omega | (simp; omega) | simp_all) (by first | assumption | omega | (simp; omega) | simp_all) (by first | assumption | omega | (simp; omega) | simp_all)) ?_)
              | refine hop_e rfl (eop_callx (i := 2) ca10 rfl (WeakL.refl _) rfl (c_benchmake_Stream_Pick (L := [_, _, _]) (by first | assumption | omega | (simp; omega) | simp_all) (by first | assumption | omega | (simp; omega) | simp_all) (by first | assumption | omega | (simp; omega) | simp_all)) ?_)
              | refine hop_e rfl (eop_callx (i := 3) ca10 rfl (WeakL.refl _) rfl (c_benchmake_Stream_Pick (L := [_, _, _]) (by first | assumption | omega | (simp; omega) | simp_all) (by first | assumption | omega | (simp; omega) | simp_all) (by first | assumption | omega | (simp; omega) | simp_all)) ?_)
              rintro _ _ ⟨y18, rfl, hy18, rfl⟩
              refine ⟨fun _ => .inl trivial, ?_⟩
              refine ahp 14 rfl rfl (by kernel_rfl) (by kernel_rfl) (pop_build (cs := [_, _, _, _, _, _]) ty28 pl28 rfl) ?_
              refine ahe 16 rfl (by kernel_rfl) ?_
              first
              | refine hop_e0 (eop_store (i := 0) ty28 rfl rfl rfl rfl rfl (Nat.le_of_ble_eq_true rfl) ?_)
              | refine hop_e0 (eop_store (i := 1) ty28 rfl rfl rfl rfl rfl (Nat.le_of_ble_eq_true rfl) ?_)
              | refine hop_e0 (eop_store (i := 2) ty28 rfl rfl rfl rfl rfl (Nat.le_of_ble_eq_true rfl) ?_)
              | refine hop_e0 (eop_store (i := 3) ty28 rfl rfl rfl rfl rfl (Nat.le_of_ble_eq_true rfl) ?_)
              refine ⟨fun _ => .inl trivial, ?_⟩
              refine ahz (by kernel_rfl) ?_
              refine ⟨(b3, (team3.take y7.toNat).drop 0, y10, y12, y15, y18), ?_, ⟨rfl, trivial⟩, (by repeat (first | exact keeps_refl | refine keeps_upd rfl ?_ | refine keeps_loop rfl rfl ?_)), ?_⟩
              · refine ⟨by simp [team3]; omega, by dsimp only; omega, fun s hs => ?_⟩
                exact team3_len s (List.mem_of_mem_take hs)
              · repeat (first | exact List.Perm.nil | refine permTo 0 rfl ?_ | refine permTo 1 rfl ?_ | refine permTo 2 rfl ?_ | refine permTo 3 rfl ?_ | (refine permToE 0 rfl ?hq ?_; (case hq => simp [setL, hcells]; done)) | (refine permToE 1 rfl ?hq ?_; (case hq => simp [setL, hcells]; done)) | (refine permToE 2 rfl ?hq ?_; (case hq => simp [setL, hcells]; done)) | (refine permToE 3 rfl ?hq ?_; (case hq => simp [setL, hcells]; done)) | fail)
          · skip
            refine hop_e rfl (eop_alloc ty28 rfl fun b3 => ?_)
            refine ⟨fun _ => .inl trivial, ?_⟩
            refine ahe 10 rfl (by kernel_rfl) ?_
            first
            | refine hop_e rfl (eop_callx (i := 0) ca10 rfl (WeakL.refl _) rfl (c_benchmake_Stream_Pick (L := [_, _]) (by first | assumption | omega | (simp; omega) | simp_all) (by first | assumption | omega | (simp; omega) | simp_all) (by first | assumption | omega | (simp; omega) | simp_all)) ?_)
            | refine hop_e rfl (eop_callx (i := 1) ca10 rfl (WeakL.refl _) rfl (c_benchmake_Stream_Pick (L := [_, _]) (by first | assumption | omega | (simp; omega) | simp_all) (by first | assumption | omega | (simp; omega) | simp_all) (by first | assumption | omega | (simp; omega) | simp_all)) ?_)
            | refine hop_e rfl (eop_callx (i := 2) ca10 rfl (WeakL.refl _) rfl (c_benchmake_Stream_Pick (L := [_, _]) (by first | assumption | omega | (simp; omega) | simp_all) (by first | assumption | omega | (simp; omega) | simp_all) (by first | assumption | omega | (simp; omega) | simp_all)) ?_)
            | refine hop_e rfl (eop_callx (i := 3) ca10 rfl (WeakL.refl _) rfl (c_benchmake_Stream_Pick (L := [_, _]) (by first | assumption | omega | (simp; omega) | simp_all) (by first | assumption | omega | (simp; omega) | simp_all) (by first | assumption | omega | (simp; omega) | simp_all)) ?_)
            rintro _ _ ⟨y15, rfl, hy15, rfl⟩
            refine ⟨fun _ => .inl trivial, ?_⟩
            refine ahe 13 rfl (by kernel_rfl) ?_
            first
            | refine hop_e rfl (eop_callx (i := 0) ca10 rfl (WeakL.refl _) rfl (c_benchmake_Stream_Pick (L := [_, _, _]) (by first | assumption | omega | (simp; omega) | simp_all) (by first | assumption | omega | (simp; omega) | simp_all) (by first | assumption | omega | (simp; omega) | simp_all)) ?_)
            | refine hop_e rfl (eop_callx (i := 1) ca10 rfl (WeakL.refl _) rfl (c_benchmake_Stream_Pick (L := [_, _, _]) (by first | assumption | omega | (simp; omega) | simp_all) (by first | assumption | omega | (simp; omega) | simp_all) (by first | assumption | omega | (simp; omega) | simp_all)) ?_)
            | refine hop_e rfl (eop_callx (i := 2) ca10 rfl (WeakL.refl _) rfl (c_benchmake_Stream_Pick (L := [_, _, _]) (by first | assumption | omega | (simp; omega) | simp_all) (by first | assumption | omega | (simp; omega) | simp_all) (by first | assumption | omega | (simp; omega) | simp_all)) ?_)
            | refine hop_e rfl (eop_callx (i := 3) ca10 rfl (WeakL.refl _) rfl (c_benchmake_Stream_Pick (L := [_, _, _]) (by first | assumption | omega | (simp; omega) | simp_all) (by first | assumption | omega | (simp; omega) | simp_all) (by first | assumption | omega | (simp; omega) | simp_all)) ?_)
            rintro _ _ ⟨y18, rfl, hy18, rfl⟩
            refine ⟨fun _ => .inl trivial, ?_⟩
            refine ahp 14 rfl rfl (by kernel_rfl) (by kernel_rfl) (pop_build (cs := [_, _, _, _, _, _]) ty28 pl28 rfl) ?_
            refine ahe 16 rfl (by kernel_rfl) ?_
            first
            | refine hop_e0 (eop_store (i := 0) ty28 rfl rfl rfl rfl rfl (Nat.le_of_ble_eq_true rfl) ?_)
            | refine hop_e0 (eop_store (i := 1) ty28 rfl rfl rfl rfl rfl (Nat.le_of_ble_eq_true rfl) ?_)
            | refine hop_e0 (eop_store (i := 2) ty28 rfl rfl rfl rfl rfl (Nat.le_of_ble_eq_true rfl) ?_)
            | refine hop_e0 (eop_store (i := 3) ty28 rfl rfl rfl rfl rfl (Nat.le_of_ble_eq_true rfl) ?_)
            refine ⟨fun _ => .inl trivial, ?_⟩
            refine ahz (by kernel_rfl) ?_
            refine ⟨(b3, (team3.take y7.toNat).drop 0, y10, y12, y15, y18), ?_, ⟨rfl, trivial⟩, (by repeat (first | exact keeps_refl | refine keeps_upd rfl ?_ | refine keeps_loop rfl rfl ?_)), ?_⟩
            · refine ⟨by simp [team3]; omega, by dsimp only; omega, fun s hs => ?_⟩
              exact team3_len s (List.mem_of_mem_take hs)
            · repeat (first | exact List.Perm.nil | refine permTo 0 rfl ?_ | refine permTo 1 rfl ?_ | refine permTo 2 rfl ?_ | refine permTo 3 rfl ?_ | (refine permToE 0 rfl ?hq ?_; (case hq => simp [setL, hcells]; done)) | (refine permToE 1 rfl ?hq ?_; (case hq => simp [setL, hcells]; done)) | (refine permToE 2 rfl ?hq ?_; (case hq => simp [setL, hcells]; done)) | (refine permToE 3 rfl ?hq ?_; (case hq => simp [setL, hcells]; done)) | fail)
        · skip
          refine hop_e rfl (eop_alloc ty28 rfl fun b3 => ?_)
          refine ⟨fun _ => .inl trivial, ?_⟩
          refine ahe 7 rfl (by kernel_rfl) ?_
          first
          | refine hop_e rfl (eop_callx (i := 0) ca39 rfl (WeakL.refl _) rfl (c_benchmake_Stream_Range (by first | assumption | omega | (simp; omega) | simp_all) (by first | assumption | omega | (simp; omega) | simp_all) (by first | assumption | omega | (simp; omega) | simp_all) (by first | assumption | omega | (simp; omega) | simp_all)) ?_)
          | refine hop_e rfl (eop_callx (i := 1) ca39 rfl (WeakL.refl _) rfl (c_benchmake_Stream_Range (by first | assumption | omega | (simp; omega) | simp_all) (by first | assumption | omega | (simp; omega) | simp_all) (by first | assumption | omega | (simp; omega) | simp_all) (by first | assumption | omega | (simp; omega) | simp_all)) ?_)
          | refine hop_e rfl (eop_callx (i := 2) ca39 rfl (WeakL.refl _) rfl (c_benchmake_Stream_Range (by first | assumption | omega | (simp; omega) | simp_all) (by first | assumption | omega | (simp; omega) | simp_all) (by first | assumption | omega | (simp; omega) | simp_all) (by first | assumption | omega | (simp; omega) | simp_all)) ?_)
          | refine hop_e rfl (eop_callx (i := 3) ca39 rfl (WeakL.refl _) rfl (c_benchmake_Stream_Range (by first | assumption | omega | (simp; omega) | simp_all) (by first | assumption | omega | (simp; omega) | simp_all) (by first | assumption | omega | (simp; omega) | simp_all) (by first | assumption | omega | (simp; omega) | simp_all)) ?_)
          rintro _ _ ⟨y12, rfl, hy12, rfl⟩
          refine ⟨fun _ => .inl trivial, ?_⟩
          refine ahe 10 rfl (by kernel_rfl) ?_
          first
          | refine hop_e rfl (eop_callx (i := 0) ca10 rfl (WeakL.refl _) rfl (c_benchmake_Stream_Pick (L := [_, _]) (by first | assumption | omega | (simp; omega) | simp_all) (by first | assumption | omega | (simp; omega) | simp_all) (by first | assumption | omega | (simp; omega) | simp_all)) ?_)
          | refine hop_e rfl (eop_callx (i := 1) ca10 rfl (WeakL.refl _) rfl (c_benchmake_Stream_Pick (L := [_, _]) (by first | assumption | omega | (simp; omega) | simp_all) (by first | assumption | omega | (simp; omega) | simp_all) (by first | assumption | omega | (simp; omega) | simp_all)) ?_)
          | refine hop_e rfl (eop_callx (i := 2) ca10 rfl (WeakL.refl _) rfl (c_benchmake_Stream_Pick (L := [_, _]) (by first | assumption | omega | (simp; omega) | simp_all) (by first | assumption | omega | (simp; omega) | simp_all) (by first | assumption | omega | (simp; omega) | simp_all)) ?_)
          | refine hop_e rfl (eop_callx (i := 3) ca10 rfl (WeakL.refl _) rfl (c_benchmake_Stream_Pick (L := [_, _]) (by first | assumption | omega | (simp; omega) | simp_all) (by first | assumption | omega | (simp; omega) | simp_all) (by first | assumption | omega | (simp; omega) | simp_all)) ?_)
          rintro _ _ ⟨y15, rfl, hy15, rfl⟩
          refine ⟨fun _ => .inl trivial, ?_⟩
          refine ahe 13 rfl (by kernel_rfl) ?_
          first
          | refine hop_e rfl (eop_callx (i := 0) ca10 rfl (WeakL.refl _) rfl (c_benchmake_Stream_Pick (L := [_, _, _]) (by first | assumption | omega | (simp; omega) | simp_all) (by first | assumption | omega | (simp; omega) | simp_all) (by first | assumption | omega | (simp; omega) | simp_all)) ?_)
          | refine hop_e rfl (eop_callx (i := 1) ca10 rfl (WeakL.refl _) rfl (c_benchmake_Stream_Pick (L := [_, _, _]) (by first | assumption | omega | (simp; omega) | simp_all) (by first | assumption | omega | (simp; omega) | simp_all) (by first | assumption | omega | (simp; omega) | simp_all)) ?_)
          | refine hop_e rfl (eop_callx (i := 2) ca10 rfl (WeakL.refl _) rfl (c_benchmake_Stream_Pick (L := [_, _, _]) (by first | assumption | omega | (simp; omega) | simp_all) (by first | assumption | omega | (simp; omega) | simp_all) (by first | assumption | omega | (simp; omega) | simp_all)) ?_)
          | refine hop_e rfl (eop_callx (i := 3) ca10 rfl (WeakL.refl _) rfl (c_benchmake_Stream_Pick (L := [_, _, _]) (by first | assumption | omega | (simp; omega) | simp_all) (by first | assumption | omega | (simp; omega) | simp_all) (by first | assumption | omega | (simp; omega) | simp_all)) ?_)
          rintro _ _ ⟨y18, rfl, hy18, rfl⟩
          refine ⟨fun _ => .inl trivial, ?_⟩
          refine ahp 14 rfl rfl (by kernel_rfl) (by kernel_rfl) (pop_build (cs := [_, _, _, _, _, _]) ty28 pl28 rfl) ?_
          refine ahe 16 rfl (by kernel_rfl) ?_
          first
          | refine hop_e0 (eop_store (i := 0) ty28 rfl rfl rfl rfl rfl (Nat.le_of_ble_eq_true rfl) ?_)
          | refine hop_e0 (eop_store (i := 1) ty28 rfl rfl rfl rfl rfl (Nat.le_of_ble_eq_true rfl) ?_)
          | refine hop_e0 (eop_store (i := 2) ty28 rfl rfl rfl rfl rfl (Nat.le_of_ble_eq_true rfl) ?_)
          | refine hop_e0 (eop_store (i := 3) ty28 rfl rfl rfl rfl rfl (Nat.le_of_ble_eq_true rfl) ?_)
          refine ⟨fun _ => .inl trivial, ?_⟩
          refine ahz (by kernel_rfl) ?_
          refine ⟨(b3, (team3.take y7.toNat).drop 0, y10, y12, y15, y18), ?_, ⟨rfl, trivial⟩, (by repeat (first | exact keeps_refl | refine keeps_upd rfl ?_ | refine keeps_loop rfl rfl ?_)), ?_⟩
          · refine ⟨by simp [team3]; omega, by dsimp only; omega, fun s hs => ?_⟩
            exact team3_len s (List.mem_of_mem_take hs)
          · repeat (first | exact List.Perm.nil | refine permTo 0 rfl ?_ | refine permTo 1 rfl ?_ | refine permTo 2 rfl ?_ | refine permTo 3 rfl ?_ | (refine permToE 0 rfl ?hq ?_; (case hq => simp [setL, hcells]; done)) | (refine permToE 1 rfl ?hq ?_; (case hq => simp [setL, hcells]; done)) | (refine permToE 2 rfl ?hq ?_; (case hq => simp [setL, hcells]; done)) | (refine permToE 3 rfl ?hq ?_; (case hq => simp [setL, hcells]; done)) | fail)
      · skip
        refine hop_e rfl (eop_alloc ty28 rfl fun b3 => ?_)
        refine ⟨fun _ => .inl trivial, ?_⟩
        refine ahe 5 rfl (by kernel_rfl) ?_
        first
        | refine hop_e rfl (eop_callx (i := 0) ca39 rfl (WeakL.refl _) rfl (c_benchmake_Stream_Range (by first | assumption | omega | (simp; omega) | simp_all) (by first | assumption | omega | (simp; omega) | simp_all) (by first | assumption | omega | (simp; omega) | simp_all) (by first | assumption | omega | (simp; omega) | simp_all)) ?_)
        | refine hop_e rfl (eop_callx (i := 1) ca39 rfl (WeakL.refl _) rfl (c_benchmake_Stream_Range (by first | assumption | omega | (simp; omega) | simp_all) (by first | assumption | omega | (simp; omega) | simp_all) (by first | assumption | omega | (simp; omega) | simp_all) (by first | assumption | omega | (simp; omega) | simp_all)) ?_)
        | refine hop_e rfl (eop_callx (i := 2) ca39 rfl (WeakL.refl _) rfl (c_benchmake_Stream_Range (by first | assumption | omega | (simp; omega) | simp_all) (by first | assumption | omega | (simp; omega) | simp_all) (by first | assumption | omega | (simp; omega) | simp_all) (by first | assumption | omega | (simp; omega) | simp_all)) ?_)
        | refine hop_e rfl (eop_callx (i := 3) ca39 rfl (WeakL.refl _) rfl (c_benchmake_Stream_Range (by first | assumption | omega | (simp; omega) | simp_all) (by first | assumption | omega | (simp; omega) | simp_all) (by first | assumption | omega | (simp; omega) | simp_all) (by first | assumption | omega | (simp; omega) | simp_all)) ?_)
        rintro _ _ ⟨y10, rfl, hy10, rfl⟩
        refine ⟨fun _ => .inl trivial, ?_⟩
        refine ahe 7 rfl (by kernel_rfl) ?_
        first
        | refine hop_e rfl (eop_callx (i := 0) ca39 rfl (WeakL.refl _) rfl (c_benchmake_Stream_Range (by first | assumption | omega | (simp; omega) | simp_all) (by first | assumption | omega | (simp; omega) | simp_all) (by first | assumption | omega | (simp; omega) | simp_all) (by first | assumption | omega | (simp; omega) | simp_all)) ?_)
        | refine hop_e rfl (eop_callx (i := 1) ca39 rfl (WeakL.refl _) rfl (c_benchmake_Stream_Range (by first | assumption | omega | (simp; omega) | simp_all) (by first | assumption | omega | (simp; omega) | simp_all) (by first | assumption | omega | (simp; omega) | simp_all) (by first | assumption | omega | (simp; omega) | simp_all)) ?_)
        | refine hop_e rfl (eop_callx (i := 2) ca39 rfl (WeakL.refl _) rfl (c_benchmake_Stream_Range (by first | assumption | omega | (simp; omega) | simp_all) (by first | assumption | omega | (simp; omega) | simp_all) (by first | assumption | omega | (simp; omega) | simp_all) (by first | assumption | omega | (simp; omega) | simp_all)) ?_)
        | refine hop_e rfl (eop_callx (i := 3) ca39 rfl (WeakL.refl _) rfl (c_benchmake_Stream_Range (by first | assumption | omega | (simp; omega) | simp_all) (by first | assumption | omega | (simp; omega) | simp_all) (by first | assumption | omega | (simp; omega) | simp_all) (by first | assumption | omega | (simp; omega) | simp_all)) ?_)
        rintro _ _ ⟨y12, rfl, hy12, rfl⟩
        refine ⟨fun _ => .inl trivial, ?_⟩
        refine ahe 10 rfl (by kernel_rfl) ?_
        first
        | refine hop_e rfl (eop_callx (i := 0) ca10 rfl (WeakL.refl _) rfl (c_benchmake_Stream_Pick (L := [_, _]) (by first | assumption | omega | (simp; omega) | simp_all) (by first | assumption | omega | (simp; omega) | simp_all) (by first | assumption | omega | (simp; omega) | simp_all)) ?_)
        | refine hop_e rfl (eop_callx (i := 1) ca10 rfl (WeakL.refl _) rfl (c_benchmake_Stream_Pick (L := [_, _]) (by first | assumption | omega | (simp; omega) | simp_all) (by first | assumption | omega | (simp; omega) | simp_all) (by first | assumption | omega | (simp; omega) | simp_all)) ?_)
        | refine hop_e rfl (eop_callx (i := 2) ca10 rfl (WeakL.refl _) rfl (c_benchmake_Stream_Pick (L := [_, _]) (by first | assumption | omega | (simp; omega) | simp_all) (by first | assumption | omega | (simp; omega) | simp_all) (by first | assumption | omega | (simp; omega) | simp_all)) ?_)
        | refine hop_e rfl (eop_callx (i := 3) ca10 rfl (WeakL.refl _) rfl (c_benchmake_Stream_Pick (L := [_, _]) (by first | assumption | omega | (simp; omega) | simp_all) (by first | assumption | omega | (simp; omega) | simp_all) (by first | assumption | omega | (simp; omega) | simp_all)) ?_)
        rintro _ _ ⟨y15, rfl, hy15, rfl⟩
        refine ⟨fun _ => .inl trivial, ?_⟩
        refine ahe 13 rfl (by kernel_rfl) ?_
        first
        | refine hop_e rfl (eop_callx (i := 0) ca10 rfl (WeakL.refl _) rfl (c_benchmake_Stream_Pick (L := [_, _, _]) (by first | assumption | omega | (simp; omega) | simp_all) (by first | assumption | omega | (simp; omega) | simp_all) (by first | assumption | omega | (simp; omega) | simp_all)) ?_)
        | refine hop_e rfl (eop_callx (i := 1) ca10 rfl (WeakL.refl _) rfl (c_benchmake_Stream_Pick (L := [_, _, _]) (by first | assumption | omega | (simp; omega) | simp_all) (by first | assumption | omega | (simp; omega) | simp_all) (by first | assumption | omega | (simp; omega) | simp_all)) ?_)
        | refine hop_e rfl (eop_callx (i := 2) ca10 rfl (WeakL.refl _) rfl (c_benchmake_Stream_Pick (L := [_, _, _]) (by first | assumption | omega | (simp; omega) | simp_all) (by first | assumption | omega | (simp; omega) | simp_all) (by first | assumption | omega | (simp; omega) | simp_all)) ?_)
        | refine hop_e rfl (eop_callx (i := 3) ca10 rfl (WeakL.refl _) rfl (c_benchmake_Stream_Pick (L := [_, _, _]) (by first | assumption | omega | (simp; omega) | simp_all) (by first | assumption | omega | (simp; omega) | simp_all) (by first | assumption | omega | (simp; omega) | simp_all)) ?_)
        rintro _ _ ⟨y18, rfl, hy18, rfl⟩
        refine ⟨fun _ => .inl trivial, ?_⟩
        refine ahp 14 rfl rfl (by kernel_rfl) (by kernel_rfl) (pop_build (cs := [_, _, _, _, _, _]) ty28 pl28 rfl) ?_
        refine ahe 16 rfl (by kernel_rfl) ?_
        first
        | refine hop_e0 (eop_store (i := 0) ty28 rfl rfl rfl rfl rfl (Nat.le_of_ble_eq_true rfl) ?_)
        | refine hop_e0 (eop_store (i := 1) ty28 rfl rfl rfl rfl rfl (Nat.le_of_ble_eq_true rfl) ?_)
        | refine hop_e0 (eop_store (i := 2) ty28 rfl rfl rfl rfl rfl (Nat.le_of_ble_eq_true rfl) ?_)
        | refine hop_e0 (eop_store (i := 3) ty28 rfl rfl rfl rfl rfl (Nat.le_of_ble_eq_true rfl) ?_)
        refine ⟨fun _ => .inl trivial, ?_⟩
        refine ahz (by kernel_rfl) ?_
        refine ⟨(b3, (team3.take y7.toNat).drop 0, y10, y12, y15, y18), ?_, ⟨rfl, trivial⟩, (by repeat (first | exact keeps_refl | refine keeps_upd rfl ?_ | refine keeps_loop rfl rfl ?_)), ?_⟩
        · refine ⟨by simp [team3]; omega, by dsimp only; omega, fun s hs => ?_⟩
          exact team3_len s (List.mem_of_mem_take hs)
        · repeat (first | exact List.Perm.nil | refine permTo 0 rfl ?_ | refine permTo 1 rfl ?_ | refine permTo 2 rfl ?_ | refine permTo 3 rfl ?_ | (refine permToE 0 rfl ?hq ?_; (case hq => simp [setL, hcells]; done)) | (refine permToE 1 rfl ?hq ?_; (case hq => simp [setL, hcells]; done)) | (refine permToE 2 rfl ?hq ?_; (case hq => simp [setL, hcells]; done)) | (refine permToE 3 rfl ?hq ?_; (case hq => simp [setL, hcells]; done)) | fail)
    · skip
      refine hop_e rfl (eop_alloc ty28 rfl fun b3 => ?_)
      refine ⟨fun _ => .inl trivial, ?_⟩
      refine ahe 2 rfl (by kernel_rfl) ?_
      first
      | refine hop_e rfl (eop_callx (i := 0) ca39 rfl (WeakL.refl _) rfl (c_benchmake_Stream_Range (by first | assumption | omega | (simp; omega) | simp_all) (by first | assumption | omega | (simp; omega) | simp_all) (by first | assumption | omega | (simp; omega) | simp_all) (by first | assumption | omega | (simp; omega) | simp_all)) ?_)
      | refine hop_e rfl (eop_callx (i := 1) ca39 rfl (WeakL.refl _) rfl (c_benchmake_Stream_Range (by first | assumption | omega | (simp; omega) | simp_all) (by first | assumption | omega | (simp; omega) | simp_all) (by first | assumption | omega | (simp; omega) | simp_all) (by first | assumption | omega | (simp; omega) | simp_all)) ?_)
      | refine hop_e rfl (eop_callx (i := 2) ca39 rfl (WeakL.refl _) rfl (c_benchmake_Stream_Range (by first | assumption | omega | (simp; omega) | simp_all) (by first | assumption | omega | (simp; omega) | simp_all) (by first | assumption | omega | (simp; omega) | simp_all) (by first | assumption | omega | (simp; omega) | simp_all)) ?_)
      | refine hop_e rfl (eop_callx (i := 3) ca39 rfl (WeakL.refl _) rfl (c_benchmake_Stream_Range (by first | assumption | omega | (simp; omega) | simp_all) (by first | assumption | omega | (simp; omega) | simp_all) (by first | assumption | omega | (simp; omega) | simp_all) (by first | assumption | omega | (simp; omega) | simp_all)) ?_)
      rintro _ _ ⟨y7, rfl, hy7, rfl⟩
      refine ⟨fun _ => .inl trivial, ?_⟩
      refine ahp 3 rfl rfl (by kernel_rfl) (by kernel_rfl) (pop_slicem (es := team3) (f := HVal.str) (h := y7.toNat) ty26 ty9 rfl rfl ⟨_, _, rfl, by omega⟩ (by omega) (by simp [team3]; omega)) ?_
      refine ahe 5 rfl (by kernel_rfl) ?_
      first
      | refine hop_e rfl (eop_callx (i := 0) ca39 rfl (WeakL.refl _) rfl (c_benchmake_Stream_Range (by first | assumption | omega | (simp; omega) | simp_all) (by first | assumption | omega | (simp; omega) | simp_all) (by first | assumption | omega | (simp; omega) | simp_all) (by first | assumption | omega | (simp; omega) | simp_all)) ?_)
      | refine hop_e rfl (eop_callx (i := 1) ca39 rfl (WeakL.refl _) rfl (c_benchmake_Stream_Range (by first | assumption | omega | (simp; omega) | simp_all) (by first | assumption | omega | (simp; omega) | simp_all) (by first | assumption | omega | (simp; omega) | simp_all) (by first | assumption | omega | (simp; omega) | simp_all)) ?_)
      | refine hop_e rfl (eop_callx (i := 2) ca39 rfl (WeakL.refl _) rfl (c_benchmake_Stream_Range (by first | assumption | omega | (simp; omega) | simp_all) (by first | assumption | omega | (simp; omega) | simp_all) (by first | assumption | omega | (simp; omega) | simp_all) (by first | assumption | omega | (simp; omega) | simp_all)) ?_)
      | refine hop_e rfl (eop_callx (i := 3) ca39 rfl (WeakL.refl _) rfl (c_benchmake_Stream_Range (by first | assumption | omega | (simp; omega) | simp_all) (by first | assumption | omega | (simp; omega) | simp_all) (by first | assumption | omega | (simp; omega) | simp_all) (by first | assumption | omega | (simp; omega) | simp_all)) ?_)
      rintro _ _ ⟨y10, rfl, hy10, rfl⟩
      refine ⟨fun _ => .inl trivial, ?_⟩
      refine ahe 7 rfl (by kernel_rfl) ?_
      first
      | refine hop_e rfl (eop_callx (i := 0) ca39 rfl (WeakL.refl _) rfl (c_benchmake_Stream_Range (by first | assumption | omega | (simp; omega) | simp_all) (by first | assumption | omega | (simp; omega) | simp_all) (by first | assumption | omega | (simp; omega) | simp_all) (by first | assumption | omega | (simp; omega) | simp_all)) ?_)
      | refine hop_e rfl (eop_callx (i := 1) ca39 rfl (WeakL.refl _) rfl (c_benchmake_Stream_Range (by first | assumption | omega | (simp; omega) | simp_all) (by first | assumption | omega | (simp; omega) | simp_all) (by first | assumption | omega | (simp; omega) | simp_all) (by first | assumption | omega | (simp; omega) | simp_all)) ?_)
      | refine hop_e rfl (eop_callx (i := 2) ca39 rfl (WeakL.refl _) rfl (c_benchmake_Stream_Range (by first | assumption | omega | (simp; omega) | simp_all) (by first | assumption | omega | (simp; omega) | simp_all) (by first | assumption | omega | (simp; omega) | simp_all) (by first | assumption | omega | (simp; omega) | simp_all)) ?_)
      | refine hop_e rfl (eop_callx (i := 3) ca39 rfl (WeakL.refl _) rfl (c_benchmake_Stream_Range (by first | assumption | omega | (simp; omega) | simp_all) (by first | assumption | omega | (simp; omega) | simp_all) (by first | assumption | omega | (simp; omega) | simp_all) (by first | assumption | omega | (simp; omega) | simp_all)) ?_)
      rintro _ _ ⟨y12, rfl, hy12, rfl⟩
      refine ⟨fun _ => .inl trivial, ?_⟩
      refine ahe 10 rfl (by kernel_rfl) ?_
      first
      | refine hop_e rfl (eop_callx (i := 0) ca10 rfl (WeakL.refl _) rfl (c_benchmake_Stream_Pick (L := [_, _]) (by first | assumption | omega | (simp; omega) | simp_all) (by first | assumption | omega | (simp; omega) | simp_all) (by first | assumption | omega | (simp; omega) | simp_all)) ?_)
      | refine hop_e rfl (eop_callx (i := 1) ca10 rfl (WeakL.refl _) rfl (c_benchmake_Stream_Pick (L := [_, _]) (by first | assumption | omega | (simp; omega) | simp_all) (by first | assumption | omega | (simp; omega) | simp_all) (by first | assumption | omega | (simp; omega) | simp_all)) ?_)
      | refine hop_e rfl (eop_callx (i := 2) ca10 rfl (WeakL.refl _) rfl (c_benchmake_Stream_Pick (L := [_, _]) (by first | assumption | omega | (simp; omega) | simp_all) (by first | assumption | omega | (simp; omega) | simp_all) (by first | assumption | omega | (simp; omega) | simp_all)) ?_)
      | refine hop_e rfl (eop_callx (i := 3) ca10 rfl (WeakL.refl _) rfl (c_benchmake_Stream_Pick (L := [_, _]) (by first | assumption | omega | (simp; omega) | simp_all) (by first | assumption | omega | (simp; omega) | simp_all) (by first | assumption | omega | (simp; omega) | simp_all)) ?_)
      rintro _ _ ⟨y15, rfl, hy15, rfl⟩
      refine ⟨fun _ => .inl trivial, ?_⟩
      refine ahe 13 rfl (by kernel_rfl) ?_
      first
      | refine hop_e rfl (eop_callx (i := 0) ca10 rfl (WeakL.refl _) rfl (c_benchmake_Stream_Pick (L := [_, _, _]) (by first | assumption | omega | (simp; omega) | simp_all) (by first | assumption | omega | (simp; omega) | simp_all) (by first | assumption | omega | (simp; omega) | simp_all)) ?_)
      | refine hop_e rfl (eop_callx (i := 1) ca10 rfl (WeakL.refl _) rfl (c_benchmake_Stream_Pick (L := [_, _, _]) (by first | assumption | omega | (simp; omega) | simp_all) (by first | assumption | omega | (simp; omega) | simp_all) (by first | assumption | omega | (simp; omega) | simp_all)) ?_)
      | refine hop_e rfl (eop_callx (i := 2) ca10 rfl (WeakL.refl _) rfl (c_benchmake_Stream_Pick (L := [_, _, _]) (by first | assumption | omega | (simp; omega) | simp_all) (by first | assumption | omega | (simp; omega) | simp_all) (by first | assumption | omega | (simp; omega) | simp_all)) ?_)
      | refine hop_e rfl (eop_callx (i := 3) ca10 rfl (WeakL.refl _) rfl (c_benchmake_Stream_Pick (L := [_, _, _]) (by first | assumption | omega | (simp; omega) | simp_all) (by first | assumption | omega | (simp; omega) | simp_all) (by first | assumption | omega | (simp; omega) | simp_all)) ?_)
      rintro _ _ ⟨y18, rfl, hy18, rfl⟩
      refine ⟨fun _ => .inl trivial, ?_⟩
      refine ahp 14 rfl rfl (by kernel_rfl) (by kernel_rfl) (pop_build (cs := [_, _, _, _, _, _]) ty28 pl28 rfl) ?_
      refine ahe 16 rfl (by kernel_rfl) ?_
      first
      | refine hop_e0 (eop_store (i := 0) ty28 rfl rfl rfl rfl rfl (Nat.le_of_ble_eq_true rfl) ?_)
      | refine hop_e0 (eop_store (i := 1) ty28 rfl rfl rfl rfl rfl (Nat.le_of_ble_eq_true rfl) ?_)
      | refine hop_e0 (eop_store (i := 2) ty28 rfl rfl rfl rfl rfl (Nat.le_of_ble_eq_true rfl) ?_)
      | refine hop_e0 (eop_store (i := 3) ty28 rfl rfl rfl rfl rfl (Nat.le_of_ble_eq_true rfl) ?_)
      refine ⟨fun _ => .inl trivial, ?_⟩
      refine ahz (by kernel_rfl) ?_
      refine ⟨(b3, (team3.take y7.toNat).drop 0, y10, y12, y15, y18), ?_, ⟨rfl, trivial⟩, (by repeat (first | exact keeps_refl | refine keeps_upd rfl ?_ | refine keeps_loop rfl rfl ?_)), ?_⟩
      · refine ⟨by simp [team3]; omega, by dsimp only; omega, fun s hs => ?_⟩
        exact team3_len s (List.mem_of_mem_take hs)
      · repeat (first | exact List.Perm.nil | refine permTo 0 rfl ?_ | refine permTo 1 rfl ?_ | refine permTo 2 rfl ?_ | refine permTo 3 rfl ?_ | (refine permToE 0 rfl ?hq ?_; (case hq => simp [setL, hcells]; done)) | (refine permToE 1 rfl ?hq ?_; (case hq => simp [setL, hcells]; done)) | (refine permToE 2 rfl ?hq ?_; (case hq => simp [setL, hcells]; done)) | (refine permToE 3 rfl ?hq ?_; (case hq => simp [setL, hcells]; done)) | fail)
  · intro q hq
    obtain ⟨b3, T, R, Wy, C, S⟩ := q
    dsimp only at hq
    obtain ⟨hT, hR, hTs⟩ := hq
    refine hw_seq ?_
    refine hw_draw (fun M => ∃ i : Nat, M[i]? = some (RoomC b3 (eSs (T)) R Wy nilS C S)) [1, 4] mixed ?_
    refine ahp 0 rfl rfl (by kernel_rfl) (by kernel_rfl) (pop_fieldAddr_raw ty28 rfl ty26 (by decide) rfl) ?_
    refine ahl 1 rfl rfl (by kernel_rfl) (by kernel_rfl) (by simp) (by first | exact ⟨0, rfl⟩ | exact ⟨1, rfl⟩ | exact ⟨2, rfl⟩) (fun M hM => by obtain ⟨i, hi⟩ := hM; exact eop_load (i := i) ty26 rfl hi (.inl ⟨rfl, rfl⟩) ⟨rfl, rfl⟩) ?_
    refine ahp 2 rfl rfl (by kernel_rfl) (by kernel_rfl) (pop_lenm ty26 rfl) ?_
    refine ahp 3 rfl rfl (by kernel_rfl) (by kernel_rfl) (pop_fieldAddr_raw ty28 rfl ty3 (by decide) rfl) ?_
    refine ahl 4 rfl rfl (by kernel_rfl) (by kernel_rfl) (by simp) (by first | exact ⟨0, rfl⟩ | exact ⟨1, rfl⟩ | exact ⟨2, rfl⟩) (fun M hM => by obtain ⟨i, hi⟩ := hM; exact eop_load (i := i) ty3 rfl hi (.inl ⟨rfl, rfl⟩) ⟨rfl, rfl⟩) ?_
    have hm1 : 0 < (T.length : Int) * R := Int.mul_pos (by omega) (by omega)
    have hm := mul_bd (a := (T.length : Int)) (b := R) (A := 3) (B := 4) (by omega) (by omega) (by omega) (by omega)
    refine ahp 5 rfl rfl (by kernel_rfl) (by kernel_rfl) (pop_mul64 rfl rfl (by omega) (by omega)) ?_
    refine ahp 6 rfl rfl (by kernel_rfl) (by kernel_rfl) (pop_move rfl) ?_
    refine ahp 7 rfl rfl (by kernel_rfl) (by kernel_rfl) (pop_buildSlice (hs := [_, _, _, _]) ty22 ty3 rfl rfl (by decide) (by decide) rfl) ?_
    refine ahp 10 rfl rfl (by kernel_rfl) (by kernel_rfl) (pop_move rfl) ?_
    refine ahe 8 rfl (by kernel_rfl) ?_
    first
    | refine hop_e rfl (eop_callx (i := 0) ca10 rfl (WeakL.refl _) rfl (c_benchmake_Stream_Pick (L := [_, _, _, _]) (by first | assumption | omega | (simp; omega) | simp_all) (by first | assumption | omega | (simp; omega) | simp_all) (by first | assumption | omega | (simp; omega) | simp_all)) ?_)
    | refine hop_e rfl (eop_callx (i := 1) ca10 rfl (WeakL.refl _) rfl (c_benchmake_Stream_Pick (L := [_, _, _, _]) (by first | assumption | omega | (simp; omega) | simp_all) (by first | assumption | omega | (simp; omega) | simp_all) (by first | assumption | omega | (simp; omega) | simp_all)) ?_)
    | refine hop_e rfl (eop_callx (i := 2) ca10 rfl (WeakL.refl _) rfl (c_benchmake_Stream_Pick (L := [_, _, _, _]) (by first | assumption | omega | (simp; omega) | simp_all) (by first | assumption | omega | (simp; omega) | simp_all) (by first | assumption | omega | (simp; omega) | simp_all)) ?_)
    | refine hop_e rfl (eop_callx (i := 3) ca10 rfl (WeakL.refl _) rfl (c_benchmake_Stream_Pick (L := [_, _, _, _]) (by first | assumption | omega | (simp; omega) | simp_all) (by first | assumption | omega | (simp; omega) | simp_all) (by first | assumption | omega | (simp; omega) | simp_all)) ?_)
    rintro _ _ ⟨y28, rfl, hy28, rfl⟩
    refine ⟨fun _ => by first | exact .inl ⟨0, rfl⟩ | exact .inl ⟨1, rfl⟩ | exact .inl ⟨2, rfl⟩ | exact .inr (by simp [Before, Region.binds]), ?_⟩
    have hy3 : 0 ≤ y28 ∧ y28 ≤ 3 := by simp at hy28; omega
    refine ahp 9 rfl rfl (by kernel_rfl) (by kernel_rfl) (pop_add64 rfl rfl (by omega) (by omega)) ?_
    refine ahz (by kernel_rfl) ?_
    refine hw_ghost (Ghost.arr_nil 1) ?_
    refine hw_block ?_
    refine hw_loopw3 [4, 30, 31, 32, 33, 34, 35, 36, 37, 38, 39, 40, 41, 42] (fun (k : Nat) (v : Value) (Pl : List Str) => [(30, .int .i64 k)]) (fun (k : Nat) (v : Value) (Pl : List Str) => [.arr v 1 (Pl.map .str), RoomC b3 (eSs (T)) R Wy (.raw v) C S, RoomC b2 nilS 0 0 nilS 0 0, St b l (a + 6)]) (fun (k : Nat) (v : Value) (Pl : List Str) => k ≤ 15 ∧ Pl.length = k ∧ ∀ s ∈ Pl, s.length ≤ 100) (fun (k : Nat) (v : Value) (Pl : List Str) => 15 - k) (0) (.slice none 0 0) ([]) ?_ ?_ ?_ ?_
    · exact ⟨by omega, rfl, by simp⟩
    · exact ⟨rfl, trivial⟩
    · repeat (first | exact List.Perm.nil | refine permTo 0 rfl ?_ | refine permTo 1 rfl ?_ | refine permTo 2 rfl ?_ | refine permTo 3 rfl ?_ | (refine permToE 0 rfl ?hq ?_; (case hq => simp [setL, hcells]; done)) | (refine permToE 1 rfl ?hq ?_; (case hq => simp [setL, hcells]; done)) | (refine permToE 2 rfl ?hq ?_; (case hq => simp [setL, hcells]; done)) | (refine permToE 3 rfl ?hq ?_; (case hq => simp [setL, hcells]; done)) | fail)
    · intro k v Pl hinv
      obtain ⟨hk, hPl, hPs⟩ := hinv
      refine hw_reg ?_
      refine dp rfl (pop_lss rfl rfl) ?_
      refine dn ?_
      refine hw_seq ?_
      refine hw_cond rfl (fun h1 => ?_) (fun h2 => ?_)
      · try simp at h1
        refine hw_skip ?_
        refine seqQ_n ?_
        refine hw_seq ?_
        refine hw_block ?_
        refine hw_reg ?_
        refine dp rfl (pop_move rfl) ?_
        refine dp rfl (pop_assign rfl) ?_
        refine dn ?_
        refine hw_draw1 (fun _ => True) [] mixed ?_
        refine ahp 0 rfl rfl (by kernel_rfl) (by kernel_rfl) (pop_fieldAddr_raw ty28 rfl ty26 (by decide) rfl) ?_
        refine ahp 2 rfl rfl (by kernel_rfl) (by kernel_rfl) (pop_move rfl) ?_
        refine ahp 3 rfl rfl (by kernel_rfl) (by kernel_rfl) (pop_add64 rfl rfl (by omega) (by omega)) ?_
        refine ahp 4 rfl rfl (by kernel_rfl) (by kernel_rfl) (pop_call ca40 rfl (WeakL.refl _) (c_strconv_Itoa (i := 10 + k) (by omega))) ?_
        have hdl := dec_len (i := 10 + k) (by omega)
        refine ahp 5 rfl rfl (by kernel_rfl) (by kernel_rfl) (pop_adds rfl rfl (by simp; omega)) ?_
        refine ahp 6 rfl rfl (by kernel_rfl) (by kernel_rfl) (pop_buildSlice (hs := [_]) ty26 ty9 rfl rfl (by decide) (by decide) rfl) ?_
        refine ahe 1 rfl (by kernel_rfl) ?_
        first
        | refine hop_e rfl (eop_load (i := 0) ty26 rfl rfl (.inl ⟨rfl, rfl⟩) ?_)
        | refine hop_e rfl (eop_load (i := 1) ty26 rfl rfl (.inl ⟨rfl, rfl⟩) ?_)
        | refine hop_e rfl (eop_load (i := 2) ty26 rfl rfl (.inl ⟨rfl, rfl⟩) ?_)
        | refine hop_e rfl (eop_load (i := 3) ty26 rfl rfl (.inl ⟨rfl, rfl⟩) ?_)
        refine ⟨fun _ => .inl trivial, ?_⟩
        refine ahe 7 rfl (by kernel_rfl) ?_
        first
        | refine hop_e rfl (eop_append (i := 0) ty26 ty9 rfl rfl rfl rfl rfl (by simp [flat, hcells]) (by first | omega | (simp; omega)) fun v40 => ?_)
        | refine hop_e rfl (eop_append (i := 1) ty26 ty9 rfl rfl rfl rfl rfl (by simp [flat, hcells]) (by first | omega | (simp; omega)) fun v40 => ?_)
        | refine hop_e rfl (eop_append (i := 2) ty26 ty9 rfl rfl rfl rfl rfl (by simp [flat, hcells]) (by first | omega | (simp; omega)) fun v40 => ?_)
        | refine hop_e rfl (eop_append (i := 3) ty26 ty9 rfl rfl rfl rfl rfl (by simp [flat, hcells]) (by first | omega | (simp; omega)) fun v40 => ?_)
        refine ⟨fun _ => .inl trivial, ?_⟩
        refine ahp 8 rfl rfl (by kernel_rfl) (by kernel_rfl) (pop_fieldAddr_raw ty28 rfl ty26 (by decide) rfl) ?_
        refine ahe 9 rfl (by kernel_rfl) ?_
        first
        | refine hop_e0 (eop_store (i := 0) ty26 rfl rfl rfl rfl rfl (Nat.le_of_ble_eq_true rfl) ?_)
        | refine hop_e0 (eop_store (i := 1) ty26 rfl rfl rfl rfl rfl (Nat.le_of_ble_eq_true rfl) ?_)
        | refine hop_e0 (eop_store (i := 2) ty26 rfl rfl rfl rfl rfl (Nat.le_of_ble_eq_true rfl) ?_)
        | refine hop_e0 (eop_store (i := 3) ty26 rfl rfl rfl rfl rfl (Nat.le_of_ble_eq_true rfl) ?_)
        refine ⟨fun _ => .inl trivial, ?_⟩
        refine ahz (by kernel_rfl) ?_
        refine blockQ_n ?_
        refine seqQ_n ?_
        refine hw_reg1 ?_
        refine dp rfl (pop_add64 rfl rfl (by omega) (by omega)) ?_
        refine dp rfl (pop_move rfl) ?_
        refine dn ?_
        refine ⟨k + 1, v40, Pl ++ [112 :: Lib.decDigits (10 + k)], ?_, ?_, ⟨rfl, trivial⟩, (by repeat (first | exact keeps_refl | refine keeps_upd rfl ?_ | refine keeps_loop rfl rfl ?_)), ?_⟩
        · refine ⟨by omega, by simp [hPl], fun s hs => ?_⟩
          rcases List.mem_append.1 hs with h | h
          · exact hPs s h
          · have := dec_len (i := 10 + k) (by omega)
            simp at h; subst h; simp; omega
        · dsimp only; omega
        · repeat (first | exact List.Perm.nil | refine permTo 0 rfl ?_ | refine permTo 1 rfl ?_ | refine permTo 2 rfl ?_ | refine permTo 3 rfl ?_ | (refine permToE 0 rfl ?hq ?_; (case hq => simp [setL, hcells]; done)) | (refine permToE 1 rfl ?hq ?_; (case hq => simp [setL, hcells]; done)) | (refine permToE 2 rfl ?hq ?_; (case hq => simp [setL, hcells]; done)) | (refine permToE 3 rfl ?hq ?_; (case hq => simp [setL, hcells]; done)) | fail)
      · try simp at h2
        refine hw_exit ?_
        refine seqQ_x ?_
        refine loopQ3_x ?_
        refine blockQ_eq ?_
        refine seqQ_n ?_
        refine hw_joing [43, 44, 45, 46, 47, 48, 49, 50, 51, 52, 53, 54, 55, 56, 57, 58, 59, 60, 61, 62, 63, 64, 65, 66, 67, 68, 69, 70, 71, 72, 73, 74, 75, 76, 77, 78, 79, 80, 81, 82] (fun (q : Room × Nat) => []) (fun (q : Room × Nat) => [.cells b3 (hcells (eRoom q.1)), RoomC b2 nilS 0 0 nilS 0 0, St b l q.2]) (fun (q : Room × Nat) => GoodRoom q.1 ∧ q.2 ≤ a + 20) ?_ ?_
        · skip
          refine hw_reg ?_
          refine dp rfl (pop_move rfl) ?_
          first
          | refine de rfl (eop_callx (i := 0) ca11 rfl (WeakL.refl _) rfl (c_benchmake_Stream_Flip (by first | assumption | omega | (simp; omega) | simp_all) (by first | assumption | omega | (simp; omega) | simp_all)) ?_)
          | refine de rfl (eop_callx (i := 1) ca11 rfl (WeakL.refl _) rfl (c_benchmake_Stream_Flip (by first | assumption | omega | (simp; omega) | simp_all) (by first | assumption | omega | (simp; omega) | simp_all)) ?_)
          | refine de rfl (eop_callx (i := 2) ca11 rfl (WeakL.refl _) rfl (c_benchmake_Stream_Flip (by first | assumption | omega | (simp; omega) | simp_all) (by first | assumption | omega | (simp; omega) | simp_all)) ?_)
          | refine de rfl (eop_callx (i := 3) ca11 rfl (WeakL.refl _) rfl (c_benchmake_Stream_Flip (by first | assumption | omega | (simp; omega) | simp_all) (by first | assumption | omega | (simp; omega) | simp_all)) ?_)
          rintro _ _ ⟨y44, rfl, rfl⟩
          refine dn ?_
          refine hw_cond rfl (fun h3 => ?_) (fun h4 => ?_)
          · try simp at h3
            refine hw_reg ?_
            refine dp rfl (pop_move rfl) ?_
            first
            | refine de rfl (eop_callx (i := 0) ca41 rfl (WeakL.refl _) rfl (c_benchmake_Stream_Next (by first | assumption | omega | (simp; omega) | simp_all) (by first | assumption | omega | (simp; omega) | simp_all)) ?_)
            | refine de rfl (eop_callx (i := 1) ca41 rfl (WeakL.refl _) rfl (c_benchmake_Stream_Next (by first | assumption | omega | (simp; omega) | simp_all) (by first | assumption | omega | (simp; omega) | simp_all)) ?_)
            | refine de rfl (eop_callx (i := 2) ca41 rfl (WeakL.refl _) rfl (c_benchmake_Stream_Next (by first | assumption | omega | (simp; omega) | simp_all) (by first | assumption | omega | (simp; omega) | simp_all)) ?_)
            | refine de rfl (eop_callx (i := 3) ca41 rfl (WeakL.refl _) rfl (c_benchmake_Stream_Next (by first | assumption | omega | (simp; omega) | simp_all) (by first | assumption | omega | (simp; omega) | simp_all)) ?_)
            rintro _ _ ⟨y46, rfl, hy46, rfl⟩
            refine dn ?_
            refine hw_block ?_
            refine hw_reg ?_
            refine dp rfl (pop_eql rfl rfl) ?_
            refine dp rfl (pop_assign rfl) ?_
            refine dn ?_
            refine hw_cond rfl (fun h5 => ?_) (fun h6 => ?_)
            · try simp at h5
              refine hw_reg1 ?_
              refine dp rfl (pop_fieldAddr_raw ty28 rfl ty26 (by decide) rfl) ?_
              first
              | refine de rfl (eop_load (i := 0) ty26 rfl rfl (.inl ⟨rfl, rfl⟩) ?_)
              | refine de rfl (eop_load (i := 1) ty26 rfl rfl (.inl ⟨rfl, rfl⟩) ?_)
              | refine de rfl (eop_load (i := 2) ty26 rfl rfl (.inl ⟨rfl, rfl⟩) ?_)
              | refine de rfl (eop_load (i := 3) ty26 rfl rfl (.inl ⟨rfl, rfl⟩) ?_)
              refine de rfl (eop_calla ca42 rfl (WeakL.refl _) (c_slices_Clone_string_string (by first | assumption | omega | (simp; omega) | simp_all)) fun v57 => ?_)
              refine dp rfl (pop_move rfl) ?_
              refine dp rfl (pop_buildSlice (hs := [_, _, _]) ty26 ty9 rfl rfl (by decide) (by decide) rfl) ?_
              first
              | refine de rfl (eop_callx (i := 0) ca43 rfl (WeakL.refl _) rfl (c_benchmake_Stream_Some (L := [_, _, _]) (by first | assumption | omega | (simp; omega) | simp_all) (by first | assumption | omega | (simp; omega) | simp_all) (by first | assumption | omega | (simp; omega) | simp_all)) ?_)
              | refine de rfl (eop_callx (i := 1) ca43 rfl (WeakL.refl _) rfl (c_benchmake_Stream_Some (L := [_, _, _]) (by first | assumption | omega | (simp; omega) | simp_all) (by first | assumption | omega | (simp; omega) | simp_all) (by first | assumption | omega | (simp; omega) | simp_all)) ?_)
              | refine de rfl (eop_callx (i := 2) ca43 rfl (WeakL.refl _) rfl (c_benchmake_Stream_Some (L := [_, _, _]) (by first | assumption | omega | (simp; omega) | simp_all) (by first | assumption | omega | (simp; omega) | simp_all) (by first | assumption | omega | (simp; omega) | simp_all)) ?_)
              | refine de rfl (eop_callx (i := 3) ca43 rfl (WeakL.refl _) rfl (c_benchmake_Stream_Some (L := [_, _, _]) (by first | assumption | omega | (simp; omega) | simp_all) (by first | assumption | omega | (simp; omega) | simp_all) (by first | assumption | omega | (simp; omega) | simp_all)) ?_)
              rintro _ _ ⟨y60, rfl, hy60, rfl⟩
              refine dp rfl (pop_buildSlice (hs := [_]) ty26 ty9 rfl rfl (by decide) (by decide) rfl) ?_
              first
              | refine de rfl (eop_append (i := 0) ty26 ty9 rfl rfl rfl rfl rfl (by simp [flat, hcells]) (by first | omega | (simp; omega)) fun v62 => ?_)
              | refine de rfl (eop_append (i := 1) ty26 ty9 rfl rfl rfl rfl rfl (by simp [flat, hcells]) (by first | omega | (simp; omega)) fun v62 => ?_)
              | refine de rfl (eop_append (i := 2) ty26 ty9 rfl rfl rfl rfl rfl (by simp [flat, hcells]) (by first | omega | (simp; omega)) fun v62 => ?_)
              | refine de rfl (eop_append (i := 3) ty26 ty9 rfl rfl rfl rfl rfl (by simp [flat, hcells]) (by first | omega | (simp; omega)) fun v62 => ?_)
              refine dp rfl (pop_fieldAddr_raw ty28 rfl ty26 (by decide) rfl) ?_
              first
              | refine de0 (eop_store (i := 0) ty26 rfl rfl rfl rfl rfl (Nat.le_of_ble_eq_true rfl) ?_)
              | refine de0 (eop_store (i := 1) ty26 rfl rfl rfl rfl rfl (Nat.le_of_ble_eq_true rfl) ?_)
              | refine de0 (eop_store (i := 2) ty26 rfl rfl rfl rfl rfl (Nat.le_of_ble_eq_true rfl) ?_)
              | refine de0 (eop_store (i := 3) ty26 rfl rfl rfl rfl rfl (Nat.le_of_ble_eq_true rfl) ?_)
              refine dn ?_
              refine blockQ_n ?_
              (first | refine joinG_n (Ghost.fcell (i := 0) (k := 0) (j := 3) rfl rfl rfl) ?_ | refine joinG_n (Ghost.fcell (i := 0) (k := 1) (j := 3) rfl rfl rfl) ?_ | refine joinG_n (Ghost.fcell (i := 0) (k := 2) (j := 3) rfl rfl rfl) ?_ | refine joinG_n (Ghost.fcell (i := 0) (k := 3) (j := 3) rfl rfl rfl) ?_ | refine joinG_n (Ghost.fcell (i := 1) (k := 0) (j := 3) rfl rfl rfl) ?_ | refine joinG_n (Ghost.fcell (i := 1) (k := 1) (j := 3) rfl rfl rfl) ?_ | refine joinG_n (Ghost.fcell (i := 1) (k := 2) (j := 3) rfl rfl rfl) ?_ | refine joinG_n (Ghost.fcell (i := 1) (k := 3) (j := 3) rfl rfl rfl) ?_ | refine joinG_n (Ghost.fcell (i := 2) (k := 0) (j := 3) rfl rfl rfl) ?_ | refine joinG_n (Ghost.fcell (i := 2) (k := 1) (j := 3) rfl rfl rfl) ?_ | refine joinG_n (Ghost.fcell (i := 2) (k := 2) (j := 3) rfl rfl rfl) ?_ | refine joinG_n (Ghost.fcell (i := 2) (k := 3) (j := 3) rfl rfl rfl) ?_ | refine joinG_n (Ghost.fcell (i := 3) (k := 0) (j := 3) rfl rfl rfl) ?_ | refine joinG_n (Ghost.fcell (i := 3) (k := 1) (j := 3) rfl rfl rfl) ?_ | refine joinG_n (Ghost.fcell (i := 3) (k := 2) (j := 3) rfl rfl rfl) ?_ | refine joinG_n (Ghost.fcell (i := 3) (k := 3) (j := 3) rfl rfl rfl) ?_)
              (first | refine joinG_n (Ghost.fcell (i := 0) (k := 0) (j := 0) rfl rfl rfl) ?_ | refine joinG_n (Ghost.fcell (i := 0) (k := 1) (j := 0) rfl rfl rfl) ?_ | refine joinG_n (Ghost.fcell (i := 0) (k := 2) (j := 0) rfl rfl rfl) ?_ | refine joinG_n (Ghost.fcell (i := 0) (k := 3) (j := 0) rfl rfl rfl) ?_ | refine joinG_n (Ghost.fcell (i := 1) (k := 0) (j := 0) rfl rfl rfl) ?_ | refine joinG_n (Ghost.fcell (i := 1) (k := 1) (j := 0) rfl rfl rfl) ?_ | refine joinG_n (Ghost.fcell (i := 1) (k := 2) (j := 0) rfl rfl rfl) ?_ | refine joinG_n (Ghost.fcell (i := 1) (k := 3) (j := 0) rfl rfl rfl) ?_ | refine joinG_n (Ghost.fcell (i := 2) (k := 0) (j := 0) rfl rfl rfl) ?_ | refine joinG_n (Ghost.fcell (i := 2) (k := 1) (j := 0) rfl rfl rfl) ?_ | refine joinG_n (Ghost.fcell (i := 2) (k := 2) (j := 0) rfl rfl rfl) ?_ | refine joinG_n (Ghost.fcell (i := 2) (k := 3) (j := 0) rfl rfl rfl) ?_ | refine joinG_n (Ghost.fcell (i := 3) (k := 0) (j := 0) rfl rfl rfl) ?_ | refine joinG_n (Ghost.fcell (i := 3) (k := 1) (j := 0) rfl rfl rfl) ?_ | refine joinG_n (Ghost.fcell (i := 3) (k := 2) (j := 0) rfl rfl rfl) ?_ | refine joinG_n (Ghost.fcell (i := 3) (k := 3) (j := 0) rfl rfl rfl) ?_)
              refine joinG_z (⟨T ++ [y60], R, Wy, Pl, C, S⟩, a + 9) ⟨?_, by dsimp only; omega⟩ trivial (by repeat (first | exact keeps_refl | refine keeps_upd rfl ?_ | refine keeps_loop rfl rfl ?_)) ?_
              · exact good_roomT hT hPl (by omega) hTs hPs (by simp at hy60; rcases hy60 with rfl | rfl | rfl <;> simp)
              · repeat (first | exact List.Perm.nil | refine permTo 0 rfl ?_ | refine permTo 1 rfl ?_ | refine permTo 2 rfl ?_ | refine permTo 3 rfl ?_ | (refine permToE 0 rfl ?hq ?_; (case hq => simp [setL, hcells]; done)) | (refine permToE 1 rfl ?hq ?_; (case hq => simp [setL, hcells]; done)) | (refine permToE 2 rfl ?hq ?_; (case hq => simp [setL, hcells]; done)) | (refine permToE 3 rfl ?hq ?_; (case hq => simp [setL, hcells]; done)) | fail)
            · try simp at h6
              refine hw_reg ?_
              refine dp rfl (pop_eql rfl rfl) ?_
              refine dp rfl (pop_assign rfl) ?_
              refine dn ?_
              refine hw_cond rfl (fun h7 => ?_) (fun h8 => ?_)
              · try simp at h7
                refine hw_reg1 ?_
                refine dp rfl (pop_move rfl) ?_
                first
                | refine de rfl (eop_callx (i := 0) ca44 rfl (WeakL.refl _) rfl (c_benchmake_Stream_Odd (by first | assumption | omega | (simp; omega) | simp_all) (by first | assumption | omega | (simp; omega) | simp_all) (by first | assumption | omega | (simp; omega) | simp_all) (by first | assumption | omega | (simp; omega) | simp_all)) ?_)
                | refine de rfl (eop_callx (i := 1) ca44 rfl (WeakL.refl _) rfl (c_benchmake_Stream_Odd (by first | assumption | omega | (simp; omega) | simp_all) (by first | assumption | omega | (simp; omega) | simp_all) (by first | assumption | omega | (simp; omega) | simp_all) (by first | assumption | omega | (simp; omega) | simp_all)) ?_)
                | refine de rfl (eop_callx (i := 2) ca44 rfl (WeakL.refl _) rfl (c_benchmake_Stream_Odd (by first | assumption | omega | (simp; omega) | simp_all) (by first | assumption | omega | (simp; omega) | simp_all) (by first | assumption | omega | (simp; omega) | simp_all) (by first | assumption | omega | (simp; omega) | simp_all)) ?_)
                | refine de rfl (eop_callx (i := 3) ca44 rfl (WeakL.refl _) rfl (c_benchmake_Stream_Odd (by first | assumption | omega | (simp; omega) | simp_all) (by first | assumption | omega | (simp; omega) | simp_all) (by first | assumption | omega | (simp; omega) | simp_all) (by first | assumption | omega | (simp; omega) | simp_all)) ?_)
                rintro _ _ ⟨y67, rfl, rfl⟩
                refine dp rfl (pop_move rfl) ?_
                first
                | refine de rfl (eop_callx (i := 0) ca44 rfl (WeakL.refl _) rfl (c_benchmake_Stream_Odd (by first | assumption | omega | (simp; omega) | simp_all) (by first | assumption | omega | (simp; omega) | simp_all) (by first | assumption | omega | (simp; omega) | simp_all) (by first | assumption | omega | (simp; omega) | simp_all)) ?_)
                | refine de rfl (eop_callx (i := 1) ca44 rfl (WeakL.refl _) rfl (c_benchmake_Stream_Odd (by first | assumption | omega | (simp; omega) | simp_all) (by first | assumption | omega | (simp; omega) | simp_all) (by first | assumption | omega | (simp; omega) | simp_all) (by first | assumption | omega | (simp; omega) | simp_all)) ?_)
                | refine de rfl (eop_callx (i := 2) ca44 rfl (WeakL.refl _) rfl (c_benchmake_Stream_Odd (by first | assumption | omega | (simp; omega) | simp_all) (by first | assumption | omega | (simp; omega) | simp_all) (by first | assumption | omega | (simp; omega) | simp_all) (by first | assumption | omega | (simp; omega) | simp_all)) ?_)
                | refine de rfl (eop_callx (i := 3) ca44 rfl (WeakL.refl _) rfl (c_benchmake_Stream_Odd (by first | assumption | omega | (simp; omega) | simp_all) (by first | assumption | omega | (simp; omega) | simp_all) (by first | assumption | omega | (simp; omega) | simp_all) (by first | assumption | omega | (simp; omega) | simp_all)) ?_)
                rintro _ _ ⟨y69, rfl, rfl⟩
                refine dp rfl (pop_fieldAddr_raw ty28 rfl ty3 (by decide) rfl) ?_
                first
                | refine de0 (eop_store (i := 0) ty3 rfl rfl rfl rfl rfl (Nat.le_of_ble_eq_true rfl) ?_)
                | refine de0 (eop_store (i := 1) ty3 rfl rfl rfl rfl rfl (Nat.le_of_ble_eq_true rfl) ?_)
                | refine de0 (eop_store (i := 2) ty3 rfl rfl rfl rfl rfl (Nat.le_of_ble_eq_true rfl) ?_)
                | refine de0 (eop_store (i := 3) ty3 rfl rfl rfl rfl rfl (Nat.le_of_ble_eq_true rfl) ?_)
                refine dp rfl (pop_fieldAddr_raw ty28 rfl ty3 (by decide) rfl) ?_
                first
                | refine de0 (eop_store (i := 0) ty3 rfl rfl rfl rfl rfl (Nat.le_of_ble_eq_true rfl) ?_)
                | refine de0 (eop_store (i := 1) ty3 rfl rfl rfl rfl rfl (Nat.le_of_ble_eq_true rfl) ?_)
                | refine de0 (eop_store (i := 2) ty3 rfl rfl rfl rfl rfl (Nat.le_of_ble_eq_true rfl) ?_)
                | refine de0 (eop_store (i := 3) ty3 rfl rfl rfl rfl rfl (Nat.le_of_ble_eq_true rfl) ?_)
                refine dn ?_
                refine blockQ_n ?_
                (first | refine joinG_n (Ghost.fcell (i := 0) (k := 0) (j := 3) rfl rfl rfl) ?_ | refine joinG_n (Ghost.fcell (i := 0) (k := 1) (j := 3) rfl rfl rfl) ?_ | refine joinG_n (Ghost.fcell (i := 0) (k := 2) (j := 3) rfl rfl rfl) ?_ | refine joinG_n (Ghost.fcell (i := 0) (k := 3) (j := 3) rfl rfl rfl) ?_ | refine joinG_n (Ghost.fcell (i := 1) (k := 0) (j := 3) rfl rfl rfl) ?_ | refine joinG_n (Ghost.fcell (i := 1) (k := 1) (j := 3) rfl rfl rfl) ?_ | refine joinG_n (Ghost.fcell (i := 1) (k := 2) (j := 3) rfl rfl rfl) ?_ | refine joinG_n (Ghost.fcell (i := 1) (k := 3) (j := 3) rfl rfl rfl) ?_ | refine joinG_n (Ghost.fcell (i := 2) (k := 0) (j := 3) rfl rfl rfl) ?_ | refine joinG_n (Ghost.fcell (i := 2) (k := 1) (j := 3) rfl rfl rfl) ?_ | refine joinG_n (Ghost.fcell (i := 2) (k := 2) (j := 3) rfl rfl rfl) ?_ | refine joinG_n (Ghost.fcell (i := 2) (k := 3) (j := 3) rfl rfl rfl) ?_ | refine joinG_n (Ghost.fcell (i := 3) (k := 0) (j := 3) rfl rfl rfl) ?_ | refine joinG_n (Ghost.fcell (i := 3) (k := 1) (j := 3) rfl rfl rfl) ?_ | refine joinG_n (Ghost.fcell (i := 3) (k := 2) (j := 3) rfl rfl rfl) ?_ | refine joinG_n (Ghost.fcell (i := 3) (k := 3) (j := 3) rfl rfl rfl) ?_)
                refine joinG_z (⟨T, y67, y69, Pl, C, S⟩, a + 12) ⟨?_, by dsimp only; omega⟩ trivial (by repeat (first | exact keeps_refl | refine keeps_upd rfl ?_ | refine keeps_loop rfl rfl ?_)) ?_
                · exact good_room hT hPl (by omega) hTs hPs
                · repeat (first | exact List.Perm.nil | refine permTo 0 rfl ?_ | refine permTo 1 rfl ?_ | refine permTo 2 rfl ?_ | refine permTo 3 rfl ?_ | (refine permToE 0 rfl ?hq ?_; (case hq => simp [setL, hcells]; done)) | (refine permToE 1 rfl ?hq ?_; (case hq => simp [setL, hcells]; done)) | (refine permToE 2 rfl ?hq ?_; (case hq => simp [setL, hcells]; done)) | (refine permToE 3 rfl ?hq ?_; (case hq => simp [setL, hcells]; done)) | fail)
              · try simp at h8
                refine hw_reg ?_
                refine dp rfl (pop_eql rfl rfl) ?_
                refine dp rfl (pop_assign rfl) ?_
                refine dn ?_
                refine hw_cond rfl (fun h9 => ?_) (fun h10 => ?_)
                · try simp at h9
                  obtain ⟨Px, Pt, rfl⟩ : ∃ x t, Pl = x :: t := by
                    cases Pl with
                    | nil => simp at hPl; omega
                    | cons x t => exact ⟨x, t, rfl⟩
                  have hPt : Pt.length = k - 1 := by simp at hPl; omega
                  have hPts : ∀ s ∈ Pt, s.length ≤ 100 := fun s hs => hPs s (List.mem_cons_of_mem _ hs)
                  refine hw_arrc (i := 1) rfl (fun h0 he => ?_) (fun bb off cap hv hcap => ?_)
                  · exfalso; simp at he
                  subst hv
                  refine hw_ghost (Ghost.perm (List.Perm.swap _ _ _)) ?_
                  refine hw_ghost (Ghost.tail (x := .str Px) (es := Pt.map .str)) ?_
                  simp only [List.map_cons, List.length_cons] at hcap
                  refine hw_draw1 (fun M => ∃ i : Nat, M[i]? = some (RoomC b3 (eSs (T)) R Wy (.raw (.slice (some ⟨bb, off, none⟩) ((Px :: Pt).map HVal.str).length cap)) C S)) [1] mixed ?_
                  refine ahp 0 rfl rfl (by kernel_rfl) (by kernel_rfl) (pop_fieldAddr_raw ty28 rfl ty26 (by decide) rfl) ?_
                  refine ahl 1 rfl rfl (by kernel_rfl) (by kernel_rfl) (by simp) (by first | exact ⟨0, rfl⟩ | exact ⟨1, rfl⟩ | exact ⟨2, rfl⟩) (fun M hM => by obtain ⟨i, hi⟩ := hM; exact eop_load (i := i) ty26 rfl hi (.inl ⟨rfl, rfl⟩) ⟨rfl, rfl⟩) ?_
                  refine ahp 2 rfl rfl (by kernel_rfl) (by kernel_rfl) (pop_tail (n := (Pt.map HVal.str).length) ty26 ty9 rfl hcap) ?_
                  refine ahp 3 rfl rfl (by kernel_rfl) (by kernel_rfl) (pop_move rfl) ?_
                  refine ahp 4 rfl rfl (by kernel_rfl) (by kernel_rfl) (pop_buildSlice (hs := [_, _, _]) ty26 ty9 rfl rfl (by decide) (by decide) rfl) ?_
                  refine ahe 5 rfl (by kernel_rfl) ?_
                  first
                  | refine hop_e rfl (eop_callx (i := 0) ca43 rfl (WeakL.refl _) rfl (c_benchmake_Stream_Some (L := [_, _, _]) (by first | assumption | omega | (simp; omega) | simp_all) (by first | assumption | omega | (simp; omega) | simp_all) (by first | assumption | omega | (simp; omega) | simp_all)) ?_)
                  | refine hop_e rfl (eop_callx (i := 1) ca43 rfl (WeakL.refl _) rfl (c_benchmake_Stream_Some (L := [_, _, _]) (by first | assumption | omega | (simp; omega) | simp_all) (by first | assumption | omega | (simp; omega) | simp_all) (by first | assumption | omega | (simp; omega) | simp_all)) ?_)
                  | refine hop_e rfl (eop_callx (i := 2) ca43 rfl (WeakL.refl _) rfl (c_benchmake_Stream_Some (L := [_, _, _]) (by first | assumption | omega | (simp; omega) | simp_all) (by first | assumption | omega | (simp; omega) | simp_all) (by first | assumption | omega | (simp; omega) | simp_all)) ?_)
                  | refine hop_e rfl (eop_callx (i := 3) ca43 rfl (WeakL.refl _) rfl (c_benchmake_Stream_Some (L := [_, _, _]) (by first | assumption | omega | (simp; omega) | simp_all) (by first | assumption | omega | (simp; omega) | simp_all) (by first | assumption | omega | (simp; omega) | simp_all)) ?_)
                  rintro _ _ ⟨y79, rfl, hy79, rfl⟩
                  refine ⟨fun _ => by first | exact .inl ⟨0, rfl⟩ | exact .inl ⟨1, rfl⟩ | exact .inl ⟨2, rfl⟩ | exact .inr (by simp [Before, Region.binds]), ?_⟩
                  refine ahp 6 rfl rfl (by kernel_rfl) (by kernel_rfl) (pop_buildSlice (hs := [_]) ty26 ty9 rfl rfl (by decide) (by decide) rfl) ?_
                  refine ahe 7 rfl (by kernel_rfl) ?_
                  first
                  | refine hop_e rfl (eop_append (i := 0) ty26 ty9 rfl rfl rfl rfl rfl (by simp [flat, hcells]) (by first | omega | (simp; omega)) fun v81 => ?_)
                  | refine hop_e rfl (eop_append (i := 1) ty26 ty9 rfl rfl rfl rfl rfl (by simp [flat, hcells]) (by first | omega | (simp; omega)) fun v81 => ?_)
                  | refine hop_e rfl (eop_append (i := 2) ty26 ty9 rfl rfl rfl rfl rfl (by simp [flat, hcells]) (by first | omega | (simp; omega)) fun v81 => ?_)
                  | refine hop_e rfl (eop_append (i := 3) ty26 ty9 rfl rfl rfl rfl rfl (by simp [flat, hcells]) (by first | omega | (simp; omega)) fun v81 => ?_)
                  refine ⟨fun _ => by first | exact .inl ⟨0, rfl⟩ | exact .inl ⟨1, rfl⟩ | exact .inl ⟨2, rfl⟩ | exact .inr (by simp [Before, Region.binds]), ?_⟩
                  refine ahp 8 rfl rfl (by kernel_rfl) (by kernel_rfl) (pop_fieldAddr_raw ty28 rfl ty26 (by decide) rfl) ?_
                  refine ahe 9 rfl (by kernel_rfl) ?_
                  first
                  | refine hop_e0 (eop_store (i := 0) ty26 rfl rfl rfl rfl rfl (Nat.le_of_ble_eq_true rfl) ?_)
                  | refine hop_e0 (eop_store (i := 1) ty26 rfl rfl rfl rfl rfl (Nat.le_of_ble_eq_true rfl) ?_)
                  | refine hop_e0 (eop_store (i := 2) ty26 rfl rfl rfl rfl rfl (Nat.le_of_ble_eq_true rfl) ?_)
                  | refine hop_e0 (eop_store (i := 3) ty26 rfl rfl rfl rfl rfl (Nat.le_of_ble_eq_true rfl) ?_)
                  refine ⟨fun _ => by first | exact .inl ⟨0, rfl⟩ | exact .inl ⟨1, rfl⟩ | exact .inl ⟨2, rfl⟩ | exact .inr (by simp [Before, Region.binds]), ?_⟩
                  refine ahz (by kernel_rfl) ?_
                  refine blockQ_n ?_
                  (first | refine joinG_n (Ghost.fcell (i := 0) (k := 0) (j := 3) rfl rfl rfl) ?_ | refine joinG_n (Ghost.fcell (i := 0) (k := 1) (j := 3) rfl rfl rfl) ?_ | refine joinG_n (Ghost.fcell (i := 0) (k := 2) (j := 3) rfl rfl rfl) ?_ | refine joinG_n (Ghost.fcell (i := 0) (k := 3) (j := 3) rfl rfl rfl) ?_ | refine joinG_n (Ghost.fcell (i := 1) (k := 0) (j := 3) rfl rfl rfl) ?_ | refine joinG_n (Ghost.fcell (i := 1) (k := 1) (j := 3) rfl rfl rfl) ?_ | refine joinG_n (Ghost.fcell (i := 1) (k := 2) (j := 3) rfl rfl rfl) ?_ | refine joinG_n (Ghost.fcell (i := 1) (k := 3) (j := 3) rfl rfl rfl) ?_ | refine joinG_n (Ghost.fcell (i := 2) (k := 0) (j := 3) rfl rfl rfl) ?_ | refine joinG_n (Ghost.fcell (i := 2) (k := 1) (j := 3) rfl rfl rfl) ?_ | refine joinG_n (Ghost.fcell (i := 2) (k := 2) (j := 3) rfl rfl rfl) ?_ | refine joinG_n (Ghost.fcell (i := 2) (k := 3) (j := 3) rfl rfl rfl) ?_ | refine joinG_n (Ghost.fcell (i := 3) (k := 0) (j := 3) rfl rfl rfl) ?_ | refine joinG_n (Ghost.fcell (i := 3) (k := 1) (j := 3) rfl rfl rfl) ?_ | refine joinG_n (Ghost.fcell (i := 3) (k := 2) (j := 3) rfl rfl rfl) ?_ | refine joinG_n (Ghost.fcell (i := 3) (k := 3) (j := 3) rfl rfl rfl) ?_)
                  refine joinG_z (⟨T, R, Wy, Pt ++ [y79], C, S⟩, a + 9) ⟨?_, by dsimp only; omega⟩ trivial (by repeat (first | exact keeps_refl | refine keeps_upd rfl ?_ | refine keeps_loop rfl rfl ?_)) ?_
                  · exact good_roomP hT hPt (by omega) hTs hPts (by simp at hy79; rcases hy79 with rfl | rfl | rfl <;> simp)
                  · repeat (first | exact List.Perm.nil | refine permTo 0 rfl ?_ | refine permTo 1 rfl ?_ | refine permTo 2 rfl ?_ | refine permTo 3 rfl ?_ | (refine permToE 0 rfl ?hq ?_; (case hq => simp [setL, hcells]; done)) | (refine permToE 1 rfl ?hq ?_; (case hq => simp [setL, hcells]; done)) | (refine permToE 2 rfl ?hq ?_; (case hq => simp [setL, hcells]; done)) | (refine permToE 3 rfl ?hq ?_; (case hq => simp [setL, hcells]; done)) | fail)
                · try simp at h10
                  refine hw_reg1 ?_
                  refine dp rfl (pop_move rfl) ?_
                  first
                  | refine de rfl (eop_callx (i := 0) ca44 rfl (WeakL.refl _) rfl (c_benchmake_Stream_Odd (by first | assumption | omega | (simp; omega) | simp_all) (by first | assumption | omega | (simp; omega) | simp_all) (by first | assumption | omega | (simp; omega) | simp_all) (by first | assumption | omega | (simp; omega) | simp_all)) ?_)
                  | refine de rfl (eop_callx (i := 1) ca44 rfl (WeakL.refl _) rfl (c_benchmake_Stream_Odd (by first | assumption | omega | (simp; omega) | simp_all) (by first | assumption | omega | (simp; omega) | simp_all) (by first | assumption | omega | (simp; omega) | simp_all) (by first | assumption | omega | (simp; omega) | simp_all)) ?_)
                  | refine de rfl (eop_callx (i := 2) ca44 rfl (WeakL.refl _) rfl (c_benchmake_Stream_Odd (by first | assumption | omega | (simp; omega) | simp_all) (by first | assumption | omega | (simp; omega) | simp_all) (by first | assumption | omega | (simp; omega) | simp_all) (by first | assumption | omega | (simp; omega) | simp_all)) ?_)
                  | refine de rfl (eop_callx (i := 3) ca44 rfl (WeakL.refl _) rfl (c_benchmake_Stream_Odd (by first | assumption | omega | (simp; omega) | simp_all) (by first | assumption | omega | (simp; omega) | simp_all) (by first | assumption | omega | (simp; omega) | simp_all) (by first | assumption | omega | (simp; omega) | simp_all)) ?_)
                  rintro _ _ ⟨y48, rfl, rfl⟩
                  refine dp rfl (pop_move rfl) ?_
                  first
                  | refine de rfl (eop_callx (i := 0) ca44 rfl (WeakL.refl _) rfl (c_benchmake_Stream_Odd (by first | assumption | omega | (simp; omega) | simp_all) (by first | assumption | omega | (simp; omega) | simp_all) (by first | assumption | omega | (simp; omega) | simp_all) (by first | assumption | omega | (simp; omega) | simp_all)) ?_)
                  | refine de rfl (eop_callx (i := 1) ca44 rfl (WeakL.refl _) rfl (c_benchmake_Stream_Odd (by first | assumption | omega | (simp; omega) | simp_all) (by first | assumption | omega | (simp; omega) | simp_all) (by first | assumption | omega | (simp; omega) | simp_all) (by first | assumption | omega | (simp; omega) | simp_all)) ?_)
                  | refine de rfl (eop_callx (i := 2) ca44 rfl (WeakL.refl _) rfl (c_benchmake_Stream_Odd (by first | assumption | omega | (simp; omega) | simp_all) (by first | assumption | omega | (simp; omega) | simp_all) (by first | assumption | omega | (simp; omega) | simp_all) (by first | assumption | omega | (simp; omega) | simp_all)) ?_)
                  | refine de rfl (eop_callx (i := 3) ca44 rfl (WeakL.refl _) rfl (c_benchmake_Stream_Odd (by first | assumption | omega | (simp; omega) | simp_all) (by first | assumption | omega | (simp; omega) | simp_all) (by first | assumption | omega | (simp; omega) | simp_all) (by first | assumption | omega | (simp; omega) | simp_all)) ?_)
                  rintro _ _ ⟨y50, rfl, rfl⟩
                  refine dp rfl (pop_fieldAddr_raw ty28 rfl ty3 (by decide) rfl) ?_
                  first
                  | refine de0 (eop_store (i := 0) ty3 rfl rfl rfl rfl rfl (Nat.le_of_ble_eq_true rfl) ?_)
                  | refine de0 (eop_store (i := 1) ty3 rfl rfl rfl rfl rfl (Nat.le_of_ble_eq_true rfl) ?_)
                  | refine de0 (eop_store (i := 2) ty3 rfl rfl rfl rfl rfl (Nat.le_of_ble_eq_true rfl) ?_)
                  | refine de0 (eop_store (i := 3) ty3 rfl rfl rfl rfl rfl (Nat.le_of_ble_eq_true rfl) ?_)
                  refine dp rfl (pop_fieldAddr_raw ty28 rfl ty3 (by decide) rfl) ?_
                  first
                  | refine de0 (eop_store (i := 0) ty3 rfl rfl rfl rfl rfl (Nat.le_of_ble_eq_true rfl) ?_)
                  | refine de0 (eop_store (i := 1) ty3 rfl rfl rfl rfl rfl (Nat.le_of_ble_eq_true rfl) ?_)
                  | refine de0 (eop_store (i := 2) ty3 rfl rfl rfl rfl rfl (Nat.le_of_ble_eq_true rfl) ?_)
                  | refine de0 (eop_store (i := 3) ty3 rfl rfl rfl rfl rfl (Nat.le_of_ble_eq_true rfl) ?_)
                  refine dn ?_
                  refine blockQ_n ?_
                  (first | refine joinG_n (Ghost.fcell (i := 0) (k := 0) (j := 3) rfl rfl rfl) ?_ | refine joinG_n (Ghost.fcell (i := 0) (k := 1) (j := 3) rfl rfl rfl) ?_ | refine joinG_n (Ghost.fcell (i := 0) (k := 2) (j := 3) rfl rfl rfl) ?_ | refine joinG_n (Ghost.fcell (i := 0) (k := 3) (j := 3) rfl rfl rfl) ?_ | refine joinG_n (Ghost.fcell (i := 1) (k := 0) (j := 3) rfl rfl rfl) ?_ | refine joinG_n (Ghost.fcell (i := 1) (k := 1) (j := 3) rfl rfl rfl) ?_ | refine joinG_n (Ghost.fcell (i := 1) (k := 2) (j := 3) rfl rfl rfl) ?_ | refine joinG_n (Ghost.fcell (i := 1) (k := 3) (j := 3) rfl rfl rfl) ?_ | refine joinG_n (Ghost.fcell (i := 2) (k := 0) (j := 3) rfl rfl rfl) ?_ | refine joinG_n (Ghost.fcell (i := 2) (k := 1) (j := 3) rfl rfl rfl) ?_ | refine joinG_n (Ghost.fcell (i := 2) (k := 2) (j := 3) rfl rfl rfl) ?_ | refine joinG_n (Ghost.fcell (i := 2) (k := 3) (j := 3) rfl rfl rfl) ?_ | refine joinG_n (Ghost.fcell (i := 3) (k := 0) (j := 3) rfl rfl rfl) ?_ | refine joinG_n (Ghost.fcell (i := 3) (k := 1) (j := 3) rfl rfl rfl) ?_ | refine joinG_n (Ghost.fcell (i := 3) (k := 2) (j := 3) rfl rfl rfl) ?_ | refine joinG_n (Ghost.fcell (i := 3) (k := 3) (j := 3) rfl rfl rfl) ?_)
                  refine joinG_z (⟨T, R, Wy, Pl, y48, y50⟩, a + 12) ⟨?_, by dsimp only; omega⟩ trivial (by repeat (first | exact keeps_refl | refine keeps_upd rfl ?_ | refine keeps_loop rfl rfl ?_)) ?_
                  · exact good_room hT hPl (by omega) hTs hPs
                  · repeat (first | exact List.Perm.nil | refine permTo 0 rfl ?_ | refine permTo 1 rfl ?_ | refine permTo 2 rfl ?_ | refine permTo 3 rfl ?_ | (refine permToE 0 rfl ?hq ?_; (case hq => simp [setL, hcells]; done)) | (refine permToE 1 rfl ?hq ?_; (case hq => simp [setL, hcells]; done)) | (refine permToE 2 rfl ?hq ?_; (case hq => simp [setL, hcells]; done)) | (refine permToE 3 rfl ?hq ?_; (case hq => simp [setL, hcells]; done)) | fail)
          · try simp at h4
            refine hw_skip ?_
            (first | refine joinG_n (Ghost.fcell (i := 0) (k := 0) (j := 3) rfl rfl rfl) ?_ | refine joinG_n (Ghost.fcell (i := 0) (k := 1) (j := 3) rfl rfl rfl) ?_ | refine joinG_n (Ghost.fcell (i := 0) (k := 2) (j := 3) rfl rfl rfl) ?_ | refine joinG_n (Ghost.fcell (i := 0) (k := 3) (j := 3) rfl rfl rfl) ?_ | refine joinG_n (Ghost.fcell (i := 1) (k := 0) (j := 3) rfl rfl rfl) ?_ | refine joinG_n (Ghost.fcell (i := 1) (k := 1) (j := 3) rfl rfl rfl) ?_ | refine joinG_n (Ghost.fcell (i := 1) (k := 2) (j := 3) rfl rfl rfl) ?_ | refine joinG_n (Ghost.fcell (i := 1) (k := 3) (j := 3) rfl rfl rfl) ?_ | refine joinG_n (Ghost.fcell (i := 2) (k := 0) (j := 3) rfl rfl rfl) ?_ | refine joinG_n (Ghost.fcell (i := 2) (k := 1) (j := 3) rfl rfl rfl) ?_ | refine joinG_n (Ghost.fcell (i := 2) (k := 2) (j := 3) rfl rfl rfl) ?_ | refine joinG_n (Ghost.fcell (i := 2) (k := 3) (j := 3) rfl rfl rfl) ?_ | refine joinG_n (Ghost.fcell (i := 3) (k := 0) (j := 3) rfl rfl rfl) ?_ | refine joinG_n (Ghost.fcell (i := 3) (k := 1) (j := 3) rfl rfl rfl) ?_ | refine joinG_n (Ghost.fcell (i := 3) (k := 2) (j := 3) rfl rfl rfl) ?_ | refine joinG_n (Ghost.fcell (i := 3) (k := 3) (j := 3) rfl rfl rfl) ?_)
            refine joinG_z (⟨T, R, Wy, Pl, C, S⟩, a + 7) ⟨?_, by dsimp only; omega⟩ trivial (by repeat (first | exact keeps_refl | refine keeps_upd rfl ?_ | refine keeps_loop rfl rfl ?_)) ?_
            · exact good_room hT hPl (by omega) hTs hPs
            · repeat (first | exact List.Perm.nil | refine permTo 0 rfl ?_ | refine permTo 1 rfl ?_ | refine permTo 2 rfl ?_ | refine permTo 3 rfl ?_ | (refine permToE 0 rfl ?hq ?_; (case hq => simp [setL, hcells]; done)) | (refine permToE 1 rfl ?hq ?_; (case hq => simp [setL, hcells]; done)) | (refine permToE 2 rfl ?hq ?_; (case hq => simp [setL, hcells]; done)) | (refine permToE 3 rfl ?hq ?_; (case hq => simp [setL, hcells]; done)) | fail)
        · intro q hq2
          obtain ⟨r, a2⟩ := q
          dsimp only at hq2
          refine hw_reg ?_
          first
          | refine de rfl (eop_loadw (i := 0) ty28 rfl rfl rfl rfl rfl ?_)
          | refine de rfl (eop_loadw (i := 1) ty28 rfl rfl rfl rfl rfl ?_)
          | refine de rfl (eop_loadw (i := 2) ty28 rfl rfl rfl rfl rfl ?_)
          | refine de rfl (eop_loadw (i := 3) ty28 rfl rfl rfl rfl rfl ?_)
          first
          | refine de0 (eop_store (i := 0) ty28 rfl rfl rfl rfl rfl (Nat.le_of_ble_eq_true rfl) ?_)
          | refine de0 (eop_store (i := 1) ty28 rfl rfl rfl rfl rfl (Nat.le_of_ble_eq_true rfl) ?_)
          | refine de0 (eop_store (i := 2) ty28 rfl rfl rfl rfl rfl (Nat.le_of_ble_eq_true rfl) ?_)
          | refine de0 (eop_store (i := 3) ty28 rfl rfl rfl rfl rfl (Nat.le_of_ble_eq_true rfl) ?_)
          refine dn ?_
          refine hw_ret ?_
          exact ⟨_, _, (Ghost.drop).trans (Ghost.fc0 2 rfl), [_], _, ⟨⟨_, _, _, _, _, rfl, ty28, .inr ⟨rfl, rfl, rfl⟩⟩, trivial⟩, Weak.refl _, r, a2, rfl, hq2.1, hq2.2, rfl⟩
end Go.Proofs.YtoomadfbldcioaaGreatDoor
end
section
namespace Go.Proofs.YtoomadfbldcioaaGreatDoor
open Go.HL
set_option maxRecDepth 100000
set_option linter.unusedVariables false
set_option linter.unusedSimpArgs false
/-- benchwarmer/benchref1.SwapsFault -/
theorem c_benchref1_SwapsFault {r : Room} {l : List Swap} (ht : r.Teams.length ≤ 1000000) (hp : r.Players.length ≤ 1000000) (hl : l.length ≤ 1000000) : ConP Tryz.prog 129 [eRoom r, eSwaps l] (.int .i64 (refSwaps r l)) := by
  refine Con.of_body Tryz.func129 rfl Tryz.ntmps129 rfl rfl ?_
  refine hw_reg ?_
  refine dp rfl (pop_box rfl rfl) ?_
  refine dp rfl (pop_assign rfl) ?_
  refine dn ?_
  refine hw_seq ?_
  refine hw_reg ?_
  refine dp rfl (pop_move rfl) ?_
  refine dp rfl (pop_lenm ty32 rfl) ?_
  refine dp rfl (pop_gtr rfl rfl) ?_
  refine dn ?_
  refine hw_cond rfl (fun h1 => ?_) (fun h2 => ?_)
  · try simp at h1
    refine hw_reg ?_
    refine dp rfl (pop_assign rfl) ?_
    refine dn ?_
    refine hw_ret ?_
    refine ret_p rfl ?_
    show HVal.int .i64 _ = _
    first | (rw [refSwaps, if_pos (by omega)]; done) | (rw [hg, swapsGo]; simp_all; done) | (rw [hg]; rfl)
  · try simp at h2
    refine hw_skip ?_
    refine seqQ_n ?_
    refine hw_seq ?_
    refine hw_reg ?_
    refine dp rfl (pop_move rfl) ?_
    refine dp rfl (pop_lenm ty32 rfl) ?_
    refine dp rfl (pop_move rfl) ?_
    refine dn ?_
    refine hw_block ?_
    refine hw_loopw [4, 5, 6, 12, 13, 14, 15, 16, 17, 18, 19, 20, 21, 22, 23, 24, 25, 26, 27, 28, 29, 30, 31, 32, 33, 34, 35, 36, 37, 38, 39, 40, 41, 42, 43, 44, 45, 46, 47, 48, 49, 50, 51, 52, 53, 54, 55, 56, 57, 58, 59, 60, 61, 62, 63, 64, 65] (fun (k : Nat) => [(12, .int .i64 k)]) (fun (k : Nat) => []) (fun (k : Nat) => k ≤ l.length ∧ (refSwaps r l = swapsGo r l k (l.drop k))) (fun (k : Nat) => l.length - k) (0) ?_ ?_ ?_ ?_
    · refine ⟨Nat.zero_le _, ?_⟩
      rw [refSwaps, if_neg (by omega)]; rfl
    · exact ⟨rfl, trivial⟩
    · exact List.Perm.refl _
    · intro k hinv
      obtain ⟨hk, hg⟩ := hinv
      refine hw_reg ?_
      refine dp rfl (pop_lss rfl rfl) ?_
      refine dn ?_
      refine hw_seq ?_
      refine hw_cond rfl (fun h3 => ?_) (fun h4 => ?_)
      · try simp at h3
        obtain ⟨x, hx⟩ : ∃ x, l[k]? = some x := ⟨_, List.getElem?_eq_getElem h3⟩
        have hdx := drop_cons hx
        rw [hdx] at hg
        refine hw_skip ?_
        refine seqQ_n ?_
        refine hw_seq ?_
        refine hw_block ?_
        refine hw_reg ?_
        refine dp rfl (pop_move rfl) ?_
        refine dp rfl (pop_idx ty32 ty92 rfl rfl rfl (by first | assumption | simp_all)) ?_
        refine dp rfl (pop_loadw ty92 rfl rfl rfl rfl) ?_
        refine de rfl (eop_alloc ty92 rfl fun b6 => ?_)
        refine dp rfl (pop_assign rfl) ?_
        refine de0 (eop_storew ty92 rfl rfl rfl rfl rfl ?_)
        refine dn ?_
        refine hw_ghost (Ghost.fc0 6 rfl) ?_
        refine hw_block ?_
        refine hw_reg ?_
        refine dp rfl (pop_fieldAddr ty92 rfl ty3 (by decide) rfl) ?_
        refine dp rfl (pop_load ty3 rfl rfl rfl) ?_
        refine dp rfl (pop_fieldAddr ty28 rfl ty3 (by decide) rfl) ?_
        refine dp rfl (pop_load ty3 rfl rfl rfl) ?_
        refine dp rfl (pop_call ca51 rfl (WeakL.refl _) c_benchref1_in) ?_
        refine dp rfl (pop_not rfl) ?_
        refine dp rfl (pop_assign rfl) ?_
        refine dn ?_
        refine hw_cond rfl (fun h5 => ?_) (fun h6 => ?_)
        · try simp at h5
          refine hw_reg ?_
          refine dp rfl (pop_assign rfl) ?_
          refine dn ?_
          refine hw_ret ?_
          refine ret_p rfl ?_
          show HVal.int .i64 _ = _
          first | (rw [refSwaps, if_pos (by omega)]; done) | (rw [hg, swapsGo]; simp_all; done) | (rw [hg]; rfl)
        · try simp at h6
          refine hw_reg ?_
          refine dp rfl (pop_fieldAddr ty28 rfl ty26 (by decide) rfl) ?_
          refine dp rfl (pop_load ty26 rfl rfl rfl) ?_
          refine dp rfl (pop_fieldAddr ty92 rfl ty9 (by decide) rfl) ?_
          refine dp rfl (pop_load ty9 rfl rfl rfl) ?_
          refine dp rfl (pop_call ca53 rfl (WeakL.refl _) (c_slices_Contains_string_string (by first | assumption | omega | (simp; omega) | simp_all))) ?_
          refine dp rfl (pop_not rfl) ?_
          refine dp rfl (pop_move rfl) ?_
          refine dg rfl rfl (fun hc => ⟨_, OpenTo.refl _, pop_fieldAddr ty28 rfl ty26 (by decide) rfl⟩) ?_
          refine dg rfl rfl (fun hc => ⟨_, OpenTo.upd (t := 32) rfl (by first | exact hc | simp_all) (OpenTo.refl _), pop_load ty26 rfl rfl rfl⟩) ?_
          refine dg rfl rfl (fun hc => ⟨_, OpenTo.refl _, pop_fieldAddr ty92 rfl ty9 (by decide) rfl⟩) ?_
          refine dg rfl rfl (fun hc => ⟨_, OpenTo.upd (t := 34) rfl (by first | exact hc | simp_all) (OpenTo.refl _), pop_load ty9 rfl rfl rfl⟩) ?_
          refine dg rfl rfl (fun hc => by have hq := hc; (try simp at hq); exact ⟨_, OpenTo.upd (t := 35) rfl (by first | exact hc | simp_all) (OpenTo.upd (t := 33) rfl (by first | exact hc | simp_all) (OpenTo.refl _)), pop_call ca53 rfl (WeakL.refl _) (c_slices_Contains_string_string (by first | assumption | omega | (simp; omega) | simp_all))⟩) ?_
          refine dg rfl rfl (fun hc => ⟨_, OpenTo.upd (t := 36) rfl (by first | exact hc | simp_all) (OpenTo.refl _), pop_not rfl⟩) ?_
          refine dp rfl (pop_picko rfl (.inl rfl) (.inr ⟨_, rfl, fun h => by simp_all⟩)) ?_
          refine dp rfl (pop_assign rfl) ?_
          refine dn ?_
          refine hw_cond rfl (fun h7 => ?_) (fun h8 => ?_)
          · try simp at h7
            refine hw_reg ?_
            refine dp rfl (pop_assign rfl) ?_
            refine dn ?_
            refine hw_ret ?_
            refine ret_p rfl ?_
            show HVal.int .i64 _ = _
            first | (rw [refSwaps, if_pos (by omega)]; done) | (rw [hg, swapsGo]; simp_all; done) | (rw [hg]; rfl)
          · try simp at h8
            refine hw_draw (fun _ => True) [] mixed ?_
            refine ahp 0 rfl rfl (by kernel_rfl) (by kernel_rfl) (pop_move rfl) ?_
            refine ahp 1 rfl rfl (by kernel_rfl) (by kernel_rfl) (pop_gtr rfl rfl) ?_
            refine ahp 2 rfl rfl (by kernel_rfl) (by kernel_rfl) (pop_move rfl) ?_
            refine ahg 3 rfl rfl (by kernel_rfl) (by kernel_rfl) rfl (fun hc => ⟨_, OpenTo.refl _, pop_move rfl⟩) ?_
            refine ahg 4 rfl rfl (by kernel_rfl) (by kernel_rfl) rfl (fun hc => ⟨_, OpenTo.refl _, pop_move rfl⟩) ?_
            refine ahg 5 rfl rfl (by kernel_rfl) (by kernel_rfl) rfl (fun hc => by have hq := hc; (try simp at hq); exact ⟨_, OpenTo.upd (t := 44) rfl (by first | exact hc | simp_all) (OpenTo.refl _), pop_sub64 rfl rfl (by omega) (by omega)⟩) ?_
            refine ahg 6 rfl rfl (by kernel_rfl) (by kernel_rfl) rfl (fun hc => by have hq := hc; (try simp at hq); exact ⟨_, OpenTo.upd (t := 45) rfl (by first | exact hc | simp_all) (OpenTo.upd (t := 43) rfl (by first | exact hc | simp_all) (OpenTo.refl _)), pop_idx (j := k - 1) (a := l.getD (k - 1) swap0) ty32 ty92 rfl rfl (by omega) (getD_some (by omega))⟩) ?_
            refine ahg 7 rfl rfl (by kernel_rfl) (by kernel_rfl) rfl (fun hc => ⟨_, OpenTo.upd (t := 46) rfl (by first | exact hc | simp_all) (OpenTo.refl _), pop_fieldAddr ty92 rfl ty3 (by decide) rfl⟩) ?_
            refine ahg 8 rfl rfl (by kernel_rfl) (by kernel_rfl) rfl (fun hc => ⟨_, OpenTo.upd (t := 47) rfl (by first | exact hc | simp_all) (OpenTo.refl _), pop_load ty3 rfl rfl rfl⟩) ?_
            refine ahg 9 rfl rfl (by kernel_rfl) (by kernel_rfl) rfl (fun hc => ⟨_, OpenTo.refl _, pop_fieldAddr ty92 rfl ty3 (by decide) rfl⟩) ?_
            refine ahg 10 rfl rfl (by kernel_rfl) (by kernel_rfl) rfl (fun hc => ⟨_, OpenTo.upd (t := 49) rfl (by first | exact hc | simp_all) (OpenTo.refl _), pop_load ty3 rfl rfl rfl⟩) ?_
            refine ahg 11 rfl rfl (by kernel_rfl) (by kernel_rfl) rfl (fun hc => ⟨_, OpenTo.upd (t := 50) rfl (by first | exact hc | simp_all) (OpenTo.upd (t := 48) rfl (by first | exact hc | simp_all) (OpenTo.refl _)), pop_call ca87 rfl (WeakL.refl _) c_cmp_Compare_int⟩) ?_
            refine ahg 12 rfl rfl (by kernel_rfl) (by kernel_rfl) rfl (fun hc => ⟨_, OpenTo.refl _, pop_move rfl⟩) ?_
            refine ahg 13 rfl rfl (by kernel_rfl) (by kernel_rfl) rfl (fun hc => ⟨_, OpenTo.refl _, pop_move rfl⟩) ?_
            refine ahg 14 rfl rfl (by kernel_rfl) (by kernel_rfl) rfl (fun hc => by have hq := hc; (try simp at hq); exact ⟨_, OpenTo.upd (t := 53) rfl (by first | exact hc | simp_all) (OpenTo.refl _), pop_sub64 rfl rfl (by omega) (by omega)⟩) ?_
            refine ahg 15 rfl rfl (by kernel_rfl) (by kernel_rfl) rfl (fun hc => by have hq := hc; (try simp at hq); exact ⟨_, OpenTo.upd (t := 54) rfl (by first | exact hc | simp_all) (OpenTo.upd (t := 52) rfl (by first | exact hc | simp_all) (OpenTo.refl _)), pop_idx (j := k - 1) (a := l.getD (k - 1) swap0) ty32 ty92 rfl rfl (by omega) (getD_some (by omega))⟩) ?_
            refine ahg 16 rfl rfl (by kernel_rfl) (by kernel_rfl) rfl (fun hc => ⟨_, OpenTo.upd (t := 55) rfl (by first | exact hc | simp_all) (OpenTo.refl _), pop_fieldAddr ty92 rfl ty9 (by decide) rfl⟩) ?_
            refine ahg 17 rfl rfl (by kernel_rfl) (by kernel_rfl) rfl (fun hc => ⟨_, OpenTo.upd (t := 56) rfl (by first | exact hc | simp_all) (OpenTo.refl _), pop_load ty9 rfl rfl rfl⟩) ?_
            refine ahg 18 rfl rfl (by kernel_rfl) (by kernel_rfl) rfl (fun hc => ⟨_, OpenTo.refl _, pop_fieldAddr ty92 rfl ty9 (by decide) rfl⟩) ?_
            refine ahg 19 rfl rfl (by kernel_rfl) (by kernel_rfl) rfl (fun hc => ⟨_, OpenTo.upd (t := 58) rfl (by first | exact hc | simp_all) (OpenTo.refl _), pop_load ty9 rfl rfl rfl⟩) ?_
            refine ahg 20 rfl rfl (by kernel_rfl) (by kernel_rfl) rfl (fun hc => ⟨_, OpenTo.upd (t := 59) rfl (by first | exact hc | simp_all) (OpenTo.upd (t := 57) rfl (by first | exact hc | simp_all) (OpenTo.refl _)), pop_call ca136 rfl (WeakL.refl _) c_strings_Compare⟩) ?_
            refine ahg 21 rfl rfl (by kernel_rfl) (by kernel_rfl) rfl (fun hc => ⟨_, OpenTo.upd (t := 60) rfl (by first | exact hc | simp_all) (OpenTo.upd (t := 51) rfl (by first | exact hc | simp_all) (OpenTo.refl _)), pop_buildSlice (hs := [_, _]) ty22 ty3 rfl rfl (by decide) (by decide) rfl⟩) ?_
            refine ahg 22 rfl rfl (by kernel_rfl) (by kernel_rfl) rfl (fun hc => ⟨_, OpenTo.upd (t := 61) rfl (by first | exact hc | simp_all) (OpenTo.refl _), pop_call ca135 rfl (WeakL.refl _) (c_cmp_Or_int (l := [_, _]) (by simp))⟩) ?_
            refine ahg 23 rfl rfl (by kernel_rfl) (by kernel_rfl) rfl (fun hc => ⟨_, OpenTo.upd (t := 62) rfl (by first | exact hc | simp_all) (OpenTo.refl _), pop_geq rfl rfl⟩) ?_
            refine ahp 24 rfl rfl (by kernel_rfl) (by kernel_rfl) (pop_picko rfl (.inr ⟨_, rfl, fun h => by simp_all⟩) (.inl rfl)) ?_
            refine ahp 25 rfl rfl (by kernel_rfl) (by kernel_rfl) (pop_assign rfl) ?_
            refine ahz (by kernel_rfl) ?_
            refine hw_cond rfl (fun h9 => ?_) (fun h10 => ?_)
            · rw [ord_is] at h9
              try simp at h9
              refine hw_reg ?_
              refine dp rfl (pop_assign rfl) ?_
              refine dn ?_
              refine hw_ret ?_
              refine ret_p rfl ?_
              show HVal.int .i64 _ = _
              first | (rw [refSwaps, if_pos (by omega)]; done) | (rw [hg, swapsGo]; simp_all; done) | (rw [hg]; rfl)
            · rw [ord_is] at h10
              try simp at h10
              refine hw_skip ?_
              refine blockQ_n ?_
              refine blockQ_n ?_
              refine seqQ_n ?_
              refine hw_reg1 ?_
              refine dp rfl (pop_add64 rfl rfl (by omega) (by omega)) ?_
              refine dp rfl (pop_move rfl) ?_
              refine dn ?_
              refine ⟨k + 1, ?_, ?_, ⟨rfl, trivial⟩, (by repeat (first | exact keeps_refl | refine keeps_upd rfl ?_ | refine keeps_loop rfl rfl ?_)), List.Perm.refl _⟩
              · refine ⟨by omega, ?_⟩
                rw [hg, swapsGo]; simp_all
                try (intro h1 h2; have := h10 h1; omega)
              · dsimp only; omega
      · try simp at h4
        have hnk : l.length ≤ k := by omega
        obtain rfl : k = l.length := by omega
        rw [drop_all (Nat.le_refl _)] at hg
        refine hw_exit ?_
        refine seqQ_x ?_
        refine loopQ_x ?_
        refine blockQ_eq ?_
        refine seqQ_n ?_
        refine hw_reg ?_
        refine dp rfl (pop_assign rfl) ?_
        refine dn ?_
        refine hw_ret ?_
        refine ret_p rfl ?_
        show HVal.int .i64 _ = _
        first | (rw [refSwaps, if_pos (by omega)]; done) | (rw [hg, swapsGo]; simp_all; done) | (rw [hg]; rfl)

/-- benchwarmer/benchref1.KeepsFault -/
theorem c_benchref1_KeepsFault {r : Room} {l : List Keep} (ht : r.Teams.length ≤ 1000000) (hp : r.Players.length ≤ 1000000) (hl : l.length ≤ 1000000) : ConP Tryz.prog 128 [eRoom r, eKeeps l] (.int .i64 (refKeeps r l)) := by
  refine Con.of_body Tryz.func128 rfl Tryz.ntmps128 rfl rfl ?_
  refine hw_reg ?_
  refine dp rfl (pop_box rfl rfl) ?_
  refine dp rfl (pop_assign rfl) ?_
  refine dn ?_
  refine hw_seq ?_
  refine hw_reg ?_
  refine dp rfl (pop_move rfl) ?_
  refine dp rfl (pop_lenm ty30 rfl) ?_
  refine dp rfl (pop_gtr rfl rfl) ?_
  refine dn ?_
  refine hw_cond rfl (fun h1 => ?_) (fun h2 => ?_)
  · try simp at h1
    refine hw_reg ?_
    refine dp rfl (pop_assign rfl) ?_
    refine dn ?_
    refine hw_ret ?_
    first
    | (refine ret_p rfl ?_
       show HVal.int .i64 _ = _
       first | (rw [refKeeps, if_pos (by omega)]; done) | (rw [hg, refKeepsGo]; simp_all [isTwice]; done))
    | (refine ret_g Ghost.drop rfl ⟨?_, rfl⟩
       show HVal.int .i64 _ = _
       rw [hg, refKeepsGo]; simp_all; done)
  · try simp at h2
    refine hw_skip ?_
    refine seqQ_n ?_
    refine hw_reg ?_
    refine dp rfl (pop_assign rfl) ?_
    refine dn ?_
    refine hw_ghost (Ghost.arr_nil 1) ?_
    refine hw_seq ?_
    refine hw_reg ?_
    refine dp rfl (pop_move rfl) ?_
    refine dp rfl (pop_lenm ty30 rfl) ?_
    refine dp rfl (pop_move rfl) ?_
    refine dn ?_
    refine hw_block ?_
    refine hw_loopw2 (4 :: 5 :: 6 :: 7 :: 13 :: 14 :: 15 :: 16 :: 17 :: 18 :: 19 :: 20 :: 21 :: 22 :: 23 :: 24 :: 25 :: 26 :: 27 :: 28 :: 29 :: 30 :: 31 :: 32 :: 33 :: 34 :: 35 :: 36 :: 37 :: 38 :: 39 :: 40 :: 41 :: 42 :: 43 :: 44 :: 45 :: 46 :: 47 :: 48 :: 49 :: 50 :: 51 :: 52 :: 53 :: 54 :: 55 :: 56 :: 57 :: 58 :: 59 :: 60 :: 61 :: 62 :: 63 :: 64 :: 65 :: 66 :: 67 :: 68 :: 69 :: 70 :: 71 :: []) (fun (k : Nat) (u : Value) => [(13, .int .i64 k), (5, .raw u)]) (fun (k : Nat) (u : Value) => [.arr u 1 (((l.take k).map (·.Player)).map .str)]) (fun (k : Nat) (u : Value) => k ≤ l.length ∧ (refKeeps r l = refKeepsGo r l k ((l.take k).map (·.Player)) (l.drop k))) (fun (k : Nat) (u : Value) => l.length - k) (0) (.slice none 0 0) ?_ ?_ ?_ ?_
    · refine ⟨Nat.zero_le _, ?_⟩
      rw [refKeeps, if_neg (by omega)]; rfl
    · exact ⟨rfl, rfl, trivial⟩
    · exact perm_eq (by simp)
    · intro k u hinv
      obtain ⟨hk, hg⟩ := hinv
      refine hw_reg ?_
      refine dp rfl (pop_lss rfl rfl) ?_
      refine dn ?_
      refine hw_seq ?_
      refine hw_cond rfl (fun h3 => ?_) (fun h4 => ?_)
      · try simp at h3
        obtain ⟨x, hx⟩ : ∃ x, l[k]? = some x := ⟨_, List.getElem?_eq_getElem h3⟩
        have hdx := drop_cons hx
        rw [hdx] at hg
        refine hw_skip ?_
        refine seqQ_n ?_
        refine hw_seq ?_
        refine hw_block ?_
        refine hw_reg ?_
        refine dp rfl (pop_move rfl) ?_
        refine dp rfl (pop_idx ty30 ty88 rfl rfl rfl (by first | assumption | simp_all)) ?_
        refine dp rfl (pop_loadw ty88 rfl rfl rfl rfl) ?_
        refine de rfl (eop_alloc ty88 rfl fun b7 => ?_)
        refine dp rfl (pop_assign rfl) ?_
        refine de0 (eop_storew ty88 rfl rfl rfl rfl rfl ?_)
        refine dn ?_
        refine hw_ghost (Ghost.fc0 7 rfl) ?_
        refine hw_seq ?_
        refine hw_block ?_
        refine hw_reg ?_
        refine dp rfl (pop_fieldAddr ty28 rfl ty26 (by decide) rfl) ?_
        refine dp rfl (pop_load ty26 rfl rfl rfl) ?_
        refine dp rfl (pop_fieldAddr ty88 rfl ty9 (by decide) rfl) ?_
        refine dp rfl (pop_load ty9 rfl rfl rfl) ?_
        refine dp rfl (pop_call ca53 rfl (WeakL.refl _) (c_slices_Contains_string_string (by first | assumption | omega | (simp; omega) | simp_all))) ?_
        refine dp rfl (pop_not rfl) ?_
        refine dp rfl (pop_move rfl) ?_
        refine dg rfl rfl (fun hc => ⟨_, OpenTo.refl _, pop_fieldAddr ty28 rfl ty26 (by decide) rfl⟩) ?_
        refine dg rfl rfl (fun hc => ⟨_, OpenTo.upd (t := 26) rfl (by first | exact hc | simp_all) (OpenTo.refl _), pop_load ty26 rfl rfl rfl⟩) ?_
        refine dg rfl rfl (fun hc => ⟨_, OpenTo.refl _, pop_fieldAddr ty88 rfl ty9 (by decide) rfl⟩) ?_
        refine dg rfl rfl (fun hc => ⟨_, OpenTo.upd (t := 28) rfl (by first | exact hc | simp_all) (OpenTo.refl _), pop_load ty9 rfl rfl rfl⟩) ?_
        refine dg rfl rfl (fun hc => by have hq := hc; (try simp at hq); exact ⟨_, OpenTo.upd (t := 29) rfl (by first | exact hc | simp_all) (OpenTo.upd (t := 27) rfl (by first | exact hc | simp_all) (OpenTo.refl _)), pop_call ca53 rfl (WeakL.refl _) (c_slices_Contains_string_string (by first | assumption | omega | (simp; omega) | simp_all))⟩) ?_
        refine dg rfl rfl (fun hc => ⟨_, OpenTo.upd (t := 30) rfl (by first | exact hc | simp_all) (OpenTo.refl _), pop_not rfl⟩) ?_
        refine dp rfl (pop_picko rfl (.inl rfl) (.inr ⟨_, rfl, fun h => by simp_all⟩)) ?_
        refine dp rfl (pop_assign rfl) ?_
        refine dn ?_
        refine hw_cond rfl (fun h5 => ?_) (fun h6 => ?_)
        · try simp at h5
          refine hw_reg ?_
          refine dp rfl (pop_assign rfl) ?_
          refine dn ?_
          refine hw_ret ?_
          first
          | (refine ret_p rfl ?_
             show HVal.int .i64 _ = _
             first | (rw [refKeeps, if_pos (by omega)]; done) | (rw [hg, refKeepsGo]; simp_all [isTwice]; done))
          | (refine ret_g Ghost.drop rfl ⟨?_, rfl⟩
             show HVal.int .i64 _ = _
             rw [hg, refKeepsGo]; simp_all; done)
        · try simp at h6
          refine hw_reg ?_
          refine dp rfl (pop_fieldAddr ty88 rfl ty3 (by decide) rfl) ?_
          refine dp rfl (pop_load ty3 rfl rfl rfl) ?_
          refine dp rfl (pop_fieldAddr ty28 rfl ty3 (by decide) rfl) ?_
          refine dp rfl (pop_load ty3 rfl rfl rfl) ?_
          refine dp rfl (pop_call ca51 rfl (WeakL.refl _) c_benchref1_in) ?_
          refine dp rfl (pop_not rfl) ?_
          refine dp rfl (pop_assign rfl) ?_
          refine dn ?_
          refine hw_cond rfl (fun h7 => ?_) (fun h8 => ?_)
          · try simp at h7
            refine hw_reg ?_
            refine dp rfl (pop_assign rfl) ?_
            refine dn ?_
            refine hw_ret ?_
            first
            | (refine ret_p rfl ?_
               show HVal.int .i64 _ = _
               first | (rw [refKeeps, if_pos (by omega)]; done) | (rw [hg, refKeepsGo]; simp_all [isTwice]; done))
            | (refine ret_g Ghost.drop rfl ⟨?_, rfl⟩
               show HVal.int .i64 _ = _
               rw [hg, refKeepsGo]; simp_all; done)
          · try simp at h8
            refine hw_draw (fun _ => True) [] mixed ?_
            refine ahp 0 rfl rfl (by kernel_rfl) (by kernel_rfl) (pop_move rfl) ?_
            refine ahp 1 rfl rfl (by kernel_rfl) (by kernel_rfl) (pop_gtr rfl rfl) ?_
            refine ahp 2 rfl rfl (by kernel_rfl) (by kernel_rfl) (pop_move rfl) ?_
            refine ahg 3 rfl rfl (by kernel_rfl) (by kernel_rfl) rfl (fun hc => ⟨_, OpenTo.refl _, pop_move rfl⟩) ?_
            refine ahg 4 rfl rfl (by kernel_rfl) (by kernel_rfl) rfl (fun hc => ⟨_, OpenTo.refl _, pop_move rfl⟩) ?_
            refine ahg 5 rfl rfl (by kernel_rfl) (by kernel_rfl) rfl (fun hc => by have hq := hc; (try simp at hq); exact ⟨_, OpenTo.upd (t := 45) rfl (by first | exact hc | simp_all) (OpenTo.refl _), pop_sub64 rfl rfl (by omega) (by omega)⟩) ?_
            refine ahg 6 rfl rfl (by kernel_rfl) (by kernel_rfl) rfl (fun hc => by have hq := hc; (try simp at hq); exact ⟨_, OpenTo.upd (t := 46) rfl (by first | exact hc | simp_all) (OpenTo.upd (t := 44) rfl (by first | exact hc | simp_all) (OpenTo.refl _)), pop_idx (j := k - 1) (a := l.getD (k - 1) keep0) ty30 ty88 rfl rfl (by omega) (getD_some (by omega))⟩) ?_
            refine ahg 7 rfl rfl (by kernel_rfl) (by kernel_rfl) rfl (fun hc => ⟨_, OpenTo.upd (t := 47) rfl (by first | exact hc | simp_all) (OpenTo.refl _), pop_fieldAddr ty88 rfl ty9 (by decide) rfl⟩) ?_
            refine ahg 8 rfl rfl (by kernel_rfl) (by kernel_rfl) rfl (fun hc => ⟨_, OpenTo.upd (t := 48) rfl (by first | exact hc | simp_all) (OpenTo.refl _), pop_load ty9 rfl rfl rfl⟩) ?_
            refine ahg 9 rfl rfl (by kernel_rfl) (by kernel_rfl) rfl (fun hc => ⟨_, OpenTo.refl _, pop_fieldAddr ty88 rfl ty9 (by decide) rfl⟩) ?_
            refine ahg 10 rfl rfl (by kernel_rfl) (by kernel_rfl) rfl (fun hc => ⟨_, OpenTo.upd (t := 50) rfl (by first | exact hc | simp_all) (OpenTo.refl _), pop_load ty9 rfl rfl rfl⟩) ?_
            refine ahg 11 rfl rfl (by kernel_rfl) (by kernel_rfl) rfl (fun hc => ⟨_, OpenTo.upd (t := 51) rfl (by first | exact hc | simp_all) (OpenTo.upd (t := 49) rfl (by first | exact hc | simp_all) (OpenTo.refl _)), pop_call ca136 rfl (WeakL.refl _) c_strings_Compare⟩) ?_
            refine ahg 12 rfl rfl (by kernel_rfl) (by kernel_rfl) rfl (fun hc => ⟨_, OpenTo.refl _, pop_move rfl⟩) ?_
            refine ahg 13 rfl rfl (by kernel_rfl) (by kernel_rfl) rfl (fun hc => ⟨_, OpenTo.refl _, pop_move rfl⟩) ?_
            refine ahg 14 rfl rfl (by kernel_rfl) (by kernel_rfl) rfl (fun hc => by have hq := hc; (try simp at hq); exact ⟨_, OpenTo.upd (t := 54) rfl (by first | exact hc | simp_all) (OpenTo.refl _), pop_sub64 rfl rfl (by omega) (by omega)⟩) ?_
            refine ahg 15 rfl rfl (by kernel_rfl) (by kernel_rfl) rfl (fun hc => by have hq := hc; (try simp at hq); exact ⟨_, OpenTo.upd (t := 55) rfl (by first | exact hc | simp_all) (OpenTo.upd (t := 53) rfl (by first | exact hc | simp_all) (OpenTo.refl _)), pop_idx (j := k - 1) (a := l.getD (k - 1) keep0) ty30 ty88 rfl rfl (by omega) (getD_some (by omega))⟩) ?_
            refine ahg 16 rfl rfl (by kernel_rfl) (by kernel_rfl) rfl (fun hc => ⟨_, OpenTo.upd (t := 56) rfl (by first | exact hc | simp_all) (OpenTo.refl _), pop_fieldAddr ty88 rfl ty3 (by decide) rfl⟩) ?_
            refine ahg 17 rfl rfl (by kernel_rfl) (by kernel_rfl) rfl (fun hc => ⟨_, OpenTo.upd (t := 57) rfl (by first | exact hc | simp_all) (OpenTo.refl _), pop_load ty3 rfl rfl rfl⟩) ?_
            refine ahg 18 rfl rfl (by kernel_rfl) (by kernel_rfl) rfl (fun hc => ⟨_, OpenTo.refl _, pop_fieldAddr ty88 rfl ty3 (by decide) rfl⟩) ?_
            refine ahg 19 rfl rfl (by kernel_rfl) (by kernel_rfl) rfl (fun hc => ⟨_, OpenTo.upd (t := 59) rfl (by first | exact hc | simp_all) (OpenTo.refl _), pop_load ty3 rfl rfl rfl⟩) ?_
            refine ahg 20 rfl rfl (by kernel_rfl) (by kernel_rfl) rfl (fun hc => ⟨_, OpenTo.upd (t := 60) rfl (by first | exact hc | simp_all) (OpenTo.upd (t := 58) rfl (by first | exact hc | simp_all) (OpenTo.refl _)), pop_call ca87 rfl (WeakL.refl _) c_cmp_Compare_int⟩) ?_
            refine ahg 21 rfl rfl (by kernel_rfl) (by kernel_rfl) rfl (fun hc => ⟨_, OpenTo.upd (t := 61) rfl (by first | exact hc | simp_all) (OpenTo.upd (t := 52) rfl (by first | exact hc | simp_all) (OpenTo.refl _)), pop_buildSlice (hs := [_, _]) ty22 ty3 rfl rfl (by decide) (by decide) rfl⟩) ?_
            refine ahg 22 rfl rfl (by kernel_rfl) (by kernel_rfl) rfl (fun hc => ⟨_, OpenTo.upd (t := 62) rfl (by first | exact hc | simp_all) (OpenTo.refl _), pop_call ca135 rfl (WeakL.refl _) (c_cmp_Or_int (l := [_, _]) (by simp))⟩) ?_
            refine ahg 23 rfl rfl (by kernel_rfl) (by kernel_rfl) rfl (fun hc => ⟨_, OpenTo.upd (t := 63) rfl (by first | exact hc | simp_all) (OpenTo.refl _), pop_geq rfl rfl⟩) ?_
            refine ahp 24 rfl rfl (by kernel_rfl) (by kernel_rfl) (pop_picko rfl (.inr ⟨_, rfl, fun h => by simp_all⟩) (.inl rfl)) ?_
            refine ahp 25 rfl rfl (by kernel_rfl) (by kernel_rfl) (pop_assign rfl) ?_
            refine ahz (by kernel_rfl) ?_
            refine hw_cond rfl (fun h9 => ?_) (fun h10 => ?_)
            · rw [ord_si] at h9
              try simp at h9
              refine hw_reg ?_
              refine dp rfl (pop_assign rfl) ?_
              refine dn ?_
              refine hw_ret ?_
              first
              | (refine ret_p rfl ?_
                 show HVal.int .i64 _ = _
                 first | (rw [refKeeps, if_pos (by omega)]; done) | (rw [hg, refKeepsGo]; simp_all [isTwice]; done))
              | (refine ret_g Ghost.drop rfl ⟨?_, rfl⟩
                 show HVal.int .i64 _ = _
                 rw [hg, refKeepsGo]; simp_all; done)
            · rw [ord_si] at h10
              try simp at h10
              refine hw_skip ?_
              refine blockQ_n ?_
              refine seqQ_n ?_
              refine hw_reg1 ?_
              refine dp rfl (pop_move rfl) ?_
              refine dp rfl (pop_fieldAddr ty88 rfl ty9 (by decide) rfl) ?_
              refine dp rfl (pop_load ty9 rfl rfl rfl) ?_
              refine dp rfl (pop_buildSlice (hs := [_]) ty26 ty9 rfl rfl (by decide) (by decide) rfl) ?_
              refine de rfl (eop_append (i := 0) ty26 ty9 rfl rfl rfl rfl rfl (by simp [flat, hcells]) (by first | omega | (simp; omega)) fun v70 => ?_)
              refine dp rfl (pop_assign rfl) ?_
              refine dn ?_
              refine blockQ_n ?_
              refine seqQ_n ?_
              refine hw_reg1 ?_
              refine dp rfl (pop_add64 rfl rfl (by omega) (by omega)) ?_
              refine dp rfl (pop_move rfl) ?_
              refine dn ?_
              refine ⟨k + 1, _, ?_, ?_, ⟨rfl, rfl, trivial⟩, (by repeat (first | exact keeps_refl | refine keeps_upd rfl ?_ | refine keeps_loop rfl rfl ?_)), perm_eq (by simp [List.take_add_one, hx])⟩
              · refine ⟨by omega, ?_⟩
                rw [hg, refKeepsGo, take_map_snoc _ hx]; simp_all
                try (intro h1 h2; have := h10 h1; omega)
              · dsimp only; omega
      · try simp at h4
        have hnk : l.length ≤ k := by omega
        obtain rfl : k = l.length := by omega
        rw [drop_all (Nat.le_refl _), List.take_length] at hg
        rw [List.take_length]
        refine hw_exit ?_
        refine seqQ_x ?_
        refine loopQ2_x ?_
        refine blockQ_eq ?_
        refine seqQ_n ?_
        refine hw_seq ?_
        refine hw_ghost (Ghost.fa0 5 rfl) ?_
        refine hw_reg ?_
        refine dp rfl (pop_move rfl) ?_
        refine dp rfl (pop_call ca163 rfl (WeakL.refl _) (c_benchref1_twice (l := l.map (·.Player)) (by simpa using hl))) ?_
        refine dn ?_
        refine hw_cond rfl (fun h11 => ?_) (fun h12 => ?_)
        · try simp at h11
          refine hw_reg ?_
          refine dp rfl (pop_assign rfl) ?_
          refine dn ?_
          refine hw_ret ?_
          first
          | (refine ret_p rfl ?_
             show HVal.int .i64 _ = _
             first | (rw [refKeeps, if_pos (by omega)]; done) | (rw [hg, refKeepsGo]; simp_all [isTwice]; done))
          | (refine ret_g Ghost.drop rfl ⟨?_, rfl⟩
             show HVal.int .i64 _ = _
             rw [hg, refKeepsGo]; simp_all; done)
        · try simp at h12
          refine hw_skip ?_
          refine seqQ_n ?_
          refine hw_reg ?_
          refine dp rfl (pop_assign rfl) ?_
          refine dn ?_
          refine hw_ret ?_
          first
          | (refine ret_p rfl ?_
             show HVal.int .i64 _ = _
             first | (rw [refKeeps, if_pos (by omega)]; done) | (rw [hg, refKeepsGo]; simp_all [isTwice]; done))
          | (refine ret_g Ghost.drop rfl ⟨?_, rfl⟩
             show HVal.int .i64 _ = _
             rw [hg, refKeepsGo]; simp_all; done)

/-- benchwarmer/benchref1.DraftFault -/
theorem c_benchref1_DraftFault {r : Room} {k : List Keep} {s : List Swap} (ht : r.Teams.length ≤ 1000000) (hp : r.Players.length ≤ 1000000) (hs1 : ∀ s ∈ r.Teams, s.length ≤ 1000000) (hs2 : ∀ s ∈ r.Players, s.length ≤ 1000000) (hk0 : k.length ≤ 1000000) (hl : s.length ≤ 1000000) : ConP Tryz.prog 92 [eRoom r, eKeeps k, eSwaps s] (.int .i64 (draftFault r k s)) := by
  refine Con.of_body Tryz.func92 rfl Tryz.ntmps92 rfl rfl ?_
  refine hw_reg ?_
  refine dp rfl (pop_box rfl rfl) ?_
  refine dp rfl (pop_assign rfl) ?_
  refine dn ?_
  refine hw_seq ?_
  refine hw_reg ?_
  refine dp rfl (pop_loadw ty28 rfl rfl rfl rfl) ?_
  refine dp rfl (pop_call ca12 rfl (WeakL.refl _) (c_benchref1_RoomFault (by first | assumption | omega | (simp; omega) | simp_all) (by first | assumption | omega | (simp; omega) | simp_all) (by first | assumption | omega | (simp; omega) | simp_all) (by first | assumption | omega | (simp; omega) | simp_all))) ?_
  refine dp rfl (pop_assign rfl) ?_
  refine dn ?_
  refine hw_reg ?_
  refine dp rfl (pop_move rfl) ?_
  refine dp rfl (pop_neq rfl rfl) ?_
  refine dn ?_
  refine hw_cond rfl (fun h1 => ?_) (fun h2 => ?_)
  · try simp at h1
    refine hw_reg ?_
    refine dp rfl (pop_move rfl) ?_
    refine dp rfl (pop_assign rfl) ?_
    refine dn ?_
    refine hw_ret ?_
    refine ret_p rfl ?_
    show HVal.int .i64 _ = _
    simp_all [draftFault]
  · try simp at h2
    refine hw_skip ?_
    refine seqQ_n ?_
    refine hw_draw (fun _ => True) [] mixed ?_
    refine ahp 0 rfl rfl (by kernel_rfl) (by kernel_rfl) (pop_loadw ty28 rfl rfl rfl rfl) ?_
    refine ahp 1 rfl rfl (by kernel_rfl) (by kernel_rfl) (pop_move rfl) ?_
    refine ahp 2 rfl rfl (by kernel_rfl) (by kernel_rfl) (pop_call ca128 rfl (WeakL.refl _) (c_benchref1_KeepsFault (by first | assumption | omega | (simp; omega) | simp_all) (by first | assumption | omega | (simp; omega) | simp_all) (by first | assumption | omega | (simp; omega) | simp_all))) ?_
    refine ahp 3 rfl rfl (by kernel_rfl) (by kernel_rfl) (pop_loadw ty28 rfl rfl rfl rfl) ?_
    refine ahp 4 rfl rfl (by kernel_rfl) (by kernel_rfl) (pop_move rfl) ?_
    refine ahp 5 rfl rfl (by kernel_rfl) (by kernel_rfl) (pop_call ca129 rfl (WeakL.refl _) (c_benchref1_SwapsFault (by first | assumption | omega | (simp; omega) | simp_all) (by first | assumption | omega | (simp; omega) | simp_all) (by first | assumption | omega | (simp; omega) | simp_all))) ?_
    refine ahp 6 rfl rfl (by kernel_rfl) (by kernel_rfl) (pop_buildSlice (hs := [_, _]) ty103 ty40 rfl rfl (by decide) (by decide) rfl) ?_
    refine ahp 7 rfl rfl (by kernel_rfl) (by kernel_rfl) (pop_call ca14 rfl (WeakL.refl _) (c_cmp_Or_api_Errno (l := [_, _]) (by simp))) ?_
    refine ahp 8 rfl rfl (by kernel_rfl) (by kernel_rfl) (pop_assign rfl) ?_
    refine ahz (by kernel_rfl) ?_
    refine hw_ret ?_
    refine ret_p rfl ?_
    show HVal.int .i64 _ = _
    simp_all [draftFault]

/-- benchwarmer/benchref1.OpenFault -/
theorem c_benchref1_OpenFault {r : Room} {k : List Keep} {s : List Swap} (ht : r.Teams.length ≤ 1000000) (hp : r.Players.length ≤ 1000000) (hs1 : ∀ s ∈ r.Teams, s.length ≤ 1000000) (hs2 : ∀ s ∈ r.Players, s.length ≤ 1000000) (hk0 : k.length ≤ 1000000) (hl : s.length ≤ 1000000) : ConP Tryz.prog 49 [eRoom r, eKeeps k, eSwaps s] (.int .i64 (refOpenFault r k s)) := by
  refine Con.of_body Tryz.func49 rfl Tryz.ntmps49 rfl rfl ?_
  refine hw_reg ?_
  refine dp rfl (pop_box rfl rfl) ?_
  refine dp rfl (pop_assign rfl) ?_
  refine dn ?_
  refine hw_seq ?_
  refine hw_reg ?_
  refine dp rfl (pop_loadw ty28 rfl rfl rfl rfl) ?_
  refine dp rfl (pop_move rfl) ?_
  refine dp rfl (pop_move rfl) ?_
  refine dp rfl (pop_call ca92 rfl (WeakL.refl _) (c_benchref1_DraftFault (by first | assumption | omega | (simp; omega) | simp_all) (by first | assumption | omega | (simp; omega) | simp_all) (by first | assumption | omega | (simp; omega) | simp_all) (by first | assumption | omega | (simp; omega) | simp_all) (by first | assumption | omega | (simp; omega) | simp_all) (by first | assumption | omega | (simp; omega) | simp_all))) ?_
  refine dp rfl (pop_assign rfl) ?_
  refine dn ?_
  refine hw_reg ?_
  refine dp rfl (pop_move rfl) ?_
  refine dp rfl (pop_neq rfl rfl) ?_
  refine dn ?_
  refine hw_cond rfl (fun h1 => ?_) (fun h2 => ?_)
  · try simp at h1
    refine hw_reg ?_
    refine dp rfl (pop_move rfl) ?_
    refine dp rfl (pop_assign rfl) ?_
    refine dn ?_
    refine hw_ret ?_
    refine ret_p rfl ?_
    show HVal.int .i64 _ = _
    first | (rw [refOpenFault, if_pos (by simp_all)]; done) | (rw [hg, clashGo]; simp_all [clash]; done) | (rw [hg]; rfl)
  · try simp at h2
    refine hw_skip ?_
    refine seqQ_n ?_
    refine hw_seq ?_
    refine hw_reg ?_
    refine dp rfl (pop_move rfl) ?_
    refine dp rfl (pop_lenm ty30 rfl) ?_
    refine dp rfl (pop_move rfl) ?_
    refine dn ?_
    refine hw_block ?_
    refine hw_loopw [6, 9, 10, 11, 21, 22, 23, 24, 25, 26, 27, 28, 29, 30, 31, 32, 33, 34, 35] (fun (i : Nat) => [(21, .int .i64 i)]) (fun (i : Nat) => []) (fun (i : Nat) => i ≤ k.length ∧ (refOpenFault r k s = clashGo s (k.drop i))) (fun (i : Nat) => k.length - i) (0) ?_ ?_ ?_ ?_
    · refine ⟨Nat.zero_le _, ?_⟩
      rw [refOpenFault, if_neg (by simp_all)]; rfl
    · exact ⟨rfl, trivial⟩
    · exact List.Perm.refl _
    · intro i hinv
      obtain ⟨hi, hg⟩ := hinv
      refine hw_reg ?_
      refine dp rfl (pop_lss rfl rfl) ?_
      refine dn ?_
      refine hw_seq ?_
      refine hw_cond rfl (fun h3 => ?_) (fun h4 => ?_)
      · try simp at h3
        obtain ⟨x, hx⟩ : ∃ x, k[i]? = some x := ⟨_, List.getElem?_eq_getElem h3⟩
        have hdx := drop_cons hx
        rw [hdx] at hg
        refine hw_skip ?_
        refine seqQ_n ?_
        refine hw_seq ?_
        refine hw_block ?_
        refine hw_reg ?_
        refine dp rfl (pop_idx ty30 ty88 rfl rfl rfl (by first | assumption | simp_all)) ?_
        refine dp rfl (pop_loadw ty88 rfl rfl rfl rfl) ?_
        refine de rfl (eop_alloc ty88 rfl fun b9 => ?_)
        refine de0 (eop_storew ty88 rfl rfl rfl rfl rfl ?_)
        refine dn ?_
        refine hw_ghost (Ghost.fc0 9 rfl) ?_
        refine hw_reg ?_
        refine dp rfl (pop_move rfl) ?_
        refine dp rfl (pop_fieldAddr ty88 rfl ty3 (by decide) rfl) ?_
        refine dp rfl (pop_load ty3 rfl rfl rfl) ?_
        refine dp rfl (pop_fieldAddr ty88 rfl ty9 (by decide) rfl) ?_
        refine dp rfl (pop_load ty9 rfl rfl rfl) ?_
        refine dp rfl (pop_call ca93 rfl (WeakL.refl _) (c_benchref1_swapped (by first | assumption | omega | (simp; omega) | simp_all))) ?_
        refine dp rfl (pop_move rfl) ?_
        refine dp rfl (pop_extract rfl rfl) ?_
        refine dp rfl (pop_extract rfl rfl) ?_
        refine dp rfl (pop_assign rfl) ?_
        refine dp rfl (pop_assign rfl) ?_
        refine dn ?_
        refine hw_reg ?_
        refine dp rfl (pop_move rfl) ?_
        refine dn ?_
        refine hw_cond rfl (fun h5 => ?_) (fun h6 => ?_)
        · try simp at h5
          refine hw_reg ?_
          refine dp rfl (pop_assign rfl) ?_
          refine dn ?_
          refine hw_ret ?_
          refine ret_p rfl ?_
          show HVal.int .i64 _ = _
          first | (rw [refOpenFault, if_pos (by simp_all)]; done) | (rw [hg, clashGo]; simp_all [clash]; done) | (rw [hg]; rfl)
        · try simp at h6
          refine hw_skip ?_
          refine blockQ_n ?_
          refine seqQ_n ?_
          refine hw_reg1 ?_
          refine dp rfl (pop_add64 rfl rfl (by omega) (by omega)) ?_
          refine dp rfl (pop_move rfl) ?_
          refine dn ?_
          refine ⟨i + 1, ?_, ?_, ⟨rfl, trivial⟩, (by repeat (first | exact keeps_refl | refine keeps_upd rfl ?_ | refine keeps_loop rfl rfl ?_)), List.Perm.refl _⟩
          · refine ⟨by omega, ?_⟩
            rw [hg, clashGo]; simp_all [clash]
          · dsimp only; omega
      · try simp at h4
        have hni : k.length ≤ i := by omega
        obtain rfl : i = k.length := by omega
        rw [drop_all (Nat.le_refl _)] at hg
        refine hw_exit ?_
        refine seqQ_x ?_
        refine loopQ_x ?_
        refine blockQ_eq ?_
        refine seqQ_n ?_
        refine hw_reg ?_
        refine dp rfl (pop_assign rfl) ?_
        refine dn ?_
        refine hw_ret ?_
        refine ret_p rfl ?_
        show HVal.int .i64 _ = _
        first | (rw [refOpenFault, if_pos (by simp_all)]; done) | (rw [hg, clashGo]; simp_all [clash]; done) | (rw [hg]; rfl)

/-- benchwarmer/benchref1.TurnsFor -/
theorem c_benchref1_TurnsFor {r : Room} {s : List Swap} (ht0 : 0 < r.Teams.length) (ht : r.Teams.length ≤ 20) (hr0 : 1 ≤ r.Rounds) (hr : r.Rounds ≤ 30) (hl : s.length ≤ 1000000) : ConP Tryz.prog 113 [eRoom r, eSwaps s] (eSs ((turns r s).map (·.team))) := by
  have ho := ownFrom_len r r.Rounds.toNat
  have hm := Nat.mul_le_mul (show r.Rounds.toNat ≤ 30 by omega) ht
  have ho6 : (ownTurns r).length ≤ 600 := by unfold ownTurns; omega
  refine Con.of_body Tryz.func113 rfl Tryz.ntmps113 rfl rfl ?_
  refine hw_reg ?_
  refine dp rfl (pop_box rfl rfl) ?_
  refine dp rfl (pop_assign rfl) ?_
  refine dn ?_
  refine hw_reg ?_
  refine dp rfl (pop_assign rfl) ?_
  refine dn ?_
  refine hw_ghost (Ghost.arr_nil 1) ?_
  refine hw_seq ?_
  refine hw_reg ?_
  refine dp rfl (pop_loadw ty28 rfl rfl rfl rfl) ?_
  refine dp rfl (pop_call ca112 rfl (WeakL.refl _) (c_benchref1_ownTurns (by first | assumption | omega | (simp; omega) | simp_all) (by first | assumption | omega | (simp; omega) | simp_all) (by first | assumption | omega | (simp; omega) | simp_all))) ?_
  refine dp rfl (pop_lenm ty26 rfl) ?_
  refine dp rfl (pop_move rfl) ?_
  refine dn ?_
  refine hw_block ?_
  refine hw_loopw2 [5, 6, 7, 8, 9, 13, 14, 15, 16, 17, 18, 19, 20, 21, 22, 23, 24, 25, 26, 27, 28, 29, 30, 31, 32, 33, 34] (fun (k : Nat) (u : Value) => [(13, .int .i64 k), (5, .raw u)]) (fun (k : Nat) (u : Value) => [.arr u 1 ((((tfor r s 0 (ownTurns r)).take k).map (·.team)).map .str)]) (fun (k : Nat) (u : Value) => k ≤ (ownTurns r).length ∧ (True)) (fun (k : Nat) (u : Value) => (ownTurns r).length - k) (0) (.slice none 0 0) ?_ ?_ ?_ ?_
  · exact ⟨Nat.zero_le _, by simp_all⟩
  · exact ⟨rfl, rfl, trivial⟩
  · exact perm_eq (by simp)
  · intro k u hinv
    obtain ⟨hk, -⟩ := hinv
    refine hw_reg ?_
    refine dp rfl (pop_lss rfl rfl) ?_
    refine dn ?_
    refine hw_seq ?_
    refine hw_cond rfl (fun h1 => ?_) (fun h2 => ?_)
    · try simp at h1
      obtain ⟨x, hx⟩ : ∃ x, (ownTurns r)[k]? = some x := ⟨_, List.getElem?_eq_getElem h1⟩
      have hdx := drop_cons hx
      refine hw_skip ?_
      refine seqQ_n ?_
      refine hw_seq ?_
      refine hw_block ?_
      refine hw_reg ?_
      refine dp rfl (pop_move rfl) ?_
      refine dp rfl (pop_idx ty26 ty9 rfl rfl rfl (by first | assumption | simp_all)) ?_
      refine dp rfl (pop_load ty9 rfl rfl rfl) ?_
      refine dp rfl (pop_assign rfl) ?_
      refine dp rfl (pop_assign rfl) ?_
      refine dn ?_
      refine hw_reg ?_
      refine dp rfl (pop_move rfl) ?_
      refine dp rfl (pop_move rfl) ?_
      refine dp rfl (pop_fieldAddr ty28 rfl ty26 (by decide) rfl) ?_
      refine dp rfl (pop_load ty26 rfl rfl rfl) ?_
      refine dp rfl (pop_lenm ty26 rfl) ?_
      refine dp rfl (pop_eq (pop_quo64 rfl rfl (by omega) (by omega) (by omega)) (congrArg _ (tdiv_nat _ _))) ?_
      have hdl := Nat.div_le_self k r.Teams.length
      have hdn : (0:Int) ≤ ((k / r.Teams.length : Nat) : Int) := Int.natCast_nonneg _
      refine dp rfl (pop_add64 rfl rfl (by omega) (by omega)) ?_
      refine dp rfl (pop_move rfl) ?_
      refine dp rfl (pop_call ca93 rfl (WeakL.refl _) (c_benchref1_swapped (by first | assumption | omega | (simp; omega) | simp_all))) ?_
      refine dp rfl (pop_move rfl) ?_
      refine dp rfl (pop_extract rfl rfl) ?_
      refine dp rfl (pop_extract rfl rfl) ?_
      refine dp rfl (pop_assign rfl) ?_
      refine dp rfl (pop_assign rfl) ?_
      refine dn ?_
      refine hw_reg1 ?_
      refine dp rfl (pop_move rfl) ?_
      refine dp rfl (pop_move rfl) ?_
      refine dp rfl (pop_buildSlice (hs := [_]) ty26 ty9 rfl rfl (by decide) (by decide) rfl) ?_
      refine de rfl (eop_append (i := 0) ty26 ty9 rfl rfl rfl rfl rfl (by simp [flat, hcells]) (by first | omega | (simp; omega)) fun v33 => ?_)
      refine dp rfl (pop_assign rfl) ?_
      refine dn ?_
      refine blockQ_n ?_
      refine seqQ_n ?_
      refine hw_reg1 ?_
      refine dp rfl (pop_add64 rfl rfl (by omega) (by omega)) ?_
      refine dp rfl (pop_move rfl) ?_
      refine dn ?_
      refine ⟨k + 1, _, ?_, ?_, ⟨rfl, rfl, trivial⟩, (by repeat (first | exact keeps_refl | refine keeps_upd rfl ?_ | refine keeps_loop rfl rfl ?_)), perm_eq (by dsimp only; rw [take_map_snoc _ (tfor_get r s _ 0 k x hx)]; simp)⟩
      · exact ⟨by omega, trivial⟩
      · dsimp only; omega
    · try simp at h2
      have hnk : (ownTurns r).length ≤ k := by omega
      obtain rfl : k = (ownTurns r).length := by omega
      refine hw_exit ?_
      refine seqQ_x ?_
      refine loopQ2_x ?_
      refine blockQ_eq ?_
      refine seqQ_n ?_
      refine hw_reg ?_
      refine dp rfl (pop_move rfl) ?_
      refine dp rfl (pop_assign rfl) ?_
      refine dn ?_
      refine hw_ret ?_
      refine ret_fa (M := []) 4 rfl rfl ?_
      rw [← ref_turns, ← tfor_len r s 0 (ownTurns r), List.take_length]

/-- benchwarmer/benchref1.OpenOf -/
theorem c_benchref1_OpenOf {r : Room} {l : List Keep} {s : List Swap} (ht0 : 0 < r.Teams.length) (ht : r.Teams.length ≤ 20) (hr0 : 1 ≤ r.Rounds) (hr : r.Rounds ≤ 30) (hk0 : l.length ≤ 1000000) (hl : s.length ≤ 1000000) (hlen : (turns r s).length ≤ 600) : ConP Tryz.prog 83 [eRoom r, eKeeps l, eSwaps s] (ePicks (open1 r l s)) := by
  have ho := ownFrom_len r r.Rounds.toNat
  have hm := Nat.mul_le_mul (show r.Rounds.toNat ≤ 30 by omega) ht
  have ho6 : (ownTurns r).length ≤ 600 := by unfold ownTurns; omega
  have hot : (ownTurns r).length = (turns r s).length := by rw [← ref_turns, tfor_len]
  refine Con.of_body Tryz.func83 rfl Tryz.ntmps83 rfl rfl ?_
  refine hw_reg ?_
  refine dp rfl (pop_box rfl rfl) ?_
  refine dp rfl (pop_assign rfl) ?_
  refine dn ?_
  refine hw_reg ?_
  refine dp rfl (pop_loadw ty28 rfl rfl rfl rfl) ?_
  refine dp rfl (pop_call ca112 rfl (WeakL.refl _) (c_benchref1_ownTurns (by first | assumption | omega | (simp; omega) | simp_all) (by first | assumption | omega | (simp; omega) | simp_all) (by first | assumption | omega | (simp; omega) | simp_all))) ?_
  refine dp rfl (pop_assign rfl) ?_
  refine dn ?_
  refine hw_reg ?_
  refine dp rfl (pop_assign rfl) ?_
  refine dn ?_
  refine hw_ghost (Ghost.arr_nil 5) ?_
  refine hw_seq ?_
  refine hw_reg ?_
  refine dp rfl (pop_loadw ty28 rfl rfl rfl rfl) ?_
  refine dp rfl (pop_move rfl) ?_
  refine dp rfl (pop_call ca113 rfl (WeakL.refl _) (c_benchref1_TurnsFor (by first | assumption | omega | (simp; omega) | simp_all) (by first | assumption | omega | (simp; omega) | simp_all) (by first | assumption | omega | (simp; omega) | simp_all) (by first | assumption | omega | (simp; omega) | simp_all) (by first | assumption | omega | (simp; omega) | simp_all))) ?_
  refine dp rfl (pop_lenm ty26 rfl) ?_
  refine dp rfl (pop_move rfl) ?_
  refine dn ?_
  refine hw_block ?_
  refine hw_loopw2 [8, 9, 10, 11, 13, 20, 21, 22, 23, 24, 25, 26, 27, 28, 29, 30, 31, 32, 33, 34, 35, 36, 37, 38, 39, 40, 41, 42, 43, 44, 45, 46, 47, 48, 49, 50, 51, 52, 53, 54, 55, 56, 57, 58, 59, 60, 61, 62, 63] (fun (i : Nat) (u : Value) => [(20, .int .i64 i), (8, .raw u)]) (fun (i : Nat) (u : Value) => [.arr u 5 ((openFrom r l 0 ((turns r s).take i)).map ePick)]) (fun (i : Nat) (u : Value) => i ≤ (turns r s).length ∧ (True)) (fun (i : Nat) (u : Value) => (turns r s).length - i) (0) (.slice none 0 0) ?_ ?_ ?_ ?_
  · exact ⟨Nat.zero_le _, by simp_all⟩
  · exact ⟨rfl, rfl, trivial⟩
  · exact perm_eq (by simp [openFrom])
  · intro i u hinv
    obtain ⟨hi, -⟩ := hinv
    refine hw_reg ?_
    refine dp rfl (pop_lss rfl rfl) ?_
    refine dn ?_
    refine hw_seq ?_
    refine hw_cond rfl (fun h1 => ?_) (fun h2 => ?_)
    · try simp at h1
      obtain ⟨t, ht⟩ : ∃ t, (turns r s)[i]? = some t := ⟨_, List.getElem?_eq_getElem h1⟩
      have hdt := drop_cons ht
      obtain ⟨w, hw⟩ : ∃ w, (ownTurns r)[i]? = some w := ⟨_, List.getElem?_eq_getElem (by omega)⟩
      have htw := tfor_get r s _ 0 i w hw
      rw [ref_turns, ht, Nat.zero_add] at htw
      obtain rfl := Option.some.inj htw
      have hdl := Nat.div_le_self i r.Teams.length
      have hdn : (0:Int) ≤ ((i / r.Teams.length : Nat) : Int) := Int.natCast_nonneg _
      refine hw_skip ?_
      refine seqQ_n ?_
      refine hw_seq ?_
      refine hw_block ?_
      refine hw_reg ?_
      refine dp rfl (pop_move rfl) ?_
      refine dp rfl (pop_idx (j := i) (a := owner (((i / r.Teams.length : Nat) : Int) + 1) w s) ty26 ty9 rfl rfl rfl (by rw [List.getElem?_map, ht]; rfl)) ?_
      refine dp rfl (pop_load ty9 rfl rfl rfl) ?_
      refine dp rfl (pop_assign rfl) ?_
      refine dp rfl (pop_assign rfl) ?_
      refine dn ?_
      refine hw_reg ?_
      refine dp rfl (pop_move rfl) ?_
      refine dp rfl (pop_move rfl) ?_
      refine dp rfl (pop_build (cs := [_, _, _, _, _]) ty55 pl55 rfl) ?_
      refine de rfl (eop_alloc ty55 rfl fun b11 => ?_)
      refine de0 (eop_storew ty55 rfl rfl rfl rfl rfl ?_)
      refine dn ?_
      refine hw_seq ?_
      refine hw_reg ?_
      refine dp rfl (pop_move rfl) ?_
      refine dp rfl (pop_lenm ty30 rfl) ?_
      refine dp rfl (pop_move rfl) ?_
      refine dn ?_
      refine hw_block ?_
      refine hw_loopw2 [13, 30, 31, 32, 33, 34, 35, 36, 37, 38, 39, 40, 41, 42, 43, 44, 45, 46, 47, 48, 49, 50, 51, 52, 53, 54, 55, 56, 57, 58] (fun (k : Nat) (p : Pick) => [(30, .int .i64 k)]) (fun (k : Nat) (p : Pick) => [.cells b11 (hcells (ePick p)), .arr u 5 ((openFrom r l 0 ((turns r s).take i)).map ePick)]) (fun (k : Nat) (p : Pick) => k ≤ l.length ∧ (p = keepIn r (⟨((i / r.Teams.length : Nat) : Int) + 1, w, owner (((i / r.Teams.length : Nat) : Int) + 1) w s⟩ : Turn) ⟨i, (⟨((i / r.Teams.length : Nat) : Int) + 1, w, owner (((i / r.Teams.length : Nat) : Int) + 1) w s⟩ : Turn).team, [], 0, false⟩ (l.take k))) (fun (k : Nat) (p : Pick) => l.length - k) (0) (⟨i, owner (((i / r.Teams.length : Nat) : Int) + 1) w s, [], 0, false⟩) ?_ ?_ ?_ ?_
      · exact ⟨Nat.zero_le _, by simp [keepIn]⟩
      · exact ⟨rfl, trivial⟩
      · exact List.Perm.refl _
      · intro k p hinv
        obtain ⟨hk, hp⟩ := hinv
        refine hw_reg ?_
        refine dp rfl (pop_lss rfl rfl) ?_
        refine dn ?_
        refine hw_seq ?_
        refine hw_cond rfl (fun h3 => ?_) (fun h4 => ?_)
        · try simp at h3
          obtain ⟨x, hx⟩ : ∃ x, l[k]? = some x := ⟨_, List.getElem?_eq_getElem h3⟩
          have hdx := drop_cons hx
          refine hw_skip ?_
          refine seqQ_n ?_
          refine hw_seq ?_
          refine hw_block ?_
          refine hw_reg ?_
          refine dp rfl (pop_idx ty30 ty88 rfl rfl rfl (by first | assumption | simp_all)) ?_
          refine dp rfl (pop_loadw ty88 rfl rfl rfl rfl) ?_
          refine de rfl (eop_alloc ty88 rfl fun b13 => ?_)
          refine de0 (eop_storew ty88 rfl rfl rfl rfl rfl ?_)
          refine dn ?_
          refine hw_ghost (Ghost.fc0 13 rfl) ?_
          refine hw_draw (fun _ => True) [] mixed ?_
          refine ahp 0 rfl rfl (by kernel_rfl) (by kernel_rfl) (pop_fieldAddr ty88 rfl ty9 (by decide) rfl) ?_
          refine ahp 1 rfl rfl (by kernel_rfl) (by kernel_rfl) (pop_load ty9 rfl rfl rfl) ?_
          refine ahp 2 rfl rfl (by kernel_rfl) (by kernel_rfl) (pop_move rfl) ?_
          refine ahp 3 rfl rfl (by kernel_rfl) (by kernel_rfl) (pop_move rfl) ?_
          refine ahp 4 rfl rfl (by kernel_rfl) (by kernel_rfl) (pop_idx (j := i) (a := w) ty26 ty9 rfl rfl rfl hw) ?_
          refine ahp 5 rfl rfl (by kernel_rfl) (by kernel_rfl) (pop_load ty9 rfl rfl rfl) ?_
          refine ahp 6 rfl rfl (by kernel_rfl) (by kernel_rfl) (pop_eqls rfl rfl) ?_
          refine ahp 7 rfl rfl (by kernel_rfl) (by kernel_rfl) (pop_move rfl) ?_
          refine ahg 8 rfl rfl (by kernel_rfl) (by kernel_rfl) rfl (fun hc => ⟨_, OpenTo.refl _, pop_fieldAddr ty88 rfl ty3 (by decide) rfl⟩) ?_
          refine ahg 9 rfl rfl (by kernel_rfl) (by kernel_rfl) rfl (fun hc => ⟨_, OpenTo.upd (t := 42) rfl (by first | exact hc | simp_all) (OpenTo.refl _), pop_load ty3 rfl rfl rfl⟩) ?_
          refine ahg 10 rfl rfl (by kernel_rfl) (by kernel_rfl) rfl (fun hc => ⟨_, OpenTo.refl _, pop_move rfl⟩) ?_
          refine ahg 11 rfl rfl (by kernel_rfl) (by kernel_rfl) rfl (fun hc => ⟨_, OpenTo.refl _, pop_fieldAddr ty28 rfl ty26 (by decide) rfl⟩) ?_
          refine ahg 12 rfl rfl (by kernel_rfl) (by kernel_rfl) rfl (fun hc => ⟨_, OpenTo.upd (t := 45) rfl (by first | exact hc | simp_all) (OpenTo.refl _), pop_load ty26 rfl rfl rfl⟩) ?_
          refine ahg 13 rfl rfl (by kernel_rfl) (by kernel_rfl) rfl (fun hc => ⟨_, OpenTo.upd (t := 46) rfl (by first | exact hc | simp_all) (OpenTo.refl _), pop_lenm ty26 rfl⟩) ?_
          refine ahg 14 rfl rfl (by kernel_rfl) (by kernel_rfl) rfl (fun hc => by have hq := hc; (try simp at hq); exact ⟨_, OpenTo.upd (t := 47) rfl (by first | exact hc | simp_all) (OpenTo.upd (t := 44) rfl (by first | exact hc | simp_all) (OpenTo.refl _)), pop_eq (pop_quo64 rfl rfl (by omega) (by omega) (by omega)) (congrArg _ (tdiv_nat _ _))⟩) ?_
          refine ahg 15 rfl rfl (by kernel_rfl) (by kernel_rfl) rfl (fun hc => by have hq := hc; (try simp at hq); exact ⟨_, OpenTo.upd (t := 48) rfl (by first | exact hc | simp_all) (OpenTo.refl _), pop_add64 rfl rfl (by omega) (by omega)⟩) ?_
          refine ahg 16 rfl rfl (by kernel_rfl) (by kernel_rfl) rfl (fun hc => ⟨_, OpenTo.upd (t := 49) rfl (by first | exact hc | simp_all) (OpenTo.upd (t := 43) rfl (by first | exact hc | simp_all) (OpenTo.refl _)), pop_eql rfl rfl⟩) ?_
          refine ahp 17 rfl rfl (by kernel_rfl) (by kernel_rfl) (pop_picko rfl (.inr ⟨_, rfl, fun h => by simp_all⟩) (.inl rfl)) ?_
          refine ahz (by kernel_rfl) ?_
          refine hw_cond rfl (fun h5 => ?_) (fun h6 => ?_)
          · try simp at h5
            refine hw_draw1 (fun _ => True) [] mixed ?_
            refine ahp 0 rfl rfl (by kernel_rfl) (by kernel_rfl) (pop_fieldAddr ty88 rfl ty9 (by decide) rfl) ?_
            refine ahp 1 rfl rfl (by kernel_rfl) (by kernel_rfl) (pop_load ty9 rfl rfl rfl) ?_
            refine ahp 2 rfl rfl (by kernel_rfl) (by kernel_rfl) (pop_fieldAddr ty28 rfl ty3 (by decide) rfl) ?_
            refine ahp 3 rfl rfl (by kernel_rfl) (by kernel_rfl) (pop_load ty3 rfl rfl rfl) ?_
            refine ahp 4 rfl rfl (by kernel_rfl) (by kernel_rfl) (pop_fieldAddr_raw ty55 rfl ty9 (by decide) rfl) ?_
            refine ahe 5 rfl (by kernel_rfl) ?_
            refine hop_e0 (eop_store (i := 0) ty9 rfl rfl rfl rfl rfl (Nat.le_of_ble_eq_true rfl) ?_)
            refine ⟨fun _ => .inl trivial, ?_⟩
            refine ahp 6 rfl rfl (by kernel_rfl) (by kernel_rfl) (pop_fieldAddr_raw ty55 rfl ty3 (by decide) rfl) ?_
            refine ahe 7 rfl (by kernel_rfl) ?_
            refine hop_e0 (eop_store (i := 0) ty3 rfl rfl rfl rfl rfl (Nat.le_of_ble_eq_true rfl) ?_)
            refine ⟨fun _ => .inl trivial, ?_⟩
            refine ahz (by kernel_rfl) ?_
            refine blockQ_n ?_
            refine seqQ_n ?_
            refine hw_reg1 ?_
            refine dp rfl (pop_add64 rfl rfl (by omega) (by omega)) ?_
            refine dp rfl (pop_move rfl) ?_
            refine dn ?_
            first
            | exact ⟨k + 1, { p with Player := x.Player, At := r.Start }, ⟨by omega, by rw [List.take_add_one, hx, hp]; exact (keepIn_snoc r _ _ x _).symm ▸ (by simp_all)⟩, by dsimp only; omega, ⟨rfl, trivial⟩, (by repeat (first | exact keeps_refl | refine keeps_upd rfl ?_ | refine keeps_loop rfl rfl ?_)), List.Perm.refl _⟩
            | exact ⟨k + 1, p, ⟨by omega, by rw [List.take_add_one, hx, hp]; exact (keepIn_snoc r _ _ x _).symm ▸ (by simp_all)⟩, by dsimp only; omega, ⟨rfl, trivial⟩, (by repeat (first | exact keeps_refl | refine keeps_upd rfl ?_ | refine keeps_loop rfl rfl ?_)), List.Perm.refl _⟩
          · try simp at h6
            refine hw_skip ?_
            refine blockQ_n ?_
            refine seqQ_n ?_
            refine hw_reg1 ?_
            refine dp rfl (pop_add64 rfl rfl (by omega) (by omega)) ?_
            refine dp rfl (pop_move rfl) ?_
            refine dn ?_
            first
            | exact ⟨k + 1, { p with Player := x.Player, At := r.Start }, ⟨by omega, by rw [List.take_add_one, hx, hp]; exact (keepIn_snoc r _ _ x _).symm ▸ (by simp_all)⟩, by dsimp only; omega, ⟨rfl, trivial⟩, (by repeat (first | exact keeps_refl | refine keeps_upd rfl ?_ | refine keeps_loop rfl rfl ?_)), List.Perm.refl _⟩
            | exact ⟨k + 1, p, ⟨by omega, by rw [List.take_add_one, hx, hp]; exact (keepIn_snoc r _ _ x _).symm ▸ (by simp_all)⟩, by dsimp only; omega, ⟨rfl, trivial⟩, (by repeat (first | exact keeps_refl | refine keeps_upd rfl ?_ | refine keeps_loop rfl rfl ?_)), List.Perm.refl _⟩
        · try simp at h4
          have hnk : l.length ≤ k := by omega
          obtain rfl : k = l.length := by omega
          rw [List.take_length] at hp
          subst hp
          refine hw_exit ?_
          refine seqQ_x ?_
          refine loopQ2_x ?_
          refine blockQ_eq ?_
          refine seqQ_n ?_
          have ho7 : (openFrom r l 0 ((turns r s).take i)).length ≤ 600 := by rw [openFrom_len]; simp; omega
          refine hw_reg1 ?_
          refine dp rfl (pop_move rfl) ?_
          refine de rfl (eop_loadw (i := 0) ty55 rfl rfl rfl rfl rfl ?_)
          refine dp rfl (pop_buildSlice (hs := [_]) ty36 ty55 rfl rfl (by decide) (by decide) rfl) ?_
          refine de rfl (eop_append (i := 1) ty36 ty55 rfl rfl rfl rfl rfl (by simp [flat, hcells]) (by first | omega | (simp; omega)) fun v62 => ?_)
          refine dp rfl (pop_assign rfl) ?_
          refine dn ?_
          refine blockQ_n ?_
          refine seqQ_n ?_
          refine hw_ghost Ghost.drop ?_
          refine hw_reg1 ?_
          refine dp rfl (pop_add64 rfl rfl (by omega) (by omega)) ?_
          refine dp rfl (pop_move rfl) ?_
          refine dn ?_
          refine ⟨i + 1, _, ?_, ?_, ⟨rfl, rfl, trivial⟩, (by repeat (first | exact keeps_refl | refine keeps_upd rfl ?_ | refine keeps_loop rfl rfl ?_)), perm_eq (by simp [List.take_add_one, ht, openFrom_snoc, Nat.min_eq_left hi])⟩
          · exact ⟨by omega, trivial⟩
          · dsimp only; omega
    · try simp at h2
      have hni : (turns r s).length ≤ i := by omega
      obtain rfl : i = (turns r s).length := by omega
      refine hw_exit ?_
      refine seqQ_x ?_
      refine loopQ2_x ?_
      refine blockQ_eq ?_
      refine seqQ_n ?_
      refine hw_reg ?_
      refine dp rfl (pop_move rfl) ?_
      refine dp rfl (pop_assign rfl) ?_
      refine dn ?_
      refine hw_ret ?_
      exact ret_fa (M := []) 6 rfl rfl (by simp [open1])
end Go.Proofs.YtoomadfbldcioaaGreatDoor
end
