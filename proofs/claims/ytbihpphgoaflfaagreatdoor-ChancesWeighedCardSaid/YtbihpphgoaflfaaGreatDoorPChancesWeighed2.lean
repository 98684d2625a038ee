/- Part 2 of the proof: a program logic, contracts of functions and plain facts; no conditions. -/
import Derived.Test.YtbihpphgoaflfaaGreatDoorPChancesWeighed1
import Derived.Carry
import Derived.Laws.MakeOwn
import Derived.Lib.LaidTab
import Derived.Lib.SlicesCompact
import Derived.OpenShut
import Derived.Shelf.SlSortCmp.Insertion
import Derived.Shelf.Slices.CompactI
import Derived.Shelf.Slices.In.SortNone
import Derived.Shelf.Sort.Plain
import Derived.Shelf.Strconv.Atoi
import Derived.Shelf.Strconv.Itoa3
import Derived.Shelf.Strings.Prefix
import Derived.Sort.EncStr
import Derived.Sort.Grow
import Derived.WideKeyRuns
import GoSem.ClaimJoined
set_option linter.unusedVariables false
set_option linter.unusedSimpArgs false
section
namespace Go.HL
def asciiSet (l : List UInt8) : List HVal := (List.range 256).map fun i => .bool (l.contains (UInt8.ofNat i))
theorem asciiSet_len (l : List UInt8) : (asciiSet l).length = 256 := by simp [asciiSet]
theorem asciiSet_get (l : List UInt8) (c : UInt8) : (asciiSet l)[c.toNat]? = some (.bool (l.contains c)) := by
 have := c.toNat_lt
 simp [asciiSet, List.getElem?_range, this]
theorem flat_bools {α : Type} (f : α → Bool) : ∀ l : List α, flat (l.map fun i => .bool (f i)) = true
 | [] => rfl
 | x :: l => by simp only [List.map_cons, flat]; exact flat_bools f l
theorem asciiSet_flat (l : List UInt8) : flat (asciiSet l) = true := flat_bools _ _
theorem asciiSet_add (l : List UInt8) (c : UInt8) : setL (asciiSet l) (0 + c.toNat * 1) [.bool true] = asciiSet (l ++ [c]) := by
 have hc := c.toNat_lt
 have hl : 0 + c.toNat * 1 = c.toNat := by omega
 rw [hl]
 apply List.ext_getElem?
 intro i
 have hlen := asciiSet_len l
 simp only [setL, List.length_singleton]
 by_cases hi : i < c.toNat
 ·rw [List.getElem?_append_left (by simp; omega), List.getElem?_append_left (by simp [hlen]; omega), List.getElem?_take_of_lt hi]
  have h256 : i < 256 := by omega
  have hne : UInt8.ofNat i ≠ c := fun h => by
   have := congrArg UInt8.toNat h
   rw [UInt8.toNat_ofNat_of_lt' (by simpa [UInt8.size] using h256)] at this; omega
  simp [asciiSet, List.getElem?_range, h256, hne]
 ·by_cases he : i = c.toNat
  ·subst he
   rw [List.getElem?_append_left (by simp [hlen]; omega), List.getElem?_append_right (by simp [hlen]; omega)]
   rw [asciiSet_get]
   simp [hlen, Nat.min_eq_left (Nat.le_of_lt hc)]
  ·rw [List.getElem?_append_right (by simp [hlen]; omega), List.getElem?_drop]
   have e1 : c.toNat + 1 + (i - ((asciiSet l).take c.toNat ++ [HVal.bool true]).length) = i := by simp [hlen]; omega
   rw [e1]
   by_cases h256 : i < 256
   ·have hne : UInt8.ofNat i ≠ c := fun h => by
     have := congrArg UInt8.toNat h
     rw [UInt8.toNat_ofNat_of_lt' (by simpa [UInt8.size] using h256)] at this; omega
    simp [asciiSet, List.getElem?_range, h256, hne]
   ·rw [List.getElem?_eq_none (by rw [asciiSet_len]; omega), List.getElem?_eq_none (by rw [asciiSet_len]; omega)]
def rtrim (p : UInt8 → Bool) (s : Str) : Str := (s.reverse.dropWhile p).reverse
theorem rtrim_snoc (p : UInt8 → Bool) (s : Str) (c : UInt8) : rtrim p (s ++ [c]) = if p c then rtrim p s else s ++ [c] := by
 unfold rtrim
 rw [List.reverse_append]
 simp only [List.reverse_cons, List.reverse_nil, List.nil_append, List.singleton_append, List.dropWhile_cons]
 split <;> simp
theorem dw_len (p : UInt8 → Bool) : ∀ s : Str, (s.dropWhile p).length ≤ s.length
 | [] => Nat.le_refl _
 | x :: s => by
   rw [List.dropWhile_cons]
   split
   ·exact Nat.le_succ_of_le (dw_len p s)
   ·exact Nat.le_refl _
theorem rtrim_len (p : UInt8 → Bool) (s : Str) : (rtrim p s).length ≤ s.length := by
 unfold rtrim
 rw [List.length_reverse]
 have := dw_len p s.reverse
 rwa [List.length_reverse] at this
theorem dw_nil (p : UInt8 → Bool) : ∀ s : Str, s.dropWhile p = [] → ∀ c ∈ s, p c = true
 | [], _, c, h => by cases h
 | x :: s, h, c, hc => by
   rw [List.dropWhile_cons] at h
   by_cases hx : p x = true
   ·rw [if_pos hx] at h
    rcases List.mem_cons.1 hc with rfl | hc
    ·exact hx
    ·exact dw_nil p s h c hc
   ·rw [if_neg hx] at h; cases h
theorem trim_nil (p : UInt8 → Bool) (s : Str) : ((rtrim p s).dropWhile p == []) = s.all p := by
 induction s using List.reverseRecOn' with
 | nil => rfl
 | snoc s c ih =>
   rw [rtrim_snoc]
   by_cases hc : p c = true
   ·rw [if_pos hc, ih]; simp [hc]
   ·rw [if_neg hc]
    have : (s ++ [c]).all p = false := by simp [hc]
    rw [this]
    cases hd : (s ++ [c]).dropWhile p with
    | nil => exact absurd (dw_nil _ _ hd c (by simp)) hc
    | cons _ _ => rfl
where
 List.reverseRecOn' {motive : Str → Prop} (nil : motive []) (snoc : ∀ s c, motive s → motive (s ++ [c])) (l : Str) : motive l := by
  have : ∀ n (l : Str), l.length = n → motive l := by
   intro n
   induction n with
   | zero => intro l h; rw [List.length_eq_zero_iff.1 h]; exact nil
   | succ n ih =>
     intro l h
     have hne : l ≠ [] := fun h0 => by subst h0; simp at h
     rw [← List.dropLast_concat_getLast hne]
     exact snoc _ _ (ih _ (by simp [h]))
  exact this l.length l rfl
def cut38 : Str := [97, 98, 99, 100, 101, 102, 103, 104, 105, 106, 107, 108, 109, 110, 111, 112, 113, 114, 115, 116, 117, 118, 119, 120, 121, 122, 48, 49, 50, 51, 52, 53, 54, 55, 56, 57, 45, 95]
def small26 : Str := [97, 98, 99, 100, 101, 102, 103, 104, 105, 106, 107, 108, 109, 110, 111, 112, 113, 114, 115, 116, 117, 118, 119, 120, 121, 122]
theorem all256 {p : UInt8 → Bool} (h : (List.range 256).all (fun i => p (UInt8.ofNat i)) = true) (c : UInt8) : p c = true := by
 have := List.all_eq_true.1 h c.toNat (List.mem_range.2 c.toNat_lt)
 simpa using this
theorem cut38_eq (c : UInt8) : cut38.contains c = keyCh c := by
 have := all256 (p := fun c => cut38.contains c == keyCh c) (by kernel_rfl) c
 simpa using this
theorem small26_eq (c : UInt8) : decide (0 ≤ Lib.indexByte small26 c) = (decide (97 ≤ c.toNat) && decide (c.toNat ≤ 122)) := by
 have := all256 (p := fun c => decide (0 ≤ Lib.indexByte small26 c) == (decide (97 ≤ c.toNat) && decide (c.toNat ≤ 122))) (by kernel_rfl) c
 simpa using this
theorem key_ref (s : Str) : key s = ((!(out s.length 1 40) && ((rtrim (cut38.contains ·) s).dropWhile (cut38.contains ·) == [])) && decide (0 ≤ Lib.indexByte small26 (s.headD 0))) := by
 rw [trim_nil, small26_eq]
 have : (fun x => cut38.contains x) = keyCh := funext cut38_eq
 rw [this]
 unfold key keyHd
 cases s with
 | nil => simp [out]
 | cons x r =>
   simp only [List.headD_cons]
   have h1 : (!(out ((x :: r).length : Int) 1 40)) = decide ((x :: r).length ≤ 40) := by
    simp only [out, List.length_cons]
    rw [Bool.eq_iff_iff]; simp; omega
   rw [h1]
   have h2 : ((x :: r) != []) = true := rfl
   rw [h2]
   have hb : ∀ a b c d : Bool, (true && a && c && d && b) = (a && b && (c && d)) := by decide
   exact hb _ _ _ _
end Go.HL
end
section
namespace Go.Proofs.YtbihpphgoaflfaaGreatDoor
open Go.HL
set_option maxRecDepth 100000
set_option linter.unusedVariables false
set_option linter.unusedSimpArgs false
/-- strings.makeASCIISet -/
theorem c_strings_makeASCIISet [Tracks] {l : Str} (hl : l.length ≤ 1000000) (ha : ∀ c ∈ l, c.toNat < 128) : ConP Tryz.prog 96 [.str l] (.tup [.agg (asciiSet l), .bool true]) := by
 refine Con.of_bodyc Tryz.func96 rfl Tryz.ntmps96 rfl rfl ?_
 refine hw_reg ?_
 refine de rfl (eop_alloc ty145 rfl fun b2 => ?_)
 refine dp rfl (pop_assign rfl) ?_
 refine dn ?_
 refine hw_seq ?_
 refine hw_reg ?_
 refine dp rfl (pop_assign rfl) ?_
 refine dn ?_
 refine hw_block ?_
 refine hw_loopw [3, 4, 5, 6, 7, 8, 9, 10, 11, 12, 13, 14, 15, 16, 17, 18, 19] (fun (k : Nat) => [(4, .int .i64 k)]) (fun (k : Nat) => [.cells b2 (asciiSet (l.take k))]) (fun (k : Nat) => k ≤ l.length ∧ (True)) (fun (k : Nat) => l.length - k) (0) ?_ ?_ ?_ ?_
 ·exact ⟨Nat.zero_le _, by simp_all⟩
 ·exact ⟨rfl, trivial⟩
 ·exact perm_eq rfl
 ·intro k hinv
  obtain ⟨hk, -⟩ := hinv
  refine hw_seq ?_
  refine hw_reg ?_
  refine dp rfl (pop_move rfl) ?_
  refine dp rfl (pop_move rfl) ?_
  refine dp rfl (pop_lens ty9 rfl) ?_
  refine dp rfl (pop_lss rfl rfl) ?_
  refine dn ?_
  refine hw_cond rfl (fun h1 => ?_) (fun h2 => ?_)
  ·try simp at h1
   obtain ⟨x, hx⟩ : ∃ x, l[k]? = some x := ⟨_, List.getElem?_eq_getElem h1⟩
   have hdx := drop_cons hx
   have hc := ha x (List.mem_of_getElem? hx)
   refine hw_skip ?_
   refine seqQ_n ?_
   refine hw_seq ?_
   refine hw_block ?_
   refine hw_reg ?_
   refine dp rfl (pop_move rfl) ?_
   refine dp rfl (pop_move rfl) ?_
   refine dp rfl (pop_indexs ty9 rfl rfl rfl (by assumption)) ?_
   refine dp rfl (pop_assign rfl) ?_
   refine dn ?_
   refine hw_seq ?_
   refine hw_reg ?_
   refine dp rfl (pop_move rfl) ?_
   refine dp rfl (pop_geq rfl rfl) ?_
   refine dn ?_
   refine hw_cond rfl (fun h3 => ?_) (fun h3 => ?_)
   ·exfalso
    try simp at h3
    omega
   ·try simp at h3
    refine hw_skip ?_
    refine seqQ_n ?_
    refine hw_reg1 ?_
    refine dp rfl (pop_move rfl) ?_
    refine dp rfl (pop_idxa_raw ty145 ty4 rfl rfl rfl (by omega)) ?_
    refine de0 (eop_store (i := 0) ty4 rfl rfl rfl rfl rfl (by rw [asciiSet_len]; omega) ?_)
    refine dn ?_
    refine blockQ_n ?_
    refine seqQ_n ?_
    refine hw_reg1 ?_
    refine dp rfl (pop_move rfl) ?_
    refine dp rfl (pop_add64 rfl rfl (by omega) (by omega)) ?_
    refine dp rfl (pop_assign rfl) ?_
    refine dn ?_
    refine ⟨k + 1, ?_, ?_, ⟨rfl, trivial⟩, (by repeat (first | exact keeps_refl | refine keeps_upd rfl ?_ | refine keeps_loop rfl rfl ?_)), perm_eq (by show [MObj.cells b2 (setL _ (0 + x.toNat * 1) [.bool true])] = _; rw [asciiSet_add]; dsimp only; rw [List.take_add_one, hx]; rfl)⟩
    ·exact ⟨by omega, trivial⟩
    ·dsimp only; omega
  ·try simp at h2
   have hnk : l.length ≤ k := by omega
   obtain rfl : k = l.length := by omega
   refine hw_exit ?_
   refine seqQ_x ?_
   refine loopQ_x ?_
   refine blockQ_eq ?_
   refine seqQ_n ?_
   refine hw_ghost (Ghost.of_eq (M' := [.cells b2 (asciiSet l)]) (by rw [List.take_length])) ?_
   refine hw_reg ?_
   refine de rfl (eop_loadw (i := 0) (h := .agg (asciiSet l)) ty145 rfl rfl rfl rfl (asciiSet_len l) ?_)
   refine de0 (eop_storew (h := .agg (asciiSet l)) ty145 rfl rfl (by simp [okElem, asciiSet_len]) (asciiSet_flat l) (asciiSet_len l) ?_)
   refine dp rfl (pop_assign rfl) ?_
   refine dn ?_
   refine hw_ret ?_
   refine ⟨_, _, Ghost.fc0 2 rfl, [_, _], _, ⟨⟨_, _, _, _, _, rfl, ty145, .inr ⟨rfl, rfl, rfl⟩⟩, ⟨rfl, trivial⟩⟩, Weak.refl _, ?_, rfl⟩
   rfl

/-- (*strings.asciiSet).contains -/
theorem c_strings_asciiSet_contains [Tracks] {l : Str} {c : UInt8}  : ConP Tryz.prog 136 [.vptr (asciiSet l) 0, .int .u8 c.toNat] (.bool (l.contains c)) := by
 have hc := c.toNat_lt
 refine Con.of_body Tryz.func136 rfl Tryz.ntmps136 rfl rfl ?_
 refine hw_reg ?_
 refine dp rfl (pop_assign rfl) ?_
 refine dn ?_
 refine hw_reg ?_
 refine dp rfl (pop_move rfl) ?_
 refine dp rfl (pop_move rfl) ?_
 refine dp rfl ((pop_nilCheck rfl)) ?_
 refine dp rfl (pop_idxa ty145 ty4 rfl rfl rfl (by omega)) ?_
 refine dp rfl (pop_load ty4 rfl rfl (by rw [show 0 + c.toNat * 1 = c.toNat from by omega]; exact asciiSet_get l c)) ?_
 refine dp rfl (pop_assign rfl) ?_
 refine dn ?_
 refine hw_ret ?_
 refine ret_p rfl ?_
 rfl

/-- strings.trimLeftASCII -/
theorem c_strings_trimLeftASCII [Tracks] {s l : Str} (hl : s.length ≤ 1000000) : ConP Tryz.prog 97 [.str s, .vptr (asciiSet l) 0] (.str (s.dropWhile (l.contains ·))) := by
 refine Con.of_body Tryz.func97 rfl Tryz.ntmps97 rfl rfl ?_
 refine hw_reg ?_
 refine dp rfl (pop_assign rfl) ?_
 refine dn ?_
 refine hw_seq ?_
 refine hw_block ?_
 refine hw_loopw [0, 5, 6, 7, 8, 9, 10, 11, 12, 13, 14] (fun (t : Str) => [(0, .str t)]) (fun (t : Str) => []) (fun (t : Str) => t.length ≤ s.length ∧ s.dropWhile (l.contains ·) = t.dropWhile (l.contains ·)) (fun (t : Str) => t.length) (s) ?_ ?_ ?_ ?_
 ·exact ⟨Nat.le_refl _, rfl⟩
 ·exact ⟨rfl, trivial⟩
 ·exact List.Perm.refl _
 ·intro t hinv
  obtain ⟨ht, hg⟩ := hinv
  refine hw_seq ?_
  refine hw_reg ?_
  refine dp rfl (pop_move rfl) ?_
  refine dp rfl (pop_lens ty9 rfl) ?_
  refine dp rfl (pop_gtr rfl rfl) ?_
  refine dn ?_
  refine hw_cond rfl (fun h1 => ?_) (fun h2 => ?_)
  ·try simp at h1
   obtain ⟨x, u, rfl⟩ : ∃ x u, t = x :: u := by cases t with | nil => simp at h1 | cons x u => exact ⟨x, u, rfl⟩
   have hlen : (x :: u).length = u.length + 1 := rfl
   refine hw_skip ?_
   refine seqQ_n ?_
   refine hw_block ?_
   refine hw_seq ?_
   refine hw_reg ?_
   refine dp rfl (pop_move rfl) ?_
   refine dp rfl (pop_move rfl) ?_
   refine dp rfl (pop_indexs (j := 0) (b := x) ty9 rfl rfl rfl rfl) ?_
   refine dp rfl (pop_call ca136 rfl (WeakL.refl _) c_strings_asciiSet_contains) ?_
   refine dp rfl (pop_not rfl) ?_
   refine dn ?_
   refine hw_cond rfl (fun h3 => ?_) (fun h4 => ?_)
   ·try simp at h3
    refine hw_exit ?_
    refine seqQ_x ?_
    refine blockQ_ne rfl ?_
    refine loopQ_x ?_
    refine blockQ_eq ?_
    refine seqQ_n ?_
    refine hw_reg ?_
    refine dp rfl (pop_move rfl) ?_
    refine dp rfl (pop_assign rfl) ?_
    refine dn ?_
    refine hw_ret ?_
    refine ret_p rfl ?_
    show HVal.str _ = _
    rw [hg]; simp_all [List.dropWhile_cons]
   ·try simp at h4
    refine hw_skip ?_
    refine seqQ_n ?_
    refine hw_reg1 ?_
    refine dp rfl (pop_move rfl) ?_
    refine dp rfl (pop_slices (l := 1) ty9 rfl ⟨_, _, rfl, rfl⟩ rfl (by omega) (by omega)) ?_
    refine dp rfl (pop_assign rfl) ?_
    refine dn ?_
    refine blockQ_n ?_
    refine ⟨_, ?_, ?_, ⟨rfl, trivial⟩, (by repeat (first | exact keeps_refl | refine keeps_upd rfl ?_ | refine keeps_loop rfl rfl ?_)), List.Perm.refl _⟩
    ·refine ⟨by simp at ht ⊢; omega, ?_⟩
     rw [hg]; simp_all [List.dropWhile_cons]
    ·dsimp only; simp
  ·try simp at h2
   obtain rfl : t = [] := by simpa using h2
   refine hw_exit ?_
   refine seqQ_x ?_
   refine loopQ_x ?_
   refine blockQ_eq ?_
   refine seqQ_n ?_
   refine hw_reg ?_
   refine dp rfl (pop_move rfl) ?_
   refine dp rfl (pop_assign rfl) ?_
   refine dn ?_
   refine hw_ret ?_
   refine ret_p rfl ?_
   show HVal.str _ = _
   rw [hg]; simp_all [List.dropWhile_cons]

/-- strings.trimRightASCII -/
theorem c_strings_trimRightASCII [Tracks] {s l : Str} (hl : s.length ≤ 1000000) : ConP Tryz.prog 98 [.str s, .vptr (asciiSet l) 0] (.str (rtrim (l.contains ·) s)) := by
 refine Con.of_body Tryz.func98 rfl Tryz.ntmps98 rfl rfl ?_
 refine hw_reg ?_
 refine dp rfl (pop_assign rfl) ?_
 refine dn ?_
 refine hw_seq ?_
 refine hw_block ?_
 refine hw_loopw [0, 5, 6, 7, 8, 9, 10, 11, 12, 13, 14, 15, 16, 17, 18, 19, 20] (fun (t : Str) => [(0, .str t)]) (fun (t : Str) => []) (fun (t : Str) => t.length ≤ s.length ∧ rtrim (l.contains ·) s = rtrim (l.contains ·) t) (fun (t : Str) => t.length) (s) ?_ ?_ ?_ ?_
 ·exact ⟨Nat.le_refl _, rfl⟩
 ·exact ⟨rfl, trivial⟩
 ·exact List.Perm.refl _
 ·intro t hinv
  obtain ⟨ht, hg⟩ := hinv
  refine hw_seq ?_
  refine hw_reg ?_
  refine dp rfl (pop_move rfl) ?_
  refine dp rfl (pop_lens ty9 rfl) ?_
  refine dp rfl (pop_gtr rfl rfl) ?_
  refine dn ?_
  refine hw_cond rfl (fun h1 => ?_) (fun h2 => ?_)
  ·try simp at h1
   obtain ⟨u, x, rfl⟩ : ∃ u x, t = u ++ [x] := ⟨_, _, (List.dropLast_concat_getLast (by intro h0; subst h0; simp at h1)).symm⟩
   have hlen : (u ++ [x]).length = u.length + 1 := by simp
   refine hw_skip ?_
   refine seqQ_n ?_
   refine hw_block ?_
   refine hw_seq ?_
   refine hw_reg ?_
   refine dp rfl (pop_move rfl) ?_
   refine dp rfl (pop_move rfl) ?_
   refine dp rfl (pop_move rfl) ?_
   refine dp rfl (pop_lens ty9 rfl) ?_
   refine dp rfl (pop_sub64 rfl rfl (by omega) (by omega)) ?_
   refine dp rfl (pop_indexs (j := u.length) (b := x) ty9 rfl rfl (by omega) (by simp)) ?_
   refine dp rfl (pop_call ca136 rfl (WeakL.refl _) c_strings_asciiSet_contains) ?_
   refine dp rfl (pop_not rfl) ?_
   refine dn ?_
   refine hw_cond rfl (fun h3 => ?_) (fun h4 => ?_)
   ·try simp at h3
    refine hw_exit ?_
    refine seqQ_x ?_
    refine blockQ_ne rfl ?_
    refine loopQ_x ?_
    refine blockQ_eq ?_
    refine seqQ_n ?_
    refine hw_reg ?_
    refine dp rfl (pop_move rfl) ?_
    refine dp rfl (pop_assign rfl) ?_
    refine dn ?_
    refine hw_ret ?_
    refine ret_p rfl ?_
    show HVal.str _ = _
    rw [hg]; first | rfl | (rw [rtrim_snoc, if_neg (by simp_all)])
   ·try simp at h4
    refine hw_skip ?_
    refine seqQ_n ?_
    refine hw_reg1 ?_
    refine dp rfl (pop_move rfl) ?_
    refine dp rfl (pop_move rfl) ?_
    refine dp rfl (pop_lens ty9 rfl) ?_
    refine dp rfl (pop_sub64 rfl rfl (by omega) (by omega)) ?_
    refine dp rfl (pop_slices (l := 0) (h := u.length) ty9 rfl rfl ⟨_, _, rfl, by omega⟩ (by omega) (by omega)) ?_
    refine dp rfl (pop_assign rfl) ?_
    refine dn ?_
    refine blockQ_n ?_
    refine ⟨_, ?_, ?_, ⟨rfl, trivial⟩, (by repeat (first | exact keeps_refl | refine keeps_upd rfl ?_ | refine keeps_loop rfl rfl ?_)), List.Perm.refl _⟩
    ·refine ⟨by simp at ht ⊢; omega, ?_⟩
     rw [hg, rtrim_snoc, if_pos (by simp_all)]; simp
    ·dsimp only; simp
  ·try simp at h2
   obtain rfl : t = [] := by simpa using h2
   refine hw_exit ?_
   refine seqQ_x ?_
   refine loopQ_x ?_
   refine blockQ_eq ?_
   refine seqQ_n ?_
   refine hw_reg ?_
   refine dp rfl (pop_move rfl) ?_
   refine dp rfl (pop_assign rfl) ?_
   refine dn ?_
   refine hw_ret ?_
   refine ret_p rfl ?_
   show HVal.str _ = _
   rw [hg]; first | rfl | (rw [rtrim_snoc, if_neg (by simp_all)])

/-- strings.Trim -/
theorem c_strings_Trim [Tracks] {s l : Str} (hs : s.length ≤ 1000000) (hl : l.length ≤ 1000000) (h2l : 2 ≤ l.length) (ha : ∀ c ∈ l, c.toNat < 128) : ConP Tryz.prog 68 [.str s, .str l] (.str ((rtrim (l.contains ·) s).dropWhile (l.contains ·))) := by
 refine Con.of_body Tryz.func68 rfl Tryz.ntmps68 rfl rfl ?_
 refine hw_reg ?_
 refine dp rfl (pop_assign rfl) ?_
 refine dn ?_
 refine hw_seq ?_
 refine hw_reg ?_
 refine dp rfl (pop_move rfl) ?_
 refine dp rfl (pop_eqls rfl rfl) ?_
 refine dp rfl (pop_move rfl) ?_
 refine dg rfl rfl (fun hc => ⟨_, OpenTo.refl _, pop_move rfl⟩) ?_
 refine dg rfl rfl (fun hc => ⟨_, OpenTo.upd (t := 10) rfl (hc) (OpenTo.refl _), pop_eqls rfl rfl⟩) ?_
 refine dp rfl (pop_picko rfl (.inl rfl) (.inr ⟨_, rfl, fun h => by simp_all⟩)) ?_
 refine dn ?_
 refine hw_cond rfl (fun h1 => ?_) (fun h2 => ?_)
 ·try simp at h1
  refine hw_reg ?_
  refine dp rfl (pop_move rfl) ?_
  refine dp rfl (pop_assign rfl) ?_
  refine dn ?_
  refine hw_ret ?_
  refine ret_p rfl ?_
  show HVal.str _ = _
  (rcases h1 with rfl | rfl <;> first | (simp at h2l; done) | (simp [rtrim]; done))
 ·try simp at h2
  refine hw_skip ?_
  refine seqQ_n ?_
  refine hw_seq ?_
  refine hw_reg ?_
  refine dp rfl (pop_move rfl) ?_
  refine dp rfl (pop_lens ty9 rfl) ?_
  refine dp rfl (pop_eql rfl rfl) ?_
  refine dp rfl (pop_move rfl) ?_
  refine dg rfl rfl (fun hc => ⟨_, OpenTo.refl _, pop_move rfl⟩) ?_
  refine dg rfl rfl (fun hc => ⟨_, OpenTo.upd (t := 18) rfl (hc) (OpenTo.refl _), pop_indexs (j := 0) (b := l.headD 0) ty9 rfl rfl rfl (hd0 (by intro h0; subst h0; simp at h2l))⟩) ?_
  refine dg rfl rfl (fun hc => ⟨_, OpenTo.upd (t := 19) rfl (hc) (OpenTo.refl _), pop_lss rfl rfl⟩) ?_
  refine dp rfl (pop_picko rfl (.inr ⟨_, rfl, fun h => by simp_all⟩) (.inl rfl)) ?_
  refine dn ?_
  refine hw_cond rfl (fun h3 => ?_) (fun h3 => ?_)
  ·exfalso
   try simp at h3
   omega
  ·try simp at h3
   refine hw_skip ?_
   refine seqQ_n ?_
   refine hw_seq ?_
   refine hw_reg ?_
   refine dp rfl (pop_move rfl) ?_
   refine dp rfl (pop_call ca96 rfl (WeakL.refl _) (c_strings_makeASCIISet (by assumption) (by assumption))) ?_
   refine dp rfl (pop_move rfl) ?_
   refine dp rfl (pop_extract rfl rfl) ?_
   refine dp rfl (pop_extract rfl rfl) ?_
   refine de rfl (eop_alloc ty145 rfl fun b5 => ?_)
   refine de0 (eop_storew ty145 rfl rfl rfl rfl rfl ?_)
   refine dp rfl (pop_assign rfl) ?_
   refine dn ?_
   refine hw_ghost (Ghost.fc0 5 rfl) ?_
   refine hw_reg ?_
   refine dp rfl (pop_move rfl) ?_
   refine dn ?_
   refine hw_cond_t rfl ?_
   refine hw_reg ?_
   refine dp rfl (pop_move rfl) ?_
   refine dp rfl (pop_call ca98 rfl (WeakL.refl _) (c_strings_trimRightASCII (by assumption))) ?_
   refine dp rfl (pop_call ca97 rfl (WeakL.refl _) (c_strings_trimLeftASCII (Nat.le_trans (rtrim_len _ _) hs))) ?_
   refine dp rfl (pop_assign rfl) ?_
   refine dn ?_
   refine hw_ret ?_
   refine ret_p rfl ?_
   show HVal.str _ = _
   rfl

/-- internal/stringslite.IndexByte -/
theorem c_internal_stringslite_IndexByte [Tracks] {s : Str} {c : Int}  : ConP Tryz.prog 101 [.str s, .int .u8 c] (.int .i64 (Lib.indexByte s c.toNat.toUInt8)) := by
 refine Con.of_body Tryz.func101 rfl Tryz.ntmps101 rfl rfl ?_
 refine hw_reg ?_
 refine dp rfl (pop_assign rfl) ?_
 refine dn ?_
 refine hw_reg ?_
 refine dp rfl (pop_move rfl) ?_
 refine dp rfl (pop_move rfl) ?_
 refine dp rfl (pop_indexByte Tryz.func140 (by kernel_rfl) (by kernel_rfl) (by kernel_rfl) (by kernel_rfl) rfl rfl rfl) ?_
 refine dp rfl (pop_assign rfl) ?_
 refine dn ?_
 refine hw_ret ?_
 refine ret_p rfl ?_
 rfl

/-- strings.IndexByte -/
theorem c_strings_IndexByte [Tracks] {s : Str} {c : Int}  : ConP Tryz.prog 69 [.str s, .int .u8 c] (.int .i64 (Lib.indexByte s c.toNat.toUInt8)) := by
 refine Con.of_body Tryz.func69 rfl Tryz.ntmps69 rfl rfl ?_
 refine hw_reg ?_
 refine dp rfl (pop_assign rfl) ?_
 refine dn ?_
 refine hw_reg ?_
 refine dp rfl (pop_move rfl) ?_
 refine dp rfl (pop_move rfl) ?_
 refine dp rfl (pop_call ca101 rfl (WeakL.refl _) c_internal_stringslite_IndexByte) ?_
 refine dp rfl (pop_assign rfl) ?_
 refine dn ?_
 refine hw_ret ?_
 refine ret_p rfl ?_
 rfl

/-- benchwarmer/benchref1.in -/
theorem c_benchref1_in [Tracks] {n lo hi : Int}  : ConP Tryz.prog 36 [.int .i64 n, .int .i64 lo, .int .i64 hi] (.bool (!(out n lo hi))) := by
 refine Con.of_body Tryz.func36 rfl Tryz.ntmps36 rfl rfl ?_
 refine hw_reg ?_
 refine dp rfl (pop_assign rfl) ?_
 refine dn ?_
 refine hw_reg ?_
 refine dp rfl (pop_move rfl) ?_
 refine dp rfl (pop_move rfl) ?_
 refine dp rfl (pop_leq rfl rfl) ?_
 refine dp rfl (pop_move rfl) ?_
 refine dg rfl rfl (fun hc => ⟨_, OpenTo.refl _, pop_move rfl⟩) ?_
 refine dg rfl rfl (fun hc => ⟨_, OpenTo.refl _, pop_move rfl⟩) ?_
 refine dg rfl rfl (fun hc => ⟨_, OpenTo.upd (t := 12) rfl (hc) (OpenTo.upd (t := 11) rfl (hc) (OpenTo.refl _)), pop_leq rfl rfl⟩) ?_
 refine dp rfl (pop_picko rfl (.inr ⟨_, rfl, fun h => by simp_all⟩) (.inl rfl)) ?_
 refine dp rfl (pop_assign rfl) ?_
 refine dn ?_
 refine hw_ret ?_
 refine ret_p rfl ?_
 show HVal.bool _ = _
 congr 1; simp [out]; rw [Bool.eq_iff_iff]; simp; try omega

/-- benchwarmer/benchref1.Key -/
theorem c_benchref1_Key [Tracks] {s : Str} (hs : s.length ≤ 1000000) : ConP Tryz.prog 35 [.str s] (.bool (key s)) := by
 refine Con.of_body Tryz.func35 rfl Tryz.ntmps35 rfl rfl ?_
 refine hw_reg ?_
 refine dp rfl (pop_assign rfl) ?_
 refine dn ?_
 refine hw_reg ?_
 refine dp rfl (pop_move rfl) ?_
 refine dp rfl (pop_lens ty9 rfl) ?_
 refine dp rfl (pop_call ca36 rfl (WeakL.refl _) c_benchref1_in) ?_
 refine dp rfl (pop_move rfl) ?_
 refine dg rfl rfl (fun hc => ⟨_, OpenTo.refl _, pop_move rfl⟩) ?_
 refine dg rfl rfl (fun hc => ⟨_, OpenTo.upd (t := 7) rfl (hc) (OpenTo.refl _), pop_call ca68 rfl (WeakL.refl _) (c_strings_Trim (l := cut38) hs (by decide) (by decide) (by decide))⟩) ?_
 refine dg rfl rfl (fun hc => ⟨_, OpenTo.upd (t := 8) rfl (hc) (OpenTo.refl _), pop_eqls rfl rfl⟩) ?_
 refine dp rfl (pop_picko rfl (.inr ⟨_, rfl, fun h => by simp_all⟩) (.inl rfl)) ?_
 refine dp rfl (pop_move rfl) ?_
 refine dg rfl rfl (fun hc => ⟨_, OpenTo.refl _, pop_move rfl⟩) ?_
 refine dg rfl rfl (fun hc => ⟨_, OpenTo.upd (t := 12) rfl (hc) (OpenTo.refl _), pop_indexs (j := 0) (b := s.headD 0) ty9 rfl rfl rfl (hd0 (by rintro rfl; simp [out] at hc))⟩) ?_
 refine dg rfl rfl (fun hc => ⟨_, OpenTo.upd (t := 13) rfl (hc) (OpenTo.refl _), pop_call ca69 rfl (WeakL.refl _) c_strings_IndexByte⟩) ?_
 refine dg rfl rfl (fun hc => ⟨_, OpenTo.upd (t := 14) rfl (hc) (OpenTo.refl _), pop_geq rfl rfl⟩) ?_
 refine dp rfl (pop_picko rfl (.inr ⟨_, rfl, fun h => by simp_all⟩) (.inl rfl)) ?_
 refine dp rfl (pop_assign rfl) ?_
 refine dn ?_
 refine hw_ret ?_
 refine ret_p rfl ?_
 show HVal.bool _ = _
 rw [key_ref]
 simp [cut38, small26]

end Go.Proofs.YtbihpphgoaflfaaGreatDoor
end
section
namespace Go.HL
variable {P : Program}
open Go.Sort Go.Proofs
theorem arr_some [Tracks] {I : Imm} {F : List MObj} {w : World} {b off n cap sz : Nat} {es : List HVal} (h : Sat P I (.arr (.slice (some ⟨b, off, none⟩) n cap) sz es :: F) w) :
 n = es.length ∧ ∃ rc el fr, w.heap[b]? = some (.cells rc el fr) ∧ Free fr rc.size ∧ (∀ e ∈ es, (hcells e).length = sz) ∧ (es.length ≤ cap ∧ cap ≤ 9223372036854775807) ∧ off + cap * sz ≤ rc.size ∧
  (∀ (i j : Nat) (e c : HVal) (v : Value), es[i]? = some e → (hcells e)[j]? = some c → rc[off + i * sz + j]? = some v → V I c v) := by
 rcases h.obj _ List.mem_cons_self with ⟨h0, _⟩ | ⟨b', off', cap', rc, el, fr, h1, h2, h3, h4, h5, h6, h7⟩
 ·cases h0
 ·cases h1
  exact ⟨rfl, rc, el, fr, h2, h3, h4, h5, h6, h7⟩
theorem holds_row [Tracks] {I : Imm} {F : List MObj} {w : World} {b off n cap : Nat} {l : List (List UInt8)} (h : Sat P I (.arr (.slice (some ⟨b, off, none⟩) n cap) 1 (l.map .str) :: F) w) :
 Holds encStr w b off l.toArray ∧ b < w.heap.size ∧ l.length ≤ cap ∧ n = l.length := by
 obtain ⟨h0, rc, el, fr, h2, h3, h4, h5, h6, h7⟩ := arr_some h
 simp only [List.length_map] at h0 h5
 refine ⟨fun j hj => ?_, ?_, h5.1, h0⟩
 ·have hj' : j < l.length := by simpa using hj
  have hlt : off + j < rc.size := by omega
  constructor
  ·rw [cell_of h2, Array.getElem?_eq_getElem hlt]
   have hv := h7 j 0 (.str l[j]) (.str l[j]) rc[off + j] (by simp [hj']) (by simp [hcells]) (by simp [Array.getElem?_eq_getElem hlt])
   rw [hv.str_inv]
   simp [hj', encStr]
  ·simp only [World.frozen?, h2]
   have := h3 (off + j) hlt
   simpa using this
 ·rcases Nat.lt_or_ge b w.heap.size with h' | h'
  ·exact h'
  ·simp [Array.getElem?_eq_none h'] at h2
theorem sat_row [Tracks] {I : Imm} {F : List MObj} {w : World} {b off n cap n' k : Nat} {os : Array Obj} {l zs : List (List UInt8)} (h : Sat P I (.arr (.slice (some ⟨b, off, none⟩) n cap) 1 (l.map .str) :: F) w) (hz : zs.length = l.length) (hn : n' ≤ l.length) :
 Sat P I (.arr (.slice (some ⟨b, off, none⟩) n' cap) 1 ((zs.take n').map .str) :: F) (grow (putRow encStr (Sort.ahead w k) b off zs.toArray) os) := by
 obtain ⟨h0, rc, el, fr, h2, h3, h4, h5, h6, h7⟩ := arr_some h
 simp only [List.length_map] at h0 h5
 have hlt : b < w.heap.size := by
  rcases Nat.lt_or_ge b w.heap.size with h' | h'
  ·exact h'
  ·simp [Array.getElem?_eq_none h'] at h2
 have hheap : ∀ c, c < w.heap.size → (grow (putRow encStr (Sort.ahead w k) b off zs.toArray) os).heap[c]? = (w.heap.modify b (onCells (putCells encStr off zs.toArray)))[c]? := fun c hc => by
  simp only [grow, putRow, mapBlock, Sort.ahead]
  rw [Array.getElem?_append_left (by simpa using hc)]
 refine h.change (m' := .arr (.slice (some ⟨b, off, none⟩) n' cap) 1 ((zs.take n').map .str)) (fun c hc hnc => ?_) (fun c hc => .inl hc) (by simp [MObj.blocks]) ?_ rfl rfl rfl
 ·rw [hheap c hc, Array.getElem?_modify]
  have : b ≠ c := fun hh => hnc (by subst hh; simp [MObj.blocks])
  rw [if_neg this]
 ·refine .inr ⟨b, off, cap, putCells encStr off zs.toArray rc, el, fr, ?_, ?_, ?_, ?_, ?_, ?_, ?_⟩
  ·simp [hz, Nat.min_eq_left hn]
  ·rw [hheap b hlt, Array.getElem?_modify, if_pos rfl, h2]; rfl
  ·simpa [putCells] using h3
  ·intro e he; obtain ⟨a, _, rfl⟩ := List.mem_map.1 he; simp [hcells]
  ·simp; omega
  ·simpa [putCells] using h6
  ·intro i j e c v a1 a2 a3
   have hi : i < n' := by
    have := lt_of_get a1; simp at this; omega
   rw [List.getElem?_map, List.getElem?_take_of_lt hi] at a1
   cases hq : zs[i]? with
   | none => rw [hq] at a1; simp at a1
   | some s =>
     rw [hq] at a1; simp at a1; subst a1
     have hj : j = 0 := by have := lt_of_get a2; simp [hcells] at this; omega
     subst hj
     simp [hcells] at a2; subst a2
     have hil : i < zs.length := lt_of_get hq
     have hr : off + i * 1 + 0 < rc.size := by omega
     rw [putCells, Array.getElem?_mapIdx, Array.getElem?_eq_getElem hr, Option.map_some, if_pos ⟨by omega, by simp; omega⟩] at a3
     have e1 : off + i * 1 + 0 - off = i := by omega
     rw [e1] at a3
     have e2 : zs.toArray[i]! = s := by
      rw [getElem!_pos zs.toArray i (by simpa using hil)]
      have := List.getElem?_eq_getElem hil
      rw [hq] at this; simpa using (Option.some.inj this).symm
     rw [e2] at a3
     cases a3
     exact .str s

theorem VL.one {I : Imm} {h : HVal} {args : List Value} (hv : VL I [h] args) : ∃ v, args = [v] ∧ V I h v := by
 obtain ⟨h1, h2⟩ := hv
 match args, h1 with
 | [v], _ => exact ⟨v, rfl, h2 0 h v rfl rfl⟩

def sortS (l : List (List UInt8)) : List (List UInt8) := l.mergeSort fun x y => decide (x ≤ y)
theorem sortS_len (l : List (List UInt8)) : (sortS l).length = l.length := by simp [sortS]

/-- A function that works on a slice of strings in place and hands on nothing. -/
theorem con_row [Tracks] {P : Program} {f : FuncId} {l zs : List (List UInt8)} {v : Value} (hz : zs.length = l.length)
 (h1 : ∀ (b off cap : Nat) (w : World), Holds encStr w b off l.toArray → b < w.heap.size → l.length ≤ cap → Calls P f #[.slice (some ⟨b, off, none⟩) l.length cap] w fun e w' => e = .returned (.tuple #[]) ∧ ∃ n os, w' = grow (putRow encStr (Sort.ahead w n) b off zs.toArray) os)
 (h0 : l = [] → ConP P f [.slice 1 []] (.tup [])) : Con P f [.raw v] [.arr v 1 (l.map .str)] fun x M' => x = .tup [] ∧ M' = [.arr v 1 (zs.map .str)] := by
 intro I F w args ha hs
 obtain ⟨u, rfl, hu⟩ := ha.one
 obtain rfl : u = v := hu.raw_inv
 rcases hs.obj (.arr u 1 (l.map .str)) (by simp) with ⟨rfl, hn⟩ | ⟨b, off, cap, rc, el, fr, rfl, _⟩
 ·have hl : l = [] := by simpa using hn
  subst hl
  have hz0 : zs = [] := List.length_eq_zero_iff.1 hz
  subst hz0
  refine (h0 rfl I (.arr (.slice none 0 0) 1 [] :: F) w [.slice none 0 0] (VL.cons (.slice0 _ _ _) VL.nil) (by simpa using hs)).mono ?_
  rintro _ w' ⟨v, h, M', J, rfl, hle, ⟨rfl, rfl⟩, hv, hsat⟩
  exact ⟨v, _, [.arr (.slice none 0 0) 1 []], J, rfl, hle, ⟨rfl, rfl⟩, hv, by simpa using hsat⟩
 ·rw [List.length_map] at hs ⊢
  obtain ⟨g1, g2, g3, g4⟩ := holds_row hs
  refine (h1 b off cap w g1 g2 g3).mono ?_
  rintro _ w' ⟨rfl, n, os, rfl⟩
  refine ⟨_, .tup [], _, I, rfl, .refl I, ⟨rfl, rfl⟩, .tup (by simp) (fun j c v h _ => by simp at h), ?_⟩
  have := sat_row (n' := l.length) (k := n) (os := os) hs hz (Nat.le_refl _)
  rw [← hz, List.take_length, hz] at this
  exact this
end Go.HL
end
section
namespace Go.HL
end Go.HL
end
section
namespace Go.HL
open Op (bytesLess)
theorem cmpI_flip (a b : Int) : cmpI a b = -cmpI b a := by
 unfold cmpI; split <;> split <;> (try split) <;> omega
theorem cmpS_flip (a b : Str) : cmpS a b = -cmpS b a := by
 rw [cmpS_eq, cmpS_eq]
 rcases less_total a b with h | h | h
 ·have hne : a ≠ b := fun e => by subst e; rw [less_irrefl] at h; cases h
  simp [h, less_asymm h, hne.symm]
 ·subst h; simp [less_irrefl]
 ·have hne : a ≠ b := fun e => by subst e; rw [less_irrefl] at h; cases h
  simp [h, less_asymm h, hne]
end Go.HL
end
section
namespace Go.HL
section
variable {α : Type} (c : α → α → Int)
def insF (x : α) : List α → List α
 | [] => [x]
 | y :: t => if c x y < 0 then y :: insF x t else x :: y :: t
def insB (x : α) (S : List α) : List α := (insF c x S.reverse).reverse
def isort (l : List α) : List α := l.foldl (fun S x => insB c x S) []
theorem insB_nil (x : α) : insB c x [] = [x] := rfl
theorem insB_snoc (x y : α) (S : List α) : insB c x (S ++ [y]) = if c x y < 0 then insB c x S ++ [y] else S ++ [y, x] := by
 unfold insB
 rw [List.reverse_append]
 simp only [List.reverse_cons, List.reverse_nil, List.nil_append, List.singleton_append, insF]
 split <;> simp
theorem isort_snoc (l : List α) (x : α) : isort c (l ++ [x]) = insB c x (isort c l) := by simp [isort, List.foldl_append]
theorem insF_perm (x : α) : ∀ l, (insF c x l).Perm (x :: l)
 | [] => .refl _
 | y :: t => by
   simp only [insF]; split
   ·exact ((insF_perm x t).cons y).trans (.swap _ _ _)
   ·exact .refl _
theorem insB_perm (x : α) (S : List α) : (insB c x S).Perm (x :: S) := by
 unfold insB
 exact (List.reverse_perm _).trans ((insF_perm c x _).trans ((List.reverse_perm S).cons x))
theorem foldl_perm : ∀ (l S : List α), (l.foldl (fun S x => insB c x S) S).Perm (S ++ l)
 | [], S => by simp
 | x :: l, S => by
   simp only [List.foldl_cons]
   refine (foldl_perm l _).trans ?_
   refine ((insB_perm c x S).append_right l).trans ?_
   exact (List.perm_middle (a := x) (l₁ := S) (l₂ := l)).symm
theorem isort_perm (l : List α) : (isort c l).Perm l := by
 have := foldl_perm c l []
 simpa [isort] using this
theorem isort_len (l : List α) : (isort c l).length = l.length := (isort_perm c l).length_eq
theorem isort_mem {l : List α} {x : α} : x ∈ isort c l ↔ x ∈ l := (isort_perm c l).mem_iff
/-- A comparison by which things stand in one line, as far as they are in s. -/
structure Cmp (s : α → Prop) : Prop where
 flip : ∀ x y, s x → s y → (c x y < 0 ↔ 0 < c y x)
 trans : ∀ x y z, s x → s y → s z → c x y ≤ 0 → c y z ≤ 0 → c x z ≤ 0
variable {c}
theorem insF_sorted {s : α → Prop} (hc : Cmp c s) {x : α} (hx : s x) : ∀ {l : List α}, (∀ y ∈ l, s y) → l.Pairwise (fun a b => c b a ≤ 0) → (insF c x l).Pairwise (fun a b => c b a ≤ 0)
 | [], _, _ => by simp [insF]
 | y :: t, hs, hp => by
   have hy := hs y (by simp)
   have ht : ∀ z ∈ t, s z := fun z hz => hs z (List.mem_cons_of_mem _ hz)
   obtain ⟨h1, h2⟩ := List.pairwise_cons.1 hp
   simp only [insF]
   split
   ·rename_i hlt
    refine List.pairwise_cons.2 ⟨fun z hz => ?_, insF_sorted hc hx ht h2⟩
    rcases List.mem_cons.1 ((insF_perm c x t).mem_iff.1 hz) with rfl | hz
    ·omega
    ·exact h1 z hz
   ·rename_i hge
    have hyx : c y x ≤ 0 := by
     have := (hc.flip x y hx hy)
     omega
    refine List.pairwise_cons.2 ⟨fun z hz => ?_, hp⟩
    rcases List.mem_cons.1 hz with rfl | hz
    ·exact hyx
    ·exact hc.trans z y x (ht z hz) hy hx (h1 z hz) hyx
theorem insB_sorted {s : α → Prop} (hc : Cmp c s) {x : α} (hx : s x) {l : List α} (hs : ∀ y ∈ l, s y) (hp : l.Pairwise (fun a b => c a b ≤ 0)) : (insB c x l).Pairwise (fun a b => c a b ≤ 0) := by
 unfold insB
 rw [List.pairwise_reverse]
 exact insF_sorted hc hx (fun y hy => hs y (List.mem_reverse.1 hy)) (List.pairwise_reverse.2 hp)
theorem isort_sorted {s : α → Prop} (hc : Cmp c s) {l : List α} (hs : ∀ y ∈ l, s y) : (isort c l).Pairwise (fun a b => c a b ≤ 0) := by
 have key : ∀ (n : Nat), n ≤ l.length → (isort c (l.take n)).Pairwise (fun a b => c a b ≤ 0) := by
  intro n
  induction n with
  | zero => intro _; simp [isort]
  | succ n ih =>
    intro hn
    have hx := List.getElem?_eq_getElem (l := l) (i := n) (by omega)
    rw [take_snoc' hx, isort_snoc]
    exact insB_sorted hc (hs _ (List.mem_of_getElem? hx)) (fun y hy => hs y (List.mem_of_mem_take ((isort_perm c _).mem_iff.1 hy))) (ih (by omega))
 have := key l.length (Nat.le_refl _)
 rwa [List.take_length] at this
end
end Go.HL
end
section
namespace Go.HL
variable {P : Program}
section
variable {P : Program} {e : Env} {dst : Option Tmp} {ty : TypeId} {pos : String} {af : Array Edge} {g : Option (Nat × Bool)} {M : List MObj} {K : HVal → List MObj → Prop}
theorem perm_erase {α : Type} : ∀ {l : List α} {i : Nat} {x : α}, l[i]? = some x → l.Perm (x :: l.eraseIdx i)
 | [], i, x, h => by simp at h
 | y :: l, 0, x, h => by simp at h; subst h; exact .refl _
 | y :: l, i + 1, x, h => by
   have := perm_erase (l := l) (i := i) (x := x) (by simpa using h)
   exact (this.cons y).trans (.swap _ _ _)
/-- A call on one of the owned objects. -/
theorem eop_callx [Tracks] {f : FuncId} {args : Array Operand} {ats : Array TypeId} {hs hs' : List HVal} {i : Nat} {m : MObj} {Q : HVal → List MObj → Prop} (hc : Callable P f) (ha : evalL e args.toList = some hs) (hw : WeakL hs hs') (hm : M[i]? = some m)
 (hp : Con P f hs' [m] Q) (hk : ∀ h M', Q h M' → K h (M' ++ M.eraseIdx i)) : EOp P e M ⟨dst, .call ⟨.value (.func f), args, ats⟩, ty, pos, af, g⟩ K :=
 eop_callf (M1 := [m]) hc ha hw (perm_erase hm) hp hk
/-- The length of an owned slice. -/
theorem eop_lenm [Tracks] {α : Type} {f : α → HVal} {x : Operand} {t el : TypeId} {size bytes : Nat} {zero : Value} {i : Nat} {v : Value} {sz : Nat} {es : List α} (hf : Fits P t (.slice el) size bytes zero) (hx : evalO e x = some (.raw v))
 (hm : M[i]? = some (.arr v sz (es.map f))) (hk : K (.int .i64 es.length) M) : EOp P e M ⟨dst, .call ⟨.builtin .len, #[x], #[t]⟩, ty, pos, af, g⟩ K := by
 refine eop_len hf hx hm ?_
 rw [List.length_map]; exact hk
/-- An element of an owned slice is loaded, whole or in part, through its address. -/
theorem eop_load_el [Tracks] {α : Type} {f : α → HVal} {x : Operand} {t : TypeId} {d : TD} {size bytes : Nat} {zero : Value} {i b off cap n sz j o : Nat} {es : List α} {y : α} (k : Nat) {h : HVal} (hf : Fits P t d size bytes zero)
 (hx : evalO e x = some (.raw (.pointer (some ⟨b, o, none⟩)))) (ho' : o = off + j * sz + k) (hm : M[i]? = some (.arr (.slice (some ⟨b, off, none⟩) n cap) sz (es.map f))) (hj : es[j]? = some y)
 (hd : d.isAgg = false) (hh : (hcells (f y))[k]? = some h) (hk : K h M) : EOp P e M ⟨dst, .load t x, ty, pos, af, g⟩ K :=
 eop_load_arr (j := j) (f := k) (y := f y) hf hx ho' hm (by rw [List.getElem?_map, hj]; rfl) (.inl ⟨hd, hh⟩) hk
end
section
variable {P : Program} {ops : Array Oper} {n : Nat} {K : Env → List MObj → Prop} {rest : List Oper} {e : Env} {M : List MObj} {d : Nat} {op : Op} {ty : TypeId} {pos : String} {af : Array Edge}
/-- An operation with an effect under a guard: what it brings about holds where it is not carried out as well. -/
theorem dgx [Tracks] {j : Nat} {want c : Bool} (Q : HVal → List MObj → Prop) (hd : Nat.blt d n = true) (hg : guardC ops e j want = some c) (hn : c = false → ∃ x, Q x M)
 (hp : c = true → ∃ e2, OpenTo e e2 ∧ EOp P e2 M ⟨some d, op, ty, pos, af, some (j, want)⟩ Q)
 (k : ∀ x M', Q x M' → Der P ops n K rest (upd e d (.opt c x)) M') : Der P ops n K (⟨some d, op, ty, pos, af, some (j, want)⟩ :: rest) e M :=
 ⟨fun t ht => by simp at ht; subst ht; exact blt_lt hd, c, hg, fun hc => by
  obtain ⟨e2, h1, h2⟩ := hp hc
  intro I F a w ho hs
  exact Oper.wp_noQ (fun _ _ ⟨v, x, M', J, h3, h4, h5, h7, h8⟩ => ⟨v, .opt c x, M', J, h3, h4, k x M' h5, .opt (fun _ => h7) (fun hf => by rw [hc] at hf; cases hf), h8⟩) (h2 I F a w (ho.open h1) hs),
  fun hc => by
   obtain ⟨x, hx⟩ := hn hc
   subst hc
   exact ⟨x, k x M hx⟩⟩
end
section
variable {P : Program} {e : Env} {dst : Option Tmp} {ty : TypeId} {pos : String} {af : Array Edge} {g : Option (Nat × Bool)}
end
end Go.HL
end
section
namespace Go.HL
abbrev pAt (b : Nat) : HVal := .raw (.pointer (some ⟨b, 0, none⟩))
/-- A stream of numbers of which a have been drawn. -/
abbrev St (b : Nat) (l : List Int) (a : Nat) : MObj := .cells b [.slice 1 (l.map (.int .i64)), .int .i64 (a : Int)]
def below (x n : Int) : Int := if n < 1 then 0 else if x.tmod n < 0 then x.tmod n + n else x.tmod n
theorem below_nat (x n : Int) : ∃ y : Nat, below x n = (y : Int) ∧ (y : Int) < max n 1 := by
 have h : 0 ≤ below x n ∧ below x n < max n 1 := by
  unfold below
  split
  ·omega
  ·have h1 := Int.tmod_lt_of_pos x (show 0 < n by omega)
   have h2 : -n < x.tmod n := by
    have := Int.neg_lt_tmod_of_pos' x n (by omega)
    exact this
   split <;> omega
 exact ⟨(below x n).toNat, by omega, by omega⟩
where
 Int.neg_lt_tmod_of_pos' (x n : Int) (h : 0 < n) : -n < x.tmod n := by
  rcases Int.le_total 0 x with hx | hx
  ·have := Int.tmod_nonneg n hx; omega
  ·have e : x.tmod n = -((-x).tmod n) := by rw [Int.neg_tmod]; simp
   have := Int.tmod_lt_of_pos (-x) h
   omega
theorem getI {L : List Int} {y : Nat} (h : (y : Int) < max (L.length : Int) 1) (h0 : 0 < L.length) : ∃ z, L[y]? = some z ∧ z ∈ L :=
 ⟨L[y]'(by omega), List.getElem?_eq_getElem _, List.getElem_mem _⟩
theorem getS {L : List Str} {y : Nat} (h : (y : Int) < max (L.length : Int) 1) (h0 : 0 < L.length) : ∃ z, L[y]? = some z ∧ z ∈ L :=
 ⟨L[y]'(by omega), List.getElem?_eq_getElem _, List.getElem_mem _⟩
theorem tmod_nat (a b : Nat) : ((a : Int)).tmod (b : Int) = ((a % b : Nat) : Int) := by
 exact (Int.ofNat_tmod a b).symm
end Go.HL
end
section
namespace Go.HL
variable {P : Program}
open Go.Sort Go.Proofs
section
variable {P : Program} {n : Nat} {e : Env} {M : List MObj} {Q : Exit → Env → List MObj → Prop} {c c' : Code}
end
/-- Another view of the state within a region. -/
theorem dghost [Tracks] {P : Program} {ops : Array Oper} {n : Nat} {K : Env → List MObj → Prop} {rest : List Oper} {e : Env} {M M' : List MObj} (hm : M = M') (k : Der P ops n K rest e M') : Der P ops n K rest e M := hm ▸ k
/-- The header of an owned slice, with its capacity. -/
theorem hw_arrc [Tracks] {P : Program} {n : Nat} {e : Env} {M : List MObj} {c : Code} {Q : Exit → Env → List MObj → Prop} {i : Nat} {v : Value} {sz : Nat} {es : List HVal} (hm : M[i]? = some (.arr v sz es))
 (h0 : v = .slice none 0 0 → es = [] → HWp P n c e M Q) (h1 : ∀ b off cap, v = .slice (some ⟨b, off, none⟩) es.length cap → es.length ≤ cap → HWp P n c e M Q) : HWp P n c e M Q := fun I F a w a1 a2 a3 a4 => by
 rcases a4.obj _ (List.mem_append_left _ (List.mem_of_getElem? hm)) with ⟨g1, g2⟩ | ⟨b, off, cap, rc, el, fr, g1, _, _, _, g5, _⟩
 ·exact h0 g1 g2 I F a w a1 a2 a3 a4
 ·exact h1 b off cap g1 g5.1 I F a w a1 a2 a3 a4
theorem permTo [Tracks] {α : Type} {l r : List α} {x : α} (i : Nat) (h : l[i]? = some x) (hr : (l.eraseIdx i).Perm r) : l.Perm (x :: r) := (perm_erase h).trans (hr.cons x)
theorem permToE [Tracks] {α : Type} {l r : List α} {x y : α} (i : Nat) (h : l[i]? = some y) (hy : y = x) (hr : (l.eraseIdx i).Perm r) : l.Perm (x :: r) := hy ▸ permTo i h hr
theorem conp_of_calls [Tracks] {P : Program} {f : FuncId} {hargs : List HVal} {h : HVal} (hc : ∀ (I : Imm) (w : World) (args : List Value), VL I hargs args → ∃ v, V I h v ∧ Calls P f args.toArray w fun e w' => e = .returned v ∧ w' = w) : ConP P f hargs h := by
 intro I F w args ha hs
 obtain ⟨v, hv, hcalls⟩ := hc I w args ha
 refine hcalls.mono ?_
 rintro _ w' ⟨rfl, rfl⟩
 exact ⟨v, h, [], I, rfl, .refl I, ⟨rfl, rfl⟩, hv, hs⟩
end Go.HL
end
section
namespace Go.HL
theorem dec_len {i : Nat} (h : i < 100) : (Lib.decDigits i).length ≤ 10 := by
 have : (List.range 100).all (fun i => decide ((Lib.decDigits i).length ≤ 10)) = true := by kernel_rfl
 have := List.all_eq_true.1 this i (List.mem_range.2 h)
 simpa using this
end Go.HL
end
section
namespace Go.HL
open Op (bytesLess)
end Go.HL
end
section
namespace Go.HL
def Sh (s : Str) : Prop := s.length ≤ 1000000
/-- The state of KeepList's loops. -/
structure KLs where
 u : Value
 out : List Keep
 lv : Value
 left : List Str
 a : Nat
structure KLok (n a : Nat) (q : KLs) : Prop where
 out : q.out.length ≤ n
 left : q.left.length ≤ 20
 ls : ∀ s ∈ q.left, Sh s
 os : ∀ x ∈ q.out, Sh x.Team ∧ Sh x.Player
 a : q.a ≤ a + 2 * n
theorem KLok.add {n a : Nat} {u u' lv lv' : Value} {out : List Keep} {left : List Str} {a1 a2 k : Nat} {t p : Str} {rd : Int} (h : KLok n a ⟨u, out, lv, left, a1⟩) (h1 : a2 ≤ a1 + 2) (ht : Sh t) (hp : left[k]? = some p) :
 KLok (n + 1) a ⟨u', out ++ [⟨t, p, rd⟩], lv', left.eraseIdx k, a2⟩ :=
 ⟨by have := h.out; simp at *; omega, by have := h.left; have := List.length_eraseIdx_le left k; dsimp only at *; omega, fun s hs => h.ls s (List.mem_of_mem_eraseIdx hs), fun x hx => by
  rcases List.mem_append.1 hx with hx | hx
  ·exact h.os x hx
  ·simp at hx; subst hx; exact ⟨ht, h.ls p (List.mem_of_getElem? hp)⟩, by have := h.a; dsimp only at *; omega⟩
theorem set_self {α : Type} {l : List α} {j : Nat} {x y : α} (h : l[j]? = some y) : (l.set j x)[j]? = some x := by
 rw [List.getElem?_set_self (lt_of_get h)]
theorem map_get {α β : Type} {f : α → β} {l : List α} {j : Nat} {x : α} (h : l[j]? = some x) : (l.map f)[j]? = some (f x) := by
 rw [List.getElem?_map, h]; rfl
theorem mem_set_of {α : Type} {l : List α} {j : Nat} {x y : α} (h : x ∈ l.set j y) : x = y ∨ x ∈ l := by
 rcases List.mem_or_eq_of_mem_set h with h | h
 ·exact .inr h
 ·exact .inl h
/-- The state of SwapList's loops: what is out, the row of teams, the draws. -/
structure SLs where
 u : Value
 out : List Swap
 row : List Str
 a : Nat
structure SLok (n a : Nat) (q : SLs) : Prop where
 out : q.out.length ≤ n
 row : q.row.length ≤ 4
 rs : ∀ s ∈ q.row, Sh s
 os : ∀ x ∈ q.out, Sh x.Of ∧ Sh x.Team
 a : q.a ≤ a + 2 * n
theorem SLok.mono {n m a : Nat} {q : SLs} (h : SLok n a q) (hm : n ≤ m) : SLok m a q :=
 ⟨by have := h.out; omega, h.row, h.rs, h.os, by have := h.a; omega⟩
theorem KLok.mono {n m a : Nat} {q : KLs} (h : KLok n a q) (hm : n ≤ m) : KLok m a q :=
 ⟨by have := h.out; omega, h.left, h.ls, h.os, by have := h.a; omega⟩
theorem SLok.add {n a : Nat} {u u' : Value} {out : List Swap} {row : List Str} {a1 a2 : Nat} {t p : Str} {rd : Int} (h : SLok n a ⟨u, out, row, a1⟩) (h1 : a2 ≤ a1 + 2) (ht : Sh t) (hp : Sh p) :
 SLok (n + 1) a ⟨u', out ++ [⟨rd, t, p⟩], row, a2⟩ :=
 ⟨by have := h.out; simp at *; omega, h.row, h.rs, fun x hx => by
  rcases List.mem_append.1 hx with hx | hx
  ·exact h.os x hx
  ·simp at hx; subst hx; exact ⟨ht, hp⟩, by have := h.a; dsimp only at *; omega⟩
end Go.HL
end
section
namespace Go.HL
open Op (bytesLess)
structure Asset where
 Player : Str
 Position : Str
 Value : Int
structure Place where
 Position : Str
 Many : Int
abbrev eAsset (x : Asset) : HVal := .agg [.str x.Player, .str x.Position, .int .i64 x.Value]
abbrev ePlace (x : Place) : HVal := .agg [.str x.Position, .int .i64 x.Many]
abbrev eAssets (l : List Asset) : HVal := .slice 3 (l.map eAsset)
abbrev ePlaces (l : List Place) : HVal := .slice 2 (l.map ePlace)
def asset0 : Asset := ⟨[], [], 0⟩
def place0 : Place := ⟨[], 0⟩
def assetFault (x : Asset) : Int := if !(key x.Player) || !(key x.Position) then 5 else if out x.Value (-1000000) 1000000 then 1 else 0
def assetsGo (l : List Asset) : Nat → List Asset → Int
 | _, [] => 0
 | k, x :: t => if assetFault x != 0 then assetFault x else if decide (0 < k) && leS x.Player (l.getD (k - 1) asset0).Player then 7 else assetsGo l (k + 1) t
def checkAssets (l : List Asset) : Int := if 300 < l.length then 2 else assetsGo l 0 l
def placesGo (l : List Place) : Nat → List Place → Int
 | _, [] => 0
 | k, x :: t => if !(key x.Position) then 5 else if out x.Many 0 12 then 1 else if decide (0 < k) && leS x.Position (l.getD (k - 1) place0).Position then 7 else placesGo l (k + 1) t
def checkPlaces (l : List Place) : Int := if 10 < l.length then 2 else placesGo l 0 l
def byValue (a b : Asset) : Int := orI [cmpI b.Value a.Value, cmpS a.Player b.Player]
def atPos (l : List Asset) (pos : Str) : List Asset := l.filter (fun x => x.Position == pos)
def ofP (l : List Asset) (pos : Str) : List Asset := isort byValue (atPos l pos)
def chosen (o : List Asset) (many : Int) : List Asset := (o.take (min many o.length).toNat).filter (fun y => decide (0 < y.Value))
def fieldedL (of : Str → List Asset) (p : List Place) : List Asset := p.flatMap fun x => chosen (of x.Position) x.Many
def sumV (l : List Asset) : Int := (l.map (·.Value)).sum
def namesV (l : List Asset) : List Str := sortS (l.map (·.Player))
theorem atPos_snoc {l : List Asset} {k : Nat} {x : Asset} {pos : Str} (h : l[k]? = some x) : atPos (l.take (k + 1)) pos = atPos (l.take k) pos ++ if x.Position == pos then [x] else [] := by
 rw [take_snoc' h]; unfold atPos; rw [List.filter_append]
 by_cases hx : x.Position == pos <;> simp [hx]
theorem atPos_le (l : List Asset) (pos : Str) : (atPos l pos).length ≤ l.length := List.length_filter_le _ _
theorem ofP_len (l : List Asset) (pos : Str) : (ofP l pos).length ≤ l.length := by unfold ofP; rw [isort_len]; exact atPos_le l pos
end Go.HL
end
section
namespace Go.HL
open Op (bytesLess)
theorem map_getD {l : List Asset} {k : Nat} : (l.map (·.Player)).getD k [] = (l.getD k asset0).Player := by
 by_cases h : k < l.length
 ·simp [List.getD, List.getElem?_eq_getElem h]
 ·simp [List.getD, List.getElem?_eq_none (Nat.le_of_not_lt h), asset0]
theorem assetFault_ok {x : Asset} (h : assetFault x = 0) : key x.Player = true ∧ key x.Position = true ∧ -1000000 ≤ x.Value ∧ x.Value ≤ 1000000 := by
 unfold assetFault at h
 by_cases h1 : (!(key x.Player) || !(key x.Position)) = true
 ·rw [if_pos h1] at h; omega
 ·rw [if_neg h1] at h
  by_cases h2 : out x.Value (-1000000) 1000000 = true
  ·rw [if_pos h2] at h; omega
  ·have := out_f (by simpa using h2)
   simp at h1
   exact ⟨h1.1, h1.2, this.1, this.2⟩
theorem assetsGo_ok (l : List Asset) : ∀ (t : List Asset) (k : Nat), assetsGo l k t = 0 → risingGo (l.map (·.Player)) k (t.map (·.Player)) = 0 ∧ ∀ x ∈ t, assetFault x = 0
 | [], _, _ => ⟨rfl, fun x h => by cases h⟩
 | x :: t, k, h => by
   simp only [assetsGo] at h
   by_cases h1 : assetFault x = 0
   ·rw [if_neg (by simpa using h1)] at h
    by_cases h2 : (decide (0 < k) && leS x.Player (l.getD (k - 1) asset0).Player) = true
    ·rw [if_pos h2] at h; omega
    ·rw [if_neg h2] at h
     obtain ⟨h3, h4⟩ := assetsGo_ok l t (k + 1) h
     refine ⟨?_, fun y hy => ?_⟩
     ·simp only [List.map_cons, risingGo, map_getD]
      rw [if_neg (by simp [(assetFault_ok h1).1]), if_neg h2]
      exact h3
     ·rcases List.mem_cons.1 hy with rfl | hy
      ·exact h1
      ·exact h4 y hy
   ·rw [if_pos (by simpa using h1)] at h; exact absurd h h1
theorem checkAssets_ok {l : List Asset} (h : checkAssets l = 0) : SortedS (l.map (·.Player)) ∧ ∀ x ∈ l, assetFault x = 0 := by
 unfold checkAssets at h
 split at h
 ·omega
 ·obtain ⟨h1, h2⟩ := assetsGo_ok l l 0 h
  exact ⟨rising1_sorted (by simpa [rising1] using h1), h2⟩
theorem placesGo_ok (l : List Place) : ∀ (t : List Place) (k : Nat), placesGo l k t = 0 → ∀ x ∈ t, 0 ≤ x.Many ∧ x.Many ≤ 12
 | [], _, _ => fun x h => by cases h
 | x :: t, k, h => by
   simp only [placesGo] at h
   by_cases h1 : (!(key x.Position)) = true
   ·rw [if_pos h1] at h; omega
   ·rw [if_neg h1] at h
    by_cases h2 : out x.Many 0 12 = true
    ·rw [if_pos h2] at h; omega
    ·rw [if_neg h2] at h
     by_cases h3 : (decide (0 < k) && leS x.Position (l.getD (k - 1) place0).Position) = true
     ·rw [if_pos h3] at h; omega
     ·rw [if_neg h3] at h
      intro y hy
      rcases List.mem_cons.1 hy with rfl | hy
      ·exact out_f (by simpa using h2)
      ·exact placesGo_ok l t (k + 1) h y hy
theorem checkPlaces_ok {l : List Place} (h : checkPlaces l = 0) : (∀ x ∈ l, 0 ≤ x.Many ∧ x.Many ≤ 12) ∧ l.length ≤ 10 := by
 unfold checkPlaces at h
 split at h
 ·omega
 ·exact ⟨placesGo_ok l l 0 h, by omega⟩
theorem cmpS_le {a b : Str} : cmpS a b ≤ 0 ↔ bytesLess b a = false := by
 rw [cmpS_eq]
 rcases less_total a b with h | h | h
 ·simp [h, less_asymm h]
 ·subst h; simp [less_irrefl]
 ·have hne : a ≠ b := fun e => by subst e; rw [less_irrefl] at h; cases h
  simp [h, less_asymm h, hne]
theorem cmpS_trans {a b c : Str} (h1 : cmpS a b ≤ 0) (h2 : cmpS b c ≤ 0) : cmpS a c ≤ 0 := by
 rw [cmpS_le] at *
 rcases less_total a b with h | h | h
 ·rcases less_total b c with h' | h' | h'
  ·exact less_asymm (less_trans h h')
  ·subst h'; exact less_asymm h
  ·rw [h'] at h2; cases h2
 ·subst h; exact h2
 ·rw [h] at h1; cases h1
theorem cmpI_le {a b : Int} : cmpI a b ≤ 0 ↔ a ≤ b := by unfold cmpI; split <;> (try split) <;> omega
theorem cmpI_zero {a b : Int} : cmpI a b = 0 ↔ a = b := by unfold cmpI; split <;> (try split) <;> omega
/-- Players that rise differ. -/
theorem sortedS_nodup {l : List Str} (h : SortedS l) : l.Nodup := h.imp fun hab e => by subst e; rw [less_irrefl] at hab; cases hab
end Go.HL
end
section
namespace Go.HL
variable {P : Program}
section
variable {P : Program} {e : Env} {dst : Option Tmp} {ty : TypeId} {pos : String} {af : Array Edge} {g : Option (Nat × Bool)} {M : List MObj} {K : HVal → List MObj → Prop}
/-- A whole element of an owned slice is loaded. -/
theorem eop_load_elw [Tracks] {α : Type} {f : α → HVal} {x : Operand} {t : TypeId} {d : TD} {size bytes : Nat} {zero : Value} {i b off cap n sz j o : Nat} {es : List α} {y : α} (hf : Fits P t d size bytes zero)
 (hx : evalO e x = some (.raw (.pointer (some ⟨b, o, none⟩)))) (ho' : o = off + j * sz) (hm : M[i]? = some (.arr (.slice (some ⟨b, off, none⟩) n cap) sz (es.map f))) (hj : es[j]? = some y)
 (hd : d.isAgg = true) (hs : size = (hcells (f y)).length) (hv : f y = .agg (hcells (f y))) (hk : K (f y) M) : EOp P e M ⟨dst, .load t x, ty, pos, af, g⟩ K :=
 eop_load_arr (j := j) (f := 0) (y := f y) hf hx (by omega) hm (by rw [List.getElem?_map, hj]; rfl) (.inr ⟨hd, by omega, by rw [List.drop_zero, hs, List.take_length]; exact hv⟩) hk
/-- A whole element of an owned slice is stored. -/
theorem eop_store_elw [Tracks] {α : Type} {f : α → HVal} {x z : Operand} {t : TypeId} {d : TD} {size bytes : Nat} {zero : Value} {i b off cap n sz j o : Nat} {es : List α} {y y' : α} (hf : Fits P t d size bytes zero)
 (hx : evalO e x = some (.raw (.pointer (some ⟨b, o, none⟩)))) (ho' : o = off + j * sz) (hz : evalO e z = some (f y')) (hm : M[i]? = some (.arr (.slice (some ⟨b, off, none⟩) n cap) sz (es.map f))) (hj : es[j]? = some y)
 (hok : okElem size (f y') = true) (hfl : flat (hcells (f y')) = true) (hle : (hcells (f y')).length = (hcells (f y)).length)
 (hk : K .junk (M.set i (.arr (.slice (some ⟨b, off, none⟩) n cap) sz ((es.set j y').map f)))) : EOp P e M ⟨dst, .store t x z, ty, pos, af, g⟩ K := by
 have h0 := (okElem_cells hok).1
 refine eop_store_arr (j := j) (f := 0) (y := f y) (y' := f y') hf hx (by omega) hz hm (by rw [List.getElem?_map, hj]; rfl) hok hfl (by omega) ?_ ?_
 ·rw [setL_all hle]
 ·rw [List.map_set] at hk; exact hk
end
theorem Sat.arr_take [Tracks] {I : Imm} {F : List MObj} {w : World} {b off n cap sz m : Nat} {es : List HVal} (hm : m ≤ es.length) (h : Sat P I (.arr (.slice (some ⟨b, off, none⟩) n cap) sz es :: F) w) :
 Sat P I (.arr (.slice (some ⟨b, off, none⟩) m cap) sz (es.take m) :: F) w := by
 obtain ⟨_, rc, el, fr, h2, h3, h4, h5, h6, h7⟩ := arr_some h
 refine h.change (m' := .arr (.slice (some ⟨b, off, none⟩) m cap) sz (es.take m)) (fun _ _ _ => rfl) (fun c hc => .inl hc) (by simp [MObj.blocks]) ?_ rfl rfl rfl
 have hl : (es.take m).length = m := by simp; omega
 refine .inr ⟨b, off, cap, rc, el, fr, by rw [hl], h2, h3, fun e he => h4 e (List.mem_of_mem_take he), by omega, h6, fun i j e c v a1 a2 a3 => ?_⟩
 have hi := lt_of_get a1
 rw [List.getElem?_take_of_lt (by omega)] at a1
 exact h7 i j e c v a1 a2 a3
theorem Ghost.take [Tracks] {e : Env} {M : List MObj} {b off n cap sz m : Nat} {es : List HVal} (hm : m ≤ es.length) : Ghost e (.arr (.slice (some ⟨b, off, none⟩) n cap) sz es :: M) e (.arr (.slice (some ⟨b, off, none⟩) m cap) sz (es.take m) :: M) :=
 fun _ I F tmps w h1 h2 => ⟨I, .refl I, h1, h2.arr_take hm⟩
def slOff (cap off sz lo : Nat) : Nat := if cap = lo then off else off + lo * sz
section
variable {P : Program} {e : Env} {dst : Option Tmp} {ty : TypeId} {pos : String} {af : Array Edge} {g : Option (Nat × Bool)} {M : List MObj} {K : HVal → List MObj → Prop}
/-- A slice whose header is known is cut. -/
theorem pop_slraw [Tracks] {x : Operand} {lo hi : Option Operand} {t el : TypeId} {size bytes sz b2 : Nat} {zero z2 : Value} {d : TD} {b off n cap l h : Nat}
 (hf : Fits P t (.slice el) size bytes zero) (hel : Fits P el d sz b2 z2) (hx : evalO e x = some (.raw (.slice (some ⟨b, off, none⟩) n cap))) (hlo : BoundIs e lo 0 l) (hhi : BoundIs e hi n h) (h1 : l ≤ h) (h2 : h ≤ n) (hc : n ≤ cap) :
 POp P e ⟨dst, .slice t x lo hi none, ty, pos, af, g⟩ (.raw (.slice (some ⟨b, slOff cap off sz l, none⟩) (h - l) (cap - l))) :=
 POp.of_val fun I a w ho => by
  have h3 := (ho.one (x := x) (by simp [Op.operands]) hx).raw_inv
  have hb : (Instr.sliceBounds true n cap (Option.map a.eval lo) (Option.map a.eval hi) none).run P w = .ok (l, h, cap) w :=
   run_bounds (P := P) (e := e) (lo := lo) (hi := hi) (l := l) (h := h) (len := n) (cap := cap) ho (by intro y hy; simp [Op.operands, hy]) (by intro y hy; simp [Op.operands, hy]) hlo hhi h1 h2 hc true w
  refine ⟨_, ?_, .raw _ rfl⟩
  simp [execOp, Instr.sliceAt, run_underlying hf.slice, h3, Instr.slice, hb, hel.run_sizeOf, slOff]
  try (split <;> simp_all [addr_add])
  try omega
/-- Cells of an owned slice behind the first m' elements are cleared: what stays are these. -/
theorem eop_clear_at [Tracks] {x : Operand} {t el : TypeId} {size bytes sz b2 : Nat} {zero z2 : Value} {d : TD} {i b off n cap m q o c2 : Nat} {es : List HVal} (m' : Nat)
 (hf : Fits P t (.slice el) size bytes zero) (hel : Fits P el d sz b2 z2) (hz : z2.cells.size = sz) (hz1 : z2.cells.toList.all Value.oneCell' = true)
 (hx : evalO e x = some (.raw (.slice (some ⟨b, o, none⟩) q c2))) (ho' : q = 0 ∨ o = off + m * sz) (hm : M[i]? = some (.arr (.slice (some ⟨b, off, none⟩) n cap) sz es)) (hmq : m + q ≤ cap) (hmm : m' ≤ m) (hme : m' ≤ es.length)
 (hk : K .junk (M.set i (.arr (.slice (some ⟨b, off, none⟩) m' cap) sz (es.take m')))) : EOp P e M ⟨dst, .call ⟨.builtin .clear, #[x], #[t]⟩, ty, pos, af, g⟩ K :=
 EOp.of_run fun I F a w ho hs => by
  have h1 := (ho.one (x := x) (by simp [Op.operands, Call.operands]) hx).raw_inv
  have hp := hs.pull hm
  obtain ⟨_, rc, el', fr, h2, h3, h4, h5, h6, h7⟩ := arr_some hp
  have hrun : (execOp a.eval ⟨dst, .call ⟨.builtin .clear, #[x], #[t]⟩, ty, pos, af, g⟩).run P w = ((Builtin.clear_ #[t] ty #[a.eval x]).run P w).andThen fun v w => .ok (.value v) w := by
   simp [execOp, resolve, invoke, builtin]
  rcases Nat.eq_zero_or_pos q with h0 | h0
  ·refine ⟨.tuple #[], .junk, _, w, I, ?_, .refl I, hk, .junk _, ?_⟩
   ·rw [hrun, h1, h0]
    simp [Builtin.clear_, run_underlying hf.slice]
   ·exact Sat.unpull hm (hp.arr_take hme)
  ·have hso : o = off + m * sz := by rcases ho' with h | h; omega; exact h
   have hmul : (m + q) * sz ≤ cap * sz := Nat.mul_le_mul_right _ hmq
   rw [Nat.add_mul] at hmul
   have hlen : (Builtin.zeroCells z2.cells q).toList.length = q * sz := by rw [Array.length_toList, zeroCells_size, hz]
   have hone : ∀ v ∈ (Builtin.zeroCells z2.cells q).toList, v.oneCell' = true := fun v hv => by
    simp only [Builtin.zeroCells, Array.toList_map, List.mem_map] at hv
    obtain ⟨r, hr, rfl⟩ := hv
    have hq' : r < q * z2.cells.size := by simpa using hr
    have hpos : 0 < z2.cells.size := by
     rcases Nat.eq_zero_or_pos z2.cells.size with h | h
     ·rw [h] at hq'; simp at hq'
     ·exact h
    have hlt : r % z2.cells.size < z2.cells.size := Nat.mod_lt _ hpos
    rw [getElem!_pos z2.cells _ hlt]
    exact List.all_eq_true.1 hz1 _ (by simp)
   obtain ⟨w', rc', g1, g2, g3, g4, g5, g6, g7, g8, g9⟩ := run_storeCells (P := P) b el' fr (off + m * sz) (Builtin.zeroCells z2.cells q).toList 0 w rc h2 h3 hone (by rw [hlen]; omega)
   refine ⟨.tuple #[], .junk, _, w', I, ?_, .refl I, hk, .junk _, ?_⟩
   ·rw [hrun, h1, hso]
    obtain ⟨r, rfl⟩ : ∃ r, q = r + 1 := ⟨q - 1, by omega⟩
    simp [Builtin.clear_, run_underlying hf.slice, hel.run_zero, g1]
   ·refine Sat.unpull hm (hp.change (m' := .arr (.slice (some ⟨b, off, none⟩) m' cap) sz (es.take m')) (fun k hk hnk => g5 k (by simpa [MObj.blocks] using hnk)) (fun k hk => .inl hk) (by simp [MObj.blocks]) ?_ g7 g8 g9.1 (fun _ => Nat.le_of_eq g9.2.symm))
    have hl : (es.take m').length = m' := by simp; omega
    refine .inr ⟨b, off, cap, rc', el', fr, by rw [hl], g2, by rw [g3]; exact h3, fun e he => h4 e (List.mem_of_mem_take he), by omega, by rw [g3]; exact h6, fun p q' y c v a1 a2 a3 => ?_⟩
    have hi := lt_of_get a1
    rw [List.getElem?_take_of_lt (by omega)] at a1
    have hq := lt_of_get a2
    rw [h4 y (List.mem_of_getElem? a1)] at hq
    have hpm : (p + 1) * sz ≤ m * sz := Nat.mul_le_mul_right _ (by omega)
    rw [Nat.add_mul] at hpm
    rw [g4, if_neg (by omega)] at a3
    exact h7 p q' y c v a1 a2 a3
theorem run_boundsc [Tracks] {I : Imm} {a : Act} {o : Oper} (ho : Opds I e a o) {lo hi : Option Operand} (hlo : ∀ x, lo = some x → x ∈ o.op.operands) (hhi : ∀ x, hi = some x → x ∈ o.op.operands)
 {len cap l h : Nat} (h1 : BoundIs e lo 0 l) (h2 : BoundIs e hi len h) (h3 : l ≤ h) (h4 : h ≤ cap) (b : Bool) (w : World) :
 (Instr.sliceBounds b len cap (lo.map a.eval) (hi.map a.eval) none).run P w = .ok (l, h, cap) w := by
 unfold Instr.sliceBounds
 cases lo with
 | none =>
   simp only [BoundIs] at h1
   subst h1
   cases hi with
   | none => simp only [BoundIs] at h2; subst h2; simp
   | some y =>
     obtain ⟨k, i, h6, rfl⟩ := h2
     have h7 := (ho.one (hhi y rfl) h6).int_inv
     simp [h7, run_sliceBound h4]
 | some x =>
   obtain ⟨k', i', h8, rfl⟩ := h1
   have h9 := (ho.one (hlo x rfl) h8).int_inv
   cases hi with
   | none => simp only [BoundIs] at h2; subst h2; simp [h9, run_sliceBound h3]
   | some y =>
     obtain ⟨k, i, h6, rfl⟩ := h2
     have h7 := (ho.one (hhi y rfl) h6).int_inv
     simp [h7, h9, run_sliceBound h4, run_sliceBound h3]
/-- A slice whose header is known is cut, within its capacity. -/
theorem pop_slrawc [Tracks] {x : Operand} {lo hi : Option Operand} {t el : TypeId} {size bytes sz b2 : Nat} {zero z2 : Value} {d : TD} {b off n cap l h : Nat}
 (hf : Fits P t (.slice el) size bytes zero) (hel : Fits P el d sz b2 z2) (hx : evalO e x = some (.raw (.slice (some ⟨b, off, none⟩) n cap))) (hlo : BoundIs e lo 0 l) (hhi : BoundIs e hi n h) (h1 : l ≤ h) (h2 : h ≤ cap) :
 POp P e ⟨dst, .slice t x lo hi none, ty, pos, af, g⟩ (.raw (.slice (some ⟨b, slOff cap off sz l, none⟩) (h - l) (cap - l))) :=
 POp.of_val fun I a w ho => by
  have h3 := (ho.one (x := x) (by simp [Op.operands]) hx).raw_inv
  have hb : (Instr.sliceBounds true n cap (Option.map a.eval lo) (Option.map a.eval hi) none).run P w = .ok (l, h, cap) w :=
   run_boundsc (P := P) (e := e) (lo := lo) (hi := hi) (l := l) (h := h) (len := n) (cap := cap) ho (by intro y hy; simp [Op.operands, hy]) (by intro y hy; simp [Op.operands, hy]) hlo hhi h1 h2 true w
  refine ⟨_, ?_, .raw _ rfl⟩
  simp [execOp, Instr.sliceAt, run_underlying hf.slice, h3, Instr.slice, hb, hel.run_sizeOf, slOff]
  try (split <;> simp_all [addr_add])
  try omega
/-- s[:h] -/
theorem pop_slraw0 [Tracks] {x : Operand} {hi : Option Operand} {t el : TypeId} {size bytes sz b2 : Nat} {zero z2 : Value} {d : TD} {b off n cap h : Nat}
 (hf : Fits P t (.slice el) size bytes zero) (hel : Fits P el d sz b2 z2) (hx : evalO e x = some (.raw (.slice (some ⟨b, off, none⟩) n cap))) (hhi : BoundIs e hi n h) (h2 : h ≤ cap) :
 POp P e ⟨dst, .slice t x none hi none, ty, pos, af, g⟩ (.raw (.slice (some ⟨b, off, none⟩) h cap)) := by
 have := pop_slrawc (P := P) (dst := dst) (ty := ty) (pos := pos) (af := af) (g := g) (lo := none) (l := 0) hf hel hx rfl hhi (Nat.zero_le _) h2
 have e1 : slOff cap off sz 0 = off := by unfold slOff; split <;> omega
 rwa [e1, Nat.sub_zero, Nat.sub_zero] at this
end
end Go.HL
end
section
namespace Go.HL
variable {P : Program}
open Go.ChangeShapes Go.WideShapes Go.RowKit
theorem below_of_sat [Tracks] {W W' : World} {J : Imm} {M : List MObj} (hl : Le (allI W) J) (hs : Sat P J M W') : Below W.heap.size W W' := by
 have hb : ∀ k, k < W.heap.size → W'.heap[k]? = W.heap[k]? := fun k hk => by
  have h1 : W.heap[k]? = some W.heap[k] := by simp [hk]
  rw [h1]
  exact hs.imm _ _ (hl.heap _ _ h1)
 exact {
  os := hs.os.trans hl.os
  tape := hs.tape.trans hl.tape
  output := hs.output.trans hl.output
  size := by
   rcases Nat.eq_zero_or_pos W.heap.size with h | h
   ·omega
   ·have h1 := hb (W.heap.size - 1) (by omega)
    have h2 : W.heap[W.heap.size - 1]? = some (W.heap[W.heap.size - 1]'(by omega)) := by simp
    rw [h2] at h1
    rcases Nat.lt_or_ge (W.heap.size - 1) W'.heap.size with h3 | h3
    ·omega
    ·rw [Array.getElem?_eq_none h3] at h1; cases h1
  block := hb }
theorem sat_now [Tracks] {W : World} (ht : TabI P (allI W)) : Sat P (allI W) [] W := ⟨fun _ _ h => h, fun _ h => by simp at h, by simp [blocks], fun _ h => by simp [blocks] at h, rfl, rfl, rfl, ht, fun _ => Nat.le_refl _⟩
theorem conp_law [Tracks] {P : Program} {f : FuncId} {l : List Int} (hc : ConP P f [.slice 1 (l.map (.int .i64))] (.bool true)) {W : World} (ht : TabI P (allI W)) {v : Value} (hv : V (allI W) (.slice 1 (l.map (.int .i64))) v) :
 Calls P f #[v] W fun e W' => e = .returned (.bool true) ∧ Below W.heap.size W W' := by
 refine (hc (allI W) [] W [v] (VL.cons hv VL.nil) (sat_now ht)).mono ?_
 rintro e W' ⟨u, h, M', J, rfl, hle, ⟨rfl, rfl⟩, hV, hs⟩
 exact ⟨by rw [hV.bool_inv], below_of_sat hle hs⟩
theorem v_ints [Tracks] {W : World} {a : Addr} {len cap : Nat} {zs : List Int} (hcell : ∀ i, i < zs.length → W.cell? (a.add i) = some (.int .i64 (zs.getD i 0))) (hl : len ≤ zs.length) (hc : len ≤ cap) :
 V (allI W) (.slice 1 ((zs.take len).map (.int .i64))) (.slice (some a) len cap) := by
 rcases Nat.eq_zero_or_pos len with h0 | h0
 ·subst h0; exact .slice0 _ _ _
 ·obtain ⟨b, off, rfl, hj⟩ := ints_at hcell (by omega)
  have hc0 := hj 0 (by omega)
  unfold World.cell? at hc0
  cases hh : W.heap[b]? with
  | none => rw [hh] at hc0; simp at hc0
  | some o =>
    cases o with
    | cells rc el fr =>
      have hrc : ∀ j, j < zs.length → rc[off + j]? = some (.int .i64 (zs.getD j 0)) := fun j hj' => by
       have := hj j hj'
       unfold World.cell? at this
       simpa [hh] using this
      have hlen : ((zs.take len).map (HVal.int .i64)).length = len := by simp; omega
      have hsz : off + zs.length ≤ rc.size := by
       have := hrc (zs.length - 1) (by omega)
       rcases Nat.lt_or_ge (off + (zs.length - 1)) rc.size with h3 | h3
       ·omega
       ·rw [Array.getElem?_eq_none h3] at this; cases this
      have := V.slice (I := allI W) (sz := 1) (es := (zs.take len).map (.int .i64)) (b := b) (off := off) (cap := cap) (rc := rc) (el := el) (fr := fr) hh
       (fun e he => by obtain ⟨n, _, rfl⟩ := List.mem_map.1 he; rfl) (by omega) (by omega) (fun i j e c v h1 h2 h3 => by
         have hi := lt_of_get h1
         rw [hlen] at hi
         rw [List.getElem?_map, List.getElem?_take_of_lt hi] at h1
         have e1 : zs[i]? = some zs[i] := List.getElem?_eq_getElem (by omega)
         rw [e1] at h1
         simp only [Option.map_some, Option.some.injEq] at h1
         subst h1
         cases j with
         | succ j => simp [hcells] at h2
         | zero =>
           simp only [hcells, List.getElem?_cons_zero, Option.some.injEq] at h2
           subst h2
           have h4 := hrc i (by omega)
           rw [Nat.mul_one, Nat.add_zero, h4] at h3
           simp only [Option.some.injEq] at h3
           subst h3
           have : zs.getD i 0 = zs[i] := by simp [List.getD, e1]
           rw [this]
           exact .int _ _)
      rw [hlen] at this
      exact this
    | _ => rw [hh] at hc0; simp at hc0
end Go.HL
end
section
namespace Go.HL
open Go.Sort Go.Proofs Go.RowKit
variable {P : Program}
theorem laid_at {w : World} {name : String} {d : DataW Unit} : ∀ {laid : List (String × DataW Unit)} {ps : List MemPlace}, DataW.LaidVars P w laid ps → ∀ (i : Nat), laid[i]? = some (name, d) →
 ∃ g t cs fuel p, P.globalNamed name = some g ∧ (P.globals[g]?).map (·.type) = some t ∧ w.var? P name = some cs ∧ DataW.trod (fun _ => ()) P w 0 (fun _ => true) false fuel t cs.toList = some (d, p)
 | [], _, _, i, h => by simp at h
 | (n, x) :: r, ps, h, 0, hi => by
   simp at hi
   obtain ⟨rfl, rfl⟩ := hi
   obtain ⟨g, t, cs, fuel, p, q, h1, h2, h3, h4, _, _⟩ := h
   exact ⟨g, t, cs, fuel, p, h1, h2, h3, h4⟩
 | (n, x) :: r, ps, h, i + 1, hi => by
   obtain ⟨g, t, cs, fuel, p, q, _, _, _, _, h5, _⟩ := h
   exact laid_at h5 i (by simpa using hi)
theorem tabI_of_laid [Tracks] {W : World} {laid : List (String × DataW Unit)} {i g : Nat} {t e : TypeId} {n : Nat} (h : laidMet P laid W) (hi : laid[i]? = some ("internal/strconv.uint64pow10", Lib.tabData .u64 Lib.pow10Tab))
 (hg : P.globalNamed "internal/strconv.uint64pow10" = some g) (hty : (P.globals[g]?).map (·.type) = some t) (ht : P.underlying t = some (.array n e)) (he : P.underlying e = some (.int .u64)) (hce : P.cellsOf e = 1) (hct : P.cellsOf t = n) : TabI P (allI W) := by
 obtain ⟨ps, h1, _⟩ := h
 obtain ⟨g', t', cs, fuel, p, a1, a2, a3, a4⟩ := laid_at h1 i hi
 obtain rfl := Option.some.inj (hg.symm.trans a1)
 obtain rfl := Option.some.inj (hty.symm.trans a2)
 intro g' hg'
 obtain rfl := Option.some.inj (hg.symm.trans hg')
 have hc := Lib.cells_of_tab ht he hce hct a4
 have hv := a3
 unfold World.var? at hv
 rw [hg] at hv
 simp only [Option.bind_some] at hv
 cases hh : W.heap[g]? with
 | none => rw [hh] at hv; cases hv
 | some o =>
   cases o with
   | cells c ty fr =>
     rw [hh] at hv
     simp only [Option.some.injEq] at hv
     subst hv
     refine ⟨ty, fr, ?_⟩
     show W.heap[g]? = _
     rw [hh, ← hc]
   | _ => rw [hh] at hv; cases hv
end Go.HL
end
section
namespace Go.HL
section
variable {P : Program} {e : Env} {dst : Option Tmp} {ty : TypeId} {pos : String} {af : Array Edge} {g : Option (Nat × Bool)} {M : List MObj} {K : HVal → List MObj → Prop}
end
end Go.HL
end
section
namespace Go.HL
section
variable {P : Program} {e : Env} {dst : Option Tmp} {ty : TypeId} {pos : String} {af : Array Edge} {g : Option (Nat × Bool)} {M : List MObj} {K : HVal → List MObj → Prop}
theorem V.tup2 [Tracks] {I : Imm} {c d : HVal} {u v : Value} (h1 : V I c u) (h2 : V I d v) : V I (.tup [c, d]) (.tuple #[u, v]) :=
 .tup (by simp) (fun j c v h3 h4 => (VL.cons h1 (VL.cons h2 VL.nil)).2 j c v h3 (by simpa using h4))
end
section
variable {P : Program}
end
end Go.HL
end
section
namespace Go.HL
section
variable {κ : Type} [DecidableEq κ]
def kk (ek : κ → HVal) (l : List (κ × HVal)) : List (HVal × HVal) := l.map fun p => (ek p.1, p.2)
def kidx (x : κ) : List (κ × HVal) → Option Nat
 | [] => none
 | p :: r => if x = p.1 then some 0 else (kidx x r).map (· + 1)
def klk (x : κ) : List (κ × HVal) → Option HVal
 | [] => none
 | p :: r => if x = p.1 then some p.2 else klk x r
def kput (x : κ) (h : HVal) : List (κ × HVal) → List (κ × HVal)
 | [] => [(x, h)]
 | p :: r => if x = p.1 then (x, h) :: r else p :: kput x h r
theorem kidx_some {x : κ} : ∀ {l : List (κ × HVal)} {j : Nat}, kidx x l = some j → ∃ h, l[j]? = some (x, h) ∧ klk x l = some h ∧ ∀ h', kput x h' l = l.set j (x, h')
 | [], j, h => by simp [kidx] at h
 | p :: r, j, h => by
   simp only [kidx] at h
   by_cases e : x = p.1
   ·rw [if_pos e] at h
    simp at h; subst h
    exact ⟨p.2, by simp [e], by simp [klk, e], fun h' => by simp [kput, e]⟩
   ·rw [if_neg e] at h
    cases hr : kidx x r with
    | none => rw [hr] at h; simp at h
    | some j' =>
      rw [hr] at h; simp at h; subst h
      obtain ⟨y, h1, h2, h3⟩ := kidx_some hr
      exact ⟨y, by simpa using h1, by simp [klk, e, h2], fun h' => by simp [kput, e, h3]⟩
theorem kidx_none {x : κ} : ∀ {l : List (κ × HVal)}, kidx x l = none → klk x l = none ∧ ∀ h', kput x h' l = l ++ [(x, h')]
 | [], _ => ⟨rfl, fun _ => rfl⟩
 | p :: r, h => by
   simp only [kidx] at h
   by_cases e : x = p.1
   ·rw [if_pos e] at h; simp at h
   ·rw [if_neg e] at h
    have hr : kidx x r = none := by cases hq : kidx x r with | none => rfl | some j => rw [hq] at h; simp at h
    obtain ⟨h1, h2⟩ := kidx_none hr
    exact ⟨by simp [klk, e, h1], fun h' => by simp [kput, e, h2]⟩
def KNodup (l : List (κ × HVal)) : Prop := (l.map (·.1)).Nodup
theorem kput_keys {x y : κ} {h : HVal} : ∀ {l : List (κ × HVal)}, y ∈ (kput x h l).map (·.1) ↔ y = x ∨ y ∈ l.map (·.1)
 | [] => by simp [kput]
 | p :: r => by
   simp only [kput]
   split
   ·rename_i e; subst e; simp
   ·simp only [List.map_cons, List.mem_cons, kput_keys]
    constructor
    ·rintro (a | a | a)
     ·exact .inr (.inl a)
     ·exact .inl a
     ·exact .inr (.inr a)
    ·rintro (a | a | a)
     ·exact .inr (.inl a)
     ·exact .inl a
     ·exact .inr (.inr a)
theorem KNodup.put {x : κ} {h : HVal} : ∀ {l : List (κ × HVal)}, KNodup l → KNodup (kput x h l)
 | [], _ => by simp [KNodup, kput]
 | p :: r, hn => by
   unfold KNodup at *
   simp only [List.map_cons, List.nodup_cons] at hn
   simp only [kput]
   split
   ·rename_i e; subst e; simpa using hn
   ·rename_i e
    simp only [List.map_cons, List.nodup_cons]
    refine ⟨fun q => ?_, KNodup.put (l := r) hn.2⟩
    rcases kput_keys.1 q with q | q
    ·exact e q.symm
    ·exact hn.1 q
structure KeyOk (P : Program) (kt : TypeId) (ek : κ → HVal) : Prop where
 check : ∀ (I : Imm) (x : κ) (v : Value) (b : Bool) (w : World), V I (ek x) v → (Instr.checkKey b 10000 kt v).run P w = .ok () w
 eq : ∀ (I : Imm) (x y : κ) (u v : Value) (w : World), V I (ek x) u → V I (ek y) v → (Op.equal kt u v).run P w = .ok (decide (x = y)) w
 find : ∀ (I : Imm) (x : κ) (v : Value) (es : List MapEntry) (w : World), V I (ek x) v → (∀ m ∈ es, ∃ y, V I (ek y) m.key) → (Instr.findKey kt v es).run P w = (Instr.findAsking kt v es).run P w
 same : ∀ (I : Imm) (x : κ) (u v : Value), V I (ek x) u → V I (ek x) v → Instr.sameBits 10000 u v = true
variable {P : Program} {kt : TypeId} {ek : κ → HVal}
theorem KeyOk.run_key (ok : KeyOk P kt ek) {I : Imm} {x : κ} {v : Value} (hv : V I (ek x) v) (w : World) (es : List MapEntry) (ls : List (κ × HVal)) (hl : es.length = ls.length)
 (hV : ∀ (j : Nat) (p : κ × HVal) (m : MapEntry), ls[j]? = some p → es[j]? = some m → V I (ek p.1) m.key ∧ V I p.2 m.val) : (Instr.findKey kt v es).run P w = (Instr.findAsking kt v es).run P w :=
 ok.find I x v es w hv fun m hm => by
  obtain ⟨j, hj⟩ := List.getElem?_of_mem hm
  have h1 := lt_of_get hj
  exact ⟨_, (hV j _ m (List.getElem?_eq_getElem (by omega)) hj).1⟩
theorem run_find (ok : KeyOk P kt ek) {I : Imm} {x : κ} {v : Value} (hv : V I (ek x) v) (w : World) : ∀ (es : List MapEntry) (ls : List (κ × HVal)) (i : Nat), es.length = ls.length →
 (∀ (j : Nat) (p : κ × HVal) (m : MapEntry), ls[j]? = some p → es[j]? = some m → V I (ek p.1) m.key ∧ V I p.2 m.val) →
 (kidx x ls = none → (Instr.findAsking kt v es i).run P w = .ok none w) ∧ ∀ j, kidx x ls = some j → ∃ m h, es[j]? = some m ∧ ls[j]? = some (x, h) ∧ V I h m.val ∧ (Instr.findAsking kt v es i).run P w = .ok (some (i + j, m.val)) w
 | [], [], i, _, _ => ⟨fun _ => by simp [Instr.findAsking], fun j h => by simp [kidx] at h⟩
 | [], _ :: _, i, hl, _ => by simp at hl
 | _ :: _, [], i, hl, _ => by simp at hl
 | m :: es, p :: ls, i, hl, hV => by
   obtain ⟨h1, h2⟩ := hV 0 p m rfl rfl
   obtain ⟨ih1, ih2⟩ := run_find ok hv w es ls (i + 1) (by simpa using hl) fun j q n a b => hV (j + 1) q n (by simpa using a) (by simpa using b)
   simp only [Instr.findAsking, Sem.run_bind, ok.eq I x p.1 v m.key w hv h1, Result.andThen_ok, kidx]
   by_cases e : x = p.1
   ·rw [if_pos e]
    simp only [e, decide_true, if_true, Sem.run_pure]
    refine ⟨fun h => by simp at h, fun j h => ?_⟩
    simp at h; subst h
    exact ⟨m, p.2, rfl, by simp, h2, by simp⟩
   ·rw [if_neg e]
    simp only [e, decide_false, Bool.false_eq_true, if_false]
    refine ⟨fun h => ih1 (by cases hq : kidx x ls with | none => rfl | some j => rw [hq] at h; simp at h), fun j h => ?_⟩
    cases hq : kidx x ls with
    | none => rw [hq] at h; simp at h
    | some j' =>
      rw [hq] at h; simp at h; subst h
      obtain ⟨n, y, g1, g2, g3, g4⟩ := ih2 j' hq
      exact ⟨n, y, by simpa using g1, by simpa using g2, g3, by rw [g4]; congr 3; omega⟩
theorem kk_ent {A : Type} {eA : A → HVal} {I : Imm} {ls : List (A × HVal)} {es : Array MapEntry} (hl : es.size = (kk eA ls).length)
 (hv : ∀ (i : Nat) (p : HVal × HVal) (m : MapEntry), (kk eA ls)[i]? = some p → es[i]? = some m → V I p.1 m.key ∧ V I p.2 m.val) :
 es.toList.length = ls.length ∧ ∀ (j : Nat) (p : A × HVal) (m : MapEntry), ls[j]? = some p → es.toList[j]? = some m → V I (eA p.1) m.key ∧ V I p.2 m.val := by
 refine ⟨by simpa [kk] using hl, fun j p m a b => ?_⟩
 exact hv j (eA p.1, p.2) m (by simp [kk, a]) (by simpa using b)
variable [Tracks] {e : Env} {dst : Option Tmp} {ty : TypeId} {pos : String} {af : Array Edge} {g : Option (Nat × Bool)} {M : List MObj} {K : HVal → List MObj → Prop}
theorem eop_lookupk {x y : Operand} {t et : TypeId} {size bytes s3 b3 : Nat} {zero z3 : Value} {d : TD} {i b : Nat} {ls : List (κ × HVal)} {s : κ}
 (hf : Fits P t (.map kt et) size bytes zero) (ok : KeyOk P kt ek) (het : Fits P et d s3 b3 z3) (hx : evalO e x = some (.raw (.map (some b)))) (hy : evalO e y = some (ek s)) (hm : M[i]? = some (.map b (kk ek ls)))
 (hk : K ((klk s ls).getD (ofVal z3)) M) : EOp P e M ⟨dst, .lookup t x y false, ty, pos, af, g⟩ K :=
 EOp.of_run fun I F a w ho hs => by
  have h1 := (ho.one (x := x) (by simp [Op.operands]) hx).raw_inv
  have h2 := ho.one (x := y) (by simp [Op.operands]) hy
  obtain ⟨es, clk, h3, h4, h5⟩ := hs.obj _ (List.mem_append_left _ (List.mem_of_getElem? hm))
  obtain ⟨h6, h7⟩ := kk_ent h4.1 h5
  obtain ⟨n1, n2⟩ := run_find ok h2 w es.toList ls 0 h6 h7
  have hfk := ok.run_key h2 w es.toList ls h6 h7
  cases hq : kidx s ls with
  | none =>
    rw [(kidx_none hq).1] at hk
    refine ⟨z3, _, M, w, I, ?_, .refl I, hk, V_ofVal I z3, hs⟩
    simp only [execOp, h1, Instr.lookup, Sem.run_bind, run_underlying hf.mapD, Result.andThen_ok, run_getMap h3, Sem.run_pure, ok.check I s _ _ w h2, hfk, n1 hq, het.run_zero]
    simp
  | some j =>
    obtain ⟨m, h, g1, g2, g3, g4⟩ := n2 j hq
    obtain ⟨h', g5, g6, _⟩ := kidx_some hq
    rw [g5] at g2; cases g2
    rw [g6] at hk
    refine ⟨m.val, _, M, w, I, ?_, .refl I, hk, g3, hs⟩
    simp only [execOp, h1, Instr.lookup, Sem.run_bind, run_underlying hf.mapD, Result.andThen_ok, run_getMap h3, Sem.run_pure, ok.check I s _ _ w h2, hfk, g4]
    simp
theorem eop_updatek {x y z : Operand} {t et : TypeId} {size bytes : Nat} {zero : Value} {i b : Nat} {ls : List (κ × HVal)} {s : κ} {h : HVal}
 (hf : Fits P t (.map kt et) size bytes zero) (ok : KeyOk P kt ek) (hx : evalO e x = some (.raw (.map (some b)))) (hy : evalO e y = some (ek s)) (hz : evalO e z = some h) (hm : M[i]? = some (.map b (kk ek ls)))
 (hk : K .junk (M.set i (.map b (kk ek (kput s h ls))))) : EOp P e M ⟨dst, .mapUpdate t x y z, ty, pos, af, g⟩ K :=
 EOp.of_skip fun I F a w ho hs => by
  have h1 := (ho.one (x := x) (by simp [Op.operands]) hx).raw_inv
  have h2 := ho.one (x := y) (by simp [Op.operands]) hy
  have h0 := ho.one (x := z) (by simp [Op.operands]) hz
  have hp := hs.pull hm
  obtain ⟨es, clk, h3, h4, h5⟩ := hp.obj _ List.mem_cons_self
  obtain ⟨h6, h7⟩ := kk_ent h4.1 h5
  obtain ⟨n1, n2⟩ := run_find ok h2 w es.toList ls 0 h6 h7
  have hfk := ok.run_key h2 w es.toList ls h6 h7
  have hlt : b < w.heap.size := by
   rcases Nat.lt_or_ge b w.heap.size with h' | h'
   ·exact h'
   ·simp [Array.getElem?_eq_none h'] at h3
  have hsz : es.size = ls.length := by simpa using h6
  have fin : ∀ (es' : Array MapEntry) (clk' : Nat), es'.size = (kk ek (kput s h ls)).length ∧ BornOk es' clk' →
   (∀ (i : Nat) (p : HVal × HVal) (m : MapEntry), (kk ek (kput s h ls))[i]? = some p → es'[i]? = some m → V I p.1 m.key ∧ V I p.2 m.val) →
   Sat P I (M.set i (.map b (kk ek (kput s h ls))) ++ F) { w with heap := w.heap.setIfInBounds b (.map es' clk') } := fun es' clk' e1 e2 => by
   refine Sat.unpull hm (hp.change (m' := .map b (kk ek (kput s h ls))) (fun k hk hnk => ?_) (fun k hk => .inl hk) (by simp [MObj.blocks]) ⟨es', clk', by simp [hlt], e1, e2⟩ rfl rfl rfl)
   have : k ≠ b := by simpa [MObj.blocks] using hnk
   simp [Array.getElem?_setIfInBounds_ne (Ne.symm this)]
  cases hq : kidx s ls with
  | none =>
    have hput := (kidx_none hq).2 h
    refine ⟨_, _, I, ?_, .refl I, hk, fin (es.push ⟨a.eval y, a.eval z, clk⟩) (clk + 1) ⟨by rw [hput]; simp [kk, hsz], h4.2.push rfl⟩ fun j p m a1 a2 => ?_⟩
    ·simp only [execOp, h1, Instr.mapUpdate, Sem.run_bind, run_underlying hf.mapD, Result.andThen_ok, run_getMap h3, ok.check I s _ _ w h2, hfk, n1 hq, Sem.run_pure, run_setMap h3]
    ·rw [hput] at a1
     simp only [kk, List.map_append, List.map_cons, List.map_nil] at a1
     by_cases hj : j < ls.length
     ·rw [List.getElem?_append_left (by simpa using hj)] at a1
      rw [Array.getElem?_push, if_neg (by omega)] at a2
      exact h5 j p m (by simpa [kk] using a1) a2
     ·rw [List.getElem?_append_right (by simp; omega)] at a1
      rw [Array.getElem?_push] at a2
      by_cases hje : j = es.size
      ·rw [if_pos hje] at a2
       simp at a2
       subst a2
       have : j - (ls.map fun p => (ek p.1, p.2)).length = 0 := by simp; omega
       rw [this] at a1
       simp at a1
       subst a1
       exact ⟨h2, h0⟩
      ·rw [if_neg hje, Array.getElem?_eq_none (by omega)] at a2
       cases a2
  | some j0 =>
    obtain ⟨m0, h', g1, g2, g3, g4⟩ := n2 j0 hq
    obtain ⟨_, _, _, hput⟩ := kidx_some hq
    have hm0 : es[j0]? = some m0 := by simpa using g1
    have hjl := lt_of_get g2
    have hkey := (h7 j0 (s, h') m0 g2 g1).1
    refine ⟨_, _, I, ?_, .refl I, hk, fin (es.modify j0 fun e => { e with key := a.eval y, val := a.eval z }) clk ⟨by rw [hput]; simp [kk, hsz], h4.2.modify _ fun _ => rfl⟩ fun j p m a1 a2 => ?_⟩
    ·have hstay : (Instr.keyThatStays (((es[j0]?).map (·.key)).getD (a.eval y)) (a.eval y)).run P w = .ok (a.eval y) w := by
      rw [hm0]
      simp only [Option.map_some, Option.getD_some, Instr.keyThatStays]
      rw [if_pos (ok.same I s _ _ hkey h2)]; rfl
     simp only [execOp, h1, Instr.mapUpdate, Sem.run_bind, run_underlying hf.mapD, Result.andThen_ok, run_getMap h3, ok.check I s _ _ w h2, hfk, g4, Sem.run_pure, Nat.zero_add, hstay, run_setMap h3]
    ·rw [hput] at a1
     simp only [kk] at a1
     rw [Array.getElem?_modify] at a2
     rw [List.getElem?_map, List.getElem?_set] at a1
     by_cases hj : j0 = j
     ·subst hj
      rw [if_pos rfl, hm0] at a2
      rw [if_pos rfl, if_pos hjl] at a1
      simp at a1 a2
      subst a1 a2
      exact ⟨h2, h0⟩
     ·rw [if_neg hj] at a1 a2
      exact h5 j p m (by simp only [kk, List.getElem?_map]; exact a1) a2
end
end Go.HL
end
section
namespace Go.HL
section
variable {P : Program}
theorem run_check_scalar {t : TypeId} {d : TD} {s by' : Nat} {z : Value} (hf : Fits P t d s by' z) {a : HVal} (hk : sameKind d a a = true) {I : Imm} {u : Value} (hu : V I a u) (em : Bool) (n : Nat) (w : World) : (Instr.checkKey em (n + 1) t u).run P w = .ok () w := by
 haveI : Tracks := ⟨true⟩
 cases d <;> cases a <;> first | (simp [sameKind] at hk; done) | skip
 ·rw [hu.bool_inv]; simp [Instr.checkKey, run_underlying hf.boolD]
 ·rw [hu.int_inv]; simp [Instr.checkKey, run_underlying hf.intD]
 ·rw [hu.str_inv]; simp [Instr.checkKey, run_underlying hf.strD]
end
/-! ranges -/
theorem nd_sub {α : Type} [DecidableEq α] : ∀ {l m : List α}, l.Nodup → (∀ x ∈ l, x ∈ m) → l.length ≤ m.length
 | [], _, _, _ => Nat.zero_le _
 | a :: l, m, h, hs => by
   have ha := hs a List.mem_cons_self
   obtain ⟨h1, h2⟩ := List.nodup_cons.1 h
   have h3 := nd_sub (m := m.erase a) h2 fun x hx => (List.mem_erase_of_ne (fun e : x = a => h1 (by rw [← e]; exact hx))).2 (hs x (List.mem_cons_of_mem _ hx))
   rw [List.length_erase_of_mem ha] at h3
   have := List.length_pos_of_mem ha
   simp; omega
section
variable {P : Program} {e : Env} {dst : Option Tmp} {ty : TypeId} {pos : String} {af : Array Edge} {g : Option (Nat × Bool)} {M : List MObj} {K : HVal → List MObj → Prop}
theorem eop_range [Tracks] {x : Operand} {t kt et : TypeId} {size bytes : Nat} {zero : Value} {i b : Nat} {l : List (HVal × HVal)} (hf : Fits P t (.map kt et) size bytes zero) (hx : evalO e x = some (.raw (.map (some b)))) (hm : M[i]? = some (.map b l))
 (hk : ∀ r, K (.raw (.pointer (some ⟨r, 0, none⟩))) (M.set i (.iter r b l []))) : EOp P e M ⟨dst, .range t x, ty, pos, af, g⟩ K :=
 EOp.of_run fun I F a w ho hs => by
  have h1 := (ho.one (x := x) (by simp [Op.operands]) hx).raw_inv
  have hp := hs.pull hm
  obtain ⟨es, clk, h3, h4, h5⟩ := hp.obj _ List.mem_cons_self
  have hlt : b < w.heap.size := by
   rcases Nat.lt_or_ge b w.heap.size with h' | h'
   ·exact h'
   ·simp [Array.getElem?_eq_none h'] at h3
  refine ⟨.pointer (some ⟨w.heap.size, 0, none⟩), _, _, push w (.mapIter (some b) clk #[] clk), I, ?_, .refl I, hk w.heap.size, .raw _ rfl, ?_⟩
  ·simp only [execOp, h1, Instr.range, Sem.run_bind, run_underlying hf.mapD, Result.andThen_ok, run_getMap h3, Sem.run_pure, run_newObj]
  ·refine Sat.unpull hm (hp.change (m' := .iter w.heap.size b l []) (fun k hk hnk => ?_) (fun k hk => ?_) ?_ ⟨es, clk, #[], ?_, ?_, h4, rfl, h5⟩ rfl rfl rfl)
   ·simp [push, Array.getElem?_push]; intro h; omega
   ·simp [MObj.blocks] at hk ⊢; omega
   ·simp [MObj.blocks]; omega
   ·simp only [push, Array.getElem?_push]; rw [if_neg (by omega)]; exact h3
   ·simp [push]
theorem eop_next [Tracks] {x : Operand} {i r b : Nat} {l : List (HVal × HVal)} {vis : List Nat} (hx : evalO e x = some (.raw (.pointer (some ⟨r, 0, none⟩)))) (hm : M[i]? = some (.iter r b l vis)) (hv : vis.Nodup) (hvl : ∀ j ∈ vis, j < l.length)
 (h0 : vis.length = l.length → K (.tup [.bool false]) M) (h1 : ∀ (j : Nat) (p : HVal × HVal), l[j]? = some p → j ∉ vis → K (.tup [.bool true, p.1, p.2]) (M.set i (.iter r b l (vis ++ [j])))) : EOp P e M ⟨dst, .next x false, ty, pos, af, g⟩ K :=
 EOp.of_run fun I F a w ho hs => by
  have h2 := (ho.one (x := x) (by simp [Op.operands]) hx).raw_inv
  have hp := hs.pull hm
  obtain ⟨es, clk, seen, a1, a2, a3, a4, a5⟩ := hp.obj _ List.mem_cons_self
  have hgr : ∀ w1 : World, w1.heap = w.heap → (getObj r).run P w1 = .ok (.mapIter (some b) clk seen clk) w1 := fun w1 hw => by simp [getObj, Sem.run, hw, a2]
  have hgb : ∀ w1 : World, w1.heap = w.heap → (getObj b).run P w1 = .ok (.map es clk) w1 := fun w1 hw => by simp [getObj, Sem.run, hw, a1]
  have hin : ∀ (j : Nat) (m : MapEntry), es[j]? = some m → (seen.contains m.born = true ↔ j ∈ vis) := fun j m hj => by
   have e1 : seen.contains m.born = seen.toList.contains m.born := by simp
   rw [e1, a4, List.contains_iff_mem, List.mem_map]
   constructor
   ·rintro ⟨q, hq, e⟩
    have hlt := hvl q hq
    have hq2 : es[q]? = some es[q] := Array.getElem?_eq_getElem (by omega)
    rw [hq2] at e
    simp at e
    have := a3.2.2 q j _ m hq2 hj e
    rw [← this]; exact hq
   ·intro hq
    exact ⟨j, hq, by rw [hj]; simp⟩
  have hbad : (!seen.isEmpty && !es.isEmpty && es.all (fun m => decide (m.born ≥ clk))) = false := by
   by_cases he : es.isEmpty = true
   ·simp [he]
   ·have hpos : 0 < es.size := by
     rcases Nat.eq_zero_or_pos es.size with h | h
     ·simp [Array.isEmpty, h] at he
     ·exact h
    have hb := a3.2.1 0 _ (Array.getElem?_eq_getElem hpos)
    have : es.all (fun m => decide (m.born ≥ clk)) = false := by
     rw [Bool.eq_false_iff]
     intro h
     have := Array.all_eq_true.1 h 0 hpos
     simp at this; omega
    rw [this]; simp
  have hold : (es.filter fun m => !seen.contains m.born).filter (fun m => decide (m.born < clk)) = es.filter fun m => !seen.contains m.born := by
   rw [Array.filter_eq_self]
   intro m hm'
   obtain ⟨j, hj⟩ := Array.getElem?_of_mem (Array.mem_filter.1 hm').1
   simpa using a3.2.1 j m hj
  have hnew : (es.filter fun m => !seen.contains m.born).filter (fun m => decide (m.born ≥ clk)) = #[] := by
   rw [Array.filter_eq_empty_iff]
   intro m hm'
   obtain ⟨j, hj⟩ := Array.getElem?_of_mem (Array.mem_filter.1 hm').1
   have := a3.2.1 j m hj
   simp; omega
  have hrun : (execOp a.eval ⟨dst, .next x false, ty, pos, af, g⟩).run P w = ((Instr.next (.pointer (some ⟨r, 0, none⟩)) false ty).run P w).andThen fun v w => .ok (.value v) w := by
   simp only [execOp, h2, Sem.run_bind]
   rfl
  generalize hL : (es.filter fun m => !seen.contains m.born) = left at hold hnew
  by_cases hemp : left.isEmpty = true
  ·have hfull : vis.length = l.length := by
    apply Nat.le_antisymm
    ·have := nd_sub (m := List.range l.length) hv fun j hj => List.mem_range.2 (hvl j hj)
     simpa using this
    ·have := nd_sub (l := List.range l.length) (m := vis) List.nodup_range fun j hj => by
      have hj' := List.mem_range.1 hj
      have hq : es[j]? = some es[j] := Array.getElem?_eq_getElem (by omega)
      rw [← hin j _ hq]
      cases hc : seen.contains es[j].born with
      | true => rfl
      | false =>
        have : es[j] ∈ left := by rw [← hL]; exact Array.mem_filter.2 ⟨Array.getElem_mem _, by rw [hc]; rfl⟩
        have he : left = #[] := Array.isEmpty_iff.1 hemp
        rw [he] at this; simp at this
     simpa using this
   refine ⟨.tuple #[.bool false], .tup [.bool false], M, w, I, ?_, .refl I, h0 hfull, .tup (by simp) (fun j c v h h' => ?_), hs⟩
   ·rw [hrun]
    have he : left = #[] := Array.isEmpty_iff.1 hemp
    simp only [Instr.next, Sem.run_bind, hgr w rfl, hgb w rfl, Result.andThen_ok, hbad, Bool.false_eq_true, if_false, Sem.run_pure, hL, hold, hnew, hemp, if_true, he]
    simp [Question.forced]
   ·match j, h, h' with
    | 0, h, h' => simp at h h'; subst h h'; exact .bool _
  ·have hemp' : left.isEmpty = false := by simpa using hemp
   have hpos : 0 < left.size := by
    rcases Nat.eq_zero_or_pos left.size with h | h
    ·exfalso; apply hemp; simp [Array.isEmpty, h]
    ·exact h
   obtain ⟨c, w1, c1, c2, c3⟩ : ∃ c w1, (choose (.mapNext left.size)).run P w = .ok c w1 ∧ c < left.size ∧ (w1 = w ∨ w1 = { w with drawn := w.drawn + 1 }) := by
    by_cases hf : (Question.mapNext left.size).forced = true
    ·exact ⟨0, w, by simp [hf], hpos, .inl rfl⟩
    ·refine ⟨_, { w with drawn := w.drawn + 1 }, by simp [hf]; rfl, ?_, .inr rfl⟩
     simp only [Question.cut]; exact Nat.mod_lt _ hpos
   have hw1 : w1.heap = w.heap := by rcases c3 with h | h <;> rw [h]
   have hmem : left[c] ∈ left := Array.getElem_mem _
   have hmf : left[c] ∈ es ∧ (!seen.contains left[c].born) = true := by
    have h9 : ∀ m, m ∈ left → m ∈ es ∧ (!seen.contains m.born) = true := fun m hm => by rw [← hL] at hm; exact Array.mem_filter.1 hm
    exact h9 _ hmem
   obtain ⟨j, hj⟩ := Array.getElem?_of_mem hmf.1
   have hnv : j ∉ vis := fun q => by
    have := (hin j _ hj).2 q
    rw [this] at hmf; simp at hmf
   have hjl : j < l.length := by
    have : j < es.size := by
     rcases Nat.lt_or_ge j es.size with h' | h'
     ·exact h'
     ·simp [Array.getElem?_eq_none h'] at hj
    omega
   have hlj := List.getElem?_eq_getElem hjl
   obtain ⟨k1, k2⟩ := a5 j _ _ hlj hj
   refine ⟨.tuple #[.bool true, left[c].key, left[c].val], .tup [.bool true, l[j].1, l[j].2], _, { w1 with heap := w1.heap.setIfInBounds r (.mapIter (some b) clk (seen.push left[c].born) clk) }, I, ?_, .refl I, h1 j _ hlj hnv, ?_, ?_⟩
   ·rw [hrun]
    have hcand : ((#[] : Array (Option MapEntry)) ++ (left ++ #[]).map some).size = left.size := by simp
    have hget : ((#[] : Array (Option MapEntry)) ++ (left ++ #[]).map some)[c]? = some (some left[c]) := by simp [c2]
    simp only [Instr.next, Sem.run_bind, hgr w rfl, hgb w rfl, Result.andThen_ok, hbad, Bool.false_eq_true, if_false, Sem.run_pure, hL, hold, hnew, hemp', hcand, c1, hget]
    simp [setObj, Sem.run, hw1, a2]
   ·refine .tup (by simp) (fun q c v h h' => ?_)
    match q, h, h' with
    | 0, h, h' => simp at h h'; subst h h'; exact .bool _
    | 1, h, h' => simp at h h'; subst h h'; exact k1
    | 2, h, h' => simp at h h'; subst h h'; exact k2
   ·have hrb : r ≠ b := by
     have := hp.nodup
     simp only [blocks, List.flatMap_cons, MObj.blocks] at this
     have := (List.nodup_append.1 this).1
     simp at this; exact this
    have hrl : r < w.heap.size := by
     rcases Nat.lt_or_ge r w.heap.size with h' | h'
     ·exact h'
     ·simp [Array.getElem?_eq_none h'] at a2
    refine Sat.unpull hm (hp.change (m' := .iter r b l (vis ++ [j])) (fun k hk hnk => ?_) (fun k hk => .inl hk) ?_ ⟨es, clk, seen.push left[c].born, ?_, ?_, a3, ?_, a5⟩ (by rcases c3 with h | h <;> rw [h]) (by rcases c3 with h | h <;> rw [h]) (by rcases c3 with h | h <;> rw [h]) (fun _ => by rcases c3 with h | h <;> rw [h]; (exact Nat.le_refl _); exact Nat.le_succ _))
    ·have : k ≠ r := fun q => hnk (by rw [q]; simp [MObj.blocks])
     simp only [hw1]; rw [Array.getElem?_setIfInBounds_ne (Ne.symm this)]
    ·simp [MObj.blocks, hrb]
    ·simp only [hw1]; rw [Array.getElem?_setIfInBounds_ne hrb]; exact a1
    ·simp [hw1, hrl]
    ·simp [a4, hj]
/-- After the last round the map is itself again. -/
theorem Ghost.iterOver [Tracks] {i r b : Nat} {l : List (HVal × HVal)} {vis : List Nat} (hm : M[i]? = some (.iter r b l vis)) : Ghost e M e (M.set i (.map b l)) := fun _ I F tmps w h1 hs => by
 have hp := hs.pull hm
 obtain ⟨es, clk, seen, a1, a2, a3, a4, a5⟩ := hp.obj _ List.mem_cons_self
 exact ⟨I, .refl I, h1, Sat.unpull hm (hp.change (m' := .map b l) (fun _ _ _ => rfl) (fun k hk => .inl (by simp [MObj.blocks] at hk ⊢; exact .inr hk)) (by simp [MObj.blocks]) ⟨es, clk, a1, a3, a5⟩ rfl rfl rfl)⟩
end
end Go.HL
end
section
namespace Go.HL
section
variable {P : Program} {e : Env} {dst : Option Tmp} {ty : TypeId} {pos : String} {af : Array Edge} {g : Option (Nat × Bool)} {M : List MObj} {K : HVal → List MObj → Prop}
theorem eop_entry [Tracks] {x : Operand} {i r b j : Nat} {l : List (HVal × HVal)} {vis : List Nat} {p : HVal × HVal} (hx : evalO e x = some (.raw (.pointer (some ⟨r, 0, none⟩)))) (hm : M[i]? = some (.iter r b l (vis ++ [j]))) (hp' : l[j]? = some p)
 (hk : K (.tup [p.1, p.2]) M) : EOp P e M ⟨dst, .entry x, ty, pos, af, g⟩ K :=
 EOp.of_run fun I F a w ho hs => by
  have h2 := (ho.one (x := x) (by simp [Op.operands]) hx).raw_inv
  have hp := hs.pull hm
  obtain ⟨es, clk, seen, a1, a2, a3, a4, a5⟩ := hp.obj _ List.mem_cons_self
  have hjl := lt_of_get hp'
  have hj : es[j]? = some es[j] := Array.getElem?_eq_getElem (by omega)
  obtain ⟨k1, k2⟩ := a5 j p _ hp' hj
  have hback : seen.back? = some es[j].born := by
   have : seen = (vis.map fun i => ((es[i]?).map (·.born)).getD 0).toArray.push es[j].born := by
    apply Array.ext'
    rw [a4]; simp [hj]
   rw [this]; simp
  have hfind : es.find? (fun m => m.born == es[j].born) = some es[j] := by
   cases hf : es.find? (fun m => m.born == es[j].born) with
   | none =>
     have := Array.find?_eq_none.1 hf es[j] (Array.getElem_mem _)
     simp at this
   | some m =>
     have h1 := Array.find?_some hf
     have h3 := Array.mem_of_find?_eq_some hf
     obtain ⟨q, hq⟩ := Array.getElem?_of_mem h3
     have := a3.2.2 q j m _ hq hj (by simpa using h1)
     subst this
     rw [hj] at hq; exact hq.symm
  refine ⟨.tuple #[es[j].key, es[j].val], .tup [p.1, p.2], M, w, I, ?_, .refl I, hk, V.tup2 k1 k2, hs⟩
  have hgr : (getObj r).run P w = .ok (.mapIter (some b) clk seen clk) w := by simp [getObj, Sem.run, a2]
  have hgb : (getObj b).run P w = .ok (.map es clk) w := by simp [getObj, Sem.run, a1]
  simp only [execOp, h2, Instr.entry, Sem.run_bind, hgr, Result.andThen_ok, hback, hgb, bne_self_eq_false, Bool.false_eq_true, if_false, hfind, Sem.run_pure]
end
section
variable {κ : Type} [DecidableEq κ]
variable {P : Program} {kt : TypeId} {ek : κ → HVal} {e : Env} {dst : Option Tmp} {ty : TypeId} {pos : String} {af : Array Edge} {g : Option (Nat × Bool)} {M : List MObj} {K : HVal → List MObj → Prop}
end
end Go.HL
end
section
namespace Go.HL
section
variable {κ : Type} [DecidableEq κ] {α : Type}
def alk (x : κ) : List (κ × α) → Option α
 | [] => none
 | p :: r => if x = p.1 then some p.2 else alk x r
def aput (x : κ) (v : α) : List (κ × α) → List (κ × α)
 | [] => [(x, v)]
 | p :: r => if x = p.1 then (x, v) :: r else p :: aput x v r
abbrev em (f : α → HVal) (L : List (κ × α)) : List (κ × HVal) := L.map fun p => (p.1, f p.2)
theorem klk_em (f : α → HVal) (x : κ) : ∀ L : List (κ × α), klk x (em f L) = (alk x L).map f
 | [] => rfl
 | p :: r => by
   have ih := klk_em f x r
   simp only [List.map_cons, klk, alk] at ih ⊢
   by_cases h : x = p.1
   ·rw [if_pos h, if_pos h]; rfl
   ·rw [if_neg h, if_neg h]; exact ih
theorem kput_em (f : α → HVal) (x : κ) (v : α) : ∀ L : List (κ × α), kput x (f v) (em f L) = em f (aput x v L)
 | [] => rfl
 | p :: r => by
   have ih := kput_em f x v r
   simp only [List.map_cons, kput, aput] at ih ⊢
   by_cases h : x = p.1
   ·rw [if_pos h, if_pos h]; rfl
   ·rw [if_neg h, if_neg h, ih]; rfl
theorem alk_put (x y : κ) (v : α) : ∀ (l : List (κ × α)), alk y (aput x v l) = if y = x then some v else alk y l
 | [] => by simp [aput, alk]
 | p :: r => by
   have ih := alk_put x y v r
   simp only [aput]
   by_cases h : x = p.1
   ·subst h
    rw [if_pos rfl]; simp only [alk]
    by_cases hy : y = p.1
    ·rw [if_pos hy, if_pos hy]
    ·rw [if_neg hy, if_neg hy, if_neg hy]
   ·rw [if_neg h]; simp only [alk]
    by_cases hy : y = p.1
    ·have : ¬ y = x := fun e => h (e ▸ hy)
     rw [if_pos hy, if_neg this, if_pos hy]
    ·rw [if_neg hy, ih, if_neg hy]
theorem alk_none {x : κ} : ∀ {l : List (κ × α)}, alk x l = none ↔ x ∉ l.map (·.1)
 | [] => by simp [alk]
 | p :: r => by
   have ih := alk_none (x := x) (l := r)
   simp only [alk, List.map_cons, List.mem_cons, not_or]
   by_cases h : x = p.1
   ·rw [if_pos h]; simp [h]
   ·rw [if_neg h, ih]; simp [h]
theorem aput_keys {x y : κ} {v : α} : ∀ {l : List (κ × α)}, y ∈ (aput x v l).map (·.1) ↔ y = x ∨ y ∈ l.map (·.1)
 | [] => by simp [aput]
 | p :: r => by
   have ih := aput_keys (x := x) (y := y) (v := v) (l := r)
   simp only [aput]
   by_cases h : x = p.1
   ·subst h; rw [if_pos rfl]; simp
   ·rw [if_neg h]; simp only [List.map_cons, List.mem_cons, ih]
    constructor
    ·rintro (h | h | h)
     ·exact .inr (.inl h)
     ·exact .inl h
     ·exact .inr (.inr h)
    ·rintro (h | h | h)
     ·exact .inr (.inl h)
     ·exact .inl h
     ·exact .inr (.inr h)
def ANodup (l : List (κ × α)) : Prop := (l.map (·.1)).Nodup
theorem ANodup.nil {A B : Type} : ANodup ([] : List (A × B)) := List.nodup_nil
theorem ANodup.put {x : κ} {v : α} : ∀ {l : List (κ × α)}, ANodup l → ANodup (aput x v l)
 | [], _ => by simp [ANodup, aput]
 | p :: r, hn => by
   have h1 := (List.nodup_cons.1 hn)
   by_cases h : x = p.1
   ·subst h
    have e : aput p.1 v (p :: r) = (p.1, v) :: r := by simp [aput]
    rw [e]; exact List.nodup_cons.2 h1
   ·have e : aput x v (p :: r) = p :: aput x v r := by simp [aput, h]
    rw [e]
    refine List.nodup_cons.2 ⟨fun hm => ?_, ANodup.put (l := r) h1.2⟩
    rcases aput_keys.1 hm with e | e
    ·exact h e.symm
    ·exact h1.1 e
theorem alk_mem {x : κ} {v : α} : ∀ {l : List (κ × α)}, ANodup l → ((x, v) ∈ l ↔ alk x l = some v)
 | [], _ => by simp [alk]
 | p :: r, hn => by
   have h1 := (List.nodup_cons.1 hn)
   have ih := alk_mem (x := x) (v := v) (l := r) h1.2
   simp only [List.mem_cons, alk]
   by_cases h : x = p.1
   ·subst h
    rw [if_pos rfl]
    constructor
    ·rintro (h | h)
     ·rw [← h]
     ·exact absurd (List.mem_map_of_mem (f := (·.1)) h) h1.1
    ·intro h; left; simp at h; rw [← h]
   ·rw [if_neg h, ← ih]
    constructor
    ·rintro (h' | h')
     ·exact absurd (by rw [← h']) h
     ·exact h'
    ·exact .inr
theorem alk_of_mem {x : κ} {v : α} : ∀ {l : List (κ × α)}, alk x l = some v → (x, v) ∈ l
 | [], h => by simp [alk] at h
 | p :: r, h => by
   simp only [alk] at h
   by_cases hx : x = p.1
   ·rw [if_pos hx] at h; cases h; rw [hx]; exact List.mem_cons_self
   ·rw [if_neg hx] at h; exact List.mem_cons_of_mem _ (alk_of_mem h)
theorem aput_len (x : κ) (v : α) : ∀ (l : List (κ × α)), (aput x v l).length = if (alk x l).isSome then l.length else l.length + 1
 | [] => by simp [aput, alk]
 | p :: r => by
   have ih := aput_len x v r
   by_cases h : x = p.1
   ·have e1 : aput x v (p :: r) = (x, v) :: r := by simp [aput, h]
    have e2 : alk x (p :: r) = some p.2 := by simp [alk, h]
    rw [e1, e2]; simp
   ·have e1 : aput x v (p :: r) = p :: aput x v r := by simp [aput, h]
    have e2 : alk x (p :: r) = alk x r := by simp [alk, h]
    rw [e1, e2, List.length_cons, ih]; split <;> simp
theorem aput_le (x : κ) (v : α) (l : List (κ × α)) : (aput x v l).length ≤ l.length + 1 := by rw [aput_len]; split <;> omega
theorem mem_aput {x : κ} {v : α} {p : κ × α} : ∀ {l : List (κ × α)}, p ∈ aput x v l → p = (x, v) ∨ p ∈ l
 | [], hp => by simp [aput] at hp; exact .inl hp
 | q :: r, hp => by
   simp only [aput] at hp
   by_cases h : x = q.1
   ·rw [if_pos h] at hp
    rcases List.mem_cons.1 hp with e | e
    ·exact .inl e
    ·exact .inr (List.mem_cons_of_mem _ e)
   ·rw [if_neg h] at hp
    rcases List.mem_cons.1 hp with e | e
    ·exact .inr (e ▸ List.mem_cons_self)
    ·rcases mem_aput e with e | e
     ·exact .inl e
     ·exact .inr (List.mem_cons_of_mem _ e)
end
section
variable {κ : Type} [DecidableEq κ] {α : Type}
variable {P : Program} {e : Env} {dst : Option Tmp} {ty : TypeId} {pos : String} {af : Array Edge} {g : Option (Nat × Bool)} {M : List MObj} {K : HVal → List MObj → Prop}
theorem getD_f {f : α → HVal} {o : Option α} {z0 : α} : f (o.getD z0) = (o.map f).getD (f z0) := by cases o <;> rfl
variable {kt : TypeId} {ek : κ → HVal}
theorem eop_lookupkA [Tracks] {x y : Operand} {t et : TypeId} {size bytes s3 b3 : Nat} {zero z3 : Value} {d : TD} {i b : Nat} {f : α → HVal} {L : List (κ × α)} {s : κ} {z0 : α}
 (hf : Fits P t (.map kt et) size bytes zero) (ok : KeyOk P kt ek) (het : Fits P et d s3 b3 z3) (hx : evalO e x = some (.raw (.map (some b)))) (hy : evalO e y = some (ek s)) (hm : M[i]? = some (.map b (kk ek (em f L)))) (hz : ofVal z3 = f z0)
 (hk : K (f ((alk s L).getD z0)) M) : EOp P e M ⟨dst, .lookup t x y false, ty, pos, af, g⟩ K := by
 refine eop_lookupk hf ok het hx hy hm ?_
 rw [getD_f (f := f), ← hz] at hk
 rw [klk_em]; exact hk
theorem eop_updatekA [Tracks] {x y z : Operand} {t et : TypeId} {size bytes : Nat} {zero : Value} {i b : Nat} {f : α → HVal} {L : List (κ × α)} {s : κ} {v : α}
 (hf : Fits P t (.map kt et) size bytes zero) (ok : KeyOk P kt ek) (hx : evalO e x = some (.raw (.map (some b)))) (hy : evalO e y = some (ek s)) (hz : evalO e z = some (f v)) (hm : M[i]? = some (.map b (kk ek (em f L))))
 (hk : K .junk (M.set i (.map b (kk ek (em f (aput s v L)))))) : EOp P e M ⟨dst, .mapUpdate t x y z, ty, pos, af, g⟩ K := by
 refine eop_updatek hf ok hx hy hz hm ?_
 rw [kput_em]; exact hk
/-- How many entries. -/
theorem eop_maplen [Tracks] {x : Operand} {t kt' et : TypeId} {size bytes : Nat} {zero : Value} {i b : Nat} {l : List (HVal × HVal)} (hf : Fits P t (.map kt' et) size bytes zero) (hx : evalO e x = some (.raw (.map (some b)))) (hm : M[i]? = some (.map b l))
 (hk : K (.int .i64 (l.length : Int)) M) : EOp P e M ⟨dst, .call ⟨.builtin .len, #[x], #[t]⟩, ty, pos, af, g⟩ K :=
 EOp.of_run fun I F a w ho hs => by
  have h1 := (ho.one (x := x) (by simp [Op.operands, Call.operands]) hx).raw_inv
  obtain ⟨es, clk, h3, h4, h5⟩ := hs.obj _ (List.mem_append_left _ (List.mem_of_getElem? hm))
  exact ⟨.int .i64 (es.size : Int), _, M, w, I, by rw [run_len (ats := #[])]; simp [h1, Builtin.len_, run_underlying hf.mapD, run_getMap h3, goInt], .refl I, hk, by rw [h4.1]; exact .int _ _, hs⟩
end
end Go.HL
end
section
namespace Go.HL
open Go.Sort Go.Proofs
structure Play where
 Source : Str
 No : Int
 At : Int
 Week : Int
 Match : Str
 Player : Str
 Stat : Str
 Count : Int
 Undo : Int
structure StatS where
 Name : Str
 Count : Int
abbrev Num := Str × Int
abbrev Of2 := Str × Str
def weekB (n : Int) : Bool := !(out n 1 60)
def playFault (p : Play) : Int :=
 if !(key p.Source) then 5 else if out p.No 1 3000 || !(moment p.At) || !(weekB p.Week) then 1
 else if !(key p.Match) || !(key p.Player) || !(key p.Stat) then 5
 else if out p.Count (-100000) 100000 || out p.Undo 0 (p.No - 1) then 1
 else if decide (0 < p.Undo) && decide (p.Count ≠ 0) then 3 else 0
theorem playFault_ok {p : Play} (h : playFault p = 0) : key p.Source = true ∧ (1 ≤ p.No ∧ p.No ≤ 3000) ∧ moment p.At = true ∧ weekB p.Week = true ∧ (key p.Match = true ∧ key p.Player = true ∧ key p.Stat = true) ∧ (-100000 ≤ p.Count ∧ p.Count ≤ 100000) ∧ (0 ≤ p.Undo ∧ p.Undo ≤ p.No - 1) := by
 unfold playFault at h
 split at h
 ·omega
 split at h
 ·omega
 split at h
 ·omega
 split at h
 ·omega
 rename_i h1 h2 h3 h4
 simp only [Bool.or_eq_true, Bool.not_eq_true', not_or, Bool.not_eq_false, Bool.not_eq_true] at h1 h2 h3 h4
 exact ⟨h1, out_f h2.1.1, h2.1.2, h2.2, ⟨h3.1.1, h3.1.2, h3.2⟩, out_f h4.1, out_f h4.2⟩
structure LnS where
 S : List Str
 c : List (Of2 × Int)
def lnPut (q : LnS) (p : Play) : LnS := ⟨sadd p.Player q.S, aput (p.Player, p.Stat) ((alk (p.Player, p.Stat) q.c).getD 0 + p.Count) q.c⟩
def rawStats (c : List (Of2 × Int)) (s : Str) : List StatS := (c.filter fun e => e.1.1 == s && e.2 != 0).map fun e => ⟨e.1.2, e.2⟩
theorem key_len {s : Str} (h : key s = true) : s.length ≤ 40 := by
 simp only [key, keyHd, Bool.and_eq_true, decide_eq_true_eq] at h; exact h.1.1.1.2
theorem isort_of_sorted {α : Type} {c : α → α → Int} (hc : Cmp c fun _ => True) {l l' : List α} (he : ∀ x y, x ∈ l → y ∈ l → c x y = 0 → x = y) (hp : l'.Perm l) (hw : l'.Pairwise fun a b => ¬ c b a < 0) : l' = isort c l := by
 have hs := isort_sorted hc (l := l) (fun _ _ => trivial)
 have hw' : l'.Pairwise fun a b => c a b ≤ 0 := hw.imp fun {a b} h => by
  have := hc.flip b a trivial trivial
  omega
 refine List.Perm.eq_of_pairwise (le := fun a b => c a b ≤ 0) (fun a b ha hb h1 h2 => ?_) hw' hs (hp.trans (isort_perm c l).symm)
 have f1 := hc.flip a b trivial trivial
 exact he a b (hp.mem_iff.1 ha) ((isort_perm c l).mem_iff.1 hb) (by omega)
theorem swo_cmp {α : Type} {c : α → α → Int} (hc : Cmp c fun _ => True) : SWO (ltOf c) := by
 have h : ∀ a b, ltOf c a b = decide (c a b < 0) := fun a b => rfl
 refine ⟨fun x => ?_, fun x y z h1 h2 => ?_, fun x y z h1 h2 => ?_⟩
 ·rw [h]; have := hc.flip x x trivial trivial; simp; omega
 ·rw [h] at *
  simp only [decide_eq_true_eq] at *
  have a1 := hc.trans x y z trivial trivial trivial (by omega) (by omega)
  rcases Int.lt_or_eq_of_le a1 with e | e
  ·exact e
  ·exfalso
   have f1 := hc.flip x z trivial trivial
   have a2 := hc.trans z x y trivial trivial trivial (by have := hc.flip z x trivial trivial; omega) (by omega)
   have f2 := hc.flip y z trivial trivial
   omega
 ·rw [h] at *
  simp only [decide_eq_false_iff_not] at *
  have f1 := hc.flip x y trivial trivial
  have f2 := hc.flip y z trivial trivial
  have f3 := hc.flip x z trivial trivial
  have g1 := hc.flip y x trivial trivial
  have g2 := hc.flip z y trivial trivial
  have g3 := hc.flip z x trivial trivial
  have := hc.trans z y x trivial trivial trivial (by omega) (by omega)
  omega
end Go.HL
end
section
namespace Go.HL
structure OutS where
 Points : Int
 Weight : Int
structure HopeS where
 Player : Str
 Outs : List OutS
abbrev eOut (x : OutS) : HVal := .agg [.int .i64 x.Points, .int .i64 x.Weight]
abbrev eOuts (l : List OutS) : HVal := .slice 2 (l.map eOut)
abbrev eHope (x : HopeS) : HVal := .agg [.str x.Player, eOuts x.Outs]
abbrev eHopes (l : List HopeS) : HVal := .slice 2 (l.map eHope)
def out0 : OutS := ⟨0, 0⟩
def hope0 : HopeS := ⟨[], []⟩
def outB (y : OutS) : Bool := out y.Points (-100000) 100000 || out y.Weight 1 1000
def outsGo (O : List OutS) : Nat → List OutS → Int
 | _, [] => 0
 | k, y :: r => if outB y then 1 else if 0 < k ∧ y.Points ≤ (O.getD (k - 1) out0).Points then 7 else outsGo O (k + 1) r
def hopeF (h : List HopeS) (k : Nat) (x : HopeS) : Int :=
 if !(key x.Player) then 5 else if 0 < k ∧ leS x.Player (h.getD (k - 1) hope0).Player = true then 7 else if x.Outs.length = 0 then 8 else if 8 < x.Outs.length then 2 else outsGo x.Outs 0 x.Outs
def hopesGo (h : List HopeS) : Nat → List HopeS → Int
 | _, [] => 0
 | k, x :: r => if hopeF h k x ≠ 0 then hopeF h k x else hopesGo h (k + 1) r
def hopesE (h : List HopeS) : Int := if 12 < h.length then 2 else hopesGo h 0 h
theorem outsGo_ok {O : List OutS} : ∀ (r : List OutS) (k : Nat), outsGo O k r = 0 → ∀ y ∈ r, (-100000 ≤ y.Points ∧ y.Points ≤ 100000) ∧ (1 ≤ y.Weight ∧ y.Weight ≤ 1000)
 | [], _, _, y, hy => by cases hy
 | x :: r, k, h, y, hy => by
   rw [outsGo] at h
   split at h
   ·omega
   ·rename_i h1
    split at h
    ·omega
    ·rcases List.mem_cons.1 hy with rfl | hy
     ·unfold outB at h1
      simp only [Bool.or_eq_true, not_or, Bool.not_eq_true] at h1
      exact ⟨out_f h1.1, out_f h1.2⟩
     ·exact outsGo_ok r (k + 1) h y hy
structure HopeOk (x : HopeS) : Prop where
 key : key x.Player = true
 pos : 1 ≤ x.Outs.length
 len : x.Outs.length ≤ 8
 bd : ∀ y ∈ x.Outs, (-100000 ≤ y.Points ∧ y.Points ≤ 100000) ∧ (1 ≤ y.Weight ∧ y.Weight ≤ 1000)
theorem hopeF_ok {h : List HopeS} {k : Nat} {x : HopeS} (e : hopeF h k x = 0) : HopeOk x := by
 unfold hopeF at e
 split at e
 ·omega
 split at e
 ·omega
 split at e
 ·omega
 split at e
 ·omega
 rename_i h1 _ h3 h4
 exact ⟨by simpa using h1, by omega, by omega, outsGo_ok _ _ e⟩
theorem hopesGo_ok {h : List HopeS} : ∀ (r : List HopeS) (k : Nat), hopesGo h k r = 0 → ∀ x ∈ r, HopeOk x
 | [], _, _, x, hx => by cases hx
 | y :: r, k, e, x, hx => by
   rw [hopesGo] at e
   split at e
   ·contradiction
   ·rename_i h1
    rcases List.mem_cons.1 hx with rfl | hx
    ·exact hopeF_ok (by simpa using h1)
    ·exact hopesGo_ok r (k + 1) e x hx
theorem hopes_ok {h : List HopeS} (e : hopesE h = 0) : h.length ≤ 12 ∧ ∀ x ∈ h, HopeOk x := by
 unfold hopesE at e
 split at e
 ·omega
 ·exact ⟨by omega, hopesGo_ok h 0 e⟩
/-! sums of weights -/
def sumW : List OutS → Int
 | [] => 0
 | y :: r => y.Weight + sumW r
theorem sumW_append : ∀ (a b : List OutS), sumW (a ++ b) = sumW a + sumW b
 | [], b => by simp [sumW]
 | x :: a, b => by have := sumW_append a b; simp only [List.cons_append, sumW]; omega
theorem sumW_bd : ∀ (l : List OutS), (∀ y ∈ l, 1 ≤ y.Weight ∧ y.Weight ≤ 1000) → (l.length : Int) ≤ sumW l ∧ sumW l ≤ 1000 * l.length
 | [], _ => by simp [sumW]
 | x :: l, h => by
   have ih := sumW_bd l fun y hy => h y (List.mem_cons_of_mem _ hy)
   have hx := h x List.mem_cons_self
   simp only [sumW, List.length_cons]; omega
theorem sumW_take {l : List OutS} (h : ∀ y ∈ l, 1 ≤ y.Weight ∧ y.Weight ≤ 1000) (k : Nat) : 0 ≤ sumW (l.take k) ∧ sumW (l.take k) ≤ sumW l := by
 have h1 := sumW_bd (l.take k) fun y hy => h y (List.mem_of_mem_take hy)
 have h2 := sumW_bd (l.drop k) fun y hy => h y (List.mem_of_mem_drop hy)
 have h3 := sumW_append (l.take k) (l.drop k)
 rw [List.take_append_drop] at h3
 omega
theorem HopeOk.sum {x : HopeS} (h : HopeOk x) : 1 ≤ sumW x.Outs ∧ sumW x.Outs ≤ 8000 := by
 have := sumW_bd x.Outs fun y hy => (h.bd y hy).2
 have := h.pos
 have := h.len
 omega
abbrev most : Int := 1000000000000
/-- The product as the program makes it: it stops where it is too great. -/
def prodP : List HopeS → Int → Int
 | [], n => n
 | x :: r, n => if most < n * sumW x.Outs then most + 1 else prodP r (n * sumW x.Outs)
/-- And as the references do. -/
def prodR : List HopeS → Int → Int
 | [], n => n
 | x :: r, n => prodR r (min (n * sumW x.Outs) (most + 1))
theorem prodR_full : ∀ (h : List HopeS), (∀ x ∈ h, HopeOk x) → prodR h (most + 1) = most + 1
 | [], _ => rfl
 | x :: r, h => by
   have hs := (h x List.mem_cons_self).sum
   have hm : (most + 1) * 1 ≤ (most + 1) * sumW x.Outs := Int.mul_le_mul_of_nonneg_left hs.1 (by decide)
   rw [prodR, Int.min_eq_right (by omega)]
   exact prodR_full r fun y hy => h y (List.mem_cons_of_mem _ hy)
theorem prod_eq : ∀ (h : List HopeS) (n : Int), (∀ x ∈ h, HopeOk x) → prodP h n = prodR h n
 | [], _, _ => rfl
 | x :: r, n, h => by
   rw [prodP, prodR]
   have hr := fun y hy => h y (List.mem_cons_of_mem x hy)
   by_cases c : most < n * sumW x.Outs
   ·rw [if_pos c, Int.min_eq_right (by omega), prodR_full r hr]
   ·rw [if_neg c, Int.min_eq_left (by omega), prod_eq r _ hr]
/-- The true product. -/
def prodT : List HopeS → Int
 | [] => 1
 | x :: r => sumW x.Outs * prodT r
theorem prodT_pos : ∀ (h : List HopeS), (∀ x ∈ h, HopeOk x) → 1 ≤ prodT h
 | [], _ => by simp [prodT]
 | x :: r, h => by
   have ih := prodT_pos r fun y hy => h y (List.mem_cons_of_mem _ hy)
   have hs := (h x List.mem_cons_self).sum
   rw [prodT]
   have : 1 * 1 ≤ sumW x.Outs * prodT r := Int.mul_le_mul hs.1 ih (by decide) (by omega)
   omega
theorem prodT_snoc (h : List HopeS) (x : HopeS) : prodT (h ++ [x]) = prodT h * sumW x.Outs := by
 induction h with
 | nil => simp [prodT]
 | cons y h ih => rw [List.cons_append, prodT, prodT, ih, Int.mul_assoc]
theorem prodP_is : ∀ (h : List HopeS) (n : Int), 1 ≤ n → n ≤ most → (∀ x ∈ h, HopeOk x) → (prodP h n ≤ most → prodP h n = n * prodT h) ∧ (most < prodP h n → most < n * prodT h) ∧ 1 ≤ prodP h n ∧ prodP h n ≤ most + 1
 | [], n, h0, h1, _ => by simp [prodP, prodT]; omega
 | x :: r, n, h0, h1, h => by
   have hr := fun y hy => h y (List.mem_cons_of_mem x hy)
   have hs := (h x List.mem_cons_self).sum
   have hp := prodT_pos r hr
   have e : n * prodT (x :: r) = n * sumW x.Outs * prodT r := by rw [prodT, Int.mul_assoc]
   have hn : 1 ≤ n * sumW x.Outs := by
    have : 1 * 1 ≤ n * sumW x.Outs := Int.mul_le_mul h0 hs.1 (by decide) (by omega)
    omega
   rw [prodP]
   by_cases c : most < n * sumW x.Outs
   ·rw [if_pos c]
    refine ⟨fun q => by omega, fun _ => ?_, by decide, by omega⟩
    rw [e]
    have : n * sumW x.Outs * 1 ≤ n * sumW x.Outs * prodT r := Int.mul_le_mul_of_nonneg_left hp (by omega)
    omega
   ·rw [if_neg c]
    have := prodP_is r (n * sumW x.Outs) hn (by omega) hr
    rw [e]; exact this
end Go.HL
end
section
namespace Go.HL
structure VisOk {β : Type} (L : List β) (vis : List Nat) (E : List β) : Prop where
 nd : vis.Nodup
 lt : ∀ j ∈ vis, j < L.length
 eq : E.map some = vis.map fun j => L[j]?
theorem VisOk.nil {β : Type} (L : List β) : VisOk L [] [] := ⟨List.nodup_nil, (fun j h => by cases h), rfl⟩
theorem VisOk.step {β : Type} {L E : List β} {vis : List Nat} (h : VisOk L vis E) {j : Nat} {q : β} (hj : L[j]? = some q) (hn : j ∉ vis) : VisOk L (vis ++ [j]) (E ++ [q]) where
 nd := List.nodup_append.2 ⟨h.nd, by simp, fun a ha b hb => by simp at hb; subst hb; exact fun e => hn (e ▸ ha)⟩
 lt k hk := by
  rcases List.mem_append.1 hk with hk | hk
  ·exact h.lt k hk
  ·simp at hk; subst hk; exact lt_of_get hj
 eq := by simp only [List.map_append, h.eq, List.map_cons, List.map_nil, hj]
theorem VisOk.len {β : Type} {L E : List β} {vis : List Nat} (h : VisOk L vis E) : E.length = vis.length := by
 have := congrArg List.length h.eq; simpa using this
theorem VisOk.le {β : Type} {L E : List β} {vis : List Nat} (h : VisOk L vis E) : vis.length ≤ L.length := by
 have := nd_sub h.nd (m := List.range L.length) fun j hj => List.mem_range.2 (h.lt j hj)
 simpa using this
theorem VisOk.room {β : Type} {L E : List β} {vis : List Nat} (h : VisOk L vis E) {j : Nat} {q : β} (hj : L[j]? = some q) (hn : j ∉ vis) : vis.length < L.length := by
 have := (h.step hj hn).le
 rw [List.length_append] at this
 simp only [List.length_cons, List.length_nil] at this
 omega
theorem VisOk.mem {β : Type} {L E : List β} {vis : List Nat} (h : VisOk L vis E) {x : β} (hx : x ∈ E) : x ∈ L := by
 have h1 : some x ∈ E.map some := List.mem_map_of_mem hx
 rw [h.eq] at h1
 obtain ⟨j, _, hj⟩ := List.mem_map.1 h1
 exact List.mem_of_getElem? hj
theorem VisOk.done {β : Type} {L E : List β} {vis : List Nat} (h : VisOk L vis E) (hl : vis.length = L.length) : E.Perm L := by
 have hp : vis.Perm (List.range L.length) := by
  refine (List.perm_ext_iff_of_nodup h.nd List.nodup_range).2 fun a => ⟨fun ha => List.mem_range.2 (h.lt a ha), fun ha => ?_⟩
  refine Classical.byContradiction fun hna => ?_
  have h1 : (a :: vis).Nodup := List.nodup_cons.2 ⟨hna, h.nd⟩
  have h2 := nd_sub h1 (m := List.range L.length) fun j hj => by
   rcases List.mem_cons.1 hj with rfl | hj
   ·exact ha
   ·exact List.mem_range.2 (h.lt j hj)
  simp at h2; omega
 have h1 := hp.map fun j => L[j]?
 rw [← h.eq] at h1
 have h2 : ((List.range L.length).map fun j => L[j]?) = L.map some := by
  refine List.ext_getElem? fun i => ?_
  rw [List.getElem?_map, List.getElem?_map]
  rcases Nat.lt_or_ge i L.length with hi | hi
  ·rw [List.getElem?_range hi, List.getElem?_eq_getElem hi]; simp [hi]
  ·rw [List.getElem?_eq_none (by simpa using hi), List.getElem?_eq_none hi]; rfl
 rw [h2] at h1
 have h3 := h1.filterMap id
 have key : ∀ l : List β, (l.map some).filterMap id = l := fun l => by
  induction l with
  | nil => rfl
  | cons x l ih => simp [ih]
 rwa [key, key] at h3
def NextOk {β : Type} (L : List β) (vis : List Nat) (c : Bool) (vis' : List Nat) : Prop :=
 (c = false ∧ vis' = vis ∧ vis.length = L.length) ∨ (c = true ∧ ∃ j q, L[j]? = some q ∧ j ∉ vis ∧ vis' = vis ++ [j])
theorem NextOk.t {β : Type} {L : List β} {vis vis' : List Nat} {c : Bool} (h : NextOk L vis c vis') (hc : c = true) : ∃ j q, L[j]? = some q ∧ j ∉ vis ∧ vis' = vis ++ [j] := by
 rcases h with ⟨h, _⟩ | ⟨_, h⟩
 ·rw [hc] at h; cases h
 ·exact h
theorem NextOk.f {β : Type} {L : List β} {vis vis' : List Nat} {c : Bool} (h : NextOk L vis c vis') (hc : c = false) : vis' = vis ∧ vis.length = L.length := by
 rcases h with ⟨_, h⟩ | ⟨h, _⟩
 ·exact h
 ·rw [hc] at h; cases h
section
variable {P : Program} {e : Env} {dst : Option Tmp} {ty : TypeId} {pos : String} {af : Array Edge} {g : Option (Nat × Bool)} {M : List MObj} {K : HVal → List MObj → Prop}
theorem setM_self {α : Type} : ∀ {M : List α} {i : Nat} {m : α}, M[i]? = some m → M.set i m = M
 | [], i, m, h => by simp at h
 | x :: M, 0, m, h => by simp at h; simp [h]
 | x :: M, i + 1, m, h => by simp at h; simp [setM_self h]
theorem eop_nextA [Tracks] {β : Type} {L : List β} {enc : β → HVal × HVal} {x : Operand} {i r b : Nat} {l : List (HVal × HVal)} {vis : List Nat} (hx : evalO e x = some (.raw (.pointer (some ⟨r, 0, none⟩)))) (hm : M[i]? = some (.iter r b l vis)) (hL : l = L.map enc)
 (hv : vis.Nodup) (hvl : ∀ j ∈ vis, j < L.length) (hk : ∀ c R vis', NextOk L vis c vis' → K (.tup (.bool c :: R)) (M.set i (.iter r b l vis'))) : EOp P e M ⟨dst, .next x false, ty, pos, af, g⟩ K := by
 have hl : l.length = L.length := by rw [hL, List.length_map]
 refine eop_next hx hm hv (fun j hj => by rw [hl]; exact hvl j hj) (fun hlen => ?_) (fun j p hj hn => ?_)
 ·have := hk false [] vis (.inl ⟨rfl, rfl, by rw [hlen, hl]⟩)
  rw [setM_self hm] at this
  exact this
 ·rw [hL, List.getElem?_map] at hj
  cases hq : L[j]? with
  | none => rw [hq] at hj; cases hj
  | some q => exact hk true [p.1, p.2] (vis ++ [j]) (.inr ⟨rfl, j, q, hq, hn, rfl⟩)
theorem eop_entryA [Tracks] {β : Type} {L : List β} {enc : β → HVal × HVal} {x : Operand} {i r b j : Nat} {l : List (HVal × HVal)} {vis : List Nat} {q : β} (hx : evalO e x = some (.raw (.pointer (some ⟨r, 0, none⟩)))) (hm : M[i]? = some (.iter r b l (vis ++ [j]))) (hL : l = L.map enc) (hq : L[j]? = some q)
 (hk : K (.tup [(enc q).1, (enc q).2]) M) : EOp P e M ⟨dst, .entry x, ty, pos, af, g⟩ K :=
 eop_entry hx hm (p := enc q) (by rw [hL, List.getElem?_map, hq]; rfl) hk
theorem kk_em {κ α : Type} [DecidableEq κ] (ek : κ → HVal) (f : α → HVal) (L : List (κ × α)) : kk ek (em f L) = L.map fun p => (ek p.1, f p.2) := by simp [kk]
end
section
variable {β : Type}
abbrev Grp (β : Type) := List (Str × (Value × List β))
abbrev gZ (β : Type) : Value × List β := (.slice none 0 0, [])
def gL (s : Str) (G : Grp β) : List β := ((alk s G).getD (gZ β)).2
end
section
variable {P : Program} {e : Env} {dst : Option Tmp} {ty : TypeId} {pos : String} {af : Array Edge} {g : Option (Nat × Bool)} {M : List MObj} {K : HVal → List MObj → Prop} {β : Type} {eb : β → HVal}
end
end Go.HL
end
section
namespace Go.HL
section
variable {κ α γ : Type} [DecidableEq κ]
theorem ANodup.perm {A B : Type} {E L : List (A × B)} (hn : ANodup L) (hp : E.Perm L) : ANodup E := (hp.map (fun p : A × B => p.1)).nodup_iff.2 hn
theorem ANodup.map {A B C : Type} (g : B → C) {E : List (A × B)} (h : ANodup E) : ANodup (E.map fun q => (q.1, g q.2)) := by
 unfold ANodup at *; rw [List.map_map]; exact h
end
structure GOk (E : List (Of2 × Int)) (G : Grp StatS) : Prop where
 nd : ANodup G
 raw : ∀ s, gL s G = rawStats E s
theorem GOk.nil : GOk [] [] := ⟨ANodup.nil, fun s => rfl⟩
theorem rawStats_snoc (E : List (Of2 × Int)) (q : Of2 × Int) (s : Str) : rawStats (E ++ [q]) s = rawStats E s ++ if q.1.1 = s ∧ q.2 ≠ 0 then [⟨q.1.2, q.2⟩] else [] := by
 unfold rawStats
 rw [List.filter_append, List.map_append, List.filter_cons]
 by_cases h : q.1.1 = s ∧ q.2 ≠ 0
 ·rw [if_pos h, if_pos (by simpa using h)]; rfl
 ·rw [if_neg h, if_neg (by simpa using h)]; rfl
theorem GOk.skip {E : List (Of2 × Int)} {G : Grp StatS} (h : GOk E G) {q : Of2 × Int} (hq : q.2 = 0) : GOk (E ++ [q]) G :=
 ⟨h.nd, fun s => by rw [rawStats_snoc, if_neg (by simp [hq]), List.append_nil, h.raw]⟩
theorem gL_put (s t : Str) (v : Value) (l : List StatS) (G : Grp StatS) : gL t (aput s (v, l) G) = if t = s then l else gL t G := by
 unfold gL; rw [alk_put]; split <;> rfl
theorem GOk.put {E : List (Of2 × Int)} {G : Grp StatS} (h : GOk E G) {q : Of2 × Int} (hq : ¬ q.2 = 0) (v : Value) : GOk (E ++ [q]) (aput q.1.1 (v, gL q.1.1 G ++ [⟨q.1.2, q.2⟩]) G) := by
 refine ⟨h.nd.put, fun s => ?_⟩
 rw [gL_put, rawStats_snoc]
 by_cases hs : s = q.1.1
 ·rw [if_pos hs, if_pos ⟨hs.symm, hq⟩, hs, h.raw]
 ·rw [if_neg hs, if_neg (fun e => hs e.1.symm), List.append_nil, h.raw]
theorem mem_sadd {s t : Str} {S : List Str} : t ∈ sadd s S ↔ t = s ∨ t ∈ S := by
 unfold sadd
 by_cases h : S.contains s = true
 ·rw [if_pos h]
  have : s ∈ S := by simpa using h
  constructor
  ·exact .inr
  ·rintro (rfl | h)
   ·exact this
   ·exact h
 ·rw [if_neg h]; simp; exact Or.comm
theorem sadd_nodup {s : Str} {S : List Str} (h : S.Nodup) : (sadd s S).Nodup := by
 unfold sadd
 by_cases hc : S.contains s = true
 ·rw [if_pos hc]; exact h
 ·rw [if_neg hc]
  exact List.nodup_append.2 ⟨h, by simp, fun a ha b hb => by simp at hb; subst hb; intro e; subst e; simp at hc; exact hc ha⟩
theorem sadd_le (s : Str) (S : List Str) : (sadd s S).length ≤ S.length + 1 := by
 unfold sadd; split
 ·omega
 ·simp
structure LnOk (q : LnS) (n : Nat) : Prop where
 c : ANodup q.c
 S : q.S.Nodup
 k : ∀ s ∈ q.S, s.length ≤ 40
 cl : q.c.length ≤ n
 Sl : q.S.length ≤ n
 bd : ∀ e ∈ q.c, -(100000 * (n : Int)) ≤ e.2 ∧ e.2 ≤ 100000 * (n : Int)
theorem LnOk.val {q : LnS} {n : Nat} (h : LnOk q n) (s : Of2) : -(100000 * (n : Int)) ≤ (alk s q.c).getD 0 ∧ (alk s q.c).getD 0 ≤ 100000 * (n : Int) := by
 cases hq : alk s q.c with
 | none => simp; omega
 | some v => exact h.bd _ (alk_of_mem hq)
theorem LnOk.put {q : LnS} {n : Nat} (h : LnOk q n) {p : Play} (hp : playFault p = 0) : LnOk (lnPut q p) (n + 1) := by
 obtain ⟨_, _, _, _, ⟨_, k2, _⟩, hb, _⟩ := playFault_ok hp
 have hv := h.val (p.Player, p.Stat)
 refine ⟨h.c.put, sadd_nodup h.S, fun s hs => ?_, Nat.le_trans (aput_le _ _ _) (by have := h.cl; omega), Nat.le_trans (sadd_le _ _) (by have := h.Sl; omega), fun e he => ?_⟩
 ·rcases mem_sadd.1 hs with rfl | hs
  ·exact key_len k2
  ·exact h.k s hs
 ·rcases mem_aput he with rfl | he
  ·dsimp only; omega
  ·have := h.bd e he; omega
end Go.HL
end
section
namespace Go.HL
abbrev NW := List (Int × Int)
theorem perm_of_alk {A B : NW} (ha : ANodup A) (hb : ANodup B) (h : ∀ k, alk k A = alk k B) : A.Perm B := by
 have nd : ∀ {L : NW}, ANodup L → L.Nodup := fun {L} hL => (List.pairwise_map.1 hL).imp fun hne e => hne (by rw [e])
 refine (List.perm_ext_iff_of_nodup (nd ha) (nd hb)).2 fun p => ?_
 obtain ⟨x, v⟩ := p
 rw [alk_mem ha, alk_mem hb, h]
/-- The sum of what is told of k. -/
def sumAt (k : Int) : NW → Int
 | [] => 0
 | p :: r => (if p.1 = k then p.2 else 0) + sumAt k r
theorem sumAt_perm {k : Int} {A B : NW} (h : A.Perm B) : sumAt k A = sumAt k B := by
 induction h with
 | nil => rfl
 | cons x _ ih => simp only [sumAt, ih]
 | swap x y l => simp only [sumAt]; omega
 | trans _ _ h1 h2 => rw [h1, h2]
theorem sumAt_append (k : Int) : ∀ A B : NW, sumAt k (A ++ B) = sumAt k A + sumAt k B
 | [], B => by simp [sumAt]
 | p :: A, B => by have := sumAt_append k A B; simp only [List.cons_append, sumAt, this]; omega
def addM (N : NW) (p : Int × Int) : NW := aput p.1 ((alk p.1 N).getD 0 + p.2) N
def sumM (ps : NW) : NW := ps.foldl addM []
theorem sumM_snoc (ps : NW) (p : Int × Int) : sumM (ps ++ [p]) = addM (sumM ps) p := by unfold sumM; rw [List.foldl_append]; rfl
theorem addM_nodup : ∀ (ps : NW) (N : NW), ANodup N → ANodup (ps.foldl addM N)
 | [], _, h => h
 | p :: ps, N, h => addM_nodup ps _ h.put
theorem sumM_nodup (ps : NW) : ANodup (sumM ps) := addM_nodup ps [] ANodup.nil
theorem addM_alk (k : Int) : ∀ (ps : NW) (N : NW), alk k (ps.foldl addM N) = if (alk k N).isSome = true ∨ k ∈ ps.map (·.1) then some ((alk k N).getD 0 + sumAt k ps) else none
 | [], N => by
   cases h : alk k N with
   | none => simp [sumAt, h]
   | some v => simp [sumAt, h]
 | p :: ps, N => by
   rw [List.foldl_cons, addM_alk k ps]
   unfold addM
   rw [alk_put]
   by_cases e : k = p.1
   ·rw [if_pos e]
    simp only [Option.isSome_some, true_or, if_true, Option.getD_some, List.map_cons, List.mem_cons, e, sumAt]
    simp only [true_or, or_true, if_true]
    congr 1; omega
   ·have e' : ¬ p.1 = k := fun q => e q.symm
    simp only [if_neg e, List.map_cons, List.mem_cons, e, false_or, sumAt, if_neg e', Int.zero_add, if_false]
theorem sumM_alk (k : Int) (ps : NW) : alk k (sumM ps) = if k ∈ ps.map (·.1) then some (sumAt k ps) else none := by
 have := addM_alk k ps []
 have h0 : (alk k ([] : NW)).isSome = false := rfl
 rw [h0] at this
 simp only [Bool.false_eq_true, false_or] at this
 simpa [alk, sumM] using this
theorem sumM_perm {ps qs : NW} (h : ps.Perm qs) : (sumM ps).Perm (sumM qs) := by
 refine perm_of_alk (sumM_nodup _) (sumM_nodup _) fun k => ?_
 rw [sumM_alk, sumM_alk, sumAt_perm h]
 have : k ∈ ps.map (·.1) ↔ k ∈ qs.map (·.1) := (h.map (fun p : Int × Int => p.1)).mem_iff
 by_cases c : k ∈ ps.map (·.1)
 ·rw [if_pos c, if_pos (this.1 c)]
 ·rw [if_neg c, if_neg fun q => c (this.2 q)]
/-- One player more. -/
def one (p : Int × Int) (O : List OutS) : NW := O.map fun o => (p.1 + o.Points, p.2 * o.Weight)
def expand (L : NW) (O : List OutS) : NW := L.flatMap fun p => one p O
theorem expand_perm {L L' : NW} (h : L.Perm L') (O : List OutS) : (expand L O).Perm (expand L' O) := h.flatMap_right _
theorem expand_snoc (L : NW) (p : Int × Int) (O : List OutS) : expand (L ++ [p]) O = expand L O ++ one p O := by unfold expand; rw [List.flatMap_append]; simp
theorem one_snoc {O : List OutS} {k : Nat} {o : OutS} (p : Int × Int) (h : O[k]? = some o) : one p (O.take (k + 1)) = one p (O.take k) ++ [(p.1 + o.Points, p.2 * o.Weight)] := by
 unfold one; rw [take_snoc' h, List.map_append]; rfl
def czGo (L : NW) (h : List HopeS) : NW := h.foldl (fun L x => sumM (expand L x.Outs)) L
def cz (h : List HopeS) : NW := czGo [(0, 1)] h
theorem cz_snoc {h : List HopeS} {k : Nat} {x : HopeS} (hx : h[k]? = some x) : cz (h.take (k + 1)) = sumM (expand (cz (h.take k)) x.Outs) := by
 unfold cz czGo; rw [take_snoc' hx, List.foldl_append]; rfl
theorem cz_nodup : ∀ h : List HopeS, ANodup (cz h) := by
 intro h
 have key : ∀ (h : List HopeS) (L : NW), ANodup L → ANodup (czGo L h) := by
  intro h
  induction h with
  | nil => intro L hL; exact hL
  | cons x h ih => intro L _; exact ih _ (sumM_nodup _)
 exact key h _ (by simp [ANodup])
/-! totals -/
def tot : NW → Int
 | [] => 0
 | p :: r => p.2 + tot r
theorem tot_append : ∀ A B : NW, tot (A ++ B) = tot A + tot B
 | [], B => by simp [tot]
 | p :: A, B => by have := tot_append A B; simp only [List.cons_append, tot, this]; omega
theorem tot_perm {A B : NW} (h : A.Perm B) : tot A = tot B := by
 induction h with
 | nil => rfl
 | cons x _ ih => simp only [tot, ih]
 | swap x y l => simp only [tot]; omega
 | trans _ _ h1 h2 => rw [h1, h2]
theorem tot_put (k v : Int) : ∀ (N : NW), tot (aput k ((alk k N).getD 0 + v) N) = tot N + v
 | [] => by simp [aput, alk, tot]
 | p :: r => by
   have ih := tot_put k v r
   simp only [aput, alk]
   by_cases h : k = p.1
   ·rw [if_pos h, if_pos h]; simp only [Option.getD_some, tot]; omega
   ·rw [if_neg h, if_neg h]; simp only [tot, ih]; omega
theorem tot_addM : ∀ (ps : NW) (N : NW), tot (ps.foldl addM N) = tot N + tot ps
 | [], N => by simp [tot]
 | p :: ps, N => by rw [List.foldl_cons, tot_addM ps]; unfold addM; rw [tot_put]; simp only [tot]; omega
theorem tot_sumM (ps : NW) : tot (sumM ps) = tot ps := by
 have := tot_addM ps []
 simpa [sumM, tot] using this
theorem tot_one (p : Int × Int) : ∀ O : List OutS, tot (one p O) = p.2 * sumW O
 | [] => by simp [one, tot, sumW]
 | o :: O => by
   have ih := tot_one p O
   unfold one at *
   rw [List.map_cons, tot, sumW, ih, Int.mul_add]
theorem tot_expand (O : List OutS) : ∀ L : NW, tot (expand L O) = tot L * sumW O
 | [] => by simp [expand, tot]
 | p :: L => by
   have ih := tot_expand O L
   unfold expand at *
   rw [List.flatMap_cons, tot_append, tot_one, ih, tot, Int.add_mul]
/-- All weights are above 0. -/
def PosW (L : NW) : Prop := ∀ p ∈ L, 1 ≤ p.2
theorem PosW.tot {L : NW} (h : PosW L) : 0 ≤ tot L := by
 induction L with
 | nil => simp [HL.tot]
 | cons p L ih =>
   have := ih fun q hq => h q (List.mem_cons_of_mem _ hq)
   have := h p List.mem_cons_self
   simp only [HL.tot]; omega
theorem PosW.le {L : NW} (h : PosW L) {p : Int × Int} (hp : p ∈ L) : p.2 ≤ HL.tot L := by
 induction L with
 | nil => cases hp
 | cons q L ih =>
   have hL : PosW L := fun q hq => h q (List.mem_cons_of_mem _ hq)
   have h1 := hL.tot
   have h2 := h q List.mem_cons_self
   rcases List.mem_cons.1 hp with rfl | hp
   ·simp only [HL.tot]; omega
   ·have := ih hL hp; simp only [HL.tot]; omega
theorem PosW.alk {L : NW} (h : PosW L) (k : Int) : 0 ≤ (alk k L).getD 0 ∧ (alk k L).getD 0 ≤ HL.tot L := by
 cases hq : HL.alk k L with
 | none => have := h.tot; simp; omega
 | some v =>
   have hm := alk_of_mem hq
   have h1 := h _ hm
   have h2 := h.le hm
   simp only [Option.getD_some]
   simp only at h1 h2
   omega
theorem PosW.addM {N : NW} (h : PosW N) {p : Int × Int} (hp : 1 ≤ p.2) : PosW (HL.addM N p) := fun q hq => by
 rcases mem_aput hq with rfl | hq
 ·have := (h.alk p.1).1; dsimp only; omega
 ·exact h q hq
theorem PosW.sumM {ps : NW} (h : PosW ps) : PosW (HL.sumM ps) := by
 have key : ∀ (ps : NW) (N : NW), PosW N → PosW ps → PosW (ps.foldl HL.addM N) := by
  intro ps
  induction ps with
  | nil => intro N hN _; exact hN
  | cons p ps ih => intro N hN hp; exact ih _ (hN.addM (hp p List.mem_cons_self)) fun q hq => hp q (List.mem_cons_of_mem _ hq)
 exact key ps [] (fun q hq => by cases hq) h
theorem PosW.one {p : Int × Int} (hp : 1 ≤ p.2) {O : List OutS} (hO : ∀ y ∈ O, 1 ≤ y.Weight) : PosW (HL.one p O) := fun q hq => by
 obtain ⟨o, ho, rfl⟩ := List.mem_map.1 hq
 have := hO o ho
 have : 1 * 1 ≤ p.2 * o.Weight := Int.mul_le_mul hp this (by decide) (by omega)
 dsimp only; omega
theorem PosW.expand {L : NW} (h : PosW L) {O : List OutS} (hO : ∀ y ∈ O, 1 ≤ y.Weight) : PosW (HL.expand L O) := fun q hq => by
 obtain ⟨p, hp, hq⟩ := List.mem_flatMap.1 hq
 exact PosW.one (h p hp) hO q hq
theorem cz_pos {h : List HopeS} (ok : ∀ x ∈ h, HopeOk x) : PosW (cz h) ∧ tot (cz h) = prodT h := by
 have key : ∀ k, k ≤ h.length → PosW (cz (h.take k)) ∧ tot (cz (h.take k)) = prodT (h.take k) := by
  intro k
  induction k with
  | zero => intro _; exact ⟨fun q hq => by simp [cz, czGo] at hq; rw [hq]; decide, by simp [cz, czGo, tot, prodT]⟩
  | succ k ih =>
    intro hk
    have hx := List.getElem?_eq_getElem (l := h) (i := k) (by omega)
    obtain ⟨i1, i2⟩ := ih (by omega)
    have hw := ok _ (List.mem_of_getElem? hx)
    rw [cz_snoc hx, take_snoc' hx, prodT_snoc, tot_sumM, tot_expand, i2]
    exact ⟨(i1.expand fun y hy => (hw.bd y hy).2.1).sumM, rfl⟩
 have := key h.length (Nat.le_refl _)
 rwa [List.take_length] at this
/-- The sums stay small. -/
def BdP (B : Int) (L : NW) : Prop := ∀ p ∈ L, -B ≤ p.1 ∧ p.1 ≤ B
theorem sumM_keys {ps : NW} {p : Int × Int} (h : p ∈ sumM ps) : ∃ q ∈ ps, q.1 = p.1 := by
 have h1 := (alk_mem (sumM_nodup ps) (x := p.1) (v := p.2)).1 h
 rw [sumM_alk] at h1
 by_cases c : p.1 ∈ ps.map (·.1)
 ·obtain ⟨q, hq, e⟩ := List.mem_map.1 c
  exact ⟨q, hq, e⟩
 ·rw [if_neg c] at h1; cases h1
theorem cz_bd {h : List HopeS} (ok : ∀ x ∈ h, HopeOk x) : BdP (100000 * h.length) (cz h) := by
 have key : ∀ k, k ≤ h.length → BdP (100000 * k) (cz (h.take k)) := by
  intro k
  induction k with
  | zero => intro _ q hq; simp [cz, czGo] at hq; rw [hq]; decide
  | succ k ih =>
    intro hk p hp
    have hx := List.getElem?_eq_getElem (l := h) (i := k) (by omega)
    rw [cz_snoc hx] at hp
    obtain ⟨q, hq, e⟩ := sumM_keys hp
    obtain ⟨r, hr, hq⟩ := List.mem_flatMap.1 hq
    obtain ⟨o, ho, rfl⟩ := List.mem_map.1 hq
    have h1 := ih (by omega) r hr
    have h2 := ((ok _ (List.mem_of_getElem? hx)).bd o ho).1
    rw [← e]; dsimp only; omega
 have := key h.length (Nat.le_refl _)
 rwa [List.take_length] at this
end Go.HL
end
section
namespace Go.HL
section
variable {κ : Type}
end
end Go.HL
end
section
namespace Go.HL
section
variable {P : Program} {e : Env} {dst : Option Tmp} {ty : TypeId} {pos : String} {af : Array Edge} {g : Option (Nat × Bool)} {M : List MObj} {K : HVal → List MObj → Prop}
end
end Go.HL
end
section
namespace Go.HL
variable {P : Program}
open Go.Sort Go.Proofs
def sortI (l : List Int) : List Int := l.mergeSort fun x y => decide (x ≤ y)
theorem sortI_len (l : List Int) : (sortI l).length = l.length := by simp [sortI]
end Go.HL
end
section
namespace Go.HL
def toOut (p : Int × Int) : OutS := ⟨p.1, p.2⟩
def ofOut (o : OutS) : Int × Int := (o.Points, o.Weight)
theorem ofTo (L : NW) : (L.map toOut).map ofOut = L := by
 rw [List.map_map]
 exact List.map_id L
def byPts (a b : OutS) : Int := cmpI a.Points b.Points
theorem byPts_cmp : Cmp byPts fun _ => True where
 flip x y _ _ := by unfold byPts; rw [cmpI_flip x.Points y.Points]; omega
 trans x y z _ _ _ h1 h2 := by unfold byPts at *; rw [cmpI_le] at *; omega
def spreadL (h : List HopeS) : List OutS := isort byPts ((cz h).map toOut)
theorem pts_one {L : NW} (hn : ANodup L) {x y : OutS} (hx : x ∈ L.map toOut) (hy : y ∈ L.map toOut) (e : byPts x y = 0) : x = y := by
 obtain ⟨p, hp, rfl⟩ := List.mem_map.1 hx
 obtain ⟨q, hq, rfl⟩ := List.mem_map.1 hy
 have e1 : p.1 = q.1 := cmpI_zero.1 e
 have a := (alk_mem hn (x := p.1) (v := p.2)).1 hp
 have b := (alk_mem hn (x := q.1) (v := q.2)).1 hq
 rw [← e1, a] at b
 have e2 : p.2 = q.2 := Option.some.inj b
 unfold toOut; rw [e1, e2]
/-- Any order of the sums, sorted, is the spread. -/
theorem spread_of {h : List HopeS} {E : NW} (hE : E.Perm (cz h)) {Y : List OutS} (hp : Y.Perm (E.map toOut)) (hs : Y.Pairwise fun a b => ¬ byPts b a < 0) : Y = spreadL h :=
 isort_of_sorted byPts_cmp (fun x y hx hy e => pts_one (cz_nodup h) hx hy e) (hp.trans (hE.map _)) hs
theorem sortI_sorted (l : List Int) : (sortI l).Pairwise fun a b => a ≤ b := by
 have := List.pairwise_mergeSort (le := fun x y : Int => decide (x ≤ y)) (fun a b c h1 h2 => by simp only [decide_eq_true_eq] at *; omega) (fun a b => by simp only [Bool.or_eq_true, decide_eq_true_eq]; omega) l
 exact this.imp fun {a b} h => by simpa using h
theorem sortI_perm (l : List Int) : (sortI l).Perm l := List.mergeSort_perm _ _
theorem spread_keys {h : List HopeS} {L : NW} (hL : L.Perm (cz h)) : (sortI (L.map (·.1))).map (fun n => (⟨n, (alk n L).getD 0⟩ : OutS)) = spreadL h := by
 have hn : ANodup L := (cz_nodup h).perm hL
 refine spread_of hL ?_ ?_
 ·refine ((sortI_perm (L.map (·.1))).map _).trans ?_
  rw [List.map_map]
  refine List.Perm.of_eq (List.map_congr_left fun p hp => ?_)
  have := (alk_mem hn (x := p.1) (v := p.2)).1 hp
  show (⟨p.1, (alk p.1 L).getD 0⟩ : OutS) = toOut p
  rw [this]; rfl
 ·rw [List.pairwise_map]
  exact (sortI_sorted _).imp fun {a b} hab => by
   show ¬ cmpI b a < 0
   have h2 := (cmpI_le (a := a) (b := b)).2 hab
   have h3 := cmpI_flip a b
   omega
theorem spreadL_perm (h : List HopeS) : ((spreadL h).map ofOut).Perm (cz h) := by
 have := (isort_perm byPts ((cz h).map toOut)).map ofOut
 rw [ofTo] at this
 exact this
theorem spreadL_len (h : List HopeS) : (spreadL h).length = (cz h).length := by unfold spreadL; rw [isort_len, List.length_map]
/-! fractions -/
structure FracS where
 Num : Int
 Den : Int
abbrev eFrac (x : FracS) : HVal := .agg [.int .i64 x.Num, .int .i64 x.Den]
def gcdI (a b : Int) : Int := (Nat.gcd a.toNat b.toNat : Nat)
def lowF (n d : Int) : FracS := ⟨n.tdiv (gcdI (max n (-n)) d), d.tdiv (gcdI (max n (-n)) d)⟩
theorem gcd_step {a b : Int} (ha : 0 ≤ a) (hb : 0 < b) : gcdI b (a.tmod b) = gcdI a b := by
 unfold gcdI
 congr 1
 have e : (a.tmod b).toNat = a.toNat % b.toNat := by
  rw [Int.tmod_eq_emod_of_nonneg ha]
  have h1 := Int.toNat_emod ha (by omega : 0 ≤ b)
  exact h1
 rw [e, Nat.gcd_comm b.toNat, ← Nat.gcd_rec, Nat.gcd_comm]
theorem gcd_done {a : Int} (ha : 0 ≤ a) : gcdI a 0 = a := by
 unfold gcdI; simp; omega
theorem gcd_pos {a b : Int} (hb : 0 < b) : 0 < gcdI a b := by
 unfold gcdI
 have := Nat.gcd_pos_of_pos_right a.toNat (n := b.toNat) (by omega)
 omega
end Go.HL
end
section
namespace Go.HL
def belowW (n : Int) : List OutS → Int
 | [] => 0
 | q :: r => (if q.Points < n then q.Weight else 0) + belowW n r
def atW (n : Int) : List OutS → Int
 | [] => 0
 | q :: r => (if q.Points = n then q.Weight else 0) + atW n r
def overW (n : Int) : List OutS → Int
 | [] => 0
 | q :: r => (if n < q.Points then q.Weight else 0) + overW n r
theorem belowW_append (n : Int) : ∀ A B : List OutS, belowW n (A ++ B) = belowW n A + belowW n B
 | [], B => by simp [belowW]
 | p :: A, B => by have := belowW_append n A B; simp only [List.cons_append, belowW, this]; omega
theorem atW_append (n : Int) : ∀ A B : List OutS, atW n (A ++ B) = atW n A + atW n B
 | [], B => by simp [atW]
 | p :: A, B => by have := atW_append n A B; simp only [List.cons_append, atW, this]; omega
theorem overW_append (n : Int) : ∀ A B : List OutS, overW n (A ++ B) = overW n A + overW n B
 | [], B => by simp [overW]
 | p :: A, B => by have := overW_append n A B; simp only [List.cons_append, overW, this]; omega
theorem three_W (n : Int) : ∀ Y : List OutS, belowW n Y + atW n Y + overW n Y = sumW Y
 | [] => by simp [belowW, atW, overW, sumW]
 | q :: Y => by
   have ih := three_W n Y
   simp only [belowW, atW, overW, sumW]
   by_cases h1 : q.Points < n
   ·rw [if_pos h1, if_neg (by omega), if_neg (by omega)]; omega
   ·by_cases h2 : q.Points = n
    ·rw [if_neg h1, if_pos h2, if_neg (by omega)]; omega
    ·rw [if_neg h1, if_neg h2, if_pos (by omega)]; omega
/-- All weights are above 0. -/
def PosO (Y : List OutS) : Prop := ∀ q ∈ Y, 1 ≤ q.Weight
theorem PosO.tail {q : OutS} {Y : List OutS} (h : PosO (q :: Y)) : PosO Y := fun x hx => h x (List.mem_cons_of_mem _ hx)
theorem PosO.take {Y : List OutS} (h : PosO Y) (k : Nat) : PosO (Y.take k) := fun x hx => h x (List.mem_of_mem_take hx)
theorem three_pos (n : Int) : ∀ {Y : List OutS}, PosO Y → 0 ≤ belowW n Y ∧ 0 ≤ atW n Y ∧ 0 ≤ overW n Y ∧ 0 ≤ sumW Y
 | [], _ => by simp [belowW, atW, overW, sumW]
 | q :: Y, h => by
   have ih := three_pos n h.tail
   have := h q List.mem_cons_self
   simp only [belowW, atW, overW, sumW]
   refine ⟨?_, ?_, ?_, ?_⟩ <;> (try split) <;> omega
theorem sumW_takeO {Y : List OutS} (h : PosO Y) (k : Nat) : 0 ≤ sumW (Y.take k) ∧ sumW (Y.take k) ≤ sumW Y := by
 have h1 := (three_pos 0 (h.take k)).2.2.2
 have h2 := (three_pos 0 (Y := Y.drop k) fun x hx => h x (List.mem_of_mem_drop hx)).2.2.2
 have h3 := sumW_append (Y.take k) (Y.drop k)
 rw [List.take_append_drop] at h3
 omega
theorem belowW_all {n : Int} : ∀ {Y : List OutS}, (∀ q ∈ Y, q.Points < n) → belowW n Y = sumW Y
 | [], _ => rfl
 | q :: Y, h => by
   have ih := belowW_all (Y := Y) fun x hx => h x (List.mem_cons_of_mem _ hx)
   have := h q List.mem_cons_self
   simp only [belowW, sumW, ih, if_pos this]
theorem belowW_no {n : Int} : ∀ {Y : List OutS}, (∀ q ∈ Y, n ≤ q.Points) → belowW n Y = 0
 | [], _ => rfl
 | q :: Y, h => by
   have ih := belowW_no (Y := Y) fun x hx => h x (List.mem_cons_of_mem _ hx)
   have := h q List.mem_cons_self
   simp only [belowW, ih]
   rw [if_neg (by omega)]; rfl
/-- The walk along the sorted ones stops where the rest is not less. -/
theorem belowW_at {n : Int} {Y : List OutS} {i : Nat} (h1 : ∀ q ∈ Y.take i, q.Points < n) (h2 : ∀ q ∈ Y.drop i, n ≤ q.Points) : belowW n Y = sumW (Y.take i) := by
 have h3 := belowW_append n (Y.take i) (Y.drop i)
 rw [List.take_append_drop, belowW_all h1, belowW_no h2] at h3
 omega
def IncO (Y : List OutS) : Prop := Y.Pairwise fun a b => a.Points < b.Points
theorem IncO.drop {Y : List OutS} (h : IncO Y) {i : Nat} {n : Int} {q : OutS} (hq : Y[i]? = some q) (hn : n ≤ q.Points) : ∀ x ∈ Y.drop i, n ≤ x.Points := by
 intro x hx
 have hi : i < Y.length := (List.getElem?_eq_some_iff.1 hq).1
 have he : Y[i] = q := (List.getElem?_eq_some_iff.1 hq).2
 rw [List.drop_eq_getElem_cons hi, he] at hx
 rcases List.mem_cons.1 hx with rfl | hx
 ·exact hn
 ·have hp : (Y.drop i).Pairwise fun a b => a.Points < b.Points := List.Pairwise.sublist (List.drop_sublist i Y) h
  rw [List.drop_eq_getElem_cons hi, he] at hp
  have := (List.pairwise_cons.1 hp).1 x hx
  omega
def winS (Y : List OutS) : List OutS → Int
 | [] => 0
 | p :: r => p.Weight * belowW p.Points Y + winS Y r
def drawS (Y : List OutS) : List OutS → Int
 | [] => 0
 | p :: r => p.Weight * atW p.Points Y + drawS Y r
def loseS (Y : List OutS) : List OutS → Int
 | [] => 0
 | p :: r => p.Weight * overW p.Points Y + loseS Y r
theorem winS_append (Y : List OutS) : ∀ A B, winS Y (A ++ B) = winS Y A + winS Y B
 | [], B => by simp [winS]
 | p :: A, B => by have := winS_append Y A B; simp only [List.cons_append, winS, this]; omega
theorem drawS_append (Y : List OutS) : ∀ A B, drawS Y (A ++ B) = drawS Y A + drawS Y B
 | [], B => by simp [drawS]
 | p :: A, B => by have := drawS_append Y A B; simp only [List.cons_append, drawS, this]; omega
theorem loseS_append (Y : List OutS) : ∀ A B, loseS Y (A ++ B) = loseS Y A + loseS Y B
 | [], B => by simp [loseS]
 | p :: A, B => by have := loseS_append Y A B; simp only [List.cons_append, loseS, this]; omega
theorem winS_take {X : List OutS} {j : Nat} {p : OutS} (h : X[j]? = some p) (Y : List OutS) : winS Y (X.take (j + 1)) = winS Y (X.take j) + p.Weight * belowW p.Points Y := by
 rw [take_snoc' h, winS_append]; simp [winS]
theorem drawS_take {X : List OutS} {j : Nat} {p : OutS} (h : X[j]? = some p) (Y : List OutS) : drawS Y (X.take (j + 1)) = drawS Y (X.take j) + p.Weight * atW p.Points Y := by
 rw [take_snoc' h, drawS_append]; simp [drawS]
theorem loseS_take {X : List OutS} {j : Nat} {p : OutS} (h : X[j]? = some p) (Y : List OutS) : loseS Y (X.take (j + 1)) = loseS Y (X.take j) + p.Weight * overW p.Points Y := by
 rw [take_snoc' h, loseS_append]; simp [loseS]
theorem belowW_take {Y : List OutS} {k : Nat} {q : OutS} (h : Y[k]? = some q) (n : Int) : belowW n (Y.take (k + 1)) = belowW n (Y.take k) + if q.Points < n then q.Weight else 0 := by
 rw [take_snoc' h, belowW_append]; simp [belowW]
theorem atW_take {Y : List OutS} {k : Nat} {q : OutS} (h : Y[k]? = some q) (n : Int) : atW n (Y.take (k + 1)) = atW n (Y.take k) + if q.Points = n then q.Weight else 0 := by
 rw [take_snoc' h, atW_append]; simp [atW]
theorem overW_take {Y : List OutS} {k : Nat} {q : OutS} (h : Y[k]? = some q) (n : Int) : overW n (Y.take (k + 1)) = overW n (Y.take k) + if n < q.Points then q.Weight else 0 := by
 rw [take_snoc' h, overW_append]; simp [overW]
theorem three_S {Y : List OutS} : ∀ X : List OutS, winS Y X + drawS Y X + loseS Y X = sumW X * sumW Y
 | [] => by simp [winS, drawS, loseS, sumW]
 | p :: X => by
   have ih := three_S (Y := Y) X
   have h := three_W p.Points Y
   have e : p.Weight * belowW p.Points Y + p.Weight * atW p.Points Y + p.Weight * overW p.Points Y = p.Weight * sumW Y := by rw [← h, Int.mul_add, Int.mul_add]
   simp only [winS, drawS, loseS, sumW, Int.add_mul]
   omega
theorem S_pos {Y : List OutS} (hY : PosO Y) : ∀ {X : List OutS}, PosO X → 0 ≤ winS Y X ∧ 0 ≤ drawS Y X ∧ 0 ≤ loseS Y X
 | [], _ => by simp [winS, drawS, loseS]
 | p :: X, h => by
   have ih := S_pos hY h.tail
   have hp := h p List.mem_cons_self
   have h3 := three_pos p.Points hY
   have a1 := Int.mul_nonneg (a := p.Weight) (by omega) h3.1
   have a2 := Int.mul_nonneg (a := p.Weight) (by omega) h3.2.1
   have a3 := Int.mul_nonneg (a := p.Weight) (by omega) h3.2.2.1
   simp only [winS, drawS, loseS]; omega
/-- What is gathered on the way is no more than the product. -/
theorem S_bd {X Y : List OutS} (hX : PosO X) (hY : PosO Y) (j : Nat) : (0 ≤ winS Y (X.take j) ∧ winS Y (X.take j) ≤ sumW X * sumW Y) ∧ (0 ≤ drawS Y (X.take j) ∧ drawS Y (X.take j) ≤ sumW X * sumW Y) ∧ (0 ≤ loseS Y (X.take j) ∧ loseS Y (X.take j) ≤ sumW X * sumW Y) := by
 have h1 := S_pos hY (hX.take j)
 have h2 := three_S (Y := Y) (X.take j)
 have h3 := sumW_takeO hX j
 have h4 := (three_pos 0 hY).2.2.2
 have h5 : sumW (X.take j) * sumW Y ≤ sumW X * sumW Y := Int.mul_le_mul_of_nonneg_right h3.2 h4
 omega
/-! the other way round -/
end Go.HL
end
section
namespace Go.HL
theorem spread_pts {h : List HopeS} {L : NW} (hL : L.Perm (cz h)) : (spreadL h).map (fun o => o.Points) = sortI (L.map (·.1)) := by
 rw [← spread_keys hL, List.map_map]
 exact List.map_id _
theorem spreadL_inc (h : List HopeS) : IncO (spreadL h) := by
 unfold IncO
 have e : (spreadL h).Pairwise (fun a b => a.Points < b.Points) ↔ ((spreadL h).map fun o => o.Points).Pairwise (· < ·) := by rw [List.pairwise_map]
 rw [e, spread_pts (List.Perm.refl _)]
 have h1 := sortI_sorted ((cz h).map (·.1))
 have h2 : (sortI ((cz h).map (·.1))).Nodup := (sortI_perm _).nodup_iff.2 (cz_nodup h)
 exact (h1.and h2).imp fun {a b} ⟨p, q⟩ => by
  have : a ≠ b := q
  omega
theorem spreadL_mem {h : List HopeS} {q : OutS} (hq : q ∈ spreadL h) : ofOut q ∈ cz h := (spreadL_perm h).mem_iff.1 (List.mem_map_of_mem hq)
theorem spreadL_pos {h : List HopeS} (ok : ∀ x ∈ h, HopeOk x) : PosO (spreadL h) := fun q hq => (cz_pos ok).1 _ (spreadL_mem hq)
theorem sumW_tot : ∀ Y : List OutS, sumW Y = tot (Y.map ofOut)
 | [] => rfl
 | q :: Y => by rw [sumW, List.map_cons, tot, sumW_tot Y]; rfl
theorem spreadL_sum {h : List HopeS} (ok : ∀ x ∈ h, HopeOk x) : sumW (spreadL h) = prodT h := by
 rw [sumW_tot, tot_perm (spreadL_perm h), (cz_pos ok).2]
theorem spread_at {h : List HopeS} {L : NW} (hL : L.Perm (cz h)) {j : Nat} {p : OutS} (hp : (spreadL h)[j]? = some p) : (sortI (L.map (·.1)))[j]? = some p.Points ∧ (alk p.Points L).getD 0 = p.Weight := by
 have h1 : ((spreadL h).map fun o => o.Points)[j]? = some p.Points := by rw [List.getElem?_map, hp]; rfl
 rw [spread_pts hL] at h1
 refine ⟨h1, ?_⟩
 have h2 := hp
 rw [← spread_keys hL, List.getElem?_map, h1] at h2
 have h3 := Option.some.inj h2
 rw [← h3]
theorem sumAt_alk : ∀ {L : NW}, ANodup L → ∀ n, (alk n L).getD 0 = sumAt n L
 | [], _, _ => rfl
 | p :: L, h, n => by
   have hn := List.nodup_cons.1 h
   have ih := sumAt_alk (L := L) hn.2 n
   simp only [alk, sumAt]
   by_cases c : n = p.1
   ·rw [if_pos c, if_pos c.symm]
    have h0 : alk n L = none := alk_none.2 (by rw [c]; exact hn.1)
    rw [h0] at ih
    simp only [Option.getD_none] at ih
    simp only [Option.getD_some]; omega
   ·rw [if_neg c, if_neg fun e => c e.symm, ih, Int.zero_add]
theorem atW_sumAt (n : Int) : ∀ Y : List OutS, atW n Y = sumAt n (Y.map ofOut)
 | [] => rfl
 | q :: Y => by rw [atW, List.map_cons, sumAt, atW_sumAt n Y]; rfl
theorem at_alk {h : List HopeS} {L : NW} (hL : L.Perm (cz h)) (n : Int) : (alk n L).getD 0 = atW n (spreadL h) := by
 rw [sumAt_alk ((cz_nodup h).perm hL), atW_sumAt, sumAt_perm hL, sumAt_perm (spreadL_perm h)]
/-! where there is no room -/
def spreadE (h : List HopeS) : Int := if most < prodP h 1 then 12 else if 20000 < (cz h).length then 12 else 0
theorem prodP_one {h : List HopeS} (ok : ∀ x ∈ h, HopeOk x) : (prodP h 1 ≤ most → prodP h 1 = prodT h) ∧ (most < prodP h 1 → most < prodT h) ∧ 1 ≤ prodP h 1 ∧ prodP h 1 ≤ most + 1 := by
 have := prodP_is h 1 (by decide) (by decide) ok
 rwa [Int.one_mul] at this
theorem spreadE_prod {h : List HopeS} (ok : ∀ x ∈ h, HopeOk x) (e : spreadE h = 0) : prodP h 1 = prodT h ∧ 1 ≤ prodT h ∧ prodT h ≤ most ∧ (cz h).length ≤ 20000 := by
 have h1 := prodP_one ok
 unfold spreadE at e
 split at e
 ·omega
 ·split at e
  ·omega
  ·have := h1.1 (by omega)
   omega
structure EndS where
 win : Int
 draw : Int
 lose : Int
def end0 : EndS := ⟨0, 0, 0⟩
structure ChanceS where
 Win : FracS
 Draw : FracS
 Lose : FracS
abbrev eChance (x : ChanceS) : HVal := .agg [.int .i64 x.Win.Num, .int .i64 x.Win.Den, .int .i64 x.Draw.Num, .int .i64 x.Draw.Den, .int .i64 x.Lose.Num, .int .i64 x.Lose.Den]
def frac0 : FracS := ⟨0, 0⟩
def chance0 : ChanceS := ⟨frac0, frac0, frac0⟩
/-- What is wrong where two are compared. -/
def cmpE (a b : List HopeS) : Int := if spreadE a ≠ 0 then spreadE a else if spreadE b ≠ 0 then spreadE b else if most < prodP a 1 * prodP b 1 then 12 else 0
def endsOf (a b : List HopeS) : EndS := ⟨winS (spreadL b) (spreadL a), drawS (spreadL b) (spreadL a), loseS (spreadL b) (spreadL a)⟩
def chanceOf (a b : List HopeS) : ChanceS := ⟨lowF (endsOf a b).win (prodP a 1 * prodP b 1), lowF (endsOf a b).draw (prodP a 1 * prodP b 1), lowF (endsOf a b).lose (prodP a 1 * prodP b 1)⟩
theorem cmpE_ok {a b : List HopeS} (e : cmpE a b = 0) : spreadE a = 0 ∧ spreadE b = 0 ∧ prodP a 1 * prodP b 1 ≤ most := by
 unfold cmpE at e
 split at e
 ·contradiction
 ·split at e
  ·contradiction
  ·split at e
   ·omega
   ·omega
/-- Bounds of what is gathered on the way. -/
theorem ends_bd {a b : List HopeS} (oa : ∀ x ∈ a, HopeOk x) (ob : ∀ x ∈ b, HopeOk x) (e : cmpE a b = 0) (j : Nat) :
 (0 ≤ winS (spreadL b) ((spreadL a).take j) ∧ winS (spreadL b) ((spreadL a).take j) ≤ most) ∧ (0 ≤ drawS (spreadL b) ((spreadL a).take j) ∧ drawS (spreadL b) ((spreadL a).take j) ≤ most) ∧ (0 ≤ loseS (spreadL b) ((spreadL a).take j) ∧ loseS (spreadL b) ((spreadL a).take j) ≤ most) := by
 obtain ⟨ea, eb, h⟩ := cmpE_ok e
 have h1 := S_bd (spreadL_pos oa) (spreadL_pos ob) j
 rw [spreadL_sum oa, spreadL_sum ob, ← (spreadE_prod oa ea).1, ← (spreadE_prod ob eb).1] at h1
 omega
end Go.HL
end
section
namespace Go.HL
theorem gcdI_dvd_r {a b : Int} (hb : 0 ≤ b) : gcdI a b ∣ b := by
 have h : ((Nat.gcd a.toNat b.toNat : Nat) : Int) ∣ (b.toNat : Int) := Int.ofNat_dvd.2 (Nat.gcd_dvd_right _ _)
 rw [Int.toNat_of_nonneg hb] at h
 exact h
theorem gcdI_dvd_l {a b : Int} (ha : 0 ≤ a) : gcdI a b ∣ a := by
 have h : ((Nat.gcd a.toNat b.toNat : Nat) : Int) ∣ (a.toNat : Int) := Int.ofNat_dvd.2 (Nat.gcd_dvd_left _ _)
 rw [Int.toNat_of_nonneg ha] at h
 exact h
/-- A fraction in lowest terms is what it was, by one divisor. -/
theorem lowF_mul {w T : Int} (hT : 0 < T) : ∃ g, 0 < g ∧ w = (lowF w T).Num * g ∧ T = (lowF w T).Den * g ∧ 0 < (lowF w T).Den := by
 have hg := gcd_pos (a := max w (-w)) hT
 have h1 : gcdI (max w (-w)) T ∣ T := gcdI_dvd_r (by omega)
 have h2 : gcdI (max w (-w)) T ∣ w := by
  have h := gcdI_dvd_l (a := max w (-w)) (b := T) (by omega)
  by_cases c : 0 ≤ w
  ·have e : max w (-w) = w := by omega
   rw [e] at h ⊢; exact h
  ·have e : max w (-w) = -w := by omega
   rw [e] at h ⊢; exact (Int.dvd_neg).1 h
 have e2 : T = (lowF w T).Den * gcdI (max w (-w)) T := (Int.tdiv_mul_cancel h1).symm
 refine ⟨_, hg, (Int.tdiv_mul_cancel h2).symm, e2, ?_⟩
 refine Decidable.not_not.1 fun hn => ?_
 have : (lowF w T).Den * gcdI (max w (-w)) T ≤ 0 := Int.mul_nonpos_of_nonpos_of_nonneg (by omega) (by omega)
 omega
theorem lowF_num {w T : Int} (hT : 0 < T) (hw : 0 ≤ w) : 0 ≤ (lowF w T).Num ∧ (lowF w T).Num ≤ w := by
 obtain ⟨g, hg, e, _, _⟩ := lowF_mul (w := w) hT
 have h0 : 0 ≤ (lowF w T).Num := by
  refine Decidable.not_not.1 fun hn => ?_
  have : (lowF w T).Num * g < 0 := Int.mul_neg_of_neg_of_pos (by omega) hg
  omega
 refine ⟨h0, ?_⟩
 have : (lowF w T).Num * 1 ≤ (lowF w T).Num * g := Int.mul_le_mul_of_nonneg_left (by omega) h0
 omega
theorem lowF_den {w T : Int} (hT : 0 < T) : 1 ≤ (lowF w T).Den ∧ (lowF w T).Den ≤ T := by
 obtain ⟨g, hg, _, e, h0⟩ := lowF_mul (w := w) hT
 have : (lowF w T).Den * 1 ≤ (lowF w T).Den * g := Int.mul_le_mul_of_nonneg_left (by omega) (by omega)
 omega
/-- Crosswise. -/
theorem low_cross {u v T U : Int} (hT : 0 < T) (hU : 0 < U) : (lowF v U).Num * (lowF u T).Den < (lowF u T).Num * (lowF v U).Den ↔ v * T < u * U := by
 obtain ⟨g, hg, e1, e2, _⟩ := lowF_mul (w := u) hT
 obtain ⟨k, hk, f1, f2, _⟩ := lowF_mul (w := v) hU
 have a : v * T = (lowF v U).Num * (lowF u T).Den * (k * g) := by
  have : (lowF v U).Num * (lowF u T).Den * (k * g) = (lowF v U).Num * k * ((lowF u T).Den * g) := by simp only [Int.mul_assoc, Int.mul_left_comm, Int.mul_comm]
  rw [this, ← f1, ← e2]
 have b : u * U = (lowF u T).Num * (lowF v U).Den * (k * g) := by
  have : (lowF u T).Num * (lowF v U).Den * (k * g) = (lowF u T).Num * g * ((lowF v U).Den * k) := by simp only [Int.mul_assoc, Int.mul_left_comm, Int.mul_comm]
  rw [this, ← e1, ← f2]
 rw [a, b]
 have hp : 0 < k * g := Int.mul_pos hk hg
 exact ⟨fun h => Int.mul_lt_mul_of_pos_right h hp, fun h => Int.lt_of_mul_lt_mul_right h (by omega)⟩
/-! halves of a product -/
def hiW (A : Int) : Int := A / 18446744073709551616
def loW (A : Int) : Int := A % 18446744073709551616
theorem hilo_gt {A B : Int} : (hiW B < hiW A ∨ (hiW A = hiW B ∧ loW B < loW A)) ↔ B < A := by unfold hiW loW; omega
theorem hilo_most {A : Int} (h : 0 ≤ A) : (0 < hiW A ∨ most < loW A) ↔ most < A := by unfold hiW loW most; omega
/-! the order of hopes -/
theorem sumAt_one (k : Int) (p : Int × Int) : ∀ O : List OutS, sumAt k (one p O) = p.2 * atW (k - p.1) O
 | [] => by simp [one, sumAt, atW]
 | o :: O => by
   have ih := sumAt_one k p O
   unfold one at *
   rw [List.map_cons, sumAt, ih, atW]
   by_cases c : p.1 + o.Points = k
   ·have c' : o.Points = k - p.1 := by omega
    rw [if_pos c, if_pos c', Int.mul_add]
   ·have c' : ¬ o.Points = k - p.1 := by omega
    rw [if_neg c, if_neg c', Int.zero_add, Int.zero_add]
end Go.HL
end
section
namespace Go.HL
def linM (g : Int → Int) : NW → Int
 | [] => 0
 | p :: r => g p.1 * p.2 + linM g r
theorem linM_append (g : Int → Int) : ∀ A B : NW, linM g (A ++ B) = linM g A + linM g B
 | [], B => by simp [linM]
 | p :: A, B => by have := linM_append g A B; simp only [List.cons_append, linM, this]; omega
theorem linM_put (g : Int → Int) (k v : Int) : ∀ N : NW, linM g (aput k ((alk k N).getD 0 + v) N) = linM g N + g k * v
 | [] => by simp [aput, alk, linM]
 | p :: r => by
   have ih := linM_put g k v r
   simp only [aput, alk]
   by_cases h : k = p.1
   ·rw [if_pos h, if_pos h]
    simp only [Option.getD_some, linM, h, Int.mul_add]; omega
   ·rw [if_neg h, if_neg h]; simp only [linM, ih]; omega
theorem linM_addM (g : Int → Int) : ∀ (ps : NW) (N : NW), linM g (ps.foldl addM N) = linM g N + linM g ps
 | [], N => by simp [linM]
 | p :: ps, N => by rw [List.foldl_cons, linM_addM g ps]; unfold addM; rw [linM_put]; simp only [linM]; omega
theorem linM_sumM (g : Int → Int) (ps : NW) : linM g (sumM ps) = linM g ps := by
 have := linM_addM g ps []
 simpa [sumM, linM] using this
theorem sumAt_expand (k : Int) (O : List OutS) : ∀ L : NW, sumAt k (expand L O) = linM (fun x => atW (k - x) O) L
 | [] => by simp [expand, sumAt, linM]
 | p :: L => by
   have ih := sumAt_expand k O L
   unfold expand at *
   rw [List.flatMap_cons, sumAt_append, sumAt_one, ih, linM, Int.mul_comm]
theorem sumM_has {ps : NW} {q : Int × Int} (h : q ∈ ps) : ∃ p ∈ sumM ps, p.1 = q.1 := by
 have h1 : alk q.1 (sumM ps) = some (sumAt q.1 ps) := by rw [sumM_alk, if_pos (List.mem_map_of_mem h)]
 exact ⟨_, alk_of_mem h1, rfl⟩
theorem expand_keys {L : NW} {O : List OutS} {k : Int} : k ∈ (expand L O).map (·.1) ↔ ∃ p ∈ L, ∃ o ∈ O, k = p.1 + o.Points := by
 constructor
 ·intro h
  obtain ⟨q, hq, rfl⟩ := List.mem_map.1 h
  obtain ⟨p, hp, hq⟩ := List.mem_flatMap.1 hq
  obtain ⟨o, ho, rfl⟩ := List.mem_map.1 hq
  exact ⟨p, hp, o, ho, rfl⟩
 ·rintro ⟨p, hp, o, ho, rfl⟩
  exact List.mem_map.2 ⟨_, List.mem_flatMap.2 ⟨p, hp, List.mem_map.2 ⟨o, ho, rfl⟩⟩, rfl⟩
theorem sum_twice (ps : NW) (O : List OutS) : (sumM (expand (sumM ps) O)).Perm (sumM (expand ps O)) := by
 refine perm_of_alk (sumM_nodup _) (sumM_nodup _) fun k => ?_
 have hk : k ∈ (expand (sumM ps) O).map (·.1) ↔ k ∈ (expand ps O).map (·.1) := by
  rw [expand_keys, expand_keys]
  constructor
  ·rintro ⟨p, hp, o, ho, rfl⟩
   obtain ⟨q, hq, e⟩ := sumM_keys hp
   exact ⟨q, hq, o, ho, by rw [e]⟩
  ·rintro ⟨q, hq, o, ho, rfl⟩
   obtain ⟨p, hp, e⟩ := sumM_has hq
   exact ⟨p, hp, o, ho, by rw [e]⟩
 rw [sumM_alk, sumM_alk, sumAt_expand, sumAt_expand, linM_sumM]
 by_cases c : k ∈ (expand ps O).map (·.1)
 ·rw [if_pos c, if_pos (hk.2 c)]
 ·rw [if_neg c, if_neg fun q => c (hk.1 q)]
theorem flatm_cons {β γ : Type} (g : β → γ) (r : β → List γ) : ∀ B : List β, (B.flatMap fun b => g b :: r b).Perm (B.map g ++ B.flatMap r)
 | [] => .nil
 | b :: B => by
   have ih := flatm_cons g r B
   rw [List.flatMap_cons, List.flatMap_cons, List.map_cons, List.cons_append, List.cons_append]
   refine .cons _ ?_
   refine (ih.append_left (r b)).trans ?_
   rw [← List.append_assoc, ← List.append_assoc]
   exact List.perm_append_comm.append_right _
theorem flatm_swap {α β γ : Type} (f : α → β → γ) (B : List β) : ∀ A : List α, (A.flatMap fun a => B.map (f a)).Perm (B.flatMap fun b => A.map fun a => f a b)
 | [] => by
   have : (B.flatMap fun b => ([] : List α).map fun a => f a b) = [] := by
    rw [List.flatMap_eq_nil_iff]; intro _ _; rfl
   rw [this]; exact .nil
 | a :: A => by
   rw [List.flatMap_cons]
   have h := flatm_cons (f a) (fun b => A.map fun a => f a b) B
   exact ((flatm_swap f B A).append_left _).trans h.symm
theorem one_one (p : Int × Int) (A B : List OutS) : (expand (one p A) B).Perm (expand (one p B) A) := by
 have e : ∀ A B : List OutS, expand (one p A) B = A.flatMap fun a => B.map fun b => ((p.1 + a.Points + b.Points, p.2 * a.Weight * b.Weight) : Int × Int) := by
  intro A B; unfold expand one; rw [List.flatMap_map]
 rw [e, e]
 refine (flatm_swap _ B A).trans (List.Perm.of_eq ?_)
 congr 1; funext b; congr 1; funext a
 rw [Int.add_right_comm, Int.mul_right_comm]
theorem expand_append (A B : NW) (O : List OutS) : expand (A ++ B) O = expand A O ++ expand B O := by unfold expand; rw [List.flatMap_append]
theorem expand_swap (A B : List OutS) : ∀ L : NW, (expand (expand L A) B).Perm (expand (expand L B) A)
 | [] => .nil
 | p :: L => by
   have e : ∀ O : List OutS, expand (p :: L) O = one p O ++ expand L O := fun O => by unfold expand; rw [List.flatMap_cons]
   rw [e, e, expand_append, expand_append]
   exact (one_one p A B).append (expand_swap A B L)
theorem czGo_perm {L L' : NW} (h : L.Perm L') : ∀ l : List HopeS, (czGo L l).Perm (czGo L' l) := by
 intro l
 induction l generalizing L L' with
 | nil => exact h
 | cons x l ih => exact ih (sumM_perm (expand_perm h _))
theorem czGo_order {a b : List HopeS} (h : a.Perm b) : ∀ L : NW, (czGo L a).Perm (czGo L b) := by
 induction h with
 | nil => intro L; exact .refl _
 | cons x _ ih => intro L; exact ih _
 | swap x y l =>
   intro L
   refine czGo_perm ?_ l
   exact ((sum_twice _ _).trans (sumM_perm (expand_swap _ _ _))).trans (sum_twice _ _).symm
 | trans _ _ h1 h2 => intro L; exact (h1 L).trans (h2 L)
theorem cz_perm {a b : List HopeS} (h : a.Perm b) : (cz a).Perm (cz b) := czGo_order h _
theorem prodT_perm {a b : List HopeS} (h : a.Perm b) : prodT a = prodT b := by
 induction h with
 | nil => rfl
 | cons x _ ih => simp only [prodT, ih]
 | swap x y l => simp only [prodT]; rw [Int.mul_left_comm]
 | trans _ _ h1 h2 => rw [h1, h2]
theorem prodP_perm {a b : List HopeS} (h : a.Perm b) (oa : ∀ x ∈ a, HopeOk x) : prodP a 1 = prodP b 1 := by
 have ob : ∀ x ∈ b, HopeOk x := fun x hx => oa x (h.mem_iff.2 hx)
 have h1 := prodP_one oa
 have h2 := prodP_one ob
 have h3 := prodT_perm h
 have h4 := prodT_pos a oa
 by_cases c : prodT a ≤ most
 ·have c1 : prodP a 1 ≤ most := by refine Decidable.not_not.1 fun q => ?_; have := h1.2.1 (by omega); omega
  have c2 : prodP b 1 ≤ most := by refine Decidable.not_not.1 fun q => ?_; have := h2.2.1 (by omega); omega
  have := h1.1 c1
  have := h2.1 c2
  omega
 ·have c1 : ¬ prodP a 1 ≤ most := fun q => by have := h1.1 q; omega
  have c2 : ¬ prodP b 1 ≤ most := fun q => by have := h2.1 q; omega
  omega
theorem spreadL_order {a b : List HopeS} (h : a.Perm b) : spreadL a = spreadL b :=
 spread_of (cz_perm h) (isort_perm byPts _) (by
  have h1 := spreadL_inc a
  exact h1.imp fun {x y} q => by
   show ¬ cmpI y.Points x.Points < 0
   have h2 := (cmpI_le (a := x.Points) (b := y.Points)).2 (by omega)
   have h3 := cmpI_flip x.Points y.Points
   omega)
theorem spreadE_order {a b : List HopeS} (h : a.Perm b) (oa : ∀ x ∈ a, HopeOk x) : spreadE a = spreadE b := by
 unfold spreadE
 rw [prodP_perm h oa, (cz_perm h).length_eq]
theorem cmpE_order {a a' b : List HopeS} (h : a.Perm a') (oa : ∀ x ∈ a, HopeOk x) : cmpE a b = cmpE a' b := by
 unfold cmpE
 rw [spreadE_order h oa, prodP_perm h oa]
theorem endsOf_order {a a' b : List HopeS} (h : a.Perm a') : endsOf a b = endsOf a' b := by
 unfold endsOf; rw [spreadL_order h]
theorem chanceOf_order {a a' b : List HopeS} (h : a.Perm a') (oa : ∀ x ∈ a, HopeOk x) : chanceOf a b = chanceOf a' b := by
 unfold chanceOf; rw [endsOf_order h, prodP_perm h oa]
/-- Better: weights crosswise. -/
theorem better_cross {a c b : List HopeS} (oa : ∀ x ∈ a, HopeOk x) (oc : ∀ x ∈ c, HopeOk x) (ob : ∀ x ∈ b, HopeOk x) :
 (chanceOf a b).Win.Num * (chanceOf c b).Win.Den < (chanceOf c b).Win.Num * (chanceOf a b).Win.Den ↔ (endsOf a b).win * prodP c 1 < (endsOf c b).win * prodP a 1 := by
 have pa := (prodP_one oa).2.2.1
 have pc := (prodP_one oc).2.2.1
 have pb := (prodP_one ob).2.2.1
 have ha : 0 < prodP a 1 * prodP b 1 := Int.mul_pos (by omega) (by omega)
 have hc : 0 < prodP c 1 * prodP b 1 := Int.mul_pos (by omega) (by omega)
 unfold chanceOf
 dsimp only
 rw [low_cross hc ha]
 have e1 : (endsOf a b).win * (prodP c 1 * prodP b 1) = (endsOf a b).win * prodP c 1 * prodP b 1 := (Int.mul_assoc _ _ _).symm
 have e2 : (endsOf c b).win * (prodP a 1 * prodP b 1) = (endsOf c b).win * prodP a 1 * prodP b 1 := (Int.mul_assoc _ _ _).symm
 rw [e1, e2]
 exact ⟨fun h => Int.lt_of_mul_lt_mul_right h (by omega), fun h => Int.mul_lt_mul_of_pos_right h (by omega)⟩
end Go.HL
end
section
namespace Go.HL
theorem hopesGo_stop {h r : List HopeS} {k : Nat} {x : HopeS} {c : Int} (e : hopeF h k x = c) (hc : c ≠ 0) : hopesGo h k (x :: r) = c := by rw [hopesGo, if_pos (by rw [e]; exact hc), e]
theorem hopesGo_go {h r : List HopeS} {k : Nat} {x : HopeS} (e : hopeF h k x = 0) : hopesGo h k (x :: r) = hopesGo h (k + 1) r := by rw [hopesGo, if_neg (by rw [e]; simp)]
theorem hopeF_5 {h : List HopeS} {k : Nat} {x : HopeS} (a : key x.Player = false) : hopeF h k x = 5 := by rw [hopeF, if_pos (by rw [a]; rfl)]
theorem hopeF_7 {h : List HopeS} {k : Nat} {x : HopeS} (a : key x.Player = true) (b : 0 < k ∧ leS x.Player (h.getD (k - 1) hope0).Player = true) : hopeF h k x = 7 := by rw [hopeF, if_neg (by rw [a]; simp), if_pos b]
theorem hopeF_8 {h : List HopeS} {k : Nat} {x : HopeS} (a : key x.Player = true) (b : ¬ (0 < k ∧ leS x.Player (h.getD (k - 1) hope0).Player = true)) (c : x.Outs.length = 0) : hopeF h k x = 8 := by rw [hopeF, if_neg (by rw [a]; simp), if_neg b, if_pos c]
theorem hopeF_2 {h : List HopeS} {k : Nat} {x : HopeS} (a : key x.Player = true) (b : ¬ (0 < k ∧ leS x.Player (h.getD (k - 1) hope0).Player = true)) (c : x.Outs.length ≠ 0) (d : 8 < x.Outs.length) : hopeF h k x = 2 := by rw [hopeF, if_neg (by rw [a]; simp), if_neg b, if_neg c, if_pos d]
theorem hopeF_go {h : List HopeS} {k : Nat} {x : HopeS} (a : key x.Player = true) (b : ¬ (0 < k ∧ leS x.Player (h.getD (k - 1) hope0).Player = true)) (c : x.Outs.length ≠ 0) (d : ¬ 8 < x.Outs.length) : hopeF h k x = outsGo x.Outs 0 x.Outs := by rw [hopeF, if_neg (by rw [a]; simp), if_neg b, if_neg c, if_neg d]
theorem outsGo_1 {O r : List OutS} {k : Nat} {y : OutS} (e : outB y = true) : outsGo O k (y :: r) = 1 := by rw [outsGo, if_pos e]
theorem outsGo_7 {O r : List OutS} {k : Nat} {y : OutS} (e : outB y = false) (c : 0 < k ∧ y.Points ≤ (O.getD (k - 1) out0).Points) : outsGo O k (y :: r) = 7 := by rw [outsGo, if_neg (by rw [e]; simp), if_pos c]
theorem outsGo_go {O r : List OutS} {k : Nat} {y : OutS} (e : outB y = false) (c : ¬ (0 < k ∧ y.Points ≤ (O.getD (k - 1) out0).Points)) : outsGo O k (y :: r) = outsGo O (k + 1) r := by rw [outsGo, if_neg (by rw [e]; simp), if_neg c]
theorem HopeOk.bdw {x : HopeS} (h : HopeOk x) : ∀ y ∈ x.Outs, 1 ≤ y.Weight ∧ y.Weight ≤ 1000 := fun y hy => (h.bd y hy).2
theorem max_neg_ite {n : Int} : (if -n > n then -n else n) = max n (-n) := by split <;> omega
theorem min_ite {n : Int} : (if 1000000000001 < n then 1000000000001 else n) = min n (most + 1) := by
 have : (most + 1 : Int) = 1000000000001 := rfl
 rw [this]; split <;> omega
theorem take_ok {h : List HopeS} (ok : ∀ x ∈ h, HopeOk x) (k : Nat) : ∀ x ∈ h.take k, HopeOk x := fun x hx => ok x (List.mem_of_mem_take hx)
theorem prodT_append : ∀ a b : List HopeS, prodT (a ++ b) = prodT a * prodT b
 | [], b => by simp [prodT]
 | x :: a, b => by rw [List.cons_append, prodT, prodT, prodT_append a b, Int.mul_assoc]
theorem prodT_take {h : List HopeS} (ok : ∀ x ∈ h, HopeOk x) (k : Nat) : 1 ≤ prodT (h.take k) ∧ prodT (h.take k) ≤ prodT h := by
 have h1 := prodT_pos _ (take_ok ok k)
 have h2 := prodT_pos (h.drop k) fun x hx => ok x (List.mem_of_mem_drop hx)
 have h3 := prodT_append (h.take k) (h.drop k)
 rw [List.take_append_drop] at h3
 have h4 : prodT (h.take k) * 1 ≤ prodT (h.take k) * prodT (h.drop k) := Int.mul_le_mul_of_nonneg_left h2 (by omega)
 omega
theorem mul_room {n s : Int} (h0 : 1 ≤ n) (h1 : n ≤ most + 1) (s0 : 1 ≤ s) (s1 : s ≤ 8000) : 1 ≤ n * s ∧ n * s ≤ 8000000000008000 := by
 have a : 1 * 1 ≤ n * s := Int.mul_le_mul h0 s0 (by decide) (by omega)
 have b : n * s ≤ (most + 1) * 8000 := Int.mul_le_mul h1 s1 (by omega) (by decide)
 have c : (most + 1) * 8000 = 8000000000008000 := rfl
 rw [c] at b
 exact ⟨a, b⟩
theorem PosW.sub {L : NW} (h : PosW L) {E : NW} {vis : List Nat} (hv : VisOk L vis E) : PosW E := fun p hp => h p (hv.mem hp)
theorem VisOk.rest {L E : NW} {vis : List Nat} (hv : VisOk L vis E) : ∃ E' : NW, (E ++ E').Perm L := by
 let rest := (List.range L.length).filter fun j => decide (j ∉ vis)
 have hr : ∀ j, j ∈ rest ↔ j < L.length ∧ j ∉ vis := fun j => by simp [rest]
 refine ⟨rest.map fun j => L.getD j (0, 0), ?_⟩
 have nd : (vis ++ rest).Nodup := List.nodup_append.2 ⟨hv.nd, List.Pairwise.filter _ List.nodup_range, fun a ha b hb e => ((hr b).1 hb).2 (e ▸ ha)⟩
 have hall : VisOk L (vis ++ rest) (E ++ rest.map fun j => L.getD j (0, 0)) := by
  refine ⟨nd, fun j hj => ?_, ?_⟩
  ·rcases List.mem_append.1 hj with h | h
   ·exact hv.lt j h
   ·exact ((hr j).1 h).1
  ·rw [List.map_append, List.map_append, hv.eq, List.map_map]
   congr 1
   refine List.map_congr_left fun j hj => ?_
   have := ((hr j).1 hj).1
   show some (L.getD j (0, 0)) = L[j]?
   rw [List.getElem?_eq_getElem this]; simp [List.getD, List.getElem?_eq_getElem this]
 refine hall.done ?_
 have hp : (vis ++ rest).Perm (List.range L.length) := (List.perm_ext_iff_of_nodup nd List.nodup_range).2 fun a => by
  rw [List.mem_append, hr, List.mem_range]
  constructor
  ·rintro (h | h)
   ·exact hv.lt a h
   ·exact h.1
  ·intro h
   by_cases c : a ∈ vis
   ·exact .inl c
   ·exact .inr ⟨h, c⟩
 have := hp.length_eq
 rwa [List.length_range] at this
theorem tot_vis {L E : NW} {vis : List Nat} (h : PosW L) (hv : VisOk L vis E) : 0 ≤ tot E ∧ tot E ≤ tot L := by
 obtain ⟨E', hp⟩ := hv.rest
 have h1 : PosW E' := fun p hp' => h p (hp.mem_iff.1 (List.mem_append_right _ hp'))
 have h2 := h1.tot
 have h3 := tot_perm hp
 rw [tot_append] at h3
 have h4 := (h.sub hv).tot
 omega
/-- What is told in the midst of a walk is no more than what is told at its end. -/
theorem mid_bd {L E : NW} {vis : List Nat} {j : Nat} {q : Int × Int} {O : List OutS} (h : PosW L) (hO : ∀ y ∈ O, 1 ≤ y.Weight ∧ y.Weight ≤ 1000) (hv : VisOk L (vis ++ [j]) (E ++ [q])) {i : Nat} {y : OutS} (hy : O[i]? = some y) (k : Int) :
 0 ≤ (alk k (sumM (expand E O ++ one q (O.take i)))).getD 0 ∧ (1 ≤ q.2 * y.Weight) ∧ (alk k (sumM (expand E O ++ one q (O.take i)))).getD 0 + q.2 * y.Weight ≤ tot L * sumW O := by
 have hE := h.sub hv
 have hq : 1 ≤ q.2 := hE q (by simp)
 have hE' : PosW E := fun p hp => hE p (List.mem_append_left _ hp)
 have hyO := hO y (List.mem_of_getElem? hy)
 have hO1 : ∀ y ∈ O, 1 ≤ y.Weight := fun y hy => (hO y hy).1
 have hps : PosW (expand E O ++ one q (O.take i)) := fun p hp => by
  rcases List.mem_append.1 hp with hp | hp
  ·exact hE'.expand hO1 p hp
  ·exact PosW.one hq (fun y hy => hO1 y (List.mem_of_mem_take hy)) p hp
 have a := hps.sumM.alk k
 rw [tot_sumM, tot_append, tot_expand, tot_one] at a
 have b := (tot_vis h hv).2
 rw [tot_append] at b
 simp only [tot] at b
 have c : (tot E + q.2) * sumW O ≤ tot L * sumW O := Int.mul_le_mul_of_nonneg_right (by omega) (by
  have := sumW_bd O hO; omega)
 rw [Int.add_mul] at c
 have d := (sumW_take (l := O) hO (i + 1)).2
 rw [take_snoc' hy, sumW_append] at d
 simp only [sumW] at d
 have e : q.2 * (sumW (O.take i) + y.Weight) ≤ q.2 * sumW O := Int.mul_le_mul_of_nonneg_left (by omega) (by omega)
 rw [Int.mul_add] at e
 have f : 1 * 1 ≤ q.2 * y.Weight := Int.mul_le_mul hq hyO.1 (by decide) (by omega)
 omega
abbrev iM (L : NW) : List (HVal × HVal) := kk (HVal.int .i64) (em (HVal.int .i64) L)
/-- The map that is handed back, if there is one. -/
def mapO : Option Nat → NW → List MObj
 | none, _ => []
 | some b, L => [.map b (iM L)]
theorem iM_len (L : NW) : (iM L).length = L.length := by simp [iM, kk, em]
end Go.HL
end
section
namespace Go.HL
section
variable {P : Program} {e : Env} {dst : Option Tmp} {ty : TypeId} {pos : String} {af : Array Edge} {g : Option (Nat × Bool)}
end
section
variable {P : Program} {n : Nat} {e e' : Env} {M M' : List MObj} {Q Q' : Exit → Env → List MObj → Prop} {c c' : Code}
end
end Go.HL
end
section
namespace Go.HL
variable {P : Program}
theorem keyOk_int {kt : TypeId} {k : IntKind} {s1 b1 : Nat} {z1 : Value} (hf : Fits P kt (.int k) s1 b1 z1) : KeyOk P kt (fun x : Int => .int k x) := by
 haveI : Tracks := ⟨true⟩
 have hk : ∀ x y : Int, sameKind (.int k) (.int k x) (.int k y) = true := fun x y => by simp [sameKind]
 refine ⟨fun I x v b w hv => run_check_scalar hf (hk x x) hv b 9999 w, fun I x y u v w hu hv => ?_, fun I x v es w hv hes => ?_, fun I x u v hu hv => ?_⟩
 ·have := run_equal_scalar hf (hk x y) hu hv 9999 w
  show (Op.equalIn (9999 + 1) kt u v).run P w = _
  rw [this]
  show Result.ok (x == y) w = _
  congr 1
 ·obtain rfl := hv.int_inv
  have key : ∀ (es : List MapEntry) (i : Nat), (∀ m ∈ es, ∃ y, V I (.int k y) m.key) → ∃ r, Instr.findNow (.int k) (.int k x) es i = some r ∧ (Instr.findAsking kt (.int k x) es i).run P w = .ok r w := by
   intro es
   induction es with
   | nil => intro i _; exact ⟨none, rfl, by simp [Instr.findAsking]⟩
   | cons m es ih =>
     intro i h
     obtain ⟨y, hy⟩ := h m List.mem_cons_self
     have hq := run_equal_scalar hf (hk x y) (V.int k x) hy 9999 w
     have hq' : (Op.equal kt (.int k x) m.key).run P w = .ok (x == y) w := hq
     have hy' := hy.int_inv
     by_cases e : x = y
     ·have e1 : (x == y) = true := by simpa using e
      refine ⟨some (i, m.val), ?_, ?_⟩
      ·simp only [Instr.findNow, Instr.sameNow, hy', if_true, e1]
      ·simp only [Instr.findAsking, Sem.run_bind, hq', Result.andThen_ok, e1]
       simp
     ·obtain ⟨r, r1, r2⟩ := ih (i + 1) fun m' hm' => h m' (List.mem_cons_of_mem _ hm')
      refine ⟨r, ?_, ?_⟩
      ·have : (x == y) = false := by simpa using e
       simp only [Instr.findNow, Instr.sameNow, hy', if_true, this]
       exact r1
      ·have : (x == y) = false := by simpa using e
       simp only [Instr.findAsking, Sem.run_bind, hq', Result.andThen_ok, this]
       exact r2
  obtain ⟨r, r1, r2⟩ := key es 0 hes
  simp only [Instr.findKey, Sem.run_bind, run_underlying hf.intD, Result.andThen_ok, r1, Sem.run_pure, r2]
 ·obtain rfl := hu.int_inv
  obtain rfl := hv.int_inv
  show Instr.sameBits (9999 + 1) _ _ = true
  simp [Instr.sameBits]
end Go.HL
end
section
namespace Go.HL
open Go
theorem EOp.insert [Tracks] {P : Program} {e : Env} {M : List MObj} {dst : Option Tmp} {t ty : TypeId} {x y z : Operand} {pos : String} {af : Array Edge} {g : Option (Nat × Bool)} {K : HVal → List MObj → Prop}
 (h : EOp P e M ⟨dst, .mapUpdate t x y z, ty, pos, af, g⟩ K) : EOp P e M ⟨dst, .insert t x y z, ty, pos, af, g⟩ K := fun I F a w ho hs => h I F a w ho hs
theorem and32 {m : Int} (h0 : 0 ≤ m) (h1 : m < 18446744073709551616) : IntKind.u64.wrap (((m % 2 ^ IntKind.u64.bits).toNat &&& 4294967295 % 2 ^ IntKind.u64.bits : Nat) : Int) = m % 4294967296 := by
 have e1 : (4294967295 % 2 ^ IntKind.u64.bits : Nat) = 2 ^ 32 - 1 := rfl
 rw [e1, Nat.and_two_pow_sub_one_eq_mod]
 have e2 : m % 2 ^ IntKind.u64.bits = m := by
  simp [IntKind.bits]; omega
 rw [e2]
 simp [IntKind.wrap, IntKind.bits, IntKind.signed]; omega
section
variable {P : Program} {e : Env} {dst : Option Tmp} {ty : TypeId} {pos : String} {af : Array Edge} {g : Option (Nat × Bool)}
theorem pop_and32 [Tracks] {x y : Operand} {t t' : TypeId} {m : Int} (hx : evalO e x = some (.int .u64 m)) (hy : evalO e y = some (.int .u64 4294967295)) (h0 : 0 ≤ m) (h1 : m < 18446744073709551616) :
 POp P e ⟨dst, .binOp .and t x y t', ty, pos, af, g⟩ (.int .u64 (m % 4294967296)) :=
 POp.of_val fun I a w ho => ⟨.int .u64 (m % 4294967296), by
  have g1 := (ho.one (x := x) (by simp [Op.operands]) hx).int_inv
  have g2 := (ho.one (x := y) (by simp [Op.operands]) hy).int_inv
  have g3 := and32 h0 h1
  simp [execOp, g1, g2, eqGuard, binOp, Op.intBits]
  simpa using g3, .int _ _⟩
theorem wrapu {n : Int} (h1 : 0 ≤ n) (h2 : n < 18446744073709551616) : IntKind.wrap .u64 n = n := by
 simp [IntKind.wrap, IntKind.bits, IntKind.signed]; omega
theorem pop_addu [Tracks] {x y : Operand} {t t' : TypeId} {m n : Int} (hx : evalO e x = some (.int .u64 m)) (hy : evalO e y = some (.int .u64 n)) (h1 : 0 ≤ m + n) (h2 : m + n < 18446744073709551616) :
 POp P e ⟨dst, .binOp .add t x y t', ty, pos, af, g⟩ (.int .u64 (m + n)) := by
 have := pop_add (P := P) (dst := dst) (ty := ty) (pos := pos) (af := af) (g := g) (t := t) (t' := t') hx hy
 rwa [wrapu h1 h2] at this
theorem pop_mulu [Tracks] {x y : Operand} {t t' : TypeId} {m n : Int} (hx : evalO e x = some (.int .u64 m)) (hy : evalO e y = some (.int .u64 n)) (h1 : 0 ≤ m * n) (h2 : m * n < 18446744073709551616) :
 POp P e ⟨dst, .binOp .mul t x y t', ty, pos, af, g⟩ (.int .u64 (m * n)) := by
 have := pop_mul (P := P) (dst := dst) (ty := ty) (pos := pos) (af := af) (g := g) (t := t) (t' := t') hx hy
 rwa [wrapu h1 h2] at this
theorem pop_mullo [Tracks] {x y : Operand} {t t' : TypeId} {m n : Int} (hx : evalO e x = some (.int .u64 m)) (hy : evalO e y = some (.int .u64 n)) :
 POp P e ⟨dst, .binOp .mul t x y t', ty, pos, af, g⟩ (.int .u64 (loW (m * n))) := by
 have := pop_mul (P := P) (dst := dst) (ty := ty) (pos := pos) (af := af) (g := g) (t := t) (t' := t') hx hy
 have e : IntKind.wrap .u64 (m * n) = loW (m * n) := by unfold loW; simp [IntKind.wrap, IntKind.bits, IntKind.signed]
 rwa [e] at this
theorem pop_shr32 [Tracks] {x y : Operand} {t t' : TypeId} {m : Int} {k' : IntKind} (hx : evalO e x = some (.int .u64 m)) (hy : evalO e y = some (.int k' 32)) :
 POp P e ⟨dst, .binOp .shr t x y t', ty, pos, af, g⟩ (.int .u64 (m / 4294967296)) := by
 have := pop_shr (P := P) (dst := dst) (ty := ty) (pos := pos) (af := af) (g := g) (t := t) (t' := t') hx hy (by decide)
 have e : m.fdiv (2 ^ min (32 : Int).toNat IntKind.u64.bits) = m / 4294967296 := by
  show m.fdiv 4294967296 = _
  exact (Int.fdiv_eq_ediv_of_nonneg m (by decide))
 rwa [e] at this
end
/-- The halves of a product of two small numbers. -/
def half0 (m : Int) : Int := m % 4294967296
def half1 (m : Int) : Int := m / 4294967296
theorem m_bd {m : Int} (h0 : 0 ≤ m) (h1 : m < 1099511627776) : (0 ≤ half0 m ∧ half0 m < 4294967296) ∧ (0 ≤ half1 m ∧ half1 m < 256) ∧ m = half1 m * 4294967296 + half0 m := by unfold half0 half1; omega
theorem mul_bds {a b A B : Int} (ha : 0 ≤ a ∧ a < A) (hb : 0 ≤ b ∧ b < B) : 0 ≤ a * b ∧ a * b ≤ (A - 1) * (B - 1) := ⟨Int.mul_nonneg ha.1 hb.1, Int.mul_le_mul (by omega) (by omega) hb.1 (by omega)⟩
theorem mul64_split {m n : Int} (hm : m = half1 m * 4294967296 + half0 m) (hn : n = half1 n * 4294967296 + half0 n) : m * n = half1 m * half1 n * 18446744073709551616 + (half1 m * half0 n + half0 m * half1 n) * 4294967296 + half0 m * half0 n := by
 conv => lhs; rw [hm, hn]
 generalize half1 m = a; generalize half1 n = b; generalize half0 m = c; generalize half0 n = d
 simp only [Int.mul_add, Int.add_mul]
 have e1 : a * 4294967296 * (b * 4294967296) = a * b * 18446744073709551616 := by rw [Int.mul_assoc, Int.mul_left_comm 4294967296, Int.mul_assoc a b]; rfl
 have e2 : c * (b * 4294967296) = c * b * 4294967296 := (Int.mul_assoc _ _ _).symm
 have e3 : a * 4294967296 * d = a * d * 4294967296 := Int.mul_right_comm _ _ _
 rw [e1, e2, e3]; omega
theorem mul64_hi {m n : Int} (hm0 : 0 ≤ m) (hm : m < 1099511627776) (hn0 : 0 ≤ n) (hn : n < 1099511627776) :
 half1 m * half1 n + (half1 m * half0 n + half0 m * half0 n / 4294967296) / 4294967296 + ((half1 m * half0 n + half0 m * half0 n / 4294967296) % 4294967296 + half0 m * half1 n) / 4294967296 = hiW (m * n) := by
 have a := m_bd hm0 hm
 have b := m_bd hn0 hn
 have e := mul64_split a.2.2 b.2.2
 have h1 := mul_bds a.1 b.1
 have h2 := mul_bds a.1 b.2.1
 have h3 := mul_bds a.2.1 b.1
 unfold hiW
 rw [e]
 generalize half1 m * half1 n = p at *
 generalize half1 m * half0 n = q at *
 generalize half0 m * half1 n = r at *
 generalize half0 m * half0 n = s at *
 omega
end Go.HL
end
section
namespace Go.Proofs.YtbihpphgoaflfaaGreatDoor
open Go.HL
set_option maxRecDepth 100000
set_option linter.unusedVariables false
set_option linter.unusedSimpArgs false
set_option maxHeartbeats 1000000 in
/-- benchwarmer/value.CheckHopes -/
theorem c_value_CheckHopes [Tracks] {h : List HopeS} (hl : h.length ≤ 1000000) (ho : ∀ x ∈ h, x.Outs.length ≤ 1000000) : ConP Tryz.prog 11 [eHopes h] (.int .i64 (hopesE h)) := by
 refine Con.of_body Tryz.func11 rfl Tryz.ntmps11 rfl rfl ?_
 refine hw_reg ?_
 refine dp rfl (pop_assign rfl) ?_
 refine dn ?_
 refine hw_seq ?_
 refine hw_reg ?_
 refine dp rfl (pop_move rfl) ?_
 refine dp rfl (pop_lenm ty26 rfl) ?_
 refine dp rfl (pop_gtr rfl rfl) ?_
 refine dn ?_
 refine hw_cond rfl (fun h1 => ?_) (fun h2 => ?_)
 ·try simp at h1
  refine hw_reg ?_
  refine dp rfl (pop_assign rfl) ?_
  refine dn ?_
  refine hw_ret ?_
  refine ret_p rfl ?_
  show HVal.int .i64 _ = _
  first
  | (rw [hopesE, if_pos (by omega)]; done)
  | (show HVal.int .i64 5 = _; rw [hg, hopesGo_stop (hopeF_5 (by simp_all; done)) (by decide)]; done)
  | (show HVal.int .i64 8 = _; rw [hg, hopesGo_stop (hopeF_8 (by simp_all; done) (by simp_all [leS]; done) (by simp_all; done)) (by decide)]; done)
  | (show HVal.int .i64 2 = _; rw [hg, hopesGo_stop (hopeF_2 (by simp_all; done) (by simp_all [leS]; done) (by simp_all; done) (by omega)) (by decide)]; done)
  | (show HVal.int .i64 1 = _; rw [hg, hopesGo_stop (c := 1) (by rw [hgo, hi1, outsGo_1 (by simp_all [outB]; done)]) (by decide)]; done)
  | (show HVal.int .i64 7 = _; have q := hi1; rw [hg, hopesGo_stop (c := 7) (by rw [hgo, hi1, outsGo_7 (by simp_all [outB]; done) (by simp_all; done)]) (by decide)]; done)
  | (show HVal.int .i64 7 = _; rw [hg, hopesGo_stop (hopeF_7 (by simp_all; done) (by simp_all [leS]; done)) (by decide)]; done)
  | (rw [hg]; rfl)
 ·try simp at h2
  refine hw_skip ?_
  refine seqQ_n ?_
  refine hw_seq ?_
  refine hw_reg ?_
  refine dp rfl (pop_move rfl) ?_
  refine dp rfl (pop_lenm ty26 rfl) ?_
  refine dp rfl (pop_move rfl) ?_
  refine dn ?_
  refine hw_block ?_
  refine hw_loopw (2 :: 3 :: 4 :: 5 :: 6 :: 12 :: 13 :: 14 :: 15 :: 16 :: 17 :: 18 :: 19 :: 20 :: 21 :: 22 :: 23 :: 24 :: 25 :: 26 :: 27 :: 28 :: 29 :: 30 :: 31 :: 32 :: 33 :: 34 :: 35 :: 36 :: 37 :: 38 :: 39 :: 40 :: 41 :: 42 :: 43 :: 44 :: 45 :: 46 :: 47 :: 48 :: 49 :: 50 :: 51 :: 52 :: 53 :: 54 :: 55 :: 56 :: 57 :: 58 :: 59 :: 60 :: 61 :: 62 :: 63 :: 64 :: 65 :: 66 :: 67 :: 68 :: 69 :: 70 :: 71 :: 72 :: 73 :: 74 :: 75 :: 76 :: 77 :: []) (fun (k : Nat) => [(12, .int .i64 k)]) (fun (k : Nat) => []) (fun (k : Nat) => k ≤ h.length ∧ (hopesE h = hopesGo h k (h.drop k))) (fun (k : Nat) => h.length - k) (0) ?_ ?_ ?_ ?_
  ·refine ⟨Nat.zero_le _, ?_⟩
   rw [hopesE, if_neg (by omega)]; rfl
  ·exact ⟨rfl, trivial⟩
  ·exact List.Perm.refl _
  ·intro k hinv
   obtain ⟨hk, hg⟩ := hinv
   refine hw_reg ?_
   refine dp rfl (pop_lss rfl rfl) ?_
   refine dn ?_
   refine hw_seq ?_
   refine hw_cond rfl (fun h3 => ?_) (fun h4 => ?_)
   ·try simp at h3
    obtain ⟨x, hx⟩ : ∃ x, h[k]? = some x := ⟨_, List.getElem?_eq_getElem h3⟩
    have hdx := drop_cons hx
    rw [hdx] at hg
    have hox := ho x (List.mem_of_getElem? hx)
    refine hw_skip ?_
    refine seqQ_n ?_
    refine hw_seq ?_
    refine hw_block ?_
    refine hw_reg ?_
    refine dp rfl (pop_move rfl) ?_
    refine dp rfl (pop_idx ty26 ty49 rfl rfl rfl (by first | assumption | simp_all)) ?_
    refine dp rfl (pop_loadw ty49 rfl rfl rfl rfl) ?_
    refine de rfl (eop_alloc ty49 rfl fun b4 => ?_)
    refine dp rfl (pop_assign rfl) ?_
    refine de0 (eop_storew ty49 rfl rfl rfl rfl rfl ?_)
    refine dn ?_
    refine hw_ghost (Ghost.fc0 4 rfl) ?_
    refine hw_seq ?_
    refine hw_block ?_
    refine hw_reg ?_
    refine dp rfl (pop_fieldAddr ty49 rfl ty9 (by decide) rfl) ?_
    refine dp rfl (pop_load ty9 rfl rfl rfl) ?_
    refine dp rfl (pop_call ca37 rfl (WeakL.refl _) c_base_Key) ?_
    refine dp rfl (pop_not rfl) ?_
    refine dp rfl (pop_assign rfl) ?_
    refine dn ?_
    refine hw_cond rfl (fun h5 => ?_) (fun h6 => ?_)
    ·try simp at h5
     refine hw_reg ?_
     refine dp rfl (pop_assign rfl) ?_
     refine dn ?_
     refine hw_ret ?_
     refine ret_p rfl ?_
     show HVal.int .i64 _ = _
     first
     | (rw [hopesE, if_pos (by omega)]; done)
     | (show HVal.int .i64 5 = _; rw [hg, hopesGo_stop (hopeF_5 (by simp_all; done)) (by decide)]; done)
     | (show HVal.int .i64 8 = _; rw [hg, hopesGo_stop (hopeF_8 (by simp_all; done) (by simp_all [leS]; done) (by simp_all; done)) (by decide)]; done)
     | (show HVal.int .i64 2 = _; rw [hg, hopesGo_stop (hopeF_2 (by simp_all; done) (by simp_all [leS]; done) (by simp_all; done) (by omega)) (by decide)]; done)
     | (show HVal.int .i64 1 = _; rw [hg, hopesGo_stop (c := 1) (by rw [hgo, hi1, outsGo_1 (by simp_all [outB]; done)]) (by decide)]; done)
     | (show HVal.int .i64 7 = _; have q := hi1; rw [hg, hopesGo_stop (c := 7) (by rw [hgo, hi1, outsGo_7 (by simp_all [outB]; done) (by simp_all; done)]) (by decide)]; done)
     | (show HVal.int .i64 7 = _; rw [hg, hopesGo_stop (hopeF_7 (by simp_all; done) (by simp_all [leS]; done)) (by decide)]; done)
     | (rw [hg]; rfl)
    ·try simp at h6
     refine hw_draw (fun _ => True) [] mixed ?_
     refine ahp 0 rfl rfl (by kernel_rfl) (by kernel_rfl) (pop_move rfl) ?_
     refine ahp 1 rfl rfl (by kernel_rfl) (by kernel_rfl) (pop_gtr rfl rfl) ?_
     refine ahp 2 rfl rfl (by kernel_rfl) (by kernel_rfl) (pop_move rfl) ?_
     refine ahg 3 rfl rfl (by kernel_rfl) (by kernel_rfl) rfl (fun hc => ⟨_, OpenTo.refl _, pop_fieldAddr ty49 rfl ty9 (by decide) rfl⟩) ?_
     refine ahg 4 rfl rfl (by kernel_rfl) (by kernel_rfl) rfl (fun hc => ⟨_, OpenTo.upd (t := 26) rfl (by first | exact hc | simp_all) (OpenTo.refl _), pop_load ty9 rfl rfl rfl⟩) ?_
     refine ahg 5 rfl rfl (by kernel_rfl) (by kernel_rfl) rfl (fun hc => ⟨_, OpenTo.refl _, pop_move rfl⟩) ?_
     refine ahg 6 rfl rfl (by kernel_rfl) (by kernel_rfl) rfl (fun hc => ⟨_, OpenTo.refl _, pop_move rfl⟩) ?_
     refine ahg 7 rfl rfl (by kernel_rfl) (by kernel_rfl) rfl (fun hc => by have hq := hc; (try simp at hq); exact ⟨_, OpenTo.upd (t := 29) rfl (by first | exact hc | simp_all) (OpenTo.refl _), pop_sub64 rfl rfl (by omega) (by omega)⟩) ?_
     refine ahg 8 rfl rfl (by kernel_rfl) (by kernel_rfl) rfl (fun hc => by have hq := hc; (try simp at hq); exact ⟨_, OpenTo.upd (t := 30) rfl (by first | exact hc | simp_all) (OpenTo.upd (t := 28) rfl (by first | exact hc | simp_all) (OpenTo.refl _)), pop_idx (j := k - 1) (a := h.getD (k - 1) hope0) ty26 ty49 rfl rfl (by omega) (getD_some (by omega))⟩) ?_
     refine ahg 9 rfl rfl (by kernel_rfl) (by kernel_rfl) rfl (fun hc => ⟨_, OpenTo.upd (t := 31) rfl (by first | exact hc | simp_all) (OpenTo.refl _), pop_fieldAddr ty49 rfl ty9 (by decide) rfl⟩) ?_
     refine ahg 10 rfl rfl (by kernel_rfl) (by kernel_rfl) rfl (fun hc => ⟨_, OpenTo.upd (t := 32) rfl (by first | exact hc | simp_all) (OpenTo.refl _), pop_load ty9 rfl rfl rfl⟩) ?_
     refine ahg 11 rfl rfl (by kernel_rfl) (by kernel_rfl) rfl (fun hc => ⟨_, OpenTo.upd (t := 33) rfl (by first | exact hc | simp_all) (OpenTo.upd (t := 27) rfl (by first | exact hc | simp_all) (OpenTo.refl _)), pop_leqs rfl rfl⟩) ?_
     refine ahp 12 rfl rfl (by kernel_rfl) (by kernel_rfl) (pop_picko rfl (.inr ⟨_, rfl, fun h => by simp_all⟩) (.inl rfl)) ?_
     refine ahp 13 rfl rfl (by kernel_rfl) (by kernel_rfl) (pop_assign rfl) ?_
     refine ahz (by kernel_rfl) ?_
     refine hw_cond rfl (fun h7 => ?_) (fun h8 => ?_)
     ·try simp at h7
      refine hw_reg ?_
      refine dp rfl (pop_assign rfl) ?_
      refine dn ?_
      refine hw_ret ?_
      refine ret_p rfl ?_
      show HVal.int .i64 _ = _
      first
      | (rw [hopesE, if_pos (by omega)]; done)
      | (show HVal.int .i64 5 = _; rw [hg, hopesGo_stop (hopeF_5 (by simp_all; done)) (by decide)]; done)
      | (show HVal.int .i64 8 = _; rw [hg, hopesGo_stop (hopeF_8 (by simp_all; done) (by simp_all [leS]; done) (by simp_all; done)) (by decide)]; done)
      | (show HVal.int .i64 2 = _; rw [hg, hopesGo_stop (hopeF_2 (by simp_all; done) (by simp_all [leS]; done) (by simp_all; done) (by omega)) (by decide)]; done)
      | (show HVal.int .i64 1 = _; rw [hg, hopesGo_stop (c := 1) (by rw [hgo, hi1, outsGo_1 (by simp_all [outB]; done)]) (by decide)]; done)
      | (show HVal.int .i64 7 = _; have q := hi1; rw [hg, hopesGo_stop (c := 7) (by rw [hgo, hi1, outsGo_7 (by simp_all [outB]; done) (by simp_all; done)]) (by decide)]; done)
      | (show HVal.int .i64 7 = _; rw [hg, hopesGo_stop (hopeF_7 (by simp_all; done) (by simp_all [leS]; done)) (by decide)]; done)
      | (rw [hg]; rfl)
     ·try simp at h8
      refine hw_reg ?_
      refine dp rfl (pop_fieldAddr ty49 rfl ty37 (by decide) rfl) ?_
      refine dp rfl (pop_load ty37 rfl rfl rfl) ?_
      refine dp rfl (pop_lenm ty37 rfl) ?_
      refine dp rfl (pop_eql rfl rfl) ?_
      refine dp rfl (pop_assign rfl) ?_
      refine dn ?_
      refine hw_cond rfl (fun h9 => ?_) (fun h10 => ?_)
      ·try simp at h9
       refine hw_reg ?_
       refine dp rfl (pop_assign rfl) ?_
       refine dn ?_
       refine hw_ret ?_
       refine ret_p rfl ?_
       show HVal.int .i64 _ = _
       first
       | (rw [hopesE, if_pos (by omega)]; done)
       | (show HVal.int .i64 5 = _; rw [hg, hopesGo_stop (hopeF_5 (by simp_all; done)) (by decide)]; done)
       | (show HVal.int .i64 8 = _; rw [hg, hopesGo_stop (hopeF_8 (by simp_all; done) (by simp_all [leS]; done) (by simp_all; done)) (by decide)]; done)
       | (show HVal.int .i64 2 = _; rw [hg, hopesGo_stop (hopeF_2 (by simp_all; done) (by simp_all [leS]; done) (by simp_all; done) (by omega)) (by decide)]; done)
       | (show HVal.int .i64 1 = _; rw [hg, hopesGo_stop (c := 1) (by rw [hgo, hi1, outsGo_1 (by simp_all [outB]; done)]) (by decide)]; done)
       | (show HVal.int .i64 7 = _; have q := hi1; rw [hg, hopesGo_stop (c := 7) (by rw [hgo, hi1, outsGo_7 (by simp_all [outB]; done) (by simp_all; done)]) (by decide)]; done)
       | (show HVal.int .i64 7 = _; rw [hg, hopesGo_stop (hopeF_7 (by simp_all; done) (by simp_all [leS]; done)) (by decide)]; done)
       | (rw [hg]; rfl)
      ·try simp at h10
       refine hw_reg ?_
       refine dp rfl (pop_fieldAddr ty49 rfl ty37 (by decide) rfl) ?_
       refine dp rfl (pop_load ty37 rfl rfl rfl) ?_
       refine dp rfl (pop_lenm ty37 rfl) ?_
       refine dp rfl (pop_gtr rfl rfl) ?_
       refine dp rfl (pop_assign rfl) ?_
       refine dn ?_
       refine hw_cond rfl (fun h11 => ?_) (fun h12 => ?_)
       ·try simp at h11
        refine hw_reg ?_
        refine dp rfl (pop_assign rfl) ?_
        refine dn ?_
        refine hw_ret ?_
        refine ret_p rfl ?_
        show HVal.int .i64 _ = _
        first
        | (rw [hopesE, if_pos (by omega)]; done)
        | (show HVal.int .i64 5 = _; rw [hg, hopesGo_stop (hopeF_5 (by simp_all; done)) (by decide)]; done)
        | (show HVal.int .i64 8 = _; rw [hg, hopesGo_stop (hopeF_8 (by simp_all; done) (by simp_all [leS]; done) (by simp_all; done)) (by decide)]; done)
        | (show HVal.int .i64 2 = _; rw [hg, hopesGo_stop (hopeF_2 (by simp_all; done) (by simp_all [leS]; done) (by simp_all; done) (by omega)) (by decide)]; done)
        | (show HVal.int .i64 1 = _; rw [hg, hopesGo_stop (c := 1) (by rw [hgo, hi1, outsGo_1 (by simp_all [outB]; done)]) (by decide)]; done)
        | (show HVal.int .i64 7 = _; have q := hi1; rw [hg, hopesGo_stop (c := 7) (by rw [hgo, hi1, outsGo_7 (by simp_all [outB]; done) (by simp_all; done)]) (by decide)]; done)
        | (show HVal.int .i64 7 = _; rw [hg, hopesGo_stop (hopeF_7 (by simp_all; done) (by simp_all [leS]; done)) (by decide)]; done)
        | (rw [hg]; rfl)
       ·try simp at h12
        refine hw_skip ?_
        refine blockQ_n ?_
        refine seqQ_n ?_
        have hgo : hopeF h k x = outsGo x.Outs 0 x.Outs := hopeF_go (by simp_all) (by simp_all [leS]) (by simp_all) (by omega)
        refine hw_reg ?_
        refine dp rfl (pop_fieldAddr ty49 rfl ty37 (by decide) rfl) ?_
        refine dp rfl (pop_load ty37 rfl rfl rfl) ?_
        refine dp rfl (pop_lenm ty37 rfl) ?_
        refine dp rfl (pop_move rfl) ?_
        refine dn ?_
        refine hw_block ?_
        refine hw_loopw [2, 5, 6, 49, 50, 51, 52, 53, 54, 55, 56, 57, 58, 59, 60, 61, 62, 63, 64, 65, 66, 67, 68, 69, 70, 71, 72, 73, 74, 75, 76] (fun (i : Nat) => [(49, .int .i64 i)]) (fun (i : Nat) => []) (fun (i : Nat) => i ≤ x.Outs.length ∧ (outsGo x.Outs 0 x.Outs = outsGo x.Outs i (x.Outs.drop i))) (fun (i : Nat) => x.Outs.length - i) (0) ?_ ?_ ?_ ?_
        ·exact ⟨Nat.zero_le _, rfl⟩
        ·exact ⟨rfl, trivial⟩
        ·exact List.Perm.refl _
        ·intro i hinv
         obtain ⟨hi, hi1⟩ := hinv
         refine hw_reg ?_
         refine dp rfl (pop_lss rfl rfl) ?_
         refine dn ?_
         refine hw_seq ?_
         refine hw_cond rfl (fun h13 => ?_) (fun h14 => ?_)
         ·try simp at h13
          obtain ⟨y, hy⟩ : ∃ y, x.Outs[i]? = some y := ⟨_, List.getElem?_eq_getElem h13⟩
          have hdy := drop_cons hy
          rw [hdy] at hi1
          refine hw_skip ?_
          refine seqQ_n ?_
          refine hw_seq ?_
          refine hw_block ?_
          refine hw_reg ?_
          refine dp rfl (pop_move rfl) ?_
          refine dp rfl (pop_idx ty37 ty44 rfl rfl rfl (by first | assumption | simp_all)) ?_
          refine dp rfl (pop_loadw ty44 rfl rfl rfl rfl) ?_
          refine de rfl (eop_alloc ty44 rfl fun b6 => ?_)
          refine dp rfl (pop_assign rfl) ?_
          refine de0 (eop_storew ty44 rfl rfl rfl rfl rfl ?_)
          refine dn ?_
          refine hw_ghost (Ghost.fc0 6 rfl) ?_
          refine hw_seq ?_
          refine hw_reg ?_
          refine dp rfl (pop_fieldAddr ty44 rfl ty3 (by decide) rfl) ?_
          refine dp rfl (pop_load ty3 rfl rfl rfl) ?_
          refine dp rfl (pop_call ca38 rfl (WeakL.refl _) c_base_Out) ?_
          refine dp rfl (pop_move rfl) ?_
          refine dg rfl rfl (fun hc => ⟨_, OpenTo.refl _, pop_fieldAddr ty44 rfl ty3 (by decide) rfl⟩) ?_
          refine dg rfl rfl (fun hc => ⟨_, OpenTo.upd (t := 58) rfl (by first | exact hc | simp_all) (OpenTo.refl _), pop_load ty3 rfl rfl rfl⟩) ?_
          refine dg rfl rfl (fun hc => ⟨_, OpenTo.upd (t := 59) rfl (by first | exact hc | simp_all) (OpenTo.refl _), pop_call ca38 rfl (WeakL.refl _) c_base_Out⟩) ?_
          refine dp rfl (pop_picko rfl (.inl rfl) (.inr ⟨_, rfl, fun h => by simp_all⟩)) ?_
          refine dn ?_
          refine hw_cond rfl (fun h15 => ?_) (fun h16 => ?_)
          ·try simp at h15
           refine hw_reg ?_
           refine dp rfl (pop_assign rfl) ?_
           refine dn ?_
           refine hw_ret ?_
           refine ret_p rfl ?_
           show HVal.int .i64 _ = _
           first
           | (rw [hopesE, if_pos (by omega)]; done)
           | (show HVal.int .i64 5 = _; rw [hg, hopesGo_stop (hopeF_5 (by simp_all; done)) (by decide)]; done)
           | (show HVal.int .i64 8 = _; rw [hg, hopesGo_stop (hopeF_8 (by simp_all; done) (by simp_all [leS]; done) (by simp_all; done)) (by decide)]; done)
           | (show HVal.int .i64 2 = _; rw [hg, hopesGo_stop (hopeF_2 (by simp_all; done) (by simp_all [leS]; done) (by simp_all; done) (by omega)) (by decide)]; done)
           | (show HVal.int .i64 1 = _; rw [hg, hopesGo_stop (c := 1) (by rw [hgo, hi1, outsGo_1 (by simp_all [outB]; done)]) (by decide)]; done)
           | (show HVal.int .i64 7 = _; have q := hi1; rw [hg, hopesGo_stop (c := 7) (by rw [hgo, hi1, outsGo_7 (by simp_all [outB]; done) (by simp_all; done)]) (by decide)]; done)
           | (show HVal.int .i64 7 = _; rw [hg, hopesGo_stop (hopeF_7 (by simp_all; done) (by simp_all [leS]; done)) (by decide)]; done)
           | (rw [hg]; rfl)
          ·try simp at h16
           refine hw_skip ?_
           refine seqQ_n ?_
           refine hw_draw (fun _ => True) [] mixed ?_
           refine ahp 0 rfl rfl (by kernel_rfl) (by kernel_rfl) (pop_move rfl) ?_
           refine ahp 1 rfl rfl (by kernel_rfl) (by kernel_rfl) (pop_gtr rfl rfl) ?_
           refine ahp 2 rfl rfl (by kernel_rfl) (by kernel_rfl) (pop_move rfl) ?_
           refine ahg 3 rfl rfl (by kernel_rfl) (by kernel_rfl) rfl (fun hc => ⟨_, OpenTo.refl _, pop_fieldAddr ty44 rfl ty3 (by decide) rfl⟩) ?_
           refine ahg 4 rfl rfl (by kernel_rfl) (by kernel_rfl) rfl (fun hc => ⟨_, OpenTo.upd (t := 65) rfl (by first | exact hc | simp_all) (OpenTo.refl _), pop_load ty3 rfl rfl rfl⟩) ?_
           refine ahg 5 rfl rfl (by kernel_rfl) (by kernel_rfl) rfl (fun hc => ⟨_, OpenTo.refl _, pop_fieldAddr ty49 rfl ty37 (by decide) rfl⟩) ?_
           refine ahg 6 rfl rfl (by kernel_rfl) (by kernel_rfl) rfl (fun hc => ⟨_, OpenTo.upd (t := 67) rfl (by first | exact hc | simp_all) (OpenTo.refl _), pop_load ty37 rfl rfl rfl⟩) ?_
           refine ahg 7 rfl rfl (by kernel_rfl) (by kernel_rfl) rfl (fun hc => ⟨_, OpenTo.refl _, pop_move rfl⟩) ?_
           refine ahg 8 rfl rfl (by kernel_rfl) (by kernel_rfl) rfl (fun hc => by have hq := hc; (try simp at hq); exact ⟨_, OpenTo.upd (t := 69) rfl (by first | exact hc | simp_all) (OpenTo.refl _), pop_sub64 rfl rfl (by omega) (by omega)⟩) ?_
           refine ahg 9 rfl rfl (by kernel_rfl) (by kernel_rfl) rfl (fun hc => by have hq := hc; (try simp at hq); exact ⟨_, OpenTo.upd (t := 70) rfl (by first | exact hc | simp_all) (OpenTo.upd (t := 68) rfl (by first | exact hc | simp_all) (OpenTo.refl _)), pop_idx (j := i - 1) (a := x.Outs.getD (i - 1) out0) ty37 ty44 rfl rfl (by omega) (getD_some (by omega))⟩) ?_
           refine ahg 10 rfl rfl (by kernel_rfl) (by kernel_rfl) rfl (fun hc => ⟨_, OpenTo.upd (t := 71) rfl (by first | exact hc | simp_all) (OpenTo.refl _), pop_fieldAddr ty44 rfl ty3 (by decide) rfl⟩) ?_
           refine ahg 11 rfl rfl (by kernel_rfl) (by kernel_rfl) rfl (fun hc => ⟨_, OpenTo.upd (t := 72) rfl (by first | exact hc | simp_all) (OpenTo.refl _), pop_load ty3 rfl rfl rfl⟩) ?_
           refine ahg 12 rfl rfl (by kernel_rfl) (by kernel_rfl) rfl (fun hc => ⟨_, OpenTo.upd (t := 73) rfl (by first | exact hc | simp_all) (OpenTo.upd (t := 66) rfl (by first | exact hc | simp_all) (OpenTo.refl _)), pop_leq rfl rfl⟩) ?_
           refine ahp 13 rfl rfl (by kernel_rfl) (by kernel_rfl) (pop_picko rfl (.inr ⟨_, rfl, fun h => by simp_all⟩) (.inl rfl)) ?_
           refine ahz (by kernel_rfl) ?_
           refine hw_cond rfl (fun h17 => ?_) (fun h18 => ?_)
           ·try simp at h17
            refine hw_reg ?_
            refine dp rfl (pop_assign rfl) ?_
            refine dn ?_
            refine hw_ret ?_
            refine ret_p rfl ?_
            show HVal.int .i64 _ = _
            first
            | (rw [hopesE, if_pos (by omega)]; done)
            | (show HVal.int .i64 5 = _; rw [hg, hopesGo_stop (hopeF_5 (by simp_all; done)) (by decide)]; done)
            | (show HVal.int .i64 8 = _; rw [hg, hopesGo_stop (hopeF_8 (by simp_all; done) (by simp_all [leS]; done) (by simp_all; done)) (by decide)]; done)
            | (show HVal.int .i64 2 = _; rw [hg, hopesGo_stop (hopeF_2 (by simp_all; done) (by simp_all [leS]; done) (by simp_all; done) (by omega)) (by decide)]; done)
            | (show HVal.int .i64 1 = _; rw [hg, hopesGo_stop (c := 1) (by rw [hgo, hi1, outsGo_1 (by simp_all [outB]; done)]) (by decide)]; done)
            | (show HVal.int .i64 7 = _; have q := hi1; rw [hg, hopesGo_stop (c := 7) (by rw [hgo, hi1, outsGo_7 (by simp_all [outB]; done) (by simp_all; done)]) (by decide)]; done)
            | (show HVal.int .i64 7 = _; rw [hg, hopesGo_stop (hopeF_7 (by simp_all; done) (by simp_all [leS]; done)) (by decide)]; done)
            | (rw [hg]; rfl)
           ·try simp at h18
            refine hw_skip ?_
            refine blockQ_n ?_
            refine seqQ_n ?_
            refine hw_reg1 ?_
            refine dp rfl (pop_add64 rfl rfl (by omega) (by omega)) ?_
            refine dp rfl (pop_move rfl) ?_
            refine dn ?_
            refine ⟨i + 1, ?_, ?_, ⟨rfl, trivial⟩, (by repeat (first | exact keeps_refl | refine keeps_upd rfl ?_ | refine keeps_loop rfl rfl ?_)), List.Perm.refl _⟩
            ·refine ⟨by omega, ?_⟩
             rw [hi1, outsGo_go (by simp_all [outB]) (by simp_all)]
            ·dsimp only; omega
         ·try simp at h14
          have hni : x.Outs.length ≤ i := by omega
          obtain rfl : i = x.Outs.length := by omega
          rw [drop_all (Nat.le_refl _)] at hi1
          refine hw_exit ?_
          refine seqQ_x ?_
          refine loopQ_x ?_
          refine blockQ_eq ?_
          refine blockQ_n ?_
          refine seqQ_n ?_
          refine hw_reg1 ?_
          refine dp rfl (pop_add64 rfl rfl (by omega) (by omega)) ?_
          refine dp rfl (pop_move rfl) ?_
          refine dn ?_
          refine ⟨k + 1, ?_, ?_, ⟨rfl, trivial⟩, (by repeat (first | exact keeps_refl | refine keeps_upd rfl ?_ | refine keeps_loop rfl rfl ?_)), List.Perm.refl _⟩
          ·refine ⟨by omega, ?_⟩
           rw [hg, hopesGo_go (by rw [hgo, hi1]; rfl)]
          ·dsimp only; omega
   ·try simp at h4
    have hnk : h.length ≤ k := by omega
    obtain rfl : k = h.length := by omega
    rw [drop_all (Nat.le_refl _)] at hg
    refine hw_exit ?_
    refine seqQ_x ?_
    refine loopQ_x ?_
    refine blockQ_eq ?_
    refine seqQ_n ?_
    refine hw_reg ?_
    refine dp rfl (pop_assign rfl) ?_
    refine dn ?_
    refine hw_ret ?_
    refine ret_p rfl ?_
    show HVal.int .i64 _ = _
    first
    | (rw [hopesE, if_pos (by omega)]; done)
    | (show HVal.int .i64 5 = _; rw [hg, hopesGo_stop (hopeF_5 (by simp_all; done)) (by decide)]; done)
    | (show HVal.int .i64 8 = _; rw [hg, hopesGo_stop (hopeF_8 (by simp_all; done) (by simp_all [leS]; done) (by simp_all; done)) (by decide)]; done)
    | (show HVal.int .i64 2 = _; rw [hg, hopesGo_stop (hopeF_2 (by simp_all; done) (by simp_all [leS]; done) (by simp_all; done) (by omega)) (by decide)]; done)
    | (show HVal.int .i64 1 = _; rw [hg, hopesGo_stop (c := 1) (by rw [hgo, hi1, outsGo_1 (by simp_all [outB]; done)]) (by decide)]; done)
    | (show HVal.int .i64 7 = _; have q := hi1; rw [hg, hopesGo_stop (c := 7) (by rw [hgo, hi1, outsGo_7 (by simp_all [outB]; done) (by simp_all; done)]) (by decide)]; done)
    | (show HVal.int .i64 7 = _; rw [hg, hopesGo_stop (hopeF_7 (by simp_all; done) (by simp_all [leS]; done)) (by decide)]; done)
    | (rw [hg]; rfl)

set_option maxHeartbeats 1000000 in
/-- benchwarmer/benchref1.HopesFault -/
theorem c_benchref1_HopesFault [Tracks] {h : List HopeS} (hl : h.length ≤ 1000000) (ho : ∀ x ∈ h, x.Outs.length ≤ 1000000) (hs : ∀ x ∈ h, Sh x.Player) : ConP Tryz.prog 10 [eHopes h] (.int .i64 (hopesE h)) := by
 refine Con.of_body Tryz.func10 rfl Tryz.ntmps10 rfl rfl ?_
 refine hw_reg ?_
 refine dp rfl (pop_assign rfl) ?_
 refine dn ?_
 refine hw_seq ?_
 refine hw_reg ?_
 refine dp rfl (pop_move rfl) ?_
 refine dp rfl (pop_lenm ty26 rfl) ?_
 refine dp rfl (pop_gtr rfl rfl) ?_
 refine dn ?_
 refine hw_cond rfl (fun h1 => ?_) (fun h2 => ?_)
 ·try simp at h1
  refine hw_reg ?_
  refine dp rfl (pop_assign rfl) ?_
  refine dn ?_
  refine hw_ret ?_
  refine ret_p rfl ?_
  show HVal.int .i64 _ = _
  first
  | (rw [hopesE, if_pos (by omega)]; done)
  | (show HVal.int .i64 5 = _; rw [hg, hopesGo_stop (hopeF_5 (by simp_all; done)) (by decide)]; done)
  | (show HVal.int .i64 8 = _; rw [hg, hopesGo_stop (hopeF_8 (by simp_all; done) (by simp_all [leS]; done) (by simp_all; done)) (by decide)]; done)
  | (show HVal.int .i64 2 = _; rw [hg, hopesGo_stop (hopeF_2 (by simp_all; done) (by simp_all [leS]; done) (by simp_all; done) (by omega)) (by decide)]; done)
  | (show HVal.int .i64 1 = _; rw [hg, hopesGo_stop (c := 1) (by rw [hgo, hi1, outsGo_1 (by simp_all [outB]; done)]) (by decide)]; done)
  | (show HVal.int .i64 7 = _; have q := hi1; rw [hg, hopesGo_stop (c := 7) (by rw [hgo, hi1, outsGo_7 (by simp_all [outB]; done) (by simp_all; done)]) (by decide)]; done)
  | (show HVal.int .i64 7 = _; rw [hg, hopesGo_stop (hopeF_7 (by simp_all; done) (by simp_all [leS]; done)) (by decide)]; done)
  | (rw [hg]; rfl)
 ·try simp at h2
  refine hw_skip ?_
  refine seqQ_n ?_
  refine hw_seq ?_
  refine hw_reg ?_
  refine dp rfl (pop_move rfl) ?_
  refine dp rfl (pop_lenm ty26 rfl) ?_
  refine dp rfl (pop_move rfl) ?_
  refine dn ?_
  refine hw_block ?_
  refine hw_loopw (2 :: 3 :: 4 :: 5 :: 6 :: 12 :: 13 :: 14 :: 15 :: 16 :: 17 :: 18 :: 19 :: 20 :: 21 :: 22 :: 23 :: 24 :: 25 :: 26 :: 27 :: 28 :: 29 :: 30 :: 31 :: 32 :: 33 :: 34 :: 35 :: 36 :: 37 :: 38 :: 39 :: 40 :: 41 :: 42 :: 43 :: 44 :: 45 :: 46 :: 47 :: 48 :: 49 :: 50 :: 51 :: 52 :: 53 :: 54 :: 55 :: 56 :: 57 :: 58 :: 59 :: 60 :: 61 :: 62 :: 63 :: 64 :: 65 :: 66 :: 67 :: 68 :: 69 :: 70 :: 71 :: 72 :: 73 :: 74 :: 75 :: 76 :: 77 :: 78 :: 79 :: 80 :: 81 :: []) (fun (k : Nat) => [(12, .int .i64 k)]) (fun (k : Nat) => []) (fun (k : Nat) => k ≤ h.length ∧ (hopesE h = hopesGo h k (h.drop k))) (fun (k : Nat) => h.length - k) (0) ?_ ?_ ?_ ?_
  ·refine ⟨Nat.zero_le _, ?_⟩
   rw [hopesE, if_neg (by omega)]; rfl
  ·exact ⟨rfl, trivial⟩
  ·exact List.Perm.refl _
  ·intro k hinv
   obtain ⟨hk, hg⟩ := hinv
   refine hw_reg ?_
   refine dp rfl (pop_lss rfl rfl) ?_
   refine dn ?_
   refine hw_seq ?_
   refine hw_cond rfl (fun h3 => ?_) (fun h4 => ?_)
   ·try simp at h3
    obtain ⟨x, hx⟩ : ∃ x, h[k]? = some x := ⟨_, List.getElem?_eq_getElem h3⟩
    have hdx := drop_cons hx
    rw [hdx] at hg
    have hox := ho x (List.mem_of_getElem? hx)
    refine hw_skip ?_
    refine seqQ_n ?_
    refine hw_seq ?_
    refine hw_block ?_
    refine hw_reg ?_
    refine dp rfl (pop_move rfl) ?_
    refine dp rfl (pop_idx ty26 ty49 rfl rfl rfl (by first | assumption | simp_all)) ?_
    refine dp rfl (pop_loadw ty49 rfl rfl rfl rfl) ?_
    refine de rfl (eop_alloc ty49 rfl fun b4 => ?_)
    refine dp rfl (pop_assign rfl) ?_
    refine de0 (eop_storew ty49 rfl rfl rfl rfl rfl ?_)
    refine dn ?_
    refine hw_ghost (Ghost.fc0 4 rfl) ?_
    refine hw_seq ?_
    refine hw_block ?_
    refine hw_reg ?_
    refine dp rfl (pop_fieldAddr ty49 rfl ty9 (by decide) rfl) ?_
    refine dp rfl (pop_load ty9 rfl rfl rfl) ?_
    refine dp rfl (pop_call ca35 rfl (WeakL.refl _) (c_benchref1_Key (hs x (List.mem_of_getElem? hx)))) ?_
    refine dp rfl (pop_not rfl) ?_
    refine dp rfl (pop_assign rfl) ?_
    refine dn ?_
    refine hw_cond rfl (fun h5 => ?_) (fun h6 => ?_)
    ·try simp at h5
     refine hw_reg ?_
     refine dp rfl (pop_assign rfl) ?_
     refine dn ?_
     refine hw_ret ?_
     refine ret_p rfl ?_
     show HVal.int .i64 _ = _
     first
     | (rw [hopesE, if_pos (by omega)]; done)
     | (show HVal.int .i64 5 = _; rw [hg, hopesGo_stop (hopeF_5 (by simp_all; done)) (by decide)]; done)
     | (show HVal.int .i64 8 = _; rw [hg, hopesGo_stop (hopeF_8 (by simp_all; done) (by simp_all [leS]; done) (by simp_all; done)) (by decide)]; done)
     | (show HVal.int .i64 2 = _; rw [hg, hopesGo_stop (hopeF_2 (by simp_all; done) (by simp_all [leS]; done) (by simp_all; done) (by omega)) (by decide)]; done)
     | (show HVal.int .i64 1 = _; rw [hg, hopesGo_stop (c := 1) (by rw [hgo, hi1, outsGo_1 (by simp_all [outB]; done)]) (by decide)]; done)
     | (show HVal.int .i64 7 = _; have q := hi1; rw [hg, hopesGo_stop (c := 7) (by rw [hgo, hi1, outsGo_7 (by simp_all [outB]; done) (by simp_all; done)]) (by decide)]; done)
     | (show HVal.int .i64 7 = _; rw [hg, hopesGo_stop (hopeF_7 (by simp_all; done) (by simp_all [leS]; done)) (by decide)]; done)
     | (rw [hg]; rfl)
    ·try simp at h6
     refine hw_draw (fun _ => True) [] mixed ?_
     refine ahp 0 rfl rfl (by kernel_rfl) (by kernel_rfl) (pop_move rfl) ?_
     refine ahp 1 rfl rfl (by kernel_rfl) (by kernel_rfl) (pop_gtr rfl rfl) ?_
     refine ahp 2 rfl rfl (by kernel_rfl) (by kernel_rfl) (pop_move rfl) ?_
     refine ahg 3 rfl rfl (by kernel_rfl) (by kernel_rfl) rfl (fun hc => ⟨_, OpenTo.refl _, pop_fieldAddr ty49 rfl ty9 (by decide) rfl⟩) ?_
     refine ahg 4 rfl rfl (by kernel_rfl) (by kernel_rfl) rfl (fun hc => ⟨_, OpenTo.upd (t := 26) rfl (by first | exact hc | simp_all) (OpenTo.refl _), pop_load ty9 rfl rfl rfl⟩) ?_
     refine ahg 5 rfl rfl (by kernel_rfl) (by kernel_rfl) rfl (fun hc => ⟨_, OpenTo.refl _, pop_move rfl⟩) ?_
     refine ahg 6 rfl rfl (by kernel_rfl) (by kernel_rfl) rfl (fun hc => ⟨_, OpenTo.refl _, pop_move rfl⟩) ?_
     refine ahg 7 rfl rfl (by kernel_rfl) (by kernel_rfl) rfl (fun hc => by have hq := hc; (try simp at hq); exact ⟨_, OpenTo.upd (t := 29) rfl (by first | exact hc | simp_all) (OpenTo.refl _), pop_sub64 rfl rfl (by omega) (by omega)⟩) ?_
     refine ahg 8 rfl rfl (by kernel_rfl) (by kernel_rfl) rfl (fun hc => by have hq := hc; (try simp at hq); exact ⟨_, OpenTo.upd (t := 30) rfl (by first | exact hc | simp_all) (OpenTo.upd (t := 28) rfl (by first | exact hc | simp_all) (OpenTo.refl _)), pop_idx (j := k - 1) (a := h.getD (k - 1) hope0) ty26 ty49 rfl rfl (by omega) (getD_some (by omega))⟩) ?_
     refine ahg 9 rfl rfl (by kernel_rfl) (by kernel_rfl) rfl (fun hc => ⟨_, OpenTo.upd (t := 31) rfl (by first | exact hc | simp_all) (OpenTo.refl _), pop_fieldAddr ty49 rfl ty9 (by decide) rfl⟩) ?_
     refine ahg 10 rfl rfl (by kernel_rfl) (by kernel_rfl) rfl (fun hc => ⟨_, OpenTo.upd (t := 32) rfl (by first | exact hc | simp_all) (OpenTo.refl _), pop_load ty9 rfl rfl rfl⟩) ?_
     refine ahg 11 rfl rfl (by kernel_rfl) (by kernel_rfl) rfl (fun hc => ⟨_, OpenTo.upd (t := 33) rfl (by first | exact hc | simp_all) (OpenTo.upd (t := 27) rfl (by first | exact hc | simp_all) (OpenTo.refl _)), pop_leqs rfl rfl⟩) ?_
     refine ahp 12 rfl rfl (by kernel_rfl) (by kernel_rfl) (pop_picko rfl (.inr ⟨_, rfl, fun h => by simp_all⟩) (.inl rfl)) ?_
     refine ahp 13 rfl rfl (by kernel_rfl) (by kernel_rfl) (pop_assign rfl) ?_
     refine ahz (by kernel_rfl) ?_
     refine hw_cond rfl (fun h7 => ?_) (fun h8 => ?_)
     ·try simp at h7
      refine hw_reg ?_
      refine dp rfl (pop_assign rfl) ?_
      refine dn ?_
      refine hw_ret ?_
      refine ret_p rfl ?_
      show HVal.int .i64 _ = _
      first
      | (rw [hopesE, if_pos (by omega)]; done)
      | (show HVal.int .i64 5 = _; rw [hg, hopesGo_stop (hopeF_5 (by simp_all; done)) (by decide)]; done)
      | (show HVal.int .i64 8 = _; rw [hg, hopesGo_stop (hopeF_8 (by simp_all; done) (by simp_all [leS]; done) (by simp_all; done)) (by decide)]; done)
      | (show HVal.int .i64 2 = _; rw [hg, hopesGo_stop (hopeF_2 (by simp_all; done) (by simp_all [leS]; done) (by simp_all; done) (by omega)) (by decide)]; done)
      | (show HVal.int .i64 1 = _; rw [hg, hopesGo_stop (c := 1) (by rw [hgo, hi1, outsGo_1 (by simp_all [outB]; done)]) (by decide)]; done)
      | (show HVal.int .i64 7 = _; have q := hi1; rw [hg, hopesGo_stop (c := 7) (by rw [hgo, hi1, outsGo_7 (by simp_all [outB]; done) (by simp_all; done)]) (by decide)]; done)
      | (show HVal.int .i64 7 = _; rw [hg, hopesGo_stop (hopeF_7 (by simp_all; done) (by simp_all [leS]; done)) (by decide)]; done)
      | (rw [hg]; rfl)
     ·try simp at h8
      refine hw_reg ?_
      refine dp rfl (pop_fieldAddr ty49 rfl ty37 (by decide) rfl) ?_
      refine dp rfl (pop_load ty37 rfl rfl rfl) ?_
      refine dp rfl (pop_lenm ty37 rfl) ?_
      refine dp rfl (pop_eql rfl rfl) ?_
      refine dp rfl (pop_assign rfl) ?_
      refine dn ?_
      refine hw_cond rfl (fun h9 => ?_) (fun h10 => ?_)
      ·try simp at h9
       refine hw_reg ?_
       refine dp rfl (pop_assign rfl) ?_
       refine dn ?_
       refine hw_ret ?_
       refine ret_p rfl ?_
       show HVal.int .i64 _ = _
       first
       | (rw [hopesE, if_pos (by omega)]; done)
       | (show HVal.int .i64 5 = _; rw [hg, hopesGo_stop (hopeF_5 (by simp_all; done)) (by decide)]; done)
       | (show HVal.int .i64 8 = _; rw [hg, hopesGo_stop (hopeF_8 (by simp_all; done) (by simp_all [leS]; done) (by simp_all; done)) (by decide)]; done)
       | (show HVal.int .i64 2 = _; rw [hg, hopesGo_stop (hopeF_2 (by simp_all; done) (by simp_all [leS]; done) (by simp_all; done) (by omega)) (by decide)]; done)
       | (show HVal.int .i64 1 = _; rw [hg, hopesGo_stop (c := 1) (by rw [hgo, hi1, outsGo_1 (by simp_all [outB]; done)]) (by decide)]; done)
       | (show HVal.int .i64 7 = _; have q := hi1; rw [hg, hopesGo_stop (c := 7) (by rw [hgo, hi1, outsGo_7 (by simp_all [outB]; done) (by simp_all; done)]) (by decide)]; done)
       | (show HVal.int .i64 7 = _; rw [hg, hopesGo_stop (hopeF_7 (by simp_all; done) (by simp_all [leS]; done)) (by decide)]; done)
       | (rw [hg]; rfl)
      ·try simp at h10
       refine hw_reg ?_
       refine dp rfl (pop_fieldAddr ty49 rfl ty37 (by decide) rfl) ?_
       refine dp rfl (pop_load ty37 rfl rfl rfl) ?_
       refine dp rfl (pop_lenm ty37 rfl) ?_
       refine dp rfl (pop_gtr rfl rfl) ?_
       refine dp rfl (pop_assign rfl) ?_
       refine dn ?_
       refine hw_cond rfl (fun h11 => ?_) (fun h12 => ?_)
       ·try simp at h11
        refine hw_reg ?_
        refine dp rfl (pop_assign rfl) ?_
        refine dn ?_
        refine hw_ret ?_
        refine ret_p rfl ?_
        show HVal.int .i64 _ = _
        first
        | (rw [hopesE, if_pos (by omega)]; done)
        | (show HVal.int .i64 5 = _; rw [hg, hopesGo_stop (hopeF_5 (by simp_all; done)) (by decide)]; done)
        | (show HVal.int .i64 8 = _; rw [hg, hopesGo_stop (hopeF_8 (by simp_all; done) (by simp_all [leS]; done) (by simp_all; done)) (by decide)]; done)
        | (show HVal.int .i64 2 = _; rw [hg, hopesGo_stop (hopeF_2 (by simp_all; done) (by simp_all [leS]; done) (by simp_all; done) (by omega)) (by decide)]; done)
        | (show HVal.int .i64 1 = _; rw [hg, hopesGo_stop (c := 1) (by rw [hgo, hi1, outsGo_1 (by simp_all [outB]; done)]) (by decide)]; done)
        | (show HVal.int .i64 7 = _; have q := hi1; rw [hg, hopesGo_stop (c := 7) (by rw [hgo, hi1, outsGo_7 (by simp_all [outB]; done) (by simp_all; done)]) (by decide)]; done)
        | (show HVal.int .i64 7 = _; rw [hg, hopesGo_stop (hopeF_7 (by simp_all; done) (by simp_all [leS]; done)) (by decide)]; done)
        | (rw [hg]; rfl)
       ·try simp at h12
        refine hw_skip ?_
        refine blockQ_n ?_
        refine seqQ_n ?_
        have hgo : hopeF h k x = outsGo x.Outs 0 x.Outs := hopeF_go (by simp_all) (by simp_all [leS]) (by simp_all) (by omega)
        refine hw_reg ?_
        refine dp rfl (pop_fieldAddr ty49 rfl ty37 (by decide) rfl) ?_
        refine dp rfl (pop_load ty37 rfl rfl rfl) ?_
        refine dp rfl (pop_lenm ty37 rfl) ?_
        refine dp rfl (pop_move rfl) ?_
        refine dn ?_
        refine hw_block ?_
        refine hw_loopw [2, 5, 6, 49, 50, 51, 52, 53, 54, 55, 56, 57, 58, 59, 60, 61, 62, 63, 64, 65, 66, 67, 68, 69, 70, 71, 72, 73, 74, 75, 76, 77, 78, 79, 80] (fun (i : Nat) => [(49, .int .i64 i)]) (fun (i : Nat) => []) (fun (i : Nat) => i ≤ x.Outs.length ∧ (outsGo x.Outs 0 x.Outs = outsGo x.Outs i (x.Outs.drop i))) (fun (i : Nat) => x.Outs.length - i) (0) ?_ ?_ ?_ ?_
        ·exact ⟨Nat.zero_le _, rfl⟩
        ·exact ⟨rfl, trivial⟩
        ·exact List.Perm.refl _
        ·intro i hinv
         obtain ⟨hi, hi1⟩ := hinv
         refine hw_reg ?_
         refine dp rfl (pop_lss rfl rfl) ?_
         refine dn ?_
         refine hw_seq ?_
         refine hw_cond rfl (fun h13 => ?_) (fun h14 => ?_)
         ·try simp at h13
          obtain ⟨y, hy⟩ : ∃ y, x.Outs[i]? = some y := ⟨_, List.getElem?_eq_getElem h13⟩
          have hdy := drop_cons hy
          rw [hdy] at hi1
          refine hw_skip ?_
          refine seqQ_n ?_
          refine hw_seq ?_
          refine hw_block ?_
          refine hw_reg ?_
          refine dp rfl (pop_move rfl) ?_
          refine dp rfl (pop_idx ty37 ty44 rfl rfl rfl (by first | assumption | simp_all)) ?_
          refine dp rfl (pop_loadw ty44 rfl rfl rfl rfl) ?_
          refine de rfl (eop_alloc ty44 rfl fun b6 => ?_)
          refine dp rfl (pop_assign rfl) ?_
          refine de0 (eop_storew ty44 rfl rfl rfl rfl rfl ?_)
          refine dn ?_
          refine hw_ghost (Ghost.fc0 6 rfl) ?_
          refine hw_block ?_
          refine hw_reg ?_
          refine dp rfl (pop_fieldAddr ty44 rfl ty3 (by decide) rfl) ?_
          refine dp rfl (pop_load ty3 rfl rfl rfl) ?_
          refine dp rfl (pop_call ca36 rfl (WeakL.refl _) c_benchref1_in) ?_
          refine dp rfl (pop_not rfl) ?_
          refine dp rfl (pop_move rfl) ?_
          refine dg rfl rfl (fun hc => ⟨_, OpenTo.refl _, pop_fieldAddr ty44 rfl ty3 (by decide) rfl⟩) ?_
          refine dg rfl rfl (fun hc => ⟨_, OpenTo.upd (t := 60) rfl (by first | exact hc | simp_all) (OpenTo.refl _), pop_load ty3 rfl rfl rfl⟩) ?_
          refine dg rfl rfl (fun hc => ⟨_, OpenTo.upd (t := 61) rfl (by first | exact hc | simp_all) (OpenTo.refl _), pop_call ca36 rfl (WeakL.refl _) c_benchref1_in⟩) ?_
          refine dg rfl rfl (fun hc => ⟨_, OpenTo.upd (t := 62) rfl (by first | exact hc | simp_all) (OpenTo.refl _), pop_not rfl⟩) ?_
          refine dp rfl (pop_picko rfl (.inl rfl) (.inr ⟨_, rfl, fun h => by simp_all⟩)) ?_
          refine dp rfl (pop_assign rfl) ?_
          refine dn ?_
          refine hw_cond rfl (fun h15 => ?_) (fun h16 => ?_)
          ·try simp at h15
           refine hw_reg ?_
           refine dp rfl (pop_assign rfl) ?_
           refine dn ?_
           refine hw_ret ?_
           refine ret_p rfl ?_
           show HVal.int .i64 _ = _
           first
           | (rw [hopesE, if_pos (by omega)]; done)
           | (show HVal.int .i64 5 = _; rw [hg, hopesGo_stop (hopeF_5 (by simp_all; done)) (by decide)]; done)
           | (show HVal.int .i64 8 = _; rw [hg, hopesGo_stop (hopeF_8 (by simp_all; done) (by simp_all [leS]; done) (by simp_all; done)) (by decide)]; done)
           | (show HVal.int .i64 2 = _; rw [hg, hopesGo_stop (hopeF_2 (by simp_all; done) (by simp_all [leS]; done) (by simp_all; done) (by omega)) (by decide)]; done)
           | (show HVal.int .i64 1 = _; rw [hg, hopesGo_stop (c := 1) (by rw [hgo, hi1, outsGo_1 (by simp_all [outB]; done)]) (by decide)]; done)
           | (show HVal.int .i64 7 = _; have q := hi1; rw [hg, hopesGo_stop (c := 7) (by rw [hgo, hi1, outsGo_7 (by simp_all [outB]; done) (by simp_all; done)]) (by decide)]; done)
           | (show HVal.int .i64 7 = _; rw [hg, hopesGo_stop (hopeF_7 (by simp_all; done) (by simp_all [leS]; done)) (by decide)]; done)
           | (rw [hg]; rfl)
          ·try simp at h16
           refine hw_draw (fun _ => True) [] mixed ?_
           refine ahp 0 rfl rfl (by kernel_rfl) (by kernel_rfl) (pop_move rfl) ?_
           refine ahp 1 rfl rfl (by kernel_rfl) (by kernel_rfl) (pop_gtr rfl rfl) ?_
           refine ahp 2 rfl rfl (by kernel_rfl) (by kernel_rfl) (pop_move rfl) ?_
           refine ahg 3 rfl rfl (by kernel_rfl) (by kernel_rfl) rfl (fun hc => ⟨_, OpenTo.refl _, pop_fieldAddr ty44 rfl ty3 (by decide) rfl⟩) ?_
           refine ahg 4 rfl rfl (by kernel_rfl) (by kernel_rfl) rfl (fun hc => ⟨_, OpenTo.upd (t := 69) rfl (by first | exact hc | simp_all) (OpenTo.refl _), pop_load ty3 rfl rfl rfl⟩) ?_
           refine ahg 5 rfl rfl (by kernel_rfl) (by kernel_rfl) rfl (fun hc => ⟨_, OpenTo.refl _, pop_fieldAddr ty49 rfl ty37 (by decide) rfl⟩) ?_
           refine ahg 6 rfl rfl (by kernel_rfl) (by kernel_rfl) rfl (fun hc => ⟨_, OpenTo.upd (t := 71) rfl (by first | exact hc | simp_all) (OpenTo.refl _), pop_load ty37 rfl rfl rfl⟩) ?_
           refine ahg 7 rfl rfl (by kernel_rfl) (by kernel_rfl) rfl (fun hc => ⟨_, OpenTo.refl _, pop_move rfl⟩) ?_
           refine ahg 8 rfl rfl (by kernel_rfl) (by kernel_rfl) rfl (fun hc => by have hq := hc; (try simp at hq); exact ⟨_, OpenTo.upd (t := 73) rfl (by first | exact hc | simp_all) (OpenTo.refl _), pop_sub64 rfl rfl (by omega) (by omega)⟩) ?_
           refine ahg 9 rfl rfl (by kernel_rfl) (by kernel_rfl) rfl (fun hc => by have hq := hc; (try simp at hq); exact ⟨_, OpenTo.upd (t := 74) rfl (by first | exact hc | simp_all) (OpenTo.upd (t := 72) rfl (by first | exact hc | simp_all) (OpenTo.refl _)), pop_idx (j := i - 1) (a := x.Outs.getD (i - 1) out0) ty37 ty44 rfl rfl (by omega) (getD_some (by omega))⟩) ?_
           refine ahg 10 rfl rfl (by kernel_rfl) (by kernel_rfl) rfl (fun hc => ⟨_, OpenTo.upd (t := 75) rfl (by first | exact hc | simp_all) (OpenTo.refl _), pop_fieldAddr ty44 rfl ty3 (by decide) rfl⟩) ?_
           refine ahg 11 rfl rfl (by kernel_rfl) (by kernel_rfl) rfl (fun hc => ⟨_, OpenTo.upd (t := 76) rfl (by first | exact hc | simp_all) (OpenTo.refl _), pop_load ty3 rfl rfl rfl⟩) ?_
           refine ahg 12 rfl rfl (by kernel_rfl) (by kernel_rfl) rfl (fun hc => ⟨_, OpenTo.upd (t := 77) rfl (by first | exact hc | simp_all) (OpenTo.upd (t := 70) rfl (by first | exact hc | simp_all) (OpenTo.refl _)), pop_leq rfl rfl⟩) ?_
           refine ahp 13 rfl rfl (by kernel_rfl) (by kernel_rfl) (pop_picko rfl (.inr ⟨_, rfl, fun h => by simp_all⟩) (.inl rfl)) ?_
           refine ahp 14 rfl rfl (by kernel_rfl) (by kernel_rfl) (pop_assign rfl) ?_
           refine ahz (by kernel_rfl) ?_
           refine hw_cond rfl (fun h17 => ?_) (fun h18 => ?_)
           ·try simp at h17
            refine hw_reg ?_
            refine dp rfl (pop_assign rfl) ?_
            refine dn ?_
            refine hw_ret ?_
            refine ret_p rfl ?_
            show HVal.int .i64 _ = _
            first
            | (rw [hopesE, if_pos (by omega)]; done)
            | (show HVal.int .i64 5 = _; rw [hg, hopesGo_stop (hopeF_5 (by simp_all; done)) (by decide)]; done)
            | (show HVal.int .i64 8 = _; rw [hg, hopesGo_stop (hopeF_8 (by simp_all; done) (by simp_all [leS]; done) (by simp_all; done)) (by decide)]; done)
            | (show HVal.int .i64 2 = _; rw [hg, hopesGo_stop (hopeF_2 (by simp_all; done) (by simp_all [leS]; done) (by simp_all; done) (by omega)) (by decide)]; done)
            | (show HVal.int .i64 1 = _; rw [hg, hopesGo_stop (c := 1) (by rw [hgo, hi1, outsGo_1 (by simp_all [outB]; done)]) (by decide)]; done)
            | (show HVal.int .i64 7 = _; have q := hi1; rw [hg, hopesGo_stop (c := 7) (by rw [hgo, hi1, outsGo_7 (by simp_all [outB]; done) (by simp_all; done)]) (by decide)]; done)
            | (show HVal.int .i64 7 = _; rw [hg, hopesGo_stop (hopeF_7 (by simp_all; done) (by simp_all [leS]; done)) (by decide)]; done)
            | (rw [hg]; rfl)
           ·try simp at h18
            refine hw_skip ?_
            refine blockQ_n ?_
            refine blockQ_n ?_
            refine seqQ_n ?_
            refine hw_reg1 ?_
            refine dp rfl (pop_add64 rfl rfl (by omega) (by omega)) ?_
            refine dp rfl (pop_move rfl) ?_
            refine dn ?_
            refine ⟨i + 1, ?_, ?_, ⟨rfl, trivial⟩, (by repeat (first | exact keeps_refl | refine keeps_upd rfl ?_ | refine keeps_loop rfl rfl ?_)), List.Perm.refl _⟩
            ·refine ⟨by omega, ?_⟩
             rw [hi1, outsGo_go (by simp_all [outB]) (by simp_all)]
            ·dsimp only; omega
         ·try simp at h14
          have hni : x.Outs.length ≤ i := by omega
          obtain rfl : i = x.Outs.length := by omega
          rw [drop_all (Nat.le_refl _)] at hi1
          refine hw_exit ?_
          refine seqQ_x ?_
          refine loopQ_x ?_
          refine blockQ_eq ?_
          refine blockQ_n ?_
          refine seqQ_n ?_
          refine hw_reg1 ?_
          refine dp rfl (pop_add64 rfl rfl (by omega) (by omega)) ?_
          refine dp rfl (pop_move rfl) ?_
          refine dn ?_
          refine ⟨k + 1, ?_, ?_, ⟨rfl, trivial⟩, (by repeat (first | exact keeps_refl | refine keeps_upd rfl ?_ | refine keeps_loop rfl rfl ?_)), List.Perm.refl _⟩
          ·refine ⟨by omega, ?_⟩
           rw [hg, hopesGo_go (by rw [hgo, hi1]; rfl)]
          ·dsimp only; omega
   ·try simp at h4
    have hnk : h.length ≤ k := by omega
    obtain rfl : k = h.length := by omega
    rw [drop_all (Nat.le_refl _)] at hg
    refine hw_exit ?_
    refine seqQ_x ?_
    refine loopQ_x ?_
    refine blockQ_eq ?_
    refine seqQ_n ?_
    refine hw_reg ?_
    refine dp rfl (pop_assign rfl) ?_
    refine dn ?_
    refine hw_ret ?_
    refine ret_p rfl ?_
    show HVal.int .i64 _ = _
    first
    | (rw [hopesE, if_pos (by omega)]; done)
    | (show HVal.int .i64 5 = _; rw [hg, hopesGo_stop (hopeF_5 (by simp_all; done)) (by decide)]; done)
    | (show HVal.int .i64 8 = _; rw [hg, hopesGo_stop (hopeF_8 (by simp_all; done) (by simp_all [leS]; done) (by simp_all; done)) (by decide)]; done)
    | (show HVal.int .i64 2 = _; rw [hg, hopesGo_stop (hopeF_2 (by simp_all; done) (by simp_all [leS]; done) (by simp_all; done) (by omega)) (by decide)]; done)
    | (show HVal.int .i64 1 = _; rw [hg, hopesGo_stop (c := 1) (by rw [hgo, hi1, outsGo_1 (by simp_all [outB]; done)]) (by decide)]; done)
    | (show HVal.int .i64 7 = _; have q := hi1; rw [hg, hopesGo_stop (c := 7) (by rw [hgo, hi1, outsGo_7 (by simp_all [outB]; done) (by simp_all; done)]) (by decide)]; done)
    | (show HVal.int .i64 7 = _; rw [hg, hopesGo_stop (hopeF_7 (by simp_all; done) (by simp_all [leS]; done)) (by decide)]; done)
    | (rw [hg]; rfl)

/-- benchwarmer/base.Gcd -/
theorem c_base_Gcd [Tracks] {x y : Int} (hx : 0 ≤ x) (hy : 0 ≤ y) : ConP Tryz.prog 70 [.int .i64 x, .int .i64 y] (.int .i64 (gcdI x y)) := by
 refine Con.of_body Tryz.func70 rfl Tryz.ntmps70 rfl rfl ?_
 refine hw_reg ?_
 refine dp rfl (pop_assign rfl) ?_
 refine dn ?_
 refine hw_seq ?_
 refine hw_block ?_
 refine hw_loopw2 [0, 1, 5, 6, 7, 8, 9, 10] (fun (a : Int) (b : Int) => [(0, .int .i64 a), (1, .int .i64 b)]) (fun (a : Int) (b : Int) => []) (fun (a : Int) (b : Int) => 0 ≤ a ∧ 0 ≤ b ∧ gcdI a b = gcdI x y) (fun (a : Int) (b : Int) => b.toNat) (x) (y) ?_ ?_ ?_ ?_
 ·exact ⟨hx, hy, rfl⟩
 ·exact ⟨rfl, rfl, trivial⟩
 ·exact List.Perm.refl _
 ·intro a b hinv
  obtain ⟨ha, hb, hg⟩ := hinv
  refine hw_seq ?_
  refine hw_reg ?_
  refine dp rfl (pop_move rfl) ?_
  refine dp rfl (pop_neq rfl rfl) ?_
  refine dn ?_
  refine hw_cond rfl (fun h1 => ?_) (fun h2 => ?_)
  ·try simp at h1
   have hbn : b ≠ 0 := by simpa using h1
   have hb0 : 0 < b := by omega
   have hm0 := Int.tmod_nonneg b ha
   have hm1 := Int.tmod_lt_of_pos a hb0
   refine hw_skip ?_
   refine seqQ_n ?_
   refine hw_block ?_
   refine hw_draw1 (fun _ => True) [] mixed ?_
   refine ahp 0 rfl rfl (by kernel_rfl) (by kernel_rfl) (pop_move rfl) ?_
   refine ahp 1 rfl rfl (by kernel_rfl) (by kernel_rfl) (pop_move rfl) ?_
   refine ahp 2 rfl rfl (by kernel_rfl) (by kernel_rfl) (pop_move rfl) ?_
   refine ahp 3 rfl rfl (by kernel_rfl) (by kernel_rfl) (pop_rem rfl rfl (by omega)) ?_
   refine ahp 4 rfl rfl (by kernel_rfl) (by kernel_rfl) (pop_assign rfl) ?_
   refine ahp 5 rfl rfl (by kernel_rfl) (by kernel_rfl) (pop_assign rfl) ?_
   refine ahz (by kernel_rfl) ?_
   refine blockQ_n ?_
   refine ⟨b, a.tmod b, ?_, ?_, ⟨rfl, rfl, trivial⟩, (by repeat (first | exact keeps_refl | refine keeps_upd rfl ?_ | refine keeps_loop rfl rfl ?_)), List.Perm.refl _⟩
   ·exact ⟨hb, hm0, by rw [gcd_step ha hb0]; exact hg⟩
   ·dsimp only; omega
  ·try simp at h2
   have hb0 : b = 0 := by simpa using h2
   subst hb0
   rw [gcd_done ha] at hg
   refine hw_exit ?_
   refine seqQ_x ?_
   refine loopQ2_x ?_
   refine blockQ_eq ?_
   refine seqQ_n ?_
   refine hw_reg ?_
   refine dp rfl (pop_move rfl) ?_
   refine dp rfl (pop_assign rfl) ?_
   refine dn ?_
   refine hw_ret ?_
   refine ret_p rfl ?_
   show HVal.int .i64 _ = _
   rw [← hg]

/-- benchwarmer/benchref1.divisor -/
theorem c_benchref1_divisor [Tracks] {x y : Int} (hx : 0 ≤ x) (hy : 0 ≤ y) : ConP Tryz.prog 66 [.int .i64 x, .int .i64 y] (.int .i64 (gcdI x y)) := by
 refine Con.of_body Tryz.func66 rfl Tryz.ntmps66 rfl rfl ?_
 refine hw_reg ?_
 refine dp rfl (pop_assign rfl) ?_
 refine dn ?_
 refine hw_seq ?_
 refine hw_block ?_
 refine hw_loopw2 [0, 1, 5, 6, 7, 8, 9, 10] (fun (a : Int) (b : Int) => [(0, .int .i64 a), (1, .int .i64 b)]) (fun (a : Int) (b : Int) => []) (fun (a : Int) (b : Int) => 0 ≤ a ∧ 0 ≤ b ∧ gcdI a b = gcdI x y) (fun (a : Int) (b : Int) => b.toNat) (x) (y) ?_ ?_ ?_ ?_
 ·exact ⟨hx, hy, rfl⟩
 ·exact ⟨rfl, rfl, trivial⟩
 ·exact List.Perm.refl _
 ·intro a b hinv
  obtain ⟨ha, hb, hg⟩ := hinv
  refine hw_seq ?_
  refine hw_reg ?_
  refine dp rfl (pop_move rfl) ?_
  refine dp rfl (pop_neq rfl rfl) ?_
  refine dn ?_
  refine hw_cond rfl (fun h1 => ?_) (fun h2 => ?_)
  ·try simp at h1
   have hbn : b ≠ 0 := by simpa using h1
   have hb0 : 0 < b := by omega
   have hm0 := Int.tmod_nonneg b ha
   have hm1 := Int.tmod_lt_of_pos a hb0
   refine hw_skip ?_
   refine seqQ_n ?_
   refine hw_block ?_
   refine hw_draw1 (fun _ => True) [] mixed ?_
   refine ahp 0 rfl rfl (by kernel_rfl) (by kernel_rfl) (pop_move rfl) ?_
   refine ahp 1 rfl rfl (by kernel_rfl) (by kernel_rfl) (pop_move rfl) ?_
   refine ahp 2 rfl rfl (by kernel_rfl) (by kernel_rfl) (pop_move rfl) ?_
   refine ahp 3 rfl rfl (by kernel_rfl) (by kernel_rfl) (pop_rem rfl rfl (by omega)) ?_
   refine ahp 4 rfl rfl (by kernel_rfl) (by kernel_rfl) (pop_assign rfl) ?_
   refine ahp 5 rfl rfl (by kernel_rfl) (by kernel_rfl) (pop_assign rfl) ?_
   refine ahz (by kernel_rfl) ?_
   refine blockQ_n ?_
   refine ⟨b, a.tmod b, ?_, ?_, ⟨rfl, rfl, trivial⟩, (by repeat (first | exact keeps_refl | refine keeps_upd rfl ?_ | refine keeps_loop rfl rfl ?_)), List.Perm.refl _⟩
   ·exact ⟨hb, hm0, by rw [gcd_step ha hb0]; exact hg⟩
   ·dsimp only; omega
  ·try simp at h2
   have hb0 : b = 0 := by simpa using h2
   subst hb0
   rw [gcd_done ha] at hg
   refine hw_exit ?_
   refine seqQ_x ?_
   refine loopQ2_x ?_
   refine blockQ_eq ?_
   refine seqQ_n ?_
   refine hw_reg ?_
   refine dp rfl (pop_move rfl) ?_
   refine dp rfl (pop_assign rfl) ?_
   refine dn ?_
   refine hw_ret ?_
   refine ret_p rfl ?_
   show HVal.int .i64 _ = _
   rw [← hg]

/-- benchwarmer/base.Fraction -/
theorem c_base_Fraction [Tracks] {n d : Int} (hn : -9000000000000000000 ≤ n ∧ n ≤ 9000000000000000000) (hd : 0 < d ∧ d ≤ 9000000000000000000) : ConP Tryz.prog 40 [.int .i64 n, .int .i64 d] (eFrac (lowF n d)) := by
 refine Con.of_bodyc Tryz.func40 rfl Tryz.ntmps40 rfl rfl ?_
 refine hw_reg ?_
 refine de rfl (eop_alloc ty34 rfl fun b4 => ?_)
 refine dn ?_
 refine hw_reg ?_
 refine dp rfl (pop_move rfl) ?_
 refine dp rfl (pop_move rfl) ?_
 refine dp rfl (pop_neg64 rfl (by omega) (by omega)) ?_
 refine dp rfl (pop_eq (h' := .int .i64 (max n (-n))) (pop_max rfl rfl) (congrArg (HVal.int .i64) max_neg_ite)) ?_
 refine dp rfl (pop_move rfl) ?_
 refine dp rfl (pop_call ca70 rfl (WeakL.refl _) (c_base_Gcd (x := max n (-n)) (y := d) (by omega) (by omega))) ?_
 refine dp rfl (pop_assign rfl) ?_
 refine dn ?_
 have hgp := gcd_pos (a := max n (-n)) hd.1
 refine hw_draw (fun _ => True) [] mixed ?_
 refine ahp 0 rfl rfl (by kernel_rfl) (by kernel_rfl) (pop_move rfl) ?_
 refine ahp 1 rfl rfl (by kernel_rfl) (by kernel_rfl) (pop_move rfl) ?_
 refine ahp 2 rfl rfl (by kernel_rfl) (by kernel_rfl) (pop_quo64 rfl rfl (by omega) (by omega) (by omega)) ?_
 refine ahp 3 rfl rfl (by kernel_rfl) (by kernel_rfl) (pop_move rfl) ?_
 refine ahp 4 rfl rfl (by kernel_rfl) (by kernel_rfl) (pop_move rfl) ?_
 refine ahp 5 rfl rfl (by kernel_rfl) (by kernel_rfl) (pop_quo64 rfl rfl (by omega) (by omega) (by omega)) ?_
 refine ahp 6 rfl rfl (by kernel_rfl) (by kernel_rfl) (pop_build (cs := [_, _]) ty34 pl34 rfl) ?_
 refine ahe 7 rfl (by kernel_rfl) ?_
 refine hop_e0 (eop_storew ty34 rfl rfl rfl rfl rfl ?_)
 refine ⟨fun _ => .inl trivial, ?_⟩
 refine ahz (by kernel_rfl) ?_
 refine hw_ret ?_
 refine ⟨_, _, Ghost.fc0 4 rfl, [_], _, ⟨⟨_, _, _, _, _, rfl, ty34, .inr ⟨rfl, rfl, rfl⟩⟩, trivial⟩, Weak.refl _, ?_, rfl⟩
 rfl

/-- benchwarmer/benchref1.Lowest -/
theorem c_benchref1_Lowest [Tracks] {n d : Int} (hn : -9000000000000000000 ≤ n ∧ n ≤ 9000000000000000000) (hd : 0 < d ∧ d ≤ 9000000000000000000) : ConP Tryz.prog 32 [.int .i64 n, .int .i64 d] (eFrac (lowF n d)) := by
 refine Con.of_bodyc Tryz.func32 rfl Tryz.ntmps32 rfl rfl ?_
 refine hw_reg ?_
 refine de rfl (eop_alloc ty34 rfl fun b4 => ?_)
 refine dn ?_
 refine hw_reg ?_
 refine dp rfl (pop_move rfl) ?_
 refine dp rfl (pop_move rfl) ?_
 refine dp rfl (pop_neg64 rfl (by omega) (by omega)) ?_
 refine dp rfl (pop_eq (h' := .int .i64 (max n (-n))) (pop_max rfl rfl) (congrArg (HVal.int .i64) max_neg_ite)) ?_
 refine dp rfl (pop_move rfl) ?_
 refine dp rfl (pop_call ca66 rfl (WeakL.refl _) (c_benchref1_divisor (x := max n (-n)) (y := d) (by omega) (by omega))) ?_
 refine dp rfl (pop_assign rfl) ?_
 refine dn ?_
 have hgp := gcd_pos (a := max n (-n)) hd.1
 refine hw_draw (fun _ => True) [] mixed ?_
 refine ahp 0 rfl rfl (by kernel_rfl) (by kernel_rfl) (pop_move rfl) ?_
 refine ahp 1 rfl rfl (by kernel_rfl) (by kernel_rfl) (pop_move rfl) ?_
 refine ahp 2 rfl rfl (by kernel_rfl) (by kernel_rfl) (pop_quo64 rfl rfl (by omega) (by omega) (by omega)) ?_
 refine ahp 3 rfl rfl (by kernel_rfl) (by kernel_rfl) (pop_move rfl) ?_
 refine ahp 4 rfl rfl (by kernel_rfl) (by kernel_rfl) (pop_move rfl) ?_
 refine ahp 5 rfl rfl (by kernel_rfl) (by kernel_rfl) (pop_quo64 rfl rfl (by omega) (by omega) (by omega)) ?_
 refine ahp 6 rfl rfl (by kernel_rfl) (by kernel_rfl) (pop_build (cs := [_, _]) ty34 pl34 rfl) ?_
 refine ahe 7 rfl (by kernel_rfl) ?_
 refine hop_e0 (eop_storew ty34 rfl rfl rfl rfl rfl ?_)
 refine ⟨fun _ => .inl trivial, ?_⟩
 refine ahz (by kernel_rfl) ?_
 refine hw_ret ?_
 refine ⟨_, _, Ghost.fc0 4 rfl, [_], _, ⟨⟨_, _, _, _, _, rfl, ty34, .inr ⟨rfl, rfl, rfl⟩⟩, trivial⟩, Weak.refl _, ?_, rfl⟩
 rfl

/-- benchwarmer/value.product -/
theorem c_value_product [Tracks] {h : List HopeS} (hl : h.length ≤ 1000000) (ok : ∀ x ∈ h, HopeOk x) : ConP Tryz.prog 41 [eHopes h] (.int .i64 (prodP h 1)) := by
 refine Con.of_body Tryz.func41 rfl Tryz.ntmps41 rfl rfl ?_
 refine hw_reg ?_
 refine dp rfl (pop_assign rfl) ?_
 refine dn ?_
 refine hw_reg ?_
 refine dp rfl (pop_assign rfl) ?_
 refine dn ?_
 refine hw_seq ?_
 refine hw_reg ?_
 refine dp rfl (pop_move rfl) ?_
 refine dp rfl (pop_lenm ty26 rfl) ?_
 refine dp rfl (pop_move rfl) ?_
 refine dn ?_
 refine hw_block ?_
 refine hw_loopw2 [2, 3, 5, 6, 8, 11, 12, 13, 14, 15, 16, 17, 18, 19, 20, 21, 22, 23, 24, 25, 26, 27, 28, 29, 30, 31, 32] (fun (k : Nat) (n : Int) => [(11, .int .i64 k), (3, .int .i64 n)]) (fun (k : Nat) (n : Int) => []) (fun (k : Nat) (n : Int) => k ≤ h.length ∧ (1 ≤ n ∧ n ≤ most ∧ prodP h 1 = prodP (h.drop k) n)) (fun (k : Nat) (n : Int) => h.length - k) (0) (1) ?_ ?_ ?_ ?_
 ·exact ⟨Nat.zero_le _, by decide, by decide, rfl⟩
 ·exact ⟨rfl, rfl, trivial⟩
 ·exact List.Perm.refl _
 ·intro k n hinv
  obtain ⟨hk, hn0, hn1', hg⟩ := hinv
  refine hw_reg ?_
  refine dp rfl (pop_lss rfl rfl) ?_
  refine dn ?_
  refine hw_seq ?_
  refine hw_cond rfl (fun h1 => ?_) (fun h2 => ?_)
  ·try simp at h1
   obtain ⟨x, hx⟩ : ∃ x, h[k]? = some x := ⟨_, List.getElem?_eq_getElem h1⟩
   have hdx := drop_cons hx
   rw [hdx] at hg
   have hxo := ok x (List.mem_of_getElem? hx)
   have hxl := hxo.len
   have hxs := hxo.sum
   have hn1 : n ≤ most + 1 := by omega
   refine hw_skip ?_
   refine seqQ_n ?_
   refine hw_seq ?_
   refine hw_block ?_
   refine hw_reg ?_
   refine dp rfl (pop_idx ty26 ty49 rfl rfl rfl (by first | assumption | simp_all)) ?_
   refine dp rfl (pop_loadw ty49 rfl rfl rfl rfl) ?_
   refine de rfl (eop_alloc ty49 rfl fun b5 => ?_)
   refine de0 (eop_storew ty49 rfl rfl rfl rfl rfl ?_)
   refine dn ?_
   refine hw_ghost (Ghost.fc0 5 rfl) ?_
   refine hw_reg ?_
   refine dp rfl (pop_assign rfl) ?_
   refine dn ?_
   refine hw_seq ?_
   refine hw_reg ?_
   refine dp rfl (pop_fieldAddr ty49 rfl ty37 (by decide) rfl) ?_
   refine dp rfl (pop_load ty37 rfl rfl rfl) ?_
   refine dp rfl (pop_lenm ty37 rfl) ?_
   refine dp rfl (pop_move rfl) ?_
   refine dn ?_
   refine hw_block ?_
   refine hw_loopw [6, 8, 18, 19, 20, 21, 22, 23, 24, 25, 26] (fun (i : Nat) => [(18, .int .i64 i), (6, .int .i64 (sumW (x.Outs.take i)))]) (fun (i : Nat) => []) (fun (i : Nat) => i ≤ x.Outs.length ∧ (True)) (fun (i : Nat) => x.Outs.length - i) (0) ?_ ?_ ?_ ?_
   ·exact ⟨Nat.zero_le _, trivial⟩
   ·exact ⟨rfl, rfl, trivial⟩
   ·exact List.Perm.refl _
   ·intro i hinv
    obtain ⟨hi, -⟩ := hinv
    refine hw_reg ?_
    refine dp rfl (pop_lss rfl rfl) ?_
    refine dn ?_
    refine hw_seq ?_
    refine hw_cond rfl (fun h3 => ?_) (fun h4 => ?_)
    ·try simp at h3
     obtain ⟨y, hy⟩ : ∃ y, x.Outs[i]? = some y := ⟨_, List.getElem?_eq_getElem h3⟩
     have hdy := drop_cons hy
     have hsb := sumW_take hxo.bdw i
     have hsn : sumW (x.Outs.take (i + 1)) = sumW (x.Outs.take i) + y.Weight := by rw [take_snoc' hy, sumW_append]; simp [sumW]
     have hyb := (hxo.bd y (List.mem_of_getElem? hy)).2
     refine hw_skip ?_
     refine seqQ_n ?_
     refine hw_seq ?_
     refine hw_block ?_
     refine hw_reg ?_
     refine dp rfl (pop_idx ty37 ty44 rfl rfl rfl (by first | assumption | simp_all)) ?_
     refine dp rfl (pop_loadw ty44 rfl rfl rfl rfl) ?_
     refine de rfl (eop_alloc ty44 rfl fun b8 => ?_)
     refine de0 (eop_storew ty44 rfl rfl rfl rfl rfl ?_)
     refine dn ?_
     refine hw_ghost (Ghost.fc0 8 rfl) ?_
     refine hw_reg1 ?_
     refine dp rfl (pop_move rfl) ?_
     refine dp rfl (pop_fieldAddr ty44 rfl ty3 (by decide) rfl) ?_
     refine dp rfl (pop_load ty3 rfl rfl rfl) ?_
     refine dp rfl (pop_add64 rfl rfl (by omega) (by omega)) ?_
     refine dp rfl (pop_assign rfl) ?_
     refine dn ?_
     refine blockQ_n ?_
     refine seqQ_n ?_
     refine hw_reg1 ?_
     refine dp rfl (pop_add64 rfl rfl (by omega) (by omega)) ?_
     refine dp rfl (pop_move rfl) ?_
     refine dn ?_
     exact ⟨i + 1, ⟨by omega, trivial⟩, by dsimp only; omega, ⟨rfl, by rw [hsn]; rfl, trivial⟩, (by repeat (first | exact keeps_refl | refine keeps_upd rfl ?_ | refine keeps_loop rfl rfl ?_)), perm_eq rfl⟩
    ·try simp at h4
     have hni : x.Outs.length ≤ i := by omega
     obtain rfl : i = x.Outs.length := by omega
     rw [List.take_length]
     have hmr := mul_room hn0 hn1 hxs.1 hxs.2
     refine hw_exit ?_
     refine seqQ_x ?_
     refine loopQ_x ?_
     refine blockQ_eq ?_
     refine seqQ_n ?_
     refine hw_reg ?_
     refine dp rfl (pop_move rfl) ?_
     refine dp rfl (pop_move rfl) ?_
     refine dp rfl (pop_mul64 rfl rfl (by omega) (by omega)) ?_
     refine dp rfl (pop_assign rfl) ?_
     refine dn ?_
     refine hw_reg ?_
     refine dp rfl (pop_move rfl) ?_
     refine dp rfl (pop_gtr rfl rfl) ?_
     refine dn ?_
     refine hw_cond rfl (fun h5 => ?_) (fun h6 => ?_)
     ·try simp at h5
      refine hw_reg ?_
      refine dp rfl (pop_assign rfl) ?_
      refine dn ?_
      refine hw_ret ?_
      refine ret_p rfl ?_
      show HVal.int .i64 _ = _
      first
      | (rw [hg, prodP, if_pos (by simpa using h5)]; rfl)
      | (rw [hg]; rfl)
     ·try simp at h6
      refine hw_skip ?_
      refine blockQ_n ?_
      refine seqQ_n ?_
      refine hw_reg1 ?_
      refine dp rfl (pop_add64 rfl rfl (by omega) (by omega)) ?_
      refine dp rfl (pop_move rfl) ?_
      refine dn ?_
      refine ⟨k + 1, n * sumW x.Outs, ?_, ?_, ⟨rfl, rfl, trivial⟩, (by repeat (first | exact keeps_refl | refine keeps_upd rfl ?_ | refine keeps_loop rfl rfl ?_)), List.Perm.refl _⟩
      ·refine ⟨by omega, by omega, by simpa using h6, ?_⟩
       rw [hg, prodP, if_neg (by simpa using h6)]
      ·dsimp only; omega
  ·try simp at h2
   have hnk : h.length ≤ k := by omega
   obtain rfl : k = h.length := by omega
   rw [drop_all (Nat.le_refl _)] at hg
   refine hw_exit ?_
   refine seqQ_x ?_
   refine loopQ2_x ?_
   refine blockQ_eq ?_
   refine seqQ_n ?_
   refine hw_reg ?_
   refine dp rfl (pop_move rfl) ?_
   refine dp rfl (pop_assign rfl) ?_
   refine dn ?_
   refine hw_ret ?_
   refine ret_p rfl ?_
   show HVal.int .i64 _ = _
   first
   | (rw [hg, prodP, if_pos (by simpa using h5)]; rfl)
   | (rw [hg]; rfl)

/-- benchwarmer/benchref1.ways -/
theorem c_benchref1_ways [Tracks] {h : List HopeS} (hl : h.length ≤ 1000000) (ok : ∀ x ∈ h, HopeOk x) : ConP Tryz.prog 44 [eHopes h] (.int .i64 (prodP h 1)) := by
 refine Con.of_body Tryz.func44 rfl Tryz.ntmps44 rfl rfl ?_
 refine hw_reg ?_
 refine dp rfl (pop_assign rfl) ?_
 refine dn ?_
 refine hw_reg ?_
 refine dp rfl (pop_assign rfl) ?_
 refine dn ?_
 refine hw_seq ?_
 refine hw_reg ?_
 refine dp rfl (pop_move rfl) ?_
 refine dp rfl (pop_lenm ty26 rfl) ?_
 refine dp rfl (pop_move rfl) ?_
 refine dn ?_
 refine hw_block ?_
 refine hw_loopw2 [3, 5, 6, 8, 11, 12, 13, 14, 15, 16, 17, 18, 19, 20, 21, 22, 23, 24, 25, 26, 27, 28, 29, 30, 31] (fun (k : Nat) (n : Int) => [(11, .int .i64 k), (3, .int .i64 n)]) (fun (k : Nat) (n : Int) => []) (fun (k : Nat) (n : Int) => k ≤ h.length ∧ (1 ≤ n ∧ n ≤ most + 1 ∧ prodR h 1 = prodR (h.drop k) n)) (fun (k : Nat) (n : Int) => h.length - k) (0) (1) ?_ ?_ ?_ ?_
 ·exact ⟨Nat.zero_le _, by decide, by decide, rfl⟩
 ·exact ⟨rfl, rfl, trivial⟩
 ·exact List.Perm.refl _
 ·intro k n hinv
  obtain ⟨hk, hn0, hn1, hg⟩ := hinv
  refine hw_reg ?_
  refine dp rfl (pop_lss rfl rfl) ?_
  refine dn ?_
  refine hw_seq ?_
  refine hw_cond rfl (fun h1 => ?_) (fun h2 => ?_)
  ·try simp at h1
   obtain ⟨x, hx⟩ : ∃ x, h[k]? = some x := ⟨_, List.getElem?_eq_getElem h1⟩
   have hdx := drop_cons hx
   rw [hdx] at hg
   have hxo := ok x (List.mem_of_getElem? hx)
   have hxl := hxo.len
   have hxs := hxo.sum
   refine hw_skip ?_
   refine seqQ_n ?_
   refine hw_seq ?_
   refine hw_block ?_
   refine hw_reg ?_
   refine dp rfl (pop_idx ty26 ty49 rfl rfl rfl (by first | assumption | simp_all)) ?_
   refine dp rfl (pop_loadw ty49 rfl rfl rfl rfl) ?_
   refine de rfl (eop_alloc ty49 rfl fun b5 => ?_)
   refine de0 (eop_storew ty49 rfl rfl rfl rfl rfl ?_)
   refine dn ?_
   refine hw_ghost (Ghost.fc0 5 rfl) ?_
   refine hw_reg ?_
   refine dp rfl (pop_assign rfl) ?_
   refine dn ?_
   refine hw_seq ?_
   refine hw_reg ?_
   refine dp rfl (pop_fieldAddr ty49 rfl ty37 (by decide) rfl) ?_
   refine dp rfl (pop_load ty37 rfl rfl rfl) ?_
   refine dp rfl (pop_lenm ty37 rfl) ?_
   refine dp rfl (pop_move rfl) ?_
   refine dn ?_
   refine hw_block ?_
   refine hw_loopw [6, 8, 18, 19, 20, 21, 22, 23, 24, 25, 26] (fun (i : Nat) => [(18, .int .i64 i), (6, .int .i64 (sumW (x.Outs.take i)))]) (fun (i : Nat) => []) (fun (i : Nat) => i ≤ x.Outs.length ∧ (True)) (fun (i : Nat) => x.Outs.length - i) (0) ?_ ?_ ?_ ?_
   ·exact ⟨Nat.zero_le _, trivial⟩
   ·exact ⟨rfl, rfl, trivial⟩
   ·exact List.Perm.refl _
   ·intro i hinv
    obtain ⟨hi, -⟩ := hinv
    refine hw_reg ?_
    refine dp rfl (pop_lss rfl rfl) ?_
    refine dn ?_
    refine hw_seq ?_
    refine hw_cond rfl (fun h3 => ?_) (fun h4 => ?_)
    ·try simp at h3
     obtain ⟨y, hy⟩ : ∃ y, x.Outs[i]? = some y := ⟨_, List.getElem?_eq_getElem h3⟩
     have hdy := drop_cons hy
     have hsb := sumW_take hxo.bdw i
     have hsn : sumW (x.Outs.take (i + 1)) = sumW (x.Outs.take i) + y.Weight := by rw [take_snoc' hy, sumW_append]; simp [sumW]
     have hyb := (hxo.bd y (List.mem_of_getElem? hy)).2
     refine hw_skip ?_
     refine seqQ_n ?_
     refine hw_seq ?_
     refine hw_block ?_
     refine hw_reg ?_
     refine dp rfl (pop_idx ty37 ty44 rfl rfl rfl (by first | assumption | simp_all)) ?_
     refine dp rfl (pop_loadw ty44 rfl rfl rfl rfl) ?_
     refine de rfl (eop_alloc ty44 rfl fun b8 => ?_)
     refine de0 (eop_storew ty44 rfl rfl rfl rfl rfl ?_)
     refine dn ?_
     refine hw_ghost (Ghost.fc0 8 rfl) ?_
     refine hw_reg1 ?_
     refine dp rfl (pop_move rfl) ?_
     refine dp rfl (pop_fieldAddr ty44 rfl ty3 (by decide) rfl) ?_
     refine dp rfl (pop_load ty3 rfl rfl rfl) ?_
     refine dp rfl (pop_add64 rfl rfl (by omega) (by omega)) ?_
     refine dp rfl (pop_assign rfl) ?_
     refine dn ?_
     refine blockQ_n ?_
     refine seqQ_n ?_
     refine hw_reg1 ?_
     refine dp rfl (pop_add64 rfl rfl (by omega) (by omega)) ?_
     refine dp rfl (pop_move rfl) ?_
     refine dn ?_
     exact ⟨i + 1, ⟨by omega, trivial⟩, by dsimp only; omega, ⟨rfl, by rw [hsn]; rfl, trivial⟩, (by repeat (first | exact keeps_refl | refine keeps_upd rfl ?_ | refine keeps_loop rfl rfl ?_)), perm_eq rfl⟩
    ·try simp at h4
     have hni : x.Outs.length ≤ i := by omega
     obtain rfl : i = x.Outs.length := by omega
     rw [List.take_length]
     have hmr := mul_room hn0 hn1 hxs.1 hxs.2
     refine hw_exit ?_
     refine seqQ_x ?_
     refine loopQ_x ?_
     refine blockQ_eq ?_
     refine seqQ_n ?_
     refine hw_reg1 ?_
     refine dp rfl (pop_move rfl) ?_
     refine dp rfl (pop_move rfl) ?_
     refine dp rfl (pop_mul64 rfl rfl (by omega) (by omega)) ?_
     refine dp rfl (pop_eq (h' := .int .i64 (min (n * sumW x.Outs) (most + 1))) (pop_min rfl rfl) (congrArg (HVal.int .i64) min_ite)) ?_
     refine dp rfl (pop_assign rfl) ?_
     refine dn ?_
     refine blockQ_n ?_
     refine seqQ_n ?_
     refine hw_reg1 ?_
     refine dp rfl (pop_add64 rfl rfl (by omega) (by omega)) ?_
     refine dp rfl (pop_move rfl) ?_
     refine dn ?_
     refine ⟨k + 1, min (n * sumW x.Outs) (most + 1), ?_, ?_, ⟨rfl, rfl, trivial⟩, (by repeat (first | exact keeps_refl | refine keeps_upd rfl ?_ | refine keeps_loop rfl rfl ?_)), List.Perm.refl _⟩
     ·have hm1 : (1 : Int) ≤ most + 1 := by decide
      exact ⟨by omega, by omega, by omega, by rw [hg]; rfl⟩
     ·dsimp only; omega
  ·try simp at h2
   have hnk : h.length ≤ k := by omega
   obtain rfl : k = h.length := by omega
   rw [drop_all (Nat.le_refl _)] at hg
   refine hw_exit ?_
   refine seqQ_x ?_
   refine loopQ2_x ?_
   refine blockQ_eq ?_
   refine seqQ_n ?_
   refine hw_reg ?_
   refine dp rfl (pop_move rfl) ?_
   refine dp rfl (pop_assign rfl) ?_
   refine dn ?_
   refine hw_ret ?_
   refine ret_p rfl ?_
   show HVal.int .i64 _ = _
   rw [prod_eq h 1 ok, hg]; rfl

/-- math/bits.Mul64 -/
theorem c_math_bits_Mul64 [Tracks] {m n : Int} (hm0 : 0 ≤ m) (hm1 : m < 1099511627776) (hn0 : 0 ≤ n) (hn1 : n < 1099511627776) : ConP Tryz.prog 53 [.int .u64 m, .int .u64 n] (.tup [.int .u64 (hiW (m * n)), .int .u64 (loW (m * n))]) := by
 have ma := m_bd hm0 hm1
 have na := m_bd hn0 hn1
 have h00 := mul_bds ma.1 na.1
 have h10 := mul_bds ma.2.1 na.1
 have h01 := mul_bds ma.1 na.2.1
 have h11 := mul_bds ma.2.1 na.2.1
 have hhi := mul64_hi hm0 hm1 hn0 hn1
 refine Con.of_body Tryz.func53 rfl Tryz.ntmps53 rfl rfl ?_
 refine hw_reg ?_
 refine dp rfl (pop_assign rfl) ?_
 refine dp rfl (pop_assign rfl) ?_
 refine dn ?_
 refine hw_reg ?_
 refine dp rfl (pop_move rfl) ?_
 refine dp rfl (pop_and32 rfl rfl (by omega) (by omega)) ?_
 refine dp rfl (pop_assign rfl) ?_
 refine dn ?_
 refine hw_reg ?_
 refine dp rfl (pop_move rfl) ?_
 refine dp rfl (pop_shr32 rfl rfl) ?_
 refine dp rfl (pop_assign rfl) ?_
 refine dn ?_
 refine hw_reg ?_
 refine dp rfl (pop_move rfl) ?_
 refine dp rfl (pop_and32 rfl rfl (by omega) (by omega)) ?_
 refine dp rfl (pop_assign rfl) ?_
 refine dn ?_
 refine hw_reg ?_
 refine dp rfl (pop_move rfl) ?_
 refine dp rfl (pop_shr32 rfl rfl) ?_
 refine dp rfl (pop_assign rfl) ?_
 refine dn ?_
 refine hw_reg ?_
 refine dp rfl (pop_move rfl) ?_
 refine dp rfl (pop_move rfl) ?_
 refine dp rfl (pop_mulu (m := half0 m) (n := half0 n) rfl rfl (by omega) (by omega)) ?_
 refine dp rfl (pop_assign rfl) ?_
 refine dn ?_
 refine hw_reg ?_
 refine dp rfl (pop_move rfl) ?_
 refine dp rfl (pop_move rfl) ?_
 refine dp rfl (pop_mulu (m := half1 m) (n := half0 n) rfl rfl (by omega) (by omega)) ?_
 refine dp rfl (pop_move rfl) ?_
 refine dp rfl (pop_shr32 (m := half0 m * half0 n) rfl rfl) ?_
 refine dp rfl (pop_addu (m := half1 m * half0 n) (n := half0 m * half0 n / 4294967296) rfl rfl (by omega) (by omega)) ?_
 refine dp rfl (pop_assign rfl) ?_
 refine dn ?_
 refine hw_reg ?_
 refine dp rfl (pop_move rfl) ?_
 refine dp rfl (pop_and32 (m := half1 m * half0 n + half0 m * half0 n / 4294967296) rfl rfl (by omega) (by omega)) ?_
 refine dp rfl (pop_assign rfl) ?_
 refine dn ?_
 refine hw_reg ?_
 refine dp rfl (pop_move rfl) ?_
 refine dp rfl (pop_shr32 (m := half1 m * half0 n + half0 m * half0 n / 4294967296) rfl rfl) ?_
 refine dp rfl (pop_assign rfl) ?_
 refine dn ?_
 refine hw_reg ?_
 refine dp rfl (pop_move rfl) ?_
 refine dp rfl (pop_move rfl) ?_
 refine dp rfl (pop_move rfl) ?_
 refine dp rfl (pop_mulu (m := half0 m) (n := half1 n) rfl rfl (by omega) (by omega)) ?_
 refine dp rfl (pop_addu (m := (half1 m * half0 n + half0 m * half0 n / 4294967296) % 4294967296) (n := half0 m * half1 n) rfl rfl (by omega) (by omega)) ?_
 refine dp rfl (pop_assign rfl) ?_
 refine dn ?_
 refine hw_reg ?_
 refine dp rfl (pop_move rfl) ?_
 refine dp rfl (pop_move rfl) ?_
 refine dp rfl (pop_mulu (m := half1 m) (n := half1 n) rfl rfl (by omega) (by omega)) ?_
 refine dp rfl (pop_move rfl) ?_
 refine dp rfl (pop_addu (m := half1 m * half1 n) (n := (half1 m * half0 n + half0 m * half0 n / 4294967296) / 4294967296) rfl rfl (by omega) (by omega)) ?_
 refine dp rfl (pop_move rfl) ?_
 refine dp rfl (pop_shr32 (m := (half1 m * half0 n + half0 m * half0 n / 4294967296) % 4294967296 + half0 m * half1 n) rfl rfl) ?_
 refine dp rfl (pop_addu (m := half1 m * half1 n + (half1 m * half0 n + half0 m * half0 n / 4294967296) / 4294967296) (n := ((half1 m * half0 n + half0 m * half0 n / 4294967296) % 4294967296 + half0 m * half1 n) / 4294967296) rfl rfl (by omega) (by omega)) ?_
 refine dp rfl (pop_assign rfl) ?_
 refine dn ?_
 refine hw_reg ?_
 refine dp rfl (pop_move rfl) ?_
 refine dp rfl (pop_move rfl) ?_
 refine dp rfl (pop_mullo (m := m) (n := n) rfl rfl) ?_
 refine dp rfl (pop_assign rfl) ?_
 refine dn ?_
 refine hw_ret ?_
 refine ret_p rfl ?_
 show HVal.tup [HVal.int .u64 _, HVal.int .u64 _] = _
 rw [hhi]
end Go.Proofs.YtbihpphgoaflfaaGreatDoor
end
section
namespace Go.HL
theorem sumV_app (a b : List Asset) : sumV (a ++ b) = sumV a + sumV b := by simp [sumV]
theorem sumV_bd : ∀ {L : List Asset}, (∀ x ∈ L, -1000000 ≤ x.Value ∧ x.Value ≤ 1000000) → -1000000 * (L.length : Int) ≤ sumV L ∧ sumV L ≤ 1000000 * (L.length : Int)
 | [], _ => by simp [sumV]
 | x :: L, h => by
   have ih := sumV_bd (L := L) fun y hy => h y (List.mem_cons_of_mem _ hy)
   have hx := h x (by simp)
   have e : sumV (x :: L) = x.Value + sumV L := by simp [sumV]
   rw [e, List.length_cons]; omega
theorem mem_chosen {l : List Asset} {pos : Str} {m : Int} {y : Asset} (h : y ∈ chosen (ofP l pos) m) : y ∈ l := by
 unfold chosen at h
 have h1 := List.mem_of_mem_take (List.mem_filter.1 h).1
 unfold ofP atPos at h1
 exact (List.mem_filter.1 ((isort_mem byValue).1 h1)).1
theorem chosen_len (o : List Asset) (m : Int) : (chosen o m).length ≤ o.length := by
 unfold chosen
 refine Nat.le_trans (List.length_filter_le _ _) ?_
 simp; omega
theorem fieldedL_snoc (f : Str → List Asset) {p : List Place} {i : Nat} {x : Place} (h : p[i]? = some x) : fieldedL f (p.take (i + 1)) = fieldedL f (p.take i) ++ chosen (f x.Position) x.Many := by
 rw [take_snoc' h]; simp [fieldedL]
theorem fieldedL_len {f : Str → List Asset} {n : Nat} (hf : ∀ s, (f s).length ≤ n) : ∀ p : List Place, (fieldedL f p).length ≤ n * p.length
 | [] => by simp [fieldedL]
 | x :: p => by
   have ih := fieldedL_len hf p
   have h1 := chosen_len (f x.Position) x.Many
   have h2 := hf x.Position
   have e : fieldedL f (x :: p) = chosen (f x.Position) x.Many ++ fieldedL f p := by simp [fieldedL]
   rw [e, List.length_append, List.length_cons, Nat.mul_succ]; omega
theorem mem_fieldedL {f : Str → List Asset} {l : List Asset} (hf : ∀ s m y, y ∈ chosen (f s) m → y ∈ l) {p : List Place} {y : Asset} (h : y ∈ fieldedL f p) : y ∈ l := by
 unfold fieldedL at h
 obtain ⟨x, _, hx⟩ := List.mem_flatMap.1 h
 exact hf _ _ y hx
/-- What a prefix of the places brings stays small. -/
theorem field_bd {f : Str → List Asset} {l : List Asset} {p : List Place} {i : Nat} (hf : ∀ s m y, y ∈ chosen (f s) m → y ∈ l) (hn : ∀ s, (f s).length ≤ 12) (hp : p.length ≤ 10) (hv : ∀ x ∈ l, -1000000 ≤ x.Value ∧ x.Value ≤ 1000000) :
 (fieldedL f (p.take i)).length ≤ 120 ∧ -120000000 ≤ sumV (fieldedL f (p.take i)) ∧ sumV (fieldedL f (p.take i)) ≤ 120000000 := by
 have h1 := fieldedL_len hn (p.take i)
 have h2 : (p.take i).length ≤ 10 := by simp; omega
 have h3 := sumV_bd (L := fieldedL f (p.take i)) fun y hy => hv y (mem_fieldedL hf hy)
 have h4 : (fieldedL f (p.take i)).length ≤ 120 := by omega
 omega
theorem pos_bd {C l : List Asset} {k : Nat} (hC : ∀ y ∈ C, y ∈ l) (hn : C.length ≤ 12) (hv : ∀ x ∈ l, -1000000 ≤ x.Value ∧ x.Value ≤ 1000000) :
 ((C.take k).filter (fun y => decide (0 < y.Value))).length ≤ 12 ∧ -12000000 ≤ sumV ((C.take k).filter (fun y => decide (0 < y.Value))) ∧ sumV ((C.take k).filter (fun y => decide (0 < y.Value))) ≤ 12000000 := by
 have h1 := List.length_filter_le (fun y : Asset => decide (0 < y.Value)) (C.take k)
 have h2 : (C.take k).length ≤ 12 := by simp; omega
 have h3 := sumV_bd (L := (C.take k).filter (fun y => decide (0 < y.Value))) fun y hy => hv y (hC y (List.mem_of_mem_take (List.mem_filter.1 hy).1))
 omega
theorem pos_snoc {C : List Asset} {k : Nat} {y : Asset} (h : C[k]? = some y) : (C.take (k + 1)).filter (fun y => decide (0 < y.Value)) = (C.take k).filter (fun y => decide (0 < y.Value)) ++ if 0 < y.Value then [y] else [] := by
 rw [take_snoc' h, List.filter_append]
 by_cases hy : 0 < y.Value <;> simp [hy]
theorem chosen_eq {o : List Asset} {m : Int} {N : Nat} (hN : (if (o.length : Int) < m then (o.length : Int) else m) = (N : Int)) : chosen o m = ((o.take N).drop 0).filter (fun y => decide (0 < y.Value)) := by
 unfold chosen
 have : (min m (o.length : Int)).toNat = N := by split at hN <;> omega
 rw [this, List.drop_zero]
def okAP (l : List Asset) (p : List Place) : Int := orI [checkAssets l, checkPlaces p]
theorem okAP_ok {l : List Asset} {p : List Place} (h : okAP l p = 0) : checkAssets l = 0 ∧ checkPlaces p = 0 := orI_zero h
def sumF (l : List Asset) (p : List Place) : Int := sumV (fieldedL (ofP l) p)
end Go.HL
namespace Go.HL
end Go.HL
namespace Go.HL
end Go.HL
end
section
namespace Go.HL
/-- The state of a loop that draws: the list that grows, how many were drawn. -/
structure GL (α : Type) where
 u : Value
 out : List α
 a : Nat
structure GLok {α : Type} (P : α → Prop) (n m : Nat) (q : GL α) : Prop where
 len : q.out.length ≤ n
 all : ∀ x ∈ q.out, P x
 a : q.a ≤ m
section
variable {α : Type} {P : α → Prop}
theorem GLok.add {n m m' : Nat} {u u' : Value} {out : List α} {a1 a2 : Nat} {x : α} (h : GLok P n m ⟨u, out, a1⟩) (hx : P x) (ha : a2 ≤ m') : GLok P (n + 1) m' ⟨u', out ++ [x], a2⟩ :=
 ⟨by have := h.len; simp at *; omega, fun y hy => by
  rcases List.mem_append.1 hy with hy | hy
  ·exact h.all y hy
  ·simp at hy; subst hy; exact hx, ha⟩
theorem GLok.same {n m m' : Nat} {u : Value} {out : List α} {a1 a2 : Nat} (h : GLok P n m ⟨u, out, a1⟩) (ha : a2 ≤ m') : GLok P (n + 1) m' ⟨u, out, a2⟩ :=
 ⟨by have := h.len; dsimp only at *; omega, h.all, ha⟩
theorem all_set {l : List α} {j : Nat} {y : α} (h : ∀ x ∈ l, P x) (hy : P y) : ∀ x ∈ l.set j y, P x := fun x hx => by
 rcases mem_set_of hx with rfl | hx
 ·exact hy
 ·exact h x hx
end
theorem nil_sh : Sh [] := by simp [Sh]
def asset1 : Asset := ⟨[97], [103, 107], 5⟩
def place1 : Place := ⟨[103, 107], 1⟩
theorem one_ok : okAP [asset1] [place1] = 0 := by kernel_rfl
theorem one_list : fieldedL (ofP [asset1]) [place1] = [asset1] := by kernel_rfl
theorem one_sum : sumF [asset1] [place1] = 5 := by unfold sumF; rw [one_list]; rfl
theorem one_names : namesV (fieldedL (ofP [asset1]) [place1]) = [[97]] := by rw [one_list]; simp [namesV, sortS, asset1]
end Go.HL
end
section
namespace Go.HL
structure PairS where
 Name : Str
 Val : Str
end Go.HL
end
section
namespace Go.HL
end Go.HL
end
section
namespace Go.HL
open Op (bytesLess)
end Go.HL
end
section
namespace Go.HL
end Go.HL
end
section
namespace Go.HL
end Go.HL
end
section
namespace Go.HL
end Go.HL
end
section
namespace Go.HL
end Go.HL
end
section
namespace Go.HL
end Go.HL
end
section
namespace Go.HL
def eqSt {α : Type} (e : α → HVal) (a b : α) : Bool := eqHL (hcells (e a)) (hcells (e b))
def eqSts {α : Type} (e : α → HVal) : List α → List α → Bool
 | [], [] => true
 | a :: l, b :: m => eqSt e a b && eqSts e l m
 | _, _ => false
theorem eqSts_len {α : Type} {e : α → HVal} : ∀ {l m : List α}, l.length ≠ m.length → eqSts e l m = false
 | [], [], h => absurd rfl h
 | [], _ :: _, _ => rfl
 | _ :: _, [], _ => rfl
 | a :: l, b :: m, h => by
   rw [eqSts, eqSts_len (by intro q; apply h; simp [q])]; simp
end Go.HL
end
section
namespace Go.HL
end Go.HL
end
section
namespace Go.HL
structure Hall where
 Teams : List Str
 Players : List Str
 Budget : Int
 Places : Int
structure Sale where
 Player : Str
 Team : Str
 Price : Int
def spent : List Sale → Str → Int
 | [], _ => 0
 | x :: r, t => (if x.Team = t then x.Price else 0) + spent r t
def many : List Sale → Str → Int
 | [], _ => 0
 | x :: r, t => (if x.Team = t then 1 else 0) + many r t
theorem spent_snoc (l : List Sale) (x : Sale) (t : Str) : spent (l ++ [x]) t = spent l t + (if x.Team = t then x.Price else 0) := by
 induction l with
 | nil => simp [spent]
 | cons y r ih => simp only [List.cons_append, spent, ih]; omega
theorem many_snoc (l : List Sale) (x : Sale) (t : Str) : many (l ++ [x]) t = many l t + (if x.Team = t then 1 else 0) := by
 induction l with
 | nil => simp [many]
 | cons y r ih => simp only [List.cons_append, many, ih]; omega
abbrev SMap := List (Str × HVal)
def lkI (L : SMap) (t : Str) : HVal := match sfind t L with | some p => p.2 | none => .int .i64 0
theorem sfind_append_none {s t : Str} {v : HVal} : ∀ {L : SMap}, sfind s L = none → sfind t (L ++ [(s, v)]) = if t = s then some (L.length, v) else sfind t L
 | [], _ => by by_cases h : t = s <;> simp [sfind, h]
 | (k, h) :: r, hn => by
   simp only [sfind] at hn
   by_cases hk : s = k
   ·rw [if_pos hk] at hn; cases hn
   ·rw [if_neg hk] at hn
    have hr : sfind s r = none := by cases hq : sfind s r with
     | none => rfl
     | some p => rw [hq] at hn; cases hn
    have ih := sfind_append_none (t := t) (v := v) hr
    simp only [List.cons_append, sfind]
    by_cases ht : t = k
    ·have : ¬ t = s := fun e => hk (e ▸ ht)
     rw [if_pos ht, if_neg this, if_pos ht]
    ·rw [if_neg ht, ih]
     by_cases hs : t = s
     ·rw [if_pos hs, if_pos hs]; simp
     ·rw [if_neg hs, if_neg hs, if_neg ht]
theorem sfind_set {s t : Str} {v : HVal} : ∀ {L : SMap} {j : Nat} {h : HVal}, sfind s L = some (j, h) → (sfind t (L.set j (s, v))) = if t = s then some (j, v) else sfind t L
 | [], j, h, hh => by simp [sfind] at hh
 | (k, x) :: r, j, h, hh => by
   simp only [sfind] at hh
   by_cases hk : s = k
   ·rw [if_pos hk] at hh
    simp only [Option.some.injEq, Prod.mk.injEq] at hh
    obtain ⟨rfl, rfl⟩ := hh
    subst hk
    simp only [List.set_cons_zero, sfind]
    by_cases ht : t = s
    ·rw [if_pos ht, if_pos ht]
    ·rw [if_neg ht, if_neg ht, if_neg ht]
   ·rw [if_neg hk] at hh
    cases hq : sfind s r with
    | none => rw [hq] at hh; cases hh
    | some p =>
      rw [hq] at hh
      simp only [Option.map_some, Option.some.injEq, Prod.mk.injEq] at hh
      obtain ⟨rfl, rfl⟩ := hh
      have ih := sfind_set (t := t) (v := v) (L := r) (j := p.1) (h := p.2) (by rw [hq])
      simp only [List.set_cons_succ, sfind]
      by_cases ht : t = k
      ·have : ¬ t = s := fun e => hk (e ▸ ht)
       rw [if_pos ht, if_neg this, if_pos ht]
      ·rw [if_neg ht, ih, if_neg ht]
       by_cases hs : t = s
       ·rw [if_pos hs, if_pos hs]; rfl
       ·rw [if_neg hs, if_neg hs]
theorem sfind_put (s t : Str) (v : HVal) (L : SMap) : (sfind t (sput s v L)).map (·.2) = if t = s then some v else (sfind t L).map (·.2) := by
 unfold sput
 cases hq : sfind s L with
 | none => simp only []; rw [sfind_append_none hq]; split <;> rfl
 | some p => obtain ⟨j, h⟩ := p; simp only []; rw [sfind_set hq]; split <;> rfl
theorem lkI_eq (L : SMap) (t : Str) : lkI L t = ((sfind t L).map (·.2)).getD (.int .i64 0) := by
 unfold lkI; cases sfind t L <;> rfl
theorem lkI_put (s t : Str) (v : HVal) (L : SMap) : lkI (sput s v L) t = if t = s then v else lkI L t := by
 rw [lkI_eq, sfind_put, lkI_eq]; split <;> rfl
/-- An auction after sales. -/
structure AucOk (h : Hall) (l : List Sale) (S : List Str) (L H : SMap) : Prop where
 sold : ∀ s, S.contains s = l.any (fun y => y.Player == s)
 left : ∀ t, h.Teams.contains t = true → lkI L t = .int .i64 (h.Budget - spent l t)
 got : ∀ t, lkI H t = .int .i64 (many l t)
theorem sadd_contains (s t : Str) (l : List Str) : (sadd s l).contains t = (l.contains t || s == t) := by
 unfold sadd
 by_cases hc : l.contains s = true
 ·rw [if_pos hc]
  by_cases h : s = t
  ·subst h; rw [hc]; simp
  ·have : (s == t) = false := by simpa using h
   simp [this]
 ·rw [if_neg hc, List.contains_eq_any_beq, List.any_append, ← List.contains_eq_any_beq]
  congr 1
  simp only [List.any_cons, List.any_nil, Bool.or_false]
  rw [Bool.eq_iff_iff, beq_iff_eq, beq_iff_eq]; exact eq_comm
theorem AucOk.add {h : Hall} {l : List Sale} {S : List Str} {L H : SMap} (ok : AucOk h l S L H) (x : Sale) (hx : h.Teams.contains x.Team = true) :
 AucOk h (l ++ [x]) (sadd x.Player S) (sput x.Team (.int .i64 (h.Budget - spent l x.Team - x.Price)) L) (sput x.Team (.int .i64 (many l x.Team + 1)) H) where
 sold s := by rw [sadd_contains, ok.sold, List.any_append]; simp
 left t ht := by
  rw [lkI_put, spent_snoc]
  by_cases e : t = x.Team
  ·subst e; rw [if_pos rfl, if_pos rfl]; congr 1; omega
  ·rw [if_neg e, if_neg (fun q => e q.symm), ok.left t ht]; congr 1; omega
 got t := by
  rw [lkI_put, many_snoc]
  by_cases e : t = x.Team
  ·subst e; rw [if_pos rfl, if_pos rfl]
  ·rw [if_neg e, if_neg (fun q => e q.symm), ok.got t]; congr 1; omega
end Go.HL
end
section
namespace Go.HL
/-! numbers in decimal -/
def dig (c : UInt8) : Bool := decide (48 ≤ c.toNat) && decide (c.toNat ≤ 57)
def cutMinus (s : Str) : Str := match s with | 45 :: r => r | _ => s
def numC (s : Str) (n : Int) : Bool := decide ((cutMinus s = [] ∨ n < ((cutMinus s).length : Int)) ∨ ((((cutMinus s).head?).getD 0).toNat : Int) = 48 ∧ ((1 : Int) < ((cutMinus s).length : Int) ∨ (cutMinus s).length < s.length))
def numB (s : Str) (n : Int) : Bool := !(numC s n) && (cutMinus s).all dig
def numV (s : Str) : Int := (Lib.atoi s).getD 0
def numR (s : Str) (n : Int) : Int := if numB s n then numV s else 0
/-- The map of limits. -/
def LimOk (l : List PairS) (L : SMap) : Prop := ∀ t, (sfind t L).map (·.2) = (l.find? (fun p => p.Name == t)).map (fun p => .int .i64 (numR p.Val 9))
theorem LimOk.add {l : List PairS} {L : SMap} (ok : LimOk l L) (x : PairS) (hx : l.any (fun y => y.Name == x.Name) = false) : LimOk (l ++ [x]) (sput x.Name (.int .i64 (numR x.Val 9)) L) := fun t => by
 rw [sfind_put, List.find?_append, ok t]
 by_cases e : t = x.Name
 ·subst e
  rw [if_pos rfl]
  have : l.find? (fun p => p.Name == x.Name) = none := by
   rw [List.find?_eq_none]; intro y hy
   have := List.any_eq_false.1 hx y hy
   simpa using this
  rw [this]; simp
 ·rw [if_neg e]
  have hn : (x.Name == t) = false := by simpa using fun q => e q.symm
  cases l.find? (fun p => p.Name == t) with
  | none => simp [List.find?, hn]
  | some p => simp
structure Top where
 team : Str
 first : Int
 second : Int
def Top.step (q : Top) (t : Str) (n : Int) : Top := if q.first < n then ⟨t, n, q.first⟩ else ⟨q.team, q.first, max q.second n⟩
end Go.HL
end
section
namespace Go.HL
section
variable {h : Hall} {l : List Sale} {x : Sale} (h6 : x.Player ∈ h.Players ∧ x.Team ∈ h.Teams) (h8 : ∀ y ∈ l, ¬ y.Player = x.Player)
include h6 h8
end
end Go.HL
end
section
namespace Go.HL
end Go.HL
end
section
namespace Go.HL
theorem Ghost.clear [Tracks] {e : Env} : ∀ {M : List MObj}, Ghost e M e []
 | [] => Ghost.perm (List.Perm.refl _)
 | _ :: _ => Ghost.trans Ghost.drop Ghost.clear
theorem Ghost.last [Tracks] {e : Env} {m : MObj} : ∀ {R : List MObj}, Ghost e (R ++ [m]) e [m]
 | [] => Ghost.perm (List.Perm.refl _)
 | x :: R => Ghost.trans (M' := R ++ [m]) Ghost.drop Ghost.last
theorem Ghost.only [Tracks] {e : Env} {M : List MObj} {i : Nat} {m : MObj} (h : M[i]? = some m) : Ghost e M e [m] :=
 Ghost.trans (Ghost.perm ((perm_erase h).trans (List.perm_append_comm (l₁ := [m]) (l₂ := M.eraseIdx i)))) Ghost.last
end Go.HL
end
